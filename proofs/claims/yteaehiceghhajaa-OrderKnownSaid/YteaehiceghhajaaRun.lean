/- Closed runs, by the kernel. -/
import Derived.Test.YteaehiceghhajaaBase
namespace Go.Proofs.Yteaehiceghhajaa
open Go.Am
theorem run11 : yes (asem (find tab) prim 60 11 [] []) = true := by kernel_rfl
end Go.Proofs.Yteaehiceghhajaa
