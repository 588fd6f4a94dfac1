/- Closed runs, by the kernel. -/
import Derived.Test.YtmajapjbogmefaaBase
set_option linter.unusedSimpArgs false
set_option linter.unusedVariables false
namespace Go.Proofs.Ytmajapjbogmefaa
open Go.Am
theorem run8 : yes (asem (find tab) prim 60 .fn 8 [] []) = true := by kernel_rfl
theorem run11 : yes (asem (find tab) prim 60 .fn 11 [] []) = true := by kernel_rfl
end Go.Proofs.Ytmajapjbogmefaa
