/- Closed runs, by the kernel. -/
import Derived.Test.YtenkiofpobeilaaBase
set_option linter.unusedSimpArgs false
set_option linter.unusedVariables false
namespace Go.Proofs.Ytenkiofpobeilaa
open Go.Am
theorem run11 : yes (asem (find tab) prim 60 .fn 11 [] []) = true := by kernel_rfl
theorem awake_ok : sem (find tab) prim .fn 11 [] [] = some (.ret (.pv none (.bool true)), []) := sem_iff.2 ⟨60, yes_eq run11⟩
end Go.Proofs.Ytenkiofpobeilaa
