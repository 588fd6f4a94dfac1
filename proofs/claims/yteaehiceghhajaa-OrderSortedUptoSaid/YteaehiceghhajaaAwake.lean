/- What is proved: the examples of the chapter, run. -/
import Derived.Test.YteaehiceghhajaaBase
import Derived.Test.YteaehiceghhajaaAm3
set_option linter.unusedSimpArgs false
set_option linter.unusedVariables false
namespace Go.Proofs.Yteaehiceghhajaa
open Go.Am
theorem run_awake : yes (asem (find tab) prim 60 14 [] []) = true := by kernel_rfl
theorem awake_ok (hp : Heap) : sem (find tab) prim 14 [] hp = some (.ret (.pv none (.bool true)), hp) :=
  sem_any (ps := []) rfl rfl rfl rfl (sem_iff.2 ⟨60, yes_eq run_awake⟩)
end Go.Proofs.Yteaehiceghhajaa
