/- What all claims of the seat share. -/
import Derived.Test.YtmajapjbogmefaaRows
import Derived.Test.YtmajapjbogmefaaFns
import Derived.Test.YtmajapjbogmefaaAm3
set_option linter.unusedSimpArgs false
set_option linter.unusedVariables false
namespace Go.Proofs.Ytmajapjbogmefaa
open Go.Am Go.ChangeShapes Go.WideShapes Go.ChangeAt Go.RowKit
theorem Try.own : ownKnob Try.prog.godebug = none := by kernel_rfl
theorem Try.laidOut : laidOutB Try.prog = true := by kernel_rfl
theorem Try.mixed : Try.prog.follows .mixedOrders = true := by kernel_rfl
def prim : FuncId → Option PrimO := fun _ => none
theorem prim_ok : PrimOk Try.prog prim := primOk_nil
theorem sound : SoundO Try.prog (sem (find tab) prim) := sem_sound Try.mixed (fnsOk_of tab_ok) prim_ok
def yes : Option (ARes × Heap) → Bool
  | some (.ret (.pv none (.bool true)), []) => true
  | _ => false
theorem yes_eq {r : Option (ARes × Heap)} (h : yes r = true) : r = some (.ret (.pv none (.bool true)), []) := by
  unfold yes at h
  split at h
  · rfl
  · cases h
end Go.Proofs.Ytmajapjbogmefaa
