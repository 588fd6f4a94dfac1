/- What all claims of the seat share. -/
import Derived.Test.YteaehiceghhajaaRows
import Derived.Test.YteaehiceghhajaaFns
import Derived.Test.YteaehiceghhajaaAm2
set_option linter.unusedSimpArgs false
set_option linter.unusedVariables false
namespace Go.Proofs.Yteaehiceghhajaa
open Go.Am Go.ChangeShapes Go.WideShapes Go.ChangeAt Go.RowKit
theorem Try.own : ownKnob Try.prog.godebug = none := by kernel_rfl
theorem Try.laidOut : laidOutB Try.prog = true := by kernel_rfl
theorem Try.mixed : Try.prog.follows .mixedOrders = true := by kernel_rfl
def prim : FuncId → Option Oracle := fun g => bif Nat.beq 71 g then some primCmp else (fun _ => none) g
theorem prim_ok : PrimOk Try.prog prim := primOk_cons (primCmp_ok Try.func71 (by kernel_rfl) (by kernel_rfl) (by kernel_rfl) (by kernel_rfl)) primOk_nil
theorem sound : SoundO Try.prog (sem (find tab) prim) := sem_sound Try.mixed (fnsOk_of tab_ok) prim_ok
def yes : Option (ARes × Heap) → Bool
  | some (.ret (.pv none (.bool true)), []) => true
  | _ => false
theorem yes_eq {r : Option (ARes × Heap)} (h : yes r = true) : r = some (.ret (.pv none (.bool true)), []) := by
  unfold yes at h
  split at h
  · rfl
  · cases h
end Go.Proofs.Yteaehiceghhajaa
