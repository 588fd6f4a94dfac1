/- What all claims of the seat share. -/
import Derived.Test.YtiifblpdlphchaaGreatRRRows
import Derived.Test.YtiifblpdlphchaaGreatRRFns
import Derived.Test.YtiifblpdlphchaaGreatRRAm4
import Derived.Test.YtiifblpdlphchaaGreatRRIns
set_option linter.unusedSimpArgs false
set_option linter.unusedVariables false
namespace Go.Proofs.YtiifblpdlphchaaGreatRR
open Go.Am Go.ChangeShapes Go.WideShapes Go.ChangeAt Go.RowKit
theorem Tryz.own : ownKnob Tryz.prog.godebug = none := by kernel_rfl
theorem Tryz.laidOut : laidOutB Tryz.prog = true := by kernel_rfl
theorem Tryz.mixed : Tryz.prog.follows .mixedOrders = true := by kernel_rfl
def prim : FuncId → Option PrimO := fun g => bif Nat.beq 146 g then some (primIns (some 5)) else (fun g => bif Nat.beq 138 g then some primCmp else (fun _ => none) g) g
theorem prim_ins : PrimAt Tryz.prog 146 (primIns (some 5)) := by
  have h : shOf Tryz.prog 115 = some 5 := by kernel_rfl
  have k := primIns_ok (P := Tryz.prog) (f := 146) (c := Tryz.f146.body.get (by kernel_rfl)) (t := 41) (e := 115) (by rw [h]; exact ⟨ins_end, ins_shift, fun b n c i vb voff m vc cur t vs w hi hm hnc hr hl hvb hg hcs hvl h1 hvs h1v => ins_grow b n c i vb voff m vc cur t vs w hi hm hnc hr hl hvb hg hcs hvl h1 hvs h1v (by kernel_rfl) (by kernel_rfl) (by kernel_rfl) (by rw [h]; rfl)⟩) Tryz.func146 (by kernel_rfl) (by decide +kernel) (by kernel_rfl) (by kernel_rfl) (by kernel_rfl) (by kernel_rfl)
  rw [h] at k
  exact k
theorem prim_ok : PrimOk Tryz.prog prim := primOk_cons prim_ins (primOk_cons (primCmp_ok Tryz.func138 (by kernel_rfl) (by kernel_rfl) (by kernel_rfl) (by kernel_rfl)) primOk_nil)
theorem sound : SoundO Tryz.prog (sem (find tab) prim) := sem_sound Tryz.mixed (fnsOk_of tab_ok) prim_ok
def yes : Option (ARes × Heap) → Bool
  | some (.ret (.pv none (.bool true)), []) => true
  | _ => false
theorem yes_eq {r : Option (ARes × Heap)} (h : yes r = true) : r = some (.ret (.pv none (.bool true)), []) := by
  unfold yes at h
  split at h
  · rfl
  · cases h
end Go.Proofs.YtiifblpdlphchaaGreatRR
