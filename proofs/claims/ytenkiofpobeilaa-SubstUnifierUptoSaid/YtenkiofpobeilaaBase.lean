/- What all claims of the seat share. -/
import Derived.Test.YtenkiofpobeilaaRows
import Derived.Test.YtenkiofpobeilaaFns
import Derived.Test.YtenkiofpobeilaaAm4
import Derived.Test.YtenkiofpobeilaaIns
set_option linter.unusedSimpArgs false
set_option linter.unusedVariables false
namespace Go.Proofs.Ytenkiofpobeilaa
open Go.Am Go.ChangeShapes Go.WideShapes Go.ChangeAt Go.RowKit
theorem Try.own : ownKnob Try.prog.godebug = none := by kernel_rfl
theorem Try.laidOut : laidOutB Try.prog = true := by kernel_rfl
theorem Try.mixed : Try.prog.follows .mixedOrders = true := by kernel_rfl
def prim : FuncId → Option PrimO := fun g => bif Nat.beq 63 g then some (primIns (some 5)) else none
theorem prim_ins : PrimAt Try.prog 63 (primIns (some 5)) := by
 have h : shOf Try.prog 39 = some 5 := by kernel_rfl
 have k := primIns_ok (P := Try.prog) (f := 63) (c := Try.f63.body.get (by kernel_rfl)) (t := 22) (e := 39) (by rw [h]; exact ⟨ins_end, ins_shift, fun b n c i vb voff m vc cur t vs w hi hm hnc hr hl hvb hg hcs hvl h1 hvs h1v => ins_grow b n c i vb voff m vc cur t vs w hi hm hnc hr hl hvb hg hcs hvl h1 hvs h1v (by kernel_rfl) (by kernel_rfl) (by kernel_rfl) (by rw [h]; rfl)⟩) Try.func63 (by kernel_rfl) (by decide +kernel) (by kernel_rfl) (by kernel_rfl) (by kernel_rfl) (by kernel_rfl)
 rw [h] at k
 exact k
theorem prim_ok : PrimOk Try.prog prim := primOk_cons prim_ins primOk_nil
theorem sound : SoundO Try.prog (sem (find tab) prim) := sem_sound Try.mixed (fnsOk_of tab_ok) prim_ok
def yes : Option (ARes × Heap) → Bool
 | some (.ret (.pv none (.bool true)), []) => true
 | _ => false
theorem yes_eq {r : Option (ARes × Heap)} (h : yes r = true) : r = some (.ret (.pv none (.bool true)), []) := by
 unfold yes at h
 split at h
 ·rfl
 ·cases h
end Go.Proofs.Ytenkiofpobeilaa
