/- What all claims of the seat share. -/
import Derived.Test.YtffecaafklpmhaaRows
import Derived.Test.YtffecaafklpmhaaFns
import Derived.Test.YtffecaafklpmhaaAm4
import Derived.Test.YtffecaafklpmhaaIns
set_option linter.unusedSimpArgs false
set_option linter.unusedVariables false
namespace Go.Proofs.Ytffecaafklpmhaa
open Go.Am Go.ChangeShapes Go.WideShapes Go.ChangeAt Go.RowKit
theorem Try.own : ownKnob Try.prog.godebug = none := by kernel_rfl
theorem Try.laidOut : laidOutB Try.prog = true := by kernel_rfl
theorem Try.mixed : Try.prog.follows .mixedOrders = true := by kernel_rfl
def prim : FuncId → Option PrimO := fun g => bif Nat.beq 100 g then some (primIns (some 5)) else (fun g => bif Nat.beq 89 g then some primCmp else (fun _ => none) g) g
theorem prim_ins : PrimAt Try.prog 100 (primIns (some 5)) := by
 have h : shOf Try.prog 102 = some 5 := by kernel_rfl
 have k := primIns_ok (P := Try.prog) (f := 100) (c := Try.f100.body.get (by kernel_rfl)) (t := 80) (e := 102) (by rw [h]; exact ⟨ins_end, ins_shift, fun b n c i vb voff m vc cur t vs w hi hm hnc hr hl hvb hg hcs hvl h1 hvs h1v => ins_grow b n c i vb voff m vc cur t vs w hi hm hnc hr hl hvb hg hcs hvl h1 hvs h1v (by kernel_rfl) (by kernel_rfl) (by kernel_rfl) (by rw [h]; rfl)⟩) Try.func100 (by kernel_rfl) (by decide +kernel) (by kernel_rfl) (by kernel_rfl) (by kernel_rfl) (by kernel_rfl)
 rw [h] at k
 exact k
theorem prim_ok : PrimOk Try.prog prim := primOk_cons prim_ins (primOk_cons (primCmp_ok Try.func89 (by kernel_rfl) (by kernel_rfl) (by kernel_rfl) (by kernel_rfl)) primOk_nil)
theorem sound : SoundO Try.prog (sem (find tab) prim) := sem_sound Try.mixed (fnsOk_of tab_ok) prim_ok
def yes : Option (ARes × Heap) → Bool
 | some (.ret (.pv none (.bool true)), []) => true
 | _ => false
theorem yes_eq {r : Option (ARes × Heap)} (h : yes r = true) : r = some (.ret (.pv none (.bool true)), []) := by
 unfold yes at h
 split at h
 ·rfl
 ·cases h
end Go.Proofs.Ytffecaafklpmhaa
