/- What all claims of the seat share. -/
import Derived.Test.YtffecaafklpmhaaGreatRows
import Derived.Test.YtffecaafklpmhaaGreatFns
import Derived.Test.YtffecaafklpmhaaGreatAm4
import Derived.Test.YtffecaafklpmhaaGreatIns
set_option linter.unusedSimpArgs false
set_option linter.unusedVariables false
namespace Go.Proofs.YtffecaafklpmhaaGreat
open Go.Am Go.ChangeShapes Go.WideShapes Go.ChangeAt Go.RowKit
theorem Tryz.own : ownKnob Tryz.prog.godebug = none := by kernel_rfl
theorem Tryz.laidOut : laidOutB Tryz.prog = true := by kernel_rfl
theorem Tryz.mixed : Tryz.prog.follows .mixedOrders = true := by kernel_rfl
def prim : FuncId → Option PrimO := fun g => bif Nat.beq 158 g then some (primIns (some 5)) else (fun g => bif Nat.beq 152 g then some primCmp else (fun _ => none) g) g
theorem prim_ins : PrimAt Tryz.prog 158 (primIns (some 5)) := by
 have h : shOf Tryz.prog 111 = some 5 := by kernel_rfl
 have k := primIns_ok (P := Tryz.prog) (f := 158) (c := Tryz.f158.body.get (by kernel_rfl)) (t := 50) (e := 111) (by rw [h]; exact ⟨ins_end, ins_shift, fun b n c i vb voff m vc cur t vs w hi hm hnc hr hl hvb hg hcs hvl h1 hvs h1v => ins_grow b n c i vb voff m vc cur t vs w hi hm hnc hr hl hvb hg hcs hvl h1 hvs h1v (by kernel_rfl) (by kernel_rfl) (by kernel_rfl) (by rw [h]; rfl)⟩) Tryz.func158 (by kernel_rfl) (by decide +kernel) (by kernel_rfl) (by kernel_rfl) (by kernel_rfl) (by kernel_rfl)
 rw [h] at k
 exact k
theorem prim_ok : PrimOk Tryz.prog prim := primOk_cons prim_ins (primOk_cons (primCmp_ok Tryz.func152 (by kernel_rfl) (by kernel_rfl) (by kernel_rfl) (by kernel_rfl)) primOk_nil)
theorem sound : SoundO Tryz.prog (sem (find tab) prim) := sem_sound Tryz.mixed (fnsOk_of tab_ok) prim_ok
def yes : Option (ARes × Heap) → Bool
 | some (.ret (.pv none (.bool true)), []) => true
 | _ => false
end Go.Proofs.YtffecaafklpmhaaGreat
