/- What is proved: the bounds of the statements, and the examples of the chapter, run. -/
import Derived.Test.YtmajapjbogmefaaFlat
import Derived.Test.YtmajapjbogmefaaRun
set_option linter.unusedSimpArgs false
set_option linter.unusedVariables false
namespace Go.Proofs.Ytmajapjbogmefaa
open Go.Am
def Fl.small (f : Fl) : Bool := decide ((f.args.length : Int) ≤ 20) && decide ((f.goals.length : Int) ≤ 100)
theorem small_ok (f : Fl) (hp : Heap) : S 10 [f.av] hp = some (.ret (.pv none (.bool (Fl.small f))), hp) := by
  refine sem_pure rfl rfl rfl (freezeAll_pvs [(some 5, f.pv)]) rfl ?_
  have hS : Fl.small f = (decide ((f.args.length : Int) ≤ 20) && decide ((f.goals.length : Int) ≤ 100)) := rfl
  by_cases h : (f.args.length : Int) ≤ 20
  · simp only [h, decide_true, Bool.true_and] at hS
    rw [hS]
    (repeat' (first | (simp -dsimp -implicitDefEqProofs only [g10, c10r0, c10r1, c10, go_sem, seval, ↓reduceIte, fl_args, fl_goals, Tm.pvs_len, Gl.pvs_len, *]) | (refine iteK_intro (fun _ => ?_) (fun _ => ?_))))
  · simp only [h, decide_false, Bool.false_and] at hS
    rw [hS]
    (repeat' (first | (simp -dsimp -implicitDefEqProofs only [g10, c10r0, c10r1, c10, go_sem, seval, ↓reduceIte, fl_args, fl_goals, Tm.pvs_len, Gl.pvs_len, *]) | (refine iteK_intro (fun _ => ?_) (fun _ => ?_))))
theorem awake_ok (hp : Heap) : S 11 [] hp = some (.ret (.pv none (.bool true)), hp) :=
  sem_any (ps := []) rfl rfl rfl rfl (sem_iff.2 ⟨60, yes_eq run11⟩)
end Go.Proofs.Ytmajapjbogmefaa
