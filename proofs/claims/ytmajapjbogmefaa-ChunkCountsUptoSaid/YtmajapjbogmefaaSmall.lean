/- What is proved: the bounds of the statements, and the examples of the chapter, run. -/
import Derived.Test.YtmajapjbogmefaaFlat
import Derived.Test.YtmajapjbogmefaaRun
set_option linter.unusedSimpArgs false
set_option linter.unusedVariables false
namespace Go.Proofs.Ytmajapjbogmefaa
open Go.Am
def Fl.small (f : Fl) : Bool := decide ((f.args.length : Int) ≤ 20) && decide ((f.goals.length : Int) ≤ 100)
theorem small_ok (f : Fl) (hp : Heap) : S 10 [f.av] hp = some (.ret (.pv none (.bool (Fl.small f))), hp) := by
  refine sem_pure rfl rfl rfl (freezeAll_pvs [(some 5, f.pv)]) rfl ?_
  have hS : Fl.small f = (decide ((f.args.length : Int) ≤ 20) && decide ((f.goals.length : Int) ≤ 100)) := rfl
  by_cases h : (f.args.length : Int) ≤ 20
  · simp only [h, decide_true, Bool.true_and] at hS
    rw [hS]
    (repeat' (first | (simp -dsimp -implicitDefEqProofs only [g10, c10r0, c10r1, c10, go_sem, collect_lit0, collect_lit1, collect_lit2, collect_lit3, if_true, if_false, true_and, and_true, false_and, and_false, and_self, Nat.zero_add, Nat.add_zero, eq_self, Bool.true_eq_false, Bool.false_eq_true, cond_true, cond_false, decide_eq_true_eq, Bool.not_eq_true', Bool.not_eq_false', decide_eq_false_iff_not, not_true_eq_false, not_false_eq_true, Bool.true_and, Bool.false_and, Bool.and_true, Bool.and_false, Bool.not_true, Bool.not_false, Option.some.injEq, decide_true, decide_false, List.getElem?_cons_zero, List.getElem?_cons_succ, List.length_cons, List.length_nil, List.nil_append, List.cons_append, List.set_cons_zero, List.set_cons_succ, List.take_zero, List.drop_zero, Nat.reduceEqDiff, Nat.reduceAdd, Nat.reduceSub, Nat.reduceLT, Nat.reduceLeDiff, Nat.reduceMul, Int.reduceEq, Int.reduceLT, Int.reduceLE, Int.reduceAdd, Int.reduceSub, Int.reduceNeg, Int.reduceToNat, reduceCtorEq, ↓reduceIte, fl_args, fl_goals, Tm.pvs_len, Gl.pvs_len, *]) | (refine iteK_intro (fun _ => ?_) (fun _ => ?_))))
  · simp only [h, decide_false, Bool.false_and] at hS
    rw [hS]
    (repeat' (first | (simp -dsimp -implicitDefEqProofs only [g10, c10r0, c10r1, c10, go_sem, collect_lit0, collect_lit1, collect_lit2, collect_lit3, if_true, if_false, true_and, and_true, false_and, and_false, and_self, Nat.zero_add, Nat.add_zero, eq_self, Bool.true_eq_false, Bool.false_eq_true, cond_true, cond_false, decide_eq_true_eq, Bool.not_eq_true', Bool.not_eq_false', decide_eq_false_iff_not, not_true_eq_false, not_false_eq_true, Bool.true_and, Bool.false_and, Bool.and_true, Bool.and_false, Bool.not_true, Bool.not_false, Option.some.injEq, decide_true, decide_false, List.getElem?_cons_zero, List.getElem?_cons_succ, List.length_cons, List.length_nil, List.nil_append, List.cons_append, List.set_cons_zero, List.set_cons_succ, List.take_zero, List.drop_zero, Nat.reduceEqDiff, Nat.reduceAdd, Nat.reduceSub, Nat.reduceLT, Nat.reduceLeDiff, Nat.reduceMul, Int.reduceEq, Int.reduceLT, Int.reduceLE, Int.reduceAdd, Int.reduceSub, Int.reduceNeg, Int.reduceToNat, reduceCtorEq, ↓reduceIte, fl_args, fl_goals, Tm.pvs_len, Gl.pvs_len, *]) | (refine iteK_intro (fun _ => ?_) (fun _ => ?_))))
theorem awake_ok (hp : Heap) : S 11 [] hp = some (.ret (.pv none (.bool true)), hp) :=
  sem_any (ps := []) rfl rfl rfl rfl (sem_iff.2 ⟨60, yes_eq run11⟩)
end Go.Proofs.Ytmajapjbogmefaa
