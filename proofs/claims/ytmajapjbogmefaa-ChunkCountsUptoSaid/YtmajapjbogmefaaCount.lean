/- What is proved: chunk.Count counts a variable's occurrences. -/
import Derived.Test.YtmajapjbogmefaaOcc
import Derived.Test.YtmajapjbogmefaaAm4
set_option linter.unusedSimpArgs false
set_option linter.unusedVariables false
namespace Go.Proofs.Ytmajapjbogmefaa
open Go.Am
def hc17 (x : Fl) (v : Int) (n : Nat) : Heap := [.box (some 5) (.pv (some 5) x.pv), .box none (.pv none (.int .i64 v)), .box none (.pv none (.int .i64 (n : Int))), .box (some 5) (.pv (some 5) x.pv), .loop 17 [12] [(3, .ptr 1 0), (5, .ptr 2 0)] false]
theorem part_place0 (c v : Int) : PV.part deep (placeP c v) 0 none = some (.int .i64 v) := rfl
theorem part_place1 (c v : Int) : PV.part deep (placeP c v) 1 none = some (.int .i64 c) := rfl
theorem occ24_ok (x : Fl) (hp : Heap) : S 24 [.pv (some 5) x.pv] hp = some (.ret (.func (.func 39) [] [.ptr hp.length 0]), hp ++ [.box (some 5) (.pv (some 5) x.pv)]) := by
  refine sem_heap rfl rfl rfl rfl ?_
  simp -dsimp -implicitDefEqProofs only [g24, c24r0, c24r1, c24, go_sem, collect_lit0, collect_lit1, collect_lit2, collect_lit3, if_true, if_false, true_and, and_true, false_and, and_false, and_self, Nat.zero_add, Nat.add_zero, eq_self, Bool.true_eq_false, Bool.false_eq_true, cond_true, cond_false, decide_eq_true_eq, Bool.not_eq_true', Bool.not_eq_false', decide_eq_false_iff_not, not_true_eq_false, not_false_eq_true, Bool.true_and, Bool.false_and, Bool.and_true, Bool.and_false, Bool.not_true, Bool.not_false, Option.some.injEq, decide_true, decide_false, List.getElem?_cons_zero, List.getElem?_cons_succ, List.length_cons, List.length_nil, List.nil_append, List.cons_append, List.set_cons_zero, List.set_cons_succ, List.take_zero, List.drop_zero, Nat.reduceEqDiff, Nat.reduceAdd, Nat.reduceSub, Nat.reduceLT, Nat.reduceLeDiff, Nat.reduceMul, Int.reduceEq, Int.reduceLT, Int.reduceLE, Int.reduceAdd, Int.reduceSub, Int.reduceNeg, Int.reduceToNat, reduceCtorEq, ↓reduceIte]
  simp [AV.refsIn, AV.refsIn.gol, resultOf, resultAt]
theorem cnt_snoc (v : Int) (s : List (Int × Int)) (w c : Int) : cnt v (s ++ [(w, c)]) = cnt v s + (if w = v then 1 else 0) := by
  by_cases e : w = v <;> simp [cnt, List.countP_append, List.countP_cons, e]
theorem cnt_le (v : Int) (s : List (Int × Int)) : cnt v s ≤ s.length := List.countP_le_length
theorem count_rnd (x : Fl) (v : Int) : Rnd (fun s => hc17 x v (cnt v s)) 5 4 17 where
  len s := rfl
  lt := by omega
  fn s := rfl
  call s w c ext hlim := by
    refine sem_round (ps := [12]) (env := [(3, .ptr 1 0), (5, .ptr 2 0)]) rfl rfl rfl rfl ?_
    have hle := cnt_le v s
    have hw : IntKind.i64.wrap ((cnt v s : Int) + 1) = ((cnt v s + 1 : Nat) : Int) := by unfold LIM at hlim; rw [wrap64 (by omega) (by omega)]; omega
    rw [cnt_snoc]
    by_cases e : w = v
    · simp -dsimp -implicitDefEqProofs only [g17, c17r0, c17r1, c17r2, c17k3, c17r4, c17r5, c17r6, c17p7, c17r8, c17r9, c17r10, c17k11, c17k12, c17q13, c17, go_sem, collect_lit0, collect_lit1, collect_lit2, collect_lit3, if_true, if_false, true_and, and_true, false_and, and_false, and_self, Nat.zero_add, Nat.add_zero, eq_self, Bool.true_eq_false, Bool.false_eq_true, cond_true, cond_false, decide_eq_true_eq, Bool.not_eq_true', Bool.not_eq_false', decide_eq_false_iff_not, not_true_eq_false, not_false_eq_true, Bool.true_and, Bool.false_and, Bool.and_true, Bool.and_false, Bool.not_true, Bool.not_false, Option.some.injEq, decide_true, decide_false, List.getElem?_cons_zero, List.getElem?_cons_succ, List.length_cons, List.length_nil, List.nil_append, List.cons_append, List.set_cons_zero, List.set_cons_succ, List.take_zero, List.drop_zero, Nat.reduceEqDiff, Nat.reduceAdd, Nat.reduceSub, Nat.reduceLT, Nat.reduceLeDiff, Nat.reduceMul, Int.reduceEq, Int.reduceLT, Int.reduceLE, Int.reduceAdd, Int.reduceSub, Int.reduceNeg, Int.reduceToNat, reduceCtorEq, ↓reduceIte, List.append_assoc, List.cons_append, List.nil_append, Nat.add_assoc, List.length_append, List.length_cons, List.length_nil, Nat.zero_add, hc17, zipFr, part_place0, e, hw, get_last, append_set_last]
      refine ⟨⟨_, rfl⟩, ?_⟩
      simp [List.take_succ_cons, List.take_left]
    · simp -dsimp -implicitDefEqProofs only [g17, c17r0, c17r1, c17r2, c17k3, c17r4, c17r5, c17r6, c17p7, c17r8, c17r9, c17r10, c17k11, c17k12, c17q13, c17, go_sem, collect_lit0, collect_lit1, collect_lit2, collect_lit3, if_true, if_false, true_and, and_true, false_and, and_false, and_self, Nat.zero_add, Nat.add_zero, eq_self, Bool.true_eq_false, Bool.false_eq_true, cond_true, cond_false, decide_eq_true_eq, Bool.not_eq_true', Bool.not_eq_false', decide_eq_false_iff_not, not_true_eq_false, not_false_eq_true, Bool.true_and, Bool.false_and, Bool.and_true, Bool.and_false, Bool.not_true, Bool.not_false, Option.some.injEq, decide_true, decide_false, List.getElem?_cons_zero, List.getElem?_cons_succ, List.length_cons, List.length_nil, List.nil_append, List.cons_append, List.set_cons_zero, List.set_cons_succ, List.take_zero, List.drop_zero, Nat.reduceEqDiff, Nat.reduceAdd, Nat.reduceSub, Nat.reduceLT, Nat.reduceLeDiff, Nat.reduceMul, Int.reduceEq, Int.reduceLT, Int.reduceLE, Int.reduceAdd, Int.reduceSub, Int.reduceNeg, Int.reduceToNat, reduceCtorEq, ↓reduceIte, List.append_assoc, List.cons_append, List.nil_append, Nat.add_assoc, List.length_append, List.length_cons, List.length_nil, Nat.zero_add, hc17, zipFr, part_place0, e, hw, get_last, append_set_last]
      refine ⟨⟨_, rfl⟩, ?_⟩
      simp [List.take_succ_cons, List.take_left]
theorem count_ok (x : Fl) (v : Int) (hp : Heap) (ha : Tm.sizes x.args < 1000000000) (hs : ∀ g ∈ x.goals, Tm.sizes g.args < 1000000000) (hlen : x.goals.length < 1000000000) (hlim : (placesP x).length ≤ LIM) :
    S 17 [x.av, .pv none (.int .i64 v)] hp = some (.ret (.pv none (.int .i64 (if x.valid = true then (cnt v (placesP x) : Int) else 0))), hp) := by
  refine sem_pure_range rfl rfl rfl (freezeAll_pvs [(some 5, x.pv), (none, .int .i64 v)]) rfl rfl ?_
  have hv := fun hp => flatValid_ok x hp ha hs hlen
  simp only [Fl.av] at hv
  cases hval : x.valid with
  | false =>
    rw [hval] at hv
    simp -dsimp -implicitDefEqProofs only [g17, c17r0, c17r1, c17r2, c17k3, c17r4, c17r5, c17r6, c17p7, c17r8, c17r9, c17r10, c17k11, c17k12, c17q13, c17, go_sem, collect_lit0, collect_lit1, collect_lit2, collect_lit3, if_true, if_false, true_and, and_true, false_and, and_false, and_self, Nat.zero_add, Nat.add_zero, eq_self, Bool.true_eq_false, Bool.false_eq_true, cond_true, cond_false, decide_eq_true_eq, Bool.not_eq_true', Bool.not_eq_false', decide_eq_false_iff_not, not_true_eq_false, not_false_eq_true, Bool.true_and, Bool.false_and, Bool.and_true, Bool.and_false, Bool.not_true, Bool.not_false, Option.some.injEq, decide_true, decide_false, List.getElem?_cons_zero, List.getElem?_cons_succ, List.length_cons, List.length_nil, List.nil_append, List.cons_append, List.set_cons_zero, List.set_cons_succ, List.take_zero, List.drop_zero, Nat.reduceEqDiff, Nat.reduceAdd, Nat.reduceSub, Nat.reduceLT, Nat.reduceLeDiff, Nat.reduceMul, Int.reduceEq, Int.reduceLT, Int.reduceLE, Int.reduceAdd, Int.reduceSub, Int.reduceNeg, Int.reduceToNat, reduceCtorEq, ↓reduceIte, hv]
  | true =>
    rw [hval] at hv
    simp -dsimp -implicitDefEqProofs only [g17, c17r0, c17r1, c17r2, c17k3, c17r4, c17r5, c17r6, c17p7, c17r8, c17r9, c17r10, c17k11, c17k12, c17q13, c17, go_sem, collect_lit0, collect_lit1, collect_lit2, collect_lit3, if_true, if_false, true_and, and_true, false_and, and_false, and_self, Nat.zero_add, Nat.add_zero, eq_self, Bool.true_eq_false, Bool.false_eq_true, cond_true, cond_false, decide_eq_true_eq, Bool.not_eq_true', Bool.not_eq_false', decide_eq_false_iff_not, not_true_eq_false, not_false_eq_true, Bool.true_and, Bool.false_and, Bool.and_true, Bool.and_false, Bool.not_true, Bool.not_false, Option.some.injEq, decide_true, decide_false, List.getElem?_cons_zero, List.getElem?_cons_succ, List.length_cons, List.length_nil, List.nil_append, List.cons_append, List.set_cons_zero, List.set_cons_succ, List.take_zero, List.drop_zero, Nat.reduceEqDiff, Nat.reduceAdd, Nat.reduceSub, Nat.reduceLT, Nat.reduceLeDiff, Nat.reduceMul, Int.reduceEq, Int.reduceLT, Int.reduceLE, Int.reduceAdd, Int.reduceSub, Int.reduceNeg, Int.reduceToNat, reduceCtorEq, ↓reduceIte, hv, occ24_ok]
    have h39 := occs_ok (count_rnd x v) x [] 3 (by omega) (fun _ => rfl) ha hs hlen (by simpa using hlim)
    refine ⟨_, atop_range rfl rfl (by rw [sem_seq (by rfl)]; exact h39) rfl, ?_⟩
    simp -dsimp -implicitDefEqProofs only [g17, c17r0, c17r1, c17r2, c17k3, c17r4, c17r5, c17r6, c17p7, c17r8, c17r9, c17r10, c17k11, c17k12, c17q13, c17, go_sem, collect_lit0, collect_lit1, collect_lit2, collect_lit3, if_true, if_false, true_and, and_true, false_and, and_false, and_self, Nat.zero_add, Nat.add_zero, eq_self, Bool.true_eq_false, Bool.false_eq_true, cond_true, cond_false, decide_eq_true_eq, Bool.not_eq_true', Bool.not_eq_false', decide_eq_false_iff_not, not_true_eq_false, not_false_eq_true, Bool.true_and, Bool.false_and, Bool.and_true, Bool.and_false, Bool.not_true, Bool.not_false, Option.some.injEq, decide_true, decide_false, List.getElem?_cons_zero, List.getElem?_cons_succ, List.length_cons, List.length_nil, List.nil_append, List.cons_append, List.set_cons_zero, List.set_cons_succ, List.take_zero, List.drop_zero, Nat.reduceEqDiff, Nat.reduceAdd, Nat.reduceSub, Nat.reduceLT, Nat.reduceLeDiff, Nat.reduceMul, Int.reduceEq, Int.reduceLT, Int.reduceLE, Int.reduceAdd, Int.reduceSub, Int.reduceNeg, Int.reduceToNat, reduceCtorEq, ↓reduceIte, hc17, List.take_succ_cons]
end Go.Proofs.Ytmajapjbogmefaa
