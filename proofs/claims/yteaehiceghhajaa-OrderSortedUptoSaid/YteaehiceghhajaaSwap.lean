/- What is proved: the library's exchanging of ranges and rotation do what their names say. -/
import Derived.Test.YteaehiceghhajaaTerm
import Derived.Test.YteaehiceghhajaaAm3
set_option linter.unusedSimpArgs false
set_option linter.unusedVariables false
namespace Go.Proofs.Yteaehiceghhajaa
open Go.Am
theorem swapRange_ok (fv : AV) (hp : Heap) (r : Nat) (hr : r < hp.length) (a b n N : Nat) (P X M Y R : List PV) (hP : P.length = a) (hX : X.length = n) (hY : Y.length = n) (hb : b = a + n + M.length) (hN : N = (P ++ X ++ M ++ Y ++ R).length) (hN' : N < 1000000000) :
    S 75 [.sl (some 4) r N 0 N, .pv none (.int .i64 a), .pv none (.int .i64 b), .pv none (.int .i64 n), fv] (hp.set r (.arr (some 4) (P ++ X ++ M ++ Y ++ R) false)) = some (.ret (.tuple []), hp.set r (.arr (some 4) (P ++ Y ++ M ++ X ++ R) false)) := by
  refine sem_heap rfl rfl rfl rfl ?_
  have e1 : ∀ A, (hp.set r A)[r]? = some A := fun A => by simp [hr]
  have hNl : N = P.length + n + M.length + n + R.length := by rw [hN]; simp [hX, hY]; omega
  simp -dsimp -implicitDefEqProofs only [g75, c75r0, c75r1, c75k2, c75r3, c75k4, c75r5, c75b6, c75k7, c75, go_sem, collect_lit0, collect_lit1, collect_lit2, collect_lit3, if_true, if_false, true_and, and_true, false_and, and_false, and_self, Nat.zero_add, Nat.add_zero, eq_self, Bool.true_eq_false, Bool.false_eq_true, cond_true, cond_false, decide_eq_true_eq, Bool.not_eq_true', Bool.not_eq_false', decide_eq_false_iff_not, not_true_eq_false, not_false_eq_true, Bool.true_and, Bool.false_and, Bool.and_true, Bool.and_false, Bool.not_true, Bool.not_false, Option.some.injEq, decide_true, decide_false, List.getElem?_cons_zero, List.getElem?_cons_succ, List.length_cons, List.length_nil, List.nil_append, List.cons_append, List.set_cons_zero, List.set_cons_succ, List.take_zero, List.drop_zero, Nat.reduceEqDiff, Nat.reduceAdd, Nat.reduceSub, Nat.reduceLT, Nat.reduceLeDiff, Nat.reduceMul, Int.reduceEq, Int.reduceLT, Int.reduceLE, Int.reduceAdd, Int.reduceSub, Int.reduceNeg, Int.reduceToNat, reduceCtorEq, ↓reduceIte]
  refine W_loop (fun k st => ∃ (i : Nat) (X1 X2 Y1 Y2 : List PV), k = n - i ∧ i ≤ n ∧ X = X1 ++ X2 ∧ Y = Y1 ++ Y2 ∧ X1.length = i ∧ Y1.length = i ∧ st = ⟨[(0, .sl (some 4) r N 0 N), (1, .pv none (.int .i64 a)), (2, .pv none (.int .i64 b)), (3, .pv none (.int .i64 n)), (10, .pv none (.int .i64 i))], hp.set r (.arr (some 4) (P ++ Y1 ++ X2 ++ M ++ X1 ++ Y2 ++ R) false)⟩) (n := n) ⟨0, [], X, [], Y, rfl, Nat.zero_le _, rfl, rfl, rfl, rfl, ?_⟩ ?_
  · simp -dsimp -implicitDefEqProofs only [go_sem, collect_lit0, collect_lit1, collect_lit2, collect_lit3, if_true, if_false, true_and, and_true, false_and, and_false, and_self, Nat.zero_add, Nat.add_zero, eq_self, Bool.true_eq_false, Bool.false_eq_true, cond_true, cond_false, decide_eq_true_eq, Bool.not_eq_true', Bool.not_eq_false', decide_eq_false_iff_not, not_true_eq_false, not_false_eq_true, Bool.true_and, Bool.false_and, Bool.and_true, Bool.and_false, Bool.not_true, Bool.not_false, Option.some.injEq, decide_true, decide_false, List.getElem?_cons_zero, List.getElem?_cons_succ, List.length_cons, List.length_nil, List.nil_append, List.cons_append, List.set_cons_zero, List.set_cons_succ, List.take_zero, List.drop_zero, Nat.reduceEqDiff, Nat.reduceAdd, Nat.reduceSub, Nat.reduceLT, Nat.reduceLeDiff, Nat.reduceMul, Int.reduceEq, Int.reduceLT, Int.reduceLE, Int.reduceAdd, Int.reduceSub, Int.reduceNeg, Int.reduceToNat, reduceCtorEq, ↓reduceIte]
    simp
  · rintro k st ⟨i, X1, X2, Y1, Y2, hk, hi, eX, eY, lX, lY, rfl⟩
    have l2X : X2.length = n - i := by rw [eX] at hX; simp at hX; omega
    have l2Y : Y2.length = n - i := by rw [eY] at hY; simp at hY; omega
    have hlen : (P ++ Y1 ++ X2 ++ M ++ X1 ++ Y2 ++ R).length = N := by simp; omega
    by_cases h : i < n
    · have hc : (i : Int) < (n : Int) := by omega
      obtain ⟨x, X2, rfl⟩ : ∃ x l, X2 = x :: l := by cases X2 with | nil => simp at l2X; omega | cons x l => exact ⟨x, l, rfl⟩
      obtain ⟨y, Y2, rfl⟩ : ∃ x l, Y2 = x :: l := by cases Y2 with | nil => simp at l2Y; omega | cons x l => exact ⟨x, l, rfl⟩
      have w1 : IntKind.i64.wrap ((a : Int) + (i : Int)) = ((a + i : Nat) : Int) := by rw [wrap64 (by omega) (by omega)]; omega
      have w2 : IntKind.i64.wrap ((b : Int) + (i : Int)) = ((b + i : Nat) : Int) := by rw [wrap64 (by omega) (by omega)]; omega
      have w3 : IntKind.i64.wrap ((i : Int) + 1) = ((i + 1 : Nat) : Int) := by rw [wrap64 (by omega) (by omega)]; omega
      have la : a + i < N := by omega
      have lb : b + i < N := by omega
      have s1 : P ++ Y1 ++ x :: X2 ++ M ++ X1 ++ y :: Y2 ++ R = (P ++ Y1) ++ x :: (X2 ++ M ++ X1 ++ y :: Y2 ++ R) := by simp
      have s2 : P ++ Y1 ++ x :: X2 ++ M ++ X1 ++ y :: Y2 ++ R = (P ++ Y1 ++ x :: X2 ++ M ++ X1) ++ y :: (Y2 ++ R) := by simp
      have g1 : (P ++ Y1 ++ x :: X2 ++ M ++ X1 ++ y :: Y2 ++ R)[a + i]? = some x := by rw [s1]; exact mid_get (by simp; omega)
      have g2 : (P ++ Y1 ++ x :: X2 ++ M ++ X1 ++ y :: Y2 ++ R)[b + i]? = some y := by rw [s2]; exact mid_get (by simp at l2X ⊢; omega)
      have g3 : ((P ++ Y1 ++ x :: X2 ++ M ++ X1 ++ y :: Y2 ++ R).set (a + i) y).set (b + i) x = P ++ (Y1 ++ [y]) ++ X2 ++ M ++ (X1 ++ [x]) ++ Y2 ++ R := by
        rw [s1, mid_set (by simp; omega)]
        have s3 : (P ++ Y1) ++ y :: (X2 ++ M ++ X1 ++ y :: Y2 ++ R) = (P ++ Y1 ++ y :: X2 ++ M ++ X1) ++ y :: (Y2 ++ R) := by simp
        rw [s3, mid_set (by simp at l2X ⊢; omega)]
        simp
      generalize hxs : P ++ Y1 ++ x :: X2 ++ M ++ X1 ++ y :: Y2 ++ R = xs at g1 g2 g3 hlen ⊢
      simp -dsimp -implicitDefEqProofs only [g75, c75r0, c75r1, c75k2, c75r3, c75k4, c75r5, c75b6, c75k7, c75, go_sem, collect_lit0, collect_lit1, collect_lit2, collect_lit3, if_true, if_false, true_and, and_true, false_and, and_false, and_self, Nat.zero_add, Nat.add_zero, eq_self, Bool.true_eq_false, Bool.false_eq_true, cond_true, cond_false, decide_eq_true_eq, Bool.not_eq_true', Bool.not_eq_false', decide_eq_false_iff_not, not_true_eq_false, not_false_eq_true, Bool.true_and, Bool.false_and, Bool.and_true, Bool.and_false, Bool.not_true, Bool.not_false, Option.some.injEq, decide_true, decide_false, List.getElem?_cons_zero, List.getElem?_cons_succ, List.length_cons, List.length_nil, List.nil_append, List.cons_append, List.set_cons_zero, List.set_cons_succ, List.take_zero, List.drop_zero, Nat.reduceEqDiff, Nat.reduceAdd, Nat.reduceSub, Nat.reduceLT, Nat.reduceLeDiff, Nat.reduceMul, Int.reduceEq, Int.reduceLT, Int.reduceLE, Int.reduceAdd, Int.reduceSub, Int.reduceNeg, Int.reduceToNat, reduceCtorEq, ↓reduceIte, hc, w1, w2, w3, s_iaddr_sl la, s_iaddr_sl lb, aload_eptr, w_store_eptr, e1, g1, g2, hlen, List.length_set, List.set_set, la, lb, g3]
      refine ⟨n - (i + 1), by omega, i + 1, X1 ++ [x], X2, Y1 ++ [y], Y2, rfl, by omega, by simp [eX], by simp [eY], by simp [lX], by simp [lY], ?_⟩
      rw [collect_id (by simp)]
    · have hc : ¬ (i : Int) < (n : Int) := by omega
      obtain rfl : i = n := by omega
      have : X2 = [] := List.length_eq_zero_iff.1 (by omega)
      subst this
      have : Y2 = [] := List.length_eq_zero_iff.1 (by omega)
      subst this
      simp -dsimp -implicitDefEqProofs only [g75, c75r0, c75r1, c75k2, c75r3, c75k4, c75r5, c75b6, c75k7, c75, go_sem, collect_lit0, collect_lit1, collect_lit2, collect_lit3, if_true, if_false, true_and, and_true, false_and, and_false, and_self, Nat.zero_add, Nat.add_zero, eq_self, Bool.true_eq_false, Bool.false_eq_true, cond_true, cond_false, decide_eq_true_eq, Bool.not_eq_true', Bool.not_eq_false', decide_eq_false_iff_not, not_true_eq_false, not_false_eq_true, Bool.true_and, Bool.false_and, Bool.and_true, Bool.and_false, Bool.not_true, Bool.not_false, Option.some.injEq, decide_true, decide_false, List.getElem?_cons_zero, List.getElem?_cons_succ, List.length_cons, List.length_nil, List.nil_append, List.cons_append, List.set_cons_zero, List.set_cons_succ, List.take_zero, List.drop_zero, Nat.reduceEqDiff, Nat.reduceAdd, Nat.reduceSub, Nat.reduceLT, Nat.reduceLeDiff, Nat.reduceMul, Int.reduceEq, Int.reduceLT, Int.reduceLE, Int.reduceAdd, Int.reduceSub, Int.reduceNeg, Int.reduceToNat, reduceCtorEq, ↓reduceIte, hc]
      rw [List.take_of_length_le (by simp)]
      simp [eX, eY]

theorem rotate_ok (fv : AV) (hp : Heap) (r : Nat) (hr : r < hp.length) (a m b N : Nat) (P U V R : List PV) (hP : P.length = a) (hU : m = a + U.length) (hV : b = m + V.length) (hN : N = (P ++ U ++ V ++ R).length) (hN' : N < 1000000000) (hU0 : 0 < U.length) (hV0 : 0 < V.length) :
    S 74 [.sl (some 4) r N 0 N, .pv none (.int .i64 a), .pv none (.int .i64 m), .pv none (.int .i64 b), fv] (hp.set r (.arr (some 4) (P ++ U ++ V ++ R) false)) = some (.ret (.tuple []), hp.set r (.arr (some 4) (P ++ V ++ U ++ R) false)) := by
  refine sem_heap rfl rfl rfl rfl ?_
  have hNl : N = P.length + U.length + V.length + R.length := by (rw [hN]; simp <;> omega)
  have w1 : IntKind.i64.wrap ((m : Int) - (a : Int)) = ((U.length : Nat) : Int) := by rw [wrap64 (by omega) (by omega)]; omega
  have w2 : IntKind.i64.wrap ((b : Int) - (m : Int)) = ((V.length : Nat) : Int) := by rw [wrap64 (by omega) (by omega)]; omega
  simp -dsimp -implicitDefEqProofs only [g74, c74r0, c74r1, c74r2, c74k3, c74r4, c74r5, c74r6, c74r7, c74r8, c74k9, c74k10, c74b11, c74k12, c74r13, c74, go_sem, collect_lit0, collect_lit1, collect_lit2, collect_lit3, if_true, if_false, true_and, and_true, false_and, and_false, and_self, Nat.zero_add, Nat.add_zero, eq_self, Bool.true_eq_false, Bool.false_eq_true, cond_true, cond_false, decide_eq_true_eq, Bool.not_eq_true', Bool.not_eq_false', decide_eq_false_iff_not, not_true_eq_false, not_false_eq_true, Bool.true_and, Bool.false_and, Bool.and_true, Bool.and_false, Bool.not_true, Bool.not_false, Option.some.injEq, decide_true, decide_false, List.getElem?_cons_zero, List.getElem?_cons_succ, List.length_cons, List.length_nil, List.nil_append, List.cons_append, List.set_cons_zero, List.set_cons_succ, List.take_zero, List.drop_zero, Nat.reduceEqDiff, Nat.reduceAdd, Nat.reduceSub, Nat.reduceLT, Nat.reduceLeDiff, Nat.reduceMul, Int.reduceEq, Int.reduceLT, Int.reduceLE, Int.reduceAdd, Int.reduceSub, Int.reduceNeg, Int.reduceToNat, reduceCtorEq, ↓reduceIte, w1, w2]
  refine W_loop (fun k st => ∃ (i j : Nat) (P' X Y R' : List PV), k = i + j ∧ 0 < i ∧ 0 < j ∧ X.length = i ∧ Y.length = j ∧ P'.length + i = m ∧ P' ++ Y ++ X ++ R' = P ++ V ++ U ++ R ∧ (P' ++ X ++ Y ++ R').length = N ∧ st = ⟨[(0, .sl (some 4) r N 0 N), (2, .pv none (.int .i64 m)), (4, fv), (10, .pv none (.int .i64 i)), (11, .pv none (.int .i64 j))], hp.set r (.arr (some 4) (P' ++ X ++ Y ++ R') false)⟩) (n := U.length + V.length) ⟨U.length, V.length, P, U, V, R, rfl, hU0, hV0, rfl, rfl, by omega, rfl, hN.symm, ?_⟩ ?_
  · simp -dsimp -implicitDefEqProofs only [go_sem, collect_lit0, collect_lit1, collect_lit2, collect_lit3, if_true, if_false, true_and, and_true, false_and, and_false, and_self, Nat.zero_add, Nat.add_zero, eq_self, Bool.true_eq_false, Bool.false_eq_true, cond_true, cond_false, decide_eq_true_eq, Bool.not_eq_true', Bool.not_eq_false', decide_eq_false_iff_not, not_true_eq_false, not_false_eq_true, Bool.true_and, Bool.false_and, Bool.and_true, Bool.and_false, Bool.not_true, Bool.not_false, Option.some.injEq, decide_true, decide_false, List.getElem?_cons_zero, List.getElem?_cons_succ, List.length_cons, List.length_nil, List.nil_append, List.cons_append, List.set_cons_zero, List.set_cons_succ, List.take_zero, List.drop_zero, Nat.reduceEqDiff, Nat.reduceAdd, Nat.reduceSub, Nat.reduceLT, Nat.reduceLeDiff, Nat.reduceMul, Int.reduceEq, Int.reduceLT, Int.reduceLE, Int.reduceAdd, Int.reduceSub, Int.reduceNeg, Int.reduceToNat, reduceCtorEq, ↓reduceIte]
  · rintro k st ⟨i, j, P', X, Y, R', hk, i0, j0, lX, lY, lP, hT, hL, rfl⟩
    have hLn : P'.length + i + j + R'.length = N := by (rw [← hL]; simp <;> omega)
    by_cases hij : i = j
    · have hc : (i : Int) = (j : Int) := by omega
      have w3 : IntKind.i64.wrap ((m : Int) - (j : Int)) = ((P'.length : Nat) : Int) := by rw [wrap64 (by omega) (by omega)]; omega
      have hcall := swapRange_ok fv hp r hr P'.length m j N P' X [] Y R' rfl (by omega) (by omega) (by (simp <;> omega)) (by simp at hL ⊢; omega) hN'
      simp only [List.append_nil] at hcall
      rw [hT] at hcall
      simp -dsimp -implicitDefEqProofs only [g74, c74r0, c74r1, c74r2, c74k3, c74r4, c74r5, c74r6, c74r7, c74r8, c74k9, c74k10, c74b11, c74k12, c74r13, c74, go_sem, collect_lit0, collect_lit1, collect_lit2, collect_lit3, if_true, if_false, true_and, and_true, false_and, and_false, and_self, Nat.zero_add, Nat.add_zero, eq_self, Bool.true_eq_false, Bool.false_eq_true, cond_true, cond_false, decide_eq_true_eq, Bool.not_eq_true', Bool.not_eq_false', decide_eq_false_iff_not, not_true_eq_false, not_false_eq_true, Bool.true_and, Bool.false_and, Bool.and_true, Bool.and_false, Bool.not_true, Bool.not_false, Option.some.injEq, decide_true, decide_false, List.getElem?_cons_zero, List.getElem?_cons_succ, List.length_cons, List.length_nil, List.nil_append, List.cons_append, List.set_cons_zero, List.set_cons_succ, List.take_zero, List.drop_zero, Nat.reduceEqDiff, Nat.reduceAdd, Nat.reduceSub, Nat.reduceLT, Nat.reduceLeDiff, Nat.reduceMul, Int.reduceEq, Int.reduceLT, Int.reduceLE, Int.reduceAdd, Int.reduceSub, Int.reduceNeg, Int.reduceToNat, reduceCtorEq, ↓reduceIte, hc, w3, hcall]
      rw [List.take_of_length_le (by simp)]
    · have hc : ¬ (i : Int) = (j : Int) := by omega
      by_cases hgt : j < i
      · have hc2 : (j : Int) < (i : Int) := by omega
        have w3 : IntKind.i64.wrap ((m : Int) - (i : Int)) = ((P'.length : Nat) : Int) := by rw [wrap64 (by omega) (by omega)]; omega
        have w4 : IntKind.i64.wrap ((i : Int) - (j : Int)) = ((i - j : Nat) : Int) := by rw [wrap64 (by omega) (by omega)]; omega
        have eX : X = X.take j ++ X.drop j := (List.take_append_drop j X).symm
        have hcall := swapRange_ok fv hp r hr P'.length m j N P' (X.take j) (X.drop j) Y R' rfl (by (simp <;> omega)) (by omega) (by (simp <;> omega)) (by (rw [← hL]; simp <;> omega)) hN'
        have e0 : P' ++ X.take j ++ X.drop j ++ Y ++ R' = P' ++ X ++ Y ++ R' := by simp
        rw [e0] at hcall
        simp -dsimp -implicitDefEqProofs only [g74, c74r0, c74r1, c74r2, c74k3, c74r4, c74r5, c74r6, c74r7, c74r8, c74k9, c74k10, c74b11, c74k12, c74r13, c74, go_sem, collect_lit0, collect_lit1, collect_lit2, collect_lit3, if_true, if_false, true_and, and_true, false_and, and_false, and_self, Nat.zero_add, Nat.add_zero, eq_self, Bool.true_eq_false, Bool.false_eq_true, cond_true, cond_false, decide_eq_true_eq, Bool.not_eq_true', Bool.not_eq_false', decide_eq_false_iff_not, not_true_eq_false, not_false_eq_true, Bool.true_and, Bool.false_and, Bool.and_true, Bool.and_false, Bool.not_true, Bool.not_false, Option.some.injEq, decide_true, decide_false, List.getElem?_cons_zero, List.getElem?_cons_succ, List.length_cons, List.length_nil, List.nil_append, List.cons_append, List.set_cons_zero, List.set_cons_succ, List.take_zero, List.drop_zero, Nat.reduceEqDiff, Nat.reduceAdd, Nat.reduceSub, Nat.reduceLT, Nat.reduceLeDiff, Nat.reduceMul, Int.reduceEq, Int.reduceLT, Int.reduceLE, Int.reduceAdd, Int.reduceSub, Int.reduceNeg, Int.reduceToNat, reduceCtorEq, ↓reduceIte, hc, hc2, w3, w4, hcall]
        refine ⟨i - j + j, by omega, i - j, j, P' ++ Y, X.drop j, X.take j, R', rfl, by omega, by omega, by (simp <;> omega), by (simp <;> omega), by (simp <;> omega), ?_, ?_, ?_⟩
        · rw [← hT]; simp
        · rw [← hL]; simp <;> omega
        · rw [collect_id (by simp)]
      · have hc2 : ¬ (j : Int) < (i : Int) := by omega
        have w3 : IntKind.i64.wrap ((m : Int) - (i : Int)) = ((P'.length : Nat) : Int) := by rw [wrap64 (by omega) (by omega)]; omega
        have w4 : IntKind.i64.wrap ((j : Int) - (i : Int)) = ((j - i : Nat) : Int) := by rw [wrap64 (by omega) (by omega)]; omega
        have w5 : IntKind.i64.wrap ((m : Int) + (j : Int)) = ((m + j : Nat) : Int) := by rw [wrap64 (by omega) (by omega)]; omega
        have w6 : IntKind.i64.wrap (((m + j : Nat) : Int) - (i : Int)) = ((m + j - i : Nat) : Int) := by rw [wrap64 (by omega) (by omega)]; omega
        have hcall := swapRange_ok fv hp r hr P'.length (m + j - i) i N P' X (Y.take (j - i)) (Y.drop (j - i)) R' rfl lX (by (simp <;> omega)) (by (simp <;> omega)) (by (rw [← hL]; simp <;> omega)) hN'
        have e0 : P' ++ X ++ Y.take (j - i) ++ Y.drop (j - i) ++ R' = P' ++ X ++ Y ++ R' := by simp
        rw [e0] at hcall
        simp -dsimp -implicitDefEqProofs only [g74, c74r0, c74r1, c74r2, c74k3, c74r4, c74r5, c74r6, c74r7, c74r8, c74k9, c74k10, c74b11, c74k12, c74r13, c74, go_sem, collect_lit0, collect_lit1, collect_lit2, collect_lit3, if_true, if_false, true_and, and_true, false_and, and_false, and_self, Nat.zero_add, Nat.add_zero, eq_self, Bool.true_eq_false, Bool.false_eq_true, cond_true, cond_false, decide_eq_true_eq, Bool.not_eq_true', Bool.not_eq_false', decide_eq_false_iff_not, not_true_eq_false, not_false_eq_true, Bool.true_and, Bool.false_and, Bool.and_true, Bool.and_false, Bool.not_true, Bool.not_false, Option.some.injEq, decide_true, decide_false, List.getElem?_cons_zero, List.getElem?_cons_succ, List.length_cons, List.length_nil, List.nil_append, List.cons_append, List.set_cons_zero, List.set_cons_succ, List.take_zero, List.drop_zero, Nat.reduceEqDiff, Nat.reduceAdd, Nat.reduceSub, Nat.reduceLT, Nat.reduceLeDiff, Nat.reduceMul, Int.reduceEq, Int.reduceLT, Int.reduceLE, Int.reduceAdd, Int.reduceSub, Int.reduceNeg, Int.reduceToNat, reduceCtorEq, ↓reduceIte, hc, hc2, w3, w4, w5, w6, hcall]
        refine ⟨i + (j - i), by omega, i, j - i, P', Y.drop (j - i), Y.take (j - i), X ++ R', rfl, by omega, by omega, by (simp <;> omega), by (simp <;> omega), by omega, ?_, ?_, ?_⟩
        · rw [← hT]; simp
        · rw [← hL]; simp <;> omega
        · rw [collect_id (by simp)]; simp

/-- What a comparing function gives, on what is compared. -/
def CmpF (c : PV → PV → Int) (g : FuncId) (D : PV → Prop) : Prop := ∀ x y, D x → D y → ∀ hp, S g [.pv (some 4) x, .pv (some 4) y] hp = some (.ret (.pv none (.int .i64 (c x y))), hp)

theorem insInner (c : PV → PV → Int) (hC : Cmp c) (g : FuncId) (D : PV → Prop) (hg : CmpF c g D) (hp : Heap) (r : Nat) (hr : r < hp.length) (a b i N : Nat) (P S1 R : List PV) (t : PV) (hP : P.length = a) (hs : Srt c S1) (hi : i = a + S1.length) (hN : N = (P ++ S1 ++ t :: R).length) (hN' : N < 1000000000) (hD : ∀ x ∈ S1, D x) (hDt : D t)
    (fr : Fr) (Q : AExit → St → Prop)
    (hfr : fr.keep [0, 1, 2, 3, 8, 9] = [(0, .sl (some 4) r N 0 N), (1, .pv none (.int .i64 a)), (2, .pv none (.int .i64 b)), (3, .pv none (.func (.func g))), (8, .pv none (.int .i64 i)), (9, .pv none (.int .i64 i))])
    (h : ∀ rest, Q (.exit 2) ⟨(0, .sl (some 4) r N 0 N) :: (1, .pv none (.int .i64 a)) :: (2, .pv none (.int .i64 b)) :: (3, .pv none (.func (.func g))) :: (8, .pv none (.int .i64 i)) :: rest, hp.set r (.arr (some 4) (P ++ insC c t S1 ++ R) false)⟩) :
    W S L hp.length (.loop [0, 1, 2, 3, 8, 9] c72b9) ⟨fr, hp.set r (.arr (some 4) (P ++ S1 ++ t :: R) false)⟩ Q := by
  have e1 : ∀ A, (hp.set r A)[r]? = some A := fun A => by simp [hr]
  have hNl : N = P.length + S1.length + R.length + 1 := by rw [hN]; simp; omega
  refine W_loop (fun k st => ∃ (L1 M : List PV), k = L1.length ∧ S1 = L1 ++ M ∧ (∀ m ∈ M, c t m < 0) ∧ st = ⟨[(0, .sl (some 4) r N 0 N), (1, .pv none (.int .i64 a)), (2, .pv none (.int .i64 b)), (3, .pv none (.func (.func g))), (8, .pv none (.int .i64 i)), (9, .pv none (.int .i64 ((a + L1.length : Nat) : Int)))], hp.set r (.arr (some 4) (P ++ L1 ++ t :: M ++ R) false)⟩) (n := S1.length) ⟨S1, [], rfl, by simp, by simp, ?_⟩ ?_
  · rw [hfr, hi]
    simp
  · rintro k st ⟨L1, M, hk, hS, hM, rfl⟩
    have hSl : S1.length = L1.length + M.length := by rw [hS]; simp
    have hlen : (P ++ L1 ++ t :: M ++ R).length = N := by simp; omega
    have fin : (∀ x ∈ L1, ¬ c t x < 0) → P ++ insC c t S1 ++ R = P ++ L1 ++ t :: M ++ R := fun hx => by
      rw [hS, insC_split hx hM]; simp
    rcases nil_or_snoc L1 with rfl | ⟨L2, x, rfl⟩
    · have hc : ¬ ((a : Nat) : Int) < ((a + ([] : List PV).length : Nat) : Int) := by simp
      have hf := fin (by simp)
      rw [hf] at h
      simp -dsimp -implicitDefEqProofs only [g72, c72r0, c72r1, c72k2, c72r3, c72r4, c72k5, c72r6, c72k7, c72r8, c72b9, c72k10, c72k11, c72r12, c72b13, c72k14, c72, go_sem, collect_lit0, collect_lit1, collect_lit2, collect_lit3, if_true, if_false, true_and, and_true, false_and, and_false, and_self, Nat.zero_add, Nat.add_zero, eq_self, Bool.true_eq_false, Bool.false_eq_true, cond_true, cond_false, decide_eq_true_eq, Bool.not_eq_true', Bool.not_eq_false', decide_eq_false_iff_not, not_true_eq_false, not_false_eq_true, Bool.true_and, Bool.false_and, Bool.and_true, Bool.and_false, Bool.not_true, Bool.not_false, Option.some.injEq, decide_true, decide_false, List.getElem?_cons_zero, List.getElem?_cons_succ, List.length_cons, List.length_nil, List.nil_append, List.cons_append, List.set_cons_zero, List.set_cons_succ, List.take_zero, List.drop_zero, Nat.reduceEqDiff, Nat.reduceAdd, Nat.reduceSub, Nat.reduceLT, Nat.reduceLeDiff, Nat.reduceMul, Int.reduceEq, Int.reduceLT, Int.reduceLE, Int.reduceAdd, Int.reduceSub, Int.reduceNeg, Int.reduceToNat, reduceCtorEq, ↓reduceIte, hc, Int.lt_irrefl]
      exact h _
    · have hxl : (L2 ++ [x]).length = L2.length + 1 := by simp
      have hc : ((a : Nat) : Int) < ((a + (L2 ++ [x]).length : Nat) : Int) := by rw [hxl]; omega
      have w1 : IntKind.i64.wrap (((a + (L2 ++ [x]).length : Nat) : Int) - 1) = ((a + L2.length : Nat) : Int) := by rw [wrap64 (by omega) (by omega)]; omega
      have la : a + (L2 ++ [x]).length < N := by omega
      have lb : a + L2.length < N := by omega
      have s1 : P ++ (L2 ++ [x]) ++ t :: M ++ R = (P ++ (L2 ++ [x])) ++ t :: (M ++ R) := by simp
      have s2 : P ++ (L2 ++ [x]) ++ t :: M ++ R = (P ++ L2) ++ x :: (t :: M ++ R) := by simp
      have g1 : (P ++ (L2 ++ [x]) ++ t :: M ++ R)[a + (L2 ++ [x]).length]? = some t := by rw [s1]; exact mid_get (by simp; omega)
      have g2 : (P ++ (L2 ++ [x]) ++ t :: M ++ R)[a + L2.length]? = some x := by rw [s2]; exact mid_get (by simp; omega)
      have hxm : x ∈ S1 := by rw [hS]; simp
      have hcall := hg t x hDt (hD x hxm)
      by_cases hlt : c t x < 0
      · have g3 : ((P ++ (L2 ++ [x]) ++ t :: M ++ R).set (a + (L2 ++ [x]).length) x).set (a + L2.length) t = P ++ L2 ++ t :: (x :: M) ++ R := by
          rw [s1, mid_set (by simp; omega)]
          have s3 : (P ++ (L2 ++ [x])) ++ x :: (M ++ R) = (P ++ L2) ++ x :: (x :: M ++ R) := by simp
          rw [s3, mid_set (by simp; omega)]
          simp
        generalize hxs : P ++ (L2 ++ [x]) ++ t :: M ++ R = xs at g1 g2 g3 hlen ⊢
        simp -dsimp -implicitDefEqProofs only [g72, c72r0, c72r1, c72k2, c72r3, c72r4, c72k5, c72r6, c72k7, c72r8, c72b9, c72k10, c72k11, c72r12, c72b13, c72k14, c72, go_sem, collect_lit0, collect_lit1, collect_lit2, collect_lit3, if_true, if_false, true_and, and_true, false_and, and_false, and_self, Nat.zero_add, Nat.add_zero, eq_self, Bool.true_eq_false, Bool.false_eq_true, cond_true, cond_false, decide_eq_true_eq, Bool.not_eq_true', Bool.not_eq_false', decide_eq_false_iff_not, not_true_eq_false, not_false_eq_true, Bool.true_and, Bool.false_and, Bool.and_true, Bool.and_false, Bool.not_true, Bool.not_false, Option.some.injEq, decide_true, decide_false, List.getElem?_cons_zero, List.getElem?_cons_succ, List.length_cons, List.length_nil, List.nil_append, List.cons_append, List.set_cons_zero, List.set_cons_succ, List.take_zero, List.drop_zero, Nat.reduceEqDiff, Nat.reduceAdd, Nat.reduceSub, Nat.reduceLT, Nat.reduceLeDiff, Nat.reduceMul, Int.reduceEq, Int.reduceLT, Int.reduceLE, Int.reduceAdd, Int.reduceSub, Int.reduceNeg, Int.reduceToNat, reduceCtorEq, ↓reduceIte, hc, w1, s_iaddr_sl la, s_iaddr_sl lb, aload_eptr, w_store_eptr, e1, g1, g2, hlen, List.length_set, List.set_set, la, lb, g3, hcall, hlt]
        refine ⟨L2.length, by omega, L2, x :: M, rfl, by rw [hS]; simp, ?_, ?_⟩
        · intro m hm
          rcases List.mem_cons.1 hm with rfl | hm
          · exact hlt
          · exact hM m hm
        · rw [collect_id (by simp)]
      · have hf := fin (fun y hy => by
          rcases List.mem_append.1 hy with hy | hy
          · have hyx : c y x ≤ 0 := by
              rw [hS] at hs
              have := (List.pairwise_append.1 (List.pairwise_append.1 hs).1).2.2 y hy x (by simp)
              exact this
            intro hty
            have := hC.lt_of_lt_le hty hyx
            exact hlt this
          · simp at hy; subst hy; exact hlt)
        rw [hf] at h
        generalize hxs : P ++ (L2 ++ [x]) ++ t :: M ++ R = xs at g1 g2 hlen h ⊢
        simp -dsimp -implicitDefEqProofs only [g72, c72r0, c72r1, c72k2, c72r3, c72r4, c72k5, c72r6, c72k7, c72r8, c72b9, c72k10, c72k11, c72r12, c72b13, c72k14, c72, go_sem, collect_lit0, collect_lit1, collect_lit2, collect_lit3, if_true, if_false, true_and, and_true, false_and, and_false, and_self, Nat.zero_add, Nat.add_zero, eq_self, Bool.true_eq_false, Bool.false_eq_true, cond_true, cond_false, decide_eq_true_eq, Bool.not_eq_true', Bool.not_eq_false', decide_eq_false_iff_not, not_true_eq_false, not_false_eq_true, Bool.true_and, Bool.false_and, Bool.and_true, Bool.and_false, Bool.not_true, Bool.not_false, Option.some.injEq, decide_true, decide_false, List.getElem?_cons_zero, List.getElem?_cons_succ, List.length_cons, List.length_nil, List.nil_append, List.cons_append, List.set_cons_zero, List.set_cons_succ, List.take_zero, List.drop_zero, Nat.reduceEqDiff, Nat.reduceAdd, Nat.reduceSub, Nat.reduceLT, Nat.reduceLeDiff, Nat.reduceMul, Int.reduceEq, Int.reduceLT, Int.reduceLE, Int.reduceAdd, Int.reduceSub, Int.reduceNeg, Int.reduceToNat, reduceCtorEq, ↓reduceIte, hc, w1, s_iaddr_sl la, s_iaddr_sl lb, aload_eptr, e1, g1, g2, hlen, hcall, hlt]
        exact h _

theorem insertion_ok (c : PV → PV → Int) (hC : Cmp c) (g : FuncId) (D : PV → Prop) (hg : CmpF c g D) (hp : Heap) (r : Nat) (hr : r < hp.length) (a b N : Nat) (P A R : List PV) (hP : P.length = a) (hA : b = a + A.length) (hN : N = (P ++ A ++ R).length) (hN' : N < 1000000000) (hD : ∀ x ∈ A, D x) :
    S 72 [.sl (some 4) r N 0 N, .pv none (.int .i64 a), .pv none (.int .i64 b), .pv none (.func (.func g))] (hp.set r (.arr (some 4) (P ++ A ++ R) false)) = some (.ret (.tuple []), hp.set r (.arr (some 4) (P ++ isort c A ++ R) false)) := by
  refine sem_heap rfl rfl rfl rfl ?_
  have hNl : N = P.length + A.length + R.length := by (rw [hN]; simp <;> omega)
  have hsl : (hp.set r (.arr (some 4) (P ++ A ++ R) false)).length = hp.length := by simp
  have w0 : IntKind.i64.wrap ((a : Int) + 1) = ((a + 1 : Nat) : Int) := by rw [wrap64 (by omega) (by omega)]; omega
  rw [hsl]
  simp -dsimp -implicitDefEqProofs only [g72, c72r0, c72r1, c72k2, c72r3, c72r4, c72k5, c72r6, c72k7, c72r8, c72b9, c72k10, c72k11, c72r12, c72b13, c72k14, c72, go_sem, collect_lit0, collect_lit1, collect_lit2, collect_lit3, if_true, if_false, true_and, and_true, false_and, and_false, and_self, Nat.zero_add, Nat.add_zero, eq_self, Bool.true_eq_false, Bool.false_eq_true, cond_true, cond_false, decide_eq_true_eq, Bool.not_eq_true', Bool.not_eq_false', decide_eq_false_iff_not, not_true_eq_false, not_false_eq_true, Bool.true_and, Bool.false_and, Bool.and_true, Bool.and_false, Bool.not_true, Bool.not_false, Option.some.injEq, decide_true, decide_false, List.getElem?_cons_zero, List.getElem?_cons_succ, List.length_cons, List.length_nil, List.nil_append, List.cons_append, List.set_cons_zero, List.set_cons_succ, List.take_zero, List.drop_zero, Nat.reduceEqDiff, Nat.reduceAdd, Nat.reduceSub, Nat.reduceLT, Nat.reduceLeDiff, Nat.reduceMul, Int.reduceEq, Int.reduceLT, Int.reduceLE, Int.reduceAdd, Int.reduceSub, Int.reduceNeg, Int.reduceToNat, reduceCtorEq, ↓reduceIte, w0]
  refine W_loop (fun n st => ∃ k : Nat, n = A.length - k ∧ 1 ≤ k ∧ st = ⟨[(0, .sl (some 4) r N 0 N), (1, .pv none (.int .i64 a)), (2, .pv none (.int .i64 b)), (3, .pv none (.func (.func g))), (8, .pv none (.int .i64 ((a + k : Nat) : Int)))], hp.set r (.arr (some 4) (P ++ isort c (A.take k) ++ A.drop k ++ R) false)⟩) (n := A.length - 1) ⟨1, rfl, Nat.le_refl _, ?_⟩ ?_
  · simp -dsimp -implicitDefEqProofs only [go_sem, collect_lit0, collect_lit1, collect_lit2, collect_lit3, if_true, if_false, true_and, and_true, false_and, and_false, and_self, Nat.zero_add, Nat.add_zero, eq_self, Bool.true_eq_false, Bool.false_eq_true, cond_true, cond_false, decide_eq_true_eq, Bool.not_eq_true', Bool.not_eq_false', decide_eq_false_iff_not, not_true_eq_false, not_false_eq_true, Bool.true_and, Bool.false_and, Bool.and_true, Bool.and_false, Bool.not_true, Bool.not_false, Option.some.injEq, decide_true, decide_false, List.getElem?_cons_zero, List.getElem?_cons_succ, List.length_cons, List.length_nil, List.nil_append, List.cons_append, List.set_cons_zero, List.set_cons_succ, List.take_zero, List.drop_zero, Nat.reduceEqDiff, Nat.reduceAdd, Nat.reduceSub, Nat.reduceLT, Nat.reduceLeDiff, Nat.reduceMul, Int.reduceEq, Int.reduceLT, Int.reduceLE, Int.reduceAdd, Int.reduceSub, Int.reduceNeg, Int.reduceToNat, reduceCtorEq, ↓reduceIte]
    cases A with
    | nil => simp [isort]
    | cons x A => simp [isort, insC]
  · rintro n st ⟨k, hn, hk, rfl⟩
    by_cases h : k < A.length
    · have hc : ((a + k : Nat) : Int) < (b : Int) := by omega
      obtain ⟨t, R1, hd⟩ : ∃ t R1, A.drop k = t :: R1 := ⟨A[k], A.drop (k + 1), List.drop_eq_getElem_cons h⟩
      have hd1 : A.drop (k + 1) = R1 := by rw [← List.drop_drop, hd]; rfl
      have ht : A.take (k + 1) = A.take k ++ [t] := by
        have : A[k]? = some t := by have := congrArg List.head? hd; simpa using this
        rw [List.take_add_one, this]; rfl
      have w3 : IntKind.i64.wrap (((a + k : Nat) : Int) + 1) = ((a + (k + 1) : Nat) : Int) := by rw [wrap64 (by omega) (by omega)]; omega
      have hlk : (isort c (A.take k)).length = k := by rw [isort_length]; simp; omega
      have e0 : P ++ isort c (A.take k) ++ A.drop k ++ R = P ++ isort c (A.take k) ++ t :: (R1 ++ R) := by rw [hd]; simp
      have hmem : ∀ x ∈ isort c (A.take k), D x := fun x hx => hD x (List.mem_of_mem_take ((isort_perm _).mem_iff.1 hx))
      have htm : D t := hD t (by have : t ∈ A.drop k := by rw [hd]; simp
                                 exact List.mem_of_mem_drop this)
      simp -dsimp -implicitDefEqProofs only [g72, c72r0, c72r1, c72k2, c72r3, c72r4, c72k5, c72r6, c72k7, c72r8, c72k10, c72k11, c72r12, c72b13, c72k14, c72, go_sem, collect_lit0, collect_lit1, collect_lit2, collect_lit3, if_true, if_false, true_and, and_true, false_and, and_false, and_self, Nat.zero_add, Nat.add_zero, eq_self, Bool.true_eq_false, Bool.false_eq_true, cond_true, cond_false, decide_eq_true_eq, Bool.not_eq_true', Bool.not_eq_false', decide_eq_false_iff_not, not_true_eq_false, not_false_eq_true, Bool.true_and, Bool.false_and, Bool.and_true, Bool.and_false, Bool.not_true, Bool.not_false, Option.some.injEq, decide_true, decide_false, List.getElem?_cons_zero, List.getElem?_cons_succ, List.length_cons, List.length_nil, List.nil_append, List.cons_append, List.set_cons_zero, List.set_cons_succ, List.take_zero, List.drop_zero, Nat.reduceEqDiff, Nat.reduceAdd, Nat.reduceSub, Nat.reduceLT, Nat.reduceLeDiff, Nat.reduceMul, Int.reduceEq, Int.reduceLT, Int.reduceLE, Int.reduceAdd, Int.reduceSub, Int.reduceNeg, Int.reduceToNat, reduceCtorEq, ↓reduceIte, hc]
      rw [e0]
      refine insInner c hC g D hg hp r hr a b (a + k) N P (isort c (A.take k)) (R1 ++ R) t hP (isort_srt hC _) (by omega) (by rw [← e0]; simp [hlk]; omega) hN' hmem htm _ _ rfl fun rest => ?_
      simp -dsimp -implicitDefEqProofs only [g72, c72r0, c72r1, c72k2, c72r3, c72r4, c72k5, c72r6, c72k7, c72r8, c72k10, c72k11, c72r12, c72b13, c72k14, c72, go_sem, collect_lit0, collect_lit1, collect_lit2, collect_lit3, if_true, if_false, true_and, and_true, false_and, and_false, and_self, Nat.zero_add, Nat.add_zero, eq_self, Bool.true_eq_false, Bool.false_eq_true, cond_true, cond_false, decide_eq_true_eq, Bool.not_eq_true', Bool.not_eq_false', decide_eq_false_iff_not, not_true_eq_false, not_false_eq_true, Bool.true_and, Bool.false_and, Bool.and_true, Bool.and_false, Bool.not_true, Bool.not_false, Option.some.injEq, decide_true, decide_false, List.getElem?_cons_zero, List.getElem?_cons_succ, List.length_cons, List.length_nil, List.nil_append, List.cons_append, List.set_cons_zero, List.set_cons_succ, List.take_zero, List.drop_zero, Nat.reduceEqDiff, Nat.reduceAdd, Nat.reduceSub, Nat.reduceLT, Nat.reduceLeDiff, Nat.reduceMul, Int.reduceEq, Int.reduceLT, Int.reduceLE, Int.reduceAdd, Int.reduceSub, Int.reduceNeg, Int.reduceToNat, reduceCtorEq, ↓reduceIte, w3]
      refine ⟨A.length - (k + 1), by omega, k + 1, rfl, by omega, ?_⟩
      rw [collect_id (by simp), ht, isort_snoc, hd1]
      simp
    · have hc : ¬ ((a + k : Nat) : Int) < (b : Int) := by omega
      simp -dsimp -implicitDefEqProofs only [g72, c72r0, c72r1, c72k2, c72r3, c72r4, c72k5, c72r6, c72k7, c72r8, c72k10, c72k11, c72r12, c72b13, c72k14, c72, go_sem, collect_lit0, collect_lit1, collect_lit2, collect_lit3, if_true, if_false, true_and, and_true, false_and, and_false, and_self, Nat.zero_add, Nat.add_zero, eq_self, Bool.true_eq_false, Bool.false_eq_true, cond_true, cond_false, decide_eq_true_eq, Bool.not_eq_true', Bool.not_eq_false', decide_eq_false_iff_not, not_true_eq_false, not_false_eq_true, Bool.true_and, Bool.false_and, Bool.and_true, Bool.and_false, Bool.not_true, Bool.not_false, Option.some.injEq, decide_true, decide_false, List.getElem?_cons_zero, List.getElem?_cons_succ, List.length_cons, List.length_nil, List.nil_append, List.cons_append, List.set_cons_zero, List.set_cons_succ, List.take_zero, List.drop_zero, Nat.reduceEqDiff, Nat.reduceAdd, Nat.reduceSub, Nat.reduceLT, Nat.reduceLeDiff, Nat.reduceMul, Int.reduceEq, Int.reduceLT, Int.reduceLE, Int.reduceAdd, Int.reduceSub, Int.reduceNeg, Int.reduceToNat, reduceCtorEq, ↓reduceIte, hc]
      rw [List.take_of_length_le (by simp), List.take_of_length_le (by omega), List.drop_eq_nil_of_le (by omega)]
      simp
end Go.Proofs.Yteaehiceghhajaa
