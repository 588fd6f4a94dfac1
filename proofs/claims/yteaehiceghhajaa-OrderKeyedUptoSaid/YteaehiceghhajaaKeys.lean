/- What is proved: Keys sorts pairs by their keys. -/
import Derived.Test.YteaehiceghhajaaFew
set_option linter.unusedSimpArgs false
set_option linter.unusedVariables false
namespace Go.Proofs.Yteaehiceghhajaa
open Go.Am
/-- A pair with a key. -/
def isPair (t : Tm) : Bool := decide (t.kind = 3) && decide (t.name = [45]) && decide (t.args.length = 2)
def smallPair (p : PV) : Prop := ∃ t : Tm, p = t.pv ∧ t.valid = true ∧ t.size < 1000000000 ∧ isPair t = true
theorem cmpF_key : CmpF (onPV keyCmp) 43 smallPair := by
  rintro x y ⟨t, rfl, ht, hts, htp⟩ ⟨u, rfl, hu, hus, hup⟩ hp
  simp only [isPair, Bool.and_eq_true, decide_eq_true_eq] at htp hup
  obtain ⟨k1, k2, hk⟩ : ∃ k1 k2, t.args = [k1, k2] := by
    match t.args, htp.2 with
    | [a, b], _ => exact ⟨a, b, rfl⟩
  obtain ⟨j1, j2, hj⟩ : ∃ k1 k2, u.args = [k1, k2] := by
    match u.args, hup.2 with
    | [a, b], _ => exact ⟨a, b, rfl⟩
  have h1 : k1 ∈ t.args := by rw [hk]; simp
  have h2 : j1 ∈ u.args := by rw [hj]; simp
  have hs := Tm.arg_lt h1
  have h := fun hp => compare_ok k1 j1 hp (by omega) (Tm.fits_arg (Tm.valid_fits ht) h1) (Tm.fits_arg (Tm.valid_fits hu) h2)
  simp only [Tm.av] at h
  have e1 : (Tm.pvs t.args)[0]? = some k1.pv := Tm.pvs_get (by rw [hk]; rfl)
  have e2 : (Tm.pvs u.args)[0]? = some j1.pv := Tm.pvs_get (by rw [hj]; rfl)
  have ek : keyCmp t u = k1.cmp j1 := by unfold keyCmp keyOfT; rw [hk, hj]; rfl
  refine sem_pure rfl rfl rfl (freezeAll_pvs [(some 4, t.pv), (some 4, u.pv)]) rfl ?_
  simp -dsimp -implicitDefEqProofs only [g43, c43r0, c43r1, c43, go_sem, collect_lit0, collect_lit1, collect_lit2, collect_lit3, if_true, if_false, true_and, and_true, false_and, and_false, and_self, Nat.zero_add, Nat.add_zero, eq_self, Bool.true_eq_false, Bool.false_eq_true, cond_true, cond_false, decide_eq_true_eq, Bool.not_eq_true', Bool.not_eq_false', decide_eq_false_iff_not, not_true_eq_false, not_false_eq_true, Bool.true_and, Bool.false_and, Bool.and_true, Bool.and_false, Bool.not_true, Bool.not_false, Option.some.injEq, decide_true, decide_false, List.getElem?_cons_zero, List.getElem?_cons_succ, List.length_cons, List.length_nil, List.nil_append, List.cons_append, List.set_cons_zero, List.set_cons_succ, List.take_zero, List.drop_zero, Nat.reduceEqDiff, Nat.reduceAdd, Nat.reduceSub, Nat.reduceLT, Nat.reduceLeDiff, Nat.reduceMul, Int.reduceEq, Int.reduceLT, Int.reduceLE, Int.reduceAdd, Int.reduceSub, Int.reduceNeg, Int.reduceToNat, reduceCtorEq, ↓reduceIte, part_args, s_iaddr_pv0 e1, s_iaddr_pv0 e2, h]
  rw [show onPV keyCmp t.pv u.pv = keyCmp t u by simp [onPV, tmOf_pv], ek]
theorem keys_ok (ts : List Tm) (hl : Tm.sizes ts < 100000000) (hp : Heap) : S 18 [.pv none (.sl (some 4) (Tm.pvs ts))] hp = some (.ret (.tuple (if validAll ts = true then (if ts.all isPair = true then [.pv none (.sl (some 4) (Tm.pvs (isort keyCmp ts))), .pv none (.int .i64 0)] else [.pv none (.sl (some 4) []), .pv none (.int .i64 3)]) else [.pv none (.sl (some 4) []), .pv none (.int .i64 1)])), hp) := by
  have hv := ovalid_any ts (by omega)
  have hlen := Tm.sizes_len ts
  refine sem_pure rfl rfl rfl (freezeAll_pvs [(none, .sl (some 4) (Tm.pvs ts))]) rfl ?_
  by_cases h : validAll ts = true
  · rw [h] at hv
    simp -dsimp -implicitDefEqProofs only [g18, c18r0, c18r1, c18r2, c18k3, c18r4, c18r5, c18k6, c18r7, c18r8, c18r9, c18k10, c18k11, c18r12, c18b13, c18k14, c18r15, c18, go_sem, collect_lit0, collect_lit1, collect_lit2, collect_lit3, if_true, if_false, true_and, and_true, false_and, and_false, and_self, Nat.zero_add, Nat.add_zero, eq_self, Bool.true_eq_false, Bool.false_eq_true, cond_true, cond_false, decide_eq_true_eq, Bool.not_eq_true', Bool.not_eq_false', decide_eq_false_iff_not, not_true_eq_false, not_false_eq_true, Bool.true_and, Bool.false_and, Bool.and_true, Bool.and_false, Bool.not_true, Bool.not_false, Option.some.injEq, decide_true, decide_false, List.getElem?_cons_zero, List.getElem?_cons_succ, List.length_cons, List.length_nil, List.nil_append, List.cons_append, List.set_cons_zero, List.set_cons_succ, List.take_zero, List.drop_zero, Nat.reduceEqDiff, Nat.reduceAdd, Nat.reduceSub, Nat.reduceLT, Nat.reduceLeDiff, Nat.reduceMul, Int.reduceEq, Int.reduceLT, Int.reduceLE, Int.reduceAdd, Int.reduceSub, Int.reduceNeg, Int.reduceToNat, reduceCtorEq, ↓reduceIte, hv, h, w_nilsl (sh := some 4) (by decide), Tm.pvs_len]
    refine W_loop (fun n st => ∃ i : Nat, n = ts.length - i ∧ i ≤ ts.length ∧ (ts.take i).all isPair = true ∧ st = ⟨[(0, .pv none (.sl (some 4) (Tm.pvs ts))), (9, .pv none (.sl (some 4) (Tm.pvs ts))), (10, .pv none (.int .i64 ts.length)), (11, .pv none (.int .i64 i))], [.arr (some 4) [] false]⟩) (n := ts.length) ⟨0, rfl, Nat.zero_le _, rfl, ?_⟩ ?_
    · simp -dsimp -implicitDefEqProofs only [go_sem, collect_lit0, collect_lit1, collect_lit2, collect_lit3, if_true, if_false, true_and, and_true, false_and, and_false, and_self, Nat.zero_add, Nat.add_zero, eq_self, Bool.true_eq_false, Bool.false_eq_true, cond_true, cond_false, decide_eq_true_eq, Bool.not_eq_true', Bool.not_eq_false', decide_eq_false_iff_not, not_true_eq_false, not_false_eq_true, Bool.true_and, Bool.false_and, Bool.and_true, Bool.and_false, Bool.not_true, Bool.not_false, Option.some.injEq, decide_true, decide_false, List.getElem?_cons_zero, List.getElem?_cons_succ, List.length_cons, List.length_nil, List.nil_append, List.cons_append, List.set_cons_zero, List.set_cons_succ, List.take_zero, List.drop_zero, Nat.reduceEqDiff, Nat.reduceAdd, Nat.reduceSub, Nat.reduceLT, Nat.reduceLeDiff, Nat.reduceMul, Int.reduceEq, Int.reduceLT, Int.reduceLE, Int.reduceAdd, Int.reduceSub, Int.reduceNeg, Int.reduceToNat, reduceCtorEq, ↓reduceIte]
      rfl
    · rintro n st ⟨i, hn, hi, hp, rfl⟩
      by_cases hlt : i < ts.length
      · have hc : (i : Int) < (ts.length : Int) := by omega
        obtain ⟨u, hu⟩ : ∃ u, ts[i]? = some u := ⟨_, List.getElem?_eq_getElem hlt⟩
        have hum := List.mem_of_getElem? hu
        have w2 : IntKind.i64.wrap ((i : Int) + 1) = ((i + 1 : Nat) : Int) := by rw [wrap64 (by omega) (by omega)]; omega
        have hstep : isPair u = true → (ts.take (i + 1)).all isPair = true := fun h => by rw [List.take_add_one, hu]; simp [hp, h]
        have hbad : isPair u = false → ts.all isPair = false := fun h => List.all_eq_false.2 ⟨u, hum, by simp [h]⟩
        (repeat' (first | (simp -dsimp -implicitDefEqProofs only [g18, c18r0, c18r1, c18r2, c18k3, c18r4, c18r5, c18k6, c18r7, c18r8, c18r9, c18k10, c18k11, c18r12, c18b13, c18k14, c18r15, c18, go_sem, collect_lit0, collect_lit1, collect_lit2, collect_lit3, if_true, if_false, true_and, and_true, false_and, and_false, and_self, Nat.zero_add, Nat.add_zero, eq_self, Bool.true_eq_false, Bool.false_eq_true, cond_true, cond_false, decide_eq_true_eq, Bool.not_eq_true', Bool.not_eq_false', decide_eq_false_iff_not, not_true_eq_false, not_false_eq_true, Bool.true_and, Bool.false_and, Bool.and_true, Bool.and_false, Bool.not_true, Bool.not_false, Option.some.injEq, decide_true, decide_false, List.getElem?_cons_zero, List.getElem?_cons_succ, List.length_cons, List.length_nil, List.nil_append, List.cons_append, List.set_cons_zero, List.set_cons_succ, List.take_zero, List.drop_zero, Nat.reduceEqDiff, Nat.reduceAdd, Nat.reduceSub, Nat.reduceLT, Nat.reduceLeDiff, Nat.reduceMul, Int.reduceEq, Int.reduceLT, Int.reduceLE, Int.reduceAdd, Int.reduceSub, Int.reduceNeg, Int.reduceToNat, reduceCtorEq, ↓reduceIte, part_kind, part_n, part_name, part_args, Tm.pvs_len, s_iaddr_pv (Tm.pvs_get hu), w_alloc_agg, w_nilsl (sh := some 4) (by decide), *]) | (refine iteK_intro (fun _ => ?_) (fun _ => ?_))))
        · exact ⟨ts.length - (i + 1), by omega, i + 1, rfl, by omega, hstep (by simp [isPair, *]; omega), rfl⟩
        · rw [hbad (by simp [isPair, *]; omega)]; rfl
        · rw [hbad (by simp [isPair, *])]; rfl
        · rw [hbad (by simp [isPair, *])]; rfl
      · have hc : ¬ (i : Int) < (ts.length : Int) := by omega
        obtain rfl : i = ts.length := by omega
        rw [List.take_length] at hp
        have hcall := fun hp0 => sorted_ok (onPV keyCmp) (onPV_cmp key_cmp) 43 smallPair cmpF_key hp0 ts (fun t ht => validAll_mem h ht) hl (fun t ht => ⟨t, rfl, validAll_mem h ht, by have := Tm.sizes_mem ht; omega, List.all_eq_true.1 hp t ht⟩)
        simp only [isort_pvs] at hcall
        have hle : (Tm.pvs (isort keyCmp ts)).length = ts.length := by rw [Tm.pvs_len, isort_length]
        simp -dsimp -implicitDefEqProofs only [g18, c18r0, c18r1, c18r2, c18k3, c18r4, c18r5, c18k6, c18r7, c18r8, c18r9, c18k10, c18k11, c18r12, c18b13, c18k14, c18r15, c18, go_sem, collect_lit0, collect_lit1, collect_lit2, collect_lit3, if_true, if_false, true_and, and_true, false_and, and_false, and_self, Nat.zero_add, Nat.add_zero, eq_self, Bool.true_eq_false, Bool.false_eq_true, cond_true, cond_false, decide_eq_true_eq, Bool.not_eq_true', Bool.not_eq_false', decide_eq_false_iff_not, not_true_eq_false, not_false_eq_true, Bool.true_and, Bool.false_and, Bool.and_true, Bool.and_false, Bool.not_true, Bool.not_false, Option.some.injEq, decide_true, decide_false, List.getElem?_cons_zero, List.getElem?_cons_succ, List.length_cons, List.length_nil, List.nil_append, List.cons_append, List.set_cons_zero, List.set_cons_succ, List.take_zero, List.drop_zero, Nat.reduceEqDiff, Nat.reduceAdd, Nat.reduceSub, Nat.reduceLT, Nat.reduceLeDiff, Nat.reduceMul, Int.reduceEq, Int.reduceLT, Int.reduceLE, Int.reduceAdd, Int.reduceSub, Int.reduceNeg, Int.reduceToNat, reduceCtorEq, ↓reduceIte, hc, hcall, hp, h, hle]
  · rw [Bool.not_eq_true] at h
    rw [h] at hv
    simp -dsimp -implicitDefEqProofs only [g18, c18r0, c18r1, c18r2, c18k3, c18r4, c18r5, c18k6, c18r7, c18r8, c18r9, c18k10, c18k11, c18r12, c18b13, c18k14, c18r15, c18, go_sem, collect_lit0, collect_lit1, collect_lit2, collect_lit3, if_true, if_false, true_and, and_true, false_and, and_false, and_self, Nat.zero_add, Nat.add_zero, eq_self, Bool.true_eq_false, Bool.false_eq_true, cond_true, cond_false, decide_eq_true_eq, Bool.not_eq_true', Bool.not_eq_false', decide_eq_false_iff_not, not_true_eq_false, not_false_eq_true, Bool.true_and, Bool.false_and, Bool.and_true, Bool.and_false, Bool.not_true, Bool.not_false, Option.some.injEq, decide_true, decide_false, List.getElem?_cons_zero, List.getElem?_cons_succ, List.length_cons, List.length_nil, List.nil_append, List.cons_append, List.set_cons_zero, List.set_cons_succ, List.take_zero, List.drop_zero, Nat.reduceEqDiff, Nat.reduceAdd, Nat.reduceSub, Nat.reduceLT, Nat.reduceLeDiff, Nat.reduceMul, Int.reduceEq, Int.reduceLT, Int.reduceLE, Int.reduceAdd, Int.reduceSub, Int.reduceNeg, Int.reduceToNat, reduceCtorEq, ↓reduceIte, hv, h, w_nilsl (sh := some 4) (by decide)]
end Go.Proofs.Yteaehiceghhajaa
