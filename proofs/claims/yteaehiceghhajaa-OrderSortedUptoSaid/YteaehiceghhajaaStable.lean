/- What is proved: the library's stable sorting sorts as insertion does. -/
import Derived.Test.YteaehiceghhajaaSym
set_option linter.unusedSimpArgs false
set_option linter.unusedVariables false
namespace Go.Proofs.Yteaehiceghhajaa
open Go.Am
section
variable (c : PV → PV → Int) (hC : Cmp c) (g : FuncId) (D : PV → Prop) (hg : CmpF c g D) (hp : Heap) (r : Nat) (hr : r < hp.length) (N : Nat) (hN' : N < 100000000)
include hC hg hr hN'
theorem stable_ok (xs : List PV) (hN : N = xs.length) (hD : ∀ x ∈ xs, D x) :
    S 70 [.sl (some 4) r N 0 N, .pv none (.int .i64 N), .pv none (.func (.func g))] (hp.set r (.arr (some 4) xs false)) = some (.ret (.tuple []), hp.set r (.arr (some 4) (isort c xs) false)) := by
  have hsl : (hp.set r (.arr (some 4) xs false)).length = hp.length := by simp
  refine sem_heap rfl rfl rfl rfl ?_
  rw [hsl]
  simp -dsimp -implicitDefEqProofs only [g70, c70r0, c70r1, c70r2, c70k3, c70r4, c70r5, c70r6, c70k7, c70b8, c70k9, c70r10, c70r11, c70k12, c70r13, c70r14, c70k15, c70r16, c70r17, c70r18, c70k19, c70b20, c70k21, c70r22, c70r23, c70r24, c70k25, c70r26, c70k27, c70b28, c70k29, c70, go_sem, collect_lit0, collect_lit1, collect_lit2, collect_lit3, if_true, if_false, true_and, and_true, false_and, and_false, and_self, Nat.zero_add, Nat.add_zero, eq_self, Bool.true_eq_false, Bool.false_eq_true, cond_true, cond_false, decide_eq_true_eq, Bool.not_eq_true', Bool.not_eq_false', decide_eq_false_iff_not, not_true_eq_false, not_false_eq_true, Bool.true_and, Bool.false_and, Bool.and_true, Bool.and_false, Bool.not_true, Bool.not_false, Option.some.injEq, decide_true, decide_false, List.getElem?_cons_zero, List.getElem?_cons_succ, List.length_cons, List.length_nil, List.nil_append, List.cons_append, List.set_cons_zero, List.set_cons_succ, List.take_zero, List.drop_zero, Nat.reduceEqDiff, Nat.reduceAdd, Nat.reduceSub, Nat.reduceLT, Nat.reduceLeDiff, Nat.reduceMul, Int.reduceEq, Int.reduceLT, Int.reduceLE, Int.reduceAdd, Int.reduceSub, Int.reduceNeg, Int.reduceToNat, reduceCtorEq, ↓reduceIte]
  /- the blocks -/
  refine W_loop (fun n st => ∃ (a : Nat) (Z : List PV), n = N - a ∧ a ≤ N ∧ Full c 20 (xs.take a) Z ∧ st = ⟨[(0, .sl (some 4) r N 0 N), (1, .pv none (.int .i64 N)), (2, .pv none (.func (.func g))), (6, .pv none (.int .i64 20)), (7, .pv none (.int .i64 a)), (8, .pv none (.int .i64 ((a + 20 : Nat) : Int)))], hp.set r (.arr (some 4) (Z ++ xs.drop a) false)⟩) (n := N) ⟨0, [], rfl, Nat.zero_le _, .nil, ?_⟩ ?_
  · simp -dsimp -implicitDefEqProofs only [go_sem, collect_lit0, collect_lit1, collect_lit2, collect_lit3, if_true, if_false, true_and, and_true, false_and, and_false, and_self, Nat.zero_add, Nat.add_zero, eq_self, Bool.true_eq_false, Bool.false_eq_true, cond_true, cond_false, decide_eq_true_eq, Bool.not_eq_true', Bool.not_eq_false', decide_eq_false_iff_not, not_true_eq_false, not_false_eq_true, Bool.true_and, Bool.false_and, Bool.and_true, Bool.and_false, Bool.not_true, Bool.not_false, Option.some.injEq, decide_true, decide_false, List.getElem?_cons_zero, List.getElem?_cons_succ, List.length_cons, List.length_nil, List.nil_append, List.cons_append, List.set_cons_zero, List.set_cons_succ, List.take_zero, List.drop_zero, Nat.reduceEqDiff, Nat.reduceAdd, Nat.reduceSub, Nat.reduceLT, Nat.reduceLeDiff, Nat.reduceMul, Int.reduceEq, Int.reduceLT, Int.reduceLE, Int.reduceAdd, Int.reduceSub, Int.reduceNeg, Int.reduceToNat, reduceCtorEq, ↓reduceIte]
    simp
  · rintro n st ⟨a, Z, hn, ha, hF, rfl⟩
    have hZ : Z.length = a := by rw [hF.length]; simp; omega
    have hD' : ∀ x ∈ xs.drop a, D x := fun x hx => hD x (List.mem_of_mem_drop hx)
    by_cases hb : a + 20 ≤ N
    · have hc : ((a + 20 : Nat) : Int) ≤ (N : Int) := by omega
      have w1 : IntKind.i64.wrap (((a + 20 : Nat) : Int) + 20) = ((a + 20 + 20 : Nat) : Int) := by rw [wrap64 (by omega) (by omega)]; omega
      have hx : (xs.drop a).take 20 ++ (xs.drop a).drop 20 = xs.drop a := List.take_append_drop _ _
      have hl : ((xs.drop a).take 20).length = 20 := by simp; omega
      have hcall := insertion_ok c hC g D hg hp r hr a (a + 20) N Z ((xs.drop a).take 20) ((xs.drop a).drop 20) hZ (by omega) (by simp [hZ]; omega) (by omega) (fun x h => hD' x (List.mem_of_mem_take h))
      rw [show Z ++ (xs.drop a).take 20 ++ (xs.drop a).drop 20 = Z ++ xs.drop a by rw [List.append_assoc, hx]] at hcall
      simp -dsimp -implicitDefEqProofs only [g70, c70r0, c70r1, c70r2, c70k3, c70r4, c70r5, c70r6, c70k7, c70b8, c70k9, c70r10, c70r11, c70k12, c70r13, c70r14, c70k15, c70r16, c70r17, c70r18, c70k19, c70b20, c70k21, c70r22, c70r23, c70r24, c70k25, c70r26, c70k27, c70b28, c70k29, c70, go_sem, collect_lit0, collect_lit1, collect_lit2, collect_lit3, if_true, if_false, true_and, and_true, false_and, and_false, and_self, Nat.zero_add, Nat.add_zero, eq_self, Bool.true_eq_false, Bool.false_eq_true, cond_true, cond_false, decide_eq_true_eq, Bool.not_eq_true', Bool.not_eq_false', decide_eq_false_iff_not, not_true_eq_false, not_false_eq_true, Bool.true_and, Bool.false_and, Bool.and_true, Bool.and_false, Bool.not_true, Bool.not_false, Option.some.injEq, decide_true, decide_false, List.getElem?_cons_zero, List.getElem?_cons_succ, List.length_cons, List.length_nil, List.nil_append, List.cons_append, List.set_cons_zero, List.set_cons_succ, List.take_zero, List.drop_zero, Nat.reduceEqDiff, Nat.reduceAdd, Nat.reduceSub, Nat.reduceLT, Nat.reduceLeDiff, Nat.reduceMul, Int.reduceEq, Int.reduceLT, Int.reduceLE, Int.reduceAdd, Int.reduceSub, Int.reduceNeg, Int.reduceToNat, reduceCtorEq, ↓reduceIte, hc, w1, hcall]
      refine ⟨N - (a + 20), by omega, a + 20, Z ++ isort c ((xs.drop a).take 20), rfl, by omega, ?_, ?_⟩
      · have := Full.snoc (c := c) (n := 20) _ _ _ hl hF
        rwa [← List.take_add] at this
      · rw [collect_id (by simp), List.drop_drop]
    · have hc : ¬ ((a + 20 : Nat) : Int) ≤ (N : Int) := by omega
      have hcall := insertion_ok c hC g D hg hp r hr a N N Z (xs.drop a) [] hZ (by simp; omega) (by simp [hZ]; omega) (by omega) hD'
      simp only [List.append_nil] at hcall
      have hB : Blk c 20 xs (Z ++ isort c (xs.drop a)) := by
        have := hF.blk (.last (xs.drop a) (by simp; omega))
        rwa [List.take_append_drop] at this
      simp -dsimp -implicitDefEqProofs only [g70, c70r0, c70r1, c70r2, c70k3, c70r4, c70r5, c70r6, c70k7, c70b8, c70k9, c70r10, c70r11, c70k12, c70r13, c70r14, c70k15, c70r16, c70r17, c70r18, c70k19, c70b20, c70k21, c70r22, c70r23, c70r24, c70k25, c70r26, c70k27, c70b28, c70k29, c70, go_sem, collect_lit0, collect_lit1, collect_lit2, collect_lit3, if_true, if_false, true_and, and_true, false_and, and_false, and_self, Nat.zero_add, Nat.add_zero, eq_self, Bool.true_eq_false, Bool.false_eq_true, cond_true, cond_false, decide_eq_true_eq, Bool.not_eq_true', Bool.not_eq_false', decide_eq_false_iff_not, not_true_eq_false, not_false_eq_true, Bool.true_and, Bool.false_and, Bool.and_true, Bool.and_false, Bool.not_true, Bool.not_false, Option.some.injEq, decide_true, decide_false, List.getElem?_cons_zero, List.getElem?_cons_succ, List.length_cons, List.length_nil, List.nil_append, List.cons_append, List.set_cons_zero, List.set_cons_succ, List.take_zero, List.drop_zero, Nat.reduceEqDiff, Nat.reduceAdd, Nat.reduceSub, Nat.reduceLT, Nat.reduceLeDiff, Nat.reduceMul, Int.reduceEq, Int.reduceLT, Int.reduceLE, Int.reduceAdd, Int.reduceSub, Int.reduceNeg, Int.reduceToNat, reduceCtorEq, ↓reduceIte, hc, hcall]
      generalize Z ++ isort c (xs.drop a) = d0 at hB
      clear hcall hF hZ hD' ha hn hc hb Z a
      /- the merging -/
      refine W_loop (fun n st => ∃ (bs : Nat) (d : List PV), n = N - bs ∧ 20 ≤ bs ∧ Blk c bs xs d ∧ st = ⟨[(0, .sl (some 4) r N 0 N), (1, .pv none (.int .i64 N)), (2, .pv none (.func (.func g))), (6, .pv none (.int .i64 bs))], hp.set r (.arr (some 4) d false)⟩) (n := N - 20) ⟨20, d0, rfl, Nat.le_refl _, hB, ?_⟩ ?_
      · simp -dsimp -implicitDefEqProofs only [go_sem, collect_lit0, collect_lit1, collect_lit2, collect_lit3, if_true, if_false, true_and, and_true, false_and, and_false, and_self, Nat.zero_add, Nat.add_zero, eq_self, Bool.true_eq_false, Bool.false_eq_true, cond_true, cond_false, decide_eq_true_eq, Bool.not_eq_true', Bool.not_eq_false', decide_eq_false_iff_not, not_true_eq_false, not_false_eq_true, Bool.true_and, Bool.false_and, Bool.and_true, Bool.and_false, Bool.not_true, Bool.not_false, Option.some.injEq, decide_true, decide_false, List.getElem?_cons_zero, List.getElem?_cons_succ, List.length_cons, List.length_nil, List.nil_append, List.cons_append, List.set_cons_zero, List.set_cons_succ, List.take_zero, List.drop_zero, Nat.reduceEqDiff, Nat.reduceAdd, Nat.reduceSub, Nat.reduceLT, Nat.reduceLeDiff, Nat.reduceMul, Int.reduceEq, Int.reduceLT, Int.reduceLE, Int.reduceAdd, Int.reduceSub, Int.reduceNeg, Int.reduceToNat, reduceCtorEq, ↓reduceIte]
        rfl
      · rintro n1 st ⟨bs, d, hn1, hbs, hB, rfl⟩
        by_cases hlt : bs < N
        · have hc : (bs : Int) < (N : Int) := by omega
          have w1 : IntKind.i64.wrap (2 * (bs : Int)) = ((0 + 2 * bs : Nat) : Int) := by rw [wrap64 (by omega) (by omega)]; omega
          have w2 : IntKind.i64.wrap ((bs : Int) * 2) = ((2 * bs : Nat) : Int) := by rw [wrap64 (by omega) (by omega)]; omega
          simp -dsimp -implicitDefEqProofs only [g70, c70r0, c70r1, c70r2, c70k3, c70r4, c70r5, c70r6, c70k7, c70b8, c70k9, c70r10, c70r11, c70k12, c70r13, c70r14, c70k15, c70r16, c70r17, c70r18, c70k19, c70b20, c70k21, c70r22, c70r23, c70r24, c70k25, c70r26, c70k27, c70b28, c70k29, c70, go_sem, collect_lit0, collect_lit1, collect_lit2, collect_lit3, if_true, if_false, true_and, and_true, false_and, and_false, and_self, Nat.zero_add, Nat.add_zero, eq_self, Bool.true_eq_false, Bool.false_eq_true, cond_true, cond_false, decide_eq_true_eq, Bool.not_eq_true', Bool.not_eq_false', decide_eq_false_iff_not, not_true_eq_false, not_false_eq_true, Bool.true_and, Bool.false_and, Bool.and_true, Bool.and_false, Bool.not_true, Bool.not_false, Option.some.injEq, decide_true, decide_false, List.getElem?_cons_zero, List.getElem?_cons_succ, List.length_cons, List.length_nil, List.nil_append, List.cons_append, List.set_cons_zero, List.set_cons_succ, List.take_zero, List.drop_zero, Nat.reduceEqDiff, Nat.reduceAdd, Nat.reduceSub, Nat.reduceLT, Nat.reduceLeDiff, Nat.reduceMul, Int.reduceEq, Int.reduceLT, Int.reduceLE, Int.reduceAdd, Int.reduceSub, Int.reduceNeg, Int.reduceToNat, reduceCtorEq, ↓reduceIte, hc, w1]
          refine W_loop (fun n st => ∃ (a : Nat) (Z d r0 r1 : List PV), n = N - a ∧ a ≤ N ∧ xs = r0 ++ r1 ∧ r0.length = a ∧ Full c (2 * bs) r0 Z ∧ Blk c bs r1 d ∧ st = ⟨[(0, .sl (some 4) r N 0 N), (1, .pv none (.int .i64 N)), (2, .pv none (.func (.func g))), (6, .pv none (.int .i64 bs)), (7, .pv none (.int .i64 a)), (8, .pv none (.int .i64 ((a + 2 * bs : Nat) : Int)))], hp.set r (.arr (some 4) (Z ++ d) false)⟩) (n := N) ⟨0, [], d, [], xs, rfl, Nat.zero_le _, rfl, rfl, .nil, hB, ?_⟩ ?_
          · simp -dsimp -implicitDefEqProofs only [go_sem, collect_lit0, collect_lit1, collect_lit2, collect_lit3, if_true, if_false, true_and, and_true, false_and, and_false, and_self, Nat.zero_add, Nat.add_zero, eq_self, Bool.true_eq_false, Bool.false_eq_true, cond_true, cond_false, decide_eq_true_eq, Bool.not_eq_true', Bool.not_eq_false', decide_eq_false_iff_not, not_true_eq_false, not_false_eq_true, Bool.true_and, Bool.false_and, Bool.and_true, Bool.and_false, Bool.not_true, Bool.not_false, Option.some.injEq, decide_true, decide_false, List.getElem?_cons_zero, List.getElem?_cons_succ, List.length_cons, List.length_nil, List.nil_append, List.cons_append, List.set_cons_zero, List.set_cons_succ, List.take_zero, List.drop_zero, Nat.reduceEqDiff, Nat.reduceAdd, Nat.reduceSub, Nat.reduceLT, Nat.reduceLeDiff, Nat.reduceMul, Int.reduceEq, Int.reduceLT, Int.reduceLE, Int.reduceAdd, Int.reduceSub, Int.reduceNeg, Int.reduceToNat, reduceCtorEq, ↓reduceIte]
            rfl
          · rintro n2 st ⟨a, Z, d, r0, r1, hn2, ha, hxs, hr0, hF, hB1, rfl⟩
            have hZ : Z.length = a := by rw [hF.length, hr0]
            have hl1 : a + r1.length = N := by rw [hN, hxs]; simp [hr0]
            have hDZ : ∀ x ∈ Z ++ d, D x := fun x hx => hD x (by
              rw [hxs]
              rcases List.mem_append.1 hx with h | h
              · exact List.mem_append.2 (.inl (hF.mem.1 h))
              · exact List.mem_append.2 (.inr (hB1.mem.1 h)))
            have w3 : IntKind.i64.wrap ((a : Int) + (bs : Int)) = ((a + bs : Nat) : Int) := by rw [wrap64 (by omega) (by omega)]; omega
            by_cases hb : a + 2 * bs ≤ N
            · have hc2 : ((a + 2 * bs : Nat) : Int) ≤ (N : Int) := by omega
              obtain ⟨x, y, r2, d2, e1, e2, lx, ly, ly0, hB2, hy⟩ := hB1.two (by omega) (by omega)
              have ly' : y.length = bs := by
                rcases Nat.lt_or_ge y.length bs with h | h
                · have := hy h; rw [e1, this] at hl1; simp at hl1; omega
                · omega
              have w4 : IntKind.i64.wrap (2 * (bs : Int)) = ((2 * bs : Nat) : Int) := by rw [wrap64 (by omega) (by omega)]; omega
              have w5 : IntKind.i64.wrap (((a + 2 * bs : Nat) : Int) + ((2 * bs : Nat) : Int)) = ((a + 2 * bs + 2 * bs : Nat) : Int) := by rw [wrap64 (by omega) (by omega)]; omega
              have hld := hB1.length
              have hcall := sym_ok c hC g D hg hp r hr N hN' (2 * bs) a (a + bs) (a + 2 * bs) Z (isort c x) (isort c y) d2 (by omega) hZ (by rw [isort_length, lx]) (by rw [isort_length, ly']; omega) (by rw [e2] at hld; simp [isort_length] at hld ⊢; omega) (by rw [isort_length]; omega) (by rw [isort_length]; omega) (isort_srt hC x) (isort_srt hC y) (fun z hz => hDZ z (by rw [e2]; simpa using hz))
              rw [show Z ++ isort c x ++ isort c y ++ d2 = Z ++ d by rw [e2]; simp, ← isort_append hC] at hcall
              simp -dsimp -implicitDefEqProofs only [g70, c70r0, c70r1, c70r2, c70k3, c70r4, c70r5, c70r6, c70k7, c70b8, c70k9, c70r10, c70r11, c70k12, c70r13, c70r14, c70k15, c70r16, c70r17, c70r18, c70k19, c70b20, c70k21, c70r22, c70r23, c70r24, c70k25, c70r26, c70k27, c70b28, c70k29, c70, go_sem, collect_lit0, collect_lit1, collect_lit2, collect_lit3, if_true, if_false, true_and, and_true, false_and, and_false, and_self, Nat.zero_add, Nat.add_zero, eq_self, Bool.true_eq_false, Bool.false_eq_true, cond_true, cond_false, decide_eq_true_eq, Bool.not_eq_true', Bool.not_eq_false', decide_eq_false_iff_not, not_true_eq_false, not_false_eq_true, Bool.true_and, Bool.false_and, Bool.and_true, Bool.and_false, Bool.not_true, Bool.not_false, Option.some.injEq, decide_true, decide_false, List.getElem?_cons_zero, List.getElem?_cons_succ, List.length_cons, List.length_nil, List.nil_append, List.cons_append, List.set_cons_zero, List.set_cons_succ, List.take_zero, List.drop_zero, Nat.reduceEqDiff, Nat.reduceAdd, Nat.reduceSub, Nat.reduceLT, Nat.reduceLeDiff, Nat.reduceMul, Int.reduceEq, Int.reduceLT, Int.reduceLE, Int.reduceAdd, Int.reduceSub, Int.reduceNeg, Int.reduceToNat, reduceCtorEq, ↓reduceIte, hc2, w3, w4, w5, hcall]
              refine ⟨N - (a + 2 * bs), by omega, a + 2 * bs, Z ++ isort c (x ++ y), d2, r0 ++ (x ++ y), r2, rfl, hb, by rw [hxs, e1]; simp, by simp [hr0, lx, ly']; omega, .snoc _ _ _ (by simp [lx, ly']; omega) hF, hB2, ?_⟩
              rw [collect_id (by simp)]
            · have hc2 : ¬ ((a + 2 * bs : Nat) : Int) ≤ (N : Int) := by omega
              by_cases hm : a + bs < N
              · have hc3 : ((a + bs : Nat) : Int) < (N : Int) := by omega
                obtain ⟨x, y, r2, d2, e1, e2, lx, ly, ly0, hB2, hy⟩ := hB1.two (by omega) (by omega)
                have ly' : y.length < bs := by rw [e1] at hl1; simp at hl1; omega
                have hr2 := hy ly'
                subst hr2
                have hd2 : d2 = [] := List.length_eq_zero_iff.1 hB2.length
                subst hd2
                have hld := hB1.length
                have hcall := sym_ok c hC g D hg hp r hr N hN' (2 * bs) a (a + bs) N Z (isort c x) (isort c y) [] (by omega) hZ (by rw [isort_length, lx]) (by rw [isort_length]; rw [e1] at hl1; simp at hl1; omega) (by rw [e2] at hld; simp [isort_length] at hld ⊢; omega) (by rw [isort_length]; omega) (by rw [isort_length]; omega) (isort_srt hC x) (isort_srt hC y) (fun z hz => hDZ z (by rw [e2]; simpa using hz))
                rw [show Z ++ isort c x ++ isort c y ++ [] = Z ++ d by rw [e2]; simp, ← isort_append hC] at hcall
                simp -dsimp -implicitDefEqProofs only [g70, c70r0, c70r1, c70r2, c70k3, c70r4, c70r5, c70r6, c70k7, c70b8, c70k9, c70r10, c70r11, c70k12, c70r13, c70r14, c70k15, c70r16, c70r17, c70r18, c70k19, c70b20, c70k21, c70r22, c70r23, c70r24, c70k25, c70r26, c70k27, c70b28, c70k29, c70, go_sem, collect_lit0, collect_lit1, collect_lit2, collect_lit3, if_true, if_false, true_and, and_true, false_and, and_false, and_self, Nat.zero_add, Nat.add_zero, eq_self, Bool.true_eq_false, Bool.false_eq_true, cond_true, cond_false, decide_eq_true_eq, Bool.not_eq_true', Bool.not_eq_false', decide_eq_false_iff_not, not_true_eq_false, not_false_eq_true, Bool.true_and, Bool.false_and, Bool.and_true, Bool.and_false, Bool.not_true, Bool.not_false, Option.some.injEq, decide_true, decide_false, List.getElem?_cons_zero, List.getElem?_cons_succ, List.length_cons, List.length_nil, List.nil_append, List.cons_append, List.set_cons_zero, List.set_cons_succ, List.take_zero, List.drop_zero, Nat.reduceEqDiff, Nat.reduceAdd, Nat.reduceSub, Nat.reduceLT, Nat.reduceLeDiff, Nat.reduceMul, Int.reduceEq, Int.reduceLT, Int.reduceLE, Int.reduceAdd, Int.reduceSub, Int.reduceNeg, Int.reduceToNat, reduceCtorEq, ↓reduceIte, hc2, hc3, w2, w3, hcall]
                have hres := hF.blk (.last r1 (by omega : r1.length ≤ 2 * bs))
                rw [← hxs] at hres
                refine ⟨N - 2 * bs, by omega, 2 * bs, Z ++ isort c r1, rfl, by omega, hres, ?_⟩
                rw [collect_id (by simp), e1]
                simp
              · have hc3 : ¬ ((a + bs : Nat) : Int) < (N : Int) := by omega
                have hd := hB1.whole (by omega)
                simp -dsimp -implicitDefEqProofs only [g70, c70r0, c70r1, c70r2, c70k3, c70r4, c70r5, c70r6, c70k7, c70b8, c70k9, c70r10, c70r11, c70k12, c70r13, c70r14, c70k15, c70r16, c70r17, c70r18, c70k19, c70b20, c70k21, c70r22, c70r23, c70r24, c70k25, c70r26, c70k27, c70b28, c70k29, c70, go_sem, collect_lit0, collect_lit1, collect_lit2, collect_lit3, if_true, if_false, true_and, and_true, false_and, and_false, and_self, Nat.zero_add, Nat.add_zero, eq_self, Bool.true_eq_false, Bool.false_eq_true, cond_true, cond_false, decide_eq_true_eq, Bool.not_eq_true', Bool.not_eq_false', decide_eq_false_iff_not, not_true_eq_false, not_false_eq_true, Bool.true_and, Bool.false_and, Bool.and_true, Bool.and_false, Bool.not_true, Bool.not_false, Option.some.injEq, decide_true, decide_false, List.getElem?_cons_zero, List.getElem?_cons_succ, List.length_cons, List.length_nil, List.nil_append, List.cons_append, List.set_cons_zero, List.set_cons_succ, List.take_zero, List.drop_zero, Nat.reduceEqDiff, Nat.reduceAdd, Nat.reduceSub, Nat.reduceLT, Nat.reduceLeDiff, Nat.reduceMul, Int.reduceEq, Int.reduceLT, Int.reduceLE, Int.reduceAdd, Int.reduceSub, Int.reduceNeg, Int.reduceToNat, reduceCtorEq, ↓reduceIte, hc2, hc3, w2, w3]
                have hres := hF.blk (.last r1 (by omega : r1.length ≤ 2 * bs))
                rw [← hxs] at hres
                refine ⟨N - 2 * bs, by omega, 2 * bs, Z ++ isort c r1, rfl, by omega, hres, ?_⟩
                rw [collect_id (by simp), hd]
        · have hc : ¬ (bs : Int) < (N : Int) := by omega
          have hd := hB.whole (by omega)
          simp -dsimp -implicitDefEqProofs only [g70, c70r0, c70r1, c70r2, c70k3, c70r4, c70r5, c70r6, c70k7, c70b8, c70k9, c70r10, c70r11, c70k12, c70r13, c70r14, c70k15, c70r16, c70r17, c70r18, c70k19, c70b20, c70k21, c70r22, c70r23, c70r24, c70k25, c70r26, c70k27, c70b28, c70k29, c70, go_sem, collect_lit0, collect_lit1, collect_lit2, collect_lit3, if_true, if_false, true_and, and_true, false_and, and_false, and_self, Nat.zero_add, Nat.add_zero, eq_self, Bool.true_eq_false, Bool.false_eq_true, cond_true, cond_false, decide_eq_true_eq, Bool.not_eq_true', Bool.not_eq_false', decide_eq_false_iff_not, not_true_eq_false, not_false_eq_true, Bool.true_and, Bool.false_and, Bool.and_true, Bool.and_false, Bool.not_true, Bool.not_false, Option.some.injEq, decide_true, decide_false, List.getElem?_cons_zero, List.getElem?_cons_succ, List.length_cons, List.length_nil, List.nil_append, List.cons_append, List.set_cons_zero, List.set_cons_succ, List.take_zero, List.drop_zero, Nat.reduceEqDiff, Nat.reduceAdd, Nat.reduceSub, Nat.reduceLT, Nat.reduceLeDiff, Nat.reduceMul, Int.reduceEq, Int.reduceLT, Int.reduceLE, Int.reduceAdd, Int.reduceSub, Int.reduceNeg, Int.reduceToNat, reduceCtorEq, ↓reduceIte, hc]
          rw [List.take_of_length_le (by simp), hd]
end
end Go.Proofs.Yteaehiceghhajaa
