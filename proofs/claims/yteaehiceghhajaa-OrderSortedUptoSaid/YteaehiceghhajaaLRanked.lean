/- What is proved: OrderRanked answers true for all lists of terms and terms, where what it reads is of bulk at most 1048576. -/
import Derived.Test.YteaehiceghhajaaRanked
set_option linter.unusedSimpArgs false
set_option linter.unusedVariables false
namespace Go.Proofs.Yteaehiceghhajaa
open Go.Am Go.ChangeShapes Go.WideShapes Go.ChangeAt Go.RowKit
theorem sizes_perm {l r : List Tm} (h : l.Perm r) : Tm.sizes l = Tm.sizes r := by
  induction h with
  | nil => rfl
  | cons x _ ih => simp only [Tm.sizes, ih]
  | swap x y l => simp only [Tm.sizes]; omega
  | trans _ _ h1 h2 => rw [h1, h2]
theorem rank_l (v : AV) (hp : Heap) (l : List Tm) (hL : IsL v hp l) (t : Tm) (hl : Tm.sizes l < 1000000000) (hs : t.size < 1000000000) : S 26 [v, .pv (some 4) t.pv] hp = some (.ret (.tuple [.pv none (.int .i64 (rankI l t)), .pv none (.bool (rankB l t))]), hp) := by
  obtain ⟨hp1, _, hz⟩ := hL.frz
  have hz' := hz []
  simp only [List.append_nil] at hz'
  have h2 : freezeAll [v, .pv (some 4) t.pv] hp = some ([(none, .sl (some 4) (Tm.pvs l)), (some 4, t.pv)], hp1) := by
    have hp2 : ∀ hq, freezeAll [.pv (some 4) t.pv] hq = some ([(some 4, t.pv)], hq) := fun hq => freezeAll_pvs [(some 4, t.pv)]
    rw [freezeAll] at hz' ⊢
    cases hf : AV.freeze deep v hp with
    | none => rw [hf] at hz'; cases hz'
    | some x =>
      obtain ⟨p, hq⟩ := x
      rw [hf] at hz'
      simp only [hp2]
      simp only [freezeAll] at hz'
      simp_all
  exact sem_any rfl rfl rfl h2 (oRank_ok l t hl hs [])
theorem count_l (v : AV) (hp : Heap) (l : List Tm) (hL : IsL v hp l) (t : Tm) (hl : Tm.sizes l < 1000000000) (hs : t.size < 1000000000) : S 32 [v, .pv (some 4) t.pv] hp = some (.ret (.pv none (.int .i64 (cnt l t))), hp) := by
  obtain ⟨hp1, _, hz⟩ := hL.frz
  have hz' := hz []
  simp only [List.append_nil] at hz'
  have h2 : freezeAll [v, .pv (some 4) t.pv] hp = some ([(none, .sl (some 4) (Tm.pvs l)), (some 4, t.pv)], hp1) := by
    have hp2 : ∀ hq, freezeAll [.pv (some 4) t.pv] hq = some ([(some 4, t.pv)], hq) := fun hq => freezeAll_pvs [(some 4, t.pv)]
    rw [freezeAll] at hz' ⊢
    cases hf : AV.freeze deep v hp with
    | none => rw [hf] at hz'; cases hz'
    | some x =>
      obtain ⟨p, hq⟩ := x
      rw [hf] at hz'
      simp only [hp2]
      simp only [freezeAll] at hz'
      simp_all
  exact sem_any rfl rfl rfl h2 (count_pure l t hl hs [])
theorem orderRanked_sem (l : List Tm) (t : Tm) (hl : Tm.sizes l < 10000000) (ht : t.size < 10000000) : S 10 [.pv none (.sl (some 4) (Tm.pvs l)), t.av] [] = some (.ret (.pv none (.bool true)), []) := by
  refine sem_pure rfl rfl rfl (freezeAll_pvs [(none, .sl (some 4) (Tm.pvs l)), (some 4, t.pv)]) rfl ?_
  have hfew := few_ok l (by omega) [.box (some 4) (.pv (some 4) t.pv)]
  have hKs : Tm.sizes (l.take 40) < 10000000 := by have := Tm.sizes_take_le l 40; omega
  simp only [List.length_cons, List.length_nil, Nat.zero_add, List.cons_append, List.nil_append, Nat.reduceAdd] at hfew
  generalize l.take 40 = K at hfew hKs
  have hKl : (Tm.pvs K).length = K.length := Tm.pvs_len K
  have hL : IsL (.sl (some 4) 2 K.length 0 K.length) [.box (some 4) (.pv (some 4) t.pv), .arr (some 4) [] false, .arr (some 4) (Tm.pvs K) false] K := isL_sl (fz := false) rfl hKl (List.take_of_length_le (by omega)) rfl (Nat.le_refl _)
  have h23 : S 23 [.sl (some 4) 2 K.length 0 K.length] [.box (some 4) (.pv (some 4) t.pv), .arr (some 4) [] false, .arr (some 4) (Tm.pvs K) false] = some (.ret (.pv none (.bool (validAll K))), [.box (some 4) (.pv (some 4) t.pv), .arr (some 4) [] false, .arr (some 4) (Tm.pvs K) false]) := by
    obtain ⟨hp1, _, hz⟩ := hL.frz
    exact sem_any rfl rfl rfl (hz []) (lvalid_ok K (by omega))
  have hrv := fun hp => rvalid_ok t hp (by omega)
  have hr0 := rank_l _ _ K hL t (by omega) (by omega)
  have ha := awake_ok
  simp only [Tm.av] at hrv
  by_cases hvv : validAll K = true ∧ t.valid = true
  · obtain ⟨hv, hvt⟩ := hvv
    rw [hv] at h23
    rw [hvt] at hrv
    have hst := sort_ok _ _ K hL (by omega)
    simp only [hv, if_true, List.length_cons, List.length_nil, Nat.zero_add, Nat.reduceAdd, List.cons_append, List.nil_append] at hst
    have hdlt := dd_lt (isort_srt tm_cmp K)
    have hdsz : Tm.sizes (dd (isort Tm.cmp K)) < 10000000 := by
      have h1 := sizes_sub (dd_sub (isort Tm.cmp K))
      have h2 := sizes_perm (isort_perm (c := Tm.cmp) K)
      omega
    have hdv : validAll (dd (isort Tm.cmp K)) = true := List.all_eq_true.2 fun x hx => validAll_mem hv ((isort_perm K).mem_iff.1 (mem_dd.1 hx))
    have hdl : (dd (isort Tm.cmp K)).length ≤ K.length := by have := dd_length (isort Tm.cmp K); rwa [isort_length] at this
    generalize dd (isort Tm.cmp K) = D at hst hdlt hdsz hdv hdl
    generalize K.length = N at *
    have hinc := incr_of hdlt
    have e1 : rankI D t = (lb D t : Int) := if_pos ⟨hvt, hdv, hinc⟩
    have e2 : rankB D t = decide (((cnt D t : Nat) : Int) = 1) := by rw [← found_cnt hdlt hdv]; exact if_pos ⟨hvt, hdv, hinc⟩
    have hpk : (packed N D).length = N := by simp [packed, Tm.pvs_len]; omega
    have hsL : IsL (.sl (some 4) 6 N 0 D.length) [.box (some 4) (.pv (some 4) t.pv), .arr (some 4) [] false, .arr (some 4) (Tm.pvs K) false, .arr (some 4) [] false, .arr (some 4) [] false, .arr (some 4) [] false, .arr (some 4) (packed N D) false] D := isL_sl (fz := false) rfl hpk (by simp [packed, List.take_append_of_le_length, Tm.pvs_len]) rfl hdl
    have hrk := rank_l _ _ D hsL t (by omega) (by omega)
    have hct := count_l _ _ D hsL t (by omega) (by omega)
    rw [e1, e2] at hrk
    have hlb := lb_le D t
    have hlb0 : ¬ ((lb D t : Nat) : Int) < 0 := by omega
    have hlb1 : ¬ (D.length : Int) < ((lb D t : Nat) : Int) := by omega
    simp -dsimp -implicitDefEqProofs only [g10, c10r0, c10r1, c10r2, c10r3, c10r4, c10k5, c10r6, c10r7, c10r8, c10r9, c10k10, c10r11, c10r12, c10k13, c10r14, c10r15, c10k16, c10k17, c10r18, c10b19, c10k20, c10r21, c10r22, c10r23, c10r24, c10k25, c10r26, c10, go_sem, collect_lit0, collect_lit1, collect_lit2, collect_lit3, if_true, if_false, true_and, and_true, false_and, and_false, and_self, Nat.zero_add, Nat.add_zero, eq_self, Bool.true_eq_false, Bool.false_eq_true, cond_true, cond_false, decide_eq_true_eq, Bool.not_eq_true', Bool.not_eq_false', decide_eq_false_iff_not, not_true_eq_false, not_false_eq_true, Bool.true_and, Bool.false_and, Bool.and_true, Bool.and_false, Bool.not_true, Bool.not_false, Option.some.injEq, decide_true, decide_false, List.getElem?_cons_zero, List.getElem?_cons_succ, List.length_cons, List.length_nil, List.nil_append, List.cons_append, List.set_cons_zero, List.set_cons_succ, List.take_zero, List.drop_zero, Nat.reduceEqDiff, Nat.reduceAdd, Nat.reduceSub, Nat.reduceLT, Nat.reduceLeDiff, Nat.reduceMul, Int.reduceEq, Int.reduceLT, Int.reduceLE, Int.reduceAdd, Int.reduceSub, Int.reduceNeg, Int.reduceToNat, reduceCtorEq, ↓reduceIte, Tm.av, hfew, h23, hrv, hst, hrk, hct, hlb0, hlb1, beq_self_eq_true]
    have hDl := Tm.sizes_len D
    have hH : ∀ (k : Nat) (x : Tm), D[k]? = some x → (packed N D)[k]? = some x.pv := fun k x hx => by
      have hk := (List.getElem?_eq_some_iff.1 hx).1
      unfold packed
      rw [List.getElem?_append_left (by rw [Tm.pvs_len]; exact hk)]
      exact Tm.pvs_get hx
    refine W_loop (fun n st => ∃ k : Nat, n = D.length - k ∧ k ≤ D.length ∧ st = ⟨[(3, .ptr 0 0), (7, .sl (some 4) 6 N 0 D.length), (9, .pv none (.int .i64 ((lb D t : Nat) : Int))), (11, .pv none (.int .i64 k))], [.box (some 4) (.pv (some 4) t.pv), .arr (some 4) [] false, .arr (some 4) (Tm.pvs K) false, .arr (some 4) [] false, .arr (some 4) [] false, .arr (some 4) [] false, .arr (some 4) (packed N D) false]⟩) (n := D.length) ⟨0, rfl, Nat.zero_le _, ?_⟩ ?_
    · simp -dsimp -implicitDefEqProofs only [go_sem, collect_lit0, collect_lit1, collect_lit2, collect_lit3, if_true, if_false, true_and, and_true, false_and, and_false, and_self, Nat.zero_add, Nat.add_zero, eq_self, Bool.true_eq_false, Bool.false_eq_true, cond_true, cond_false, decide_eq_true_eq, Bool.not_eq_true', Bool.not_eq_false', decide_eq_false_iff_not, not_true_eq_false, not_false_eq_true, Bool.true_and, Bool.false_and, Bool.and_true, Bool.and_false, Bool.not_true, Bool.not_false, Option.some.injEq, decide_true, decide_false, List.getElem?_cons_zero, List.getElem?_cons_succ, List.length_cons, List.length_nil, List.nil_append, List.cons_append, List.set_cons_zero, List.set_cons_succ, List.take_zero, List.drop_zero, Nat.reduceEqDiff, Nat.reduceAdd, Nat.reduceSub, Nat.reduceLT, Nat.reduceLeDiff, Nat.reduceMul, Int.reduceEq, Int.reduceLT, Int.reduceLE, Int.reduceAdd, Int.reduceSub, Int.reduceNeg, Int.reduceToNat, reduceCtorEq, ↓reduceIte]
      rfl
    · rintro n st ⟨k, hn, hk, rfl⟩
      by_cases hlt : k < D.length
      · have hc : (k : Int) < (D.length : Int) := by omega
        obtain ⟨x, hx⟩ : ∃ x, D[k]? = some x := ⟨_, List.getElem?_eq_getElem hlt⟩
        have hxm := List.mem_of_getElem? hx
        have hsx := Tm.sizes_mem hxm
        have gx := hH k x hx
        have hcall := fun hp => oCmp_ok x t hp (by omega) (by omega)
        simp only [Tm.av, cmpV, validAll_mem hdv hxm, hvt, if_true] at hcall
        have w2 : IntKind.i64.wrap ((k : Int) + 1) = ((k + 1 : Nat) : Int) := by rw [wrap64 (by omega) (by omega)]; omega
        have hsp := lb_spec (t := t) hinc hx
        by_cases h0 : x.cmp t < 0
        · have h1 : (k : Int) < ((lb D t : Nat) : Int) := by have := hsp.1 h0; omega
          simp -dsimp -implicitDefEqProofs only [g10, c10r0, c10r1, c10r2, c10r3, c10r4, c10k5, c10r6, c10r7, c10r8, c10r9, c10k10, c10r11, c10r12, c10k13, c10r14, c10r15, c10k16, c10k17, c10r18, c10b19, c10k20, c10r21, c10r22, c10r23, c10r24, c10k25, c10r26, c10, go_sem, collect_lit0, collect_lit1, collect_lit2, collect_lit3, if_true, if_false, true_and, and_true, false_and, and_false, and_self, Nat.zero_add, Nat.add_zero, eq_self, Bool.true_eq_false, Bool.false_eq_true, cond_true, cond_false, decide_eq_true_eq, Bool.not_eq_true', Bool.not_eq_false', decide_eq_false_iff_not, not_true_eq_false, not_false_eq_true, Bool.true_and, Bool.false_and, Bool.and_true, Bool.and_false, Bool.not_true, Bool.not_false, Option.some.injEq, decide_true, decide_false, List.getElem?_cons_zero, List.getElem?_cons_succ, List.length_cons, List.length_nil, List.nil_append, List.cons_append, List.set_cons_zero, List.set_cons_succ, List.take_zero, List.drop_zero, Nat.reduceEqDiff, Nat.reduceAdd, Nat.reduceSub, Nat.reduceLT, Nat.reduceLeDiff, Nat.reduceMul, Int.reduceEq, Int.reduceLT, Int.reduceLE, Int.reduceAdd, Int.reduceSub, Int.reduceNeg, Int.reduceToNat, reduceCtorEq, ↓reduceIte, hc, s_iaddr_sl hlt, aload_eptr, hpk, gx, hcall, h0, h1, w2, beq_self_eq_true]
          exact ⟨D.length - (k + 1), by omega, k + 1, rfl, by omega, rfl⟩
        · have h1 : ¬ (k : Int) < ((lb D t : Nat) : Int) := fun h => h0 (hsp.2 (by omega))
          simp -dsimp -implicitDefEqProofs only [g10, c10r0, c10r1, c10r2, c10r3, c10r4, c10k5, c10r6, c10r7, c10r8, c10r9, c10k10, c10r11, c10r12, c10k13, c10r14, c10r15, c10k16, c10k17, c10r18, c10b19, c10k20, c10r21, c10r22, c10r23, c10r24, c10k25, c10r26, c10, go_sem, collect_lit0, collect_lit1, collect_lit2, collect_lit3, if_true, if_false, true_and, and_true, false_and, and_false, and_self, Nat.zero_add, Nat.add_zero, eq_self, Bool.true_eq_false, Bool.false_eq_true, cond_true, cond_false, decide_eq_true_eq, Bool.not_eq_true', Bool.not_eq_false', decide_eq_false_iff_not, not_true_eq_false, not_false_eq_true, Bool.true_and, Bool.false_and, Bool.and_true, Bool.and_false, Bool.not_true, Bool.not_false, Option.some.injEq, decide_true, decide_false, List.getElem?_cons_zero, List.getElem?_cons_succ, List.length_cons, List.length_nil, List.nil_append, List.cons_append, List.set_cons_zero, List.set_cons_succ, List.take_zero, List.drop_zero, Nat.reduceEqDiff, Nat.reduceAdd, Nat.reduceSub, Nat.reduceLT, Nat.reduceLeDiff, Nat.reduceMul, Int.reduceEq, Int.reduceLT, Int.reduceLE, Int.reduceAdd, Int.reduceSub, Int.reduceNeg, Int.reduceToNat, reduceCtorEq, ↓reduceIte, hc, s_iaddr_sl hlt, aload_eptr, hpk, gx, hcall, h0, h1, w2, beq_self_eq_true]
          exact ⟨D.length - (k + 1), by omega, k + 1, rfl, by omega, rfl⟩
      · have hc : ¬ (k : Int) < (D.length : Int) := by omega
        by_cases h1 : 1 < D.length
        · have hc1 : 1 < (D.length : Int) := by omega
          obtain ⟨a, b, R, hD⟩ : ∃ a b R, D = a :: b :: R := by
            match D, h1 with
            | a :: b :: R, _ => exact ⟨a, b, R, rfl⟩
          obtain ⟨D2, hD2⟩ : ∃ D2, D2 = b :: a :: R := ⟨_, rfl⟩
          have hab : a.cmp b < 0 := (List.pairwise_cons.1 (hD ▸ hdlt)).1 b (by simp)
          have q0 : sIaddr (some 4) [.sl (some 4) 6 N 0 D.length, .pv none (.int .i64 0)] = some (.eptr (some 4) 6 N (0 + 0) 0) := s_iaddr_sl (i := 0) (by omega)
          have q1 : sIaddr (some 4) [.sl (some 4) 6 N 0 D.length, .pv none (.int .i64 1)] = some (.eptr (some 4) 6 N (0 + 1) 0) := s_iaddr_sl (i := 1) h1
          have g0 : (packed N D)[0]? = some a.pv := hH 0 a (by rw [hD]; rfl)
          have g1 : (packed N D)[1]? = some b.pv := hH 1 b (by rw [hD]; rfl)
          have hN0 : 0 < N := by omega
          have hN1 : 1 < N := by omega
          have hl2 : D2.length = D.length := by rw [hD, hD2]; rfl
          have hsw : ((packed N D).set 0 b.pv).set 1 a.pv = packed N D2 := by rw [hD, hD2]; simp [packed, Tm.pvs]
          have hpk2 : (packed N D2).length = N := by rw [← hsw]; simpa using hpk
          have hsL2 : IsL (.sl (some 4) 6 N 0 D.length) [.box (some 4) (.pv (some 4) t.pv), .arr (some 4) [] false, .arr (some 4) (Tm.pvs K) false, .arr (some 4) [] false, .arr (some 4) [] false, .arr (some 4) [] false, .arr (some 4) (packed N D2) false] D2 := isL_sl (fz := false) rfl hpk2 (by rw [← hl2]; simp [packed, List.take_append_of_le_length, Tm.pvs_len]) hl2 (by omega)
          have hrk2 := rank_l _ _ _ hsL2 t (by rw [hD] at hdsz; rw [hD2]; simp only [Tm.sizes] at hdsz ⊢; omega) (by omega)
          have hni : ¬ Incr D2 := fun h => by
            rw [hD2] at h
            have h0 := h 0 b a rfl rfl
            have := Tm.cmp_neg a b
            omega
          have r1 : rankI D2 t = 0 := if_neg fun h => hni h.2.2
          have r2 : rankB D2 t = false := if_neg fun h => hni h.2.2
          rw [r1, r2] at hrk2
          clear hrk hct hst hfew hr0 h23 hsL hsL2 hL hH
          simp -dsimp -implicitDefEqProofs only [g10, c10r0, c10r1, c10r2, c10r3, c10r4, c10k5, c10r6, c10r7, c10r8, c10r9, c10k10, c10r11, c10r12, c10k13, c10r14, c10r15, c10k16, c10k17, c10r18, c10b19, c10k20, c10r21, c10r22, c10r23, c10r24, c10k25, c10r26, c10, go_sem, collect_lit0, collect_lit1, collect_lit2, collect_lit3, if_true, if_false, true_and, and_true, false_and, and_false, and_self, Nat.zero_add, Nat.add_zero, eq_self, Bool.true_eq_false, Bool.false_eq_true, cond_true, cond_false, decide_eq_true_eq, Bool.not_eq_true', Bool.not_eq_false', decide_eq_false_iff_not, not_true_eq_false, not_false_eq_true, Bool.true_and, Bool.false_and, Bool.and_true, Bool.and_false, Bool.not_true, Bool.not_false, Option.some.injEq, decide_true, decide_false, List.getElem?_cons_zero, List.getElem?_cons_succ, List.length_cons, List.length_nil, List.nil_append, List.cons_append, List.set_cons_zero, List.set_cons_succ, List.take_zero, List.drop_zero, Nat.reduceEqDiff, Nat.reduceAdd, Nat.reduceSub, Nat.reduceLT, Nat.reduceLeDiff, Nat.reduceMul, Int.reduceEq, Int.reduceLT, Int.reduceLE, Int.reduceAdd, Int.reduceSub, Int.reduceNeg, Int.reduceToNat, reduceCtorEq, ↓reduceIte, hc, hc1, q0, q1, aload_eptr, w_store_eptr, hpk, g0, g1, hN0, hN1, hsw, hrk2, ha, List.length_set]
        · have hc1 : ¬ 1 < (D.length : Int) := by omega
          simp -dsimp -implicitDefEqProofs only [g10, c10r0, c10r1, c10r2, c10r3, c10r4, c10k5, c10r6, c10r7, c10r8, c10r9, c10k10, c10r11, c10r12, c10k13, c10r14, c10r15, c10k16, c10k17, c10r18, c10b19, c10k20, c10r21, c10r22, c10r23, c10r24, c10k25, c10r26, c10, go_sem, collect_lit0, collect_lit1, collect_lit2, collect_lit3, if_true, if_false, true_and, and_true, false_and, and_false, and_self, Nat.zero_add, Nat.add_zero, eq_self, Bool.true_eq_false, Bool.false_eq_true, cond_true, cond_false, decide_eq_true_eq, Bool.not_eq_true', Bool.not_eq_false', decide_eq_false_iff_not, not_true_eq_false, not_false_eq_true, Bool.true_and, Bool.false_and, Bool.and_true, Bool.and_false, Bool.not_true, Bool.not_false, Option.some.injEq, decide_true, decide_false, List.getElem?_cons_zero, List.getElem?_cons_succ, List.length_cons, List.length_nil, List.nil_append, List.cons_append, List.set_cons_zero, List.set_cons_succ, List.take_zero, List.drop_zero, Nat.reduceEqDiff, Nat.reduceAdd, Nat.reduceSub, Nat.reduceLT, Nat.reduceLeDiff, Nat.reduceMul, Int.reduceEq, Int.reduceLT, Int.reduceLE, Int.reduceAdd, Int.reduceSub, Int.reduceNeg, Int.reduceToNat, reduceCtorEq, ↓reduceIte, hc, hc1, ha]
  · have e1 : rankI K t = 0 := if_neg fun h => hvv ⟨h.2.1, h.1⟩
    have e2 : rankB K t = false := if_neg fun h => hvv ⟨h.2.1, h.1⟩
    rw [e1, e2] at hr0
    by_cases hv : validAll K = true
    · have hvt : t.valid = false := by simpa using fun h => hvv ⟨hv, h⟩
      rw [hv] at h23
      rw [hvt] at hrv
      (repeat' (first | (simp -dsimp -implicitDefEqProofs only [g10, c10r0, c10r1, c10r2, c10r3, c10r4, c10k5, c10r6, c10r7, c10r8, c10r9, c10k10, c10r11, c10r12, c10k13, c10r14, c10r15, c10k16, c10k17, c10r18, c10b19, c10k20, c10r21, c10r22, c10r23, c10r24, c10k25, c10r26, c10, go_sem, collect_lit0, collect_lit1, collect_lit2, collect_lit3, if_true, if_false, true_and, and_true, false_and, and_false, and_self, Nat.zero_add, Nat.add_zero, eq_self, Bool.true_eq_false, Bool.false_eq_true, cond_true, cond_false, decide_eq_true_eq, Bool.not_eq_true', Bool.not_eq_false', decide_eq_false_iff_not, not_true_eq_false, not_false_eq_true, Bool.true_and, Bool.false_and, Bool.and_true, Bool.and_false, Bool.not_true, Bool.not_false, Option.some.injEq, decide_true, decide_false, List.getElem?_cons_zero, List.getElem?_cons_succ, List.length_cons, List.length_nil, List.nil_append, List.cons_append, List.set_cons_zero, List.set_cons_succ, List.take_zero, List.drop_zero, Nat.reduceEqDiff, Nat.reduceAdd, Nat.reduceSub, Nat.reduceLT, Nat.reduceLeDiff, Nat.reduceMul, Int.reduceEq, Int.reduceLT, Int.reduceLE, Int.reduceAdd, Int.reduceSub, Int.reduceNeg, Int.reduceToNat, reduceCtorEq, ↓reduceIte, Tm.av, *]) | (refine iteK_intro (fun _ => ?_) (fun _ => ?_))))
    · rw [Bool.not_eq_true] at hv
      rw [hv] at h23
      (repeat' (first | (simp -dsimp -implicitDefEqProofs only [g10, c10r0, c10r1, c10r2, c10r3, c10r4, c10k5, c10r6, c10r7, c10r8, c10r9, c10k10, c10r11, c10r12, c10k13, c10r14, c10r15, c10k16, c10k17, c10r18, c10b19, c10k20, c10r21, c10r22, c10r23, c10r24, c10k25, c10r26, c10, go_sem, collect_lit0, collect_lit1, collect_lit2, collect_lit3, if_true, if_false, true_and, and_true, false_and, and_false, and_self, Nat.zero_add, Nat.add_zero, eq_self, Bool.true_eq_false, Bool.false_eq_true, cond_true, cond_false, decide_eq_true_eq, Bool.not_eq_true', Bool.not_eq_false', decide_eq_false_iff_not, not_true_eq_false, not_false_eq_true, Bool.true_and, Bool.false_and, Bool.and_true, Bool.and_false, Bool.not_true, Bool.not_false, Option.some.injEq, decide_true, decide_false, List.getElem?_cons_zero, List.getElem?_cons_succ, List.length_cons, List.length_nil, List.nil_append, List.cons_append, List.set_cons_zero, List.set_cons_succ, List.take_zero, List.drop_zero, Nat.reduceEqDiff, Nat.reduceAdd, Nat.reduceSub, Nat.reduceLT, Nat.reduceLeDiff, Nat.reduceMul, Int.reduceEq, Int.reduceLT, Int.reduceLE, Int.reduceAdd, Int.reduceSub, Int.reduceNeg, Int.reduceToNat, reduceCtorEq, ↓reduceIte, Tm.av, *]) | (refine iteK_intro (fun _ => ?_) (fun _ => ?_))))
set_option maxRecDepth 100000 in
theorem orderRanked_lifted (os : Os) (started : os.Started) (H : Type) (enc : TypeId × Value → H) (F : Stop.Interp) :
    ReturnsInHanded {} Try.checked os 10 .any ((Rows.OpenSpec.upto Rows.orderRankedSpec).pre6 enc Try.prog Try.f10 Rows.orderRankedUptoRow.domain false) (((Rows.OpenSpec.upto Rows.orderRankedSpec).at F).post enc Try.prog Try.f10 false true false false) := by
  refine returnsInHanded_of_cond (C := Try.checked) (s := (Rows.OpenSpec.upto Rows.orderRankedSpec)) (k := Rows.uptoSmall) rfl Try.own started (by kernel_rfl) Try.func10
    (OpenSpec.witness (enc := enc) (C := Try.checked) (s := (Rows.OpenSpec.upto Rows.orderRankedSpec)) (k := Rows.uptoSmall) rfl false ⟨#[], #[.slice none 0 0, .agg #[.int .i64 0, .int .i64 0, .string ⟨#[]⟩, .slice none 0 0]], []⟩ 8 (by kernel_rfl) (by kernel_rfl) (by kernel_rfl)
      (x := ([.nil, .agg [.lit (.int .i64 0), .lit (.int .i64 0), .lit (.string []), .nil]], [], [])) (by kernel_rfl) rfl (by kernel_rfl)) ?_
  intro W base args ds gs before hval0 hW _ hk _
  have hval : ∀ (j : Nat) t v, Try.f10.params[j]? = some t → args[j]? = some v → Value.okWide Try.prog W .any base t v := hval0
  have hb := bulk_bound hk
  have hW' := hW
  obtain ⟨p, q, hA0, hV, rfl, hfz, hnd⟩ := hW
  have hA : DataW.TrodAll enc Try.prog W 0 (fun _ => true) true Try.f10.params.toList args.toList ds p := hA0
  rw [Try.params10] at hA hval
  clear hA0 hval0
  obtain ⟨v0, vs0, d0, ds0, p0, q0, e0, rfl, rfl, h0, r0'⟩ := trodAll_cons hA
  obtain ⟨v1, vs1, d1, ds1, p1, q1, e1, rfl, rfl, h1, r1'⟩ := trodAll_cons r0'
  obtain ⟨e2, rfl, rfl⟩ := trodAll_nil r1'
  subst e2
  subst e1
  obtain rfl : args = #[v0, v1] := by cases args; simp_all
  obtain ⟨rfl, rfl⟩ := trodVars_none hV
  obtain ⟨t0, a0, z0, r0⟩ := open_terms h0 (hval 0 _ v0 rfl rfl)
  obtain ⟨t1, a1, z1, r1⟩ := open_term h1 (hval 1 _ v1 rfl rfl)
  simp only [Rows.uptoBulkAll, List.append_nil] at hb
  exact law_contract sound Try.func10 (by kernel_rfl) Try.laidOut (s := Rows.orderRankedSpec) rfl rfl hW' (.cons a0 (.cons a1 (.nil))) (orderRanked_sem t0 t1 (by omega) (by omega))
theorem orderRanked_holds : Rows.OrderRankedUptoSaid :=
  OpenClaim.holds_of_cond 10 Try.f10 rfl rfl rfl rfl rfl rfl rfl ⟨rfl, rfl, rfl, rfl, rfl⟩ rfl rfl rfl rfl rfl (by kernel_rfl) Try.func10 (by kernel_rfl)
    (of_decide_eq_true (by kernel_rfl)) (by unfold Func.isWrapper; first | (rw [if_pos (by decide +kernel)]; kernel_rfl) | (rw [if_neg (by decide +kernel)]; exact ⟨rfl, rfl⟩))
    (fun os started H enc _ F => orderRanked_lifted os started H enc F)
end Go.Proofs.Yteaehiceghhajaa
