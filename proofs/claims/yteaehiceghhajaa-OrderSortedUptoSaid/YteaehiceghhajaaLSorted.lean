/- What is proved: OrderSorted answers true for all lists of terms and of swaps, where what it reads is of bulk at most 1048576. -/
import Derived.Test.YteaehiceghhajaaSame2
import Derived.Test.YteaehiceghhajaaLRanked
import Derived.Test.YteaehiceghhajaaData2
set_option linter.unusedSimpArgs false
set_option linter.unusedVariables false
namespace Go.Proofs.Yteaehiceghhajaa
open Go.Am Go.ChangeShapes Go.WideShapes Go.ChangeAt Go.RowKit
theorem lb_self {D : List Tm} {k : Nat} {t : Tm} (h : D.Pairwise fun x y => x.cmp y < 0) (hk : D[k]? = some t) : lb D t = k := by
  have hi := incr_of h
  have h1 : lb D t ≤ k := by
    have := lb_spec (t := t) hi hk
    rw [Tm.cmp_self] at this
    omega
  rcases Nat.lt_or_eq_of_le h1 with hlt | heq
  · obtain ⟨g, g'⟩ := List.getElem?_eq_some_iff.1 hk
    obtain ⟨x, hx⟩ : ∃ x, D[lb D t]? = some x := ⟨_, List.getElem?_eq_getElem (by omega)⟩
    have h3 := lb_spec (t := t) hi hx
    obtain ⟨g1, g1'⟩ := List.getElem?_eq_some_iff.1 hx
    have h4 := List.pairwise_iff_getElem.1 h _ _ g1 g hlt
    rw [g1', g'] at h4
    omega
  · exact heq
theorem swap_perm {M : List Tm} {i j : Nat} {x y : Tm} (hx : M[i]? = some x) (hy : M[j]? = some y) : ((M.set i y).set j x).Perm M := by
  obtain ⟨h1, rfl⟩ := List.getElem?_eq_some_iff.1 hx
  obtain ⟨h2, rfl⟩ := List.getElem?_eq_some_iff.1 hy
  exact List.set_set_perm h1 h2
section
variable (K : List Tm) (N : Nat) (hN : K.length = N) (h40 : N ≤ 40) (hK : Tm.sizes K < 10000000)
include hN h40 hK
theorem swaps_loop (sw : List Int) (hsw : ∀ x ∈ sw, 0 ≤ x ∧ x < 256) (hswl : sw.length < 1000000000) (Q : AExit → St → Prop)
    (hQ : ∀ (M : List Tm) (k : Nat), M.Perm K → Q .normal ⟨[(0, .sl (some 4) 1 N 0 N), (1, .pv none (.sl none (sw.map (.int .u8)))), (5, .sl (some 4) 3 N 0 N), (6, .pv none (.int .i64 k)), (44, .pv none (.bool false))], [.arr (some 4) [] false, .arr (some 4) (Tm.pvs K) false, .arr (some 4) [] false, .arr (some 4) (Tm.pvs M) false]⟩) :
    W (sem (find tab) prim) (sloop (find tab) prim) 0 c8k14 ⟨[(0, .sl (some 4) 1 N 0 N), (1, .pv none (.sl none (sw.map (.int .u8)))), (5, .sl (some 4) 3 N 0 N), (6, .pv none (.int .i64 0))], [.arr (some 4) [] false, .arr (some 4) (Tm.pvs K) false, .arr (some 4) [] false, .arr (some 4) (Tm.pvs K) false]⟩ Q := by
  have _u := hK
  simp -dsimp -implicitDefEqProofs only [g8, c8r0, c8r1, c8r2, c8r3, c8k4, c8r5, c8r6, c8r7, c8k8, c8r9, c8r10, c8k11, c8r12, c8k14, c8r15, c8r16, c8r17, c8r18, c8r19, c8r20, c8r21, c8k22, c8r23, c8r24, c8k25, c8r26, c8r27, c8k28, c8r29, c8r30, c8k31, c8k32, c8r33, c8b34, c8k35, c8r36, c8r37, c8k38, c8r39, c8r40, c8k41, c8k42, c8r43, c8b44, c8k45, c8r46, c8r47, c8k48, c8r49, c8r50, c8k51, c8r52, c8r53, c8r54, c8k55, c8k56, c8r57, c8b58, c8k59, c8r60, c8, go_sem, collect_lit0, collect_lit1, collect_lit2, collect_lit3, if_true, if_false, true_and, and_true, false_and, and_false, and_self, Nat.zero_add, Nat.add_zero, eq_self, Bool.true_eq_false, Bool.false_eq_true, cond_true, cond_false, decide_eq_true_eq, Bool.not_eq_true', Bool.not_eq_false', decide_eq_false_iff_not, not_true_eq_false, not_false_eq_true, Bool.true_and, Bool.false_and, Bool.and_true, Bool.and_false, Bool.not_true, Bool.not_false, Option.some.injEq, decide_true, decide_false, List.getElem?_cons_zero, List.getElem?_cons_succ, List.length_cons, List.length_nil, List.nil_append, List.cons_append, List.set_cons_zero, List.set_cons_succ, List.take_zero, List.drop_zero, Nat.reduceEqDiff, Nat.reduceAdd, Nat.reduceSub, Nat.reduceLT, Nat.reduceLeDiff, Nat.reduceMul, Int.reduceEq, Int.reduceLT, Int.reduceLE, Int.reduceAdd, Int.reduceSub, Int.reduceNeg, Int.reduceToNat, reduceCtorEq, ↓reduceIte]
  refine W_loop (fun n st => ∃ (M : List Tm) (k : Nat), n = sw.length - k ∧ k ≤ 60 ∧ k ≤ sw.length ∧ M.Perm K ∧ st = ⟨[(0, .sl (some 4) 1 N 0 N), (1, .pv none (.sl none (sw.map (.int .u8)))), (5, .sl (some 4) 3 N 0 N), (6, .pv none (.int .i64 k))], [.arr (some 4) [] false, .arr (some 4) (Tm.pvs K) false, .arr (some 4) [] false, .arr (some 4) (Tm.pvs M) false]⟩) (n := sw.length) ⟨K, 0, rfl, by omega, by omega, List.Perm.refl _, ?_⟩ ?_
  · simp -dsimp -implicitDefEqProofs only [go_sem, collect_lit0, collect_lit1, collect_lit2, collect_lit3, if_true, if_false, true_and, and_true, false_and, and_false, and_self, Nat.zero_add, Nat.add_zero, eq_self, Bool.true_eq_false, Bool.false_eq_true, cond_true, cond_false, decide_eq_true_eq, Bool.not_eq_true', Bool.not_eq_false', decide_eq_false_iff_not, not_true_eq_false, not_false_eq_true, Bool.true_and, Bool.false_and, Bool.and_true, Bool.and_false, Bool.not_true, Bool.not_false, Option.some.injEq, decide_true, decide_false, List.getElem?_cons_zero, List.getElem?_cons_succ, List.length_cons, List.length_nil, List.nil_append, List.cons_append, List.set_cons_zero, List.set_cons_succ, List.take_zero, List.drop_zero, Nat.reduceEqDiff, Nat.reduceAdd, Nat.reduceSub, Nat.reduceLT, Nat.reduceLeDiff, Nat.reduceMul, Int.reduceEq, Int.reduceLT, Int.reduceLE, Int.reduceAdd, Int.reduceSub, Int.reduceNeg, Int.reduceToNat, reduceCtorEq, ↓reduceIte]
    rfl
  · rintro n st ⟨M, k, hn, hk, hks, hM, rfl⟩
    have hMl : M.length = N := by rw [hM.length_eq, hN]
    have hlen : (sw.map (PV.int .u8)).length = sw.length := by simp
    by_cases h : k < sw.length
    · have hc : (k : Int) < (sw.length : Int) := by omega
      by_cases h60 : k < 60
      · have hc' : (k : Int) < 60 := by omega
        by_cases h0 : N = 0
        · have hc0 : ¬ 0 < (N : Int) := by omega
          simp -dsimp -implicitDefEqProofs only [g8, c8r0, c8r1, c8r2, c8r3, c8k4, c8r5, c8r6, c8r7, c8k8, c8r9, c8r10, c8k11, c8r12, c8b13, c8k14, c8r15, c8r16, c8r17, c8r18, c8r19, c8r20, c8r21, c8k22, c8r23, c8r24, c8k25, c8r26, c8r27, c8k28, c8r29, c8r30, c8k31, c8k32, c8r33, c8b34, c8k35, c8r36, c8r37, c8k38, c8r39, c8r40, c8k41, c8k42, c8r43, c8b44, c8k45, c8r46, c8r47, c8k48, c8r49, c8r50, c8k51, c8r52, c8r53, c8r54, c8k55, c8k56, c8r57, c8b58, c8k59, c8r60, c8, go_sem, collect_lit0, collect_lit1, collect_lit2, collect_lit3, if_true, if_false, true_and, and_true, false_and, and_false, and_self, Nat.zero_add, Nat.add_zero, eq_self, Bool.true_eq_false, Bool.false_eq_true, cond_true, cond_false, decide_eq_true_eq, Bool.not_eq_true', Bool.not_eq_false', decide_eq_false_iff_not, not_true_eq_false, not_false_eq_true, Bool.true_and, Bool.false_and, Bool.and_true, Bool.and_false, Bool.not_true, Bool.not_false, Option.some.injEq, decide_true, decide_false, List.getElem?_cons_zero, List.getElem?_cons_succ, List.length_cons, List.length_nil, List.nil_append, List.cons_append, List.set_cons_zero, List.set_cons_succ, List.take_zero, List.drop_zero, Nat.reduceEqDiff, Nat.reduceAdd, Nat.reduceSub, Nat.reduceLT, Nat.reduceLeDiff, Nat.reduceMul, Int.reduceEq, Int.reduceLT, Int.reduceLE, Int.reduceAdd, Int.reduceSub, Int.reduceNeg, Int.reduceToNat, reduceCtorEq, ↓reduceIte, hlen, hc, hc', hc0]
          exact hQ M k hM
        · have hc0 : 0 < (N : Int) := by omega
          have hne : (N : Int) ≠ 0 := by omega
          obtain ⟨x, hx⟩ : ∃ x, sw[k]? = some x := ⟨_, List.getElem?_eq_getElem h⟩
          obtain ⟨x0, x1⟩ := hsw x (List.mem_of_getElem? hx)
          obtain ⟨m, rfl⟩ := Int.eq_ofNat_of_zero_le x0
          have gx : (sw.map (PV.int .u8))[k]? = some (.int .u8 m) := by rw [List.getElem?_map, hx]; rfl
          have wx : IntKind.i64.wrap (m : Int) = m := wrap64 (by omega) (by omega)
          have e1 : (k : Int).tmod (N : Int) = ((k % N : Nat) : Int) := by rw [Int.tmod_eq_emod_of_nonneg (by omega)]; omega
          have e2 : (m : Int).tmod (N : Int) = ((m % N : Nat) : Int) := by rw [Int.tmod_eq_emod_of_nonneg x0]; omega
          have l1 : k % N < N := Nat.mod_lt _ (by omega)
          have l2 : m % N < N := Nat.mod_lt _ (by omega)
          generalize k % N = i at e1 l1
          generalize m % N = j at e2 l2
          obtain ⟨a, ha⟩ : ∃ a, M[i]? = some a := ⟨_, List.getElem?_eq_getElem (by omega)⟩
          obtain ⟨b, hb⟩ : ∃ b, M[j]? = some b := ⟨_, List.getElem?_eq_getElem (by omega)⟩
          have w2 : IntKind.i64.wrap ((k : Int) + 1) = ((k + 1 : Nat) : Int) := by rw [wrap64 (by omega) (by omega)]; omega
          have hpl := Tm.pvs_len M
          rw [hMl] at hpl
          have hst : ((Tm.pvs M).set i b.pv).set j a.pv = Tm.pvs ((M.set i b).set j a) := by simp [Tm.pvs_map, List.map_set]
          have hstl : ((Tm.pvs M).set i b.pv).length = N := by rw [List.length_set, hpl]
          simp -dsimp -implicitDefEqProofs only [g8, c8r0, c8r1, c8r2, c8r3, c8k4, c8r5, c8r6, c8r7, c8k8, c8r9, c8r10, c8k11, c8r12, c8b13, c8k14, c8r15, c8r16, c8r17, c8r18, c8r19, c8r20, c8r21, c8k22, c8r23, c8r24, c8k25, c8r26, c8r27, c8k28, c8r29, c8r30, c8k31, c8k32, c8r33, c8b34, c8k35, c8r36, c8r37, c8k38, c8r39, c8r40, c8k41, c8k42, c8r43, c8b44, c8k45, c8r46, c8r47, c8k48, c8r49, c8r50, c8k51, c8r52, c8r53, c8r54, c8k55, c8k56, c8r57, c8b58, c8k59, c8r60, c8, go_sem, collect_lit0, collect_lit1, collect_lit2, collect_lit3, if_true, if_false, true_and, and_true, false_and, and_false, and_self, Nat.zero_add, Nat.add_zero, eq_self, Bool.true_eq_false, Bool.false_eq_true, cond_true, cond_false, decide_eq_true_eq, Bool.not_eq_true', Bool.not_eq_false', decide_eq_false_iff_not, not_true_eq_false, not_false_eq_true, Bool.true_and, Bool.false_and, Bool.and_true, Bool.and_false, Bool.not_true, Bool.not_false, Option.some.injEq, decide_true, decide_false, List.getElem?_cons_zero, List.getElem?_cons_succ, List.length_cons, List.length_nil, List.nil_append, List.cons_append, List.set_cons_zero, List.set_cons_succ, List.take_zero, List.drop_zero, Nat.reduceEqDiff, Nat.reduceAdd, Nat.reduceSub, Nat.reduceLT, Nat.reduceLeDiff, Nat.reduceMul, Int.reduceEq, Int.reduceLT, Int.reduceLE, Int.reduceAdd, Int.reduceSub, Int.reduceNeg, Int.reduceToNat, reduceCtorEq, ↓reduceIte, hlen, hc, hc', hc0, i_rem hne, e1, e2, wx, s_iaddr_pv gx, s_iaddr_sl l1, s_iaddr_sl l2, aload_eptr, w_store_eptr, hpl, hstl, l1, l2, Tm.pvs_get ha, Tm.pvs_get hb, w2, hst]
          exact ⟨sw.length - (k + 1), by omega, (M.set i b).set j a, k + 1, rfl, by omega, by omega, (swap_perm ha hb).trans hM, rfl⟩
      · have hc' : ¬ (k : Int) < 60 := by omega
        simp -dsimp -implicitDefEqProofs only [g8, c8r0, c8r1, c8r2, c8r3, c8k4, c8r5, c8r6, c8r7, c8k8, c8r9, c8r10, c8k11, c8r12, c8b13, c8k14, c8r15, c8r16, c8r17, c8r18, c8r19, c8r20, c8r21, c8k22, c8r23, c8r24, c8k25, c8r26, c8r27, c8k28, c8r29, c8r30, c8k31, c8k32, c8r33, c8b34, c8k35, c8r36, c8r37, c8k38, c8r39, c8r40, c8k41, c8k42, c8r43, c8b44, c8k45, c8r46, c8r47, c8k48, c8r49, c8r50, c8k51, c8r52, c8r53, c8r54, c8k55, c8k56, c8r57, c8b58, c8k59, c8r60, c8, go_sem, collect_lit0, collect_lit1, collect_lit2, collect_lit3, if_true, if_false, true_and, and_true, false_and, and_false, and_self, Nat.zero_add, Nat.add_zero, eq_self, Bool.true_eq_false, Bool.false_eq_true, cond_true, cond_false, decide_eq_true_eq, Bool.not_eq_true', Bool.not_eq_false', decide_eq_false_iff_not, not_true_eq_false, not_false_eq_true, Bool.true_and, Bool.false_and, Bool.and_true, Bool.and_false, Bool.not_true, Bool.not_false, Option.some.injEq, decide_true, decide_false, List.getElem?_cons_zero, List.getElem?_cons_succ, List.length_cons, List.length_nil, List.nil_append, List.cons_append, List.set_cons_zero, List.set_cons_succ, List.take_zero, List.drop_zero, Nat.reduceEqDiff, Nat.reduceAdd, Nat.reduceSub, Nat.reduceLT, Nat.reduceLeDiff, Nat.reduceMul, Int.reduceEq, Int.reduceLT, Int.reduceLE, Int.reduceAdd, Int.reduceSub, Int.reduceNeg, Int.reduceToNat, reduceCtorEq, ↓reduceIte, hlen, hc, hc']
        exact hQ M k hM
    · have hc : ¬ (k : Int) < (sw.length : Int) := by omega
      simp -dsimp -implicitDefEqProofs only [g8, c8r0, c8r1, c8r2, c8r3, c8k4, c8r5, c8r6, c8r7, c8k8, c8r9, c8r10, c8k11, c8r12, c8b13, c8k14, c8r15, c8r16, c8r17, c8r18, c8r19, c8r20, c8r21, c8k22, c8r23, c8r24, c8k25, c8r26, c8r27, c8k28, c8r29, c8r30, c8k31, c8k32, c8r33, c8b34, c8k35, c8r36, c8r37, c8k38, c8r39, c8r40, c8k41, c8k42, c8r43, c8b44, c8k45, c8r46, c8r47, c8k48, c8r49, c8r50, c8k51, c8r52, c8r53, c8r54, c8k55, c8k56, c8r57, c8b58, c8k59, c8r60, c8, go_sem, collect_lit0, collect_lit1, collect_lit2, collect_lit3, if_true, if_false, true_and, and_true, false_and, and_false, and_self, Nat.zero_add, Nat.add_zero, eq_self, Bool.true_eq_false, Bool.false_eq_true, cond_true, cond_false, decide_eq_true_eq, Bool.not_eq_true', Bool.not_eq_false', decide_eq_false_iff_not, not_true_eq_false, not_false_eq_true, Bool.true_and, Bool.false_and, Bool.and_true, Bool.and_false, Bool.not_true, Bool.not_false, Option.some.injEq, decide_true, decide_false, List.getElem?_cons_zero, List.getElem?_cons_succ, List.length_cons, List.length_nil, List.nil_append, List.cons_append, List.set_cons_zero, List.set_cons_succ, List.take_zero, List.drop_zero, Nat.reduceEqDiff, Nat.reduceAdd, Nat.reduceSub, Nat.reduceLT, Nat.reduceLeDiff, Nat.reduceMul, Int.reduceEq, Int.reduceLT, Int.reduceLE, Int.reduceAdd, Int.reduceSub, Int.reduceNeg, Int.reduceToNat, reduceCtorEq, ↓reduceIte, hlen, hc]
      exact hQ M k hM
end
theorem settleO_sl (s : Nat) (r : List Nat) {fr : Fr} {H : Heap} {sh : Sh} {q v o n : Nat} {p : PV} {hp' : Heap} (h : AV.freeze deep (.sl sh q v o n) H = some (p, hp')) : settleO s r ⟨fr, H⟩ (some (.sl sh q v o n)) = Go.Am.settle r ⟨(s, .pv none p) :: fr, hp'⟩ := by
  simp only [settleO, h]
section
variable (K : List Tm) (N : Nat) (hN : K.length = N) (hN' : N < 1000000) (hK : Tm.sizes K < 10000000) (hv : validAll K = true) (T D : List Tm) (hT : T = isort Tm.cmp K) (hD : D = dd T)
include hN hN' hK hv hT hD
theorem counts_loop (H : Heap) (r9 N9 r11 N11 : Nat) (h0 : SlAt H 1 N N K) (h9 : SlAt H r9 N9 D.length D) (h11 : SlAt H r11 N11 T.length T) (Q : AExit → St → Prop)
    (hQ : ∀ (v0 v9 v11 x : AV) (H' : Heap), IsL v0 H' K → IsL v9 H' D → IsL v11 H' T → Q .normal ⟨[(0, v0), (9, v9), (11, v11), (19, x), (142, .pv none (.bool false))], H'⟩) :
    W (sem (find tab) prim) (sloop (find tab) prim) 0 c8k35 ⟨[(0, .sl (some 4) 1 N 0 N), (9, .sl (some 4) r9 N9 0 D.length), (11, .sl (some 4) r11 N11 0 T.length), (19, .pv none (.int .i64 0))], H⟩ Q := by
  obtain ⟨H1, l1, f1, k1⟩ := h0.frz
  obtain ⟨H2, l2, f2, k2⟩ := (k1 _ _ _ _ h9).frz
  obtain ⟨H3, l3, f3, k3⟩ := (k2 _ _ _ _ (k1 _ _ _ _ h11)).frz
  have hTs : Tm.sizes T < 10000000 := by rw [hT, sizes_perm (isort_perm K)]; exact hK
  have hDs : Tm.sizes D < 10000000 := by rw [hD]; exact Nat.lt_of_le_of_lt (sizes_sub (dd_sub T)) hTs
  have hKT : ∀ x, x ∈ T ↔ x ∈ K := fun x => by rw [hT]; exact (isort_perm K).mem_iff
  have hKD : ∀ x, x ∈ D ↔ x ∈ K := fun x => by rw [hD, mem_dd]; exact hKT x
  have hvD : validAll D = true := List.all_eq_true.2 fun x hx => validAll_mem hv ((hKD x).1 hx)
  have hlt : D.Pairwise fun x y => x.cmp y < 0 := by rw [hD, hT]; exact dd_lt (isort_srt tm_cmp K)
  have hnd : D.Nodup := hlt.imp fun {x y} hxy => by rintro rfl; rw [Tm.cmp_self] at hxy; omega
  simp -dsimp -implicitDefEqProofs only [g8, c8r0, c8r1, c8r2, c8r3, c8k4, c8r5, c8r6, c8r7, c8k8, c8r9, c8r10, c8k11, c8r12, c8b13, c8k14, c8r15, c8r16, c8r17, c8r18, c8r19, c8r20, c8r21, c8k22, c8r23, c8r24, c8k25, c8r26, c8r27, c8k28, c8r29, c8r30, c8k31, c8k32, c8r33, c8k35, c8r36, c8r37, c8k38, c8r39, c8r40, c8k41, c8k42, c8r43, c8b44, c8k45, c8r46, c8r47, c8k48, c8r49, c8r50, c8k51, c8r52, c8r53, c8r54, c8k55, c8k56, c8r57, c8b58, c8k59, c8r60, c8, go_sem, collect_lit0, collect_lit1, collect_lit2, collect_lit3, if_true, if_false, true_and, and_true, false_and, and_false, and_self, Nat.zero_add, Nat.add_zero, eq_self, Bool.true_eq_false, Bool.false_eq_true, cond_true, cond_false, decide_eq_true_eq, Bool.not_eq_true', Bool.not_eq_false', decide_eq_false_iff_not, not_true_eq_false, not_false_eq_true, Bool.true_and, Bool.false_and, Bool.and_true, Bool.and_false, Bool.not_true, Bool.not_false, Option.some.injEq, decide_true, decide_false, List.getElem?_cons_zero, List.getElem?_cons_succ, List.length_cons, List.length_nil, List.nil_append, List.cons_append, List.set_cons_zero, List.set_cons_succ, List.take_zero, List.drop_zero, Nat.reduceEqDiff, Nat.reduceAdd, Nat.reduceSub, Nat.reduceLT, Nat.reduceLeDiff, Nat.reduceMul, Int.reduceEq, Int.reduceLT, Int.reduceLE, Int.reduceAdd, Int.reduceSub, Int.reduceNeg, Int.reduceToNat, reduceCtorEq, ↓reduceIte]
  refine W_loop (fun n st => ∃ i : Nat, n = N - i ∧ i ≤ N ∧ (st = ⟨[(0, .sl (some 4) 1 N 0 N), (9, .sl (some 4) r9 N9 0 D.length), (11, .sl (some 4) r11 N11 0 T.length), (19, .pv none (.int .i64 i))], H⟩ ∨ st = ⟨[(0, .pv none (.sl (some 4) (Tm.pvs K))), (9, .pv none (.sl (some 4) (Tm.pvs D))), (11, .pv none (.sl (some 4) (Tm.pvs T))), (19, .pv none (.int .i64 i))], H3⟩)) (n := N) ⟨0, rfl, Nat.zero_le _, .inl ?_⟩ ?_
  · simp -dsimp -implicitDefEqProofs only [go_sem, collect_lit0, collect_lit1, collect_lit2, collect_lit3, if_true, if_false, true_and, and_true, false_and, and_false, and_self, Nat.zero_add, Nat.add_zero, eq_self, Bool.true_eq_false, Bool.false_eq_true, cond_true, cond_false, decide_eq_true_eq, Bool.not_eq_true', Bool.not_eq_false', decide_eq_false_iff_not, not_true_eq_false, not_false_eq_true, Bool.true_and, Bool.false_and, Bool.and_true, Bool.and_false, Bool.not_true, Bool.not_false, Option.some.injEq, decide_true, decide_false, List.getElem?_cons_zero, List.getElem?_cons_succ, List.length_cons, List.length_nil, List.nil_append, List.cons_append, List.set_cons_zero, List.set_cons_succ, List.take_zero, List.drop_zero, Nat.reduceEqDiff, Nat.reduceAdd, Nat.reduceSub, Nat.reduceLT, Nat.reduceLeDiff, Nat.reduceMul, Int.reduceEq, Int.reduceLT, Int.reduceLE, Int.reduceAdd, Int.reduceSub, Int.reduceNeg, Int.reduceToNat, reduceCtorEq, ↓reduceIte]
    rfl
  · rintro n st ⟨i, hn, hi, hst⟩
    have hKl := Tm.pvs_len K
    rw [hN] at hKl
    by_cases h : i < N
    · have hc : (i : Int) < (N : Int) := by omega
      obtain ⟨u, hu⟩ : ∃ u, K[i]? = some u := ⟨_, List.getElem?_eq_getElem (by omega)⟩
      have hum := List.mem_of_getElem? hu
      have husz := Tm.sizes_mem hum
      have hvu := validAll_mem hv hum
      have c1 := count_pure T u (by omega) (by omega) []
      have c2 := count_pure K u (by omega) (by omega) []
      have c3 := count_pure D u (by omega) (by omega) []
      rw [show cnt T u = cnt K u by rw [hT]; exact cnt_perm (isort_perm K) u] at c1
      rw [cnt_nodup hvD hnd ((hKD u).2 hum)] at c3
      simp only [Tm.av, show ((1 : Nat) : Int) = 1 from rfl] at c1 c2 c3
      have w2 : IntKind.i64.wrap ((i : Int) + 1) = ((i + 1 : Nat) : Int) := by rw [wrap64 (by omega) (by omega)]; omega
      rcases hst with rfl | rfl
      · simp -dsimp -implicitDefEqProofs only [g8, c8r0, c8r1, c8r2, c8r3, c8k4, c8r5, c8r6, c8r7, c8k8, c8r9, c8r10, c8k11, c8r12, c8b13, c8k14, c8r15, c8r16, c8r17, c8r18, c8r19, c8r20, c8r21, c8k22, c8r23, c8r24, c8k25, c8r26, c8r27, c8k28, c8r29, c8r30, c8k31, c8k32, c8r33, c8b34, c8k35, c8r36, c8r37, c8k38, c8r39, c8r40, c8k41, c8k42, c8r43, c8b44, c8k45, c8r46, c8r47, c8k48, c8r49, c8r50, c8k51, c8r52, c8r53, c8r54, c8k55, c8k56, c8r57, c8b58, c8k59, c8r60, c8, go_sem, collect_lit0, collect_lit1, collect_lit2, collect_lit3, if_true, if_false, true_and, and_true, false_and, and_false, and_self, Nat.zero_add, Nat.add_zero, eq_self, Bool.true_eq_false, Bool.false_eq_true, cond_true, cond_false, decide_eq_true_eq, Bool.not_eq_true', Bool.not_eq_false', decide_eq_false_iff_not, not_true_eq_false, not_false_eq_true, Bool.true_and, Bool.false_and, Bool.and_true, Bool.and_false, Bool.not_true, Bool.not_false, Option.some.injEq, decide_true, decide_false, List.getElem?_cons_zero, List.getElem?_cons_succ, List.length_cons, List.length_nil, List.nil_append, List.cons_append, List.set_cons_zero, List.set_cons_succ, List.take_zero, List.drop_zero, Nat.reduceEqDiff, Nat.reduceAdd, Nat.reduceSub, Nat.reduceLT, Nat.reduceLeDiff, Nat.reduceMul, Int.reduceEq, Int.reduceLT, Int.reduceLE, Int.reduceAdd, Int.reduceSub, Int.reduceNeg, Int.reduceToNat, reduceCtorEq, ↓reduceIte, hc, settleO_sl _ _ f1, settleO_sl _ _ f2, settleO_sl _ _ f3, s_iaddr_pv (Tm.pvs_get hu), c1, c2, c3, w2]
        refine ⟨N - (i + 1), by omega, i + 1, rfl, by omega, .inr ?_⟩
        rw [collect_id (by omega)]
      · simp -dsimp -implicitDefEqProofs only [g8, c8r0, c8r1, c8r2, c8r3, c8k4, c8r5, c8r6, c8r7, c8k8, c8r9, c8r10, c8k11, c8r12, c8b13, c8k14, c8r15, c8r16, c8r17, c8r18, c8r19, c8r20, c8r21, c8k22, c8r23, c8r24, c8k25, c8r26, c8r27, c8k28, c8r29, c8r30, c8k31, c8k32, c8r33, c8b34, c8k35, c8r36, c8r37, c8k38, c8r39, c8r40, c8k41, c8k42, c8r43, c8b44, c8k45, c8r46, c8r47, c8k48, c8r49, c8r50, c8k51, c8r52, c8r53, c8r54, c8k55, c8k56, c8r57, c8b58, c8k59, c8r60, c8, go_sem, collect_lit0, collect_lit1, collect_lit2, collect_lit3, if_true, if_false, true_and, and_true, false_and, and_false, and_self, Nat.zero_add, Nat.add_zero, eq_self, Bool.true_eq_false, Bool.false_eq_true, cond_true, cond_false, decide_eq_true_eq, Bool.not_eq_true', Bool.not_eq_false', decide_eq_false_iff_not, not_true_eq_false, not_false_eq_true, Bool.true_and, Bool.false_and, Bool.and_true, Bool.and_false, Bool.not_true, Bool.not_false, Option.some.injEq, decide_true, decide_false, List.getElem?_cons_zero, List.getElem?_cons_succ, List.length_cons, List.length_nil, List.nil_append, List.cons_append, List.set_cons_zero, List.set_cons_succ, List.take_zero, List.drop_zero, Nat.reduceEqDiff, Nat.reduceAdd, Nat.reduceSub, Nat.reduceLT, Nat.reduceLeDiff, Nat.reduceMul, Int.reduceEq, Int.reduceLT, Int.reduceLE, Int.reduceAdd, Int.reduceSub, Int.reduceNeg, Int.reduceToNat, reduceCtorEq, ↓reduceIte, hKl, hc, s_iaddr_pv (Tm.pvs_get hu), c1, c2, c3, w2]
        refine ⟨N - (i + 1), by omega, i + 1, rfl, by omega, .inr ?_⟩
        rw [collect_id (by omega)]
    · have hc : ¬ (i : Int) < (N : Int) := by omega
      rcases hst with rfl | rfl
      · simp -dsimp -implicitDefEqProofs only [g8, c8r0, c8r1, c8r2, c8r3, c8k4, c8r5, c8r6, c8r7, c8k8, c8r9, c8r10, c8k11, c8r12, c8b13, c8k14, c8r15, c8r16, c8r17, c8r18, c8r19, c8r20, c8r21, c8k22, c8r23, c8r24, c8k25, c8r26, c8r27, c8k28, c8r29, c8r30, c8k31, c8k32, c8r33, c8b34, c8k35, c8r36, c8r37, c8k38, c8r39, c8r40, c8k41, c8k42, c8r43, c8b44, c8k45, c8r46, c8r47, c8k48, c8r49, c8r50, c8k51, c8r52, c8r53, c8r54, c8k55, c8k56, c8r57, c8b58, c8k59, c8r60, c8, go_sem, collect_lit0, collect_lit1, collect_lit2, collect_lit3, if_true, if_false, true_and, and_true, false_and, and_false, and_self, Nat.zero_add, Nat.add_zero, eq_self, Bool.true_eq_false, Bool.false_eq_true, cond_true, cond_false, decide_eq_true_eq, Bool.not_eq_true', Bool.not_eq_false', decide_eq_false_iff_not, not_true_eq_false, not_false_eq_true, Bool.true_and, Bool.false_and, Bool.and_true, Bool.and_false, Bool.not_true, Bool.not_false, Option.some.injEq, decide_true, decide_false, List.getElem?_cons_zero, List.getElem?_cons_succ, List.length_cons, List.length_nil, List.nil_append, List.cons_append, List.set_cons_zero, List.set_cons_succ, List.take_zero, List.drop_zero, Nat.reduceEqDiff, Nat.reduceAdd, Nat.reduceSub, Nat.reduceLT, Nat.reduceLeDiff, Nat.reduceMul, Int.reduceEq, Int.reduceLT, Int.reduceLE, Int.reduceAdd, Int.reduceSub, Int.reduceNeg, Int.reduceToNat, reduceCtorEq, ↓reduceIte, hc]
        exact hQ _ _ _ _ _ h0.isL h9.isL h11.isL
      · simp -dsimp -implicitDefEqProofs only [g8, c8r0, c8r1, c8r2, c8r3, c8k4, c8r5, c8r6, c8r7, c8k8, c8r9, c8r10, c8k11, c8r12, c8b13, c8k14, c8r15, c8r16, c8r17, c8r18, c8r19, c8r20, c8r21, c8k22, c8r23, c8r24, c8k25, c8r26, c8r27, c8k28, c8r29, c8r30, c8k31, c8k32, c8r33, c8b34, c8k35, c8r36, c8r37, c8k38, c8r39, c8r40, c8k41, c8k42, c8r43, c8b44, c8k45, c8r46, c8r47, c8k48, c8r49, c8r50, c8k51, c8r52, c8r53, c8r54, c8k55, c8k56, c8r57, c8b58, c8k59, c8r60, c8, go_sem, collect_lit0, collect_lit1, collect_lit2, collect_lit3, if_true, if_false, true_and, and_true, false_and, and_false, and_self, Nat.zero_add, Nat.add_zero, eq_self, Bool.true_eq_false, Bool.false_eq_true, cond_true, cond_false, decide_eq_true_eq, Bool.not_eq_true', Bool.not_eq_false', decide_eq_false_iff_not, not_true_eq_false, not_false_eq_true, Bool.true_and, Bool.false_and, Bool.and_true, Bool.and_false, Bool.not_true, Bool.not_false, Option.some.injEq, decide_true, decide_false, List.getElem?_cons_zero, List.getElem?_cons_succ, List.length_cons, List.length_nil, List.nil_append, List.cons_append, List.set_cons_zero, List.set_cons_succ, List.take_zero, List.drop_zero, Nat.reduceEqDiff, Nat.reduceAdd, Nat.reduceSub, Nat.reduceLT, Nat.reduceLeDiff, Nat.reduceMul, Int.reduceEq, Int.reduceLT, Int.reduceLE, Int.reduceAdd, Int.reduceSub, Int.reduceNeg, Int.reduceToNat, reduceCtorEq, ↓reduceIte, hKl, hc]
        exact hQ _ _ _ _ _ (isL_pv _ _) (isL_pv _ _) (isL_pv _ _)
theorem t_loop (H : Heap) (v0 v9 v11 : AV) (h11 : IsL v11 H T) (Q : AExit → St → Prop)
    (hQ : ∀ (x : AV), Q .normal ⟨[(0, v0), (9, v9), (11, v11), (20, x), (170, .pv none (.bool false))], H⟩) :
    W (sem (find tab) prim) (sloop (find tab) prim) 0 c8k45 ⟨[(0, v0), (9, v9), (11, v11), (20, .pv none (.int .i64 0))], H⟩ Q := by
  have _u := hD
  have hTs : Tm.sizes T < 10000000 := by rw [hT, sizes_perm (isort_perm K)]; exact hK
  have hTN : T.length = N := by rw [hT, isort_length, hN]
  have hvT : ∀ x ∈ T, x.valid = true := fun x hx => validAll_mem hv (by rw [hT] at hx; exact (isort_perm K).mem_iff.1 hx)
  have hsT : Srt Tm.cmp T := by rw [hT]; exact isort_srt tm_cmp K
  have h11l := h11.len
  rw [hTN] at h11l
  simp -dsimp -implicitDefEqProofs only [g8, c8r0, c8r1, c8r2, c8r3, c8k4, c8r5, c8r6, c8r7, c8k8, c8r9, c8r10, c8k11, c8r12, c8b13, c8k14, c8r15, c8r16, c8r17, c8r18, c8r19, c8r20, c8r21, c8k22, c8r23, c8r24, c8k25, c8r26, c8r27, c8k28, c8r29, c8r30, c8k31, c8k32, c8r33, c8b34, c8k35, c8r36, c8r37, c8k38, c8r39, c8r40, c8k41, c8k42, c8r43, c8k45, c8r46, c8r47, c8k48, c8r49, c8r50, c8k51, c8r52, c8r53, c8r54, c8k55, c8k56, c8r57, c8b58, c8k59, c8r60, c8, go_sem, collect_lit0, collect_lit1, collect_lit2, collect_lit3, if_true, if_false, true_and, and_true, false_and, and_false, and_self, Nat.zero_add, Nat.add_zero, eq_self, Bool.true_eq_false, Bool.false_eq_true, cond_true, cond_false, decide_eq_true_eq, Bool.not_eq_true', Bool.not_eq_false', decide_eq_false_iff_not, not_true_eq_false, not_false_eq_true, Bool.true_and, Bool.false_and, Bool.and_true, Bool.and_false, Bool.not_true, Bool.not_false, Option.some.injEq, decide_true, decide_false, List.getElem?_cons_zero, List.getElem?_cons_succ, List.length_cons, List.length_nil, List.nil_append, List.cons_append, List.set_cons_zero, List.set_cons_succ, List.take_zero, List.drop_zero, Nat.reduceEqDiff, Nat.reduceAdd, Nat.reduceSub, Nat.reduceLT, Nat.reduceLeDiff, Nat.reduceMul, Int.reduceEq, Int.reduceLT, Int.reduceLE, Int.reduceAdd, Int.reduceSub, Int.reduceNeg, Int.reduceToNat, reduceCtorEq, ↓reduceIte]
  refine W_loop (fun n st => ∃ i : Nat, n = N - i ∧ i ≤ N ∧ st = ⟨[(0, v0), (9, v9), (11, v11), (20, .pv none (.int .i64 i))], H⟩) (n := N) ⟨0, rfl, Nat.zero_le _, ?_⟩ ?_
  · simp -dsimp -implicitDefEqProofs only [go_sem, collect_lit0, collect_lit1, collect_lit2, collect_lit3, if_true, if_false, true_and, and_true, false_and, and_false, and_self, Nat.zero_add, Nat.add_zero, eq_self, Bool.true_eq_false, Bool.false_eq_true, cond_true, cond_false, decide_eq_true_eq, Bool.not_eq_true', Bool.not_eq_false', decide_eq_false_iff_not, not_true_eq_false, not_false_eq_true, Bool.true_and, Bool.false_and, Bool.and_true, Bool.and_false, Bool.not_true, Bool.not_false, Option.some.injEq, decide_true, decide_false, List.getElem?_cons_zero, List.getElem?_cons_succ, List.length_cons, List.length_nil, List.nil_append, List.cons_append, List.set_cons_zero, List.set_cons_succ, List.take_zero, List.drop_zero, Nat.reduceEqDiff, Nat.reduceAdd, Nat.reduceSub, Nat.reduceLT, Nat.reduceLeDiff, Nat.reduceMul, Int.reduceEq, Int.reduceLT, Int.reduceLE, Int.reduceAdd, Int.reduceSub, Int.reduceNeg, Int.reduceToNat, reduceCtorEq, ↓reduceIte]
    rfl
  · rintro n st ⟨i, hn, hi, rfl⟩
    by_cases h : i < N
    · have hc : (i : Int) < (N : Int) := by omega
      have w2 : IntKind.i64.wrap ((i : Int) + 1) = ((i + 1 : Nat) : Int) := by rw [wrap64 (by omega) (by omega)]; omega
      cases i with
      | zero =>
        have hc0 : 0 < (N : Int) := by omega
        simp -dsimp -implicitDefEqProofs only [g8, c8r0, c8r1, c8r2, c8r3, c8k4, c8r5, c8r6, c8r7, c8k8, c8r9, c8r10, c8k11, c8r12, c8b13, c8k14, c8r15, c8r16, c8r17, c8r18, c8r19, c8r20, c8r21, c8k22, c8r23, c8r24, c8k25, c8r26, c8r27, c8k28, c8r29, c8r30, c8k31, c8k32, c8r33, c8b34, c8k35, c8r36, c8r37, c8k38, c8r39, c8r40, c8k41, c8k42, c8r43, c8b44, c8k45, c8r46, c8r47, c8k48, c8r49, c8r50, c8k51, c8r52, c8r53, c8r54, c8k55, c8k56, c8r57, c8b58, c8k59, c8r60, c8, go_sem, collect_lit0, collect_lit1, collect_lit2, collect_lit3, if_true, if_false, true_and, and_true, false_and, and_false, and_self, Nat.zero_add, Nat.add_zero, eq_self, Bool.true_eq_false, Bool.false_eq_true, cond_true, cond_false, decide_eq_true_eq, Bool.not_eq_true', Bool.not_eq_false', decide_eq_false_iff_not, not_true_eq_false, not_false_eq_true, Bool.true_and, Bool.false_and, Bool.and_true, Bool.and_false, Bool.not_true, Bool.not_false, Option.some.injEq, decide_true, decide_false, List.getElem?_cons_zero, List.getElem?_cons_succ, List.length_cons, List.length_nil, List.nil_append, List.cons_append, List.set_cons_zero, List.set_cons_succ, List.take_zero, List.drop_zero, Nat.reduceEqDiff, Nat.reduceAdd, Nat.reduceSub, Nat.reduceLT, Nat.reduceLeDiff, Nat.reduceMul, Int.reduceEq, Int.reduceLT, Int.reduceLE, Int.reduceAdd, Int.reduceSub, Int.reduceNeg, Int.reduceToNat, reduceCtorEq, ↓reduceIte, h11l, hc0, w2, Int.natCast_zero, Int.lt_irrefl, Int.zero_add]
        refine ⟨N - 1, by omega, 1, rfl, by omega, ?_⟩
        rw [collect_id rfl]
        rfl
      | succ j =>
        obtain ⟨u, hu⟩ : ∃ u, T[j + 1]? = some u := ⟨_, List.getElem?_eq_getElem (by omega)⟩
        obtain ⟨x, hx⟩ : ∃ x, T[j]? = some x := ⟨_, List.getElem?_eq_getElem (by omega)⟩
        have hum := List.mem_of_getElem? hu
        have hxm := List.mem_of_getElem? hx
        have s1 := Tm.sizes_mem hum
        have s2 := Tm.sizes_mem hxm
        obtain ⟨p, p1, p2⟩ := h11.idx _ u hu
        obtain ⟨q, q1, q2⟩ := h11.idx _ x hx
        have p3 := p2 []
        have q3 := q2 []
        rw [List.append_nil] at p3 q3
        have hcall := fun hp => oCmp_ok x u hp (by omega) (by omega)
        simp only [Tm.av, cmpV, hvT u hum, hvT x hxm, if_true] at hcall
        have hle : x.cmp u ≤ 0 := by
          obtain ⟨g1, g1'⟩ := List.getElem?_eq_some_iff.1 hx
          obtain ⟨g2, g2'⟩ := List.getElem?_eq_some_iff.1 hu
          have := List.pairwise_iff_getElem.1 hsT j (j + 1) g1 g2 (by omega)
          rwa [g1', g2'] at this
        have hngt : ¬ 0 < x.cmp u := by omega
        have hpos : 0 < ((j + 1 : Nat) : Int) := by omega
        have w1 : IntKind.i64.wrap (((j + 1 : Nat) : Int) - 1) = (j : Int) := by rw [wrap64 (by omega) (by omega)]; omega
        simp -dsimp -implicitDefEqProofs only [g8, c8r0, c8r1, c8r2, c8r3, c8k4, c8r5, c8r6, c8r7, c8k8, c8r9, c8r10, c8k11, c8r12, c8b13, c8k14, c8r15, c8r16, c8r17, c8r18, c8r19, c8r20, c8r21, c8k22, c8r23, c8r24, c8k25, c8r26, c8r27, c8k28, c8r29, c8r30, c8k31, c8k32, c8r33, c8b34, c8k35, c8r36, c8r37, c8k38, c8r39, c8r40, c8k41, c8k42, c8r43, c8b44, c8k45, c8r46, c8r47, c8k48, c8r49, c8r50, c8k51, c8r52, c8r53, c8r54, c8k55, c8k56, c8r57, c8b58, c8k59, c8r60, c8, go_sem, collect_lit0, collect_lit1, collect_lit2, collect_lit3, if_true, if_false, true_and, and_true, false_and, and_false, and_self, Nat.zero_add, Nat.add_zero, eq_self, Bool.true_eq_false, Bool.false_eq_true, cond_true, cond_false, decide_eq_true_eq, Bool.not_eq_true', Bool.not_eq_false', decide_eq_false_iff_not, not_true_eq_false, not_false_eq_true, Bool.true_and, Bool.false_and, Bool.and_true, Bool.and_false, Bool.not_true, Bool.not_false, Option.some.injEq, decide_true, decide_false, List.getElem?_cons_zero, List.getElem?_cons_succ, List.length_cons, List.length_nil, List.nil_append, List.cons_append, List.set_cons_zero, List.set_cons_succ, List.take_zero, List.drop_zero, Nat.reduceEqDiff, Nat.reduceAdd, Nat.reduceSub, Nat.reduceLT, Nat.reduceLeDiff, Nat.reduceMul, Int.reduceEq, Int.reduceLT, Int.reduceLE, Int.reduceAdd, Int.reduceSub, Int.reduceNeg, Int.reduceToNat, reduceCtorEq, ↓reduceIte, h11l, hc, hpos, w1, w2, p1, p3, q1, q3, hcall, hngt]
        refine ⟨N - (j + 1 + 1), by omega, j + 1 + 1, rfl, by omega, ?_⟩
        rw [collect_id rfl]
    · have hc : ¬ (i : Int) < (N : Int) := by omega
      simp -dsimp -implicitDefEqProofs only [g8, c8r0, c8r1, c8r2, c8r3, c8k4, c8r5, c8r6, c8r7, c8k8, c8r9, c8r10, c8k11, c8r12, c8b13, c8k14, c8r15, c8r16, c8r17, c8r18, c8r19, c8r20, c8r21, c8k22, c8r23, c8r24, c8k25, c8r26, c8r27, c8k28, c8r29, c8r30, c8k31, c8k32, c8r33, c8b34, c8k35, c8r36, c8r37, c8k38, c8r39, c8r40, c8k41, c8k42, c8r43, c8b44, c8k45, c8r46, c8r47, c8k48, c8r49, c8r50, c8k51, c8r52, c8r53, c8r54, c8k55, c8k56, c8r57, c8b58, c8k59, c8r60, c8, go_sem, collect_lit0, collect_lit1, collect_lit2, collect_lit3, if_true, if_false, true_and, and_true, false_and, and_false, and_self, Nat.zero_add, Nat.add_zero, eq_self, Bool.true_eq_false, Bool.false_eq_true, cond_true, cond_false, decide_eq_true_eq, Bool.not_eq_true', Bool.not_eq_false', decide_eq_false_iff_not, not_true_eq_false, not_false_eq_true, Bool.true_and, Bool.false_and, Bool.and_true, Bool.and_false, Bool.not_true, Bool.not_false, Option.some.injEq, decide_true, decide_false, List.getElem?_cons_zero, List.getElem?_cons_succ, List.length_cons, List.length_nil, List.nil_append, List.cons_append, List.set_cons_zero, List.set_cons_succ, List.take_zero, List.drop_zero, Nat.reduceEqDiff, Nat.reduceAdd, Nat.reduceSub, Nat.reduceLT, Nat.reduceLeDiff, Nat.reduceMul, Int.reduceEq, Int.reduceLT, Int.reduceLE, Int.reduceAdd, Int.reduceSub, Int.reduceNeg, Int.reduceToNat, reduceCtorEq, ↓reduceIte, h11l, hc]
      exact hQ _
theorem s_loop (H : Heap) (v0 v9 : AV) (h0 : IsL v0 H K) (h9 : IsL v9 H D) (Q : AExit → St → Prop)
    (hQ : ∀ (x : AV), Q .normal ⟨[(0, v0), (9, v9), (21, x), (191, .pv none (.bool false))], H⟩) :
    W (sem (find tab) prim) (sloop (find tab) prim) 0 c8k59 ⟨[(0, v0), (9, v9), (21, .pv none (.int .i64 0))], H⟩ Q := by
  have _u := hN
  have _u' := hN'
  have hTs : Tm.sizes T < 10000000 := by rw [hT, sizes_perm (isort_perm K)]; exact hK
  have hDs : Tm.sizes D < 10000000 := by rw [hD]; exact Nat.lt_of_le_of_lt (sizes_sub (dd_sub T)) hTs
  have hKT : ∀ x, x ∈ T ↔ x ∈ K := fun x => by rw [hT]; exact (isort_perm K).mem_iff
  have hKD : ∀ x, x ∈ D ↔ x ∈ K := fun x => by rw [hD, mem_dd]; exact hKT x
  have hvD : validAll D = true := List.all_eq_true.2 fun x hx => validAll_mem hv ((hKD x).1 hx)
  have hlt : D.Pairwise fun x y => x.cmp y < 0 := by rw [hD, hT]; exact dd_lt (isort_srt tm_cmp K)
  have hinc := incr_of hlt
  have hDl : D.length < 10000000 := Nat.lt_of_le_of_lt (Tm.sizes_len D) hDs
  simp -dsimp -implicitDefEqProofs only [g8, c8r0, c8r1, c8r2, c8r3, c8k4, c8r5, c8r6, c8r7, c8k8, c8r9, c8r10, c8k11, c8r12, c8b13, c8k14, c8r15, c8r16, c8r17, c8r18, c8r19, c8r20, c8r21, c8k22, c8r23, c8r24, c8k25, c8r26, c8r27, c8k28, c8r29, c8r30, c8k31, c8k32, c8r33, c8b34, c8k35, c8r36, c8r37, c8k38, c8r39, c8r40, c8k41, c8k42, c8r43, c8b44, c8k45, c8r46, c8r47, c8k48, c8r49, c8r50, c8k51, c8r52, c8r53, c8r54, c8k55, c8k56, c8r57, c8k59, c8r60, c8, go_sem, collect_lit0, collect_lit1, collect_lit2, collect_lit3, if_true, if_false, true_and, and_true, false_and, and_false, and_self, Nat.zero_add, Nat.add_zero, eq_self, Bool.true_eq_false, Bool.false_eq_true, cond_true, cond_false, decide_eq_true_eq, Bool.not_eq_true', Bool.not_eq_false', decide_eq_false_iff_not, not_true_eq_false, not_false_eq_true, Bool.true_and, Bool.false_and, Bool.and_true, Bool.and_false, Bool.not_true, Bool.not_false, Option.some.injEq, decide_true, decide_false, List.getElem?_cons_zero, List.getElem?_cons_succ, List.length_cons, List.length_nil, List.nil_append, List.cons_append, List.set_cons_zero, List.set_cons_succ, List.take_zero, List.drop_zero, Nat.reduceEqDiff, Nat.reduceAdd, Nat.reduceSub, Nat.reduceLT, Nat.reduceLeDiff, Nat.reduceMul, Int.reduceEq, Int.reduceLT, Int.reduceLE, Int.reduceAdd, Int.reduceSub, Int.reduceNeg, Int.reduceToNat, reduceCtorEq, ↓reduceIte]
  refine W_loop (fun n st => ∃ i : Nat, n = D.length - i ∧ i ≤ D.length ∧ st = ⟨[(0, v0), (9, v9), (21, .pv none (.int .i64 i))], H⟩) (n := D.length) ⟨0, rfl, Nat.zero_le _, ?_⟩ ?_
  · simp -dsimp -implicitDefEqProofs only [go_sem, collect_lit0, collect_lit1, collect_lit2, collect_lit3, if_true, if_false, true_and, and_true, false_and, and_false, and_self, Nat.zero_add, Nat.add_zero, eq_self, Bool.true_eq_false, Bool.false_eq_true, cond_true, cond_false, decide_eq_true_eq, Bool.not_eq_true', Bool.not_eq_false', decide_eq_false_iff_not, not_true_eq_false, not_false_eq_true, Bool.true_and, Bool.false_and, Bool.and_true, Bool.and_false, Bool.not_true, Bool.not_false, Option.some.injEq, decide_true, decide_false, List.getElem?_cons_zero, List.getElem?_cons_succ, List.length_cons, List.length_nil, List.nil_append, List.cons_append, List.set_cons_zero, List.set_cons_succ, List.take_zero, List.drop_zero, Nat.reduceEqDiff, Nat.reduceAdd, Nat.reduceSub, Nat.reduceLT, Nat.reduceLeDiff, Nat.reduceMul, Int.reduceEq, Int.reduceLT, Int.reduceLE, Int.reduceAdd, Int.reduceSub, Int.reduceNeg, Int.reduceToNat, reduceCtorEq, ↓reduceIte]
    rfl
  · rintro n st ⟨i, hn, hi, rfl⟩
    by_cases h : i < D.length
    · have hc : (i : Int) < (D.length : Int) := by omega
      have w2 : IntKind.i64.wrap ((i : Int) + 1) = ((i + 1 : Nat) : Int) := by rw [wrap64 (by omega) (by omega)]; omega
      obtain ⟨u, hu⟩ : ∃ u, D[i]? = some u := ⟨_, List.getElem?_eq_getElem h⟩
      have hum := List.mem_of_getElem? hu
      have s1 := Tm.sizes_mem hum
      have hvu := validAll_mem hvD hum
      obtain ⟨p, p1, p2⟩ := h9.idx _ u hu
      have p3 := p2 []
      rw [List.append_nil] at p3
      have hrk := rank_l _ _ D h9 u (by omega) (by omega)
      have hct := count_l _ _ K h0 u (by omega) (by omega)
      have e1 : rankI D u = (i : Int) := by rw [← lb_self hlt hu]; exact if_pos ⟨hvu, hvD, hinc⟩
      have e2 : rankB D u = true := by
        have : rankB D u = found D u := if_pos ⟨hvu, hvD, hinc⟩
        rw [this, found_cnt hlt hvD, cnt_nodup hvD (hlt.imp fun {x y} hxy => by rintro rfl; rw [Tm.cmp_self] at hxy; omega) hum]
        rfl
      rw [e1, e2] at hrk
      have hcp : ¬ ((cnt K u : Nat) : Int) = 0 := by have := cnt_pos ((hKD u).1 hum) hvu; omega
      cases i with
      | zero =>
        have hc0 : 0 < (D.length : Int) := by omega
        simp only [Int.natCast_zero] at p1 hrk w2
        simp -dsimp -implicitDefEqProofs only [g8, c8r0, c8r1, c8r2, c8r3, c8k4, c8r5, c8r6, c8r7, c8k8, c8r9, c8r10, c8k11, c8r12, c8b13, c8k14, c8r15, c8r16, c8r17, c8r18, c8r19, c8r20, c8r21, c8k22, c8r23, c8r24, c8k25, c8r26, c8r27, c8k28, c8r29, c8r30, c8k31, c8k32, c8r33, c8b34, c8k35, c8r36, c8r37, c8k38, c8r39, c8r40, c8k41, c8k42, c8r43, c8b44, c8k45, c8r46, c8r47, c8k48, c8r49, c8r50, c8k51, c8r52, c8r53, c8r54, c8k55, c8k56, c8r57, c8b58, c8k59, c8r60, c8, go_sem, collect_lit0, collect_lit1, collect_lit2, collect_lit3, if_true, if_false, true_and, and_true, false_and, and_false, and_self, Nat.zero_add, Nat.add_zero, eq_self, Bool.true_eq_false, Bool.false_eq_true, cond_true, cond_false, decide_eq_true_eq, Bool.not_eq_true', Bool.not_eq_false', decide_eq_false_iff_not, not_true_eq_false, not_false_eq_true, Bool.true_and, Bool.false_and, Bool.and_true, Bool.and_false, Bool.not_true, Bool.not_false, Option.some.injEq, decide_true, decide_false, List.getElem?_cons_zero, List.getElem?_cons_succ, List.length_cons, List.length_nil, List.nil_append, List.cons_append, List.set_cons_zero, List.set_cons_succ, List.take_zero, List.drop_zero, Nat.reduceEqDiff, Nat.reduceAdd, Nat.reduceSub, Nat.reduceLT, Nat.reduceLeDiff, Nat.reduceMul, Int.reduceEq, Int.reduceLT, Int.reduceLE, Int.reduceAdd, Int.reduceSub, Int.reduceNeg, Int.reduceToNat, reduceCtorEq, ↓reduceIte, h9.len, hc0, w2, Int.natCast_zero, Int.lt_irrefl, Int.zero_add, p1, p3, hrk, hct, hcp]
        refine ⟨D.length - 1, by omega, 1, rfl, by omega, ?_⟩
        rw [collect_id rfl]
        rfl
      | succ j =>
        obtain ⟨x, hx⟩ : ∃ x, D[j]? = some x := ⟨_, List.getElem?_eq_getElem (by omega)⟩
        have hxm := List.mem_of_getElem? hx
        have s2 := Tm.sizes_mem hxm
        obtain ⟨q, q1, q2⟩ := h9.idx _ x hx
        have q3 := q2 []
        rw [List.append_nil] at q3
        have hcall := fun hp => oCmp_ok x u hp (by omega) (by omega)
        simp only [Tm.av, cmpV, hvu, validAll_mem hvD hxm, if_true] at hcall
        have hle : x.cmp u < 0 := hinc j x u hx hu
        have hngt : ¬ 0 ≤ x.cmp u := by omega
        have hpos : 0 < ((j + 1 : Nat) : Int) := by omega
        have w1 : IntKind.i64.wrap (((j + 1 : Nat) : Int) - 1) = (j : Int) := by rw [wrap64 (by omega) (by omega)]; omega
        simp -dsimp -implicitDefEqProofs only [g8, c8r0, c8r1, c8r2, c8r3, c8k4, c8r5, c8r6, c8r7, c8k8, c8r9, c8r10, c8k11, c8r12, c8b13, c8k14, c8r15, c8r16, c8r17, c8r18, c8r19, c8r20, c8r21, c8k22, c8r23, c8r24, c8k25, c8r26, c8r27, c8k28, c8r29, c8r30, c8k31, c8k32, c8r33, c8b34, c8k35, c8r36, c8r37, c8k38, c8r39, c8r40, c8k41, c8k42, c8r43, c8b44, c8k45, c8r46, c8r47, c8k48, c8r49, c8r50, c8k51, c8r52, c8r53, c8r54, c8k55, c8k56, c8r57, c8b58, c8k59, c8r60, c8, go_sem, collect_lit0, collect_lit1, collect_lit2, collect_lit3, if_true, if_false, true_and, and_true, false_and, and_false, and_self, Nat.zero_add, Nat.add_zero, eq_self, Bool.true_eq_false, Bool.false_eq_true, cond_true, cond_false, decide_eq_true_eq, Bool.not_eq_true', Bool.not_eq_false', decide_eq_false_iff_not, not_true_eq_false, not_false_eq_true, Bool.true_and, Bool.false_and, Bool.and_true, Bool.and_false, Bool.not_true, Bool.not_false, Option.some.injEq, decide_true, decide_false, List.getElem?_cons_zero, List.getElem?_cons_succ, List.length_cons, List.length_nil, List.nil_append, List.cons_append, List.set_cons_zero, List.set_cons_succ, List.take_zero, List.drop_zero, Nat.reduceEqDiff, Nat.reduceAdd, Nat.reduceSub, Nat.reduceLT, Nat.reduceLeDiff, Nat.reduceMul, Int.reduceEq, Int.reduceLT, Int.reduceLE, Int.reduceAdd, Int.reduceSub, Int.reduceNeg, Int.reduceToNat, reduceCtorEq, ↓reduceIte, h9.len, hc, hpos, w1, w2, p1, p3, q1, q3, hcall, hngt, hrk, hct, hcp]
        refine ⟨D.length - (j + 1 + 1), by omega, j + 1 + 1, rfl, by omega, ?_⟩
        rw [collect_id rfl]
    · have hc : ¬ (i : Int) < (D.length : Int) := by omega
      simp -dsimp -implicitDefEqProofs only [g8, c8r0, c8r1, c8r2, c8r3, c8k4, c8r5, c8r6, c8r7, c8k8, c8r9, c8r10, c8k11, c8r12, c8b13, c8k14, c8r15, c8r16, c8r17, c8r18, c8r19, c8r20, c8r21, c8k22, c8r23, c8r24, c8k25, c8r26, c8r27, c8k28, c8r29, c8r30, c8k31, c8k32, c8r33, c8b34, c8k35, c8r36, c8r37, c8k38, c8r39, c8r40, c8k41, c8k42, c8r43, c8b44, c8k45, c8r46, c8r47, c8k48, c8r49, c8r50, c8k51, c8r52, c8r53, c8r54, c8k55, c8k56, c8r57, c8b58, c8k59, c8r60, c8, go_sem, collect_lit0, collect_lit1, collect_lit2, collect_lit3, if_true, if_false, true_and, and_true, false_and, and_false, and_self, Nat.zero_add, Nat.add_zero, eq_self, Bool.true_eq_false, Bool.false_eq_true, cond_true, cond_false, decide_eq_true_eq, Bool.not_eq_true', Bool.not_eq_false', decide_eq_false_iff_not, not_true_eq_false, not_false_eq_true, Bool.true_and, Bool.false_and, Bool.and_true, Bool.and_false, Bool.not_true, Bool.not_false, Option.some.injEq, decide_true, decide_false, List.getElem?_cons_zero, List.getElem?_cons_succ, List.length_cons, List.length_nil, List.nil_append, List.cons_append, List.set_cons_zero, List.set_cons_succ, List.take_zero, List.drop_zero, Nat.reduceEqDiff, Nat.reduceAdd, Nat.reduceSub, Nat.reduceLT, Nat.reduceLeDiff, Nat.reduceMul, Int.reduceEq, Int.reduceLT, Int.reduceLE, Int.reduceAdd, Int.reduceSub, Int.reduceNeg, Int.reduceToNat, reduceCtorEq, ↓reduceIte, h9.len, hc]
      exact hQ _
end
theorem orderSorted_sem (l : List Tm) (sw : List Int) (hsw : ∀ x ∈ sw, 0 ≤ x ∧ x < 256) (hswl : sw.length < 1000000000) (hl : Tm.sizes l < 10000000) : S 8 [.pv none (.sl (some 4) (Tm.pvs l)), .pv none (.sl none (sw.map (.int .u8)))] [] = some (.ret (.pv none (.bool true)), []) := by
  refine sem_pure rfl rfl rfl (freezeAll_pvs [(none, .sl (some 4) (Tm.pvs l)), (none, .sl none (sw.map (.int .u8)))]) rfl ?_
  have hfew := few_ok l (by omega) []
  have hKs : Tm.sizes (l.take 40) < 10000000 := by have := Tm.sizes_take_le l 40; omega
  have h40 : (l.take 40).length ≤ 40 := by rw [List.length_take]; omega
  simp only [List.length_cons, List.length_nil, Nat.zero_add, List.cons_append, List.nil_append, Nat.reduceAdd] at hfew
  generalize l.take 40 = K at hfew hKs h40
  have ha := awake_ok
  obtain ⟨N, hN⟩ : ∃ N, K.length = N := ⟨_, rfl⟩
  rw [hN] at h40 hfew
  have hKl : (Tm.pvs K).length = N := by rw [Tm.pvs_len, hN]
  have hSl : SlAt [.arr (some 4) [] false, .arr (some 4) (Tm.pvs K) false] 1 N N K := ⟨_, _, rfl, hKl, List.take_of_length_le (by omega), hN, Nat.le_refl _⟩
  have hL := hSl.isL
  have h23 : S 23 [.sl (some 4) 1 N 0 N] [.arr (some 4) [] false, .arr (some 4) (Tm.pvs K) false] = some (.ret (.pv none (.bool (validAll K))), [.arr (some 4) [] false, .arr (some 4) (Tm.pvs K) false]) := by
    obtain ⟨hp1, _, hz⟩ := hL.frz
    exact sem_any rfl rfl rfl (hz []) (lvalid_ok K (by omega))
  by_cases hv : validAll K = true
  · rw [hv] at h23
    have hf2 := few_l _ _ K hL (by omega) (by omega)
    simp only [hN, List.length_cons, List.length_nil, Nat.zero_add, List.cons_append, List.nil_append, Nat.reduceAdd] at hf2
    simp -dsimp -implicitDefEqProofs only [g8, c8r0, c8r1, c8r2, c8r3, c8k4, c8r5, c8r6, c8r7, c8k8, c8r9, c8r10, c8k11, c8r12, c8b13, c8r15, c8r16, c8r17, c8r18, c8r19, c8r20, c8r21, c8k22, c8r23, c8r24, c8k25, c8r26, c8r27, c8k28, c8r29, c8r30, c8k31, c8k32, c8r33, c8b34, c8r36, c8r37, c8k38, c8r39, c8r40, c8k41, c8k42, c8r43, c8b44, c8r46, c8r47, c8k48, c8r49, c8r50, c8k51, c8r52, c8r53, c8r54, c8k55, c8k56, c8r57, c8b58, c8r60, c8, go_sem, collect_lit0, collect_lit1, collect_lit2, collect_lit3, if_true, if_false, true_and, and_true, false_and, and_false, and_self, Nat.zero_add, Nat.add_zero, eq_self, Bool.true_eq_false, Bool.false_eq_true, cond_true, cond_false, decide_eq_true_eq, Bool.not_eq_true', Bool.not_eq_false', decide_eq_false_iff_not, not_true_eq_false, not_false_eq_true, Bool.true_and, Bool.false_and, Bool.and_true, Bool.and_false, Bool.not_true, Bool.not_false, Option.some.injEq, decide_true, decide_false, List.getElem?_cons_zero, List.getElem?_cons_succ, List.length_cons, List.length_nil, List.nil_append, List.cons_append, List.set_cons_zero, List.set_cons_succ, List.take_zero, List.drop_zero, Nat.reduceEqDiff, Nat.reduceAdd, Nat.reduceSub, Nat.reduceLT, Nat.reduceLeDiff, Nat.reduceMul, Int.reduceEq, Int.reduceLT, Int.reduceLE, Int.reduceAdd, Int.reduceSub, Int.reduceNeg, Int.reduceToNat, reduceCtorEq, ↓reduceIte, hfew, h23, hf2]
    refine swaps_loop K N hN h40 hKs sw hsw hswl _ fun M k hM => ?_
    have hMN : M.length = N := by rw [hM.length_eq, hN]
    have hMs : Tm.sizes M < 10000000 := by rw [sizes_perm hM]; exact hKs
    have hMv : validAll M = true := List.all_eq_true.2 fun x hx => validAll_mem hv (hM.mem_iff.1 hx)
    have hMl : (Tm.pvs M).length = N := by rw [Tm.pvs_len, hMN]
    obtain ⟨H4, hH4⟩ : ∃ H4 : Heap, H4 = [.arr (some 4) [] false, .arr (some 4) (Tm.pvs K) false, .arr (some 4) [] false, .arr (some 4) (Tm.pvs M) false] := ⟨_, rfl⟩
    have hlen4 : H4.length = 4 := by rw [hH4]; rfl
    have k1 : SlAt H4 1 N N K := by rw [hH4]; exact ⟨_, _, rfl, hKl, List.take_of_length_le (by omega), hN, Nat.le_refl _⟩
    have k3 : SlAt H4 3 N N M := by rw [hH4]; exact ⟨_, _, rfl, hMl, List.take_of_length_le (by omega), hMN, Nat.le_refl _⟩
    obtain ⟨T, hT⟩ : ∃ T, T = isort Tm.cmp K := ⟨_, rfl⟩
    obtain ⟨D, hD⟩ : ∃ D, D = dd T := ⟨_, rfl⟩
    have hMT : isort Tm.cmp M = T := by rw [hT]; exact isort_of_perm hM
    have hTT : isort Tm.cmp T = T := by rw [hT]; exact isort_of_perm (isort_perm K)
    have hTN : T.length = N := by rw [hT, isort_length, hN]
    have hTs : Tm.sizes T < 10000000 := by rw [hT, sizes_perm (isort_perm K)]; exact hKs
    have hDN : D.length ≤ N := by rw [hD, ← hTN]; exact dd_length T
    have hTv : validAll T = true := List.all_eq_true.2 fun x hx => validAll_mem hv (by rw [hT] at hx; exact (isort_perm K).mem_iff.1 hx)
    have hDv : validAll D = true := List.all_eq_true.2 fun x hx => validAll_mem hTv (mem_dd.1 (by rw [hD] at hx; exact hx))
    have hDs : Tm.sizes D < 10000000 := by rw [hD]; exact Nat.lt_of_le_of_lt (sizes_sub (dd_sub T)) hTs
    have hpl : (packed N D).length = N := by simp [packed, Tm.pvs_len]; omega
    have hpt : (packed N D).take D.length = Tm.pvs D := by simp [packed, List.take_append_of_le_length, Tm.pvs_len]
    -- the five sorted lists
    have s1 := sort_ok _ _ K k1.isL (by omega)
    simp only [hv, if_true, ← hT, ← hD, hN, hlen4, Nat.reduceAdd] at s1
    obtain ⟨H8, hH8⟩ : ∃ H8 : Heap, H8 = H4 ++ [.arr (some 4) [] false, .arr (some 4) [] false, .arr (some 4) [] false, .arr (some 4) (packed N D) false] := ⟨_, rfl⟩
    rw [← hH8] at s1
    have hlen8 : H8.length = 8 := by rw [hH8]; simp [hlen4]
    have k7 : SlAt H8 7 N D.length D := ⟨packed N D, false, by rw [hH8, List.getElem?_append_right (by omega), hlen4]; rfl, hpl, hpt, rfl, hDN⟩
    have s2 := stableTop_ok _ _ K (hH8 ▸ k1.more _ : SlAt H8 1 N N K).isL (by omega)
    simp only [hv, if_true, ← hT, hN, hlen8, Nat.reduceAdd] at s2
    obtain ⟨H11, hH11⟩ : ∃ H11 : Heap, H11 = H8 ++ [.arr (some 4) [] false, .arr (some 4) [] false, .arr (some 4) (Tm.pvs T) false] := ⟨_, rfl⟩
    rw [← hH11] at s2
    have hlen11 : H11.length = 11 := by rw [hH11]; simp [hlen8]
    have k10 : SlAt H11 10 N T.length T := ⟨Tm.pvs T, false, by rw [hH11, List.getElem?_append_right (by omega), hlen8]; rfl, by rw [Tm.pvs_len, hTN], List.take_of_length_le (by rw [Tm.pvs_len]; exact Nat.le_refl _), rfl, by omega⟩
    have k3' : SlAt H11 3 N N M := by rw [hH11, hH8]; exact (k3.more _).more _
    have s3 := sort_ok _ _ M k3'.isL (by omega)
    simp only [hMv, if_true, hMT, ← hD, hMN, hlen11, Nat.reduceAdd] at s3
    obtain ⟨H15, hH15⟩ : ∃ H15 : Heap, H15 = H11 ++ [.arr (some 4) [] false, .arr (some 4) [] false, .arr (some 4) [] false, .arr (some 4) (packed N D) false] := ⟨_, rfl⟩
    rw [← hH15] at s3
    have hlen15 : H15.length = 15 := by rw [hH15]; simp [hlen11]
    have k14 : SlAt H15 14 N D.length D := ⟨packed N D, false, by rw [hH15, List.getElem?_append_right (by omega), hlen11]; rfl, hpl, hpt, rfl, hDN⟩
    have s4 := stableTop_ok _ _ M (hH15 ▸ k3'.more _ : SlAt H15 3 N N M).isL (by omega)
    simp only [hMv, if_true, hMT, hMN, hlen15, Nat.reduceAdd] at s4
    obtain ⟨H18, hH18⟩ : ∃ H18 : Heap, H18 = H15 ++ [.arr (some 4) [] false, .arr (some 4) [] false, .arr (some 4) (Tm.pvs T) false] := ⟨_, rfl⟩
    rw [← hH18] at s4
    have hlen18 : H18.length = 18 := by rw [hH18]; simp [hlen15]
    have k17 : SlAt H18 17 N T.length T := ⟨Tm.pvs T, false, by rw [hH18, List.getElem?_append_right (by omega), hlen15]; rfl, by rw [Tm.pvs_len, hTN], List.take_of_length_le (by rw [Tm.pvs_len]; exact Nat.le_refl _), rfl, by omega⟩
    have k10' : SlAt H18 10 N T.length T := by rw [hH18, hH15]; exact (k10.more _).more _
    have s5 := sort_ok _ _ T k10'.isL (by omega)
    simp only [hTv, if_true, hTT, ← hD, hTN, hlen18, Nat.reduceAdd] at s5
    obtain ⟨H22, hH22⟩ : ∃ H22 : Heap, H22 = H18 ++ [.arr (some 4) [] false, .arr (some 4) [] false, .arr (some 4) [] false, .arr (some 4) (packed N D) false] := ⟨_, rfl⟩
    rw [← hH22] at s5
    have j21 : SlAt H22 21 N D.length D := ⟨packed N D, false, by rw [hH22, List.getElem?_append_right (by omega), hlen18]; rfl, hpl, hpt, rfl, hDN⟩
    have j1 : SlAt H22 1 N N K := by rw [hH22, hH18, hH15, hH11, hH8]; exact ((((k1.more _).more _).more _).more _).more _
    have j7 : SlAt H22 7 N D.length D := by rw [hH22, hH18, hH15, hH11]; exact (((k7.more _).more _).more _).more _
    have j10 : SlAt H22 10 N T.length T := by rw [hH22]; exact k10'.more _
    have j14 : SlAt H22 14 N D.length D := by rw [hH22, hH18]; exact (k14.more _).more _
    have j17 : SlAt H22 17 N T.length T := by rw [hH22]; exact k17.more _
    have e1 := sameAll_l j7 j14 hDv (by omega)
    have e2 := sameAll_l j10 j17 hTv (by omega)
    have e3 := sameAll_l j7 j21 hDv (by omega)
    rw [← hH4]
    clear hH4 hH8 hH11 hH15 hH18 hH22
    simp only [hTN] at e2
    simp -dsimp -implicitDefEqProofs only [g8, c8r0, c8r1, c8r2, c8r3, c8k4, c8r5, c8r6, c8r7, c8k8, c8r9, c8r10, c8k11, c8r12, c8b13, c8r15, c8r16, c8r17, c8r18, c8r19, c8r20, c8r21, c8k22, c8r23, c8r24, c8k25, c8r26, c8r27, c8k28, c8r29, c8r30, c8k31, c8k32, c8r33, c8b34, c8r36, c8r37, c8k38, c8r39, c8r40, c8k41, c8k42, c8r43, c8b44, c8r46, c8r47, c8k48, c8r49, c8r50, c8k51, c8r52, c8r53, c8r54, c8k55, c8k56, c8r57, c8b58, c8r60, c8, go_sem, collect_lit0, collect_lit1, collect_lit2, collect_lit3, if_true, if_false, true_and, and_true, false_and, and_false, and_self, Nat.zero_add, Nat.add_zero, eq_self, Bool.true_eq_false, Bool.false_eq_true, cond_true, cond_false, decide_eq_true_eq, Bool.not_eq_true', Bool.not_eq_false', decide_eq_false_iff_not, not_true_eq_false, not_false_eq_true, Bool.true_and, Bool.false_and, Bool.and_true, Bool.and_false, Bool.not_true, Bool.not_false, Option.some.injEq, decide_true, decide_false, List.getElem?_cons_zero, List.getElem?_cons_succ, List.length_cons, List.length_nil, List.nil_append, List.cons_append, List.set_cons_zero, List.set_cons_succ, List.take_zero, List.drop_zero, Nat.reduceEqDiff, Nat.reduceAdd, Nat.reduceSub, Nat.reduceLT, Nat.reduceLeDiff, Nat.reduceMul, Int.reduceEq, Int.reduceLT, Int.reduceLE, Int.reduceAdd, Int.reduceSub, Int.reduceNeg, Int.reduceToNat, reduceCtorEq, ↓reduceIte, s1, s2, s3, s4, s5, e1, e2, e3]
    have := counts_loop K N hN (by omega) hKs hv T D hT hD H22 7 N 10 N j1 j7 j10
    rw [hTN] at this
    refine this _ fun v0 v9 v11 x H' i0 i9 i11 => ?_
    simp -dsimp -implicitDefEqProofs only [g8, c8r0, c8r1, c8r2, c8r3, c8k4, c8r5, c8r6, c8r7, c8k8, c8r9, c8r10, c8k11, c8r12, c8b13, c8r15, c8r16, c8r17, c8r18, c8r19, c8r20, c8r21, c8k22, c8r23, c8r24, c8k25, c8r26, c8r27, c8k28, c8r29, c8r30, c8k31, c8k32, c8r33, c8b34, c8r36, c8r37, c8k38, c8r39, c8r40, c8k41, c8k42, c8r43, c8b44, c8r46, c8r47, c8k48, c8r49, c8r50, c8k51, c8r52, c8r53, c8r54, c8k55, c8k56, c8r57, c8b58, c8r60, c8, go_sem, collect_lit0, collect_lit1, collect_lit2, collect_lit3, if_true, if_false, true_and, and_true, false_and, and_false, and_self, Nat.zero_add, Nat.add_zero, eq_self, Bool.true_eq_false, Bool.false_eq_true, cond_true, cond_false, decide_eq_true_eq, Bool.not_eq_true', Bool.not_eq_false', decide_eq_false_iff_not, not_true_eq_false, not_false_eq_true, Bool.true_and, Bool.false_and, Bool.and_true, Bool.and_false, Bool.not_true, Bool.not_false, Option.some.injEq, decide_true, decide_false, List.getElem?_cons_zero, List.getElem?_cons_succ, List.length_cons, List.length_nil, List.nil_append, List.cons_append, List.set_cons_zero, List.set_cons_succ, List.take_zero, List.drop_zero, Nat.reduceEqDiff, Nat.reduceAdd, Nat.reduceSub, Nat.reduceLT, Nat.reduceLeDiff, Nat.reduceMul, Int.reduceEq, Int.reduceLT, Int.reduceLE, Int.reduceAdd, Int.reduceSub, Int.reduceNeg, Int.reduceToNat, reduceCtorEq, ↓reduceIte]
    refine t_loop K N hN (by omega) hKs hv T D hT hD H' v0 v9 v11 i11 _ fun x => ?_
    simp -dsimp -implicitDefEqProofs only [g8, c8r0, c8r1, c8r2, c8r3, c8k4, c8r5, c8r6, c8r7, c8k8, c8r9, c8r10, c8k11, c8r12, c8b13, c8r15, c8r16, c8r17, c8r18, c8r19, c8r20, c8r21, c8k22, c8r23, c8r24, c8k25, c8r26, c8r27, c8k28, c8r29, c8r30, c8k31, c8k32, c8r33, c8b34, c8r36, c8r37, c8k38, c8r39, c8r40, c8k41, c8k42, c8r43, c8b44, c8r46, c8r47, c8k48, c8r49, c8r50, c8k51, c8r52, c8r53, c8r54, c8k55, c8k56, c8r57, c8b58, c8r60, c8, go_sem, collect_lit0, collect_lit1, collect_lit2, collect_lit3, if_true, if_false, true_and, and_true, false_and, and_false, and_self, Nat.zero_add, Nat.add_zero, eq_self, Bool.true_eq_false, Bool.false_eq_true, cond_true, cond_false, decide_eq_true_eq, Bool.not_eq_true', Bool.not_eq_false', decide_eq_false_iff_not, not_true_eq_false, not_false_eq_true, Bool.true_and, Bool.false_and, Bool.and_true, Bool.and_false, Bool.not_true, Bool.not_false, Option.some.injEq, decide_true, decide_false, List.getElem?_cons_zero, List.getElem?_cons_succ, List.length_cons, List.length_nil, List.nil_append, List.cons_append, List.set_cons_zero, List.set_cons_succ, List.take_zero, List.drop_zero, Nat.reduceEqDiff, Nat.reduceAdd, Nat.reduceSub, Nat.reduceLT, Nat.reduceLeDiff, Nat.reduceMul, Int.reduceEq, Int.reduceLT, Int.reduceLE, Int.reduceAdd, Int.reduceSub, Int.reduceNeg, Int.reduceToNat, reduceCtorEq, ↓reduceIte]
    refine s_loop K N hN (by omega) hKs hv T D hT hD H' v0 v9 i0 i9 _ fun x => ?_
    simp -dsimp -implicitDefEqProofs only [g8, c8r0, c8r1, c8r2, c8r3, c8k4, c8r5, c8r6, c8r7, c8k8, c8r9, c8r10, c8k11, c8r12, c8b13, c8r15, c8r16, c8r17, c8r18, c8r19, c8r20, c8r21, c8k22, c8r23, c8r24, c8k25, c8r26, c8r27, c8k28, c8r29, c8r30, c8k31, c8k32, c8r33, c8b34, c8r36, c8r37, c8k38, c8r39, c8r40, c8k41, c8k42, c8r43, c8b44, c8r46, c8r47, c8k48, c8r49, c8r50, c8k51, c8r52, c8r53, c8r54, c8k55, c8k56, c8r57, c8b58, c8r60, c8, go_sem, collect_lit0, collect_lit1, collect_lit2, collect_lit3, if_true, if_false, true_and, and_true, false_and, and_false, and_self, Nat.zero_add, Nat.add_zero, eq_self, Bool.true_eq_false, Bool.false_eq_true, cond_true, cond_false, decide_eq_true_eq, Bool.not_eq_true', Bool.not_eq_false', decide_eq_false_iff_not, not_true_eq_false, not_false_eq_true, Bool.true_and, Bool.false_and, Bool.and_true, Bool.and_false, Bool.not_true, Bool.not_false, Option.some.injEq, decide_true, decide_false, List.getElem?_cons_zero, List.getElem?_cons_succ, List.length_cons, List.length_nil, List.nil_append, List.cons_append, List.set_cons_zero, List.set_cons_succ, List.take_zero, List.drop_zero, Nat.reduceEqDiff, Nat.reduceAdd, Nat.reduceSub, Nat.reduceLT, Nat.reduceLeDiff, Nat.reduceMul, Int.reduceEq, Int.reduceLT, Int.reduceLE, Int.reduceAdd, Int.reduceSub, Int.reduceNeg, Int.reduceToNat, reduceCtorEq, ↓reduceIte, ha]
  · rw [Bool.not_eq_true] at hv
    rw [hv] at h23
    simp -dsimp -implicitDefEqProofs only [g8, c8r0, c8r1, c8r2, c8r3, c8k4, c8r5, c8r6, c8r7, c8k8, c8r9, c8r10, c8k11, c8r12, c8b13, c8k14, c8r15, c8r16, c8r17, c8r18, c8r19, c8r20, c8r21, c8k22, c8r23, c8r24, c8k25, c8r26, c8r27, c8k28, c8r29, c8r30, c8k31, c8k32, c8r33, c8b34, c8k35, c8r36, c8r37, c8k38, c8r39, c8r40, c8k41, c8k42, c8r43, c8b44, c8k45, c8r46, c8r47, c8k48, c8r49, c8r50, c8k51, c8r52, c8r53, c8r54, c8k55, c8k56, c8r57, c8b58, c8k59, c8r60, c8, go_sem, collect_lit0, collect_lit1, collect_lit2, collect_lit3, if_true, if_false, true_and, and_true, false_and, and_false, and_self, Nat.zero_add, Nat.add_zero, eq_self, Bool.true_eq_false, Bool.false_eq_true, cond_true, cond_false, decide_eq_true_eq, Bool.not_eq_true', Bool.not_eq_false', decide_eq_false_iff_not, not_true_eq_false, not_false_eq_true, Bool.true_and, Bool.false_and, Bool.and_true, Bool.and_false, Bool.not_true, Bool.not_false, Option.some.injEq, decide_true, decide_false, List.getElem?_cons_zero, List.getElem?_cons_succ, List.length_cons, List.length_nil, List.nil_append, List.cons_append, List.set_cons_zero, List.set_cons_succ, List.take_zero, List.drop_zero, Nat.reduceEqDiff, Nat.reduceAdd, Nat.reduceSub, Nat.reduceLT, Nat.reduceLeDiff, Nat.reduceMul, Int.reduceEq, Int.reduceLT, Int.reduceLE, Int.reduceAdd, Int.reduceSub, Int.reduceNeg, Int.reduceToNat, reduceCtorEq, ↓reduceIte, hfew, h23, ha]
set_option maxRecDepth 100000 in
theorem orderSorted_lifted (os : Os) (started : os.Started) (H : Type) (enc : TypeId × Value → H) (F : Stop.Interp) :
    ReturnsInHanded {} Try.checked os 8 .any ((Rows.OpenSpec.upto Rows.orderSortedSpec).pre6 enc Try.prog Try.f8 Rows.orderSortedUptoRow.domain false) (((Rows.OpenSpec.upto Rows.orderSortedSpec).at F).post enc Try.prog Try.f8 false true false false) := by
  refine returnsInHanded_of_cond (C := Try.checked) (s := (Rows.OpenSpec.upto Rows.orderSortedSpec)) (k := Rows.uptoSmall) rfl Try.own started (by kernel_rfl) Try.func8
    (OpenSpec.witness (enc := enc) (C := Try.checked) (s := (Rows.OpenSpec.upto Rows.orderSortedSpec)) (k := Rows.uptoSmall) rfl false ⟨#[], #[.slice none 0 0, .slice none 0 0], []⟩ 8 (by kernel_rfl) (by kernel_rfl) (by kernel_rfl)
      (x := ([.nil, .nil], [], [])) (by kernel_rfl) rfl (by kernel_rfl)) ?_
  intro W base args ds gs before hval0 hW _ hk _
  have hval : ∀ (j : Nat) t v, Try.f8.params[j]? = some t → args[j]? = some v → Value.okWide Try.prog W .any base t v := hval0
  have hb := bulk_bound hk
  have hW' := hW
  obtain ⟨p, q, hA0, hV, rfl, hfz, hnd⟩ := hW
  have hA : DataW.TrodAll enc Try.prog W 0 (fun _ => true) true Try.f8.params.toList args.toList ds p := hA0
  rw [Try.params8] at hA hval
  clear hA0 hval0
  obtain ⟨v0, vs0, d0, ds0, p0, q0, e0, rfl, rfl, h0, r0'⟩ := trodAll_cons hA
  obtain ⟨v1, vs1, d1, ds1, p1, q1, e1, rfl, rfl, h1, r1'⟩ := trodAll_cons r0'
  obtain ⟨e2, rfl, rfl⟩ := trodAll_nil r1'
  subst e2
  subst e1
  obtain rfl : args = #[v0, v1] := by cases args; simp_all
  obtain ⟨rfl, rfl⟩ := trodVars_none hV
  obtain ⟨t0, a0, z0, r0⟩ := open_terms h0 (hval 0 _ v0 rfl rfl)
  obtain ⟨t1, a1, z1, r1⟩ := open_bytes h1 (hval 1 _ v1 rfl rfl)
  simp only [Rows.uptoBulkAll, List.append_nil] at hb
  exact law_contract sound Try.func8 (by kernel_rfl) Try.laidOut (s := Rows.orderSortedSpec) rfl rfl hW' (.cons a0 (.cons a1 (.nil))) (orderSorted_sem t0 t1 r1 (by omega) (by omega))
theorem orderSorted_holds : Rows.OrderSortedUptoSaid :=
  OpenClaim.holds_of_cond 8 Try.f8 rfl rfl rfl rfl rfl rfl rfl ⟨rfl, rfl, rfl, rfl, rfl⟩ rfl rfl rfl rfl rfl (by kernel_rfl) Try.func8 (by kernel_rfl)
    (of_decide_eq_true (by kernel_rfl)) (by unfold Func.isWrapper; first | (rw [if_pos (by decide +kernel)]; kernel_rfl) | (rw [if_neg (by decide +kernel)]; exact ⟨rfl, rfl⟩))
    (fun os started H enc _ F => orderSorted_lifted os started H enc F)
end Go.Proofs.Yteaehiceghhajaa
