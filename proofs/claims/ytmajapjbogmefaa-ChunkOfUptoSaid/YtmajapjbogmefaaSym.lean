/- What is proved: the library's merging in place merges. -/
import Derived.Test.YtmajapjbogmefaaSwap
set_option linter.unusedSimpArgs false
set_option linter.unusedVariables false
namespace Go.Proofs.Ytmajapjbogmefaa
open Go.Am
theorem sym_s1 (c : PV → PV → Int) (fv : AV) (D : PV → Prop) (hp : Heap) (r : Nat) (hg : CmpF c fv D hp r) (hr : r < hp.length) (xs : List PV) (N a i0 j0 : Nat) (hN : xs.length = N) (hN' : N < 1000000000) (ha : a < N) (hj : j0 ≤ N) (hij : i0 ≤ j0) (hD : ∀ h, h < N → D (at' xs h))
    (hm : ∀ h h', i0 ≤ h' → h' ≤ h → h < j0 → c (at' xs h) (at' xs a) < 0 → c (at' xs h') (at' xs a) < 0)
    (fr : Fr) (Q : AExit → St → Prop)
    (hfr : fr.keep [0, 1, 4, 10, 11] = [(0, .sl none r N 0 N), (1, .pv none (.int .i64 a)), (4, fv), (10, .pv none (.int .i64 i0)), (11, .pv none (.int .i64 j0))])
    (h : ∀ k, i0 ≤ k → k ≤ j0 → (∀ h, i0 ≤ h → h < k → c (at' xs h) (at' xs a) < 0) → (∀ h, k ≤ h → h < j0 → ¬ c (at' xs h) (at' xs a) < 0) → ∀ rest, Q (.exit 0) ⟨(0, .sl none r N 0 N) :: (1, .pv none (.int .i64 a)) :: (4, fv) :: (10, .pv none (.int .i64 k)) :: rest, hp.set r (.arr none xs false)⟩) :
    W Z L hp.length (.loop [0, 1, 4, 10, 11] c56b11) ⟨fr, hp.set r (.arr none xs false)⟩ Q := by
  have e1 : ∀ A, (hp.set r A)[r]? = some A := fun A => by simp [hr]
  refine W_loop (fun n st => ∃ i j : Nat, n = j - i ∧ i0 ≤ i ∧ i ≤ j ∧ j ≤ j0 ∧ (∀ h, i0 ≤ h → h < i → c (at' xs h) (at' xs a) < 0) ∧ (∀ h, j ≤ h → h < j0 → ¬ c (at' xs h) (at' xs a) < 0) ∧
    st = ⟨[(0, .sl none r N 0 N), (1, .pv none (.int .i64 a)), (4, fv), (10, .pv none (.int .i64 i)), (11, .pv none (.int .i64 j))], hp.set r (.arr none xs false)⟩) (n := j0 - i0) ⟨i0, j0, rfl, by omega, hij, by omega, fun h h1 h2 => by omega, fun h h1 h2 => by omega, ?_⟩ ?_
  · rw [hfr]
  · rintro n st ⟨i, j, hn, h1, h2, h3, h4, h5, rfl⟩
    by_cases hlt : i < j
    · have hc : (i : Int) < (j : Int) := by omega
      have w1 : IntKind.i64.wrap ((i : Int) + (j : Int)) = ((i + j : Nat) : Int) := by rw [wrap64 (by omega) (by omega)]; omega
      have w2 : IntKind.u64.wrap ((i + j : Nat) : Int) = ((i + j : Nat) : Int) := wrap_u64 (by omega) (by omega)
      have w3 : IntKind.i64.wrap (((i + j : Nat) : Int) / 2) = (((i + j) / 2 : Nat) : Int) := by rw [wrap64 (by omega) (by omega)]; omega
      have w4 : IntKind.i64.wrap ((((i + j) / 2 : Nat) : Int) + 1) = (((i + j) / 2 + 1 : Nat) : Int) := by rw [wrap64 (by omega) (by omega)]; omega
      have lh : (i + j) / 2 < N := by omega
      have gh := at_some (xs := xs) (i := (i + j) / 2) (by omega)
      have ga := at_some (xs := xs) (i := a) (by omega)
      obtain ⟨g, fs, cs, hcal, hg'⟩ := hg
      have hcall := hg' _ _ (hD _ lh) (hD a ha)
      by_cases h0 : c (at' xs ((i + j) / 2)) (at' xs a) < 0
      · simp -dsimp -implicitDefEqProofs only [g56, c56r0, c56r1, c56r2, c56r3, c56k4, c56r5, c56r6, c56r7, c56r8, c56k9, c56k10, c56b11, c56k12, c56r13, c56r14, c56k15, c56r16, c56k17, c56r18, c56b19, c56k20, c56k21, c56r22, c56r23, c56r24, c56r25, c56k26, c56r27, c56r28, c56r29, c56r30, c56k31, c56k32, c56b33, c56k34, c56r35, c56r36, c56k37, c56r38, c56k39, c56r40, c56b41, c56k42, c56k43, c56r44, c56r45, c56r46, c56r47, c56r48, c56r49, c56r50, c56r51, c56k52, c56r53, c56r54, c56k55, c56r56, c56r57, c56r58, c56r59, c56k60, c56k61, c56b62, c56k63, c56r64, c56r65, c56r66, c56k67, c56r68, c56r69, c56k70, c56r71, c56r72, c56k73, c56, go_sem, seval, ↓reduceIte, hc, i_shr1 (show 0 < IntKind.bits .u64 by decide), w1, w2, w3, w4, s_iaddr_sl lh, s_iaddr_sl ha, aload_eptr, e1, gh, ga, hN, hcall, op_callee hcal, h0]
        refine ⟨j - ((i + j) / 2 + 1), by omega, (i + j) / 2 + 1, j, rfl, by omega, by omega, h3, fun h x1 x2 => hm _ _ x1 (by omega) (by omega) h0, h5, ?_⟩
        rw [collect_id (by simp)]
      · simp -dsimp -implicitDefEqProofs only [g56, c56r0, c56r1, c56r2, c56r3, c56k4, c56r5, c56r6, c56r7, c56r8, c56k9, c56k10, c56b11, c56k12, c56r13, c56r14, c56k15, c56r16, c56k17, c56r18, c56b19, c56k20, c56k21, c56r22, c56r23, c56r24, c56r25, c56k26, c56r27, c56r28, c56r29, c56r30, c56k31, c56k32, c56b33, c56k34, c56r35, c56r36, c56k37, c56r38, c56k39, c56r40, c56b41, c56k42, c56k43, c56r44, c56r45, c56r46, c56r47, c56r48, c56r49, c56r50, c56r51, c56k52, c56r53, c56r54, c56k55, c56r56, c56r57, c56r58, c56r59, c56k60, c56k61, c56b62, c56k63, c56r64, c56r65, c56r66, c56k67, c56r68, c56r69, c56k70, c56r71, c56r72, c56k73, c56, go_sem, seval, ↓reduceIte, hc, i_shr1 (show 0 < IntKind.bits .u64 by decide), w1, w2, w3, w4, s_iaddr_sl lh, s_iaddr_sl ha, aload_eptr, e1, gh, ga, hN, hcall, op_callee hcal, h0]
        refine ⟨(i + j) / 2 - i, by omega, i, (i + j) / 2, rfl, h1, by omega, by omega, h4, fun h x1 x2 x3 => h0 (hm _ _ (by omega) x1 x2 x3), ?_⟩
        rw [collect_id (by simp)]
    · have hc : ¬ (i : Int) < (j : Int) := by omega
      obtain rfl : i = j := by omega
      simp -dsimp -implicitDefEqProofs only [g56, c56r0, c56r1, c56r2, c56r3, c56k4, c56r5, c56r6, c56r7, c56r8, c56k9, c56k10, c56b11, c56k12, c56r13, c56r14, c56k15, c56r16, c56k17, c56r18, c56b19, c56k20, c56k21, c56r22, c56r23, c56r24, c56r25, c56k26, c56r27, c56r28, c56r29, c56r30, c56k31, c56k32, c56b33, c56k34, c56r35, c56r36, c56k37, c56r38, c56k39, c56r40, c56b41, c56k42, c56k43, c56r44, c56r45, c56r46, c56r47, c56r48, c56r49, c56r50, c56r51, c56k52, c56r53, c56r54, c56k55, c56r56, c56r57, c56r58, c56r59, c56k60, c56k61, c56b62, c56k63, c56r64, c56r65, c56r66, c56k67, c56r68, c56r69, c56k70, c56r71, c56r72, c56k73, c56, go_sem, seval, ↓reduceIte, hc]
      exact h i h1 h3 h4 h5 _
theorem sym_s2 (c : PV → PV → Int) (fv : AV) (D : PV → Prop) (hp : Heap) (r : Nat) (hg : CmpF c fv D hp r) (hr : r < hp.length) (xs : List PV) (N m i0 j0 : Nat) (hN : xs.length = N) (hN' : N < 1000000000) (ha : m < N) (hj : j0 ≤ N) (hij : i0 ≤ j0) (hD : ∀ h, h < N → D (at' xs h))
    (hm : ∀ h h', i0 ≤ h' → h' ≤ h → h < j0 → ¬ c (at' xs m) (at' xs h) < 0 → ¬ c (at' xs m) (at' xs h') < 0)
    (fr : Fr) (Q : AExit → St → Prop)
    (hfr : fr.keep [0, 2, 4, 14, 15] = [(0, .sl none r N 0 N), (2, .pv none (.int .i64 m)), (4, fv), (14, .pv none (.int .i64 i0)), (15, .pv none (.int .i64 j0))])
    (h : ∀ k, i0 ≤ k → k ≤ j0 → (∀ h, i0 ≤ h → h < k → ¬ c (at' xs m) (at' xs h) < 0) → (∀ h, k ≤ h → h < j0 → c (at' xs m) (at' xs h) < 0) → ∀ rest, Q (.exit 4) ⟨(0, .sl none r N 0 N) :: (2, .pv none (.int .i64 m)) :: (4, fv) :: (14, .pv none (.int .i64 k)) :: rest, hp.set r (.arr none xs false)⟩) :
    W Z L hp.length (.loop [0, 2, 4, 14, 15] c56b33) ⟨fr, hp.set r (.arr none xs false)⟩ Q := by
  have e1 : ∀ A, (hp.set r A)[r]? = some A := fun A => by simp [hr]
  refine W_loop (fun n st => ∃ i j : Nat, n = j - i ∧ i0 ≤ i ∧ i ≤ j ∧ j ≤ j0 ∧ (∀ h, i0 ≤ h → h < i → ¬ c (at' xs m) (at' xs h) < 0) ∧ (∀ h, j ≤ h → h < j0 → c (at' xs m) (at' xs h) < 0) ∧
    st = ⟨[(0, .sl none r N 0 N), (2, .pv none (.int .i64 m)), (4, fv), (14, .pv none (.int .i64 i)), (15, .pv none (.int .i64 j))], hp.set r (.arr none xs false)⟩) (n := j0 - i0) ⟨i0, j0, rfl, by omega, hij, by omega, fun h h1 h2 => by omega, fun h h1 h2 => by omega, ?_⟩ ?_
  · rw [hfr]
  · rintro n st ⟨i, j, hn, h1, h2, h3, h4, h5, rfl⟩
    by_cases hlt : i < j
    · have hc : (i : Int) < (j : Int) := by omega
      have w1 : IntKind.i64.wrap ((i : Int) + (j : Int)) = ((i + j : Nat) : Int) := by rw [wrap64 (by omega) (by omega)]; omega
      have w2 : IntKind.u64.wrap ((i + j : Nat) : Int) = ((i + j : Nat) : Int) := wrap_u64 (by omega) (by omega)
      have w3 : IntKind.i64.wrap (((i + j : Nat) : Int) / 2) = (((i + j) / 2 : Nat) : Int) := by rw [wrap64 (by omega) (by omega)]; omega
      have w4 : IntKind.i64.wrap ((((i + j) / 2 : Nat) : Int) + 1) = (((i + j) / 2 + 1 : Nat) : Int) := by rw [wrap64 (by omega) (by omega)]; omega
      have lh : (i + j) / 2 < N := by omega
      have gh := at_some (xs := xs) (i := (i + j) / 2) (by omega)
      have ga := at_some (xs := xs) (i := m) (by omega)
      obtain ⟨g, fs, cs, hcal, hg'⟩ := hg
      have hcall := hg' _ _ (hD m ha) (hD _ lh)
      by_cases h0 : c (at' xs m) (at' xs ((i + j) / 2)) < 0
      · simp -dsimp -implicitDefEqProofs only [g56, c56r0, c56r1, c56r2, c56r3, c56k4, c56r5, c56r6, c56r7, c56r8, c56k9, c56k10, c56b11, c56k12, c56r13, c56r14, c56k15, c56r16, c56k17, c56r18, c56b19, c56k20, c56k21, c56r22, c56r23, c56r24, c56r25, c56k26, c56r27, c56r28, c56r29, c56r30, c56k31, c56k32, c56b33, c56k34, c56r35, c56r36, c56k37, c56r38, c56k39, c56r40, c56b41, c56k42, c56k43, c56r44, c56r45, c56r46, c56r47, c56r48, c56r49, c56r50, c56r51, c56k52, c56r53, c56r54, c56k55, c56r56, c56r57, c56r58, c56r59, c56k60, c56k61, c56b62, c56k63, c56r64, c56r65, c56r66, c56k67, c56r68, c56r69, c56k70, c56r71, c56r72, c56k73, c56, go_sem, seval, ↓reduceIte, hc, i_shr1 (show 0 < IntKind.bits .u64 by decide), w1, w2, w3, w4, s_iaddr_sl lh, s_iaddr_sl ha, aload_eptr, e1, gh, ga, hN, hcall, op_callee hcal, h0]
        refine ⟨(i + j) / 2 - i, by omega, i, (i + j) / 2, rfl, h1, by omega, by omega, h4, fun h x1 x2 => Classical.byContradiction fun x3 => hm _ _ (by omega) x1 x2 x3 h0, ?_⟩
        rw [collect_id (by simp)]
      · simp -dsimp -implicitDefEqProofs only [g56, c56r0, c56r1, c56r2, c56r3, c56k4, c56r5, c56r6, c56r7, c56r8, c56k9, c56k10, c56b11, c56k12, c56r13, c56r14, c56k15, c56r16, c56k17, c56r18, c56b19, c56k20, c56k21, c56r22, c56r23, c56r24, c56r25, c56k26, c56r27, c56r28, c56r29, c56r30, c56k31, c56k32, c56b33, c56k34, c56r35, c56r36, c56k37, c56r38, c56k39, c56r40, c56b41, c56k42, c56k43, c56r44, c56r45, c56r46, c56r47, c56r48, c56r49, c56r50, c56r51, c56k52, c56r53, c56r54, c56k55, c56r56, c56r57, c56r58, c56r59, c56k60, c56k61, c56b62, c56k63, c56r64, c56r65, c56r66, c56k67, c56r68, c56r69, c56k70, c56r71, c56r72, c56k73, c56, go_sem, seval, ↓reduceIte, hc, i_shr1 (show 0 < IntKind.bits .u64 by decide), w1, w2, w3, w4, s_iaddr_sl lh, s_iaddr_sl ha, aload_eptr, e1, gh, ga, hN, hcall, op_callee hcal, h0]
        refine ⟨j - ((i + j) / 2 + 1), by omega, (i + j) / 2 + 1, j, rfl, by omega, by omega, h3, fun h x1 x2 => hm _ _ x1 (by omega) (by omega) h0, h5, ?_⟩
        rw [collect_id (by simp)]
    · have hc : ¬ (i : Int) < (j : Int) := by omega
      obtain rfl : i = j := by omega
      simp -dsimp -implicitDefEqProofs only [g56, c56r0, c56r1, c56r2, c56r3, c56k4, c56r5, c56r6, c56r7, c56r8, c56k9, c56k10, c56b11, c56k12, c56r13, c56r14, c56k15, c56r16, c56k17, c56r18, c56b19, c56k20, c56k21, c56r22, c56r23, c56r24, c56r25, c56k26, c56r27, c56r28, c56r29, c56r30, c56k31, c56k32, c56b33, c56k34, c56r35, c56r36, c56k37, c56r38, c56k39, c56r40, c56b41, c56k42, c56k43, c56r44, c56r45, c56r46, c56r47, c56r48, c56r49, c56r50, c56r51, c56k52, c56r53, c56r54, c56k55, c56r56, c56r57, c56r58, c56r59, c56k60, c56k61, c56b62, c56k63, c56r64, c56r65, c56r66, c56k67, c56r68, c56r69, c56k70, c56r71, c56r72, c56k73, c56, go_sem, seval, ↓reduceIte, hc]
      exact h i h1 h3 h4 h5 _
theorem sym_s3 (c : PV → PV → Int) (fv : AV) (D : PV → Prop) (hp : Heap) (r : Nat) (hg : CmpF c fv D hp r) (hr : r < hp.length) (xs : List PV) (N a m b mid n p i0 j0 : Nat) (hN : xs.length = N) (hN' : N < 1000000000) (hj : j0 ≤ N) (hp1 : p < N + i0) (hp2 : j0 ≤ p + 1) (hij : i0 ≤ j0) (hD : ∀ h, h < N → D (at' xs h))
    (hm : ∀ h h', i0 ≤ h' → h' ≤ h → h < j0 → ¬ c (at' xs (p - h)) (at' xs h) < 0 → ¬ c (at' xs (p - h')) (at' xs h') < 0) (hb : p < 1000000000 + 1000000000)
    (fr : Fr) (Q : AExit → St → Prop)
    (hfr : fr.keep [0, 1, 2, 3, 4, 18, 19, 20, 21, 22] = [(0, .sl none r N 0 N), (1, .pv none (.int .i64 a)), (2, .pv none (.int .i64 m)), (3, .pv none (.int .i64 b)), (4, fv), (18, .pv none (.int .i64 mid)), (19, .pv none (.int .i64 n)), (20, .pv none (.int .i64 i0)), (21, .pv none (.int .i64 j0)), (22, .pv none (.int .i64 p))])
    (h : ∀ k, i0 ≤ k → k ≤ j0 → (∀ h, i0 ≤ h → h < k → ¬ c (at' xs (p - h)) (at' xs h) < 0) → (∀ h, k ≤ h → h < j0 → c (at' xs (p - h)) (at' xs h) < 0) →
      ∀ rest, Q (.exit 8) ⟨(0, .sl none r N 0 N) :: (1, .pv none (.int .i64 a)) :: (2, .pv none (.int .i64 m)) :: (3, .pv none (.int .i64 b)) :: (4, fv) :: (18, .pv none (.int .i64 mid)) :: (19, .pv none (.int .i64 n)) :: (20, .pv none (.int .i64 k)) :: rest, hp.set r (.arr none xs false)⟩) :
    W Z L hp.length (.loop [0, 1, 2, 3, 4, 18, 19, 20, 21, 22] c56b62) ⟨fr, hp.set r (.arr none xs false)⟩ Q := by
  have e1 : ∀ A, (hp.set r A)[r]? = some A := fun A => by simp [hr]
  refine W_loop (fun k st => ∃ i j : Nat, k = j - i ∧ i0 ≤ i ∧ i ≤ j ∧ j ≤ j0 ∧ (∀ h, i0 ≤ h → h < i → ¬ c (at' xs (p - h)) (at' xs h) < 0) ∧ (∀ h, j ≤ h → h < j0 → c (at' xs (p - h)) (at' xs h) < 0) ∧
    st = ⟨[(0, .sl none r N 0 N), (1, .pv none (.int .i64 a)), (2, .pv none (.int .i64 m)), (3, .pv none (.int .i64 b)), (4, fv), (18, .pv none (.int .i64 mid)), (19, .pv none (.int .i64 n)), (20, .pv none (.int .i64 i)), (21, .pv none (.int .i64 j)), (22, .pv none (.int .i64 p))], hp.set r (.arr none xs false)⟩) (n := j0 - i0) ⟨i0, j0, rfl, by omega, hij, by omega, fun h h1 h2 => by omega, fun h h1 h2 => by omega, ?_⟩ ?_
  · rw [hfr]
  · rintro k st ⟨i, j, hn, h1, h2, h3, h4, h5, rfl⟩
    by_cases hlt : i < j
    · have hc : (i : Int) < (j : Int) := by omega
      have w1 : IntKind.i64.wrap ((i : Int) + (j : Int)) = ((i + j : Nat) : Int) := by rw [wrap64 (by omega) (by omega)]; omega
      have w2 : IntKind.u64.wrap ((i + j : Nat) : Int) = ((i + j : Nat) : Int) := wrap_u64 (by omega) (by omega)
      have w3 : IntKind.i64.wrap (((i + j : Nat) : Int) / 2) = (((i + j) / 2 : Nat) : Int) := by rw [wrap64 (by omega) (by omega)]; omega
      have w4 : IntKind.i64.wrap ((((i + j) / 2 : Nat) : Int) + 1) = (((i + j) / 2 + 1 : Nat) : Int) := by rw [wrap64 (by omega) (by omega)]; omega
      have w5 : IntKind.i64.wrap ((p : Int) - (((i + j) / 2 : Nat) : Int)) = ((p - (i + j) / 2 : Nat) : Int) := by rw [wrap64 (by omega) (by omega)]; omega
      have lh : (i + j) / 2 < N := by omega
      have lp : p - (i + j) / 2 < N := by omega
      have gh := at_some (xs := xs) (i := (i + j) / 2) (by omega)
      have ga := at_some (xs := xs) (i := p - (i + j) / 2) (by omega)
      obtain ⟨g, fs, cs, hcal, hg'⟩ := hg
      have hcall := hg' _ _ (hD _ lp) (hD _ lh)
      by_cases h0 : c (at' xs (p - (i + j) / 2)) (at' xs ((i + j) / 2)) < 0
      · simp -dsimp -implicitDefEqProofs only [g56, c56r0, c56r1, c56r2, c56r3, c56k4, c56r5, c56r6, c56r7, c56r8, c56k9, c56k10, c56b11, c56k12, c56r13, c56r14, c56k15, c56r16, c56k17, c56r18, c56b19, c56k20, c56k21, c56r22, c56r23, c56r24, c56r25, c56k26, c56r27, c56r28, c56r29, c56r30, c56k31, c56k32, c56b33, c56k34, c56r35, c56r36, c56k37, c56r38, c56k39, c56r40, c56b41, c56k42, c56k43, c56r44, c56r45, c56r46, c56r47, c56r48, c56r49, c56r50, c56r51, c56k52, c56r53, c56r54, c56k55, c56r56, c56r57, c56r58, c56r59, c56k60, c56k61, c56b62, c56k63, c56r64, c56r65, c56r66, c56k67, c56r68, c56r69, c56k70, c56r71, c56r72, c56k73, c56, go_sem, seval, ↓reduceIte, hc, i_shr1 (show 0 < IntKind.bits .u64 by decide), w1, w2, w3, w4, w5, s_iaddr_sl lh, s_iaddr_sl lp, aload_eptr, e1, gh, ga, hN, hcall, op_callee hcal, h0]
        refine ⟨(i + j) / 2 - i, by omega, i, (i + j) / 2, rfl, h1, by omega, by omega, h4, fun h x1 x2 => Classical.byContradiction fun x3 => hm _ _ (by omega) x1 x2 x3 h0, ?_⟩
        rw [collect_id (by simp)]
      · simp -dsimp -implicitDefEqProofs only [g56, c56r0, c56r1, c56r2, c56r3, c56k4, c56r5, c56r6, c56r7, c56r8, c56k9, c56k10, c56b11, c56k12, c56r13, c56r14, c56k15, c56r16, c56k17, c56r18, c56b19, c56k20, c56k21, c56r22, c56r23, c56r24, c56r25, c56k26, c56r27, c56r28, c56r29, c56r30, c56k31, c56k32, c56b33, c56k34, c56r35, c56r36, c56k37, c56r38, c56k39, c56r40, c56b41, c56k42, c56k43, c56r44, c56r45, c56r46, c56r47, c56r48, c56r49, c56r50, c56r51, c56k52, c56r53, c56r54, c56k55, c56r56, c56r57, c56r58, c56r59, c56k60, c56k61, c56b62, c56k63, c56r64, c56r65, c56r66, c56k67, c56r68, c56r69, c56k70, c56r71, c56r72, c56k73, c56, go_sem, seval, ↓reduceIte, hc, i_shr1 (show 0 < IntKind.bits .u64 by decide), w1, w2, w3, w4, w5, s_iaddr_sl lh, s_iaddr_sl lp, aload_eptr, e1, gh, ga, hN, hcall, op_callee hcal, h0]
        refine ⟨j - ((i + j) / 2 + 1), by omega, (i + j) / 2 + 1, j, rfl, by omega, by omega, h3, fun h x1 x2 => hm _ _ x1 (by omega) (by omega) h0, h5, ?_⟩
        rw [collect_id (by simp)]
    · have hc : ¬ (i : Int) < (j : Int) := by omega
      obtain rfl : i = j := by omega
      simp -dsimp -implicitDefEqProofs only [g56, c56r0, c56r1, c56r2, c56r3, c56k4, c56r5, c56r6, c56r7, c56r8, c56k9, c56k10, c56b11, c56k12, c56r13, c56r14, c56k15, c56r16, c56k17, c56r18, c56b19, c56k20, c56k21, c56r22, c56r23, c56r24, c56r25, c56k26, c56r27, c56r28, c56r29, c56r30, c56k31, c56k32, c56b33, c56k34, c56r35, c56r36, c56k37, c56r38, c56k39, c56r40, c56b41, c56k42, c56k43, c56r44, c56r45, c56r46, c56r47, c56r48, c56r49, c56r50, c56r51, c56k52, c56r53, c56r54, c56k55, c56r56, c56r57, c56r58, c56r59, c56k60, c56k61, c56b62, c56k63, c56r64, c56r65, c56r66, c56k67, c56r68, c56r69, c56k70, c56r71, c56r72, c56k73, c56, go_sem, seval, ↓reduceIte, hc]
      exact h i h1 h3 h4 h5 _

theorem sym_r (hp : Heap) (r : Nat) (hr : r < hp.length) (N i a : Nat) (P B1 T : List PV) (x : PV) (hP : P.length = a) (hi : i = a + 1 + B1.length) (hN : N = (P ++ x :: B1 ++ T).length) (hN' : N < 1000000000) (fr : Fr) (Q : AExit → St → Prop)
    (hfr : fr.keep [0, 10, 13] = [(0, .sl none r N 0 N), (10, .pv none (.int .i64 i)), (13, .pv none (.int .i64 a))])
    (h : ∀ fr, Q (.exit 2) ⟨fr, hp.set r (.arr none (P ++ B1 ++ x :: T) false)⟩) :
    W Z L hp.length (.loop [0, 10, 13] c56b19) ⟨fr, hp.set r (.arr none (P ++ x :: B1 ++ T) false)⟩ Q := by
  have e1 : ∀ A, (hp.set r A)[r]? = some A := fun A => by simp [hr]
  have hNl : N = P.length + B1.length + T.length + 1 := by (rw [hN]; simp <;> omega)
  have w0 : IntKind.i64.wrap ((i : Int) - 1) = ((a + B1.length : Nat) : Int) := by rw [wrap64 (by omega) (by omega)]; omega
  refine W_loop (fun k st => ∃ (C1 C2 : List PV), k = C2.length ∧ B1 = C1 ++ C2 ∧ st = ⟨[(0, .sl none r N 0 N), (10, .pv none (.int .i64 i)), (13, .pv none (.int .i64 ((a + C1.length : Nat) : Int)))], hp.set r (.arr none (P ++ C1 ++ x :: C2 ++ T) false)⟩) (n := B1.length) ⟨[], B1, rfl, rfl, ?_⟩ ?_
  · rw [hfr]
    simp
  · rintro k st ⟨C1, C2, hk, hB, rfl⟩
    have hBl : B1.length = C1.length + C2.length := by rw [hB]; simp
    have hlen : (P ++ C1 ++ x :: C2 ++ T).length = N := by (simp <;> omega)
    cases C2 with
    | nil =>
      have hc : ¬ ((a + C1.length : Nat) : Int) < ((a + B1.length : Nat) : Int) := by simp at hBl; omega
      simp -dsimp -implicitDefEqProofs only [g56, c56r0, c56r1, c56r2, c56r3, c56k4, c56r5, c56r6, c56r7, c56r8, c56k9, c56k10, c56b11, c56k12, c56r13, c56r14, c56k15, c56r16, c56k17, c56r18, c56b19, c56k20, c56k21, c56r22, c56r23, c56r24, c56r25, c56k26, c56r27, c56r28, c56r29, c56r30, c56k31, c56k32, c56b33, c56k34, c56r35, c56r36, c56k37, c56r38, c56k39, c56r40, c56b41, c56k42, c56k43, c56r44, c56r45, c56r46, c56r47, c56r48, c56r49, c56r50, c56r51, c56k52, c56r53, c56r54, c56k55, c56r56, c56r57, c56r58, c56r59, c56k60, c56k61, c56b62, c56k63, c56r64, c56r65, c56r66, c56k67, c56r68, c56r69, c56k70, c56r71, c56r72, c56k73, c56, go_sem, seval, ↓reduceIte, hc, w0]
      rw [List.append_nil] at hB
      have e : P ++ C1 ++ [x] ++ T = P ++ B1 ++ x :: T := by rw [hB]; simp
      rw [e]
      exact h _
    | cons y C2 =>
      simp only [List.length_cons] at hBl hk
      have hc : ((a + C1.length : Nat) : Int) < ((a + B1.length : Nat) : Int) := by omega
      have w1 : IntKind.i64.wrap (((a + C1.length : Nat) : Int) + 1) = ((a + C1.length + 1 : Nat) : Int) := by rw [wrap64 (by omega) (by omega)]; omega
      have la : a + C1.length < N := by omega
      have lb : a + C1.length + 1 < N := by omega
      have s1 : P ++ C1 ++ x :: y :: C2 ++ T = (P ++ C1) ++ x :: (y :: C2 ++ T) := by simp
      have s2 : P ++ C1 ++ x :: y :: C2 ++ T = (P ++ C1 ++ [x]) ++ y :: (C2 ++ T) := by simp
      have g1 : (P ++ C1 ++ x :: y :: C2 ++ T)[a + C1.length]? = some x := by rw [s1]; exact mid_get (by simp; omega)
      have g2 : (P ++ C1 ++ x :: y :: C2 ++ T)[a + C1.length + 1]? = some y := by rw [s2]; exact mid_get (by simp; omega)
      have g3 : ((P ++ C1 ++ x :: y :: C2 ++ T).set (a + C1.length) y).set (a + C1.length + 1) x = P ++ (C1 ++ [y]) ++ x :: C2 ++ T := by
        rw [s1, mid_set (by simp; omega)]
        have s3 : (P ++ C1) ++ y :: (y :: C2 ++ T) = (P ++ C1 ++ [y]) ++ y :: (C2 ++ T) := by simp
        rw [s3, mid_set (by simp; omega)]
        simp
      generalize hxs : P ++ C1 ++ x :: y :: C2 ++ T = xs at g1 g2 g3 hlen ⊢
      simp -dsimp -implicitDefEqProofs only [g56, c56r0, c56r1, c56r2, c56r3, c56k4, c56r5, c56r6, c56r7, c56r8, c56k9, c56k10, c56b11, c56k12, c56r13, c56r14, c56k15, c56r16, c56k17, c56r18, c56b19, c56k20, c56k21, c56r22, c56r23, c56r24, c56r25, c56k26, c56r27, c56r28, c56r29, c56r30, c56k31, c56k32, c56b33, c56k34, c56r35, c56r36, c56k37, c56r38, c56k39, c56r40, c56b41, c56k42, c56k43, c56r44, c56r45, c56r46, c56r47, c56r48, c56r49, c56r50, c56r51, c56k52, c56r53, c56r54, c56k55, c56r56, c56r57, c56r58, c56r59, c56k60, c56k61, c56b62, c56k63, c56r64, c56r65, c56r66, c56k67, c56r68, c56r69, c56k70, c56r71, c56r72, c56k73, c56, go_sem, seval, ↓reduceIte, hc, w0, w1, s_iaddr_sl la, s_iaddr_sl lb, aload_eptr, w_store_eptr, e1, g1, g2, hlen, List.length_set, List.set_set, la, lb, g3]
      refine ⟨C2.length, by omega, C1 ++ [y], C2, rfl, by rw [hB]; simp, ?_⟩
      rw [collect_id (by simp)]
      simp
      rfl
theorem sym_l (hp : Heap) (r : Nat) (hr : r < hp.length) (N i m : Nat) (P A2 T : List PV) (y : PV) (hP : P.length = i) (hi : m = i + A2.length) (hN : N = (P ++ A2 ++ y :: T).length) (hN' : N < 1000000000) (fr : Fr) (Q : AExit → St → Prop)
    (hfr : fr.keep [0, 14, 17] = [(0, .sl none r N 0 N), (14, .pv none (.int .i64 i)), (17, .pv none (.int .i64 m))])
    (h : ∀ fr, Q (.exit 6) ⟨fr, hp.set r (.arr none (P ++ y :: A2 ++ T) false)⟩) :
    W Z L hp.length (.loop [0, 14, 17] c56b41) ⟨fr, hp.set r (.arr none (P ++ A2 ++ y :: T) false)⟩ Q := by
  have e1 : ∀ A, (hp.set r A)[r]? = some A := fun A => by simp [hr]
  have hNl : N = P.length + A2.length + T.length + 1 := by (rw [hN]; simp <;> omega)
  refine W_loop (fun k st => ∃ (C1 C2 : List PV), k = C1.length ∧ A2 = C1 ++ C2 ∧ st = ⟨[(0, .sl none r N 0 N), (14, .pv none (.int .i64 i)), (17, .pv none (.int .i64 ((i + C1.length : Nat) : Int)))], hp.set r (.arr none (P ++ C1 ++ y :: C2 ++ T) false)⟩) (n := A2.length) ⟨A2, [], rfl, by simp, ?_⟩ ?_
  · rw [hfr, hi]
    simp
  · rintro k st ⟨C1, C2, hk, hB, rfl⟩
    have hBl : A2.length = C1.length + C2.length := by rw [hB]; simp
    have hlen : (P ++ C1 ++ y :: C2 ++ T).length = N := by (simp <;> omega)
    rcases nil_or_snoc C1 with rfl | ⟨C3, x, rfl⟩
    · have hc : ¬ ((i : Nat) : Int) < ((i + ([] : List PV).length : Nat) : Int) := by simp
      simp -dsimp -implicitDefEqProofs only [g56, c56r0, c56r1, c56r2, c56r3, c56k4, c56r5, c56r6, c56r7, c56r8, c56k9, c56k10, c56b11, c56k12, c56r13, c56r14, c56k15, c56r16, c56k17, c56r18, c56b19, c56k20, c56k21, c56r22, c56r23, c56r24, c56r25, c56k26, c56r27, c56r28, c56r29, c56r30, c56k31, c56k32, c56b33, c56k34, c56r35, c56r36, c56k37, c56r38, c56k39, c56r40, c56b41, c56k42, c56k43, c56r44, c56r45, c56r46, c56r47, c56r48, c56r49, c56r50, c56r51, c56k52, c56r53, c56r54, c56k55, c56r56, c56r57, c56r58, c56r59, c56k60, c56k61, c56b62, c56k63, c56r64, c56r65, c56r66, c56k67, c56r68, c56r69, c56k70, c56r71, c56r72, c56k73, c56, go_sem, seval, ↓reduceIte, hc, Int.lt_irrefl]
      rw [List.nil_append] at hB
      have e : P ++ [] ++ y :: C2 ++ T = P ++ y :: A2 ++ T := by rw [hB]; simp
      rw [e]
      exact h _
    · have hxl : (C3 ++ [x]).length = C3.length + 1 := by simp
      have hc : ((i : Nat) : Int) < ((i + (C3 ++ [x]).length : Nat) : Int) := by rw [hxl]; omega
      have w1 : IntKind.i64.wrap (((i + (C3 ++ [x]).length : Nat) : Int) - 1) = ((i + C3.length : Nat) : Int) := by rw [wrap64 (by omega) (by omega)]; omega
      have la : i + (C3 ++ [x]).length < N := by omega
      have lb : i + C3.length < N := by omega
      have s1 : P ++ (C3 ++ [x]) ++ y :: C2 ++ T = (P ++ (C3 ++ [x])) ++ y :: (C2 ++ T) := by simp
      have s2 : P ++ (C3 ++ [x]) ++ y :: C2 ++ T = (P ++ C3) ++ x :: (y :: C2 ++ T) := by simp
      have g1 : (P ++ (C3 ++ [x]) ++ y :: C2 ++ T)[i + (C3 ++ [x]).length]? = some y := by rw [s1]; exact mid_get (by simp; omega)
      have g2 : (P ++ (C3 ++ [x]) ++ y :: C2 ++ T)[i + C3.length]? = some x := by rw [s2]; exact mid_get (by simp; omega)
      have g3 : ((P ++ (C3 ++ [x]) ++ y :: C2 ++ T).set (i + (C3 ++ [x]).length) x).set (i + C3.length) y = P ++ C3 ++ y :: (x :: C2) ++ T := by
        rw [s1, mid_set (by simp; omega)]
        have s3 : (P ++ (C3 ++ [x])) ++ x :: (C2 ++ T) = (P ++ C3) ++ x :: (x :: C2 ++ T) := by simp
        rw [s3, mid_set (by simp; omega)]
        simp
      generalize hxs : P ++ (C3 ++ [x]) ++ y :: C2 ++ T = xs at g1 g2 g3 hlen ⊢
      simp -dsimp -implicitDefEqProofs only [g56, c56r0, c56r1, c56r2, c56r3, c56k4, c56r5, c56r6, c56r7, c56r8, c56k9, c56k10, c56b11, c56k12, c56r13, c56r14, c56k15, c56r16, c56k17, c56r18, c56b19, c56k20, c56k21, c56r22, c56r23, c56r24, c56r25, c56k26, c56r27, c56r28, c56r29, c56r30, c56k31, c56k32, c56b33, c56k34, c56r35, c56r36, c56k37, c56r38, c56k39, c56r40, c56b41, c56k42, c56k43, c56r44, c56r45, c56r46, c56r47, c56r48, c56r49, c56r50, c56r51, c56k52, c56r53, c56r54, c56k55, c56r56, c56r57, c56r58, c56r59, c56k60, c56k61, c56b62, c56k63, c56r64, c56r65, c56r66, c56k67, c56r68, c56r69, c56k70, c56r71, c56r72, c56k73, c56, go_sem, seval, ↓reduceIte, hc, w1, s_iaddr_sl la, s_iaddr_sl lb, aload_eptr, w_store_eptr, e1, g1, g2, hlen, List.length_set, List.set_set, la, lb, g3]
      refine ⟨C3.length, by omega, C3, x :: C2, rfl, by rw [hB]; simp, ?_⟩
      rw [collect_id (by simp)]

set_option maxHeartbeats 4000000 in
theorem sym_ok (c : PV → PV → Int) (hC : Cmp c) (fv : AV) (D : PV → Prop) (hp : Heap) (r : Nat) (hg : CmpF c fv D hp r) (hr : r < hp.length) (N : Nat) (hN' : N < 100000000) : ∀ (d a m b : Nat) (P A B R : List PV), b - a ≤ d → P.length = a → m = a + A.length → b = m + B.length → N = (P ++ A ++ B ++ R).length → 0 < A.length → 0 < B.length → Srt c A → Srt c B → (∀ x ∈ P ++ A ++ B ++ R, D x) →
    S 56 [.sl none r N 0 N, .pv none (.int .i64 a), .pv none (.int .i64 m), .pv none (.int .i64 b), fv] (hp.set r (.arr none (P ++ A ++ B ++ R) false)) = some (.ret (.tuple []), hp.set r (.arr none (P ++ mrg c A B ++ R) false)) := by
  intro d
  induction d with
  | zero => intro a m b P A B R hd hP hm hb hN hA hB; omega
  | succ d ih =>
    intro a m b P A B R hd hP hm hb hN hA hB sA sB hD
    have hNl : N = P.length + A.length + B.length + R.length := by (rw [hN]; simp <;> omega)
    have hDat : ∀ h, h < N → D (at' (P ++ A ++ B ++ R) h) := fun h hh => hD _ (at_mem (by omega))
    have hsl : (hp.set r (.arr none (P ++ A ++ B ++ R) false)).length = hp.length := by simp
    have w1 : IntKind.i64.wrap ((m : Int) - (a : Int)) = ((A.length : Nat) : Int) := by rw [wrap64 (by omega) (by omega)]; omega
    have w2 : IntKind.i64.wrap ((b : Int) - (m : Int)) = ((B.length : Nat) : Int) := by rw [wrap64 (by omega) (by omega)]; omega
    have atA : ∀ k, k < A.length → at' (P ++ A ++ B ++ R) (a + k) = at' A k := fun k hk => by
      have := at_app (P := P) (A := A) (R := B ++ R) hP hk
      rwa [← List.append_assoc] at this
    have atB : ∀ k, k < B.length → at' (P ++ A ++ B ++ R) (m + k) = at' B k := fun k hk => at_app (P := P ++ A) (A := B) (R := R) (by simp; omega) hk
    refine sem_heap rfl rfl rfl rfl ?_
    rw [hsl]
    by_cases hA1 : A.length = 1
    · obtain ⟨x, rfl⟩ : ∃ x, A = [x] := List.length_eq_one_iff.1 hA1
      have hc1 : ((1 : Nat) : Int) = 1 := rfl
      simp -dsimp -implicitDefEqProofs only [g56, c56r0, c56r1, c56r2, c56r3, c56k4, c56r5, c56r6, c56r7, c56r8, c56k9, c56k10, c56k12, c56r13, c56r14, c56k15, c56r16, c56k17, c56r18, c56k20, c56k21, c56r22, c56r23, c56r24, c56r25, c56k26, c56r27, c56r28, c56r29, c56r30, c56k31, c56k32, c56b33, c56k34, c56r35, c56r36, c56k37, c56r38, c56k39, c56r40, c56b41, c56k42, c56k43, c56r44, c56r45, c56r46, c56r47, c56r48, c56r49, c56r50, c56r51, c56k52, c56r53, c56r54, c56k55, c56r56, c56r57, c56r58, c56r59, c56k60, c56k61, c56b62, c56k63, c56r64, c56r65, c56r66, c56k67, c56r68, c56r69, c56k70, c56r71, c56r72, c56k73, c56, go_sem, seval, ↓reduceIte, w1, hc1]
      refine sym_s1 c fv D hp r hg hr _ N a m b hN.symm (by omega) (by omega) (by omega) (by omega) hDat (fun h h' h1 h2 h3 h4 => ?_) _ _ rfl fun k k1 k2 k3 k4 rest => ?_
      · have e1 := atB (h - m) (by omega)
        have e2 := atB (h' - m) (by omega)
        rw [show m + (h - m) = h by omega] at e1
        rw [show m + (h' - m) = h' by omega] at e2
        rw [e1] at h4
        rw [e2]
        exact hC.lt_of_le_lt (srt_at hC sB (by omega) (by omega)) h4
      · have e0 := atA 0 (by simp)
        rw [Nat.add_zero] at e0
        have e0' : at' [x] 0 = x := rfl
        rw [e0'] at e0
        rw [e0] at k3 k4
        simp -dsimp -implicitDefEqProofs only [g56, c56r0, c56r1, c56r2, c56r3, c56k4, c56r5, c56r6, c56r7, c56r8, c56k9, c56k10, c56k12, c56r13, c56r14, c56k15, c56r16, c56k17, c56r18, c56k20, c56k21, c56r22, c56r23, c56r24, c56r25, c56k26, c56r27, c56r28, c56r29, c56r30, c56k31, c56k32, c56b33, c56k34, c56r35, c56r36, c56k37, c56r38, c56k39, c56r40, c56b41, c56k42, c56k43, c56r44, c56r45, c56r46, c56r47, c56r48, c56r49, c56r50, c56r51, c56k52, c56r53, c56r54, c56k55, c56r56, c56r57, c56r58, c56r59, c56k60, c56k61, c56b62, c56k63, c56r64, c56r65, c56r66, c56k67, c56r68, c56r69, c56k70, c56r71, c56r72, c56k73, c56, go_sem, seval, ↓reduceIte]
        have hsplit : P ++ [x] ++ B ++ R = P ++ x :: (B.take (k - m)) ++ (B.drop (k - m) ++ R) := by
          rw [show P ++ [x] ++ B ++ R = P ++ [x] ++ (B.take (k - m) ++ B.drop (k - m)) ++ R by rw [List.take_append_drop]]
          simp only [List.append_assoc, List.cons_append, List.nil_append]
        have hmr : mrg c [x] B = B.take (k - m) ++ x :: B.drop (k - m) := by
          have h1 := mrg_split hC (A := []) (U := [x]) (V := B.take (k - m)) (B := B.drop (k - m)) (fun _ h => by simp at h) (fun u hu v hv => by
            simp at hu; subst hu
            obtain ⟨i, hi, rfl⟩ := mem_at hv
            simp at hi
            rw [at_take (by omega)]
            have := k3 (m + i) (by omega) (by omega)
            rwa [atB i (by omega)] at this)
          have h2 : mrg c [x] (B.drop (k - m)) = x :: B.drop (k - m) := mrg_before hC (A := [x]) fun u hu v hv => by
            simp at hu; subst hu
            obtain ⟨i, hi, rfl⟩ := mem_at hv
            simp at hi
            rw [at_drop]
            have := k4 (k + i) (by omega) (by omega)
            have e := atB (k - m + i) (by omega)
            rw [show m + (k - m + i) = k + i by omega] at e
            rw [e] at this
            have := hC.neg u (at' B (k - m + i))
            omega
          rw [List.take_append_drop, List.nil_append, mrg_nil, h2] at h1
          exact h1
        rw [hsplit]
        refine sym_r hp r hr N k a P (B.take (k - m)) (B.drop (k - m) ++ R) x hP (by simp at hm ⊢; omega) (by rw [← hsplit]; exact hN) (by omega) _ _ rfl fun fr => ?_
        simp -dsimp -implicitDefEqProofs only [g56, c56r0, c56r1, c56r2, c56r3, c56k4, c56r5, c56r6, c56r7, c56r8, c56k9, c56k10, c56k12, c56r13, c56r14, c56k15, c56r16, c56k17, c56r18, c56k20, c56k21, c56r22, c56r23, c56r24, c56r25, c56k26, c56r27, c56r28, c56r29, c56r30, c56k31, c56k32, c56b33, c56k34, c56r35, c56r36, c56k37, c56r38, c56k39, c56r40, c56b41, c56k42, c56k43, c56r44, c56r45, c56r46, c56r47, c56r48, c56r49, c56r50, c56r51, c56k52, c56r53, c56r54, c56k55, c56r56, c56r57, c56r58, c56r59, c56k60, c56k61, c56b62, c56k63, c56r64, c56r65, c56r66, c56k67, c56r68, c56r69, c56k70, c56r71, c56r72, c56k73, c56, go_sem, seval, ↓reduceIte]
        rw [List.take_of_length_le (by simp), hmr]
        simp
    · have hA1' : ¬ ((A.length : Nat) : Int) = 1 := by omega
      by_cases hB1 : B.length = 1
      · obtain ⟨y, rfl⟩ : ∃ y, B = [y] := List.length_eq_one_iff.1 hB1
        have hc1 : ((1 : Nat) : Int) = 1 := rfl
        simp -dsimp -implicitDefEqProofs only [g56, c56r0, c56r1, c56r2, c56r3, c56k4, c56r5, c56r6, c56r7, c56r8, c56k9, c56k10, c56b11, c56k12, c56r13, c56r14, c56k15, c56r16, c56k17, c56r18, c56b19, c56k20, c56k21, c56r22, c56r23, c56r24, c56r25, c56k26, c56r27, c56r28, c56r29, c56r30, c56k31, c56k32, c56k34, c56r35, c56r36, c56k37, c56r38, c56k39, c56r40, c56k42, c56k43, c56r44, c56r45, c56r46, c56r47, c56r48, c56r49, c56r50, c56r51, c56k52, c56r53, c56r54, c56k55, c56r56, c56r57, c56r58, c56r59, c56k60, c56k61, c56b62, c56k63, c56r64, c56r65, c56r66, c56k67, c56r68, c56r69, c56k70, c56r71, c56r72, c56k73, c56, go_sem, seval, ↓reduceIte, w1, w2, hA1', hc1]
        have e0 := atB 0 (by simp)
        rw [Nat.add_zero] at e0
        have e0' : at' [y] 0 = y := rfl
        rw [e0'] at e0
        refine sym_s2 c fv D hp r hg hr _ N m a m hN.symm (by omega) (by simp at hNl; omega) (by omega) (by omega) hDat (fun h h' h1 h2 h3 h4 => ?_) _ _ rfl fun k k1 k2 k3 k4 rest => ?_
        · have e1 := atA (h - a) (by omega)
          have e2 := atA (h' - a) (by omega)
          rw [show a + (h - a) = h by omega] at e1
          rw [show a + (h' - a) = h' by omega] at e2
          rw [e1] at h4
          rw [e2]
          intro h5
          exact h4 (hC.lt_of_lt_le h5 (srt_at hC sA (by omega) (by omega)))
        · rw [e0] at k3 k4
          simp -dsimp -implicitDefEqProofs only [g56, c56r0, c56r1, c56r2, c56r3, c56k4, c56r5, c56r6, c56r7, c56r8, c56k9, c56k10, c56b11, c56k12, c56r13, c56r14, c56k15, c56r16, c56k17, c56r18, c56b19, c56k20, c56k21, c56r22, c56r23, c56r24, c56r25, c56k26, c56r27, c56r28, c56r29, c56r30, c56k31, c56k32, c56k34, c56r35, c56r36, c56k37, c56r38, c56k39, c56r40, c56k42, c56k43, c56r44, c56r45, c56r46, c56r47, c56r48, c56r49, c56r50, c56r51, c56k52, c56r53, c56r54, c56k55, c56r56, c56r57, c56r58, c56r59, c56k60, c56k61, c56b62, c56k63, c56r64, c56r65, c56r66, c56k67, c56r68, c56r69, c56k70, c56r71, c56r72, c56k73, c56, go_sem, seval, ↓reduceIte]
          have hsplit : P ++ A ++ [y] ++ R = (P ++ A.take (k - a)) ++ A.drop (k - a) ++ y :: R := by
            rw [show P ++ A ++ [y] ++ R = P ++ (A.take (k - a) ++ A.drop (k - a)) ++ [y] ++ R by rw [List.take_append_drop]]
            simp only [List.append_assoc, List.cons_append, List.nil_append]
          have hmr : mrg c A [y] = A.take (k - a) ++ y :: A.drop (k - a) := by
            have h1 := mrg_split hC (A := A.take (k - a)) (U := A.drop (k - a)) (V := [y]) (B := []) (fun _ _ _ h => by simp at h) (fun u hu v hv => by
              simp at hv; subst hv
              obtain ⟨i, hi, rfl⟩ := mem_at hu
              simp at hi
              rw [at_drop]
              have := k4 (k + i) (by omega) (by omega)
              have e := atA (k - a + i) (by omega)
              rw [show a + (k - a + i) = k + i by omega] at e
              rwa [e] at this)
            have h2 : mrg c (A.take (k - a)) [y] = A.take (k - a) ++ [y] := mrg_before hC fun u hu v hv => by
              simp at hv; subst hv
              obtain ⟨i, hi, rfl⟩ := mem_at hu
              simp at hi
              rw [at_take (by omega)]
              have := k3 (a + i) (by omega) (by omega)
              rw [atA i (by omega)] at this
              have := hC.neg (at' A i) v
              omega
            rw [List.take_append_drop, List.append_nil, mrg_nil_right, h2] at h1
            rw [h1]
            simp
          rw [hsplit]
          refine sym_l hp r hr N k m (P ++ A.take (k - a)) (A.drop (k - a)) R y (by simp; omega) (by simp; omega) (by rw [← hsplit]; exact hN) (by omega) _ _ rfl fun fr => ?_
          simp -dsimp -implicitDefEqProofs only [g56, c56r0, c56r1, c56r2, c56r3, c56k4, c56r5, c56r6, c56r7, c56r8, c56k9, c56k10, c56b11, c56k12, c56r13, c56r14, c56k15, c56r16, c56k17, c56r18, c56b19, c56k20, c56k21, c56r22, c56r23, c56r24, c56r25, c56k26, c56r27, c56r28, c56r29, c56r30, c56k31, c56k32, c56k34, c56r35, c56r36, c56k37, c56r38, c56k39, c56r40, c56k42, c56k43, c56r44, c56r45, c56r46, c56r47, c56r48, c56r49, c56r50, c56r51, c56k52, c56r53, c56r54, c56k55, c56r56, c56r57, c56r58, c56r59, c56k60, c56k61, c56b62, c56k63, c56r64, c56r65, c56r66, c56k67, c56r68, c56r69, c56k70, c56r71, c56r72, c56k73, c56, go_sem, seval, ↓reduceIte]
          rw [List.take_of_length_le (by simp), hmr]
          simp
      · have hB1' : ¬ ((B.length : Nat) : Int) = 1 := by omega
        have w3 : IntKind.i64.wrap ((a : Int) + (b : Int)) = ((a + b : Nat) : Int) := by rw [wrap64 (by omega) (by omega)]; omega
        have w4 : IntKind.u64.wrap ((a + b : Nat) : Int) = ((a + b : Nat) : Int) := wrap_u64 (by omega) (by omega)
        have w5 : IntKind.i64.wrap (((a + b : Nat) : Int) / 2) = (((a + b) / 2 : Nat) : Int) := by rw [wrap64 (by omega) (by omega)]; omega
        generalize hmid : (a + b) / 2 = mid at w5
        have w6 : IntKind.i64.wrap ((mid : Int) + (m : Int)) = ((mid + m : Nat) : Int) := by rw [wrap64 (by omega) (by omega)]; omega
        have w7 : IntKind.i64.wrap (((mid + m : Nat) : Int) - 1) = ((mid + m - 1 : Nat) : Int) := by rw [wrap64 (by omega) (by omega)]; omega
        have hm1 : a ≤ mid := by omega
        have hm2 : mid < b := by omega
        have tail : ∀ (k : Nat) (rest : Fr) (Q : AExit → St → Prop), a ≤ k → k ≤ m → k ≤ mid → mid + m - k ≤ b → (∀ x ∈ A.take (k - a), ∀ y ∈ B.drop (mid - k), c x y ≤ 0) → (∀ u ∈ A.drop (k - a), ∀ v ∈ B.take (mid - k), c v u < 0) →
            (∀ fr, Q .normal ⟨fr, hp.set r (.arr none (P ++ mrg c A B ++ R) false)⟩) →
            W Z L hp.length (.seq (.region true c56r64 [0, 1, 2, 3, 4, 18, 20, 24]) (.seq (.seq (.region true c56r65 [0, 1, 2, 3, 4, 18, 20, 24, 185]) c56k67) (.seq (.seq (.region true c56r68 [0, 1, 3, 4, 18, 20, 24, 199]) c56k70) (.seq (.region true c56r71 [0, 3, 4, 18, 24, 213]) c56k73))))
              ⟨(0, .sl none r N 0 N) :: (1, .pv none (.int .i64 a)) :: (2, .pv none (.int .i64 m)) :: (3, .pv none (.int .i64 b)) :: (4, fv) :: (18, .pv none (.int .i64 mid)) :: (19, .pv none (.int .i64 ((mid + m : Nat) : Int))) :: (20, .pv none (.int .i64 k)) :: rest, hp.set r (.arr none (P ++ A ++ B ++ R) false)⟩ Q := by
          intro k rest Q k1 k2 k3 k4 f1 f2 hQ
          have w8 : IntKind.i64.wrap (((mid + m : Nat) : Int) - (k : Int)) = ((mid + m - k : Nat) : Int) := by rw [wrap64 (by omega) (by omega)]; omega
          have lA1 : (A.take (k - a)).length = k - a := by (simp <;> omega)
          have lU : (A.drop (k - a)).length = m - k := by (simp <;> omega)
          have lV : (B.take (mid - k)).length = mid - k := by (simp <;> omega)
          have lB2 : (B.drop (mid - k)).length = b - (mid + m - k) := by (simp <;> omega)
          have hmr := mrg_split hC f1 f2
          rw [List.take_append_drop, List.take_append_drop] at hmr
          have hdat : P ++ A ++ B ++ R = (P ++ A.take (k - a)) ++ A.drop (k - a) ++ B.take (mid - k) ++ (B.drop (mid - k) ++ R) := by
            rw [show P ++ A ++ B ++ R = P ++ (A.take (k - a) ++ A.drop (k - a)) ++ (B.take (mid - k) ++ B.drop (mid - k)) ++ R by rw [List.take_append_drop, List.take_append_drop]]
            simp only [List.append_assoc]
          have sA1 : Srt c (A.take (k - a)) := sA.sublist (List.take_sublist _ _)
          have sU : Srt c (A.drop (k - a)) := sA.sublist (List.drop_sublist _ _)
          have sV : Srt c (B.take (mid - k)) := sB.sublist (List.take_sublist _ _)
          have sB2 : Srt c (B.drop (mid - k)) := sB.sublist (List.drop_sublist _ _)
          rw [hdat] at hN hD ⊢
          rw [hmr] at hQ
          generalize A.take (k - a) = A1 at *
          generalize A.drop (k - a) = U at *
          generalize B.take (mid - k) = V at *
          generalize B.drop (mid - k) = B2 at *
          have hrot := rotate_ok (fv) hp r hr k m (mid + m - k) N (P ++ A1) U V (B2 ++ R) (by simp; omega) (by omega) (by omega) hN (by omega)
          refine W_cut (fun st => st = ⟨[(0, .sl none r N 0 N), (1, .pv none (.int .i64 a)), (2, .pv none (.int .i64 m)), (3, .pv none (.int .i64 b)), (4, fv), (18, .pv none (.int .i64 mid)), (20, .pv none (.int .i64 k)), (24, .pv none (.int .i64 ((mid + m - k : Nat) : Int)))], hp.set r (.arr none (P ++ A1 ++ U ++ V ++ (B2 ++ R)) false)⟩) ?_ ?_
          · simp -dsimp -implicitDefEqProofs only [g56, c56r0, c56r1, c56r2, c56r3, c56k4, c56r5, c56r6, c56r7, c56r8, c56k9, c56k10, c56b11, c56k12, c56r13, c56r14, c56k15, c56r16, c56k17, c56r18, c56b19, c56k20, c56k21, c56r22, c56r23, c56r24, c56r25, c56k26, c56r27, c56r28, c56r29, c56r30, c56k31, c56k32, c56b33, c56k34, c56r35, c56r36, c56k37, c56r38, c56k39, c56r40, c56b41, c56k42, c56k43, c56r44, c56r45, c56r46, c56r47, c56r48, c56r49, c56r50, c56r51, c56k52, c56r53, c56r54, c56k55, c56r56, c56r57, c56r58, c56r59, c56k60, c56k61, c56b62, c56k63, c56r64, c56r65, c56r66, c56k67, c56r68, c56r69, c56k70, c56r71, c56r72, c56k73, c56, go_sem, seval, ↓reduceIte, w8]
          rintro _ rfl
          refine W_cut (fun st => st.hp = hp.set r (.arr none (P ++ A1 ++ V ++ U ++ (B2 ++ R)) false) ∧ st.fr.look 0 = some (.sl none r N 0 N) ∧ st.fr.look 1 = some (.pv none (.int .i64 a)) ∧ st.fr.look 3 = some (.pv none (.int .i64 b)) ∧ st.fr.look 4 = some (fv) ∧ st.fr.look 18 = some (.pv none (.int .i64 mid)) ∧ st.fr.look 20 = some (.pv none (.int .i64 k)) ∧ st.fr.look 24 = some (.pv none (.int .i64 ((mid + m - k : Nat) : Int)))) ?_ ?_
          · by_cases hU : k < m
            · have hc1 : (k : Int) < (m : Int) := by omega
              by_cases hV : m < mid + m - k
              · have hc2 : (m : Int) < ((mid + m - k : Nat) : Int) := by omega
                have hrot' := hrot (by omega) (by omega)
                simp -dsimp -implicitDefEqProofs only [g56, c56r0, c56r1, c56r2, c56r3, c56k4, c56r5, c56r6, c56r7, c56r8, c56k9, c56k10, c56b11, c56k12, c56r13, c56r14, c56k15, c56r16, c56k17, c56r18, c56b19, c56k20, c56k21, c56r22, c56r23, c56r24, c56r25, c56k26, c56r27, c56r28, c56r29, c56r30, c56k31, c56k32, c56b33, c56k34, c56r35, c56r36, c56k37, c56r38, c56k39, c56r40, c56b41, c56k42, c56k43, c56r44, c56r45, c56r46, c56r47, c56r48, c56r49, c56r50, c56r51, c56k52, c56r53, c56r54, c56k55, c56r56, c56r57, c56r58, c56r59, c56k60, c56k61, c56b62, c56k63, c56r64, c56r65, c56r66, c56k67, c56r68, c56r69, c56k70, c56r71, c56r72, c56k73, c56, go_sem, seval, ↓reduceIte, hc1, hc2, hrot']
              · have hc2 : ¬ (m : Int) < ((mid + m - k : Nat) : Int) := by omega
                have hV0 : V = [] := List.length_eq_zero_iff.1 (by omega)
                subst hV0
                simp -dsimp -implicitDefEqProofs only [g56, c56r0, c56r1, c56r2, c56r3, c56k4, c56r5, c56r6, c56r7, c56r8, c56k9, c56k10, c56b11, c56k12, c56r13, c56r14, c56k15, c56r16, c56k17, c56r18, c56b19, c56k20, c56k21, c56r22, c56r23, c56r24, c56r25, c56k26, c56r27, c56r28, c56r29, c56r30, c56k31, c56k32, c56b33, c56k34, c56r35, c56r36, c56k37, c56r38, c56k39, c56r40, c56b41, c56k42, c56k43, c56r44, c56r45, c56r46, c56r47, c56r48, c56r49, c56r50, c56r51, c56k52, c56r53, c56r54, c56k55, c56r56, c56r57, c56r58, c56r59, c56k60, c56k61, c56b62, c56k63, c56r64, c56r65, c56r66, c56k67, c56r68, c56r69, c56k70, c56r71, c56r72, c56k73, c56, go_sem, seval, ↓reduceIte, hc1, hc2, List.append_nil]
            · have hc1 : ¬ (k : Int) < (m : Int) := by omega
              have hU0 : U = [] := List.length_eq_zero_iff.1 (by omega)
              subst hU0
              simp -dsimp -implicitDefEqProofs only [g56, c56r0, c56r1, c56r2, c56r3, c56k4, c56r5, c56r6, c56r7, c56r8, c56k9, c56k10, c56b11, c56k12, c56r13, c56r14, c56k15, c56r16, c56k17, c56r18, c56b19, c56k20, c56k21, c56r22, c56r23, c56r24, c56r25, c56k26, c56r27, c56r28, c56r29, c56r30, c56k31, c56k32, c56b33, c56k34, c56r35, c56r36, c56k37, c56r38, c56k39, c56r40, c56b41, c56k42, c56k43, c56r44, c56r45, c56r46, c56r47, c56r48, c56r49, c56r50, c56r51, c56k52, c56r53, c56r54, c56k55, c56r56, c56r57, c56r58, c56r59, c56k60, c56k61, c56b62, c56k63, c56r64, c56r65, c56r66, c56k67, c56r68, c56r69, c56k70, c56r71, c56r72, c56k73, c56, go_sem, seval, ↓reduceIte, hc1, List.append_nil]
          rintro ⟨fr1, hp1⟩ ⟨x1, x2, x3, x4, x5, x6, x7, x8⟩
          simp only at x1 x2 x3 x4 x5 x6 x7 x8
          subst x1
          refine W_cut (fun st => st.hp = hp.set r (.arr none (P ++ mrg c A1 V ++ U ++ (B2 ++ R)) false) ∧ st.fr.look 0 = some (.sl none r N 0 N) ∧ st.fr.look 3 = some (.pv none (.int .i64 b)) ∧ st.fr.look 4 = some (fv) ∧ st.fr.look 18 = some (.pv none (.int .i64 mid)) ∧ st.fr.look 24 = some (.pv none (.int .i64 ((mid + m - k : Nat) : Int)))) ?_ ?_
          · by_cases hA1 : a < k
            · have hc1 : (a : Int) < (k : Int) := by omega
              by_cases hV : k < mid
              · have hc2 : (k : Int) < (mid : Int) := by omega
                have hih := ih a k mid P A1 V (U ++ (B2 ++ R)) (by omega) hP (by omega) (by omega) (by rw [hN]; simp; omega) (by omega) (by omega) sA1 sV (fun x hx => hD x (by simp at hx ⊢; rcases hx with h | h | h | h | h | h <;> simp [h]))
                have e0 : P ++ A1 ++ V ++ (U ++ (B2 ++ R)) = P ++ A1 ++ V ++ U ++ (B2 ++ R) := by simp
                have e1 : P ++ mrg c A1 V ++ (U ++ (B2 ++ R)) = P ++ mrg c A1 V ++ U ++ (B2 ++ R) := by simp
                rw [e0, e1] at hih
                simp -dsimp -implicitDefEqProofs only [g56, c56r0, c56r1, c56r2, c56r3, c56k4, c56r5, c56r6, c56r7, c56r8, c56k9, c56k10, c56b11, c56k12, c56r13, c56r14, c56k15, c56r16, c56k17, c56r18, c56b19, c56k20, c56k21, c56r22, c56r23, c56r24, c56r25, c56k26, c56r27, c56r28, c56r29, c56r30, c56k31, c56k32, c56b33, c56k34, c56r35, c56r36, c56k37, c56r38, c56k39, c56r40, c56b41, c56k42, c56k43, c56r44, c56r45, c56r46, c56r47, c56r48, c56r49, c56r50, c56r51, c56k52, c56r53, c56r54, c56k55, c56r56, c56r57, c56r58, c56r59, c56k60, c56k61, c56b62, c56k63, c56r64, c56r65, c56r66, c56k67, c56r68, c56r69, c56k70, c56r71, c56r72, c56k73, c56, go_sem, seval, ↓reduceIte, hc1, hc2, x2, x3, x4, x5, x6, x7, x8, hih]
              · have hc2 : ¬ (k : Int) < (mid : Int) := by omega
                have hV0 : V = [] := List.length_eq_zero_iff.1 (by omega)
                subst hV0
                simp -dsimp -implicitDefEqProofs only [g56, c56r0, c56r1, c56r2, c56r3, c56k4, c56r5, c56r6, c56r7, c56r8, c56k9, c56k10, c56b11, c56k12, c56r13, c56r14, c56k15, c56r16, c56k17, c56r18, c56b19, c56k20, c56k21, c56r22, c56r23, c56r24, c56r25, c56k26, c56r27, c56r28, c56r29, c56r30, c56k31, c56k32, c56b33, c56k34, c56r35, c56r36, c56k37, c56r38, c56k39, c56r40, c56b41, c56k42, c56k43, c56r44, c56r45, c56r46, c56r47, c56r48, c56r49, c56r50, c56r51, c56k52, c56r53, c56r54, c56k55, c56r56, c56r57, c56r58, c56r59, c56k60, c56k61, c56b62, c56k63, c56r64, c56r65, c56r66, c56k67, c56r68, c56r69, c56k70, c56r71, c56r72, c56k73, c56, go_sem, seval, ↓reduceIte, hc1, hc2, x2, x3, x4, x5, x6, x7, x8, List.append_nil, mrg_nil_right]
            · have hc1 : ¬ (a : Int) < (k : Int) := by omega
              have hA0 : A1 = [] := List.length_eq_zero_iff.1 (by omega)
              subst hA0
              simp -dsimp -implicitDefEqProofs only [g56, c56r0, c56r1, c56r2, c56r3, c56k4, c56r5, c56r6, c56r7, c56r8, c56k9, c56k10, c56b11, c56k12, c56r13, c56r14, c56k15, c56r16, c56k17, c56r18, c56b19, c56k20, c56k21, c56r22, c56r23, c56r24, c56r25, c56k26, c56r27, c56r28, c56r29, c56r30, c56k31, c56k32, c56b33, c56k34, c56r35, c56r36, c56k37, c56r38, c56k39, c56r40, c56b41, c56k42, c56k43, c56r44, c56r45, c56r46, c56r47, c56r48, c56r49, c56r50, c56r51, c56k52, c56r53, c56r54, c56k55, c56r56, c56r57, c56r58, c56r59, c56k60, c56k61, c56b62, c56k63, c56r64, c56r65, c56r66, c56k67, c56r68, c56r69, c56k70, c56r71, c56r72, c56k73, c56, go_sem, seval, ↓reduceIte, hc1, x2, x3, x4, x5, x6, x7, x8, List.append_nil, mrg_nil]
          rintro ⟨fr2, hp2⟩ ⟨y1, y2, y4, y5, y6, y8⟩
          simp only at y1 y2 y4 y5 y6 y8
          subst y1
          have hml : (mrg c A1 V).length = A1.length + V.length := mrg_length A1 V
          by_cases hU : mid < mid + m - k
          · have hc1 : (mid : Int) < ((mid + m - k : Nat) : Int) := by omega
            by_cases hB2 : mid + m - k < b
            · have hc2 : ((mid + m - k : Nat) : Int) < (b : Int) := by omega
              have hih := ih mid (mid + m - k) b (P ++ mrg c A1 V) U B2 R (by omega) (by simp [hml]; omega) (by omega) (by omega) (by rw [hN]; simp [hml]; omega) (by omega) (by omega) sU sB2 (fun x hx => hD x (by
                simp only [List.mem_append, mem_mrg] at hx ⊢
                rcases hx with (((h | h | h) | h) | h) | h <;> simp [h]))
              have e0 : P ++ mrg c A1 V ++ U ++ (B2 ++ R) = P ++ mrg c A1 V ++ U ++ B2 ++ R := by simp
              have e1 : P ++ mrg c A1 V ++ mrg c U B2 ++ R = P ++ (mrg c A1 V ++ mrg c U B2) ++ R := by simp
              rw [e1] at hih
              rw [e0]
              simp -dsimp -implicitDefEqProofs only [g56, c56r0, c56r1, c56r2, c56r3, c56k4, c56r5, c56r6, c56r7, c56r8, c56k9, c56k10, c56b11, c56k12, c56r13, c56r14, c56k15, c56r16, c56k17, c56r18, c56b19, c56k20, c56k21, c56r22, c56r23, c56r24, c56r25, c56k26, c56r27, c56r28, c56r29, c56r30, c56k31, c56k32, c56b33, c56k34, c56r35, c56r36, c56k37, c56r38, c56k39, c56r40, c56b41, c56k42, c56k43, c56r44, c56r45, c56r46, c56r47, c56r48, c56r49, c56r50, c56r51, c56k52, c56r53, c56r54, c56k55, c56r56, c56r57, c56r58, c56r59, c56k60, c56k61, c56b62, c56k63, c56r64, c56r65, c56r66, c56k67, c56r68, c56r69, c56k70, c56r71, c56r72, c56k73, c56, go_sem, seval, ↓reduceIte, hc1, hc2, y2, y4, y5, y6, y8, hih]
              exact hQ _
            · have hc2 : ¬ ((mid + m - k : Nat) : Int) < (b : Int) := by omega
              have hB0 : B2 = [] := List.length_eq_zero_iff.1 (by omega)
              subst hB0
              simp -dsimp -implicitDefEqProofs only [g56, c56r0, c56r1, c56r2, c56r3, c56k4, c56r5, c56r6, c56r7, c56r8, c56k9, c56k10, c56b11, c56k12, c56r13, c56r14, c56k15, c56r16, c56k17, c56r18, c56b19, c56k20, c56k21, c56r22, c56r23, c56r24, c56r25, c56k26, c56r27, c56r28, c56r29, c56r30, c56k31, c56k32, c56b33, c56k34, c56r35, c56r36, c56k37, c56r38, c56k39, c56r40, c56b41, c56k42, c56k43, c56r44, c56r45, c56r46, c56r47, c56r48, c56r49, c56r50, c56r51, c56k52, c56r53, c56r54, c56k55, c56r56, c56r57, c56r58, c56r59, c56k60, c56k61, c56b62, c56k63, c56r64, c56r65, c56r66, c56k67, c56r68, c56r69, c56k70, c56r71, c56r72, c56k73, c56, go_sem, seval, ↓reduceIte, hc1, hc2, y2, y4, y5, y6, y8]
              have hQ := hQ
              rw [mrg_nil_right] at hQ
              have e0 : P ++ mrg c A1 V ++ U ++ R = P ++ (mrg c A1 V ++ U) ++ R := by simp
              rw [e0]
              exact hQ _
          · have hc1 : ¬ (mid : Int) < ((mid + m - k : Nat) : Int) := by omega
            have hU0 : U = [] := List.length_eq_zero_iff.1 (by omega)
            subst hU0
            simp -dsimp -implicitDefEqProofs only [g56, c56r0, c56r1, c56r2, c56r3, c56k4, c56r5, c56r6, c56r7, c56r8, c56k9, c56k10, c56b11, c56k12, c56r13, c56r14, c56k15, c56r16, c56k17, c56r18, c56b19, c56k20, c56k21, c56r22, c56r23, c56r24, c56r25, c56k26, c56r27, c56r28, c56r29, c56r30, c56k31, c56k32, c56b33, c56k34, c56r35, c56r36, c56k37, c56r38, c56k39, c56r40, c56b41, c56k42, c56k43, c56r44, c56r45, c56r46, c56r47, c56r48, c56r49, c56r50, c56r51, c56k52, c56r53, c56r54, c56k55, c56r56, c56r57, c56r58, c56r59, c56k60, c56k61, c56b62, c56k63, c56r64, c56r65, c56r66, c56k67, c56r68, c56r69, c56k70, c56r71, c56r72, c56k73, c56, go_sem, seval, ↓reduceIte, hc1, y2, y4, y5, y6, y8]
            have hQ := hQ
            rw [mrg_nil] at hQ
            have e0 : P ++ mrg c A1 V ++ [] ++ (B2 ++ R) = P ++ (mrg c A1 V ++ B2) ++ R := by simp
            rw [e0]
            exact hQ _
        by_cases hmm : mid < m
        · skip
          have hc : (mid : Int) < (m : Int) := by omega
          have w9 : IntKind.i64.wrap (((mid + m : Nat) : Int) - (b : Int)) = ((mid + m - b : Nat) : Int) := by rw [wrap64 (by omega) (by omega)]; omega
          simp -dsimp -implicitDefEqProofs only [g56, c56r0, c56r1, c56r2, c56r3, c56k4, c56r5, c56r6, c56r7, c56r8, c56k9, c56k10, c56b11, c56k12, c56r13, c56r14, c56k15, c56r16, c56k17, c56r18, c56b19, c56k20, c56k21, c56r22, c56r23, c56r24, c56r25, c56k26, c56r27, c56r28, c56r29, c56r30, c56k31, c56k32, c56b33, c56k34, c56r35, c56r36, c56k37, c56r38, c56k39, c56r40, c56b41, c56k42, c56k43, c56r44, c56r45, c56r46, c56r47, c56r48, c56r49, c56r50, c56r51, c56k52, c56r53, c56r54, c56k55, c56r56, c56r57, c56r58, c56r59, c56k60, c56k61, c56k63, c56r66, c56r69, c56r72, c56, go_sem, seval, ↓reduceIte, w1, w2, hA1', hB1', w3, w4, i_shr1 (show 0 < IntKind.bits .u64 by decide), hmid, w5, w6, w7, hc, w9]
          refine sym_s3 c fv D hp r hg hr _ N a m b mid (mid + m) (mid + m - 1) (mid + m - b) mid hN.symm (by omega) (by omega) (by omega) (by omega) (by omega) hDat (fun h h' h1 h2 h3 h4 => ?_) (by omega) _ _ rfl fun k k1 k2 k3 k4 rest => ?_
          · have e1 := atA (h - a) (by omega)
            have e2 := atA (h' - a) (by omega)
            have e3 := atB (mid + m - 1 - h - m) (by omega)
            have e4 := atB (mid + m - 1 - h' - m) (by omega)
            rw [show a + (h - a) = h by omega] at e1
            rw [show a + (h' - a) = h' by omega] at e2
            rw [show m + (mid + m - 1 - h - m) = mid + m - 1 - h by omega] at e3
            rw [show m + (mid + m - 1 - h' - m) = mid + m - 1 - h' by omega] at e4
            rw [e1, e3] at h4
            rw [e2, e4]
            have s1 : c (at' A (h' - a)) (at' A (h - a)) ≤ 0 := srt_at hC sA (by omega) (by omega)
            have s2 : c (at' B (mid + m - 1 - h - m)) (at' B (mid + m - 1 - h' - m)) ≤ 0 := srt_at hC sB (by omega) (by omega)
            intro h5
            exact h4 (hC.lt_of_le_lt s2 (hC.lt_of_lt_le h5 s1))
          · simp -dsimp -implicitDefEqProofs only [go_sem, seval, ↓reduceIte]
            refine tail k rest _ (by omega) (by omega) (by omega) (by omega) ?_ ?_ fun fr => ?_
            · intro x hx y hy
              obtain ⟨i, hi, rfl⟩ := mem_at hx
              obtain ⟨j, hj, rfl⟩ := mem_at hy
              simp at hi hj
              rw [at_take (by omega), at_drop]
              have h1 := k3 (k - 1) (by omega) (by omega)
              have e1 := atA (k - 1 - a) (by omega)
              have e3 := atB (mid - k) (by omega)
              rw [show a + (k - 1 - a) = k - 1 by omega] at e1
              rw [show m + (mid - k) = mid + m - 1 - (k - 1) by omega] at e3
              rw [e1, e3] at h1
              have s1 : c (at' A i) (at' A (k - 1 - a)) ≤ 0 := srt_at hC sA (by omega) (by omega)
              have s2 : c (at' B (mid - k)) (at' B (mid - k + j)) ≤ 0 := srt_at hC sB (by omega) (by omega)
              have s3 : c (at' A (k - 1 - a)) (at' B (mid - k)) ≤ 0 := by have := hC.neg (at' A (k - 1 - a)) (at' B (mid - k)); omega
              exact hC.trans (hC.trans s1 s3) s2
            · intro u hu v hv
              obtain ⟨i, hi, rfl⟩ := mem_at hu
              obtain ⟨j, hj, rfl⟩ := mem_at hv
              simp at hi hj
              rw [at_take (by omega), at_drop]
              have h1 := k4 k (by omega) (by omega)
              have e1 := atA (k - a) (by omega)
              have e3 := atB (mid - 1 - k) (by omega)
              rw [show a + (k - a) = k by omega] at e1
              rw [show m + (mid - 1 - k) = mid + m - 1 - k by omega] at e3
              rw [e1, e3] at h1
              have s1 : c (at' A (k - a)) (at' A (k - a + i)) ≤ 0 := srt_at hC sA (by omega) (by omega)
              have s2 : c (at' B j) (at' B (mid - 1 - k)) ≤ 0 := srt_at hC sB (by omega) (by omega)
              exact hC.lt_of_le_lt s2 (hC.lt_of_lt_le h1 s1)
            · simp -dsimp -implicitDefEqProofs only [g56, go_sem, seval, ↓reduceIte]
              rw [List.take_of_length_le (by simp)]
        · skip
          have hc : ¬ (mid : Int) < (m : Int) := by omega
          simp -dsimp -implicitDefEqProofs only [g56, c56r0, c56r1, c56r2, c56r3, c56k4, c56r5, c56r6, c56r7, c56r8, c56k9, c56k10, c56b11, c56k12, c56r13, c56r14, c56k15, c56r16, c56k17, c56r18, c56b19, c56k20, c56k21, c56r22, c56r23, c56r24, c56r25, c56k26, c56r27, c56r28, c56r29, c56r30, c56k31, c56k32, c56b33, c56k34, c56r35, c56r36, c56k37, c56r38, c56k39, c56r40, c56b41, c56k42, c56k43, c56r44, c56r45, c56r46, c56r47, c56r48, c56r49, c56r50, c56r51, c56k52, c56r53, c56r54, c56k55, c56r56, c56r57, c56r58, c56r59, c56k60, c56k61, c56k63, c56r66, c56r69, c56r72, c56, go_sem, seval, ↓reduceIte, w1, w2, hA1', hB1', w3, w4, i_shr1 (show 0 < IntKind.bits .u64 by decide), hmid, w5, w6, w7, hc]
          refine sym_s3 c fv D hp r hg hr _ N a m b mid (mid + m) (mid + m - 1) a m hN.symm (by omega) (by omega) (by omega) (by omega) (by omega) hDat (fun h h' h1 h2 h3 h4 => ?_) (by omega) _ _ rfl fun k k1 k2 k3 k4 rest => ?_
          · have e1 := atA (h - a) (by omega)
            have e2 := atA (h' - a) (by omega)
            have e3 := atB (mid + m - 1 - h - m) (by omega)
            have e4 := atB (mid + m - 1 - h' - m) (by omega)
            rw [show a + (h - a) = h by omega] at e1
            rw [show a + (h' - a) = h' by omega] at e2
            rw [show m + (mid + m - 1 - h - m) = mid + m - 1 - h by omega] at e3
            rw [show m + (mid + m - 1 - h' - m) = mid + m - 1 - h' by omega] at e4
            rw [e1, e3] at h4
            rw [e2, e4]
            have s1 : c (at' A (h' - a)) (at' A (h - a)) ≤ 0 := srt_at hC sA (by omega) (by omega)
            have s2 : c (at' B (mid + m - 1 - h - m)) (at' B (mid + m - 1 - h' - m)) ≤ 0 := srt_at hC sB (by omega) (by omega)
            intro h5
            exact h4 (hC.lt_of_le_lt s2 (hC.lt_of_lt_le h5 s1))
          · simp -dsimp -implicitDefEqProofs only [go_sem, seval, ↓reduceIte]
            refine tail k rest _ (by omega) (by omega) (by omega) (by omega) ?_ ?_ fun fr => ?_
            · intro x hx y hy
              obtain ⟨i, hi, rfl⟩ := mem_at hx
              obtain ⟨j, hj, rfl⟩ := mem_at hy
              simp at hi hj
              rw [at_take (by omega), at_drop]
              have h1 := k3 (k - 1) (by omega) (by omega)
              have e1 := atA (k - 1 - a) (by omega)
              have e3 := atB (mid - k) (by omega)
              rw [show a + (k - 1 - a) = k - 1 by omega] at e1
              rw [show m + (mid - k) = mid + m - 1 - (k - 1) by omega] at e3
              rw [e1, e3] at h1
              have s1 : c (at' A i) (at' A (k - 1 - a)) ≤ 0 := srt_at hC sA (by omega) (by omega)
              have s2 : c (at' B (mid - k)) (at' B (mid - k + j)) ≤ 0 := srt_at hC sB (by omega) (by omega)
              have s3 : c (at' A (k - 1 - a)) (at' B (mid - k)) ≤ 0 := by have := hC.neg (at' A (k - 1 - a)) (at' B (mid - k)); omega
              exact hC.trans (hC.trans s1 s3) s2
            · intro u hu v hv
              obtain ⟨i, hi, rfl⟩ := mem_at hu
              obtain ⟨j, hj, rfl⟩ := mem_at hv
              simp at hi hj
              rw [at_take (by omega), at_drop]
              have h1 := k4 k (by omega) (by omega)
              have e1 := atA (k - a) (by omega)
              have e3 := atB (mid - 1 - k) (by omega)
              rw [show a + (k - a) = k by omega] at e1
              rw [show m + (mid - 1 - k) = mid + m - 1 - k by omega] at e3
              rw [e1, e3] at h1
              have s1 : c (at' A (k - a)) (at' A (k - a + i)) ≤ 0 := srt_at hC sA (by omega) (by omega)
              have s2 : c (at' B j) (at' B (mid - 1 - k)) ≤ 0 := srt_at hC sB (by omega) (by omega)
              exact hC.lt_of_le_lt s2 (hC.lt_of_lt_le h1 s1)
            · simp -dsimp -implicitDefEqProofs only [g56, go_sem, seval, ↓reduceIte]
              rw [List.take_of_length_le (by simp)]
end Go.Proofs.Ytmajapjbogmefaa
