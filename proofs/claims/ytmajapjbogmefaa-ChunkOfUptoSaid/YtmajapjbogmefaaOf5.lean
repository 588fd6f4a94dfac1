/- What is proved: what chunk.Of gives. -/
import Derived.Test.YtmajapjbogmefaaOf4
set_option linter.unusedSimpArgs false
set_option linter.unusedVariables false
namespace Go.Proofs.Ytmajapjbogmefaa
open Go.Am
def lastD (l : List Sp) (a b : Int) : Int := cmpI (lastOf l b) (lastOf l a)
theorem insC_ints (l : List Sp) (t : Int) : ∀ L : List Int, insC (lastC l) (.int .i64 t) (ints L) = ints (insC (lastD l) t L)
  | [] => rfl
  | x :: r => by
    have ih := insC_ints l t r
    unfold ints at ih ⊢
    simp only [List.map_cons, insC]
    have : lastC l (.int .i64 t) (.int .i64 x) = lastD l t x := rfl
    rw [this]
    split
    · rfl
    · rw [ih]; rfl
theorem isort_ints (l : List Sp) (L : List Int) : isort (lastC l) (ints L) = ints (isort (lastD l) L) := by
  have : ∀ (L s : List Int), (ints L).foldl (fun s t => insC (lastC l) t s) (ints s) = ints (L.foldl (fun s t => insC (lastD l) t s) s) := by
    intro L
    induction L with
    | nil => intro s; rfl
    | cons x r ih =>
      intro s
      have := ih (insC (lastD l) x s)
      rw [← insC_ints] at this
      exact this
  exact this L []
def permOf (l : List Sp) : List Int := isort (lastD l) (perm0 l)
theorem sortStable25_ok (c : PV → PV → Int) (hC : Cmp c) (fv : AV) (D : PV → Prop) (hp : Heap) (r : Nat) (hg : CmpF c fv D hp r) (hr : r < hp.length) (N : Nat) (hN' : N < 100000000) (xs : List PV) (hN : N = xs.length) (hD : ∀ x ∈ xs, D x) :
    S 25 [.sl none r N 0 N, fv] (hp.set r (.arr none xs false)) = some (.ret (.tuple []), hp.set r (.arr none (isort c xs) false)) := by
  have hcall := stable_ok c hC fv D hp r hg hr N hN' xs hN hD
  have hsl : (hp.set r (.arr none xs false)).length = hp.length := by simp
  refine sem_heap rfl rfl rfl rfl ?_
  simp -dsimp -implicitDefEqProofs only [g25, c25r0, c25, go_sem, seval, ↓reduceIte, hcall, hsl]
  rw [List.take_of_length_le (by simp)]
theorem of_sort (x : Fl) (l : List Sp) (hl : l.length < 100000000) :
    S 25 [.sl none 3 (ints (perm0 l)).length 0 (ints (perm0 l)).length, .func (.func 26) [] [.ptr 6 0]] (hOf x l (ints (perm0 l))) = some (.ret (.tuple []), hOf4 x l [] (ints (permOf l)) [] []) := by
  have hle : (ints (perm0 l)).length ≤ l.length := by
    rw [ints_len]
    exact Nat.le_trans (List.length_filter_le _ _) (by simp [vars])
  have := sortStable25_ok (lastC l) (lastC_cmp l) _ isVar (hOf x l (ints (perm0 l))) 3 (of26_ok x l (ints (perm0 l))) (by simp [hOf]) (ints (perm0 l)).length (by omega) (ints (perm0 l)) rfl (fun p hp => by
    simp only [ints, List.mem_map] at hp
    obtain ⟨v, _, rfl⟩ := hp
    exact ⟨v, rfl⟩)
  rw [isort_ints] at this
  have e2 : (hOf x l (ints (perm0 l))).set 3 (.arr none (ints (isort (lastD l) (perm0 l))) false) = hOf4 x l [] (ints (permOf l)) [] [] := by
    have : (ints (permOf l)).length = (ints (perm0 l)).length := by simp [ints_len, permOf, isort_length]
    simp [hOf, hOf4, permOf] at this ⊢
    exact this.symm
  rw [e2] at this
  exact this
def chPV (A P B : List Int) : PV := .agg [(none, .sl none (ints A)), (none, .sl none (ints P)), (none, .sl none (ints B))]
def ofPV (x : Fl) : PV := if x.valid = true then chPV (ofsOf 0 x.goals) (permOf (sps (placesP x))) (livesOf (sps (placesP x)) (permOf (sps (placesP x))) 0 x.goals) else chPV [] [] []
theorem of_ok (x : Fl) (hp : Heap) (ha : Tm.sizes x.args < 1000000000) (hs : ∀ g ∈ x.goals, Tm.sizes g.args < 1000000000) (hlen : x.goals.length < 100000000) (hlim : (placesP x).length < 100000000) :
    S 12 [x.av] hp = some (.ret (.tuple [.pv (some 3) (ofPV x), .pv none (.int .i64 (if x.valid = true then 0 else 1))]), hp) := by
  refine sem_pure_range rfl rfl rfl (freezeAll_pvs [(some 5, x.pv)]) rfl rfl ?_
  have hv := fun hp => flatValid_ok x hp ha hs (by omega)
  simp only [Fl.av] at hv
  unfold ofPV
  have hb0 : sBuild [(none, .tsl none []), (none, .tsl none []), (none, .tsl none [])] [] [] = some (.agg [(none, .tsl none []), (none, .tsl none []), (none, .tsl none [])]) := rfl
  have hst0 : ∀ a0 a1 a2 a3 : AObj, wStore (some 3) 0 [a0, .box (some 3) (.agg [(none, .sl none 2 0 0 0), (none, .sl none 3 0 0 0), (none, .sl none 4 0 0 0)]), a1, a2, a3] [.ptr 1 0, .agg [(none, .tsl none []), (none, .tsl none []), (none, .tsl none [])]] = some (.undef, [a0, .box (some 3) (.agg [(none, .sl none 5 0 0 0), (none, .sl none 6 0 0 0), (none, .sl none 7 0 0 0)]), a1, a2, a3, .arr none [] false, .arr none [] false, .arr none [] false]) := fun _ _ _ _ => rfl
  have hsm : ∀ a0 a1 a2 a3 a4 a5 : AObj, wStore none 0 [a0, a1, a2, a3, a4, a5, .box none (.pv none .nilmap)] [.ptr 6 0, .map 5] = some (.undef, [a0, a1, a2, a3, a4, a5, .box none (.map 5)]) := fun _ _ _ _ _ _ => rfl
  have hal : ∀ H : Heap, wAlloc none (.tsl none []) H [] = some (.ptr H.length 0, H ++ [.box none (.sl none (H.length + 1) 0 0 0), .arr none [] false]) := fun H => by
    simp [wAlloc, AV.plain, AV.shp, AV.own, size_none]
  cases hval : x.valid with
  | false =>
    rw [hval] at hv
    simp -dsimp -implicitDefEqProofs only [g12, c12r0, c12r1, c12r2, c12k3, c12r4, c12r5, c12r6, c12r7, c12r8, c12k9, c12r10, c12r11, c12r12, c12k13, c12k14, c12r15, c12b16, c12k17, c12r18, c12r19, c12r20, c12r21, c12k22, c12r23, c12r24, c12r25, c12r26, c12r27, c12k28, c12r29, c12k30, c12b31, c12k32, c12r33, c12k34, c12r35, c12k36, c12r37, c12b38, c12k39, c12r40, c12p41, c12r42, c12r43, c12r44, c12r45, c12r46, c12k47, c12r48, c12r49, c12k50, c12q51, c12, go_sem, seval, ↓reduceIte, hv, hb0, hst0, resultAt_c]
    rfl
  | true =>
    rw [hval] at hv
    simp -dsimp -implicitDefEqProofs only [g12, c12r0, c12r1, c12r2, c12k3, c12r4, c12r5, c12r6, c12r7, c12r8, c12k9, c12r10, c12r11, c12r12, c12k13, c12k14, c12r15, c12b16, c12r18, c12r19, c12r20, c12r21, c12k22, c12r23, c12r24, c12r25, c12r26, c12r27, c12k28, c12r29, c12k30, c12b31, c12k32, c12r33, c12k34, c12r35, c12k36, c12r37, c12b38, c12r40, c12p41, c12r42, c12r43, c12r44, c12r45, c12r46, c12k47, c12r48, c12r49, c12k50, c12q51, c12, go_sem, seval, ↓reduceIte, hv, occ24_ok, hsm, hal]
    have h39 := occs_ok (of_rnd x) x [] 9 (by omega) (fun _ => rfl) ha hs (by omega) (by simp; unfold LIM; omega)
    rw [List.nil_append] at h39
    have hsl := sps_len (placesP x)
    have h1 := of_loop1 x (sps (placesP x)) (by omega)
    have h2 := of_sort x (sps (placesP x)) (by omega)
    have hpl : (permOf (sps (placesP x))).length ≤ (sps (placesP x)).length := by
      unfold permOf
      rw [isort_length]
      exact Nat.le_trans (List.length_filter_le _ _) (by simp [vars])
    have h3 := of_loop2 x (sps (placesP x)) (permOf (sps (placesP x))) (by omega) (by omega)
    generalize permOf (sps (placesP x)) = P at *
    generalize sps (placesP x) = l at *
    refine ⟨_, atop_range rfl rfl (by rw [sem_seq (by rfl)]; exact h39) rfl, ?_⟩
    have e1 : (hOf x l [] ++ [lOf]).take 10 = hOf x l [] := rfl
    have g7 : ∀ P, (hOf x l P)[7]? = some (.box none (.sl none 8 l.length 0 l.length)) := fun _ => rfl
    have g1 : ∀ P, (hOf x l P)[1]? = some (.box (some 3) (.agg [(none, .sl none 2 0 0 0), (none, .sl none 3 P.length 0 P.length), (none, .sl none 4 0 0 0)])) := fun _ => rfl
    have g0 : ∀ A P B e, (hOf4 x l A P B e)[0]? = some (.box (some 5) (.pv (some 5) x.pv)) := fun _ _ _ _ => rfl
    have g14 : ∀ A P B e, (hOf4 x l A P B e)[1]? = some (.box (some 3) (.agg [(none, .sl none 2 A.length 0 A.length), (none, .sl none 3 P.length 0 P.length), (none, .sl none 4 B.length 0 B.length)])) := fun _ _ _ _ => rfl
    have hst1 : ∀ A P B, wStore (some 3) 0 (hOf4 x l A P B []) [.ptr 1 0, .agg [(none, .sl none 2 A.length 0 A.length), (none, .sl none 3 P.length 0 P.length), (none, .sl none 4 B.length 0 B.length)]] = some (.undef, hOf4 x l A P B []) := fun _ _ _ => rfl
    have hfz : ∀ (A P B : List PV) (v : AV), Go.Am.frozen v (.tuple [.agg [(none, .sl none 2 A.length 0 A.length), (none, .sl none 3 P.length 0 P.length), (none, .sl none 4 B.length 0 B.length)], .pv none (.int .i64 0)]) (hOf4 x l A P B []) = (.tuple [.pv (some 3) (.agg [(none, .sl none A), (none, .sl none P), (none, .sl none B)]), .pv none (.int .i64 0)] = v) := fun A P B v => by
      rw [frozen_tuple]
      have : freezeAll [.agg [(none, .sl none 2 A.length 0 A.length), (none, .sl none 3 P.length 0 P.length), (none, .sl none 4 B.length 0 B.length)], .pv none (.int .i64 0)] (hOf4 x l A P B []) = some ([(some 3, .agg [(none, .sl none A), (none, .sl none P), (none, .sl none B)]), (none, .int .i64 0)], ((((hOf4 x l A P B []).set 2 (.arr none A true)).set 3 (.arr none P true)).set 4 (.arr none B true))) := by
        simp [freezeAll, deep, AV.freeze, AV.freeze.go, hOf4, AV.shp, total, Sh.size]
      rw [this]
      rfl
    simp -dsimp -implicitDefEqProofs only [g12, c12r0, c12r1, c12r2, c12k3, c12r4, c12r5, c12r6, c12r7, c12r8, c12k9, c12r10, c12r11, c12r12, c12k13, c12k14, c12r15, c12b16, c12r18, c12r19, c12r20, c12r21, c12k22, c12r23, c12r24, c12r25, c12r26, c12r27, c12k28, c12r29, c12k30, c12b31, c12k32, c12r33, c12k34, c12r35, c12k36, c12r37, c12b38, c12r40, c12p41, c12r42, c12r43, c12r44, c12r45, c12r46, c12k47, c12r48, c12r49, c12k50, c12q51, c12, go_sem, seval, ↓reduceIte, e1, g7]
    refine h1 _ (fun r => ?_)
    simp -dsimp -implicitDefEqProofs only [g12, c12r0, c12r1, c12r2, c12k3, c12r4, c12r5, c12r6, c12r7, c12r8, c12k9, c12r10, c12r11, c12r12, c12k13, c12k14, c12r15, c12b16, c12r18, c12r19, c12r20, c12r21, c12k22, c12r23, c12r24, c12r25, c12r26, c12r27, c12k28, c12r29, c12k30, c12b31, c12k32, c12r33, c12k34, c12r35, c12k36, c12r37, c12b38, c12r40, c12p41, c12r42, c12r43, c12r44, c12r45, c12r46, c12k47, c12r48, c12r49, c12k50, c12q51, c12, go_sem, seval, ↓reduceIte, g1, h2, g0, fl_goals, Gl.pvs_len]
    refine h3 _ (fun r => ?_)
    simp -dsimp -implicitDefEqProofs only [g12, c12r0, c12r1, c12r2, c12k3, c12r4, c12r5, c12r6, c12r7, c12r8, c12k9, c12r10, c12r11, c12r12, c12k13, c12k14, c12r15, c12b16, c12r18, c12r19, c12r20, c12r21, c12k22, c12r23, c12r24, c12r25, c12r26, c12r27, c12k28, c12r29, c12k30, c12b31, c12k32, c12r33, c12k34, c12r35, c12k36, c12r37, c12b38, c12r40, c12p41, c12r42, c12r43, c12r44, c12r45, c12r46, c12k47, c12r48, c12r49, c12k50, c12q51, c12, go_sem, seval, ↓reduceIte, g14, hst1, resultAt_c, hfz, chPV]
end Go.Proofs.Ytmajapjbogmefaa
