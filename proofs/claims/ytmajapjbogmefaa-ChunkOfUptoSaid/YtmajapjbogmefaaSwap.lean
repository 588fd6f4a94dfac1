/- What is proved: the library's exchanging of ranges and rotation do what their names say. -/
import Derived.Test.YtmajapjbogmefaaTerm
import Derived.Test.YtmajapjbogmefaaAm4
set_option linter.unusedSimpArgs false
set_option linter.unusedVariables false
namespace Go.Proofs.Ytmajapjbogmefaa
open Go.Am
theorem swapRange_ok (fv : AV) (hp : Heap) (r : Nat) (hr : r < hp.length) (a b n N : Nat) (P X M Y R : List PV) (hP : P.length = a) (hX : X.length = n) (hY : Y.length = n) (hb : b = a + n + M.length) (hN : N = (P ++ X ++ M ++ Y ++ R).length) (hN' : N < 1000000000) :
    S 65 [.sl none r N 0 N, .pv none (.int .i64 a), .pv none (.int .i64 b), .pv none (.int .i64 n), fv] (hp.set r (.arr none (P ++ X ++ M ++ Y ++ R) false)) = some (.ret (.tuple []), hp.set r (.arr none (P ++ Y ++ M ++ X ++ R) false)) := by
  refine sem_heap rfl rfl rfl rfl ?_
  have e1 : ∀ A, (hp.set r A)[r]? = some A := fun A => by simp [hr]
  have hNl : N = P.length + n + M.length + n + R.length := by rw [hN]; simp [hX, hY]; omega
  simp -dsimp -implicitDefEqProofs only [g65, c65r0, c65r1, c65k2, c65r3, c65k4, c65r5, c65b6, c65k7, c65, go_sem, seval, ↓reduceIte]
  refine W_loop (fun k st => ∃ (i : Nat) (X1 X2 Y1 Y2 : List PV), k = n - i ∧ i ≤ n ∧ X = X1 ++ X2 ∧ Y = Y1 ++ Y2 ∧ X1.length = i ∧ Y1.length = i ∧ st = ⟨[(0, .sl none r N 0 N), (1, .pv none (.int .i64 a)), (2, .pv none (.int .i64 b)), (3, .pv none (.int .i64 n)), (10, .pv none (.int .i64 i))], hp.set r (.arr none (P ++ Y1 ++ X2 ++ M ++ X1 ++ Y2 ++ R) false)⟩) (n := n) ⟨0, [], X, [], Y, rfl, Nat.zero_le _, rfl, rfl, rfl, rfl, ?_⟩ ?_
  · simp -dsimp -implicitDefEqProofs only [go_sem, seval, ↓reduceIte]
    simp
  · rintro k st ⟨i, X1, X2, Y1, Y2, hk, hi, eX, eY, lX, lY, rfl⟩
    have l2X : X2.length = n - i := by rw [eX] at hX; simp at hX; omega
    have l2Y : Y2.length = n - i := by rw [eY] at hY; simp at hY; omega
    have hlen : (P ++ Y1 ++ X2 ++ M ++ X1 ++ Y2 ++ R).length = N := by simp; omega
    by_cases h : i < n
    · have hc : (i : Int) < (n : Int) := by omega
      obtain ⟨x, X2, rfl⟩ : ∃ x l, X2 = x :: l := by cases X2 with | nil => simp at l2X; omega | cons x l => exact ⟨x, l, rfl⟩
      obtain ⟨y, Y2, rfl⟩ : ∃ x l, Y2 = x :: l := by cases Y2 with | nil => simp at l2Y; omega | cons x l => exact ⟨x, l, rfl⟩
      have w1 : IntKind.i64.wrap ((a : Int) + (i : Int)) = ((a + i : Nat) : Int) := by rw [wrap64 (by omega) (by omega)]; omega
      have w2 : IntKind.i64.wrap ((b : Int) + (i : Int)) = ((b + i : Nat) : Int) := by rw [wrap64 (by omega) (by omega)]; omega
      have w3 : IntKind.i64.wrap ((i : Int) + 1) = ((i + 1 : Nat) : Int) := by rw [wrap64 (by omega) (by omega)]; omega
      have la : a + i < N := by omega
      have lb : b + i < N := by omega
      have s1 : P ++ Y1 ++ x :: X2 ++ M ++ X1 ++ y :: Y2 ++ R = (P ++ Y1) ++ x :: (X2 ++ M ++ X1 ++ y :: Y2 ++ R) := by simp
      have s2 : P ++ Y1 ++ x :: X2 ++ M ++ X1 ++ y :: Y2 ++ R = (P ++ Y1 ++ x :: X2 ++ M ++ X1) ++ y :: (Y2 ++ R) := by simp
      have g1 : (P ++ Y1 ++ x :: X2 ++ M ++ X1 ++ y :: Y2 ++ R)[a + i]? = some x := by rw [s1]; exact mid_get (by simp; omega)
      have g2 : (P ++ Y1 ++ x :: X2 ++ M ++ X1 ++ y :: Y2 ++ R)[b + i]? = some y := by rw [s2]; exact mid_get (by simp at l2X ⊢; omega)
      have g3 : ((P ++ Y1 ++ x :: X2 ++ M ++ X1 ++ y :: Y2 ++ R).set (a + i) y).set (b + i) x = P ++ (Y1 ++ [y]) ++ X2 ++ M ++ (X1 ++ [x]) ++ Y2 ++ R := by
        rw [s1, mid_set (by simp; omega)]
        have s3 : (P ++ Y1) ++ y :: (X2 ++ M ++ X1 ++ y :: Y2 ++ R) = (P ++ Y1 ++ y :: X2 ++ M ++ X1) ++ y :: (Y2 ++ R) := by simp
        rw [s3, mid_set (by simp at l2X ⊢; omega)]
        simp
      generalize hxs : P ++ Y1 ++ x :: X2 ++ M ++ X1 ++ y :: Y2 ++ R = xs at g1 g2 g3 hlen ⊢
      simp -dsimp -implicitDefEqProofs only [g65, c65r0, c65r1, c65k2, c65r3, c65k4, c65r5, c65b6, c65k7, c65, go_sem, seval, ↓reduceIte, hc, w1, w2, w3, s_iaddr_sl la, s_iaddr_sl lb, aload_eptr, w_store_eptr, e1, g1, g2, hlen, List.length_set, List.set_set, la, lb, g3]
      refine ⟨n - (i + 1), by omega, i + 1, X1 ++ [x], X2, Y1 ++ [y], Y2, rfl, by omega, by simp [eX], by simp [eY], by simp [lX], by simp [lY], ?_⟩
      rw [collect_id (by simp)]
    · have hc : ¬ (i : Int) < (n : Int) := by omega
      obtain rfl : i = n := by omega
      have : X2 = [] := List.length_eq_zero_iff.1 (by omega)
      subst this
      have : Y2 = [] := List.length_eq_zero_iff.1 (by omega)
      subst this
      simp -dsimp -implicitDefEqProofs only [g65, c65r0, c65r1, c65k2, c65r3, c65k4, c65r5, c65b6, c65k7, c65, go_sem, seval, ↓reduceIte, hc]
      rw [List.take_of_length_le (by simp)]
      simp [eX, eY]

theorem rotate_ok (fv : AV) (hp : Heap) (r : Nat) (hr : r < hp.length) (a m b N : Nat) (P U V R : List PV) (hP : P.length = a) (hU : m = a + U.length) (hV : b = m + V.length) (hN : N = (P ++ U ++ V ++ R).length) (hN' : N < 1000000000) (hU0 : 0 < U.length) (hV0 : 0 < V.length) :
    S 62 [.sl none r N 0 N, .pv none (.int .i64 a), .pv none (.int .i64 m), .pv none (.int .i64 b), fv] (hp.set r (.arr none (P ++ U ++ V ++ R) false)) = some (.ret (.tuple []), hp.set r (.arr none (P ++ V ++ U ++ R) false)) := by
  refine sem_heap rfl rfl rfl rfl ?_
  have hNl : N = P.length + U.length + V.length + R.length := by (rw [hN]; simp <;> omega)
  have w1 : IntKind.i64.wrap ((m : Int) - (a : Int)) = ((U.length : Nat) : Int) := by rw [wrap64 (by omega) (by omega)]; omega
  have w2 : IntKind.i64.wrap ((b : Int) - (m : Int)) = ((V.length : Nat) : Int) := by rw [wrap64 (by omega) (by omega)]; omega
  simp -dsimp -implicitDefEqProofs only [g62, c62r0, c62r1, c62r2, c62k3, c62r4, c62r5, c62r6, c62r7, c62r8, c62k9, c62k10, c62b11, c62k12, c62r13, c62, go_sem, seval, ↓reduceIte, w1, w2]
  refine W_loop (fun k st => ∃ (i j : Nat) (P' X Y R' : List PV), k = i + j ∧ 0 < i ∧ 0 < j ∧ X.length = i ∧ Y.length = j ∧ P'.length + i = m ∧ P' ++ Y ++ X ++ R' = P ++ V ++ U ++ R ∧ (P' ++ X ++ Y ++ R').length = N ∧ st = ⟨[(0, .sl none r N 0 N), (2, .pv none (.int .i64 m)), (4, fv), (10, .pv none (.int .i64 i)), (11, .pv none (.int .i64 j))], hp.set r (.arr none (P' ++ X ++ Y ++ R') false)⟩) (n := U.length + V.length) ⟨U.length, V.length, P, U, V, R, rfl, hU0, hV0, rfl, rfl, by omega, rfl, hN.symm, ?_⟩ ?_
  · simp -dsimp -implicitDefEqProofs only [go_sem, seval, ↓reduceIte]
  · rintro k st ⟨i, j, P', X, Y, R', hk, i0, j0, lX, lY, lP, hT, hL, rfl⟩
    have hLn : P'.length + i + j + R'.length = N := by (rw [← hL]; simp <;> omega)
    by_cases hij : i = j
    · have hc : (i : Int) = (j : Int) := by omega
      have w3 : IntKind.i64.wrap ((m : Int) - (j : Int)) = ((P'.length : Nat) : Int) := by rw [wrap64 (by omega) (by omega)]; omega
      have hcall := swapRange_ok fv hp r hr P'.length m j N P' X [] Y R' rfl (by omega) (by omega) (by (simp <;> omega)) (by simp at hL ⊢; omega) hN'
      simp only [List.append_nil] at hcall
      rw [hT] at hcall
      simp -dsimp -implicitDefEqProofs only [g62, c62r0, c62r1, c62r2, c62k3, c62r4, c62r5, c62r6, c62r7, c62r8, c62k9, c62k10, c62b11, c62k12, c62r13, c62, go_sem, seval, ↓reduceIte, hc, w3, hcall]
      rw [List.take_of_length_le (by simp)]
    · have hc : ¬ (i : Int) = (j : Int) := by omega
      by_cases hgt : j < i
      · have hc2 : (j : Int) < (i : Int) := by omega
        have w3 : IntKind.i64.wrap ((m : Int) - (i : Int)) = ((P'.length : Nat) : Int) := by rw [wrap64 (by omega) (by omega)]; omega
        have w4 : IntKind.i64.wrap ((i : Int) - (j : Int)) = ((i - j : Nat) : Int) := by rw [wrap64 (by omega) (by omega)]; omega
        have eX : X = X.take j ++ X.drop j := (List.take_append_drop j X).symm
        have hcall := swapRange_ok fv hp r hr P'.length m j N P' (X.take j) (X.drop j) Y R' rfl (by (simp <;> omega)) (by omega) (by (simp <;> omega)) (by (rw [← hL]; simp <;> omega)) hN'
        have e0 : P' ++ X.take j ++ X.drop j ++ Y ++ R' = P' ++ X ++ Y ++ R' := by simp
        rw [e0] at hcall
        simp -dsimp -implicitDefEqProofs only [g62, c62r0, c62r1, c62r2, c62k3, c62r4, c62r5, c62r6, c62r7, c62r8, c62k9, c62k10, c62b11, c62k12, c62r13, c62, go_sem, seval, ↓reduceIte, hc, hc2, w3, w4, hcall]
        refine ⟨i - j + j, by omega, i - j, j, P' ++ Y, X.drop j, X.take j, R', rfl, by omega, by omega, by (simp <;> omega), by (simp <;> omega), by (simp <;> omega), ?_, ?_, ?_⟩
        · rw [← hT]; simp
        · rw [← hL]; simp <;> omega
        · rw [collect_id (by simp)]
      · have hc2 : ¬ (j : Int) < (i : Int) := by omega
        have w3 : IntKind.i64.wrap ((m : Int) - (i : Int)) = ((P'.length : Nat) : Int) := by rw [wrap64 (by omega) (by omega)]; omega
        have w4 : IntKind.i64.wrap ((j : Int) - (i : Int)) = ((j - i : Nat) : Int) := by rw [wrap64 (by omega) (by omega)]; omega
        have w5 : IntKind.i64.wrap ((m : Int) + (j : Int)) = ((m + j : Nat) : Int) := by rw [wrap64 (by omega) (by omega)]; omega
        have w6 : IntKind.i64.wrap (((m + j : Nat) : Int) - (i : Int)) = ((m + j - i : Nat) : Int) := by rw [wrap64 (by omega) (by omega)]; omega
        have hcall := swapRange_ok fv hp r hr P'.length (m + j - i) i N P' X (Y.take (j - i)) (Y.drop (j - i)) R' rfl lX (by (simp <;> omega)) (by (simp <;> omega)) (by (rw [← hL]; simp <;> omega)) hN'
        have e0 : P' ++ X ++ Y.take (j - i) ++ Y.drop (j - i) ++ R' = P' ++ X ++ Y ++ R' := by simp
        rw [e0] at hcall
        simp -dsimp -implicitDefEqProofs only [g62, c62r0, c62r1, c62r2, c62k3, c62r4, c62r5, c62r6, c62r7, c62r8, c62k9, c62k10, c62b11, c62k12, c62r13, c62, go_sem, seval, ↓reduceIte, hc, hc2, w3, w4, w5, w6, hcall]
        refine ⟨i + (j - i), by omega, i, j - i, P', Y.drop (j - i), Y.take (j - i), X ++ R', rfl, by omega, by omega, by (simp <;> omega), by (simp <;> omega), by omega, ?_, ?_, ?_⟩
        · rw [← hT]; simp
        · rw [← hL]; simp <;> omega
        · rw [collect_id (by simp)]; simp

def CmpF (c : PV → PV → Int) (fv : AV) (D : PV → Prop) (hp : Heap) (r : Nat) : Prop := ∃ g fs cs, calleeOf fv = some (g, fs, cs) ∧ ∀ x y, D x → D y → ∀ A, S g (fs ++ [.pv none x, .pv none y] ++ cs) (hp.set r A) = some (.ret (.pv none (.int .i64 (c x y))), hp.set r A)

theorem insInner (c : PV → PV → Int) (hC : Cmp c) (fv : AV) (D : PV → Prop) (hp : Heap) (r : Nat) (hg : CmpF c fv D hp r) (hr : r < hp.length) (a b i N : Nat) (P S1 R : List PV) (t : PV) (hP : P.length = a) (hs : Srt c S1) (hi : i = a + S1.length) (hN : N = (P ++ S1 ++ t :: R).length) (hN' : N < 1000000000) (hD : ∀ x ∈ S1, D x) (hDt : D t)
    (fr : Fr) (Q : AExit → St → Prop)
    (hfr : fr.keep [0, 1, 2, 3, 8, 9] = [(0, .sl none r N 0 N), (1, .pv none (.int .i64 a)), (2, .pv none (.int .i64 b)), (3, fv), (8, .pv none (.int .i64 i)), (9, .pv none (.int .i64 i))])
    (h : ∀ rest, Q (.exit 2) ⟨(0, .sl none r N 0 N) :: (1, .pv none (.int .i64 a)) :: (2, .pv none (.int .i64 b)) :: (3, fv) :: (8, .pv none (.int .i64 i)) :: rest, hp.set r (.arr none (P ++ insC c t S1 ++ R) false)⟩) :
    W Z L hp.length (.loop [0, 1, 2, 3, 8, 9] c55b9) ⟨fr, hp.set r (.arr none (P ++ S1 ++ t :: R) false)⟩ Q := by
  have e1 : ∀ A, (hp.set r A)[r]? = some A := fun A => by simp [hr]
  have hNl : N = P.length + S1.length + R.length + 1 := by rw [hN]; simp; omega
  refine W_loop (fun k st => ∃ (L1 M : List PV), k = L1.length ∧ S1 = L1 ++ M ∧ (∀ m ∈ M, c t m < 0) ∧ st = ⟨[(0, .sl none r N 0 N), (1, .pv none (.int .i64 a)), (2, .pv none (.int .i64 b)), (3, fv), (8, .pv none (.int .i64 i)), (9, .pv none (.int .i64 ((a + L1.length : Nat) : Int)))], hp.set r (.arr none (P ++ L1 ++ t :: M ++ R) false)⟩) (n := S1.length) ⟨S1, [], rfl, by simp, by simp, ?_⟩ ?_
  · rw [hfr, hi]
    simp
  · rintro k st ⟨L1, M, hk, hS, hM, rfl⟩
    have hSl : S1.length = L1.length + M.length := by rw [hS]; simp
    have hlen : (P ++ L1 ++ t :: M ++ R).length = N := by simp; omega
    have fin : (∀ x ∈ L1, ¬ c t x < 0) → P ++ insC c t S1 ++ R = P ++ L1 ++ t :: M ++ R := fun hx => by
      rw [hS, insC_split hx hM]; simp
    rcases nil_or_snoc L1 with rfl | ⟨L2, x, rfl⟩
    · have hc : ¬ ((a : Nat) : Int) < ((a + ([] : List PV).length : Nat) : Int) := by simp
      have hf := fin (by simp)
      rw [hf] at h
      simp -dsimp -implicitDefEqProofs only [g55, c55r0, c55r1, c55k2, c55r3, c55r4, c55k5, c55r6, c55k7, c55r8, c55b9, c55k10, c55k11, c55r12, c55b13, c55k14, c55, go_sem, seval, ↓reduceIte, hc, Int.lt_irrefl]
      exact h _
    · have hxl : (L2 ++ [x]).length = L2.length + 1 := by simp
      have hc : ((a : Nat) : Int) < ((a + (L2 ++ [x]).length : Nat) : Int) := by rw [hxl]; omega
      have w1 : IntKind.i64.wrap (((a + (L2 ++ [x]).length : Nat) : Int) - 1) = ((a + L2.length : Nat) : Int) := by rw [wrap64 (by omega) (by omega)]; omega
      have la : a + (L2 ++ [x]).length < N := by omega
      have lb : a + L2.length < N := by omega
      have s1 : P ++ (L2 ++ [x]) ++ t :: M ++ R = (P ++ (L2 ++ [x])) ++ t :: (M ++ R) := by simp
      have s2 : P ++ (L2 ++ [x]) ++ t :: M ++ R = (P ++ L2) ++ x :: (t :: M ++ R) := by simp
      have g1 : (P ++ (L2 ++ [x]) ++ t :: M ++ R)[a + (L2 ++ [x]).length]? = some t := by rw [s1]; exact mid_get (by simp; omega)
      have g2 : (P ++ (L2 ++ [x]) ++ t :: M ++ R)[a + L2.length]? = some x := by rw [s2]; exact mid_get (by simp; omega)
      have hxm : x ∈ S1 := by rw [hS]; simp
      obtain ⟨g, fs, cs, hcal, hg'⟩ := hg
      have hcall := hg' t x hDt (hD x hxm)
      by_cases hlt : c t x < 0
      · have g3 : ((P ++ (L2 ++ [x]) ++ t :: M ++ R).set (a + (L2 ++ [x]).length) x).set (a + L2.length) t = P ++ L2 ++ t :: (x :: M) ++ R := by
          rw [s1, mid_set (by simp; omega)]
          have s3 : (P ++ (L2 ++ [x])) ++ x :: (M ++ R) = (P ++ L2) ++ x :: (x :: M ++ R) := by simp
          rw [s3, mid_set (by simp; omega)]
          simp
        generalize hxs : P ++ (L2 ++ [x]) ++ t :: M ++ R = xs at g1 g2 g3 hlen ⊢
        simp -dsimp -implicitDefEqProofs only [g55, c55r0, c55r1, c55k2, c55r3, c55r4, c55k5, c55r6, c55k7, c55r8, c55b9, c55k10, c55k11, c55r12, c55b13, c55k14, c55, go_sem, seval, ↓reduceIte, hc, w1, s_iaddr_sl la, s_iaddr_sl lb, aload_eptr, w_store_eptr, e1, g1, g2, hlen, List.length_set, List.set_set, la, lb, g3, hcall, op_callee hcal, hlt]
        refine ⟨L2.length, by omega, L2, x :: M, rfl, by rw [hS]; simp, ?_, ?_⟩
        · intro m hm
          rcases List.mem_cons.1 hm with rfl | hm
          · exact hlt
          · exact hM m hm
        · rw [collect_id (by simp)]
      · have hf := fin (fun y hy => by
          rcases List.mem_append.1 hy with hy | hy
          · have hyx : c y x ≤ 0 := by
              rw [hS] at hs
              have := (List.pairwise_append.1 (List.pairwise_append.1 hs).1).2.2 y hy x (by simp)
              exact this
            intro hty
            have := hC.lt_of_lt_le hty hyx
            exact hlt this
          · simp at hy; subst hy; exact hlt)
        rw [hf] at h
        generalize hxs : P ++ (L2 ++ [x]) ++ t :: M ++ R = xs at g1 g2 hlen h ⊢
        simp -dsimp -implicitDefEqProofs only [g55, c55r0, c55r1, c55k2, c55r3, c55r4, c55k5, c55r6, c55k7, c55r8, c55b9, c55k10, c55k11, c55r12, c55b13, c55k14, c55, go_sem, seval, ↓reduceIte, hc, w1, s_iaddr_sl la, s_iaddr_sl lb, aload_eptr, e1, g1, g2, hlen, hcall, op_callee hcal, hlt]
        exact h _

theorem insertion_ok (c : PV → PV → Int) (hC : Cmp c) (fv : AV) (D : PV → Prop) (hp : Heap) (r : Nat) (hg : CmpF c fv D hp r) (hr : r < hp.length) (a b N : Nat) (P A R : List PV) (hP : P.length = a) (hA : b = a + A.length) (hN : N = (P ++ A ++ R).length) (hN' : N < 1000000000) (hD : ∀ x ∈ A, D x) :
    S 55 [.sl none r N 0 N, .pv none (.int .i64 a), .pv none (.int .i64 b), fv] (hp.set r (.arr none (P ++ A ++ R) false)) = some (.ret (.tuple []), hp.set r (.arr none (P ++ isort c A ++ R) false)) := by
  refine sem_heap rfl rfl rfl rfl ?_
  have hNl : N = P.length + A.length + R.length := by (rw [hN]; simp <;> omega)
  have hsl : (hp.set r (.arr none (P ++ A ++ R) false)).length = hp.length := by simp
  have w0 : IntKind.i64.wrap ((a : Int) + 1) = ((a + 1 : Nat) : Int) := by rw [wrap64 (by omega) (by omega)]; omega
  rw [hsl]
  simp -dsimp -implicitDefEqProofs only [g55, c55r0, c55r1, c55k2, c55r3, c55r4, c55k5, c55r6, c55k7, c55r8, c55b9, c55k10, c55k11, c55r12, c55b13, c55k14, c55, go_sem, seval, ↓reduceIte, w0]
  refine W_loop (fun n st => ∃ k : Nat, n = A.length - k ∧ 1 ≤ k ∧ st = ⟨[(0, .sl none r N 0 N), (1, .pv none (.int .i64 a)), (2, .pv none (.int .i64 b)), (3, fv), (8, .pv none (.int .i64 ((a + k : Nat) : Int)))], hp.set r (.arr none (P ++ isort c (A.take k) ++ A.drop k ++ R) false)⟩) (n := A.length - 1) ⟨1, rfl, Nat.le_refl _, ?_⟩ ?_
  · simp -dsimp -implicitDefEqProofs only [go_sem, seval, ↓reduceIte]
    cases A with
    | nil => simp [isort]
    | cons x A => simp [isort, insC]
  · rintro n st ⟨k, hn, hk, rfl⟩
    by_cases h : k < A.length
    · have hc : ((a + k : Nat) : Int) < (b : Int) := by omega
      obtain ⟨t, R1, hd⟩ : ∃ t R1, A.drop k = t :: R1 := ⟨A[k], A.drop (k + 1), List.drop_eq_getElem_cons h⟩
      have hd1 : A.drop (k + 1) = R1 := by rw [← List.drop_drop, hd]; rfl
      have ht : A.take (k + 1) = A.take k ++ [t] := by
        have : A[k]? = some t := by have := congrArg List.head? hd; simpa using this
        rw [List.take_add_one, this]; rfl
      have w3 : IntKind.i64.wrap (((a + k : Nat) : Int) + 1) = ((a + (k + 1) : Nat) : Int) := by rw [wrap64 (by omega) (by omega)]; omega
      have hlk : (isort c (A.take k)).length = k := by rw [isort_length]; simp; omega
      have e0 : P ++ isort c (A.take k) ++ A.drop k ++ R = P ++ isort c (A.take k) ++ t :: (R1 ++ R) := by rw [hd]; simp
      have hmem : ∀ x ∈ isort c (A.take k), D x := fun x hx => hD x (List.mem_of_mem_take ((isort_perm _).mem_iff.1 hx))
      have htm : D t := hD t (by have : t ∈ A.drop k := by rw [hd]; simp
                                 exact List.mem_of_mem_drop this)
      simp -dsimp -implicitDefEqProofs only [g55, c55r0, c55r1, c55k2, c55r3, c55r4, c55k5, c55r6, c55k7, c55r8, c55k10, c55k11, c55r12, c55b13, c55k14, c55, go_sem, seval, ↓reduceIte, hc]
      rw [e0]
      refine insInner c hC fv D hp r hg hr a b (a + k) N P (isort c (A.take k)) (R1 ++ R) t hP (isort_srt hC _) (by omega) (by rw [← e0]; simp [hlk]; omega) hN' hmem htm _ _ rfl fun rest => ?_
      simp -dsimp -implicitDefEqProofs only [g55, c55r0, c55r1, c55k2, c55r3, c55r4, c55k5, c55r6, c55k7, c55r8, c55k10, c55k11, c55r12, c55b13, c55k14, c55, go_sem, seval, ↓reduceIte, w3]
      refine ⟨A.length - (k + 1), by omega, k + 1, rfl, by omega, ?_⟩
      rw [collect_id (by simp), ht, isort_snoc, hd1]
      simp
    · have hc : ¬ ((a + k : Nat) : Int) < (b : Int) := by omega
      simp -dsimp -implicitDefEqProofs only [g55, c55r0, c55r1, c55k2, c55r3, c55r4, c55k5, c55r6, c55k7, c55r8, c55k10, c55k11, c55r12, c55b13, c55k14, c55, go_sem, seval, ↓reduceIte, hc]
      rw [List.take_of_length_le (by simp), List.take_of_length_le (by omega), List.drop_eq_nil_of_le (by omega)]
      simp
end Go.Proofs.Ytmajapjbogmefaa
