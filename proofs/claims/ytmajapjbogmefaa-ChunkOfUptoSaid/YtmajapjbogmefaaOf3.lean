/- What is proved: what chunk.Of gives: its loops. -/
import Derived.Test.YtmajapjbogmefaaOf2
set_option linter.unusedSimpArgs false
set_option linter.unusedVariables false
namespace Go.Proofs.Ytmajapjbogmefaa
open Go.Am
def vars (l : List Sp) : List Int := l.map Sp.v
theorem ords_vars (l : List Sp) : ords l = (vars l).map (.int .i64) := by simp [ords, vars]
def ints (l : List Int) : List PV := l.map (.int .i64)
theorem ints_len (l : List Int) : (ints l).length = l.length := by simp [ints]
theorem ints_get {l : List Int} {i : Nat} {v : Int} (h : l[i]? = some v) : (ints l)[i]? = some (.int .i64 v) := by simp [ints, h]
def wide (l : List Sp) (v : Int) : Bool := decide (firstOf l v < lastOf l v)
def perm0 (l : List Sp) : List Int := (vars l).filter (wide l)
theorem of_loop1 (x : Fl) (l : List Sp) (hl : l.length < 500000000) (Q : AExit → St → Prop)
    (hQ : ∀ r : Fr, Q .normal ⟨(1, .ptr 0 0) :: (2, .ptr 1 0) :: (4, .ptr 6 0) :: r, hOf x l (ints (perm0 l))⟩) :
    W Z L 0 c12k17 ⟨[(1, .ptr 0 0), (2, .ptr 1 0), (4, .ptr 6 0), (49, .sl none 8 l.length 0 l.length), (50, .pv none (.int .i64 l.length)), (51, .pv none (.int .i64 0))], hOf x l []⟩ Q := by
  simp -dsimp -implicitDefEqProofs only [g12, c12r0, c12r1, c12r2, c12k3, c12r4, c12r5, c12r6, c12r7, c12r8, c12k9, c12r10, c12r11, c12r12, c12k13, c12k14, c12r15, c12b16, c12k17, c12r18, c12r19, c12r20, c12r21, c12k22, c12r23, c12r24, c12r25, c12r26, c12r27, c12k28, c12r29, c12k30, c12b31, c12k32, c12r33, c12k34, c12r35, c12k36, c12r37, c12b38, c12k39, c12r40, c12p41, c12r42, c12r43, c12r44, c12r45, c12r46, c12k47, c12r48, c12r49, c12k50, c12q51, c12, go_sem, seval, ↓reduceIte]
  have hvl : (vars l).length = l.length := by simp [vars]
  refine W_for (α := Unit) l.length (fun _ _ => True) (fun i _ => ⟨[(1, .ptr 0 0), (2, .ptr 1 0), (4, .ptr 6 0), (49, .sl none 8 l.length 0 l.length), (50, .pv none (.int .i64 l.length)), (51, .pv none (.int .i64 i))], hOf x l (ints (((vars l).take i).filter (wide l)))⟩) () ⟨trivial, rfl⟩ ?_ ?_
  · rintro i _ h _
    have hc : (i : Int) < (l.length : Int) := by omega
    obtain ⟨v, hv⟩ : ∃ v, (vars l)[i]? = some v := ⟨_, List.getElem?_eq_getElem (by omega)⟩
    have hvi : (ords l)[i]? = some (.int .i64 v) := by rw [ords_vars]; simp [hv]
    have w2 : IntKind.i64.wrap ((i : Int) + 1) = ((i + 1 : Nat) : Int) := by rw [wrap64 (by omega) (by omega)]; omega
    have ht : (vars l).take (i + 1) = (vars l).take i ++ [v] := by rw [List.take_add_one, hv]; rfl
    have hln : (((vars l).take i).filter (wide l)).length ≤ l.length := Nat.le_trans (List.length_filter_le _ _) (by simp; omega)
    generalize hP : ints (((vars l).take i).filter (wide l)) = P
    have hPl : P.length ≤ l.length := by rw [← hP, ints_len]; exact hln
    obtain ⟨t, h1, h2, h3⟩ := last_lookup l v [] (.box (some 5) (.pv (some 5) x.pv)) (.box (some 3) (.agg [(none, .sl none 2 0 0 0), (none, .sl none 3 P.length 0 P.length), (none, .sl none 4 0 0 0)])) (.arr none [] false) (.arr none P false) (.arr none [] false) [.box none (.map 5), .box none (.sl none 8 l.length 0 l.length), .arr none (ords l) false, .box (some 5) (.pv (some 5) x.pv)]
    have hap : ∀ (a0 a1 a2 : AObj) (e : Heap), wAppend none (a0 :: a1 :: a2 :: .arr none P false :: e) [.sl none 3 P.length 0 P.length, .tsl none [.int .i64 v]] = some (.sl none 3 (P.length + 1) 0 (P.length + 1), a0 :: a1 :: a2 :: .arr none (P ++ [.int .i64 v]) false :: e) := fun a0 a1 a2 e =>
      w_append_tsl (show okArr none P.length (some (.arr none P false)) from ⟨rfl, rfl⟩) (by simp [lim]; omega)
    have hst : ∀ (n m : Nat) (a0 : AObj) (e : Heap), wStore none 0 (a0 :: .box (some 3) (.agg [(none, .sl none 2 0 0 0), (none, .sl none 3 n 0 n), (none, .sl none 4 0 0 0)]) :: e) [.ptr 1 1, .sl none 3 m 0 m] = some (.undef, a0 :: .box (some 3) (.agg [(none, .sl none 2 0 0 0), (none, .sl none 3 m 0 m), (none, .sl none 4 0 0 0)]) :: e) := fun n m a0 e => rfl
    have hwd : wide l v = decide (firstOf l v < lastOf l v) := rfl
    have hix : sIaddr none [.sl none 8 l.length 0 l.length, .pv none (.int .i64 i)] = some (.eptr none 8 l.length i 0) := by have := s_iaddr_sl (sh := none) (r := 8) (v := l.length) (o := 0) (s' := none) (k := .i64) h; rwa [Nat.zero_add] at this
    have hld : ∀ (a0 a1 a2 a3 a4 a5 a6 a7 a9 : AObj), aload none [a0, a1, a2, a3, a4, a5, a6, a7, .arr none (ords l) false, a9] (.eptr none 8 l.length i 0) = some (.pv none (.int .i64 v)) := fun a0 a1 a2 a3 a4 a5 a6 a7 a9 => by simp [aload, ords_len, hvi]
    by_cases hw : firstOf l v < lastOf l v
    · rw [decide_eq_true hw] at hwd
      simp -dsimp -implicitDefEqProofs only [g12, c12r0, c12r1, c12r2, c12k3, c12r4, c12r5, c12r6, c12r7, c12r8, c12k9, c12r10, c12r11, c12r12, c12k13, c12k14, c12r15, c12b16, c12k17, c12r18, c12r19, c12r20, c12r21, c12k22, c12r23, c12r24, c12r25, c12r26, c12r27, c12k28, c12r29, c12k30, c12b31, c12k32, c12r33, c12k34, c12r35, c12k36, c12r37, c12b38, c12k39, c12r40, c12p41, c12r42, c12r43, c12r44, c12r45, c12r46, c12k47, c12r48, c12r49, c12k50, c12q51, c12, go_sem, seval, ↓reduceIte, hOf, hc, hix, hld, h1, h2, h3, hw, hap, hst, w2]
      refine ⟨(), ?_⟩
      rw [collect_id (by rfl), ht, List.filter_append]
      simp [hwd, ints] at hP ⊢
      rw [hP]
      exact ⟨by rw [← hP, List.length_map], rfl⟩
    · rw [decide_eq_false hw] at hwd
      simp -dsimp -implicitDefEqProofs only [g12, c12r0, c12r1, c12r2, c12k3, c12r4, c12r5, c12r6, c12r7, c12r8, c12k9, c12r10, c12r11, c12r12, c12k13, c12k14, c12r15, c12b16, c12k17, c12r18, c12r19, c12r20, c12r21, c12k22, c12r23, c12r24, c12r25, c12r26, c12r27, c12k28, c12r29, c12k30, c12b31, c12k32, c12r33, c12k34, c12r35, c12k36, c12r37, c12b38, c12k39, c12r40, c12p41, c12r42, c12r43, c12r44, c12r45, c12r46, c12k47, c12r48, c12r49, c12k50, c12q51, c12, go_sem, seval, ↓reduceIte, hOf, hc, hix, hld, h1, h2, h3, hw, hap, hst, w2]
      refine ⟨(), ?_⟩
      rw [collect_id (by rfl), ht, List.filter_append]
      simp [hwd, ints] at hP ⊢
      rw [hP]
      exact ⟨by rw [← hP, List.length_map], rfl⟩
  · rintro _ _
    have hc : ¬ (l.length : Int) < (l.length : Int) := by omega
    simp -dsimp -implicitDefEqProofs only [g12, c12r0, c12r1, c12r2, c12k3, c12r4, c12r5, c12r6, c12r7, c12r8, c12k9, c12r10, c12r11, c12r12, c12k13, c12k14, c12r15, c12b16, c12k17, c12r18, c12r19, c12r20, c12r21, c12k22, c12r23, c12r24, c12r25, c12r26, c12r27, c12k28, c12r29, c12k30, c12b31, c12k32, c12r33, c12k34, c12r35, c12k36, c12r37, c12b38, c12k39, c12r40, c12p41, c12r42, c12r43, c12r44, c12r45, c12r46, c12k47, c12r48, c12r49, c12k50, c12q51, c12, go_sem, seval, ↓reduceIte, hOf, hc]
    have := hQ
    unfold perm0 hOf at this
    rw [List.take_of_length_le (by omega)]
    exact this _
end Go.Proofs.Ytmajapjbogmefaa
