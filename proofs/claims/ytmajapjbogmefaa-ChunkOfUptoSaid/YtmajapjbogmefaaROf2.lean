/- What is proved: the reference's chunks, its loops over chunks. -/
import Derived.Test.YtmajapjbogmefaaROf1
set_option linter.unusedSimpArgs false
set_option linter.unusedVariables false
namespace Go.Proofs.Ytmajapjbogmefaa
open Go.Am
theorem bools_get {l : List Bool} {i : Nat} {b : Bool} (h : l[i]? = some b) : (bools l)[i]? = some (.bool b) := by simp [bools, h]
theorem olds_get {M : List (Int × Int)} {i : Nat} (h : i < M.length) : (bools (oldsTo M M.length))[i]? = some (.bool (oldB M i)) := bools_get (by simp [oldsTo, h])
theorem ends_get {M : List (Int × Int)} {i : Nat} {p : Int × Int} (h : M[i]? = some p) : (ints (endsTo M M.length))[i]? = some (.int .i64 (maxOf p.1 M)) := ints_get (by simp [endsTo, h])
theorem rof_loopE (f : Fl) (A : List PV) (M : List (Int × Int)) (hmono : Mono M) (hM : M.length < 100000000) (x9 x10 : AObj) (k : Int) (P0 : List Int) (hP0 : P0.length ≤ M.length) (r0 : Fr) (Q : AExit → St → Prop)
    (hQ : ∀ (r : Fr) (P : List Int), P = P0 ++ (vars (sps M)).filter (inB (sps M) k) → Q .normal ⟨(1, .ptr 0 0) :: (2, .ptr 1 0) :: (4, .ptr 5 0) :: (7, .pv none (.sl (some 2) (M.map pl))) :: (11, .sl none 11 M.length 0 M.length) :: (12, .sl none 12 M.length 0 M.length) :: (13, .sl none 13 P.length 0 P.length) :: (15, .pv none (.int .i64 k)) :: r, hR f A (ints P) [] [x9, x10, .arr none (bools (oldsTo M M.length)) false, .arr none (ints (endsTo M M.length)) false, .arr none (ints (P.map (lastOf (sps M)))) false]⟩) :
    W Z L 0 c13k53 ⟨(1, .ptr 0 0) :: (2, .ptr 1 0) :: (4, .ptr 5 0) :: (7, .pv none (.sl (some 2) (M.map pl))) :: (11, .sl none 11 M.length 0 M.length) :: (12, .sl none 12 M.length 0 M.length) :: (13, .sl none 13 P0.length 0 P0.length) :: (15, .pv none (.int .i64 k)) :: (16, .pv none (.int .i64 0)) :: r0, hR f A (ints P0) [] [x9, x10, .arr none (bools (oldsTo M M.length)) false, .arr none (ints (endsTo M M.length)) false, .arr none (ints (P0.map (lastOf (sps M)))) false]⟩ Q := by
  simp -dsimp -implicitDefEqProofs only [g13, c13r0, c13r1, c13r2, c13k3, c13r4, c13r5, c13r6, c13r7, c13k8, c13r9, c13r10, c13r11, c13k12, c13k13, c13r14, c13b15, c13k16, c13r17, c13r18, c13r19, c13r20, c13k21, c13r22, c13k23, c13r24, c13b25, c13k26, c13r27, c13r28, c13r29, c13r30, c13r31, c13k32, c13r33, c13r34, c13r35, c13k36, c13r37, c13b38, c13k39, c13r40, c13r41, c13k42, c13r43, c13r44, c13k45, c13r46, c13k47, c13r48, c13r49, c13k50, c13r51, c13b52, c13k53, c13k54, c13r55, c13b56, c13k57, c13r58, c13r59, c13k60, c13r61, c13r62, c13r63, c13k64, c13r65, c13r66, c13k67, c13k68, c13r69, c13b70, c13k71, c13r72, c13k73, c13r74, c13b75, c13k76, c13r77, c13, go_sem, seval, ↓reduceIte]
  refine W_for (α := List Int) M.length (fun i P => P = P0 ++ (vars (sps (M.take i))).filter (inB (sps M) k) ∧ P.length ≤ P0.length + i)
    (fun i P => ⟨[(1, .ptr 0 0), (2, .ptr 1 0), (4, .ptr 5 0), (7, .pv none (.sl (some 2) (M.map pl))), (11, .sl none 11 M.length 0 M.length), (12, .sl none 12 M.length 0 M.length), (13, .sl none 13 P.length 0 P.length), (15, .pv none (.int .i64 k)), (16, .pv none (.int .i64 i))], hR f A (ints P) [] [x9, x10, .arr none (bools (oldsTo M M.length)) false, .arr none (ints (endsTo M M.length)) false, .arr none (ints (P.map (lastOf (sps M)))) false]⟩) P0 ⟨⟨by simp [sps, vars], Nat.le_refl _⟩, rfl⟩ ?_ ?_
  · rintro i P h ⟨hP, hPl⟩
    have hc : (i : Int) < (M.length : Int) := by omega
    obtain ⟨p, hp⟩ : ∃ p, M[i]? = some p := ⟨_, List.getElem?_eq_getElem h⟩
    have w2 : IntKind.i64.wrap ((i : Int) + 1) = ((i + 1 : Nat) : Int) := by rw [wrap64 (by omega) (by omega)]; omega
    have hog := olds_get h
    have heg := ends_get hp
    rw [maxOf_last hmono] at heg
    have hl1 : (bools (oldsTo M M.length)).length = M.length := by simp [bools, oldsTo]
    have hl2 : (ints (endsTo M M.length)).length = M.length := by simp [ints, endsTo]
    have hld1 : ∀ (a0 a1 a2 a3 a4 a5 a6 a7 a8 a9 a10 : AObj) (e : Heap), aload none (a0 :: a1 :: a2 :: a3 :: a4 :: a5 :: a6 :: a7 :: a8 :: a9 :: a10 :: .arr none (bools (oldsTo M M.length)) false :: e) (.eptr none 11 M.length i 0) = some (.pv none (.bool (oldB M i))) := fun a0 a1 a2 a3 a4 a5 a6 a7 a8 a9 a10 e => by simp [aload, hl1, hog]
    have hld2 : ∀ (a0 a1 a2 a3 a4 a5 a6 a7 a8 a9 a10 a11 : AObj) (e : Heap), aload none (a0 :: a1 :: a2 :: a3 :: a4 :: a5 :: a6 :: a7 :: a8 :: a9 :: a10 :: a11 :: .arr none (ints (endsTo M M.length)) false :: e) (.eptr none 12 M.length i 0) = some (.pv none (.int .i64 (lastOf (sps M) p.1))) := fun a0 a1 a2 a3 a4 a5 a6 a7 a8 a9 a10 a11 e => by simp [aload, hl2, heg]
    have hPi := ints_len P
    have hUi : (ints (P.map (lastOf (sps M)))).length = P.length := by simp [ints]
    have hap1 : ∀ (a0 a1 a2 a3 a4 a5 a6 : AObj) (e : Heap), wAppend none (a0 :: a1 :: a2 :: a3 :: a4 :: a5 :: a6 :: .arr none (ints P) false :: e) [.sl none 7 (ints P).length 0 (ints P).length, .tsl none [.int .i64 p.1]] = some (.sl none 7 ((ints P).length + 1) 0 ((ints P).length + 1), a0 :: a1 :: a2 :: a3 :: a4 :: a5 :: a6 :: .arr none (ints P ++ [.int .i64 p.1]) false :: e) := fun a0 a1 a2 a3 a4 a5 a6 e =>
      w_append_tsl (show okArr none (ints P).length (some (.arr none (ints P) false)) from ⟨rfl, rfl⟩) (by simp [lim]; omega)
    have hap2 : ∀ (a0 a1 a2 a3 a4 a5 a6 a7 a8 a9 a10 a11 a12 : AObj) (e : Heap), wAppend none (a0 :: a1 :: a2 :: a3 :: a4 :: a5 :: a6 :: a7 :: a8 :: a9 :: a10 :: a11 :: a12 :: .arr none (ints (P.map (lastOf (sps M)))) false :: e) [.sl none 13 P.length 0 P.length, .tsl none [.int .i64 k]] = some (.sl none 13 (P.length + 1) 0 (P.length + 1), a0 :: a1 :: a2 :: a3 :: a4 :: a5 :: a6 :: a7 :: a8 :: a9 :: a10 :: a11 :: a12 :: .arr none (ints (P.map (lastOf (sps M))) ++ [.int .i64 k]) false :: e) := fun a0 a1 a2 a3 a4 a5 a6 a7 a8 a9 a10 a11 a12 e =>
      w_append_tsl (show okArr none P.length (some (.arr none (ints (P.map (lastOf (sps M)))) false)) from ⟨rfl, hUi⟩) (by simp [lim]; omega)
    have hst : ∀ (n m q b : Nat) (a0 a1 a2 a3 a4 : AObj) (e : Heap), wStore none 0 (a0 :: a1 :: a2 :: a3 :: a4 :: .box (some 3) (.agg [(none, .sl none 6 n 0 n), (none, .sl none 7 q 0 q), (none, .sl none 8 b 0 b)]) :: e) [.ptr 5 1, .sl none 7 m 0 m] = some (.undef, a0 :: a1 :: a2 :: a3 :: a4 :: .box (some 3) (.agg [(none, .sl none 6 n 0 n), (none, .sl none 7 m 0 m), (none, .sl none 8 b 0 b)]) :: e) := fun n m q b a0 a1 a2 a3 a4 e => rfl
    cases ho : oldB M i with
    | true =>
      rw [ho] at hld1
      simp -dsimp -implicitDefEqProofs only [g13, c13r0, c13r1, c13r2, c13k3, c13r4, c13r5, c13r6, c13r7, c13k8, c13r9, c13r10, c13r11, c13k12, c13k13, c13r14, c13b15, c13k16, c13r17, c13r18, c13r19, c13r20, c13k21, c13r22, c13k23, c13r24, c13b25, c13k26, c13r27, c13r28, c13r29, c13r30, c13r31, c13k32, c13r33, c13r34, c13r35, c13k36, c13r37, c13b38, c13k39, c13r40, c13r41, c13k42, c13r43, c13r44, c13k45, c13r46, c13k47, c13r48, c13r49, c13k50, c13r51, c13b52, c13k53, c13k54, c13r55, c13b56, c13k57, c13r58, c13r59, c13k60, c13r61, c13r62, c13r63, c13k64, c13r65, c13r66, c13k67, c13k68, c13r69, c13b70, c13k71, c13r72, c13k73, c13r74, c13b75, c13k76, c13r77, c13, go_sem, seval, ↓reduceIte, hR, List.length_map, hc, s_iaddr_pv (pls_get hp), pl_part0, pl_part1, idx_sl h, hld1, w2]
      refine ⟨P, ⟨by rw [vars_old hp ho]; exact hP, by omega⟩, ?_⟩
      rw [collect_id (by rfl)]
    | false =>
      rw [ho] at hld1
      obtain ⟨hf1, hv1⟩ := first_new hp ho
      have hin : inB (sps M) k p.1 = (decide (p.2 ≠ k) && decide (lastOf (sps M) p.1 = k)) := by unfold inB; rw [hf1]
      by_cases hk1 : p.2 = k
      · have hin' : inB (sps M) k p.1 = false := by rw [hin]; simp [hk1]
        simp -dsimp -implicitDefEqProofs only [g13, c13r0, c13r1, c13r2, c13k3, c13r4, c13r5, c13r6, c13r7, c13k8, c13r9, c13r10, c13r11, c13k12, c13k13, c13r14, c13b15, c13k16, c13r17, c13r18, c13r19, c13r20, c13k21, c13r22, c13k23, c13r24, c13b25, c13k26, c13r27, c13r28, c13r29, c13r30, c13r31, c13k32, c13r33, c13r34, c13r35, c13k36, c13r37, c13b38, c13k39, c13r40, c13r41, c13k42, c13r43, c13r44, c13k45, c13r46, c13k47, c13r48, c13r49, c13k50, c13r51, c13b52, c13k53, c13k54, c13r55, c13b56, c13k57, c13r58, c13r59, c13k60, c13r61, c13r62, c13r63, c13k64, c13r65, c13r66, c13k67, c13k68, c13r69, c13b70, c13k71, c13r72, c13k73, c13r74, c13b75, c13k76, c13r77, c13, go_sem, seval, ↓reduceIte, hR, List.length_map, hc, s_iaddr_pv (pls_get hp), pl_part0, pl_part1, idx_sl h, hld1, hk1, w2]
        refine ⟨P, ⟨by rw [hv1, List.filter_append, hP]; simp [hin'], by omega⟩, ?_⟩
        rw [collect_id (by rfl)]
      · by_cases hk2 : lastOf (sps M) p.1 = k
        · have hin' : inB (sps M) k p.1 = true := by rw [hin]; simp [hk1, hk2]
          have e1 : ints P ++ [.int .i64 p.1] = ints (P ++ [p.1]) := by simp [ints]
          have e2 : ints (P.map (lastOf (sps M))) ++ [.int .i64 k] = ints ((P ++ [p.1]).map (lastOf (sps M))) := by simp [ints, hk2]
          have e3 : (ints P).length + 1 = (ints (P ++ [p.1])).length := by simp [ints]
          have e4 : P.length + 1 = (P ++ [p.1]).length := by simp
          rw [hk2] at hld2
          simp -dsimp -implicitDefEqProofs only [g13, c13r0, c13r1, c13r2, c13k3, c13r4, c13r5, c13r6, c13r7, c13k8, c13r9, c13r10, c13r11, c13k12, c13k13, c13r14, c13b15, c13k16, c13r17, c13r18, c13r19, c13r20, c13k21, c13r22, c13k23, c13r24, c13b25, c13k26, c13r27, c13r28, c13r29, c13r30, c13r31, c13k32, c13r33, c13r34, c13r35, c13k36, c13r37, c13b38, c13k39, c13r40, c13r41, c13k42, c13r43, c13r44, c13k45, c13r46, c13k47, c13r48, c13r49, c13k50, c13r51, c13b52, c13k53, c13k54, c13r55, c13b56, c13k57, c13r58, c13r59, c13k60, c13r61, c13r62, c13r63, c13k64, c13r65, c13r66, c13k67, c13k68, c13r69, c13b70, c13k71, c13r72, c13k73, c13r74, c13b75, c13k76, c13r77, c13, go_sem, seval, ↓reduceIte, hR, List.length_map, hc, s_iaddr_pv (pls_get hp), pl_part0, pl_part1, idx_sl h, hld1, hld2, hk1, hap1, hap2, hst, w2]
          refine ⟨P ++ [p.1], ⟨by rw [hv1, List.filter_append, hP]; simp [hin'], by simp; omega⟩, ?_⟩
          rw [collect_id (by rfl), e1, e2, e3, e4]
        · have hin' : inB (sps M) k p.1 = false := by rw [hin]; simp [hk2]
          simp -dsimp -implicitDefEqProofs only [g13, c13r0, c13r1, c13r2, c13k3, c13r4, c13r5, c13r6, c13r7, c13k8, c13r9, c13r10, c13r11, c13k12, c13k13, c13r14, c13b15, c13k16, c13r17, c13r18, c13r19, c13r20, c13k21, c13r22, c13k23, c13r24, c13b25, c13k26, c13r27, c13r28, c13r29, c13r30, c13r31, c13k32, c13r33, c13r34, c13r35, c13k36, c13r37, c13b38, c13k39, c13r40, c13r41, c13k42, c13r43, c13r44, c13k45, c13r46, c13k47, c13r48, c13r49, c13k50, c13r51, c13b52, c13k53, c13k54, c13r55, c13b56, c13k57, c13r58, c13r59, c13k60, c13r61, c13r62, c13r63, c13k64, c13r65, c13r66, c13k67, c13k68, c13r69, c13b70, c13k71, c13r72, c13k73, c13r74, c13b75, c13k76, c13r77, c13, go_sem, seval, ↓reduceIte, hR, List.length_map, hc, s_iaddr_pv (pls_get hp), pl_part0, pl_part1, idx_sl h, hld1, hld2, hk1, hk2, w2]
          refine ⟨P, ⟨by rw [hv1, List.filter_append, hP]; simp [hin'], by omega⟩, ?_⟩
          rw [collect_id (by rfl)]
  · rintro P ⟨hP, hPl⟩
    have hc : ¬ (M.length : Int) < (M.length : Int) := by omega
    rw [List.take_length] at hP
    simp -dsimp -implicitDefEqProofs only [g13, c13r0, c13r1, c13r2, c13k3, c13r4, c13r5, c13r6, c13r7, c13k8, c13r9, c13r10, c13r11, c13k12, c13k13, c13r14, c13b15, c13k16, c13r17, c13r18, c13r19, c13r20, c13k21, c13r22, c13k23, c13r24, c13b25, c13k26, c13r27, c13r28, c13r29, c13r30, c13r31, c13k32, c13r33, c13r34, c13r35, c13k36, c13r37, c13b38, c13k39, c13r40, c13r41, c13k42, c13r43, c13r44, c13k45, c13r46, c13k47, c13r48, c13r49, c13k50, c13r51, c13b52, c13k53, c13k54, c13r55, c13b56, c13k57, c13r58, c13r59, c13k60, c13r61, c13r62, c13r63, c13k64, c13r65, c13r66, c13k67, c13k68, c13r69, c13b70, c13k71, c13r72, c13k73, c13r74, c13b75, c13k76, c13r77, c13, go_sem, seval, ↓reduceIte, hR, List.length_map, hc]
    exact hQ _ P hP
theorem permR_len {L : List (Int × Int)} (hm : Mono L) {n : Nat} (hn : ∀ p ∈ L, p.2 ≤ n) : (permR (sps L) n).length ≤ L.length := by
  rw [permR_perm hm hn]
  have := sps_len L
  have h2 : (permOf (sps L)).length ≤ (sps L).length := by
    unfold permOf
    rw [isort_length]
    exact Nat.le_trans (List.length_filter_le _ _) (by simp [vars])
  omega
theorem rof_loopD (f : Fl) (A : List PV) (M : List (Int × Int)) (hmono : Mono M) (hM : M.length < 100000000) (x9 x10 : AObj) (C : Nat) (hC : C < 100000000) (hle : ∀ p ∈ M, p.2 ≤ C) (r0 : Fr) (Q : AExit → St → Prop)
    (hQ : ∀ (r : Fr), Q .normal ⟨(1, .ptr 0 0) :: (2, .ptr 1 0) :: (4, .ptr 5 0) :: (7, .pv none (.sl (some 2) (M.map pl))) :: (11, .sl none 11 M.length 0 M.length) :: (12, .sl none 12 M.length 0 M.length) :: (13, .sl none 13 (permR (sps M) C).length 0 (permR (sps M) C).length) :: r, hR f A (ints (permR (sps M) C)) [] [x9, x10, .arr none (bools (oldsTo M M.length)) false, .arr none (ints (endsTo M M.length)) false, .arr none (ints ((permR (sps M) C).map (lastOf (sps M)))) false]⟩) :
    W Z L 0 c13k57 ⟨(1, .ptr 0 0) :: (2, .ptr 1 0) :: (4, .ptr 5 0) :: (7, .pv none (.sl (some 2) (M.map pl))) :: (11, .sl none 11 M.length 0 M.length) :: (12, .sl none 12 M.length 0 M.length) :: (13, .sl none 13 0 0 0) :: (15, .pv none (.int .i64 C)) :: r0, hR f A [] [] [x9, x10, .arr none (bools (oldsTo M M.length)) false, .arr none (ints (endsTo M M.length)) false, .arr none [] false]⟩ Q := by
  have hpl := permR_len hmono hle
  simp -dsimp -implicitDefEqProofs only [g13, c13r0, c13r1, c13r2, c13k3, c13r4, c13r5, c13r6, c13r7, c13k8, c13r9, c13r10, c13r11, c13k12, c13k13, c13r14, c13b15, c13k16, c13r17, c13r18, c13r19, c13r20, c13k21, c13r22, c13k23, c13r24, c13b25, c13k26, c13r27, c13r28, c13r29, c13r30, c13r31, c13k32, c13r33, c13r34, c13r35, c13k36, c13r37, c13b38, c13k39, c13r40, c13r41, c13k42, c13r43, c13r44, c13k45, c13r46, c13k47, c13r48, c13r49, c13k50, c13r51, c13b52, c13k54, c13r55, c13b56, c13k57, c13r58, c13r59, c13k60, c13r61, c13r62, c13r63, c13k64, c13r65, c13r66, c13k67, c13k68, c13r69, c13b70, c13k71, c13r72, c13k73, c13r74, c13b75, c13k76, c13r77, c13, go_sem, seval, ↓reduceIte]
  refine W_loop (fun n st => ∃ (k : Nat) (P : List Int), n = k ∧ k ≤ C ∧ permR (sps M) C = P ++ permR (sps M) k ∧ st = ⟨[(1, .ptr 0 0), (2, .ptr 1 0), (4, .ptr 5 0), (7, .pv none (.sl (some 2) (M.map pl))), (11, .sl none 11 M.length 0 M.length), (12, .sl none 12 M.length 0 M.length), (13, .sl none 13 P.length 0 P.length), (15, .pv none (.int .i64 k))], hR f A (ints P) [] [x9, x10, .arr none (bools (oldsTo M M.length)) false, .arr none (ints (endsTo M M.length)) false, .arr none (ints (P.map (lastOf (sps M)))) false]⟩) (n := C) ⟨C, [], rfl, Nat.le_refl _, rfl, rfl⟩ ?_
  rintro n st ⟨k, P, hn, hk, hP, rfl⟩
  have hPl : P.length ≤ M.length := by
    have := congrArg List.length hP
    rw [List.length_append] at this
    omega
  cases k with
  | zero =>
    have hc : ¬ (0 : Int) < ((0 : Nat) : Int) := by omega
    rw [permR, List.append_nil] at hP
    subst hP
    simp -dsimp -implicitDefEqProofs only [g13, c13r0, c13r1, c13r2, c13k3, c13r4, c13r5, c13r6, c13r7, c13k8, c13r9, c13r10, c13r11, c13k12, c13k13, c13r14, c13b15, c13k16, c13r17, c13r18, c13r19, c13r20, c13k21, c13r22, c13k23, c13r24, c13b25, c13k26, c13r27, c13r28, c13r29, c13r30, c13r31, c13k32, c13r33, c13r34, c13r35, c13k36, c13r37, c13b38, c13k39, c13r40, c13r41, c13k42, c13r43, c13r44, c13k45, c13r46, c13k47, c13r48, c13r49, c13k50, c13r51, c13b52, c13k54, c13r55, c13b56, c13k57, c13r58, c13r59, c13k60, c13r61, c13r62, c13r63, c13k64, c13r65, c13r66, c13k67, c13k68, c13r69, c13b70, c13k71, c13r72, c13k73, c13r74, c13b75, c13k76, c13r77, c13, go_sem, seval, ↓reduceIte, hc]
    exact hQ _
  | succ k =>
    have hc : (0 : Int) < ((k + 1 : Nat) : Int) := by omega
    have w4 : IntKind.i64.wrap (((k + 1 : Nat) : Int) - 1) = (k : Int) := by rw [wrap64 (by omega) (by omega)]; omega
    have hE := fun r0 Q => rof_loopE f A M hmono hM x9 x10 ((k + 1 : Nat) : Int) P hPl r0 Q
    simp -dsimp -implicitDefEqProofs only [g13, c13r0, c13r1, c13r2, c13k3, c13r4, c13r5, c13r6, c13r7, c13k8, c13r9, c13r10, c13r11, c13k12, c13k13, c13r14, c13b15, c13k16, c13r17, c13r18, c13r19, c13r20, c13k21, c13r22, c13k23, c13r24, c13b25, c13k26, c13r27, c13r28, c13r29, c13r30, c13r31, c13k32, c13r33, c13r34, c13r35, c13k36, c13r37, c13b38, c13k39, c13r40, c13r41, c13k42, c13r43, c13r44, c13k45, c13r46, c13k47, c13r48, c13r49, c13k50, c13r51, c13b52, c13k54, c13r55, c13b56, c13k57, c13r58, c13r59, c13k60, c13r61, c13r62, c13r63, c13k64, c13r65, c13r66, c13k67, c13k68, c13r69, c13b70, c13k71, c13r72, c13k73, c13r74, c13b75, c13k76, c13r77, c13, go_sem, seval, ↓reduceIte, hc]
    refine hE _ _ (fun r P' hP' => ?_)
    simp -dsimp -implicitDefEqProofs only [g13, c13r0, c13r1, c13r2, c13k3, c13r4, c13r5, c13r6, c13r7, c13k8, c13r9, c13r10, c13r11, c13k12, c13k13, c13r14, c13b15, c13k16, c13r17, c13r18, c13r19, c13r20, c13k21, c13r22, c13k23, c13r24, c13b25, c13k26, c13r27, c13r28, c13r29, c13r30, c13r31, c13k32, c13r33, c13r34, c13r35, c13k36, c13r37, c13b38, c13k39, c13r40, c13r41, c13k42, c13r43, c13r44, c13k45, c13r46, c13k47, c13r48, c13r49, c13k50, c13r51, c13b52, c13k54, c13r55, c13b56, c13k57, c13r58, c13r59, c13k60, c13r61, c13r62, c13r63, c13k64, c13r65, c13r66, c13k67, c13k68, c13r69, c13b70, c13k71, c13r72, c13k73, c13r74, c13b75, c13k76, c13r77, c13, go_sem, seval, ↓reduceIte, w4]
    refine ⟨k, by omega, k, P', rfl, by omega, ?_, ?_⟩
    · rw [hP, hP', permR, List.append_assoc]
    · rw [collect_id (by rfl)]
end Go.Proofs.Ytmajapjbogmefaa
