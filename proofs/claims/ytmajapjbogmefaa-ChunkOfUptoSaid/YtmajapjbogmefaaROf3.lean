/- What is proved: what the reference's Of gives. -/
import Derived.Test.YtmajapjbogmefaaROf2
import Derived.Test.YtmajapjbogmefaaLLive
set_option linter.unusedSimpArgs false
set_option linter.unusedVariables false
namespace Go.Proofs.Ytmajapjbogmefaa
open Go.Am
theorem countP_take {q : Int → Bool} {l : List Int} {i : Nat} {x : Int} (h : l[i]? = some x) : (l.take (i + 1)).countP q = (l.take i).countP q + (if q x = true then 1 else 0) := by
  obtain ⟨h1, rfl⟩ := List.getElem?_eq_some_iff.1 h
  rw [List.take_succ_eq_append_getElem h1]
  simp only [List.countP_append, List.countP_cons, List.countP_nil, Nat.zero_add]
theorem rof_loopG (f : Fl) (A P : List Int) (B : List PV) (l : List Sp) (hlen : P.length < 100000000) (x9 x10 x11 x12 : AObj) (i : Nat) (c : Int) (g : Gl) (hg : f.goals[i]? = some g) (hA : A[i]? = some c) (r0 : Fr) (Q : AExit → St → Prop)
    (hQ : ∀ r : Fr, Q .normal ⟨(1, .ptr 0 0) :: (2, .ptr 1 0) :: (4, .ptr 5 0) :: (13, .sl none 13 P.length 0 P.length) :: (17, .pv none (.int .i64 i)) :: (18, .pv none (.int .i64 (if g.kind = 1 then (P.countP (fun v => decide (c < lastOf l v)) : Int) else 0))) :: r, hR f (ints A) (ints P) B [x9, x10, x11, x12, .arr none (ints (P.map (lastOf l))) false]⟩) :
    W Z L 0 c13k71 ⟨(1, .ptr 0 0) :: (2, .ptr 1 0) :: (4, .ptr 5 0) :: (13, .sl none 13 P.length 0 P.length) :: (17, .pv none (.int .i64 i)) :: (18, .pv none (.int .i64 0)) :: (19, .pv none (.int .i64 0)) :: r0, hR f (ints A) (ints P) B [x9, x10, x11, x12, .arr none (ints (P.map (lastOf l))) false]⟩ Q := by
  have hPi := ints_len P
  have hAi := ints_len A
  have hiA := (List.getElem?_eq_some_iff.1 hA).1
  simp -dsimp -implicitDefEqProofs only [g13, c13r0, c13r1, c13r2, c13k3, c13r4, c13r5, c13r6, c13r7, c13k8, c13r9, c13r10, c13r11, c13k12, c13k13, c13r14, c13b15, c13k16, c13r17, c13r18, c13r19, c13r20, c13k21, c13r22, c13k23, c13r24, c13b25, c13k26, c13r27, c13r28, c13r29, c13r30, c13r31, c13k32, c13r33, c13r34, c13r35, c13k36, c13r37, c13b38, c13k39, c13r40, c13r41, c13k42, c13r43, c13r44, c13k45, c13r46, c13k47, c13r48, c13r49, c13k50, c13r51, c13b52, c13k53, c13k54, c13r55, c13b56, c13k57, c13r58, c13r59, c13k60, c13r61, c13r62, c13r63, c13k64, c13r65, c13r66, c13k67, c13k68, c13r69, c13b70, c13k71, c13r72, c13k73, c13r74, c13b75, c13k76, c13r77, c13, go_sem, seval, ↓reduceIte]
  refine W_for (α := Unit) P.length (fun k _ => True)
    (fun k _ => ⟨[(1, .ptr 0 0), (2, .ptr 1 0), (4, .ptr 5 0), (13, .sl none 13 P.length 0 P.length), (17, .pv none (.int .i64 i)), (18, .pv none (.int .i64 (if g.kind = 1 then ((P.take k).countP (fun v => decide (c < lastOf l v)) : Int) else 0))), (19, .pv none (.int .i64 k))], hR f (ints A) (ints P) B [x9, x10, x11, x12, .arr none (ints (P.map (lastOf l))) false]⟩) () ⟨trivial, by simp; rfl⟩ ?_ ?_
  · rintro k _ h _
    have hc : (k : Int) < (P.length : Int) := by omega
    obtain ⟨v, hv⟩ : ∃ v, P[k]? = some v := ⟨_, List.getElem?_eq_getElem h⟩
    have w2 : IntKind.i64.wrap ((k : Int) + 1) = ((k + 1 : Nat) : Int) := by rw [wrap64 (by omega) (by omega)]; omega
    have hle : (P.take k).countP (fun v => decide (c < lastOf l v)) ≤ P.length := Nat.le_trans List.countP_le_length (by simp; omega)
    have w3 : IntKind.i64.wrap (((P.take k).countP (fun v => decide (c < lastOf l v)) : Int) + 1) = (((P.take k).countP (fun v => decide (c < lastOf l v)) + 1 : Nat) : Int) := by rw [wrap64 (by omega) (by omega)]; omega
    have hct := countP_take (q := fun v => decide (c < lastOf l v)) hv
    have hu : (ints (P.map (lastOf l)))[k]? = some (.int .i64 (lastOf l v)) := ints_get (by simp [hv])
    have hUl : (ints (P.map (lastOf l))).length = P.length := by simp [ints]
    have hld : ∀ (a0 a1 a2 a3 a4 a5 a6 a7 a8 a9 a10 a11 a12 : AObj), aload none [a0, a1, a2, a3, a4, a5, a6, a7, a8, a9, a10, a11, a12, .arr none (ints (P.map (lastOf l))) false] (.eptr none 13 P.length k 0) = some (.pv none (.int .i64 (lastOf l v))) := fun a0 a1 a2 a3 a4 a5 a6 a7 a8 a9 a10 a11 a12 => by simp [aload, hUl, hu]
    have hld2 : ∀ (a0 a1 a2 a3 a4 a5 : AObj) (e : Heap), aload none (a0 :: a1 :: a2 :: a3 :: a4 :: a5 :: .arr none (ints A) false :: e) (.eptr none 6 (ints A).length i 0) = some (.pv none (.int .i64 c)) := fun a0 a1 a2 a3 a4 a5 e => by simp [aload, ints_get hA]
    have hx6 : sIaddr none [.sl none 6 (ints A).length 0 (ints A).length, .pv none (.int .i64 i)] = some (.eptr none 6 (ints A).length i 0) := idx_sl (by omega)
    have hx13 : sIaddr none [.sl none 13 P.length 0 P.length, .pv none (.int .i64 k)] = some (.eptr none 13 P.length k 0) := idx_sl h
    by_cases hk : g.kind = 1
    · by_cases hlt : c < lastOf l v
      · simp only [decide_eq_true hlt, if_true] at hct
        simp -dsimp -implicitDefEqProofs only [g13, c13r0, c13r1, c13r2, c13k3, c13r4, c13r5, c13r6, c13r7, c13k8, c13r9, c13r10, c13r11, c13k12, c13k13, c13r14, c13b15, c13k16, c13r17, c13r18, c13r19, c13r20, c13k21, c13r22, c13k23, c13r24, c13b25, c13k26, c13r27, c13r28, c13r29, c13r30, c13r31, c13k32, c13r33, c13r34, c13r35, c13k36, c13r37, c13b38, c13k39, c13r40, c13r41, c13k42, c13r43, c13r44, c13k45, c13r46, c13k47, c13r48, c13r49, c13k50, c13r51, c13b52, c13k53, c13k54, c13r55, c13b56, c13k57, c13r58, c13r59, c13k60, c13r61, c13r62, c13r63, c13k64, c13r65, c13r66, c13k67, c13k68, c13r69, c13b70, c13k71, c13r72, c13k73, c13r74, c13b75, c13k76, c13r77, c13, go_sem, seval, ↓reduceIte, hR, hPi, hc, s_iaddr_pv (Gl.pvs_get hg), fl_goals, gl_kind, hk, hx13, hx6, hld, hld2, hlt, w2, w3]
        refine ⟨(), ?_⟩
        rw [collect_id (by rfl), hct]
      · simp only [decide_eq_false hlt, Bool.false_eq_true, if_false, Nat.add_zero] at hct
        simp -dsimp -implicitDefEqProofs only [g13, c13r0, c13r1, c13r2, c13k3, c13r4, c13r5, c13r6, c13r7, c13k8, c13r9, c13r10, c13r11, c13k12, c13k13, c13r14, c13b15, c13k16, c13r17, c13r18, c13r19, c13r20, c13k21, c13r22, c13k23, c13r24, c13b25, c13k26, c13r27, c13r28, c13r29, c13r30, c13r31, c13k32, c13r33, c13r34, c13r35, c13k36, c13r37, c13b38, c13k39, c13r40, c13r41, c13k42, c13r43, c13r44, c13k45, c13r46, c13k47, c13r48, c13r49, c13k50, c13r51, c13b52, c13k53, c13k54, c13r55, c13b56, c13k57, c13r58, c13r59, c13k60, c13r61, c13r62, c13r63, c13k64, c13r65, c13r66, c13k67, c13k68, c13r69, c13b70, c13k71, c13r72, c13k73, c13r74, c13b75, c13k76, c13r77, c13, go_sem, seval, ↓reduceIte, hR, hPi, hc, s_iaddr_pv (Gl.pvs_get hg), fl_goals, gl_kind, hk, hx13, hx6, hld, hld2, hlt, w2, w3]
        refine ⟨(), ?_⟩
        rw [collect_id (by rfl), hct]
    · simp -dsimp -implicitDefEqProofs only [g13, c13r0, c13r1, c13r2, c13k3, c13r4, c13r5, c13r6, c13r7, c13k8, c13r9, c13r10, c13r11, c13k12, c13k13, c13r14, c13b15, c13k16, c13r17, c13r18, c13r19, c13r20, c13k21, c13r22, c13k23, c13r24, c13b25, c13k26, c13r27, c13r28, c13r29, c13r30, c13r31, c13k32, c13r33, c13r34, c13r35, c13k36, c13r37, c13b38, c13k39, c13r40, c13r41, c13k42, c13r43, c13r44, c13k45, c13r46, c13k47, c13r48, c13r49, c13k50, c13r51, c13b52, c13k53, c13k54, c13r55, c13b56, c13k57, c13r58, c13r59, c13k60, c13r61, c13r62, c13r63, c13k64, c13r65, c13r66, c13k67, c13k68, c13r69, c13b70, c13k71, c13r72, c13k73, c13r74, c13b75, c13k76, c13r77, c13, go_sem, seval, ↓reduceIte, hR, hPi, hc, s_iaddr_pv (Gl.pvs_get hg), fl_goals, gl_kind, hk, hx13, hx6, hld, hld2, w2, w3]
      refine ⟨(), ?_⟩
      rw [collect_id (by rfl)]
  · rintro _ _
    have hc : ¬ (P.length : Int) < (P.length : Int) := by omega
    simp -dsimp -implicitDefEqProofs only [g13, c13r0, c13r1, c13r2, c13k3, c13r4, c13r5, c13r6, c13r7, c13k8, c13r9, c13r10, c13r11, c13k12, c13k13, c13r14, c13b15, c13k16, c13r17, c13r18, c13r19, c13r20, c13k21, c13r22, c13k23, c13r24, c13b25, c13k26, c13r27, c13r28, c13r29, c13r30, c13r31, c13k32, c13r33, c13r34, c13r35, c13k36, c13r37, c13b38, c13k39, c13r40, c13r41, c13k42, c13r43, c13r44, c13k45, c13r46, c13k47, c13r48, c13r49, c13k50, c13r51, c13b52, c13k53, c13k54, c13r55, c13b56, c13k57, c13r58, c13r59, c13k60, c13r61, c13r62, c13r63, c13k64, c13r65, c13r66, c13k67, c13k68, c13r69, c13b70, c13k71, c13r72, c13k73, c13r74, c13b75, c13k76, c13r77, c13, go_sem, seval, ↓reduceIte, hR, hPi, hc]
    rw [List.take_length]
    have := hQ
    simp only [hR, hPi] at this
    exact this _
theorem rof_loopF (f : Fl) (P : List Int) (l : List Sp) (hlen : P.length < 100000000) (hgl : f.goals.length < 100000000) (hsrt : P.Pairwise (fun a b => lastOf l b ≤ lastOf l a)) (x9 x10 x11 x12 : AObj) (r0 : Fr) (Q : AExit → St → Prop)
    (hQ : ∀ r : Fr, Q .normal ⟨(1, .ptr 0 0) :: (2, .ptr 1 0) :: (4, .ptr 5 0) :: r, hR f (ints (ofsOf 0 f.goals)) (ints P) (ints (livesOf l P 0 f.goals)) [x9, x10, x11, x12, .arr none (ints (P.map (lastOf l))) false]⟩) :
    W Z L 0 c13k76 ⟨(1, .ptr 0 0) :: (2, .ptr 1 0) :: (4, .ptr 5 0) :: (13, .sl none 13 P.length 0 P.length) :: (17, .pv none (.int .i64 0)) :: r0, hR f (ints (ofsOf 0 f.goals)) (ints P) [] [x9, x10, x11, x12, .arr none (ints (P.map (lastOf l))) false]⟩ Q := by
  simp -dsimp -implicitDefEqProofs only [g13, c13r0, c13r1, c13r2, c13k3, c13r4, c13r5, c13r6, c13r7, c13k8, c13r9, c13r10, c13r11, c13k12, c13k13, c13r14, c13b15, c13k16, c13r17, c13r18, c13r19, c13r20, c13k21, c13r22, c13k23, c13r24, c13b25, c13k26, c13r27, c13r28, c13r29, c13r30, c13r31, c13k32, c13r33, c13r34, c13r35, c13k36, c13r37, c13b38, c13k39, c13r40, c13r41, c13k42, c13r43, c13r44, c13k45, c13r46, c13k47, c13r48, c13r49, c13k50, c13r51, c13b52, c13k53, c13k54, c13r55, c13b56, c13k57, c13r58, c13r59, c13k60, c13r61, c13r62, c13r63, c13k64, c13r65, c13r66, c13k67, c13k68, c13r69, c13b70, c13r72, c13k73, c13r74, c13b75, c13k76, c13r77, c13, go_sem, seval, ↓reduceIte]
  refine W_for (α := Int × List Int) f.goals.length (fun i a => (ofsOf 0 f.goals).drop i = ofsOf a.1 (f.goals.drop i) ∧ livesOf l P 0 f.goals = a.2 ++ livesOf l P a.1 (f.goals.drop i) ∧ a.2.length = i)
    (fun i a => ⟨[(1, .ptr 0 0), (2, .ptr 1 0), (4, .ptr 5 0), (13, .sl none 13 P.length 0 P.length), (17, .pv none (.int .i64 i))], hR f (ints (ofsOf 0 f.goals)) (ints P) (ints a.2) [x9, x10, x11, x12, .arr none (ints (P.map (lastOf l))) false]⟩) (0, []) ⟨⟨rfl, rfl, rfl⟩, rfl⟩ ?_ ?_
  · rintro i ⟨c, B⟩ h ⟨hO, hV, hBl⟩
    dsimp only at hO hV hBl
    have hc : (i : Int) < (f.goals.length : Int) := by omega
    obtain ⟨g, hg⟩ : ∃ g, f.goals[i]? = some g := ⟨_, List.getElem?_eq_getElem h⟩
    have w2 : IntKind.i64.wrap ((i : Int) + 1) = ((i + 1 : Nat) : Int) := by rw [wrap64 (by omega) (by omega)]; omega
    rw [ofsOf_drop hg] at hO
    rw [livesOf_drop hg] at hV
    have hoi : (ofsOf 0 f.goals)[i]? = some c := by
      have := congrArg List.head? hO
      rwa [List.head?_drop, List.head?_cons] at this
    have hO2 : (ofsOf 0 f.goals).drop (i + 1) = ofsOf (g.next c) (f.goals.drop (i + 1)) := by
      rw [← List.drop_drop, hO]; rfl
    have hla : liveAt l P c g = (if g.kind = 1 then (P.countP (fun v => decide (c < lastOf l v)) : Int) else 0) := by
      unfold liveAt twl
      rw [tw_count hsrt]
    have hG := fun r0 Q => rof_loopG f (ofsOf 0 f.goals) P (ints B) l hlen x9 x10 x11 x12 i c g hg hoi r0 Q
    rw [← hla] at hG
    generalize ofsOf 0 f.goals = A at *
    have hBi := ints_len B
    have hap : ∀ (a0 a1 a2 a3 a4 a5 a6 a7 : AObj) (e : Heap), wAppend none (a0 :: a1 :: a2 :: a3 :: a4 :: a5 :: a6 :: a7 :: .arr none (ints B) false :: e) [.sl none 8 (ints B).length 0 (ints B).length, .tsl none [.int .i64 (liveAt l P c g)]] = some (.sl none 8 ((ints B).length + 1) 0 ((ints B).length + 1), a0 :: a1 :: a2 :: a3 :: a4 :: a5 :: a6 :: a7 :: .arr none (ints B ++ [.int .i64 (liveAt l P c g)]) false :: e) := fun a0 a1 a2 a3 a4 a5 a6 a7 e =>
      w_append_tsl (show okArr none (ints B).length (some (.arr none (ints B) false)) from ⟨rfl, rfl⟩) (by simp [lim]; omega)
    have hst : ∀ (n m q b : Nat) (a0 a1 a2 a3 a4 : AObj) (e : Heap), wStore none 0 (a0 :: a1 :: a2 :: a3 :: a4 :: .box (some 3) (.agg [(none, .sl none 6 n 0 n), (none, .sl none 7 q 0 q), (none, .sl none 8 b 0 b)]) :: e) [.ptr 5 2, .sl none 8 m 0 m] = some (.undef, a0 :: a1 :: a2 :: a3 :: a4 :: .box (some 3) (.agg [(none, .sl none 6 n 0 n), (none, .sl none 7 q 0 q), (none, .sl none 8 m 0 m)]) :: e) := fun n m q b a0 a1 a2 a3 a4 e => rfl
    simp -dsimp -implicitDefEqProofs only [g13, c13r0, c13r1, c13r2, c13k3, c13r4, c13r5, c13r6, c13r7, c13k8, c13r9, c13r10, c13r11, c13k12, c13k13, c13r14, c13b15, c13k16, c13r17, c13r18, c13r19, c13r20, c13k21, c13r22, c13k23, c13r24, c13b25, c13k26, c13r27, c13r28, c13r29, c13r30, c13r31, c13k32, c13r33, c13r34, c13r35, c13k36, c13r37, c13b38, c13k39, c13r40, c13r41, c13k42, c13r43, c13r44, c13k45, c13r46, c13k47, c13r48, c13r49, c13k50, c13r51, c13b52, c13k53, c13k54, c13r55, c13b56, c13k57, c13r58, c13r59, c13k60, c13r61, c13r62, c13r63, c13k64, c13r65, c13r66, c13k67, c13k68, c13r69, c13b70, c13r72, c13k73, c13r74, c13b75, c13k76, c13r77, c13, go_sem, seval, ↓reduceIte, hR, fl_goals, Gl.pvs_len, hc]
    refine hG _ _ (fun r => ?_)
    have e1 : ints B ++ [.int .i64 (liveAt l P c g)] = ints (B ++ [liveAt l P c g]) := by simp [ints]
    have e2 : (ints B).length + 1 = (ints (B ++ [liveAt l P c g])).length := by simp [ints]
    simp -dsimp -implicitDefEqProofs only [g13, c13r0, c13r1, c13r2, c13k3, c13r4, c13r5, c13r6, c13r7, c13k8, c13r9, c13r10, c13r11, c13k12, c13k13, c13r14, c13b15, c13k16, c13r17, c13r18, c13r19, c13r20, c13k21, c13r22, c13k23, c13r24, c13b25, c13k26, c13r27, c13r28, c13r29, c13r30, c13r31, c13k32, c13r33, c13r34, c13r35, c13k36, c13r37, c13b38, c13k39, c13r40, c13r41, c13k42, c13r43, c13r44, c13k45, c13r46, c13k47, c13r48, c13r49, c13k50, c13r51, c13b52, c13k53, c13k54, c13r55, c13b56, c13k57, c13r58, c13r59, c13k60, c13r61, c13r62, c13r63, c13k64, c13r65, c13r66, c13k67, c13k68, c13r69, c13b70, c13r72, c13k73, c13r74, c13b75, c13k76, c13r77, c13, go_sem, seval, ↓reduceIte, hR, hap, hst, w2]
    refine ⟨(g.next c, B ++ [liveAt l P c g]), ⟨hO2, by rw [hV]; simp, by simp [hBl]⟩, ?_⟩
    rw [collect_id (by rfl), e1, e2]
  · rintro ⟨c, B⟩ ⟨hO, hV, hBl⟩
    have hc : ¬ (f.goals.length : Int) < (f.goals.length : Int) := by omega
    dsimp only at hV
    rw [List.drop_length, livesOf, List.append_nil] at hV
    simp -dsimp -implicitDefEqProofs only [g13, c13r0, c13r1, c13r2, c13k3, c13r4, c13r5, c13r6, c13r7, c13k8, c13r9, c13r10, c13r11, c13k12, c13k13, c13r14, c13b15, c13k16, c13r17, c13r18, c13r19, c13r20, c13k21, c13r22, c13k23, c13r24, c13b25, c13k26, c13r27, c13r28, c13r29, c13r30, c13r31, c13k32, c13r33, c13r34, c13r35, c13k36, c13r37, c13b38, c13k39, c13r40, c13r41, c13k42, c13r43, c13r44, c13k45, c13r46, c13k47, c13r48, c13r49, c13k50, c13r51, c13b52, c13k53, c13k54, c13r55, c13b56, c13k57, c13r58, c13r59, c13k60, c13r61, c13r62, c13r63, c13k64, c13r65, c13r66, c13k67, c13k68, c13r69, c13b70, c13r72, c13k73, c13r74, c13b75, c13k76, c13r77, c13, go_sem, seval, ↓reduceIte, hR, fl_goals, Gl.pvs_len, hc]
    have := hQ
    rw [hV] at this
    simp only [hR] at this
    exact this _
theorem rof_ok (x : Fl) (hp : Heap) (ha : Tm.sizes x.args < 10000000) (hs : ∀ g ∈ x.goals, Tm.sizes g.args < 10000000) (hlen : x.goals.length < 10000000) (hlim : (placesP x).length < 10000000) :
    S 13 [x.av] hp = some (.ret (.tuple [.pv (some 3) (ofPV x), .pv none (.int .i64 (if x.valid = true then 0 else 1))]), hp) := by
  refine sem_pure rfl rfl rfl (freezeAll_pvs [(some 5, x.pv)]) rfl ?_
  have hv := fun hp => rflatValid_ok x hp (by omega) (fun g hg => by have := hs g hg; omega) (by omega)
  have hpl := fun hp => places_ok x hp (by omega) (by rw [← placesP_eq, List.length_map]; omega) (by omega) (fun g hg => by have := hs g hg; omega)
  rw [← placesP_eq] at hpl
  simp only [Fl.av] at hv hpl
  unfold ofPV
  have hb0 : sBuild [(none, .tsl none []), (none, .tsl none []), (none, .tsl none [])] [] [] = some (.agg [(none, .tsl none []), (none, .tsl none []), (none, .tsl none [])]) := rfl
  have hst0 : ∀ a0 a1 a2 a3 : AObj, wStore (some 3) 0 [a0, .box (some 3) (.agg [(none, .sl none 2 0 0 0), (none, .sl none 3 0 0 0), (none, .sl none 4 0 0 0)]), a1, a2, a3] [.ptr 1 0, .agg [(none, .tsl none []), (none, .tsl none []), (none, .tsl none [])]] = some (.undef, [a0, .box (some 3) (.agg [(none, .sl none 5 0 0 0), (none, .sl none 6 0 0 0), (none, .sl none 7 0 0 0)]), a1, a2, a3, .arr none [] false, .arr none [] false, .arr none [] false]) := fun _ _ _ _ => rfl
  cases hval : x.valid with
  | false =>
    rw [hval] at hv
    simp -dsimp -implicitDefEqProofs only [g13, c13r0, c13r1, c13r2, c13k3, c13r4, c13r5, c13r6, c13r7, c13k8, c13r9, c13r10, c13r11, c13k12, c13k13, c13r14, c13b15, c13k16, c13r17, c13r18, c13r19, c13r20, c13k21, c13r22, c13k23, c13r24, c13b25, c13k26, c13r27, c13r28, c13r29, c13r30, c13r31, c13k32, c13r33, c13r34, c13r35, c13k36, c13r37, c13b38, c13k39, c13r40, c13r41, c13k42, c13r43, c13r44, c13k45, c13r46, c13k47, c13r48, c13r49, c13k50, c13r51, c13b52, c13k53, c13k54, c13r55, c13b56, c13k57, c13r58, c13r59, c13k60, c13r61, c13r62, c13r63, c13k64, c13r65, c13r66, c13k67, c13k68, c13r69, c13b70, c13k71, c13r72, c13k73, c13r74, c13b75, c13k76, c13r77, c13, go_sem, seval, ↓reduceIte, hv, hb0, hst0, resultAt_c]
    rfl
  | true =>
    rw [hval] at hv
    obtain ⟨hc1, hc2, _⟩ := callsN_ge x.goals 0
    have hcle := places_le x
    have hmono := places_mono x
    obtain ⟨C, hC⟩ : ∃ C : Nat, callsN 0 x.goals = (C : Int) := ⟨(callsN 0 x.goals).toNat, by omega⟩
    rw [hC] at hcle hc2
    have hpp := permR_perm hmono hcle
    have hA := rof_loopA x (by omega)
    have hB := fun A C r0 Q => rof_loopB x A (placesP x) (by omega) C r0 Q
    have hCl := fun A m hm C r0 Q => rof_loopC x A (placesP x) (by omega) m hm C r0 Q
    have hD := fun A x9 x10 r0 Q => rof_loopD x A (placesP x) hmono (by omega) x9 x10 C (by omega) hcle r0 Q
    have hF := fun x9 x10 x11 x12 r0 Q => rof_loopF x (permOf (sps (placesP x))) (sps (placesP x)) (by have := perm_len x; omega) (by omega) (perm_sorted _) x9 x10 x11 x12 r0 Q
    rw [hC] at hA
    rw [hpp] at hD
    have hnil : ∀ H : Heap, wNilsl none H = some (.sl none H.length 0 0 0, H ++ [.arr none [] false]) := fun _ => rfl
    have g0 : ∀ A P B e, (hR x A P B e)[0]? = some (.box (some 5) (.pv (some 5) x.pv)) := fun _ _ _ _ => rfl
    have g5 : ∀ A P B e, (hR x A P B e)[5]? = some (.box (some 3) (.agg [(none, .sl none 6 A.length 0 A.length), (none, .sl none 7 P.length 0 P.length), (none, .sl none 8 B.length 0 B.length)])) := fun _ _ _ _ => rfl
    have gl : ∀ A P B (e : Heap), List.length (hR x A P B e) = e.length + 9 := fun A P B e => by simp [hR]
    have ga : ∀ A P B (e : Heap) (y : AObj), hR x A P B e ++ [y] = hR x A P B (e ++ [y]) := fun A P B e y => by simp [hR]
    simp -dsimp -implicitDefEqProofs only [g13, c13r0, c13r1, c13r2, c13k3, c13r4, c13r5, c13r6, c13r7, c13k8, c13r9, c13r10, c13r11, c13k12, c13k13, c13r14, c13b15, c13r17, c13r18, c13r19, c13r20, c13k21, c13r22, c13k23, c13r24, c13b25, c13r27, c13r28, c13r29, c13r30, c13r31, c13k32, c13r33, c13r34, c13r35, c13k36, c13r37, c13b38, c13r40, c13r41, c13k42, c13r43, c13r44, c13k45, c13r46, c13k47, c13r48, c13r49, c13k50, c13r51, c13b52, c13k53, c13k54, c13r55, c13b56, c13r58, c13r59, c13k60, c13r61, c13r62, c13r63, c13k64, c13r65, c13r66, c13k67, c13k68, c13r69, c13b70, c13k71, c13r72, c13k73, c13r74, c13b75, c13r77, c13, go_sem, seval, ↓reduceIte, hv]
    refine hA _ _ (fun r => ?_)
    simp -dsimp -implicitDefEqProofs only [g13, c13r0, c13r1, c13r2, c13k3, c13r4, c13r5, c13r6, c13r7, c13k8, c13r9, c13r10, c13r11, c13k12, c13k13, c13r14, c13b15, c13r17, c13r18, c13r19, c13r20, c13k21, c13r22, c13k23, c13r24, c13b25, c13r27, c13r28, c13r29, c13r30, c13r31, c13k32, c13r33, c13r34, c13r35, c13k36, c13r37, c13b38, c13r40, c13r41, c13k42, c13r43, c13r44, c13k45, c13r46, c13k47, c13r48, c13r49, c13k50, c13r51, c13b52, c13k53, c13k54, c13r55, c13b56, c13r58, c13r59, c13k60, c13r61, c13r62, c13r63, c13k64, c13r65, c13r66, c13k67, c13k68, c13r69, c13b70, c13k71, c13r72, c13k73, c13r74, c13b75, c13r77, c13, go_sem, seval, ↓reduceIte, g0, hpl, gl, ga]
    refine hB _ _ _ _ (fun r m hm => ?_)
    simp -dsimp -implicitDefEqProofs only [g13, c13r0, c13r1, c13r2, c13k3, c13r4, c13r5, c13r6, c13r7, c13k8, c13r9, c13r10, c13r11, c13k12, c13k13, c13r14, c13b15, c13r17, c13r18, c13r19, c13r20, c13k21, c13r22, c13k23, c13r24, c13b25, c13r27, c13r28, c13r29, c13r30, c13r31, c13k32, c13r33, c13r34, c13r35, c13k36, c13r37, c13b38, c13r40, c13r41, c13k42, c13r43, c13r44, c13k45, c13r46, c13k47, c13r48, c13r49, c13k50, c13r51, c13b52, c13k53, c13k54, c13r55, c13b56, c13r58, c13r59, c13k60, c13r61, c13r62, c13r63, c13k64, c13r65, c13r66, c13k67, c13k68, c13r69, c13b70, c13k71, c13r72, c13k73, c13r74, c13b75, c13r77, c13, go_sem, seval, ↓reduceIte, gl, ga, hnil]
    refine hCl _ m hm _ _ _ (fun r x10 _ => ?_)
    simp -dsimp -implicitDefEqProofs only [g13, c13r0, c13r1, c13r2, c13k3, c13r4, c13r5, c13r6, c13r7, c13k8, c13r9, c13r10, c13r11, c13k12, c13k13, c13r14, c13b15, c13r17, c13r18, c13r19, c13r20, c13k21, c13r22, c13k23, c13r24, c13b25, c13r27, c13r28, c13r29, c13r30, c13r31, c13k32, c13r33, c13r34, c13r35, c13k36, c13r37, c13b38, c13r40, c13r41, c13k42, c13r43, c13r44, c13k45, c13r46, c13k47, c13r48, c13r49, c13k50, c13r51, c13b52, c13k53, c13k54, c13r55, c13b56, c13r58, c13r59, c13k60, c13r61, c13r62, c13r63, c13k64, c13r65, c13r66, c13k67, c13k68, c13r69, c13b70, c13k71, c13r72, c13k73, c13r74, c13b75, c13r77, c13, go_sem, seval, ↓reduceIte]
    refine hD _ _ _ _ _ (fun r => ?_)
    simp -dsimp -implicitDefEqProofs only [g13, c13r0, c13r1, c13r2, c13k3, c13r4, c13r5, c13r6, c13r7, c13k8, c13r9, c13r10, c13r11, c13k12, c13k13, c13r14, c13b15, c13r17, c13r18, c13r19, c13r20, c13k21, c13r22, c13k23, c13r24, c13b25, c13r27, c13r28, c13r29, c13r30, c13r31, c13k32, c13r33, c13r34, c13r35, c13k36, c13r37, c13b38, c13r40, c13r41, c13k42, c13r43, c13r44, c13k45, c13r46, c13k47, c13r48, c13r49, c13k50, c13r51, c13b52, c13k53, c13k54, c13r55, c13b56, c13r58, c13r59, c13k60, c13r61, c13r62, c13r63, c13k64, c13r65, c13r66, c13k67, c13k68, c13r69, c13b70, c13k71, c13r72, c13k73, c13r74, c13b75, c13r77, c13, go_sem, seval, ↓reduceIte]
    refine hF _ _ _ _ _ _ (fun r => ?_)
    have hst1 : ∀ A P B e, wStore (some 3) 0 (hR x A P B e) [.ptr 1 0, .agg [(none, .sl none 6 A.length 0 A.length), (none, .sl none 7 P.length 0 P.length), (none, .sl none 8 B.length 0 B.length)]] = some (.undef, (hR x A P B e).set 1 (.box (some 3) (.agg [(none, .sl none 6 A.length 0 A.length), (none, .sl none 7 P.length 0 P.length), (none, .sl none 8 B.length 0 B.length)]))) := fun _ _ _ _ => rfl
    have g1 : ∀ A P B e (y : AObj), ((hR x A P B e).set 1 y)[1]? = some y := fun _ _ _ _ _ => rfl
    have hfz : ∀ (A P B : List PV) (e : Heap) (y : AObj) (v : AV), Go.Am.frozen v (.tuple [.agg [(none, .sl none 6 A.length 0 A.length), (none, .sl none 7 P.length 0 P.length), (none, .sl none 8 B.length 0 B.length)], .pv none (.int .i64 0)]) ((hR x A P B e).set 1 y) = (.tuple [.pv (some 3) (.agg [(none, .sl none A), (none, .sl none P), (none, .sl none B)]), .pv none (.int .i64 0)] = v) := fun A P B e y v => by
      rw [frozen_tuple]
      have : ∃ h, freezeAll [.agg [(none, .sl none 6 A.length 0 A.length), (none, .sl none 7 P.length 0 P.length), (none, .sl none 8 B.length 0 B.length)], .pv none (.int .i64 0)] ((hR x A P B e).set 1 y) = some ([(some 3, .agg [(none, .sl none A), (none, .sl none P), (none, .sl none B)]), (none, .int .i64 0)], h) := by
        simp [freezeAll, deep, AV.freeze, AV.freeze.go, hR, AV.shp, total, Sh.size]
      obtain ⟨h, this⟩ := this
      rw [this]
      rfl
    simp -dsimp -implicitDefEqProofs only [g13, c13r0, c13r1, c13r2, c13k3, c13r4, c13r5, c13r6, c13r7, c13k8, c13r9, c13r10, c13r11, c13k12, c13k13, c13r14, c13b15, c13r17, c13r18, c13r19, c13r20, c13k21, c13r22, c13k23, c13r24, c13b25, c13r27, c13r28, c13r29, c13r30, c13r31, c13k32, c13r33, c13r34, c13r35, c13k36, c13r37, c13b38, c13r40, c13r41, c13k42, c13r43, c13r44, c13k45, c13r46, c13k47, c13r48, c13r49, c13k50, c13r51, c13b52, c13k53, c13k54, c13r55, c13b56, c13r58, c13r59, c13k60, c13r61, c13r62, c13r63, c13k64, c13r65, c13r66, c13k67, c13k68, c13r69, c13b70, c13k71, c13r72, c13k73, c13r74, c13b75, c13r77, c13, go_sem, seval, ↓reduceIte, g5, hst1, resultAt_c, g1, hfz, chPV]
end Go.Proofs.Ytmajapjbogmefaa
