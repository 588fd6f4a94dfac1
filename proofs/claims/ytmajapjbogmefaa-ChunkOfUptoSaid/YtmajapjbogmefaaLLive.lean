/- What is proved: ChunkLive answers true for every flat clause, where what it reads is of bulk at most 1048576. -/
import Derived.Test.YtmajapjbogmefaaLPerms
set_option linter.unusedSimpArgs false
set_option linter.unusedVariables false
namespace Go.Proofs.Ytmajapjbogmefaa
open Go.Am Go.ChangeShapes Go.WideShapes Go.ChangeAt Go.RowKit
theorem tw_iff {f : Int → Int} {c : Int} : ∀ {P : List Int}, P.Pairwise (fun a b => f b ≤ f a) → ∀ {k : Nat} {v : Int}, P[k]? = some v → (k < (P.takeWhile (fun v => decide (c < f v))).length ↔ c < f v)
  | [], _, k, v, h => by simp at h
  | x :: r, hs, k, v, h => by
    obtain ⟨h1, h2⟩ := List.pairwise_cons.1 hs
    rw [List.takeWhile_cons]
    by_cases hx : c < f x
    · rw [if_pos (by simpa using hx)]
      cases k with
      | zero => simp at h; subst h; simp [hx]
      | succ k =>
        simp only [List.getElem?_cons_succ] at h
        have := tw_iff (c := c) h2 h
        simp only [List.length_cons]
        omega
    · rw [if_neg (by simpa using hx)]
      simp only [List.length_nil]
      have hv : f v ≤ f x := by
        cases k with
        | zero => simp at h; subst h; exact Int.le_refl _
        | succ k => exact h1 v (List.mem_of_getElem? (by simpa using h))
      omega
theorem tw_anti {f : Int → Int} {c c' : Int} (h : c ≤ c') : ∀ (P : List Int), (P.takeWhile (fun v => decide (c' < f v))).length ≤ (P.takeWhile (fun v => decide (c < f v))).length
  | [] => Nat.le_refl _
  | x :: r => by
    rw [List.takeWhile_cons, List.takeWhile_cons]
    by_cases hx : c' < f x
    · rw [if_pos (by simpa using hx), if_pos (by simp; omega)]
      simp only [List.length_cons]
      have := tw_anti h r (f := f)
      omega
    · rw [if_neg (by simpa using hx)]
      exact Nat.zero_le _
theorem twl_le (l : List Sp) (P : List Int) (c : Int) : twl l P c ≤ P.length := (List.takeWhile_sublist _).length_le
theorem ofsOf_ge : ∀ (l : List Gl) (c : Int), ∀ x ∈ ofsOf c l, c ≤ x
  | [], c, x, h => by cases h
  | g :: r, c, x, h => by
    rw [ofsOf] at h
    rcases List.mem_cons.1 h with rfl | h
    · exact Int.le_refl _
    · have := ofsOf_ge r (g.next c) x h
      unfold Gl.next at this
      split at this <;> omega
theorem plcs_bound : ∀ (l : List Gl) (c : Int) (i : Nat) (c' : Int), i + 1 = l.length → (ofsOf c l)[i]? = some c' → c ≤ c' ∧ ∀ p ∈ plcsP c l, p.2 ≤ c'
  | [], c, i, c', hi, _ => by simp at hi
  | [g], c, i, c', hi, h => by
    obtain rfl : i = 0 := by simpa using hi
    simp only [ofsOf, List.getElem?_cons_zero, Option.some.injEq] at h
    subst h
    refine ⟨Int.le_refl _, fun p hp => ?_⟩
    simp only [plcsP, List.append_nil] at hp
    rw [hereP_all _ _ p hp]
    exact Int.le_refl _
  | g :: g2 :: r, c, i, c', hi, h => by
    obtain ⟨j, rfl⟩ : ∃ j, i = j + 1 := ⟨i - 1, by simp only [List.length_cons] at hi; omega⟩
    rw [ofsOf, List.getElem?_cons_succ] at h
    obtain ⟨h1, h2⟩ := plcs_bound (g2 :: r) (g.next c) j c' (by simpa using hi) h
    have hn : c ≤ g.next c := by unfold Gl.next; split <;> omega
    refine ⟨by omega, fun p hp => ?_⟩
    rw [plcsP] at hp
    rcases List.mem_append.1 hp with hp | hp
    · rw [hereP_all _ _ p hp]; omega
    · exact h2 p hp
theorem last_bound {f : Fl} {i : Nat} {c : Int} (hi : i + 1 = f.goals.length) (h : (ofsOf 0 f.goals)[i]? = some c) : ∀ v ∈ permOf (sps (placesP f)), lastOf (sps (placesP f)) v ≤ c := by
  intro v hv
  obtain ⟨h1, h2⟩ := plcs_bound f.goals 0 i c hi h
  have := sps_spec _ (placesP f) rfl (places_mono f) v
  have hm := (perm_mem _ _).1 hv
  unfold lastOf
  cases hs : spFind v (sps (placesP f)) with
  | none => exact (spFind_mem.2 hm.1 hs).elim
  | some x =>
    rw [hs] at this
    obtain ⟨_, _, _, p, hp, _, h5⟩ := this
    show x.last ≤ c
    rw [← h5]
    unfold placesP at hp
    rcases List.mem_append.1 hp with hp | hp
    · obtain ⟨_, _, rfl⟩ := List.mem_map.1 hp; exact h1
    · exact h2 p hp
theorem twl_zero {l : List Sp} {P : List Int} {c : Int} (h : ∀ v ∈ P, lastOf l v ≤ c) : twl l P c = 0 := by
  unfold twl
  cases P with
  | nil => rfl
  | cons x r =>
    rw [List.takeWhile_cons, if_neg (by have := h x (by simp); simp; omega)]
    rfl
theorem live_inner (f : Fl) (P B : List Int) (l : List Sp) (i : Nat) (c lv : Int) (hlen : P.length < 100000000) (hoi : (ofsOf 0 f.goals)[i]? = some c) (hBi : B[i]? = some lv)
    (hsp : ∀ (k : Nat) v, P[k]? = some v → ∀ hp, ∃ a, S 16 [.pv (some 5) f.pv, .pv none (.sl none (ints (ofsOf 0 f.goals))), .pv none (.int .i64 v)] hp = some (.ret (.tuple [.pv none (.int .i64 a), .pv none (.int .i64 (lastOf l v))]), hp))
    (hk : ∀ (k : Nat) v, P[k]? = some v → (c < lastOf l v ↔ (k : Int) < lv)) (z5 : AV) (r0 : Fr) (Q : AExit → St → Prop)
    (hQ : ∀ r : Fr, Q .normal ⟨(1, .ptr 0 0) :: (3, .ptr 1 0) :: (5, z5) :: (6, .pv none (.int .i64 i)) :: r, hP4 f (chPV (ofsOf 0 f.goals) P B)⟩) :
    W Z L 0 c5k34 ⟨(1, .ptr 0 0) :: (3, .ptr 1 0) :: (5, z5) :: (6, .pv none (.int .i64 i)) :: (7, .pv none (.int .i64 0)) :: r0, hP4 f (chPV (ofsOf 0 f.goals) P B)⟩ Q := by
  have hpl := ints_len P
  simp -dsimp -implicitDefEqProofs only [g5, c5r0, c5r1, c5r2, c5k3, c5r4, c5r5, c5r6, c5k7, c5r8, c5r9, c5k10, c5r11, c5r12, c5r13, c5k14, c5r15, c5r16, c5r17, c5k18, c5k19, c5r20, c5r21, c5k22, c5r23, c5r24, c5r25, c5k26, c5r27, c5r28, c5r29, c5k30, c5k31, c5r32, c5b33, c5k34, c5k35, c5r36, c5b37, c5k38, c5r39, c5, go_sem, seval, ↓reduceIte]
  refine W_for (α := Unit) P.length (fun k _ => True)
    (fun k _ => ⟨[(1, .ptr 0 0), (3, .ptr 1 0), (5, z5), (6, .pv none (.int .i64 i)), (7, .pv none (.int .i64 k))], hP4 f (chPV (ofsOf 0 f.goals) P B)⟩) () ⟨trivial, rfl⟩ ?_ ?_
  · rintro k _ h _
    have hc : (k : Int) < (P.length : Int) := by omega
    obtain ⟨v, hv⟩ : ∃ v, P[k]? = some v := ⟨_, List.getElem?_eq_getElem h⟩
    have w2 : IntKind.i64.wrap ((k : Int) + 1) = ((k + 1 : Nat) : Int) := by rw [wrap64 (by omega) (by omega)]; omega
    have hix := s_iaddr_pv (s := none) (s' := none) (k := .i64) (sh := none) (ints_get hv)
    have hix2 := s_iaddr_pv (s := none) (s' := none) (k := .i64) (sh := none) (ints_get hoi)
    have hix3 := s_iaddr_pv (s := none) (s' := none) (k := .i64) (sh := none) (ints_get hBi)
    obtain ⟨a, hcall⟩ := hsp k v hv [.box (some 5) (.pv (some 5) f.pv), .box (some 3) (.pv (some 3) (chPV (ofsOf 0 f.goals) P B)), .arr none [] false, .arr none [] false, .arr none [] false]
    have hkv := hk k v hv
    by_cases hlt : c < lastOf l v
    · have hlt2 := hkv.1 hlt
      simp -dsimp -implicitDefEqProofs only [g5, c5r0, c5r1, c5r2, c5k3, c5r4, c5r5, c5r6, c5k7, c5r8, c5r9, c5k10, c5r11, c5r12, c5r13, c5k14, c5r15, c5r16, c5r17, c5k18, c5k19, c5r20, c5r21, c5k22, c5r23, c5r24, c5r25, c5k26, c5r27, c5r28, c5r29, c5k30, c5k31, c5r32, c5b33, c5k34, c5k35, c5r36, c5b37, c5k38, c5r39, c5, go_sem, seval, ↓reduceIte, hP4, ch_part0, ch_part1, ch_part2, hpl, hc, hix, hix2, hix3, hcall, hlt, hlt2, w2, beq_self_eq_true]
      refine ⟨(), ?_⟩
      rw [collect_id (by rfl)]
    · have hlt2 : ¬ (k : Int) < lv := fun h => hlt (hkv.2 h)
      simp -dsimp -implicitDefEqProofs only [g5, c5r0, c5r1, c5r2, c5k3, c5r4, c5r5, c5r6, c5k7, c5r8, c5r9, c5k10, c5r11, c5r12, c5r13, c5k14, c5r15, c5r16, c5r17, c5k18, c5k19, c5r20, c5r21, c5k22, c5r23, c5r24, c5r25, c5k26, c5r27, c5r28, c5r29, c5k30, c5k31, c5r32, c5b33, c5k34, c5k35, c5r36, c5b37, c5k38, c5r39, c5, go_sem, seval, ↓reduceIte, hP4, ch_part0, ch_part1, ch_part2, hpl, hc, hix, hix2, hix3, hcall, hlt, hlt2, w2, beq_self_eq_true]
      refine ⟨(), ?_⟩
      rw [collect_id (by rfl)]
  · rintro _ _
    have hc : ¬ (P.length : Int) < (P.length : Int) := by omega
    simp -dsimp -implicitDefEqProofs only [g5, c5r0, c5r1, c5r2, c5k3, c5r4, c5r5, c5r6, c5k7, c5r8, c5r9, c5k10, c5r11, c5r12, c5r13, c5k14, c5r15, c5r16, c5r17, c5k18, c5k19, c5r20, c5r21, c5k22, c5r23, c5r24, c5r25, c5k26, c5r27, c5r28, c5r29, c5k30, c5k31, c5r32, c5b33, c5k34, c5k35, c5r36, c5b37, c5k38, c5r39, c5, go_sem, seval, ↓reduceIte, hP4, ch_part1, hpl, hc]
    exact hQ _
theorem livesOf_len (l : List Sp) (P : List Int) : ∀ (gs : List Gl) (c : Int), (livesOf l P c gs).length = gs.length
  | [], _ => rfl
  | g :: r, c => by simp [livesOf, livesOf_len l P r]
theorem live_outer (f : Fl) (P : List Int) (l : List Sp) (hlen : P.length < 100000000) (hgl : f.goals.length < 100000000)
    (hsrt : P.Pairwise (fun a b => lastOf l b ≤ lastOf l a)) (hlb : ∀ i c, i + 1 = f.goals.length → (ofsOf 0 f.goals)[i]? = some c → ∀ v ∈ P, lastOf l v ≤ c)
    (hsp : ∀ (k : Nat) v, P[k]? = some v → ∀ hp, ∃ a, S 16 [.pv (some 5) f.pv, .pv none (.sl none (ints (ofsOf 0 f.goals))), .pv none (.int .i64 v)] hp = some (.ret (.tuple [.pv none (.int .i64 a), .pv none (.int .i64 (lastOf l v))]), hp)) (r0 : Fr) (Q : AExit → St → Prop)
    (hQ : ∀ r : Fr, ∀ hp, Q .normal ⟨r, hp⟩) :
    W Z L 0 c5k38 ⟨(1, .ptr 0 0) :: (3, .ptr 1 0) :: (5, .pv none (.int .i64 P.length)) :: (6, .pv none (.int .i64 0)) :: r0, hP4 f (chPV (ofsOf 0 f.goals) P (livesOf l P 0 f.goals))⟩ Q := by
  simp -dsimp -implicitDefEqProofs only [g5, c5r0, c5r1, c5r2, c5k3, c5r4, c5r5, c5r6, c5k7, c5r8, c5r9, c5k10, c5r11, c5r12, c5r13, c5k14, c5r15, c5r16, c5r17, c5k18, c5k19, c5r20, c5r21, c5k22, c5r23, c5r24, c5r25, c5k26, c5r27, c5r28, c5r29, c5k30, c5k31, c5r32, c5b33, c5k35, c5r36, c5b37, c5k38, c5r39, c5, go_sem, seval, ↓reduceIte]
  have htle := twl_le l P 0
  refine W_for (α := Int × Int) f.goals.length (fun i a => 0 ≤ a.1 ∧ a.1 ≤ i ∧ (ofsOf 0 f.goals).drop i = ofsOf a.1 (f.goals.drop i) ∧ (livesOf l P 0 f.goals).drop i = livesOf l P a.1 (f.goals.drop i) ∧ (twl l P a.1 : Int) ≤ a.2)
    (fun i a => ⟨[(1, .ptr 0 0), (3, .ptr 1 0), (5, .pv none (.int .i64 a.2)), (6, .pv none (.int .i64 i))], hP4 f (chPV (ofsOf 0 f.goals) P (livesOf l P 0 f.goals))⟩) (0, P.length) ⟨⟨Int.le_refl _, Int.le_refl _, rfl, rfl, by dsimp only; omega⟩, rfl⟩ ?_ ?_
  · rintro i ⟨c, b⟩ h ⟨hc0, hci, hO, hV, hb⟩
    dsimp only at hc0 hci hO hV hb
    have hc : (i : Int) < (f.goals.length : Int) := by omega
    obtain ⟨g, hg⟩ : ∃ g, f.goals[i]? = some g := ⟨_, List.getElem?_eq_getElem h⟩
    have w2 : IntKind.i64.wrap ((i : Int) + 1) = ((i + 1 : Nat) : Int) := by rw [wrap64 (by omega) (by omega)]; omega
    have w5 : IntKind.i64.wrap ((f.goals.length : Int) - 1) = (f.goals.length : Int) - 1 := by rw [wrap64 (by omega) (by omega)]
    rw [ofsOf_drop hg] at hO
    rw [livesOf_drop hg] at hV
    have hoi : (ofsOf 0 f.goals)[i]? = some c := by
      have := congrArg List.head? hO
      rwa [List.head?_drop, List.head?_cons] at this
    have hvi : (livesOf l P 0 f.goals)[i]? = some (liveAt l P c g) := by
      have := congrArg List.head? hV
      rwa [List.head?_drop, List.head?_cons] at this
    have hO2 : (ofsOf 0 f.goals).drop (i + 1) = ofsOf (g.next c) (f.goals.drop (i + 1)) := by
      rw [← List.drop_drop, hO]; rfl
    have hV2 : (livesOf l P 0 f.goals).drop (i + 1) = livesOf l P (g.next c) (f.goals.drop (i + 1)) := by
      rw [← List.drop_drop, hV]; rfl
    have hix3 := s_iaddr_pv (s := none) (s' := none) (k := .i64) (sh := none) (ints_get hvi)
    by_cases hk : g.kind = 1
    · have hla : liveAt l P c g = (twl l P c : Int) := by simp [liveAt, hk]
      rw [hla] at hix3 hvi
      rw [show g.next c = c + 1 by simp [Gl.next, hk]] at hO2 hV2
      have n1 : ¬ (twl l P c : Int) < 0 := by omega
      have n2 : ¬ b < (twl l P c : Int) := by omega
      have hinn := live_inner f P (livesOf l P 0 f.goals) l i c (twl l P c) hlen hoi hvi hsp (fun k v hkv => by
        have := tw_iff (f := lastOf l) (c := c) hsrt hkv
        unfold twl
        omega)
      have hnx : (twl l P (c + 1) : Int) ≤ (twl l P c : Int) := by
        have := tw_anti (f := lastOf l) (c := c) (c' := c + 1) (by omega) P
        unfold twl
        omega
      generalize hB : livesOf l P 0 f.goals = B at *
      by_cases hlast : (i : Int) = (f.goals.length : Int) - 1
      · have hz : twl l P c = 0 := twl_zero (hlb i c (by omega) hoi)
        rw [hz] at hix3 n1 n2 hnx
        have hl2 : ((i : Int) = (f.goals.length : Int) - 1) = True := eq_true hlast
        simp -dsimp -implicitDefEqProofs only [g5, c5r0, c5r1, c5r2, c5k3, c5r4, c5r5, c5r6, c5k7, c5r8, c5r9, c5k10, c5r11, c5r12, c5r13, c5k14, c5r15, c5r16, c5r17, c5k18, c5k19, c5r20, c5r21, c5k22, c5r23, c5r24, c5r25, c5k26, c5r27, c5r28, c5r29, c5k30, c5k31, c5r32, c5b33, c5k35, c5r36, c5b37, c5k38, c5r39, c5, go_sem, seval, ↓reduceIte, hP4, fl_goals, Gl.pvs_len, hc, s_iaddr_pv (Gl.pvs_get hg), gl_kind, hk, ch_part2, hix3, n1, (show ¬ b < 0 from n2), hl2, w5, show ((0 : Nat) : Int) = 0 from rfl]
        refine hinn _ _ _ (fun r => ?_)
        simp -dsimp -implicitDefEqProofs only [g5, c5r0, c5r1, c5r2, c5k3, c5r4, c5r5, c5r6, c5k7, c5r8, c5r9, c5k10, c5r11, c5r12, c5r13, c5k14, c5r15, c5r16, c5r17, c5k18, c5k19, c5r20, c5r21, c5k22, c5r23, c5r24, c5r25, c5k26, c5r27, c5r28, c5r29, c5k30, c5k31, c5r32, c5b33, c5k35, c5r36, c5b37, c5k38, c5r39, c5, go_sem, seval, ↓reduceIte, w2]
        refine ⟨(c + 1, _), ⟨by dsimp only; omega, by dsimp only; omega, hO2, hV2, hnx⟩, ?_⟩
        rw [collect_id (by rfl)]
        rfl
      · simp -dsimp -implicitDefEqProofs only [g5, c5r0, c5r1, c5r2, c5k3, c5r4, c5r5, c5r6, c5k7, c5r8, c5r9, c5k10, c5r11, c5r12, c5r13, c5k14, c5r15, c5r16, c5r17, c5k18, c5k19, c5r20, c5r21, c5k22, c5r23, c5r24, c5r25, c5k26, c5r27, c5r28, c5r29, c5k30, c5k31, c5r32, c5b33, c5k35, c5r36, c5b37, c5k38, c5r39, c5, go_sem, seval, ↓reduceIte, hP4, fl_goals, Gl.pvs_len, hc, s_iaddr_pv (Gl.pvs_get hg), gl_kind, hk, ch_part2, hix3, n1, n2, hlast, w5]
        refine hinn _ _ _ (fun r => ?_)
        simp -dsimp -implicitDefEqProofs only [g5, c5r0, c5r1, c5r2, c5k3, c5r4, c5r5, c5r6, c5k7, c5r8, c5r9, c5k10, c5r11, c5r12, c5r13, c5k14, c5r15, c5r16, c5r17, c5k18, c5k19, c5r20, c5r21, c5k22, c5r23, c5r24, c5r25, c5k26, c5r27, c5r28, c5r29, c5k30, c5k31, c5r32, c5b33, c5k35, c5r36, c5b37, c5k38, c5r39, c5, go_sem, seval, ↓reduceIte, w2]
        refine ⟨(c + 1, _), ⟨by dsimp only; omega, by dsimp only; omega, hO2, hV2, hnx⟩, ?_⟩
        rw [collect_id (by rfl)]
    · have hla : liveAt l P c g = 0 := by simp [liveAt, hk]
      rw [hla] at hix3
      rw [show g.next c = c by simp [Gl.next, hk]] at hO2 hV2
      simp -dsimp -implicitDefEqProofs only [g5, c5r0, c5r1, c5r2, c5k3, c5r4, c5r5, c5r6, c5k7, c5r8, c5r9, c5k10, c5r11, c5r12, c5r13, c5k14, c5r15, c5r16, c5r17, c5k18, c5k19, c5r20, c5r21, c5k22, c5r23, c5r24, c5r25, c5k26, c5r27, c5r28, c5r29, c5k30, c5k31, c5r32, c5b33, c5k35, c5r36, c5b37, c5k38, c5r39, c5, go_sem, seval, ↓reduceIte, hP4, fl_goals, Gl.pvs_len, hc, s_iaddr_pv (Gl.pvs_get hg), gl_kind, hk, ch_part2, hix3, w2]
      refine ⟨(c, b), ⟨hc0, by dsimp only; omega, hO2, hV2, hb⟩, ?_⟩
      rw [collect_id (by rfl)]
  · rintro ⟨c, b⟩ _
    have hc : ¬ (f.goals.length : Int) < (f.goals.length : Int) := by omega
    simp -dsimp -implicitDefEqProofs only [g5, c5r0, c5r1, c5r2, c5k3, c5r4, c5r5, c5r6, c5k7, c5r8, c5r9, c5k10, c5r11, c5r12, c5r13, c5k14, c5r15, c5r16, c5r17, c5k18, c5k19, c5r20, c5r21, c5k22, c5r23, c5r24, c5r25, c5k26, c5r27, c5r28, c5r29, c5k30, c5k31, c5r32, c5b33, c5k35, c5r36, c5b37, c5k38, c5r39, c5, go_sem, seval, ↓reduceIte, hP4, fl_goals, Gl.pvs_len, hc]
    exact hQ _ _
theorem chunkLive_sem (f : Fl) (hf : f.pv.sz ≤ 1048576) : S 5 [f.av] [] = some (.ret (.pv none (.bool true)), []) := by
  refine sem_pure rfl rfl rfl (freezeAll_pvs [(some 5, f.pv)]) rfl ?_
  have b1 := fl_args_sz f
  have b2 := fl_plcs_sz f
  have b3 := fl_len_sz f
  have b4 := fun g hg => fl_goal_sz f (g := g) hg
  have b5 : (placesP f).length ≤ 1048576 := by rw [← placesP_eq, List.length_map] at b2; omega
  have b6 := perm_len f
  have h1 := small_ok f
  have h2 := awake_ok
  have h3 := fun hp => of_ok f hp (by omega) (fun g hg => by have := b4 g hg; omega) (by omega) (by omega)
  have h5 := fun v hp => span_ok f v hp (by omega) (fun g hg => by have := b4 g hg; omega) (by omega)
  have hol := ofsOf_len f.goals 0
  have hgl := ints_len (ofsOf 0 f.goals)
  have hbl := livesOf_len (sps (placesP f)) (permOf (sps (placesP f))) f.goals 0
  have hbi := ints_len (livesOf (sps (placesP f)) (permOf (sps (placesP f))) 0 f.goals)
  have hpi := ints_len (permOf (sps (placesP f)))
  simp only [Fl.av] at h1 h3 h5
  by_cases hs : Fl.small f = true
  · rw [hs] at h1
    cases hv : f.valid with
    | false =>
      simp only [hv, ofPV, Bool.false_eq_true, if_false] at h3
      simp -dsimp -implicitDefEqProofs only [g5, c5r0, c5r1, c5r2, c5k3, c5r4, c5r5, c5r6, c5k7, c5r8, c5r9, c5k10, c5r11, c5r12, c5r13, c5k14, c5r15, c5r16, c5r17, c5k18, c5k19, c5r20, c5r21, c5k22, c5r23, c5r24, c5r25, c5k26, c5r27, c5r28, c5r29, c5k30, c5k31, c5r32, c5b33, c5k35, c5r36, c5b37, c5r39, c5, go_sem, seval, ↓reduceIte, h1, h2, h3]
    | true =>
      have hout := live_outer f (permOf (sps (placesP f))) (sps (placesP f)) (by omega) (by omega) (perm_sorted _) (fun i c hi hc => last_bound hi hc) (fun k v hk hp => ⟨(spanF v f).1, by
        rw [← span_last hv (List.mem_of_getElem? hk)]
        exact h5 v hp⟩)
      simp only [hv, ofPV, if_true] at h3
      simp -dsimp -implicitDefEqProofs only [g5, c5r0, c5r1, c5r2, c5k3, c5r4, c5r5, c5r6, c5k7, c5r8, c5r9, c5k10, c5r11, c5r12, c5r13, c5k14, c5r15, c5r16, c5r17, c5k18, c5k19, c5r20, c5r21, c5k22, c5r23, c5r24, c5r25, c5k26, c5r27, c5r28, c5r29, c5k30, c5k31, c5r32, c5b33, c5k35, c5r36, c5b37, c5r39, c5, go_sem, seval, ↓reduceIte, h1, h2, h3, ch_part0, ch_part1, ch_part2, fl_goals, Gl.pvs_len, hol, hgl, hbl, hbi, hpi]
      refine hout _ _ (fun r hp => ?_)
      simp -dsimp -implicitDefEqProofs only [g5, c5r0, c5r1, c5r2, c5k3, c5r4, c5r5, c5r6, c5k7, c5r8, c5r9, c5k10, c5r11, c5r12, c5r13, c5k14, c5r15, c5r16, c5r17, c5k18, c5k19, c5r20, c5r21, c5k22, c5r23, c5r24, c5r25, c5k26, c5r27, c5r28, c5r29, c5k30, c5k31, c5r32, c5b33, c5k35, c5r36, c5b37, c5r39, c5, go_sem, seval, ↓reduceIte, h2]
  · rw [Bool.not_eq_true] at hs
    rw [hs] at h1
    simp -dsimp -implicitDefEqProofs only [g5, c5r0, c5r1, c5r2, c5k3, c5r4, c5r5, c5r6, c5k7, c5r8, c5r9, c5k10, c5r11, c5r12, c5r13, c5k14, c5r15, c5r16, c5r17, c5k18, c5k19, c5r20, c5r21, c5k22, c5r23, c5r24, c5r25, c5k26, c5r27, c5r28, c5r29, c5k30, c5k31, c5r32, c5b33, c5k35, c5r36, c5b37, c5r39, c5, go_sem, seval, ↓reduceIte, h1, h2]
set_option maxRecDepth 100000 in
theorem chunkLive_lifted (os : Os) (started : os.Started) (H : Type) (enc : TypeId × Value → H) (F : Stop.Interp) :
    ReturnsInHanded {} Try.checked os 5 .any ((Rows.OpenSpec.upto Rows.chunkLiveSpec).pre6 enc Try.prog Try.f5 Rows.chunkLiveUptoRow.domain false) (((Rows.OpenSpec.upto Rows.chunkLiveSpec).at F).post enc Try.prog Try.f5 false true false false) := by
  refine returnsInHanded_of_cond (C := Try.checked) (s := (Rows.OpenSpec.upto Rows.chunkLiveSpec)) (k := Rows.uptoSmall) rfl Try.own started (by kernel_rfl) Try.func5
    (OpenSpec.witness (enc := enc) (C := Try.checked) (s := (Rows.OpenSpec.upto Rows.chunkLiveSpec)) (k := Rows.uptoSmall) rfl false ⟨#[], #[.agg #[.string ⟨#[]⟩, .int .i64 0, .int .i64 0, .slice none 0 0, .slice none 0 0]], []⟩ 8 (by kernel_rfl) (by kernel_rfl) (by kernel_rfl)
      (x := ([.agg [.agg [.lit (.string []), .lit (.int .i64 0), .lit (.int .i64 0)], .nil, .nil]], [], [])) (by kernel_rfl) rfl (by kernel_rfl)) ?_
  intro W base args ds gs before hval0 hW _ hk _
  have hval : ∀ (j : Nat) t v, Try.f5.params[j]? = some t → args[j]? = some v → Value.okWide Try.prog W .any base t v := hval0
  have hb := bulk_bound hk
  have hW' := hW
  obtain ⟨p, q, hA0, hV, rfl, hfz, hnd⟩ := hW
  have hA : DataW.TrodAll enc Try.prog W 0 (fun _ => true) true Try.f5.params.toList args.toList ds p := hA0
  rw [Try.params5] at hA hval
  clear hA0 hval0
  obtain ⟨v0, vs0, d0, ds0, p0, q0, e0, rfl, rfl, h0, r0'⟩ := trodAll_cons hA
  obtain ⟨e1, rfl, rfl⟩ := trodAll_nil r0'
  subst e1
  obtain rfl : args = #[v0] := by cases args; simp_all
  obtain ⟨rfl, rfl⟩ := trodVars_none hV
  obtain ⟨t0, a0, z0⟩ := open_flat h0 (hval 0 _ v0 rfl rfl)
  simp only [Rows.uptoBulkAll, List.append_nil] at hb
  exact law_contract sound Try.func5 (by kernel_rfl) Try.laidOut (s := Rows.chunkLiveSpec) rfl rfl hW' (.cons a0 (.nil)) (chunkLive_sem t0 (by omega))
theorem chunkLive_holds : Rows.ChunkLiveUptoSaid :=
  OpenClaim.holds_of_cond 5 Try.f5 rfl rfl rfl rfl rfl rfl rfl ⟨rfl, rfl, rfl, rfl, rfl⟩ rfl rfl rfl rfl rfl (by kernel_rfl) Try.func5 (by kernel_rfl)
    (of_decide_eq_true (by kernel_rfl)) (by unfold Func.isWrapper; first | (rw [if_pos (by decide +kernel)]; kernel_rfl) | (rw [if_neg (by decide +kernel)]; exact ⟨rfl, rfl⟩))
    (fun os started H enc _ F => chunkLive_lifted os started H enc F)
end Go.Proofs.Ytmajapjbogmefaa
