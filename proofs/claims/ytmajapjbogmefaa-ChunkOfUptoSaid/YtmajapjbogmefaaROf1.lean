/- What is proved: the reference's chunks, its first three loops. -/
import Derived.Test.YtmajapjbogmefaaRPlain
import Derived.Test.YtmajapjbogmefaaPlaces
set_option linter.unusedSimpArgs false
set_option linter.unusedVariables false
namespace Go.Proofs.Ytmajapjbogmefaa
open Go.Am
def hR (f : Fl) (A P B : List PV) (e : Heap) : Heap := .box (some 5) (.pv (some 5) f.pv) :: .box (some 3) (.agg [(none, .sl none 2 0 0 0), (none, .sl none 3 0 0 0), (none, .sl none 4 0 0 0)]) :: .arr none [] false :: .arr none [] false :: .arr none [] false ::
  .box (some 3) (.agg [(none, .sl none 6 A.length 0 A.length), (none, .sl none 7 P.length 0 P.length), (none, .sl none 8 B.length 0 B.length)]) :: .arr none A false :: .arr none P false :: .arr none B false :: e
def bools (l : List Bool) : List PV := l.map .bool
theorem look_m {m : List (Int × PV)} {z : PV} {hp : Heap} {r : Nat} {s : Sh} {v : Int} (h : hp[r]? = some (.map none (kEnts m))) : rLookup false none (.pv none z) false hp [.map r, .pv s (.int .i64 v)] = some (.pv none ((mFind v m).getD z)) := by
  have hf := kEnts_find v m
  cases hm : mFind v m with
  | none => rw [hm] at hf; exact r_lookup_none h hf
  | some x => rw [hm] at hf; exact r_lookup_some h hf
theorem idx_sl {sh : Sh} {r n i : Nat} (h : i < n) : sIaddr sh [.sl sh r n 0 n, .pv none (.int .i64 i)] = some (.eptr sh r n i 0) := by
  have := s_iaddr_sl (sh := sh) (r := r) (v := n) (o := 0) (s' := none) (k := .i64) (i := i) (n := n) h
  rwa [Nat.zero_add] at this
theorem rof_loopA (f : Fl) (hlen : f.goals.length < 100000000) (r0 : Fr) (Q : AExit → St → Prop)
    (hQ : ∀ r : Fr, Q .normal ⟨(1, .ptr 0 0) :: (2, .ptr 1 0) :: (4, .ptr 5 0) :: (5, .pv none (.int .i64 (callsN 0 f.goals))) :: r, hR f (ints (ofsOf 0 f.goals)) [] [] []⟩) :
    W Z L 0 c13k16 ⟨(1, .ptr 0 0) :: (2, .ptr 1 0) :: (4, .ptr 5 0) :: (5, .pv none (.int .i64 0)) :: (6, .pv none (.int .i64 0)) :: r0, hR f [] [] [] []⟩ Q := by
  simp -dsimp -implicitDefEqProofs only [g13, c13r0, c13r1, c13r2, c13k3, c13r4, c13r5, c13r6, c13r7, c13k8, c13r9, c13r10, c13r11, c13k12, c13k13, c13r14, c13b15, c13k16, c13r17, c13r18, c13r19, c13r20, c13k21, c13r22, c13k23, c13r24, c13b25, c13k26, c13r27, c13r28, c13r29, c13r30, c13r31, c13k32, c13r33, c13r34, c13r35, c13k36, c13r37, c13b38, c13k39, c13r40, c13r41, c13k42, c13r43, c13r44, c13k45, c13r46, c13k47, c13r48, c13r49, c13k50, c13r51, c13b52, c13k53, c13k54, c13r55, c13b56, c13k57, c13r58, c13r59, c13k60, c13r61, c13r62, c13r63, c13k64, c13r65, c13r66, c13k67, c13k68, c13r69, c13b70, c13k71, c13r72, c13k73, c13r74, c13b75, c13k76, c13r77, c13, go_sem, seval, ↓reduceIte]
  refine W_for (α := Int × List Int) f.goals.length (fun i a => 0 ≤ a.1 ∧ a.1 ≤ i ∧ ofsOf 0 f.goals = a.2 ++ ofsOf a.1 (f.goals.drop i) ∧ callsN 0 f.goals = callsN a.1 (f.goals.drop i) ∧ a.2.length = i)
    (fun i a => ⟨[(1, .ptr 0 0), (2, .ptr 1 0), (4, .ptr 5 0), (5, .pv none (.int .i64 a.1)), (6, .pv none (.int .i64 i))], hR f (ints a.2) [] [] []⟩) (0, []) ⟨⟨Int.le_refl _, Int.le_refl _, rfl, rfl, rfl⟩, rfl⟩ ?_ ?_
  · rintro i ⟨c, A⟩ h ⟨hc0, hci, hA, hC, hAl⟩
    dsimp only at hc0 hci hA hC hAl
    have hc : (i : Int) < (f.goals.length : Int) := by omega
    obtain ⟨g, hg⟩ : ∃ g, f.goals[i]? = some g := ⟨_, List.getElem?_eq_getElem h⟩
    have w2 : IntKind.i64.wrap ((i : Int) + 1) = ((i + 1 : Nat) : Int) := by rw [wrap64 (by omega) (by omega)]; omega
    have w3 : IntKind.i64.wrap (c + 1) = c + 1 := by rw [wrap64 (by omega) (by omega)]
    rw [ofsOf_drop hg] at hA
    rw [callsN_drop hg] at hC
    have hAi := ints_len A
    have hap : ∀ (a0 a1 a2 a3 a4 a5 : AObj) (e : Heap), wAppend none (a0 :: a1 :: a2 :: a3 :: a4 :: a5 :: .arr none (ints A) false :: e) [.sl none 6 (ints A).length 0 (ints A).length, .tsl none [.int .i64 c]] = some (.sl none 6 ((ints A).length + 1) 0 ((ints A).length + 1), a0 :: a1 :: a2 :: a3 :: a4 :: a5 :: .arr none (ints A ++ [.int .i64 c]) false :: e) := fun a0 a1 a2 a3 a4 a5 e =>
      w_append_tsl (show okArr none (ints A).length (some (.arr none (ints A) false)) from ⟨rfl, rfl⟩) (by simp [lim]; omega)
    have hst : ∀ (n m p b : Nat) (a0 a1 a2 a3 a4 : AObj) (e : Heap), wStore none 0 (a0 :: a1 :: a2 :: a3 :: a4 :: .box (some 3) (.agg [(none, .sl none 6 n 0 n), (none, .sl none 7 p 0 p), (none, .sl none 8 b 0 b)]) :: e) [.ptr 5 0, .sl none 6 m 0 m] = some (.undef, a0 :: a1 :: a2 :: a3 :: a4 :: .box (some 3) (.agg [(none, .sl none 6 m 0 m), (none, .sl none 7 p 0 p), (none, .sl none 8 b 0 b)]) :: e) := fun n m p b a0 a1 a2 a3 a4 e => rfl
    have hfin : ∀ c', c' = g.next c → ∃ a' : Int × List Int, (0 ≤ a'.1 ∧ a'.1 ≤ ((i + 1 : Nat) : Int) ∧ ofsOf 0 f.goals = a'.2 ++ ofsOf a'.1 (f.goals.drop (i + 1)) ∧ callsN 0 f.goals = callsN a'.1 (f.goals.drop (i + 1)) ∧ a'.2.length = i + 1) ∧
        (⟨[(1, .ptr 0 0), (2, .ptr 1 0), (4, .ptr 5 0), (5, .pv none (.int .i64 c')), (6, .pv none (.int .i64 ((i + 1 : Nat) : Int)))], collect 9 0 [(1, .ptr 0 0), (2, .ptr 1 0), (4, .ptr 5 0), (5, .pv none (.int .i64 c')), (6, .pv none (.int .i64 ((i + 1 : Nat) : Int)))] (hR f (ints A ++ [.int .i64 c]) [] [] [])⟩ : St) =
        ⟨[(1, .ptr 0 0), (2, .ptr 1 0), (4, .ptr 5 0), (5, .pv none (.int .i64 a'.1)), (6, .pv none (.int .i64 ((i + 1 : Nat) : Int)))], hR f (ints a'.2) [] [] []⟩ := by
      rintro _ rfl
      have hnx : 0 ≤ g.next c ∧ g.next c ≤ c + 1 := by unfold Gl.next; split <;> omega
      refine ⟨(g.next c, A ++ [c]), ⟨hnx.1, by have := hnx.2; dsimp only; omega, by rw [hA]; simp, hC, by simp [hAl]⟩, ?_⟩
      rw [collect_id (by rfl)]
      simp [ints]
    have e1 : (ints A ++ [PV.int .i64 c]).length = (ints A).length + 1 := by simp
    by_cases hk : g.kind = 1
    · have := hfin (c + 1) (by simp [Gl.next, hk])
      simp only [hR, e1] at this
      simp -dsimp -implicitDefEqProofs only [g13, c13r0, c13r1, c13r2, c13k3, c13r4, c13r5, c13r6, c13r7, c13k8, c13r9, c13r10, c13r11, c13k12, c13k13, c13r14, c13b15, c13k16, c13r17, c13r18, c13r19, c13r20, c13k21, c13r22, c13k23, c13r24, c13b25, c13k26, c13r27, c13r28, c13r29, c13r30, c13r31, c13k32, c13r33, c13r34, c13r35, c13k36, c13r37, c13b38, c13k39, c13r40, c13r41, c13k42, c13r43, c13r44, c13k45, c13r46, c13k47, c13r48, c13r49, c13k50, c13r51, c13b52, c13k53, c13k54, c13r55, c13b56, c13k57, c13r58, c13r59, c13k60, c13r61, c13r62, c13r63, c13k64, c13r65, c13r66, c13k67, c13k68, c13r69, c13b70, c13k71, c13r72, c13k73, c13r74, c13b75, c13k76, c13r77, c13, go_sem, seval, ↓reduceIte, hR, fl_goals, Gl.pvs_len, hc, s_iaddr_pv (Gl.pvs_get hg), gl_kind, hk, hap, hst, w2, w3]
      exact this
    · have := hfin c (by simp [Gl.next, hk])
      simp only [hR, e1] at this
      simp -dsimp -implicitDefEqProofs only [g13, c13r0, c13r1, c13r2, c13k3, c13r4, c13r5, c13r6, c13r7, c13k8, c13r9, c13r10, c13r11, c13k12, c13k13, c13r14, c13b15, c13k16, c13r17, c13r18, c13r19, c13r20, c13k21, c13r22, c13k23, c13r24, c13b25, c13k26, c13r27, c13r28, c13r29, c13r30, c13r31, c13k32, c13r33, c13r34, c13r35, c13k36, c13r37, c13b38, c13k39, c13r40, c13r41, c13k42, c13r43, c13r44, c13k45, c13r46, c13k47, c13r48, c13r49, c13k50, c13r51, c13b52, c13k53, c13k54, c13r55, c13b56, c13k57, c13r58, c13r59, c13k60, c13r61, c13r62, c13r63, c13k64, c13r65, c13r66, c13k67, c13k68, c13r69, c13b70, c13k71, c13r72, c13k73, c13r74, c13b75, c13k76, c13r77, c13, go_sem, seval, ↓reduceIte, hR, fl_goals, Gl.pvs_len, hc, s_iaddr_pv (Gl.pvs_get hg), gl_kind, hk, hap, hst, w2, w3]
      exact this
  · rintro ⟨c, A⟩ ⟨hc0, hci, hA, hC, hAl⟩
    have hc : ¬ (f.goals.length : Int) < (f.goals.length : Int) := by omega
    dsimp only at hA hC
    rw [List.drop_length, ofsOf, List.append_nil] at hA
    rw [List.drop_length, callsN] at hC
    simp -dsimp -implicitDefEqProofs only [g13, c13r0, c13r1, c13r2, c13k3, c13r4, c13r5, c13r6, c13r7, c13k8, c13r9, c13r10, c13r11, c13k12, c13k13, c13r14, c13b15, c13k16, c13r17, c13r18, c13r19, c13r20, c13k21, c13r22, c13k23, c13r24, c13b25, c13k26, c13r27, c13r28, c13r29, c13r30, c13r31, c13k32, c13r33, c13r34, c13r35, c13k36, c13r37, c13b38, c13k39, c13r40, c13r41, c13k42, c13r43, c13r44, c13k45, c13r46, c13k47, c13r48, c13r49, c13k50, c13r51, c13b52, c13k53, c13k54, c13r55, c13b56, c13k57, c13r58, c13r59, c13k60, c13r61, c13r62, c13r63, c13k64, c13r65, c13r66, c13k67, c13k68, c13r69, c13b70, c13k71, c13r72, c13k73, c13r74, c13b75, c13k76, c13r77, c13, go_sem, seval, ↓reduceIte, hR, fl_goals, Gl.pvs_len, hc]
    have := hQ
    rw [hA, hC] at this
    simp only [hR] at this
    exact this _
theorem pls_get {l : List (Int × Int)} {i : Nat} {p : Int × Int} (h : l[i]? = some p) : (l.map pl)[i]? = some (pl p) := by simp [h]
theorem pl_part0 (p : Int × Int) : PV.part deep (pl p) 0 none = some (.int .i64 p.1) := rfl
theorem pl_part1 (p : Int × Int) : PV.part deep (pl p) 1 none = some (.int .i64 p.2) := rfl
theorem rof_loopB (f : Fl) (A : List PV) (M : List (Int × Int)) (hM : M.length < 100000000) (C : AV) (r0 : Fr) (Q : AExit → St → Prop)
    (hQ : ∀ (r : Fr) (m : List (Int × PV)), (∀ v, (mFind v m).getD (.int .i64 0) = .int .i64 (maxOf v M)) → Q .normal ⟨(1, .ptr 0 0) :: (2, .ptr 1 0) :: (4, .ptr 5 0) :: (5, C) :: (7, .pv none (.sl (some 2) (M.map pl))) :: (8, .map 9) :: r, hR f A [] [] [.map none (kEnts m)]⟩) :
    W Z L 0 c13k26 ⟨(1, .ptr 0 0) :: (2, .ptr 1 0) :: (4, .ptr 5 0) :: (5, C) :: (7, .pv none (.sl (some 2) (M.map pl))) :: (8, .map 9) :: (9, .pv none (.int .i64 0)) :: r0, hR f A [] [] [.map none []]⟩ Q := by
  simp -dsimp -implicitDefEqProofs only [g13, c13r0, c13r1, c13r2, c13k3, c13r4, c13r5, c13r6, c13r7, c13k8, c13r9, c13r10, c13r11, c13k12, c13k13, c13r14, c13b15, c13k16, c13r17, c13r18, c13r19, c13r20, c13k21, c13r22, c13k23, c13r24, c13b25, c13k26, c13r27, c13r28, c13r29, c13r30, c13r31, c13k32, c13r33, c13r34, c13r35, c13k36, c13r37, c13b38, c13k39, c13r40, c13r41, c13k42, c13r43, c13r44, c13k45, c13r46, c13k47, c13r48, c13r49, c13k50, c13r51, c13b52, c13k53, c13k54, c13r55, c13b56, c13k57, c13r58, c13r59, c13k60, c13r61, c13r62, c13r63, c13k64, c13r65, c13r66, c13k67, c13k68, c13r69, c13b70, c13k71, c13r72, c13k73, c13r74, c13b75, c13k76, c13r77, c13, go_sem, seval, ↓reduceIte]
  refine W_for (α := List (Int × PV)) M.length (fun i m => ∀ v, (mFind v m).getD (.int .i64 0) = .int .i64 (maxOf v (M.take i)))
    (fun i m => ⟨[(1, .ptr 0 0), (2, .ptr 1 0), (4, .ptr 5 0), (5, C), (7, .pv none (.sl (some 2) (M.map pl))), (8, .map 9), (9, .pv none (.int .i64 i))], hR f A [] [] [.map none (kEnts m)]⟩) [] ⟨fun v => rfl, rfl⟩ ?_ ?_
  · rintro i m h hI
    have hc : (i : Int) < (M.length : Int) := by omega
    obtain ⟨p, hp⟩ : ∃ p, M[i]? = some p := ⟨_, List.getElem?_eq_getElem h⟩
    have w2 : IntKind.i64.wrap ((i : Int) + 1) = ((i + 1 : Nat) : Int) := by rw [wrap64 (by omega) (by omega)]; omega
    have hlk : ∀ (a0 a1 a2 a3 a4 a5 a6 a7 a8 : AObj), rLookup false none (.pv none (.int .i64 0)) false [a0, a1, a2, a3, a4, a5, a6, a7, a8, .map none (kEnts m)] [.map 9, .pv none (.int .i64 p.1)] = some (.pv none (.int .i64 (maxOf p.1 (M.take i)))) := fun a0 a1 a2 a3 a4 a5 a6 a7 a8 => by
      rw [look_m (m := m) rfl, hI]
    have hms : ∀ (x : PV) (a0 a1 a2 a3 a4 a5 a6 a7 a8 : AObj), wMapset false none [a0, a1, a2, a3, a4, a5, a6, a7, a8, .map none (kEnts m)] [.map 9, .pv none (.int .i64 p.1), .pv none x] = some (.undef, [a0, a1, a2, a3, a4, a5, a6, a7, a8, .map none (kEnts (mPut p.1 x m))]) := fun x a0 a1 a2 a3 a4 a5 a6 a7 a8 => w_mapset_pv rfl (kEnts_put _ _ _)
    simp -dsimp -implicitDefEqProofs only [g13, c13r0, c13r1, c13r2, c13k3, c13r4, c13r5, c13r6, c13r7, c13k8, c13r9, c13r10, c13r11, c13k12, c13k13, c13r14, c13b15, c13k16, c13r17, c13r18, c13r19, c13r20, c13k21, c13r22, c13k23, c13r24, c13b25, c13k26, c13r27, c13r28, c13r29, c13r30, c13r31, c13k32, c13r33, c13r34, c13r35, c13k36, c13r37, c13b38, c13k39, c13r40, c13r41, c13k42, c13r43, c13r44, c13k45, c13r46, c13k47, c13r48, c13r49, c13k50, c13r51, c13b52, c13k53, c13k54, c13r55, c13b56, c13k57, c13r58, c13r59, c13k60, c13r61, c13r62, c13r63, c13k64, c13r65, c13r66, c13k67, c13k68, c13r69, c13b70, c13k71, c13r72, c13k73, c13r74, c13b75, c13k76, c13r77, c13, go_sem, seval, ↓reduceIte, hR, List.length_map, hc, s_iaddr_pv (pls_get hp), pl_part0, pl_part1, hlk, hms, w2]
    refine ⟨mPut p.1 (.int .i64 (if maxOf p.1 (M.take i) < p.2 then p.2 else maxOf p.1 (M.take i))) m, fun v => ?_, ?_⟩
    · rw [mFind_put, maxOf_take hp]
      by_cases e : v = p.1
      · subst e
        rw [if_pos rfl, if_pos rfl]
        rfl
      · rw [if_neg e, if_neg (fun q => e q.symm)]
        exact hI v
    · rw [collect_id (by rfl)]
  · rintro m hI
    have hc : ¬ (M.length : Int) < (M.length : Int) := by omega
    rw [List.take_length] at hI
    simp -dsimp -implicitDefEqProofs only [g13, c13r0, c13r1, c13r2, c13k3, c13r4, c13r5, c13r6, c13r7, c13k8, c13r9, c13r10, c13r11, c13k12, c13k13, c13r14, c13b15, c13k16, c13r17, c13r18, c13r19, c13r20, c13k21, c13r22, c13k23, c13r24, c13b25, c13k26, c13r27, c13r28, c13r29, c13r30, c13r31, c13k32, c13r33, c13r34, c13r35, c13k36, c13r37, c13b38, c13k39, c13r40, c13r41, c13k42, c13r43, c13r44, c13k45, c13r46, c13k47, c13r48, c13r49, c13k50, c13r51, c13b52, c13k53, c13k54, c13r55, c13b56, c13k57, c13r58, c13r59, c13k60, c13r61, c13r62, c13r63, c13k64, c13r65, c13r66, c13k67, c13k68, c13r69, c13b70, c13k71, c13r72, c13k73, c13r74, c13b75, c13k76, c13r77, c13, go_sem, seval, ↓reduceIte, hR, List.length_map, hc]
    exact hQ _ m hI
def oldsTo (M : List (Int × Int)) (i : Nat) : List Bool := (List.range i).map (oldB M)
def endsTo (M : List (Int × Int)) (i : Nat) : List Int := (M.take i).map (fun p => maxOf p.1 M)
theorem rof_loopC (f : Fl) (A : List PV) (M : List (Int × Int)) (hM : M.length < 100000000) (m : List (Int × PV)) (hm : ∀ v, (mFind v m).getD (.int .i64 0) = .int .i64 (maxOf v M)) (C : AV) (r0 : Fr) (Q : AExit → St → Prop)
    (hQ : ∀ (r : Fr) (x : AObj), x.refs = [] → Q .normal ⟨(1, .ptr 0 0) :: (2, .ptr 1 0) :: (4, .ptr 5 0) :: (5, C) :: (7, .pv none (.sl (some 2) (M.map pl))) :: (8, .map 9) :: (10, .map 10) :: (11, .sl none 11 M.length 0 M.length) :: (12, .sl none 12 M.length 0 M.length) :: (13, .sl none 13 0 0 0) :: r, hR f A [] [] [.map none (kEnts m), x, .arr none (bools (oldsTo M M.length)) false, .arr none (ints (endsTo M M.length)) false, .arr none [] false]⟩) :
    W Z L 0 c13k39 ⟨(1, .ptr 0 0) :: (2, .ptr 1 0) :: (4, .ptr 5 0) :: (5, C) :: (7, .pv none (.sl (some 2) (M.map pl))) :: (8, .map 9) :: (10, .map 10) :: (11, .sl none 11 0 0 0) :: (12, .sl none 12 0 0 0) :: (13, .sl none 13 0 0 0) :: (14, .pv none (.int .i64 0)) :: r0, hR f A [] [] [.map none (kEnts m), .map none [], .arr none [] false, .arr none [] false, .arr none [] false]⟩ Q := by
  simp -dsimp -implicitDefEqProofs only [g13, c13r0, c13r1, c13r2, c13k3, c13r4, c13r5, c13r6, c13r7, c13k8, c13r9, c13r10, c13r11, c13k12, c13k13, c13r14, c13b15, c13k16, c13r17, c13r18, c13r19, c13r20, c13k21, c13r22, c13k23, c13r24, c13b25, c13k26, c13r27, c13r28, c13r29, c13r30, c13r31, c13k32, c13r33, c13r34, c13r35, c13k36, c13r37, c13b38, c13k39, c13r40, c13r41, c13k42, c13r43, c13r44, c13k45, c13r46, c13k47, c13r48, c13r49, c13k50, c13r51, c13b52, c13k53, c13k54, c13r55, c13b56, c13k57, c13r58, c13r59, c13k60, c13r61, c13r62, c13r63, c13k64, c13r65, c13r66, c13k67, c13k68, c13r69, c13b70, c13k71, c13r72, c13k73, c13r74, c13b75, c13k76, c13r77, c13, go_sem, seval, ↓reduceIte]
  refine W_for (α := List (Int × PV)) M.length (fun i n => ∀ v, (mFind v n).getD (.bool false) = .bool (decide (v ∈ (M.take i).map (·.1))))
    (fun i n => ⟨[(1, .ptr 0 0), (2, .ptr 1 0), (4, .ptr 5 0), (5, C), (7, .pv none (.sl (some 2) (M.map pl))), (8, .map 9), (10, .map 10), (11, .sl none 11 i 0 i), (12, .sl none 12 i 0 i), (13, .sl none 13 0 0 0), (14, .pv none (.int .i64 i))], hR f A [] [] [.map none (kEnts m), .map none (kEnts n), .arr none (bools (oldsTo M i)) false, .arr none (ints (endsTo M i)) false, .arr none [] false]⟩) [] ⟨fun v => by simp [mFind], rfl⟩ ?_ ?_
  · rintro i n h hI
    have hc : (i : Int) < (M.length : Int) := by omega
    obtain ⟨p, hp⟩ : ∃ p, M[i]? = some p := ⟨_, List.getElem?_eq_getElem h⟩
    have w2 : IntKind.i64.wrap ((i : Int) + 1) = ((i + 1 : Nat) : Int) := by rw [wrap64 (by omega) (by omega)]; omega
    have hob : decide (p.1 ∈ (M.take i).map (·.1)) = oldB M i := by unfold oldB; rw [hp]
    have hl1 : ∀ (a0 a1 a2 a3 a4 a5 a6 a7 a8 : AObj) (e : Heap), rLookup false none (.pv none (.int .i64 0)) false (a0 :: a1 :: a2 :: a3 :: a4 :: a5 :: a6 :: a7 :: a8 :: .map none (kEnts m) :: e) [.map 9, .pv none (.int .i64 p.1)] = some (.pv none (.int .i64 (maxOf p.1 M))) := fun a0 a1 a2 a3 a4 a5 a6 a7 a8 e => by
      rw [look_m (m := m) rfl, hm]
    have hl2 : ∀ (a0 a1 a2 a3 a4 a5 a6 a7 a8 a9 : AObj) (e : Heap), rLookup false none (.pv none (.bool false)) false (a0 :: a1 :: a2 :: a3 :: a4 :: a5 :: a6 :: a7 :: a8 :: a9 :: .map none (kEnts n) :: e) [.map 10, .pv none (.int .i64 p.1)] = some (.pv none (.bool (oldB M i))) := fun a0 a1 a2 a3 a4 a5 a6 a7 a8 a9 e => by
      rw [look_m (m := n) rfl, hI, hob]
    have hms : ∀ (x : PV) (a0 a1 a2 a3 a4 a5 a6 a7 a8 a9 : AObj) (e : Heap), wMapset false none (a0 :: a1 :: a2 :: a3 :: a4 :: a5 :: a6 :: a7 :: a8 :: a9 :: .map none (kEnts n) :: e) [.map 10, .pv none (.int .i64 p.1), .pv none x] = some (.undef, a0 :: a1 :: a2 :: a3 :: a4 :: a5 :: a6 :: a7 :: a8 :: a9 :: .map none (kEnts (mPut p.1 x n)) :: e) := fun x a0 a1 a2 a3 a4 a5 a6 a7 a8 a9 e => w_mapset_pv rfl (kEnts_put _ _ _)
    have hap1 : ∀ (a0 a1 a2 a3 a4 a5 a6 a7 a8 a9 a10 : AObj) (e : Heap), wAppend none (a0 :: a1 :: a2 :: a3 :: a4 :: a5 :: a6 :: a7 :: a8 :: a9 :: a10 :: .arr none (bools (oldsTo M i)) false :: e) [.sl none 11 i 0 i, .tsl none [.bool (oldB M i)]] = some (.sl none 11 (i + 1) 0 (i + 1), a0 :: a1 :: a2 :: a3 :: a4 :: a5 :: a6 :: a7 :: a8 :: a9 :: a10 :: .arr none (bools (oldsTo M i) ++ [.bool (oldB M i)]) false :: e) := fun a0 a1 a2 a3 a4 a5 a6 a7 a8 a9 a10 e =>
      w_append_tsl (show okArr none i (some (.arr none (bools (oldsTo M i)) false)) from ⟨rfl, by simp [bools, oldsTo]⟩) (by simp [lim]; omega)
    have hap2 : ∀ (a0 a1 a2 a3 a4 a5 a6 a7 a8 a9 a10 a11 : AObj) (e : Heap), wAppend none (a0 :: a1 :: a2 :: a3 :: a4 :: a5 :: a6 :: a7 :: a8 :: a9 :: a10 :: a11 :: .arr none (ints (endsTo M i)) false :: e) [.sl none 12 i 0 i, .tsl none [.int .i64 (maxOf p.1 M)]] = some (.sl none 12 (i + 1) 0 (i + 1), a0 :: a1 :: a2 :: a3 :: a4 :: a5 :: a6 :: a7 :: a8 :: a9 :: a10 :: a11 :: .arr none (ints (endsTo M i) ++ [.int .i64 (maxOf p.1 M)]) false :: e) := fun a0 a1 a2 a3 a4 a5 a6 a7 a8 a9 a10 a11 e =>
      w_append_tsl (show okArr none i (some (.arr none (ints (endsTo M i)) false)) from ⟨rfl, by simp [ints, endsTo]; omega⟩) (by simp [lim]; omega)
    have e1 : bools (oldsTo M i) ++ [.bool (oldB M i)] = bools (oldsTo M (i + 1)) := by simp [bools, oldsTo, List.range_succ]
    have e2 : ints (endsTo M i) ++ [.int .i64 (maxOf p.1 M)] = ints (endsTo M (i + 1)) := by
      unfold endsTo
      rw [List.take_add_one, hp]
      simp [ints]
    simp -dsimp -implicitDefEqProofs only [g13, c13r0, c13r1, c13r2, c13k3, c13r4, c13r5, c13r6, c13r7, c13k8, c13r9, c13r10, c13r11, c13k12, c13k13, c13r14, c13b15, c13k16, c13r17, c13r18, c13r19, c13r20, c13k21, c13r22, c13k23, c13r24, c13b25, c13k26, c13r27, c13r28, c13r29, c13r30, c13r31, c13k32, c13r33, c13r34, c13r35, c13k36, c13r37, c13b38, c13k39, c13r40, c13r41, c13k42, c13r43, c13r44, c13k45, c13r46, c13k47, c13r48, c13r49, c13k50, c13r51, c13b52, c13k53, c13k54, c13r55, c13b56, c13k57, c13r58, c13r59, c13k60, c13r61, c13r62, c13r63, c13k64, c13r65, c13r66, c13k67, c13k68, c13r69, c13b70, c13k71, c13r72, c13k73, c13r74, c13b75, c13k76, c13r77, c13, go_sem, seval, ↓reduceIte, hR, List.length_map, hc, s_iaddr_pv (pls_get hp), pl_part0, pl_part1, hl1, hl2, hap1, hap2, hms, w2, e1, e2]
    refine ⟨mPut p.1 (.bool true) n, fun v => ?_, ?_⟩
    · rw [mFind_put, List.take_add_one, hp]
      by_cases e : v = p.1
      · subst e
        simp
      · rw [if_neg e, hI v]
        simp [e]
    · rw [collect_id (by rfl)]
  · rintro n hI
    have hc : ¬ (M.length : Int) < (M.length : Int) := by omega
    simp -dsimp -implicitDefEqProofs only [g13, c13r0, c13r1, c13r2, c13k3, c13r4, c13r5, c13r6, c13r7, c13k8, c13r9, c13r10, c13r11, c13k12, c13k13, c13r14, c13b15, c13k16, c13r17, c13r18, c13r19, c13r20, c13k21, c13r22, c13k23, c13r24, c13b25, c13k26, c13r27, c13r28, c13r29, c13r30, c13r31, c13k32, c13r33, c13r34, c13r35, c13k36, c13r37, c13b38, c13k39, c13r40, c13r41, c13k42, c13r43, c13r44, c13k45, c13r46, c13k47, c13r48, c13r49, c13k50, c13r51, c13b52, c13k53, c13k54, c13r55, c13b56, c13k57, c13r58, c13r59, c13k60, c13r61, c13r62, c13r63, c13k64, c13r65, c13r66, c13k67, c13k68, c13r69, c13b70, c13k71, c13r72, c13k73, c13r74, c13b75, c13k76, c13r77, c13, go_sem, seval, ↓reduceIte, hR, List.length_map, hc]
    exact hQ _ _ rfl
end Go.Proofs.Ytmajapjbogmefaa
