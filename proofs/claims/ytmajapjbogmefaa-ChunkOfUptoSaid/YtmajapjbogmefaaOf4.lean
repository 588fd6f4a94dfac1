/- What is proved: what chunk.Of gives: how long variables live. -/
import Derived.Test.YtmajapjbogmefaaOf3
set_option linter.unusedSimpArgs false
set_option linter.unusedVariables false
namespace Go.Proofs.Ytmajapjbogmefaa
open Go.Am
def twl (l : List Sp) (perm : List Int) (c : Int) : Nat := (perm.takeWhile (fun v => decide (c < lastOf l v))).length
def liveAt (l : List Sp) (perm : List Int) (c : Int) (g : Gl) : Int := if g.kind = 1 then (twl l perm c : Int) else 0
def ofsOf : Int → List Gl → List Int
  | _, [] => []
  | c, g :: r => c :: ofsOf (g.next c) r
def livesOf (l : List Sp) (perm : List Int) : Int → List Gl → List Int
  | _, [] => []
  | c, g :: r => liveAt l perm c g :: livesOf l perm (g.next c) r
theorem ofsOf_drop {c : Int} {l : List Gl} {i : Nat} {g : Gl} (h : l[i]? = some g) : ofsOf c (l.drop i) = c :: ofsOf (g.next c) (l.drop (i + 1)) := by
  obtain ⟨h1, rfl⟩ := List.getElem?_eq_some_iff.1 h
  rw [List.drop_eq_getElem_cons h1, ofsOf]
theorem livesOf_drop {s : List Sp} {perm : List Int} {c : Int} {l : List Gl} {i : Nat} {g : Gl} (h : l[i]? = some g) : livesOf s perm c (l.drop i) = liveAt s perm c g :: livesOf s perm (g.next c) (l.drop (i + 1)) := by
  obtain ⟨h1, rfl⟩ := List.getElem?_eq_some_iff.1 h
  rw [List.drop_eq_getElem_cons h1, livesOf]
def hOf4 (x : Fl) (l : List Sp) (A P B : List PV) (e : Heap) : Heap := .box (some 5) (.pv (some 5) x.pv) :: .box (some 3) (.agg [(none, .sl none 2 A.length 0 A.length), (none, .sl none 3 P.length 0 P.length), (none, .sl none 4 B.length 0 B.length)]) :: .arr none A false :: .arr none P false :: .arr none B false :: .map (some 3) (ents l) :: .box none (.map 5) :: .box none (.sl none 8 l.length 0 l.length) :: .arr none (ords l) false :: .box (some 5) (.pv (some 5) x.pv) :: e
theorem of_live (x : Fl) (l : List Sp) (perm : List Int) (hp : perm.length < 500000000) (A B : List PV) (y z : AObj) (c : Int) (g0 g1 g2 : AV) (r0 : Fr) (Q : AExit → St → Prop)
    (hQ : ∀ r : Fr, Q .normal ⟨(2, .ptr 1 0) :: (4, .ptr 6 0) :: (11, .pv none (.int .i64 c)) :: (14, .pv none (.int .i64 (twl l perm c))) :: (76, g0) :: (77, g1) :: (78, g2) :: r, hOf4 x l A (ints perm) B [y, z]⟩) :
    W Z L 0 c12k32 ⟨(2, .ptr 1 0) :: (4, .ptr 6 0) :: (11, .pv none (.int .i64 c)) :: (14, .pv none (.int .i64 0)) :: (76, g0) :: (77, g1) :: (78, g2) :: r0, hOf4 x l A (ints perm) B [y, z]⟩ Q := by
  simp -dsimp -implicitDefEqProofs only [g12, c12r0, c12r1, c12r2, c12k3, c12r4, c12r5, c12r6, c12r7, c12r8, c12k9, c12r10, c12r11, c12r12, c12k13, c12k14, c12r15, c12b16, c12k17, c12r18, c12r19, c12r20, c12r21, c12k22, c12r23, c12r24, c12r25, c12r26, c12r27, c12k28, c12r29, c12k30, c12b31, c12k32, c12r33, c12k34, c12r35, c12k36, c12r37, c12b38, c12k39, c12r40, c12p41, c12r42, c12r43, c12r44, c12r45, c12r46, c12k47, c12r48, c12r49, c12k50, c12q51, c12, go_sem, seval, ↓reduceIte]
  refine W_loop (fun n st => ∃ k : Nat, n = perm.length - k ∧ k ≤ perm.length ∧ twl l perm c = k + ((perm.drop k).takeWhile (fun v => decide (c < lastOf l v))).length ∧ st = ⟨[(2, .ptr 1 0), (4, .ptr 6 0), (11, .pv none (.int .i64 c)), (14, .pv none (.int .i64 k)), (76, g0), (77, g1), (78, g2)], hOf4 x l A (ints perm) B [y, z]⟩) (n := perm.length) ⟨0, rfl, Nat.zero_le _, by simp [twl], rfl⟩ ?_
  rintro n st ⟨k, hn, hk, htw, rfl⟩
  by_cases h : k < perm.length
  · have hc : (k : Int) < (perm.length : Int) := by omega
    obtain ⟨v, hv⟩ : ∃ v, perm[k]? = some v := ⟨_, List.getElem?_eq_getElem (by omega)⟩
    have hdr : perm.drop k = v :: perm.drop (k + 1) := by
      obtain ⟨h1, h2⟩ := List.getElem?_eq_some_iff.1 hv
      rw [List.drop_eq_getElem_cons h1, h2]
    have hvi := ints_get hv
    obtain ⟨t, h1, h2, _⟩ := last_lookup l v [] (.box (some 5) (.pv (some 5) x.pv)) (.box (some 3) (.agg [(none, .sl none 2 A.length 0 A.length), (none, .sl none 3 (ints perm).length 0 (ints perm).length), (none, .sl none 4 B.length 0 B.length)])) (.arr none A false) (.arr none (ints perm) false) (.arr none B false) [.box none (.map 5), .box none (.sl none 8 l.length 0 l.length), .arr none (ords l) false, .box (some 5) (.pv (some 5) x.pv), y, z]
    have w2 : IntKind.i64.wrap ((k : Int) + 1) = ((k + 1 : Nat) : Int) := by rw [wrap64 (by omega) (by omega)]; omega
    have hil := ints_len perm
    have hix : sIaddr none [.sl none 3 (ints perm).length 0 (ints perm).length, .pv none (.int .i64 k)] = some (.eptr none 3 (ints perm).length k 0) := by have := s_iaddr_sl (sh := none) (r := 3) (v := (ints perm).length) (o := 0) (s' := none) (k := .i64) (i := k) (n := (ints perm).length) (by omega); rwa [Nat.zero_add] at this
    have hld : ∀ (a0 a1 a2 : AObj) (e : Heap), aload none (a0 :: a1 :: a2 :: .arr none (ints perm) false :: e) (.eptr none 3 (ints perm).length k 0) = some (.pv none (.int .i64 v)) := fun a0 a1 a2 e => by simp [aload, hvi]
    have hc' : (k : Int) < ((ints perm).length : Int) := by omega
    by_cases hl : c < lastOf l v
    · simp -dsimp -implicitDefEqProofs only [g12, c12r0, c12r1, c12r2, c12k3, c12r4, c12r5, c12r6, c12r7, c12r8, c12k9, c12r10, c12r11, c12r12, c12k13, c12k14, c12r15, c12b16, c12k17, c12r18, c12r19, c12r20, c12r21, c12k22, c12r23, c12r24, c12r25, c12r26, c12r27, c12k28, c12r29, c12k30, c12b31, c12k32, c12r33, c12k34, c12r35, c12k36, c12r37, c12b38, c12k39, c12r40, c12p41, c12r42, c12r43, c12r44, c12r45, c12r46, c12k47, c12r48, c12r49, c12k50, c12q51, c12, go_sem, seval, ↓reduceIte, hOf4, hc', hix, hld, h1, h2, hl, w2]
      refine ⟨perm.length - (k + 1), by omega, k + 1, rfl, by omega, ?_, ?_⟩
      · rw [htw, hdr, List.takeWhile_cons, if_pos (by simpa using hl), List.length_cons]
        omega
      · rw [collect_id (by rfl)]
    · simp -dsimp -implicitDefEqProofs only [g12, c12r0, c12r1, c12r2, c12k3, c12r4, c12r5, c12r6, c12r7, c12r8, c12k9, c12r10, c12r11, c12r12, c12k13, c12k14, c12r15, c12b16, c12k17, c12r18, c12r19, c12r20, c12r21, c12k22, c12r23, c12r24, c12r25, c12r26, c12r27, c12k28, c12r29, c12k30, c12b31, c12k32, c12r33, c12k34, c12r35, c12k36, c12r37, c12b38, c12k39, c12r40, c12p41, c12r42, c12r43, c12r44, c12r45, c12r46, c12k47, c12r48, c12r49, c12k50, c12q51, c12, go_sem, seval, ↓reduceIte, hOf4, hc', hix, hld, h1, h2, hl, w2]
      rw [hdr, List.takeWhile_cons, if_neg (by simpa using hl)] at htw
      have := hQ
      rw [htw] at this
      simp only [hOf4, List.length_nil, Nat.add_zero] at this
      exact this _
  · have hil := ints_len perm
    have hc' : ¬ (k : Int) < ((ints perm).length : Int) := by omega
    simp -dsimp -implicitDefEqProofs only [g12, c12r0, c12r1, c12r2, c12k3, c12r4, c12r5, c12r6, c12r7, c12r8, c12k9, c12r10, c12r11, c12r12, c12k13, c12k14, c12r15, c12b16, c12k17, c12r18, c12r19, c12r20, c12r21, c12k22, c12r23, c12r24, c12r25, c12r26, c12r27, c12k28, c12r29, c12k30, c12b31, c12k32, c12r33, c12k34, c12r35, c12k36, c12r37, c12b38, c12k39, c12r40, c12p41, c12r42, c12r43, c12r44, c12r45, c12r46, c12k47, c12r48, c12r49, c12k50, c12q51, c12, go_sem, seval, ↓reduceIte, hOf4, hc']
    rw [List.drop_of_length_le (by omega)] at htw
    have := hQ
    rw [htw] at this
    simp only [hOf4, List.takeWhile_nil, List.length_nil, Nat.add_zero] at this
    exact this _
theorem of_loop2 (x : Fl) (l : List Sp) (perm : List Int) (hp : perm.length < 500000000) (hg : x.goals.length < 500000000) (Q : AExit → St → Prop)
    (hQ : ∀ r : Fr, Q .normal ⟨(2, .ptr 1 0) :: (4, .ptr 6 0) :: r, hOf4 x l (ints (ofsOf 0 x.goals)) (ints perm) (ints (livesOf l perm 0 x.goals)) []⟩) :
    W Z L 0 c12k39 ⟨[(2, .ptr 1 0), (4, .ptr 6 0), (11, .pv none (.int .i64 0)), (76, .pv none (.sl (some 6) (Gl.pvs x.goals))), (77, .pv none (.int .i64 x.goals.length)), (78, .pv none (.int .i64 0))], hOf4 x l [] (ints perm) [] []⟩ Q := by
  simp -dsimp -implicitDefEqProofs only [g12, c12r0, c12r1, c12r2, c12k3, c12r4, c12r5, c12r6, c12r7, c12r8, c12k9, c12r10, c12r11, c12r12, c12k13, c12k14, c12r15, c12b16, c12k17, c12r18, c12r19, c12r20, c12r21, c12k22, c12r23, c12r24, c12r25, c12r26, c12r27, c12k28, c12r29, c12k30, c12b31, c12r33, c12k34, c12r35, c12k36, c12r37, c12b38, c12k39, c12r40, c12p41, c12r42, c12r43, c12r44, c12r45, c12r46, c12k47, c12r48, c12r49, c12k50, c12q51, c12, go_sem, seval, ↓reduceIte]
  refine W_for (α := Int × List Int × List Int) x.goals.length (fun i a => 0 ≤ a.1 ∧ a.1 ≤ i ∧ ofsOf 0 x.goals = a.2.1 ++ ofsOf a.1 (x.goals.drop i) ∧ livesOf l perm 0 x.goals = a.2.2 ++ livesOf l perm a.1 (x.goals.drop i) ∧ a.2.1.length = i ∧ a.2.2.length = i)
    (fun i a => ⟨[(2, .ptr 1 0), (4, .ptr 6 0), (11, .pv none (.int .i64 a.1)), (76, .pv none (.sl (some 6) (Gl.pvs x.goals))), (77, .pv none (.int .i64 x.goals.length)), (78, .pv none (.int .i64 i))], hOf4 x l (ints a.2.1) (ints perm) (ints a.2.2) []⟩) (0, [], []) ⟨⟨Int.le_refl _, Int.le_refl _, rfl, rfl, rfl, rfl⟩, rfl⟩ ?_ ?_
  · rintro i ⟨c, A, B⟩ h ⟨hc0, hci, hA, hB, hAl, hBl⟩
    dsimp only at hc0 hci hA hB hAl hBl
    have hc : (i : Int) < (x.goals.length : Int) := by omega
    obtain ⟨g, hg⟩ : ∃ g, x.goals[i]? = some g := ⟨_, List.getElem?_eq_getElem h⟩
    have w2 : IntKind.i64.wrap ((i : Int) + 1) = ((i + 1 : Nat) : Int) := by rw [wrap64 (by omega) (by omega)]; omega
    have w3 : IntKind.i64.wrap (c + 1) = c + 1 := by rw [wrap64 (by omega) (by omega)]
    rw [ofsOf_drop hg] at hA
    rw [livesOf_drop hg] at hB
    have hAi := ints_len A
    have hBi := ints_len B
    have happA : ∀ (v : Int) (a0 a1 : AObj) (e : Heap), wAppend none (a0 :: a1 :: .arr none (ints A) false :: e) [.sl none 2 (ints A).length 0 (ints A).length, .tsl none [.int .i64 v]] = some (.sl none 2 ((ints A).length + 1) 0 ((ints A).length + 1), a0 :: a1 :: .arr none (ints A ++ [.int .i64 v]) false :: e) := fun v a0 a1 e =>
      w_append_tsl (show okArr none (ints A).length (some (.arr none (ints A) false)) from ⟨rfl, rfl⟩) (by simp [lim]; omega)
    have happB : ∀ (v : Int) (a0 a1 a2 a3 : AObj) (e : Heap), wAppend none (a0 :: a1 :: a2 :: a3 :: .arr none (ints B) false :: e) [.sl none 4 (ints B).length 0 (ints B).length, .tsl none [.int .i64 v]] = some (.sl none 4 ((ints B).length + 1) 0 ((ints B).length + 1), a0 :: a1 :: a2 :: a3 :: .arr none (ints B ++ [.int .i64 v]) false :: e) := fun v a0 a1 a2 a3 e =>
      w_append_tsl (show okArr none (ints B).length (some (.arr none (ints B) false)) from ⟨rfl, rfl⟩) (by simp [lim]; omega)
    have hstA : ∀ (n m n3 n4 : Nat) (a0 : AObj) (e : Heap), wStore none 0 (a0 :: .box (some 3) (.agg [(none, .sl none 2 n 0 n), (none, .sl none 3 n3 0 n3), (none, .sl none 4 n4 0 n4)]) :: e) [.ptr 1 0, .sl none 2 m 0 m] = some (.undef, a0 :: .box (some 3) (.agg [(none, .sl none 2 m 0 m), (none, .sl none 3 n3 0 n3), (none, .sl none 4 n4 0 n4)]) :: e) := fun n m n3 n4 a0 e => rfl
    have hstB : ∀ (n m n3 n4 : Nat) (a0 : AObj) (e : Heap), wStore none 0 (a0 :: .box (some 3) (.agg [(none, .sl none 2 n 0 n), (none, .sl none 3 n3 0 n3), (none, .sl none 4 n4 0 n4)]) :: e) [.ptr 1 2, .sl none 4 m 0 m] = some (.undef, a0 :: .box (some 3) (.agg [(none, .sl none 2 n 0 n), (none, .sl none 3 n3 0 n3), (none, .sl none 4 m 0 m)]) :: e) := fun n m n3 n4 a0 e => rfl
    have hcl : ∀ (fr : Fr) (A' B' : List PV) (y z : AObj), fr.all (fun x => x.2.refsIn.all (fun q => decide (q < 10))) = true → collect 10 0 fr (hOf4 x l A' (ints perm) B' [y, z]) = hOf4 x l A' (ints perm) B' [] := fun fr A' B' y z hf => by
      unfold collect
      rw [if_pos]
      · rfl
      · rw [hf]; rfl
    have key : ∀ (c' : Int) (y z : AObj), c' = g.next c → ∃ a' : Int × List Int × List Int, (0 ≤ a'.1 ∧ a'.1 ≤ ((i + 1 : Nat) : Int) ∧ ofsOf 0 x.goals = a'.2.1 ++ ofsOf a'.1 (x.goals.drop (i + 1)) ∧ livesOf l perm 0 x.goals = a'.2.2 ++ livesOf l perm a'.1 (x.goals.drop (i + 1)) ∧ a'.2.1.length = i + 1 ∧ a'.2.2.length = i + 1) ∧
        (⟨[(2, .ptr 1 0), (4, .ptr 6 0), (11, .pv none (.int .i64 c')), (76, .pv none (.sl (some 6) (Gl.pvs x.goals))), (77, .pv none (.int .i64 x.goals.length)), (78, .pv none (.int .i64 ((i + 1 : Nat) : Int)))], collect 10 0 [(2, .ptr 1 0), (4, .ptr 6 0), (11, .pv none (.int .i64 c')), (76, .pv none (.sl (some 6) (Gl.pvs x.goals))), (77, .pv none (.int .i64 x.goals.length)), (78, .pv none (.int .i64 ((i + 1 : Nat) : Int)))] (hOf4 x l (ints A ++ [.int .i64 c]) (ints perm) (ints B ++ [.int .i64 (liveAt l perm c g)]) [y, z])⟩ : St) =
        ⟨[(2, .ptr 1 0), (4, .ptr 6 0), (11, .pv none (.int .i64 a'.1)), (76, .pv none (.sl (some 6) (Gl.pvs x.goals))), (77, .pv none (.int .i64 x.goals.length)), (78, .pv none (.int .i64 ((i + 1 : Nat) : Int)))], hOf4 x l (ints a'.2.1) (ints perm) (ints a'.2.2) []⟩ := by
      rintro c' y z rfl
      have hnx : 0 ≤ g.next c ∧ g.next c ≤ c + 1 := by unfold Gl.next; split <;> omega
      refine ⟨(g.next c, A ++ [c], B ++ [liveAt l perm c g]), ⟨hnx.1, by have := hnx.2; dsimp only; omega, ?_, ?_, by simp [hAl], by simp [hBl]⟩, ?_⟩
      · rw [hA]; simp
      · rw [hB]; simp
      · rw [hcl _ _ _ _ _ (by simp [AV.refsIn])]
        simp [ints]
    by_cases hk : g.kind = 1
    · have hl : liveAt l perm c g = (twl l perm c : Int) := by simp [liveAt, hk]
      have hnx : g.next c = c + 1 := by simp [Gl.next, hk]
      rw [hl] at key
      simp -dsimp -implicitDefEqProofs only [g12, c12r0, c12r1, c12r2, c12k3, c12r4, c12r5, c12r6, c12r7, c12r8, c12k9, c12r10, c12r11, c12r12, c12k13, c12k14, c12r15, c12b16, c12k17, c12r18, c12r19, c12r20, c12r21, c12k22, c12r23, c12r24, c12r25, c12r26, c12r27, c12k28, c12r29, c12k30, c12b31, c12r33, c12k34, c12r35, c12k36, c12r37, c12b38, c12k39, c12r40, c12p41, c12r42, c12r43, c12r44, c12r45, c12r46, c12k47, c12r48, c12r49, c12k50, c12q51, c12, go_sem, seval, ↓reduceIte, hOf4, hc, s_iaddr_pv (Gl.pvs_get hg), gl_kind, hk, happA, hstA, w2, w3]
      have e1 : (ints A ++ [PV.int .i64 c]).length = (ints A).length + 1 := by simp
      have hlv := fun g0 g1 g2 r0 Q => of_live x l perm hp (ints A ++ [.int .i64 c]) (ints B) (.box (some 6) (.pv (some 6) g.pv)) (.arr (some 4) [] false) c g0 g1 g2 r0 Q
      simp only [hOf4, e1] at hlv
      refine hlv _ _ _ _ _ (fun r => ?_)
      simp -dsimp -implicitDefEqProofs only [g12, c12r0, c12r1, c12r2, c12k3, c12r4, c12r5, c12r6, c12r7, c12r8, c12k9, c12r10, c12r11, c12r12, c12k13, c12k14, c12r15, c12b16, c12k17, c12r18, c12r19, c12r20, c12r21, c12k22, c12r23, c12r24, c12r25, c12r26, c12r27, c12k28, c12r29, c12k30, c12b31, c12r33, c12k34, c12r35, c12k36, c12r37, c12b38, c12k39, c12r40, c12p41, c12r42, c12r43, c12r44, c12r45, c12r46, c12k47, c12r48, c12r49, c12k50, c12q51, c12, go_sem, seval, ↓reduceIte, hOf4, happB, hstB, w2, w3]
      have := key (c + 1) (.box (some 6) (.pv (some 6) g.pv)) (.arr (some 4) [] false) hnx.symm
      simp only [hOf4, List.length_append, List.length_cons, List.length_nil, Nat.zero_add] at this
      exact this
    · have hl : liveAt l perm c g = 0 := by simp [liveAt, hk]
      have hnx : g.next c = c := by simp [Gl.next, hk]
      rw [hl] at key
      simp -dsimp -implicitDefEqProofs only [g12, c12r0, c12r1, c12r2, c12k3, c12r4, c12r5, c12r6, c12r7, c12r8, c12k9, c12r10, c12r11, c12r12, c12k13, c12k14, c12r15, c12b16, c12k17, c12r18, c12r19, c12r20, c12r21, c12k22, c12r23, c12r24, c12r25, c12r26, c12r27, c12k28, c12r29, c12k30, c12b31, c12r33, c12k34, c12r35, c12k36, c12r37, c12b38, c12k39, c12r40, c12p41, c12r42, c12r43, c12r44, c12r45, c12r46, c12k47, c12r48, c12r49, c12k50, c12q51, c12, go_sem, seval, ↓reduceIte, hOf4, hc, s_iaddr_pv (Gl.pvs_get hg), gl_kind, hk, happA, hstA, happB, hstB, w2, w3]
      have := key c (.box (some 6) (.pv (some 6) g.pv)) (.arr (some 4) [] false) hnx.symm
      simp only [hOf4, List.length_append, List.length_cons, List.length_nil, Nat.zero_add] at this
      exact this
  · rintro ⟨c, A, B⟩ ⟨hc0, hci, hA, hB, hAl, hBl⟩
    have hc : ¬ (x.goals.length : Int) < (x.goals.length : Int) := by omega
    dsimp only at hA hB
    rw [List.drop_length, ofsOf, List.append_nil] at hA
    rw [List.drop_length, livesOf, List.append_nil] at hB
    simp -dsimp -implicitDefEqProofs only [g12, c12r0, c12r1, c12r2, c12k3, c12r4, c12r5, c12r6, c12r7, c12r8, c12k9, c12r10, c12r11, c12r12, c12k13, c12k14, c12r15, c12b16, c12k17, c12r18, c12r19, c12r20, c12r21, c12k22, c12r23, c12r24, c12r25, c12r26, c12r27, c12k28, c12r29, c12k30, c12b31, c12r33, c12k34, c12r35, c12k36, c12r37, c12b38, c12k39, c12r40, c12p41, c12r42, c12r43, c12r44, c12r45, c12r46, c12k47, c12r48, c12r49, c12k50, c12q51, c12, go_sem, seval, ↓reduceIte, hOf4, hc]
    have := hQ
    rw [hA, hB] at this
    simp only [hOf4] at this
    exact this _
end Go.Proofs.Ytmajapjbogmefaa
