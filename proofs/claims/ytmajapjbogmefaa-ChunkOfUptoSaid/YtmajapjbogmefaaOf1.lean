/- What is proved: the rounds of chunk.Of gather the spans. -/
import Derived.Test.YtmajapjbogmefaaSpans
set_option linter.unusedSimpArgs false
set_option linter.unusedVariables false
namespace Go.Proofs.Ytmajapjbogmefaa
open Go.Am
def hOf (x : Fl) (l : List Sp) (P : List PV) : Heap := [.box (some 5) (.pv (some 5) x.pv), .box (some 3) (.agg [(none, .sl none 2 0 0 0), (none, .sl none 3 P.length 0 P.length), (none, .sl none 4 0 0 0)]), .arr none [] false, .arr none P false, .arr none [] false, .map (some 3) (ents l), .box none (.map 5), .box none (.sl none 8 l.length 0 l.length), .arr none (ords l) false, .box (some 5) (.pv (some 5) x.pv)]
def lOf : AObj := .loop 12 [22] [(4, .ptr 6 0), (5, .ptr 7 0)] false
theorem sp_part1 (x : Sp) : PV.part deep x.pv 1 none = some (.int .i64 x.first) := rfl
theorem sp_part2 (x : Sp) : PV.part deep x.pv 2 none = some (.int .i64 x.last) := rfl
theorem of_rnd (x : Fl) : Rnd (fun s => hOf x (sps s) [] ++ [lOf]) 11 10 12 where
  len s := rfl
  lt := by omega
  fn s := rfl
  call s w c ext hlim := by
    refine sem_round (ps := [22]) (env := [(4, .ptr 6 0), (5, .ptr 7 0)]) rfl rfl rfl rfl ?_
    have hle := sps_len s
    rw [sps_snoc]
    generalize sps s = l at *
    unfold LIM at hlim
    have hfd := ents_find w l
    have hb : ∀ (n : Nat) (c : Int), sBuild [(none, .pv none (.int .i64 0)), (none, .pv none (.int .i64 0)), (none, .pv none (.int .i64 0))] [0, 1] [.pv none (.int .i64 n), .pv none (.int .i64 c)] = some (.pv (some 3) (.agg [(none, .int .i64 n), (none, .int .i64 c), (none, .int .i64 0)])) := fun _ _ => rfl
    have hms : ∀ (es' : List (PV × PV)) (p : PV) (a0 a1 a2 a3 a4 : AObj) (e : Heap), aput false (.int .i64 w) p (ents l) = some es' → wMapset false (some 3) (a0 :: a1 :: a2 :: a3 :: a4 :: .map (some 3) (ents l) :: e) [.map 5, .pv none (.int .i64 w), .pv (some 3) p] = some (.undef, a0 :: a1 :: a2 :: a3 :: a4 :: .map (some 3) es' :: e) := fun es' p a0 a1 a2 a3 a4 e h => w_mapset_pv rfl h
    have hap : ∀ (a0 a1 a2 a3 a4 a5 a6 a7 : AObj) (e : Heap), wAppend none (a0 :: a1 :: a2 :: a3 :: a4 :: a5 :: a6 :: a7 :: .arr none (ords l) false :: e) [.sl none 8 l.length 0 l.length, .tsl none [.int .i64 w]] = some (.sl none 8 (l.length + 1) 0 (l.length + 1), a0 :: a1 :: a2 :: a3 :: a4 :: a5 :: a6 :: a7 :: .arr none (ords l ++ [.int .i64 w]) false :: e) := fun a0 a1 a2 a3 a4 a5 a6 a7 e =>
      w_append_tsl (show okArr none l.length (some (.arr none (ords l) false)) from ⟨rfl, ords_len l⟩) (by simp [lim]; omega)
    have hst : ∀ (n o' n' : Nat) (a0 a1 a2 a3 a4 a5 a6 : AObj) (e : Heap) (b : Nat), wStore none (b + 11) (a0 :: a1 :: a2 :: a3 :: a4 :: a5 :: a6 :: .box none (.sl none 8 n 0 n) :: e) [.ptr 7 0, .sl none 8 n' o' n'] = some (.undef, a0 :: a1 :: a2 :: a3 :: a4 :: a5 :: a6 :: .box none (.sl none 8 n' o' n') :: e) := fun n o' n' a0 a1 a2 a3 a4 a5 a6 e b => w_store_sl_out (by omega) rfl
    have g12 : ∀ (e : Heap) (a b : AObj), (e ++ [a] ++ [b])[e.length + 1]? = some b := fun e a b => by simp
    have g11 : ∀ (e : Heap) (a b : AObj), (e ++ [a, b])[e.length]? = some a := fun e a b => by simp
    have g12' : ∀ (e : Heap) (a b : AObj), (e ++ [a, b])[e.length + 1]? = some b := fun e a b => by simp
    have s12' : ∀ (e : Heap) (a b x : AObj), (e ++ [a, b]).set (e.length + 1) x = e ++ [a, x] := fun e a b x => by simp
    have up2 : ∀ (a b c d : Int), AV.upd deep (.pv (some 3) (.agg [(none, .int .i64 a), (none, .int .i64 b), (none, .int .i64 c)])) 2 none (.pv none (.int .i64 d)) = some (.pv (some 3) (.agg [(none, .int .i64 a), (none, .int .i64 b), (none, .int .i64 d)])) := fun _ _ _ _ => rfl
    cases hs : spFind w l with
    | none =>
      rw [hs] at hfd
      simp only [Option.map_none] at hfd
      have h1 := fun a0 a1 a2 a3 a4 e ok zero => r_lookup_none (str := false) (sh := some 3) (zero := zero) (ok := ok) (hp := a0 :: a1 :: a2 :: a3 :: a4 :: .map (some 3) (ents l) :: e) (r := 5) (s := none) rfl hfd
      have h2 := fun a0 a1 a2 a3 a4 e => hms _ _ a0 a1 a2 a3 a4 e (ents_put_new w c l.length l hs)
      simp only [Sp.pv] at h2
      simp -dsimp -implicitDefEqProofs only [g12, c12r0, c12r1, c12r2, c12k3, c12r4, c12r5, c12r6, c12r7, c12r8, c12k9, c12r10, c12r11, c12r12, c12k13, c12k14, c12r15, c12b16, c12k17, c12r18, c12r19, c12r20, c12r21, c12k22, c12r23, c12r24, c12r25, c12r26, c12r27, c12k28, c12r29, c12k30, c12b31, c12k32, c12r33, c12k34, c12r35, c12k36, c12r37, c12b38, c12k39, c12r40, c12p41, c12r42, c12r43, c12r44, c12r45, c12r46, c12k47, c12r48, c12r49, c12k50, c12q51, c12, go_sem, seval, ↓reduceIte, List.append_assoc, List.cons_append, List.nil_append, Nat.add_assoc, List.length_append, List.length_cons, List.length_nil, Nat.zero_add, hOf, lOf, zipFr, part_place0, part_place1, get_last, append_set_last]
      refine ⟨⟨_, rfl⟩, ?_⟩
      simp -dsimp -implicitDefEqProofs only [g12, c12r0, c12r1, c12r2, c12k3, c12r4, c12r5, c12r6, c12r7, c12r8, c12k9, c12r10, c12r11, c12r12, c12k13, c12k14, c12r15, c12b16, c12k17, c12r18, c12r19, c12r20, c12r21, c12k22, c12r23, c12r24, c12r25, c12r26, c12r27, c12k28, c12r29, c12k30, c12b31, c12k32, c12r33, c12k34, c12r35, c12k36, c12r37, c12b38, c12k39, c12r40, c12p41, c12r42, c12r43, c12r44, c12r45, c12r46, c12k47, c12r48, c12r49, c12k50, c12q51, c12, go_sem, seval, ↓reduceIte, List.append_assoc, List.cons_append, List.nil_append, Nat.add_assoc, List.length_append, List.length_cons, List.length_nil, Nat.zero_add, hOf, lOf, part_place0, part_place1, get_last, append_set_last, h1, h2, hap, hst, hb, g11, g12', s12', up2]
      simp [spStep, hs, List.take_succ_cons, List.take_left, ords, spSet_len]
    | some y =>
      rw [hs] at hfd
      simp only [Option.map_some] at hfd
      have h1 := fun a0 a1 a2 a3 a4 e ok zero => r_lookup_some (str := false) (sh := some 3) (zero := zero) (ok := ok) (hp := a0 :: a1 :: a2 :: a3 :: a4 :: .map (some 3) (ents l) :: e) (r := 5) (s := none) rfl hfd
      have h2 := fun a0 a1 a2 a3 a4 e => hms _ _ a0 a1 a2 a3 a4 e (ents_put_old w c l y hs)
      simp only [Sp.pv] at h1 h2
      simp -dsimp -implicitDefEqProofs only [g12, c12r0, c12r1, c12r2, c12k3, c12r4, c12r5, c12r6, c12r7, c12r8, c12k9, c12r10, c12r11, c12r12, c12k13, c12k14, c12r15, c12b16, c12k17, c12r18, c12r19, c12r20, c12r21, c12k22, c12r23, c12r24, c12r25, c12r26, c12r27, c12k28, c12r29, c12k30, c12b31, c12k32, c12r33, c12k34, c12r35, c12k36, c12r37, c12b38, c12k39, c12r40, c12p41, c12r42, c12r43, c12r44, c12r45, c12r46, c12k47, c12r48, c12r49, c12k50, c12q51, c12, go_sem, seval, ↓reduceIte, List.append_assoc, List.cons_append, List.nil_append, Nat.add_assoc, List.length_append, List.length_cons, List.length_nil, Nat.zero_add, hOf, lOf, zipFr, part_place0, part_place1, get_last, append_set_last]
      refine ⟨⟨_, rfl⟩, ?_⟩
      simp -dsimp -implicitDefEqProofs only [g12, c12r0, c12r1, c12r2, c12k3, c12r4, c12r5, c12r6, c12r7, c12r8, c12k9, c12r10, c12r11, c12r12, c12k13, c12k14, c12r15, c12b16, c12k17, c12r18, c12r19, c12r20, c12r21, c12k22, c12r23, c12r24, c12r25, c12r26, c12r27, c12k28, c12r29, c12k30, c12b31, c12k32, c12r33, c12k34, c12r35, c12k36, c12r37, c12b38, c12k39, c12r40, c12p41, c12r42, c12r43, c12r44, c12r45, c12r46, c12k47, c12r48, c12r49, c12k50, c12q51, c12, go_sem, seval, ↓reduceIte, List.append_assoc, List.cons_append, List.nil_append, Nat.add_assoc, List.length_append, List.length_cons, List.length_nil, Nat.zero_add, hOf, lOf, part_place0, part_place1, get_last, append_set_last, h1, h2, hap, hst, hb, g11, g12', s12', up2]
      simp [spStep, hs, List.take_succ_cons, List.take_left, ords_set, spSet_len]
end Go.Proofs.Ytmajapjbogmefaa
