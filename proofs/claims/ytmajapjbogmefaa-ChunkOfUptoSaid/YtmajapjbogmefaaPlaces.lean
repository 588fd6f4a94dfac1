/- What is proved: the reference's occurrences in a flat clause. -/
import Derived.Test.YtmajapjbogmefaaWithin
set_option linter.unusedSimpArgs false
set_option linter.unusedVariables false
namespace Go.Proofs.Ytmajapjbogmefaa
open Go.Am
theorem placesArgs_ok (f : Fl) (Q : AExit → St → Prop) (hl : Tm.sizes f.args < 1000000000)
    (hQ : ∀ r : Fr, Q .normal ⟨(1, .ptr 0 0) :: (3, .sl (some 2) 2 (Tm.occs f.args).length 0 (Tm.occs f.args).length) :: r, [.box (some 5) (.pv (some 5) f.pv), .arr (some 2) [] false, .arr (some 2) ((Tm.occs f.args).map (placeP 0)) false]⟩) :
    W Z L 0 c29k9 ⟨[(1, .ptr 0 0), (3, .sl (some 2) 2 0 0 0), (4, .pv none (.int .i64 0))], [.box (some 5) (.pv (some 5) f.pv), .arr (some 2) [] false, .arr (some 2) [] false]⟩ Q := by
  have hlen := Tm.sizes_len f.args
  simp -dsimp -implicitDefEqProofs only [g29, c29r0, c29r1, c29r2, c29r3, c29k4, c29r5, c29k6, c29r7, c29b8, c29k9, c29r10, c29r11, c29r12, c29k13, c29r14, c29r15, c29r16, c29k17, c29r18, c29k19, c29r20, c29b21, c29k22, c29r23, c29r24, c29k25, c29r26, c29r27, c29k28, c29k29, c29r30, c29b31, c29k32, c29r33, c29, go_sem, seval, ↓reduceIte]
  refine W_loop (fun n st => ∃ i : Nat, n = f.args.length - i ∧ i ≤ f.args.length ∧ st = ⟨[(1, .ptr 0 0), (3, .sl (some 2) 2 (Tm.occs (f.args.take i)).length 0 (Tm.occs (f.args.take i)).length), (4, .pv none (.int .i64 i))],
    [.box (some 5) (.pv (some 5) f.pv), .arr (some 2) [] false, .arr (some 2) ((Tm.occs (f.args.take i)).map (placeP 0)) false]⟩) (n := f.args.length) ⟨0, rfl, Nat.zero_le _, rfl⟩ ?_
  rintro n st ⟨i, hn, hi, rfl⟩
  by_cases h : i < f.args.length
  · have hc : (i : Int) < (f.args.length : Int) := by omega
    obtain ⟨u, hu⟩ : ∃ u, f.args[i]? = some u := ⟨_, List.getElem?_eq_getElem h⟩
    have hle := Tm.sizes_take_le f.args (i + 1)
    have hst := Tm.sizes_take hu
    have h1 := Tm.occs_len (f.args.take i)
    have hlm : ((Tm.occs (f.args.take i)).map (placeP 0)).length = (Tm.occs (f.args.take i)).length := by simp
    have hcall := within_ok u [.box (some 5) (.pv (some 5) f.pv), .arr (some 2) [] false, .arr (some 2) ((Tm.occs (f.args.take i)).map (placeP 0)) false] 2 ((Tm.occs (f.args.take i)).map (placeP 0)) 0 (by rw [hlm]; omega) rfl
    rw [hlm] at hcall
    simp only [Tm.av] at hcall
    have w2 : IntKind.i64.wrap ((i : Int) + 1) = ((i + 1 : Nat) : Int) := by rw [wrap64 (by omega) (by omega)]; omega
    simp -dsimp -implicitDefEqProofs only [g29, c29r0, c29r1, c29r2, c29r3, c29k4, c29r5, c29k6, c29r7, c29b8, c29k9, c29r10, c29r11, c29r12, c29k13, c29r14, c29r15, c29r16, c29k17, c29r18, c29k19, c29r20, c29b21, c29k22, c29r23, c29r24, c29k25, c29r26, c29r27, c29k28, c29k29, c29r30, c29b31, c29k32, c29r33, c29, go_sem, seval, ↓reduceIte, fl_args, Tm.pvs_len, hc, s_iaddr_pv (Tm.pvs_get hu), hcall, w2]
    refine ⟨f.args.length - (i + 1), by omega, i + 1, rfl, by omega, ?_⟩
    rw [Tm.occs_take hu]
    simp only [List.length_append, List.map_append]
  · have hc : ¬ (i : Int) < (f.args.length : Int) := by omega
    obtain rfl : i = f.args.length := by omega
    simp -dsimp -implicitDefEqProofs only [g29, c29r0, c29r1, c29r2, c29r3, c29k4, c29r5, c29k6, c29r7, c29b8, c29k9, c29r10, c29r11, c29r12, c29k13, c29r14, c29r15, c29r16, c29k17, c29r18, c29k19, c29r20, c29b21, c29k22, c29r23, c29r24, c29k25, c29r26, c29r27, c29k28, c29k29, c29r30, c29b31, c29k32, c29r33, c29, go_sem, seval, ↓reduceIte, fl_args, Tm.pvs_len, hc]
    rw [List.take_length]
    exact hQ _
theorem placesGoal_ok (f : Fl) (g : Gl) (es : List PV) (c : Int) (i : Nat) (Q : AExit → St → Prop) (hl : es.length + Tm.sizes g.args < 1000000000)
    (hQ : ∀ r : Fr, Q .normal ⟨(1, .ptr 0 0) :: (3, .sl (some 2) 2 (es.length + (Tm.occs g.args).length) 0 (es.length + (Tm.occs g.args).length)) :: (5, .pv none (.int .i64 c)) :: (6, .pv none (.int .i64 i)) :: (7, .ptr 3 0) :: r, [.box (some 5) (.pv (some 5) f.pv), .arr (some 2) [] false, .arr (some 2) (es ++ (Tm.occs g.args).map (placeP c)) false, .box (some 6) (.pv (some 6) g.pv), .arr (some 4) [] false]⟩) :
    W Z L 0 c29k22 ⟨[(1, .ptr 0 0), (3, .sl (some 2) 2 es.length 0 es.length), (5, .pv none (.int .i64 c)), (6, .pv none (.int .i64 i)), (7, .ptr 3 0), (8, .pv none (.int .i64 0))], [.box (some 5) (.pv (some 5) f.pv), .arr (some 2) [] false, .arr (some 2) es false, .box (some 6) (.pv (some 6) g.pv), .arr (some 4) [] false]⟩ Q := by
  have hlen := Tm.sizes_len g.args
  simp -dsimp -implicitDefEqProofs only [g29, c29r0, c29r1, c29r2, c29r3, c29k4, c29r5, c29k6, c29r7, c29b8, c29k9, c29r10, c29r11, c29r12, c29k13, c29r14, c29r15, c29r16, c29k17, c29r18, c29k19, c29r20, c29b21, c29k22, c29r23, c29r24, c29k25, c29r26, c29r27, c29k28, c29k29, c29r30, c29b31, c29k32, c29r33, c29, go_sem, seval, ↓reduceIte]
  refine W_loop (fun n st => ∃ k : Nat, n = g.args.length - k ∧ k ≤ g.args.length ∧ st = ⟨[(1, .ptr 0 0), (3, .sl (some 2) 2 (es.length + (Tm.occs (g.args.take k)).length) 0 (es.length + (Tm.occs (g.args.take k)).length)), (5, .pv none (.int .i64 c)), (6, .pv none (.int .i64 i)), (7, .ptr 3 0), (8, .pv none (.int .i64 k))],
    [.box (some 5) (.pv (some 5) f.pv), .arr (some 2) [] false, .arr (some 2) (es ++ (Tm.occs (g.args.take k)).map (placeP c)) false, .box (some 6) (.pv (some 6) g.pv), .arr (some 4) [] false]⟩) (n := g.args.length) ⟨0, rfl, Nat.zero_le _, ?_⟩ ?_
  · simp only [List.take_zero, Tm.occs, List.map_nil, List.append_nil, List.length_nil, Nat.add_zero]
    rfl
  rintro n st ⟨k, hn, hi, rfl⟩
  by_cases h : k < g.args.length
  · have hc : (k : Int) < (g.args.length : Int) := by omega
    obtain ⟨u, hu⟩ : ∃ u, g.args[k]? = some u := ⟨_, List.getElem?_eq_getElem h⟩
    have hle := Tm.sizes_take_le g.args (k + 1)
    have hst := Tm.sizes_take hu
    have h1 := Tm.occs_len (g.args.take k)
    have hlm : (es ++ (Tm.occs (g.args.take k)).map (placeP c)).length = es.length + (Tm.occs (g.args.take k)).length := by simp
    have hcall := within_ok u [.box (some 5) (.pv (some 5) f.pv), .arr (some 2) [] false, .arr (some 2) (es ++ (Tm.occs (g.args.take k)).map (placeP c)) false, .box (some 6) (.pv (some 6) g.pv), .arr (some 4) [] false] 2 (es ++ (Tm.occs (g.args.take k)).map (placeP c)) c (by rw [hlm]; omega) rfl
    rw [hlm] at hcall
    simp only [Tm.av] at hcall
    have w2 : IntKind.i64.wrap ((k : Int) + 1) = ((k + 1 : Nat) : Int) := by rw [wrap64 (by omega) (by omega)]; omega
    simp -dsimp -implicitDefEqProofs only [g29, c29r0, c29r1, c29r2, c29r3, c29k4, c29r5, c29k6, c29r7, c29b8, c29k9, c29r10, c29r11, c29r12, c29k13, c29r14, c29r15, c29r16, c29k17, c29r18, c29k19, c29r20, c29b21, c29k22, c29r23, c29r24, c29k25, c29r26, c29r27, c29k28, c29k29, c29r30, c29b31, c29k32, c29r33, c29, go_sem, seval, ↓reduceIte, gl_args, Tm.pvs_len, hc, s_iaddr_pv (Tm.pvs_get hu), hcall, w2]
    refine ⟨g.args.length - (k + 1), by omega, k + 1, rfl, by omega, ?_⟩
    rw [Tm.occs_take hu, collect_id (by rfl)]
    simp only [List.length_append, List.map_append, List.append_assoc, Nat.add_assoc]
  · have hc : ¬ (k : Int) < (g.args.length : Int) := by omega
    obtain rfl : k = g.args.length := by omega
    simp -dsimp -implicitDefEqProofs only [g29, c29r0, c29r1, c29r2, c29r3, c29k4, c29r5, c29k6, c29r7, c29b8, c29k9, c29r10, c29r11, c29r12, c29k13, c29r14, c29r15, c29r16, c29k17, c29r18, c29k19, c29r20, c29b21, c29k22, c29r23, c29r24, c29k25, c29r26, c29r27, c29k28, c29k29, c29r30, c29b31, c29k32, c29r33, c29, go_sem, seval, ↓reduceIte, gl_args, Tm.pvs_len, hc]
    rw [List.take_length]
    exact hQ _
theorem collect_3 {fr : Fr} (a b c d e : AObj) (hf : fr.all (fun x => x.2.refsIn.all (· < 3)) = true) (ha : a.refs = []) (hb : b.refs = []) (hc : c.refs = []) : collect 3 0 fr [a, b, c, d, e] = [a, b, c] := by
  unfold collect
  rw [if_pos]
  · rfl
  · rw [hf]
    simp [ha, hb, hc]
theorem placesGoals_ok (f : Fl) (es : List PV) (Q : AExit → St → Prop) (hlen : f.goals.length < 1000000000) (hl : es.length + (Gl.plcs 0 f.goals).length < 100000000) (hs : ∀ g ∈ f.goals, Tm.sizes g.args < 100000000)
    (hQ : ∀ r : Fr, Q .normal ⟨(1, .ptr 0 0) :: (3, .sl (some 2) 2 (es.length + (Gl.plcs 0 f.goals).length) 0 (es.length + (Gl.plcs 0 f.goals).length)) :: r, [.box (some 5) (.pv (some 5) f.pv), .arr (some 2) [] false, .arr (some 2) (es ++ Gl.plcs 0 f.goals) false]⟩) :
    W Z L 0 c29k32 ⟨[(1, .ptr 0 0), (3, .sl (some 2) 2 es.length 0 es.length), (5, .pv none (.int .i64 0)), (6, .pv none (.int .i64 0))], [.box (some 5) (.pv (some 5) f.pv), .arr (some 2) [] false, .arr (some 2) es false]⟩ Q := by
  simp -dsimp -implicitDefEqProofs only [g29, c29r0, c29r1, c29r2, c29r3, c29k4, c29r5, c29k6, c29r7, c29b8, c29k9, c29r10, c29r11, c29r12, c29k13, c29r14, c29r15, c29r16, c29k17, c29r18, c29k19, c29r20, c29b21, c29r23, c29r24, c29k25, c29r26, c29r27, c29k28, c29k29, c29r30, c29b31, c29k32, c29r33, c29, go_sem, seval, ↓reduceIte]
  refine W_loop (fun n st => ∃ (k : Nat) (c : Int) (xs : List PV), n = f.goals.length - k ∧ k ≤ f.goals.length ∧ 0 ≤ c ∧ c ≤ k ∧ es ++ Gl.plcs 0 f.goals = xs ++ Gl.plcs c (f.goals.drop k) ∧ st = ⟨[(1, .ptr 0 0), (3, .sl (some 2) 2 xs.length 0 xs.length), (5, .pv none (.int .i64 c)), (6, .pv none (.int .i64 k))],
    [.box (some 5) (.pv (some 5) f.pv), .arr (some 2) [] false, .arr (some 2) xs false]⟩) (n := f.goals.length) ⟨0, 0, es, rfl, Nat.zero_le _, Int.le_refl _, Int.le_refl _, rfl, rfl⟩ ?_
  rintro n st ⟨k, c, xs, hn, hi, hc0, hck, hxs, rfl⟩
  have hxl := congrArg List.length hxs
  simp only [List.length_append] at hxl
  by_cases h : k < f.goals.length
  · have hc : (k : Int) < (f.goals.length : Int) := by omega
    obtain ⟨g, hg⟩ : ∃ g, f.goals[k]? = some g := ⟨_, List.getElem?_eq_getElem h⟩
    have hgm := List.mem_of_getElem? hg
    have hgs := hs g hgm
    have hgo := Tm.occs_len g.args
    rw [plcs_drop hg] at hxs
    have w2 : IntKind.i64.wrap ((k : Int) + 1) = ((k + 1 : Nat) : Int) := by rw [wrap64 (by omega) (by omega)]; omega
    have w3 : IntKind.i64.wrap (c + 1) = c + 1 := by rw [wrap64 (by omega) (by omega)]
    simp -dsimp -implicitDefEqProofs only [g29, c29r0, c29r1, c29r2, c29r3, c29k4, c29r5, c29k6, c29r7, c29b8, c29k9, c29r10, c29r11, c29r12, c29k13, c29r14, c29r15, c29r16, c29k17, c29r18, c29k19, c29r20, c29b21, c29r23, c29r24, c29k25, c29r26, c29r27, c29k28, c29k29, c29r30, c29b31, c29k32, c29r33, c29, go_sem, seval, ↓reduceIte, fl_goals, Gl.pvs_len, hc, s_iaddr_pv (Gl.pvs_get hg)]
    refine placesGoal_ok f g xs c k _ (by omega) (fun r => ?_)
    have hbuild : ∀ v c : Int, sBuild [(none, .pv none (.int .i64 0)), (none, .pv none (.int .i64 0))] [0, 1] [.pv none (.int .i64 v), .pv none (.int .i64 c)] = some (.pv (some 2) (placeP c v)) := fun _ _ => rfl
    have hap : ∀ (a b d e : AObj) (A : List PV) (N : Nat) (p : PV), A.length = N → N < 1000000000 → wAppend (some 2) [a, b, .arr (some 2) A false, d, e] [.sl (some 2) 2 N 0 N, .tsl (some 2) [p]] = some (.sl (some 2) 2 (N + 1) 0 (N + 1), [a, b, .arr (some 2) (A ++ [p]) false, d, e]) := fun a b d e A N p hA hN => by
      have := w_append_tsl (sh := some 2) (s := some 2) (hp := [a, b, .arr (some 2) A false, d, e]) (r := 2) (n := N) (new := [p]) (by simp [okArr_arr, hA]) (by simp [lim]; omega)
      rw [this]
      rfl
    have hap2 := hap (.box (some 5) (.pv (some 5) f.pv)) (.arr (some 2) [] false) (.box (some 6) (.pv (some 6) g.pv)) (.arr (some 4) [] false) (xs ++ (Tm.occs g.args).map (placeP c)) (xs.length + (Tm.occs g.args).length) (placeP c g.var) (by simp) (by omega)
    have fin : ∀ (ys : List PV) (c' : Int), ys = g.here c → c' = g.next c → es ++ Gl.plcs 0 f.goals = (xs ++ ys) ++ Gl.plcs c' (f.goals.drop (k + 1)) := by
      rintro _ _ rfl rfl
      rw [hxs, List.append_assoc]
    have hop : g.op = (decide (g.kind = 2) || decide (g.kind = 3) || decide (g.kind = 4)) := rfl
    have key : ∀ (ys : List PV) (c' : Int) (N : Nat), ys = g.here c → c' = g.next c → N = (xs ++ ys).length → 0 ≤ c' → c' ≤ (k + 1 : Nat) → ∃ m, m < n ∧ ∃ (k' : Nat) (c'' : Int) (xs' : List PV), m = f.goals.length - k' ∧ k' ≤ f.goals.length ∧ 0 ≤ c'' ∧ c'' ≤ k' ∧ es ++ Gl.plcs 0 f.goals = xs' ++ Gl.plcs c'' (f.goals.drop k') ∧
        St.mk [(1, .ptr 0 0), (3, .sl (some 2) 2 N 0 N), (5, .pv none (.int .i64 c')), (6, .pv none (.int .i64 ((k + 1 : Nat) : Int)))] (collect 3 0 [(1, .ptr 0 0), (3, .sl (some 2) 2 N 0 N), (5, .pv none (.int .i64 c')), (6, .pv none (.int .i64 ((k + 1 : Nat) : Int)))] [.box (some 5) (.pv (some 5) f.pv), .arr (some 2) [] false, .arr (some 2) (xs ++ ys) false, .box (some 6) (.pv (some 6) g.pv), .arr (some 4) [] false]) =
        St.mk [(1, .ptr 0 0), (3, .sl (some 2) 2 xs'.length 0 xs'.length), (5, .pv none (.int .i64 c'')), (6, .pv none (.int .i64 k'))] [.box (some 5) (.pv (some 5) f.pv), .arr (some 2) [] false, .arr (some 2) xs' false] := by
      intro ys c' N h1 h2 h3 h4 h5
      refine ⟨f.goals.length - (k + 1), by omega, k + 1, c', xs ++ ys, rfl, by omega, h4, h5, fin ys c' h1 h2, ?_⟩
      rw [collect_3 _ _ _ _ _ (by simp [AV.refsIn]) rfl rfl rfl, h3]
    rcases (by omega : g.kind = 1 ∨ g.kind = 2 ∨ g.kind = 3 ∨ g.kind = 4 ∨ (g.kind ≠ 1 ∧ g.kind ≠ 2 ∧ g.kind ≠ 3 ∧ g.kind ≠ 4)) with q | q | q | q | ⟨q1, q2, q3, q4⟩
    · simp -dsimp -implicitDefEqProofs only [g29, c29r0, c29r1, c29r2, c29r3, c29k4, c29r5, c29k6, c29r7, c29b8, c29k9, c29r10, c29r11, c29r12, c29k13, c29r14, c29r15, c29r16, c29k17, c29r18, c29k19, c29r20, c29b21, c29r23, c29r24, c29k25, c29r26, c29r27, c29k28, c29k29, c29r30, c29b31, c29k32, c29r33, c29, go_sem, seval, ↓reduceIte, gl_kind, gl_var, hbuild, hap2, q, w2, w3]
      exact key ((Tm.occs g.args).map (placeP c)) (c + 1) _ (by simp [Gl.here, hop, q]) (by simp [Gl.next, q]) (by simp) (by omega) (by omega)
    · simp -dsimp -implicitDefEqProofs only [g29, c29r0, c29r1, c29r2, c29r3, c29k4, c29r5, c29k6, c29r7, c29b8, c29k9, c29r10, c29r11, c29r12, c29k13, c29r14, c29r15, c29r16, c29k17, c29r18, c29k19, c29r20, c29b21, c29r23, c29r24, c29k25, c29r26, c29r27, c29k28, c29k29, c29r30, c29b31, c29k32, c29r33, c29, go_sem, seval, ↓reduceIte, gl_kind, gl_var, hbuild, hap2, q, w2, w3]
      rw [List.append_assoc]
      exact key ((Tm.occs g.args).map (placeP c) ++ [placeP c g.var]) c _ (by simp [Gl.here, hop, q]) (by simp [Gl.next, q]) (by simp; omega) (by omega) (by omega)
    · simp -dsimp -implicitDefEqProofs only [g29, c29r0, c29r1, c29r2, c29r3, c29k4, c29r5, c29k6, c29r7, c29b8, c29k9, c29r10, c29r11, c29r12, c29k13, c29r14, c29r15, c29r16, c29k17, c29r18, c29k19, c29r20, c29b21, c29r23, c29r24, c29k25, c29r26, c29r27, c29k28, c29k29, c29r30, c29b31, c29k32, c29r33, c29, go_sem, seval, ↓reduceIte, gl_kind, gl_var, hbuild, hap2, q, w2, w3]
      rw [List.append_assoc]
      exact key ((Tm.occs g.args).map (placeP c) ++ [placeP c g.var]) c _ (by simp [Gl.here, hop, q]) (by simp [Gl.next, q]) (by simp; omega) (by omega) (by omega)
    · simp -dsimp -implicitDefEqProofs only [g29, c29r0, c29r1, c29r2, c29r3, c29k4, c29r5, c29k6, c29r7, c29b8, c29k9, c29r10, c29r11, c29r12, c29k13, c29r14, c29r15, c29r16, c29k17, c29r18, c29k19, c29r20, c29b21, c29r23, c29r24, c29k25, c29r26, c29r27, c29k28, c29k29, c29r30, c29b31, c29k32, c29r33, c29, go_sem, seval, ↓reduceIte, gl_kind, gl_var, hbuild, hap2, q, w2, w3]
      rw [List.append_assoc]
      exact key ((Tm.occs g.args).map (placeP c) ++ [placeP c g.var]) c _ (by simp [Gl.here, hop, q]) (by simp [Gl.next, q]) (by simp; omega) (by omega) (by omega)
    · simp -dsimp -implicitDefEqProofs only [g29, c29r0, c29r1, c29r2, c29r3, c29k4, c29r5, c29k6, c29r7, c29b8, c29k9, c29r10, c29r11, c29r12, c29k13, c29r14, c29r15, c29r16, c29k17, c29r18, c29k19, c29r20, c29b21, c29r23, c29r24, c29k25, c29r26, c29r27, c29k28, c29k29, c29r30, c29b31, c29k32, c29r33, c29, go_sem, seval, ↓reduceIte, gl_kind, gl_var, hbuild, hap2, q1, q2, q3, q4, w2, w3]
      exact key ((Tm.occs g.args).map (placeP c)) c _ (by simp [Gl.here, hop, q2, q3, q4]) (by simp [Gl.next, q1]) (by simp) (by omega) (by omega)
  · have hc : ¬ (k : Int) < (f.goals.length : Int) := by omega
    obtain rfl : k = f.goals.length := by omega
    rw [List.drop_length, Gl.plcs, List.append_nil] at hxs
    simp -dsimp -implicitDefEqProofs only [g29, c29r0, c29r1, c29r2, c29r3, c29k4, c29r5, c29k6, c29r7, c29b8, c29k9, c29r10, c29r11, c29r12, c29k13, c29r14, c29r15, c29r16, c29k17, c29r18, c29k19, c29r20, c29b21, c29r23, c29r24, c29k25, c29r26, c29r27, c29k28, c29k29, c29r30, c29b31, c29k32, c29r33, c29, go_sem, seval, ↓reduceIte, fl_goals, Gl.pvs_len, hc]
    have := hQ
    rw [← List.length_append, hxs] at this
    exact this _
theorem places_ok (f : Fl) (hp : Heap) (ha : Tm.sizes f.args < 10000000) (hl : f.plcs.length < 100000000) (hlen : f.goals.length < 1000000000) (hs : ∀ g ∈ f.goals, Tm.sizes g.args < 100000000) :
    S 29 [f.av] hp = some (.ret (.pv none (.sl (some 2) f.plcs)), hp) := by
  refine sem_pure rfl rfl rfl (freezeAll_pvs [(some 5, f.pv)]) rfl ?_
  have hnil : ∀ H : Heap, wNilsl (some 2) H = some (.sl (some 2) H.length 0 0 0, H ++ [.arr (some 2) [] false]) := fun _ => rfl
  simp -dsimp -implicitDefEqProofs only [g29, c29r0, c29r1, c29r2, c29r3, c29k4, c29r5, c29k6, c29r7, c29b8, c29r10, c29r11, c29r12, c29k13, c29r14, c29r15, c29r16, c29k17, c29r18, c29k19, c29r20, c29b21, c29k22, c29r23, c29r24, c29k25, c29r26, c29r27, c29k28, c29k29, c29r30, c29b31, c29r33, c29, go_sem, seval, ↓reduceIte, hnil]
  refine placesArgs_ok f _ (by omega) (fun r => ?_)
  have hlm : ((Tm.occs f.args).map (placeP 0)).length = (Tm.occs f.args).length := by simp
  have hpl : f.plcs.length = (Tm.occs f.args).length + (Gl.plcs 0 f.goals).length := by simp [Fl.plcs]
  have hg := placesGoals_ok f ((Tm.occs f.args).map (placeP 0))
  simp only [hlm] at hg
  simp -dsimp -implicitDefEqProofs only [g29, c29r0, c29r1, c29r2, c29r3, c29k4, c29r5, c29k6, c29r7, c29b8, c29r10, c29r11, c29r12, c29k13, c29r14, c29r15, c29r16, c29k17, c29r18, c29k19, c29r20, c29b21, c29k22, c29r23, c29r24, c29k25, c29r26, c29r27, c29k28, c29k29, c29r30, c29b31, c29r33, c29, go_sem, seval, ↓reduceIte]
  refine hg _ hlen (by omega) hs (fun r => ?_)
  simp -dsimp -implicitDefEqProofs only [g29, c29r0, c29r1, c29r2, c29r3, c29k4, c29r5, c29k6, c29r7, c29b8, c29r10, c29r11, c29r12, c29k13, c29r14, c29r15, c29r16, c29k17, c29r18, c29k19, c29r20, c29b21, c29k22, c29r23, c29r24, c29k25, c29r26, c29r27, c29k28, c29k29, c29r30, c29b31, c29r33, c29, go_sem, seval, ↓reduceIte]
  have hF : f.plcs = (Tm.occs f.args).map (placeP 0) ++ Gl.plcs 0 f.goals := rfl
  have hN : (Tm.occs f.args).length + (Gl.plcs 0 f.goals).length = f.plcs.length := hpl.symm
  rw [← hF, hN]
  simp -dsimp -implicitDefEqProofs only [frozen_sl, okArrF_arr, arrOf_arr, arrSh_arr, go_sem, seval, ↓reduceIte]
end Go.Proofs.Ytmajapjbogmefaa
