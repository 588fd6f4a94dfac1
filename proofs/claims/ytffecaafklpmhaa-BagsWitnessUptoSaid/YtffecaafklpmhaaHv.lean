/- What is proved: the program's Vars, on a heap that has something already. -/
import Derived.Test.YtffecaafklpmhaaVarsP
set_option linter.unusedSimpArgs false
set_option linter.unusedVariables false
namespace Go.Proofs.Ytffecaafklpmhaa
open Go.Am
def gVb (b : Nat) (t : Tm) (l : List Int) : Heap := [.box (some 4) (.pv (some 4) t.pv), .arr none [] false, .box none (.sl none (b + 3) l.length 0 l.length), .arr none (ints l) false, .map none (kEnts (seenM l)), .box none (.map (b + 4))]
theorem vars1_h (h0 : Heap) (t0 u : Tm) (l : List Int) (ext : Heap) (hl : l.length < 100000000) :
  S 43 [u.av, .ptr (h0.length + 5) 0, .ptr (h0.length + 2) 0] (h0 ++ (gVb h0.length t0 l ++ ext)) = some (.ret u.av, h0 ++ (gVb h0.length t0 (vadd l u.n) ++ ext)) := by
 refine sem_heap rfl rfl rfl rfl ?_
 have hlim : l.length + 1 ≤ lim := by unfold lim; omega
 by_cases hm : u.n ∈ l
 ·have e : vadd l u.n = l := by simp [vadd, hm]
  rw [e]
  have hlk : ∀ (a0 a1 a2 a3 a5 : AObj) (e : Heap), rLookup false none (.pv none (.int .i64 0)) false (h0 ++ (a0 :: a1 :: a2 :: a3 :: .map none (kEnts (seenM l)) :: a5 :: e)) [.map (h0.length + 4), .pv none (.int .i64 u.n)] = some (.pv none (.int .i64 1)) := fun a0 a1 a2 a3 a5 e => by
   rw [look_m (m := seenM l) (by rw [get_pre]; rfl), seenM_find, if_pos hm]
  simp -dsimp -implicitDefEqProofs only [g43, c43r0, c43r1, c43r2, c43r3, c43k4, c43r5, c43, go_sem, seval, ↓reduceIte, gVb, List.append_assoc, List.cons_append, List.nil_append, get_pre, get_pre0, set_pre, set_pre0, Nat.add_assoc, List.length_append, List.length_cons, List.length_nil, Nat.zero_add, Tm.av, part_n, hlk, w_alloc_agg]
  rw [if_pos (by simp [AV.refsIn])]
  rw [takeN rfl]
  simp
 ·have e : vadd l u.n = l ++ [u.n] := by simp [vadd, hm]
  rw [e]
  have hlk : ∀ (a0 a1 a2 a3 a5 : AObj) (e : Heap), rLookup false none (.pv none (.int .i64 0)) false (h0 ++ (a0 :: a1 :: a2 :: a3 :: .map none (kEnts (seenM l)) :: a5 :: e)) [.map (h0.length + 4), .pv none (.int .i64 u.n)] = some (.pv none (.int .i64 0)) := fun a0 a1 a2 a3 a5 e => by
   rw [look_m (m := seenM l) (by rw [get_pre]; rfl), seenM_find, if_neg hm]
  have hms : ∀ (a0 a1 a2 a3 a5 : AObj) (e : Heap), wMapset false none (h0 ++ (a0 :: a1 :: a2 :: a3 :: .map none (kEnts (seenM l)) :: a5 :: e)) [.map (h0.length + 4), .pv none (.int .i64 u.n), .pv none (.int .i64 1)] = some (.undef, h0 ++ (a0 :: a1 :: a2 :: a3 :: .map none (kEnts (seenM (l ++ [u.n]))) :: a5 :: e)) := fun a0 a1 a2 a3 a5 e => by
   rw [w_mapset_pv (es := kEnts (seenM l)) (by rw [get_pre]; rfl) (kEnts_put _ _ _), seenM_put _ _ hm, set_pre]
   rfl
  have hst : ∀ (n o' n' : Nat) (a0 a1 a3 a4 a5 : AObj) (e : Heap) (b : Nat), wStore none (h0.length + (b + 6)) (h0 ++ (a0 :: a1 :: .box none (.sl none (h0.length + 3) n 0 n) :: a3 :: a4 :: a5 :: e)) [.ptr (h0.length + 2) 0, .sl none (h0.length + 3) n' o' n'] = some (.undef, h0 ++ (a0 :: a1 :: .box none (.sl none (h0.length + 3) n' o' n') :: a3 :: a4 :: a5 :: e)) := fun n o' n' a0 a1 a3 a4 a5 e b => by
   rw [w_store_sl_out (by omega) (by rw [get_pre]; rfl), set_pre]
   rfl
  simp -dsimp -implicitDefEqProofs only [g43, c43r0, c43r1, c43r2, c43r3, c43k4, c43r5, c43, go_sem, seval, ↓reduceIte, gVb, List.append_assoc, List.cons_append, List.nil_append, get_pre, get_pre0, set_pre, set_pre0, Nat.add_assoc, List.length_append, List.length_cons, List.length_nil, Nat.zero_add, Tm.av, part_n, hlk, hms, hst, ints_len, hlim, ints_snoc, w_alloc_agg]
  rw [if_pos (by simp [AV.refsIn])]
  rw [takeN rfl]
  simp
theorem apply_h (h0 : Heap) (t0 : Tm) : ∀ (t : Tm) (l : List Int) (ext : Heap), t.fits = true → t.size < 10000000 → l.length + t.size < 100000000 →
  ∃ v e, S 30 [t.av, .func (.func 43) [] [.ptr (h0.length + 5) 0, .ptr (h0.length + 2) 0]] (h0 ++ (gVb h0.length t0 l ++ ext)) = some (.ret v, h0 ++ (gVb h0.length t0 (vads l t.occ) ++ (ext ++ e))) ∧ v.shp = some 4 ∧ v.plain = true ∧
   ∃ e2, AV.freeze deep v (h0 ++ (gVb h0.length t0 (vads l t.occ) ++ (ext ++ e))) = some (t.pv, h0 ++ (gVb h0.length t0 (vads l t.occ) ++ (ext ++ e2))) := by
 intro t
 induction t using Tm.induct with
 | h t ih =>
  intro l ext hf ht hl
  have hts := t.size_eq
  have hlen := Tm.sizes_len t.args
  obtain ⟨K, hK⟩ : ∃ K : List Int → Heap, K = fun l => h0 ++ (gVb h0.length t0 l ++ ext) := ⟨_, rfl⟩
  have hKs : ∀ l, h0 ++ (gVb h0.length t0 l ++ ext) = K l := fun l => by rw [hK]
  have hKl : ∀ l, (K l).length = h0.length + (ext.length + 6) := fun l => by rw [← hKs]; simp [gVb]
  have hKa : ∀ l X, h0 ++ (gVb h0.length t0 l ++ (ext ++ X)) = K l ++ X := fun l X => by rw [← hKs, List.append_assoc, List.append_assoc]
  simp only [hKa, hKs]
  obtain ⟨n, hn⟩ : ∃ n, n = h0.length + (ext.length + 6) := ⟨_, rfl⟩
  rw [← hn] at hKl
  rw [Tm.occ_eq]
  by_cases hk : t.kind = 0
  ·rw [if_pos hk]
   have h1 := fun X => vars1_h h0 t0 t l (ext ++ X) (by omega)
   simp only [hKa] at h1
   have e1 : vads l [t.n] = vadd l t.n := rfl
   rw [e1]
   refine ⟨t.av, [], ?_, rfl, rfl, ⟨[], rfl⟩⟩
   rw [List.append_nil]
   refine sem_heap rfl rfl rfl rfl ?_
   have hk' := eq_true hk
   simp only [Tm.av] at h1
   simp -dsimp -implicitDefEqProofs only [g30, c30r0, c30r1, c30r2, c30k3, c30r4, c30r5, c30r6, c30k7, c30r8, c30r9, c30k10, c30r11, c30b12, c30k13, c30r14, c30, go_sem, seval, ↓reduceIte, Tm.av, part_kind, hk', h1, List.append_assoc, List.cons_append, List.nil_append, get_pre, get_pre0, set_pre, set_pre0, Nat.add_assoc, List.length_append, List.length_cons, List.length_nil, Nat.zero_add, hKl, getN (hKl _), getN0 (hKl _), setN (hKl _), setN0 (hKl _), w_alloc_agg]
   rw [if_pos (by simp [AV.refsIn]), ← hKl (vadd l t.n)]
   exact List.take_left
  ·rw [if_neg hk]
   refine ⟨.agg [(none, .pv none (.int .i64 t.kind)), (none, .pv none (.int .i64 t.n)), (none, .pv none (.str t.name)), (none, .sl (some 4) (n + 5) t.args.length 0 t.args.length)],
    [.box (some 4) (.pv (some 4) t.pv), .box (some 4) (.agg [(none, .pv none (.int .i64 t.kind)), (none, .pv none (.int .i64 t.n)), (none, .pv none (.str t.name)), (none, .sl (some 4) (n + 5) t.args.length 0 t.args.length)]), .arr (some 4) [] false, .box (some 4) (.agg [(none, .pv none (.int .i64 t.kind)), (none, .pv none (.int .i64 t.n)), (none, .pv none (.str t.name)), (none, .sl (some 4) (n + 5) t.args.length 0 t.args.length)]), .arr (some 4) [] false, .arr (some 4) (Tm.pvs t.args) false], ?_, rfl, rfl, ?_⟩
   ·refine sem_heap rfl rfl rfl rfl ?_
    have hk' := eq_false hk
    have hb : sBuild [(none, .pv none (.int .i64 0)), (none, .pv none (.int .i64 0)), (none, .pv none (.str [])), (none, .tsl (some 4) [])] [0, 1, 2] [.pv none (.int .i64 t.kind), .pv none (.int .i64 t.n), .pv none (.str t.name)] = some (.agg [(none, .pv none (.int .i64 t.kind)), (none, .pv none (.int .i64 t.n)), (none, .pv none (.str t.name)), (none, .tsl (some 4) [])]) := rfl
    have hle : ∀ k, n ≤ n + k := fun k => Nat.le_add_right _ _
    rw [hKl]
    simp -dsimp -implicitDefEqProofs only [g30, c30r0, c30r1, c30r2, c30k3, c30r4, c30r5, c30r6, c30k7, c30r8, c30r9, c30k10, c30r11, c30b12, c30k13, c30r14, c30, go_sem, seval, ↓reduceIte, Tm.av, part_kind, part_n, part_name, part_args, hk', Tm.pvs_len, hb, w_alloc_agg, w_store_agg (Nat.le_add_right _ _), List.append_assoc, List.cons_append, List.nil_append, get_pre, get_pre0, set_pre, set_pre0, Nat.add_assoc, List.length_append, List.length_cons, List.length_nil, Nat.zero_add, hKl, getN (hKl _), getN0 (hKl _), setN (hKl _), setN0 (hKl _)]
    refine W_for (α := Unit) t.args.length (fun _ _ => True) (fun i _ => ⟨[(1, .func (.func 43) [] [.ptr (h0.length + 5) 0, .ptr (h0.length + 2) 0]), (4, .ptr (n + 1) 0), (5, .ptr (n + 3) 0), (22, .pv none (.sl (some 4) (Tm.pvs t.args))), (23, .pv none (.int .i64 t.args.length)), (24, .pv none (.int .i64 i))], K (vads l (Tm.occs (t.args.take i))) ++ appH n t i⟩) () ⟨trivial, ?_⟩ ?_ ?_
    ·rw [List.take_zero]
     rfl
    ·rintro i - h -
     have hc : (i : Int) < (t.args.length : Int) := by omega
     obtain ⟨u, hu⟩ : ∃ u, t.args[i]? = some u := ⟨_, List.getElem?_eq_getElem h⟩
     have hum := List.mem_of_getElem? hu
     have husz := Tm.arg_lt hum
     have hst := Tm.sizes_take hu
     have hle2 := Tm.sizes_take_le t.args (i + 1)
     have hvl := vads_len (Tm.occs (t.args.take i)) l
     have hol := Tm.occs_len (t.args.take i)
     obtain ⟨v, e, hcall, hvs, hvp, e2, hfz⟩ := ih u hum (vads l (Tm.occs (t.args.take i))) (ext ++ (appH n t i ++ [.box (some 4) (.pv (some 4) u.pv), .arr (some 4) [] false])) (Tm.fits_arg hf hum) (by omega) (by omega)
     rw [← vads_app, ← Tm.occs_take hu] at hcall hfz
     simp only [List.append_assoc, hKa] at hcall hfz
     generalize vads l (Tm.occs (t.args.take (i + 1))) = l2 at hcall hfz ⊢
     generalize vads l (Tm.occs (t.args.take i)) = l1 at hcall hfz hvl ⊢
     have w2 : IntKind.i64.wrap ((i : Int) + 1) = ((i + 1 : Nat) : Int) := by rw [wrap64 (by omega) (by omega)]; omega
     have hl : (Tm.pvs (t.args.take i)).length = i := by rw [Tm.pvs_len, List.length_take]; omega
     have hlim : i + 1 ≤ lim := by unfold lim; omega
     have hbs : wBslice (some 4) (K l2 ++ (appH n t i ++ ([.box (some 4) (.pv (some 4) u.pv), .arr (some 4) [] false] ++ e))) [v] = some (.tsl (some 4) [u.pv], K l2 ++ (appH n t i ++ ([.box (some 4) (.pv (some 4) u.pv), .arr (some 4) [] false] ++ e2))) := by
      simp only [wBslice, freezeAll, hfz, hvs, ofShape, if_true]
     have hs1 : ∀ (k k' : List Int) (e e' : Heap), samePtr (K k ++ (appH n t i ++ e)) (K k' ++ (appH n t i ++ e')) (.ptr (n + 3) 3) = true := fun k k' e e' => samePtr_c (t := t) (q := n + 5) (i := i) (by rw [getN (hKl _)]; rfl) (by rw [getN (hKl _)]; rfl)
     simp only [Tm.av] at hcall
     simp only [appH, List.append_assoc, List.cons_append, List.nil_append] at hcall hbs hs1
     simp -dsimp -implicitDefEqProofs only [g30, c30r0, c30r1, c30r2, c30k3, c30r4, c30r5, c30r6, c30k7, c30r8, c30r9, c30k10, c30r11, c30b12, c30k13, c30r14, c30, go_sem, seval, ↓reduceIte, appH, hc, s_iaddr_pv (Tm.pvs_get hu), w_alloc_agg, op_bslicen, List.take_succ_cons, List.drop_succ_cons, List.all_cons, List.all_nil, hcall, hbs, hs1, w2, hl, hlim, Tm.pvs_take_succ hu, upd_agg, w_store_agg (Nat.le_add_right _ _), w_store_sl (Nat.le_add_right _ _), List.append_assoc, List.cons_append, List.nil_append, get_pre, get_pre0, set_pre, set_pre0, Nat.add_assoc, List.length_append, List.length_cons, List.length_nil, Nat.zero_add, hKl, getN (hKl _), getN0 (hKl _), setN (hKl _), setN0 (hKl _)]
     refine ⟨(), ?_⟩
     rw [collect_pre 6 (hKl _) rfl (by simp [AObj.refs, AV.ofComps, pures, AV.refsIn, AV.refsIn.go]) (by simp [AV.refsIn, AV.refsIn.gol]; omega)]
     rfl
    ·rintro - -
     have hc : ¬ (t.args.length : Int) < (t.args.length : Int) := by omega
     simp -dsimp -implicitDefEqProofs only [g30, c30r0, c30r1, c30r2, c30k3, c30r4, c30r5, c30r6, c30k7, c30r8, c30r9, c30k10, c30r11, c30b12, c30k13, c30r14, c30, go_sem, seval, ↓reduceIte, appH, hc, List.take_length, own_cons_sl, w_alloc_agg, w_store_agg (Nat.le_add_right _ _), w_store_sl (Nat.le_add_right _ _), List.append_assoc, List.cons_append, List.nil_append, get_pre, get_pre0, set_pre, set_pre0, Nat.add_assoc, List.length_append, List.length_cons, List.length_nil, Nat.zero_add, hKl, getN (hKl _), getN0 (hKl _), setN (hKl _), setN0 (hKl _)]
     rw [if_neg (by simp [AV.refsIn, AV.refsIn.go])]
   ·have e : ∀ l hp, AV.freeze (7 + 1) (.agg l) hp = match AV.freeze.go 7 l hp with | some (ps, hp') => some (.agg ps, hp') | none => none := fun _ _ => rfl
    cases t with
    | mk k n' s ts =>
     refine ⟨[.box (some 4) (.pv (some 4) (Tm.mk k n' s ts).pv), .box (some 4) (.agg [(none, .pv none (.int .i64 k)), (none, .pv none (.int .i64 n')), (none, .pv none (.str s)), (none, .sl (some 4) (n + 5) ts.length 0 ts.length)]), .arr (some 4) [] false, .box (some 4) (.agg [(none, .pv none (.int .i64 k)), (none, .pv none (.int .i64 n')), (none, .pv none (.str s)), (none, .sl (some 4) (n + 5) ts.length 0 ts.length)]), .arr (some 4) [] false, .arr (some 4) (Tm.pvs ts) true], ?_⟩
     show AV.freeze (7 + 1) (.agg _) _ = _
     simp [e, AV.freeze.go, AV.freeze, getN (hKl _), setN (hKl _), Tm.kind, Tm.n, Tm.name, Tm.args, Tm.pvs_len, Tm.pv]
def g17h : AFn := { g17 with heapMode := true }
noncomputable def primB : FuncId → Option PrimO := fun g => bif Nat.beq 16 g then some (fun f ar hp => S f ar hp) else bif Nat.beq 30 g then some (fun f ar hp => S f ar hp) else none
def tabB : List (Nat × AFn) := [(17, g17h)]
theorem primAt_S (f : FuncId) : PrimAt Try.prog f (fun _ ar hp => S f ar hp) := fun args hp r hp' h w X μ vs hH hl => sound.fn f args hp r hp' h w X μ vs hH hl
noncomputable abbrev SB := sem (find tabB) primB .fn
theorem hVars_ok (t : Tm) (hv : t.valid = true) (hp : Heap) : ∃ E, SB 17 [t.av] hp = some (.ret (.sl none (hp.length + 3) (vads [] t.occ).length 0 (vads [] t.occ).length), hp ++ (gVb hp.length t (vads [] t.occ) ++ E)) := by
 have hsz := valid_size hv
 have h1 := fun hp => valid_ok t hp (by omega)
 rw [hv] at h1
 have hn0 : ∀ H : Heap, wNilsl none H = some (.sl none H.length 0 0 0, H ++ [.arr none [] false]) := fun H => w_nilsl (sh := none) (by decide)
 obtain ⟨v, e, h2, _, _, e2, hfz⟩ := apply_h hp t t [] [] (valid_fits hv) (by omega) (by simp; omega)
 generalize vads [] t.occ = l at *
 refine ⟨e, ?_⟩
 refine sem_heap rfl rfl rfl rfl ?_
 simp only [Tm.av] at h1 h2
 have e1 : ∀ ar H, SB 16 ar H = S 16 ar H := fun ar H => sem_prim rfl ar H
 have e2 : ∀ ar H, SB 30 ar H = S 30 ar H := fun ar H => sem_prim rfl ar H
 have hmk : ∀ (a0 a1 a2 a3 : AObj), wStore none hp.length (hp ++ [a0, a1, a2, a3, .map none [], .box none (.pv none .nilmap)]) [.ptr (hp.length + 5) 0, .map (hp.length + 4)] = some (.undef, hp ++ [a0, a1, a2, a3, .map none [], .box none (.map (hp.length + 4))]) := fun _ _ _ _ => by
  have k : ∀ H, (AV.map (hp.length + 4)).own H = (.map (hp.length + 4), H) := fun _ => rfl
  simp [wStore, astore, get_pre, set_pre, AV.plain, AV.shp, AV.refsIn, k]
 have e0 : hp ++ (gVb hp.length t [] ++ []) = hp ++ [.box (some 4) (.pv (some 4) t.pv), .arr none [] false, .box none (.sl none (hp.length + 3) 0 0 0), .arr none [] false, .map none [], .box none (.map (hp.length + 4))] := rfl
 rw [e0] at h2
 simp only [gVb, List.nil_append, List.cons_append] at h2
 have hal : ∀ a0 a1 : AObj, wAlloc none (.tsl none []) (hp ++ [a0, a1]) [] = some (.ptr (hp.length + 2) 0, hp ++ [a0, a1, .box none (.sl none (hp.length + 3) 0 0 0), .arr none [] false]) := fun _ _ => by
  have k : ∀ H, (AV.tsl none []).own H = (.sl none H.length 0 0 0, H ++ [.arr none [] false]) := fun _ => rfl
  simp [wAlloc, AV.plain, AV.shp, k, get_pre, set_pre]
 simp -dsimp -implicitDefEqProofs only [g17h, g17, c17r0, c17r1, c17r2, c17k3, c17r4, c17r5, c17r6, c17r7, c17, go_sem, seval, ↓reduceIte, gVb, List.append_assoc, List.cons_append, List.nil_append, get_pre, get_pre0, set_pre, set_pre0, Nat.add_assoc, List.length_append, List.length_cons, List.length_nil, Nat.zero_add, Tm.av, e1, e2, h1, hn0, w_alloc_agg, hal, hmk, h2]
 rw [if_neg (by simp [AV.refsIn])]
theorem tr17h : trFn Try.prog true 17 Try.f17 = some g17h := by kernel_rfl
theorem soundB : SoundO Try.prog (sem (find tabB) primB) := sem_sound Try.mixed (fnsOk_of (tabOk_cons Try.func17 tr17h tabOk_nil)) (primOk_cons (primAt_S _) (primOk_cons (primAt_S _) primOk_nil))
noncomputable def primV : PrimO := fun _ ar hp => match hp with
 | [] => S 17 ar []
 | x :: r => SB 17 ar (x :: r)
theorem primV_ok : PrimAt Try.prog 17 primV := fun args hp r hp' h w X μ vs hH hl => by
 cases hp with
 | nil => exact sound.fn _ args [] r hp' h w X μ vs hH hl
 | cons x q => exact soundB.fn _ args (x :: q) r hp' h w X μ vs hH hl
noncomputable def primC : FuncId → Option PrimO := fun g => bif Nat.beq 17 g then some primV else bif Nat.beq 16 g then some (fun _ ar hp => S 16 ar hp) else bif Nat.beq 9 g then some (fun _ ar hp => S 9 ar hp) else bif Nat.beq 11 g then some (fun _ ar hp => S 11 ar hp) else bif Nat.beq 21 g then some (fun _ ar hp => S 21 ar hp) else bif Nat.beq 22 g then some (fun _ ar hp => S 22 ar hp) else none
def tabC : List (Nat × AFn) := [(5, g5), (23, g23)]
theorem soundC : SoundO Try.prog (sem (find tabC) primC) := sem_sound Try.mixed (fnsOk_of (tabOk_cons Try.func5 tr5 (tabOk_cons Try.func23 tr23 tabOk_nil))) (primOk_cons primV_ok (primOk_cons (primAt_S _) (primOk_cons (primAt_S _) (primOk_cons (primAt_S _) (primOk_cons (primAt_S _) (primOk_cons (primAt_S _) primOk_nil))))))
noncomputable abbrev SC := sem (find tabC) primC .fn
end Go.Proofs.Ytffecaafklpmhaa
