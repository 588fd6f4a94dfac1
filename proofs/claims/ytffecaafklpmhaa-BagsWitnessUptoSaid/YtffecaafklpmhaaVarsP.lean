/- What is proved: the program's Vars. -/
import Derived.Test.YtffecaafklpmhaaMap
set_option linter.unusedSimpArgs false
set_option linter.unusedVariables false
namespace Go.Proofs.Ytffecaafklpmhaa
open Go.Am
def seenM (l : List Int) : List (Int × PV) := l.map fun v => (v, .int .i64 1)
theorem seenM_find (v : Int) : ∀ l : List Int, (mFind v (seenM l)).getD (.int .i64 0) = .int .i64 (if v ∈ l then 1 else 0)
 | [] => rfl
 | x :: r => by
  have ih := seenM_find v r
  unfold seenM at ih ⊢
  simp only [List.map_cons, mFind]
  by_cases h : x = v
  ·subst h; simp
  ·have h' : ¬ v = x := fun e => h e.symm
   rw [if_neg h, ih]
   simp [h']
theorem seenM_put (v : Int) : ∀ l : List Int, v ∉ l → mPut v (.int .i64 1) (seenM l) = seenM (l ++ [v])
 | [], _ => rfl
 | x :: r, h => by
  have ih := seenM_put v r fun hm => h (List.mem_cons_of_mem _ hm)
  unfold seenM at ih ⊢
  simp only [List.map_cons, mPut, List.cons_append]
  have h' : ¬ x = v := fun e => h (by rw [e]; exact List.mem_cons_self)
  rw [if_neg h', ih]
def gV (t : Tm) (l : List Int) : Heap := [.box (some 4) (.pv (some 4) t.pv), .arr none [] false, .box none (.sl none 3 l.length 0 l.length), .arr none (ints l) false, .map none (kEnts (seenM l)), .box none (.map 4)]
theorem vars1_ok (t0 u : Tm) (l : List Int) (ext : Heap) (hl : l.length < 100000000) :
  S 43 [u.av, .ptr 5 0, .ptr 2 0] (gV t0 l ++ ext) = some (.ret u.av, gV t0 (vadd l u.n) ++ ext) := by
 refine sem_heap rfl rfl rfl rfl ?_
 have hlim : l.length + 1 ≤ lim := by unfold lim; omega
 by_cases hm : u.n ∈ l
 ·have e : vadd l u.n = l := by simp [vadd, hm]
  rw [e]
  have hlk : ∀ (a0 a1 a2 a3 a5 : AObj) (e : Heap), rLookup false none (.pv none (.int .i64 0)) false (a0 :: a1 :: a2 :: a3 :: .map none (kEnts (seenM l)) :: a5 :: e) [.map 4, .pv none (.int .i64 u.n)] = some (.pv none (.int .i64 1)) := fun a0 a1 a2 a3 a5 e => by
   rw [look_m (m := seenM l) rfl, seenM_find, if_pos hm]
  simp -dsimp -implicitDefEqProofs only [g43, c43r0, c43r1, c43r2, c43r3, c43k4, c43r5, c43, go_sem, seval, ↓reduceIte, gV, List.append_assoc, List.cons_append, List.nil_append, get_pre, get_pre0, set_pre, set_pre0, Nat.add_assoc, List.length_append, List.length_cons, List.length_nil, Nat.zero_add, Tm.av, part_n, hlk, w_alloc_agg]
  rw [if_pos (by simp [AV.refsIn])]
  simp
 ·have e : vadd l u.n = l ++ [u.n] := by simp [vadd, hm]
  rw [e]
  have hlk : ∀ (a0 a1 a2 a3 a5 : AObj) (e : Heap), rLookup false none (.pv none (.int .i64 0)) false (a0 :: a1 :: a2 :: a3 :: .map none (kEnts (seenM l)) :: a5 :: e) [.map 4, .pv none (.int .i64 u.n)] = some (.pv none (.int .i64 0)) := fun a0 a1 a2 a3 a5 e => by
   rw [look_m (m := seenM l) rfl, seenM_find, if_neg hm]
  have hms : ∀ (a0 a1 a2 a3 a5 : AObj) (e : Heap), wMapset false none (a0 :: a1 :: a2 :: a3 :: .map none (kEnts (seenM l)) :: a5 :: e) [.map 4, .pv none (.int .i64 u.n), .pv none (.int .i64 1)] = some (.undef, a0 :: a1 :: a2 :: a3 :: .map none (kEnts (seenM (l ++ [u.n]))) :: a5 :: e) := fun a0 a1 a2 a3 a5 e => by
   rw [w_mapset_pv (es := kEnts (seenM l)) rfl (kEnts_put _ _ _), seenM_put _ _ hm]
   rfl
  have hst : ∀ (n o' n' : Nat) (a0 a1 a3 a4 a5 : AObj) (e : Heap) (b : Nat), wStore none (b + 6) (a0 :: a1 :: .box none (.sl none 3 n 0 n) :: a3 :: a4 :: a5 :: e) [.ptr 2 0, .sl none 3 n' o' n'] = some (.undef, a0 :: a1 :: .box none (.sl none 3 n' o' n') :: a3 :: a4 :: a5 :: e) := fun n o' n' a0 a1 a3 a4 a5 e b => w_store_sl_out (by omega) rfl
  simp -dsimp -implicitDefEqProofs only [g43, c43r0, c43r1, c43r2, c43r3, c43k4, c43r5, c43, go_sem, seval, ↓reduceIte, gV, List.append_assoc, List.cons_append, List.nil_append, get_pre, get_pre0, set_pre, set_pre0, Nat.add_assoc, List.length_append, List.length_cons, List.length_nil, Nat.zero_add, Tm.av, part_n, hlk, hms, hst, ints_len, hlim, ints_snoc, w_alloc_agg]
  rw [if_pos (by simp [AV.refsIn])]
  simp
theorem apply_vars (t0 : Tm) : ∀ (t : Tm) (l : List Int) (ext : Heap), t.fits = true → t.size < 10000000 → l.length + t.size < 100000000 →
  ∃ v e, S 30 [t.av, .func (.func 43) [] [.ptr 5 0, .ptr 2 0]] (gV t0 l ++ ext) = some (.ret v, gV t0 (vads l t.occ) ++ (ext ++ e)) ∧ v.shp = some 4 ∧ v.plain = true ∧
   ∃ e2, AV.freeze deep v (gV t0 (vads l t.occ) ++ (ext ++ e)) = some (t.pv, gV t0 (vads l t.occ) ++ (ext ++ e2)) := by
 intro t
 induction t using Tm.induct with
 | h t ih =>
  intro l ext hf ht hl
  have hts := t.size_eq
  have hlen := Tm.sizes_len t.args
  obtain ⟨K, hK⟩ : ∃ K : List Int → Heap, K = fun l => gV t0 l ++ ext := ⟨_, rfl⟩
  have hKs : ∀ l, gV t0 l ++ ext = K l := fun l => by rw [hK]
  have hKl : ∀ l, (K l).length = ext.length + 6 := fun l => by rw [← hKs]; simp [gV]
  have hKa : ∀ l X, gV t0 l ++ (ext ++ X) = K l ++ X := fun l X => by rw [← hKs, List.append_assoc]
  simp only [hKa, hKs]
  obtain ⟨n, hn⟩ : ∃ n, n = ext.length + 6 := ⟨_, rfl⟩
  rw [← hn] at hKl
  rw [Tm.occ_eq]
  by_cases hk : t.kind = 0
  ·rw [if_pos hk]
   have h1 := fun X => vars1_ok t0 t l (ext ++ X) (by omega)
   simp only [hKa] at h1
   have e1 : vads l [t.n] = vadd l t.n := rfl
   rw [e1]
   refine ⟨t.av, [], ?_, rfl, rfl, ⟨[], rfl⟩⟩
   rw [List.append_nil]
   refine sem_heap rfl rfl rfl rfl ?_
   have hk' := eq_true hk
   simp only [Tm.av] at h1
   simp -dsimp -implicitDefEqProofs only [g30, c30r0, c30r1, c30r2, c30k3, c30r4, c30r5, c30r6, c30k7, c30r8, c30r9, c30k10, c30r11, c30b12, c30k13, c30r14, c30, go_sem, seval, ↓reduceIte, Tm.av, part_kind, hk', h1, List.append_assoc, List.cons_append, List.nil_append, get_pre, get_pre0, set_pre, set_pre0, Nat.add_assoc, List.length_append, List.length_cons, List.length_nil, Nat.zero_add, hKl, getN (hKl _), getN0 (hKl _), setN (hKl _), setN0 (hKl _), w_alloc_agg]
   rw [if_pos (by simp [AV.refsIn]), ← hKl (vadd l t.n)]
   exact List.take_left
  ·rw [if_neg hk]
   refine ⟨.agg [(none, .pv none (.int .i64 t.kind)), (none, .pv none (.int .i64 t.n)), (none, .pv none (.str t.name)), (none, .sl (some 4) (n + 5) t.args.length 0 t.args.length)],
    [.box (some 4) (.pv (some 4) t.pv), .box (some 4) (.agg [(none, .pv none (.int .i64 t.kind)), (none, .pv none (.int .i64 t.n)), (none, .pv none (.str t.name)), (none, .sl (some 4) (n + 5) t.args.length 0 t.args.length)]), .arr (some 4) [] false, .box (some 4) (.agg [(none, .pv none (.int .i64 t.kind)), (none, .pv none (.int .i64 t.n)), (none, .pv none (.str t.name)), (none, .sl (some 4) (n + 5) t.args.length 0 t.args.length)]), .arr (some 4) [] false, .arr (some 4) (Tm.pvs t.args) false], ?_, rfl, rfl, ?_⟩
   ·refine sem_heap rfl rfl rfl rfl ?_
    have hk' := eq_false hk
    have hb : sBuild [(none, .pv none (.int .i64 0)), (none, .pv none (.int .i64 0)), (none, .pv none (.str [])), (none, .tsl (some 4) [])] [0, 1, 2] [.pv none (.int .i64 t.kind), .pv none (.int .i64 t.n), .pv none (.str t.name)] = some (.agg [(none, .pv none (.int .i64 t.kind)), (none, .pv none (.int .i64 t.n)), (none, .pv none (.str t.name)), (none, .tsl (some 4) [])]) := rfl
    have hle : ∀ k, n ≤ n + k := fun k => Nat.le_add_right _ _
    rw [hKl]
    simp -dsimp -implicitDefEqProofs only [g30, c30r0, c30r1, c30r2, c30k3, c30r4, c30r5, c30r6, c30k7, c30r8, c30r9, c30k10, c30r11, c30b12, c30k13, c30r14, c30, go_sem, seval, ↓reduceIte, Tm.av, part_kind, part_n, part_name, part_args, hk', Tm.pvs_len, hb, w_alloc_agg, w_store_agg (Nat.le_add_right _ _), List.append_assoc, List.cons_append, List.nil_append, get_pre, get_pre0, set_pre, set_pre0, Nat.add_assoc, List.length_append, List.length_cons, List.length_nil, Nat.zero_add, hKl, getN (hKl _), getN0 (hKl _), setN (hKl _), setN0 (hKl _)]
    refine W_for (α := Unit) t.args.length (fun _ _ => True) (fun i _ => ⟨[(1, .func (.func 43) [] [.ptr 5 0, .ptr 2 0]), (4, .ptr (n + 1) 0), (5, .ptr (n + 3) 0), (22, .pv none (.sl (some 4) (Tm.pvs t.args))), (23, .pv none (.int .i64 t.args.length)), (24, .pv none (.int .i64 i))], K (vads l (Tm.occs (t.args.take i))) ++ appH n t i⟩) () ⟨trivial, ?_⟩ ?_ ?_
    ·rw [List.take_zero]
     rfl
    ·rintro i - h -
     have hc : (i : Int) < (t.args.length : Int) := by omega
     obtain ⟨u, hu⟩ : ∃ u, t.args[i]? = some u := ⟨_, List.getElem?_eq_getElem h⟩
     have hum := List.mem_of_getElem? hu
     have husz := Tm.arg_lt hum
     have hst := Tm.sizes_take hu
     have hle2 := Tm.sizes_take_le t.args (i + 1)
     have hvl := vads_len (Tm.occs (t.args.take i)) l
     have hol := Tm.occs_len (t.args.take i)
     obtain ⟨v, e, hcall, hvs, hvp, e2, hfz⟩ := ih u hum (vads l (Tm.occs (t.args.take i))) (ext ++ (appH n t i ++ [.box (some 4) (.pv (some 4) u.pv), .arr (some 4) [] false])) (Tm.fits_arg hf hum) (by omega) (by omega)
     rw [← vads_app, ← Tm.occs_take hu] at hcall hfz
     simp only [List.append_assoc, hKa] at hcall hfz
     generalize vads l (Tm.occs (t.args.take (i + 1))) = l2 at hcall hfz ⊢
     generalize vads l (Tm.occs (t.args.take i)) = l1 at hcall hfz hvl ⊢
     have w2 : IntKind.i64.wrap ((i : Int) + 1) = ((i + 1 : Nat) : Int) := by rw [wrap64 (by omega) (by omega)]; omega
     have hl : (Tm.pvs (t.args.take i)).length = i := by rw [Tm.pvs_len, List.length_take]; omega
     have hlim : i + 1 ≤ lim := by unfold lim; omega
     have hbs : wBslice (some 4) (K l2 ++ (appH n t i ++ ([.box (some 4) (.pv (some 4) u.pv), .arr (some 4) [] false] ++ e))) [v] = some (.tsl (some 4) [u.pv], K l2 ++ (appH n t i ++ ([.box (some 4) (.pv (some 4) u.pv), .arr (some 4) [] false] ++ e2))) := by
      simp only [wBslice, freezeAll, hfz, hvs, ofShape, if_true]
     have hs1 : ∀ (k k' : List Int) (e e' : Heap), samePtr (K k ++ (appH n t i ++ e)) (K k' ++ (appH n t i ++ e')) (.ptr (n + 3) 3) = true := fun k k' e e' => samePtr_c (t := t) (q := n + 5) (i := i) (by rw [getN (hKl _)]; rfl) (by rw [getN (hKl _)]; rfl)
     simp only [Tm.av] at hcall
     simp only [appH, List.append_assoc, List.cons_append, List.nil_append] at hcall hbs hs1
     simp -dsimp -implicitDefEqProofs only [g30, c30r0, c30r1, c30r2, c30k3, c30r4, c30r5, c30r6, c30k7, c30r8, c30r9, c30k10, c30r11, c30b12, c30k13, c30r14, c30, go_sem, seval, ↓reduceIte, appH, hc, s_iaddr_pv (Tm.pvs_get hu), w_alloc_agg, op_bslicen, List.take_succ_cons, List.drop_succ_cons, List.all_cons, List.all_nil, hcall, hbs, hs1, w2, hl, hlim, Tm.pvs_take_succ hu, upd_agg, w_store_agg (Nat.le_add_right _ _), w_store_sl (Nat.le_add_right _ _), List.append_assoc, List.cons_append, List.nil_append, get_pre, get_pre0, set_pre, set_pre0, Nat.add_assoc, List.length_append, List.length_cons, List.length_nil, Nat.zero_add, hKl, getN (hKl _), getN0 (hKl _), setN (hKl _), setN0 (hKl _)]
     refine ⟨(), ?_⟩
     rw [collect_pre 6 (hKl _) rfl (by simp [AObj.refs, AV.ofComps, pures, AV.refsIn, AV.refsIn.go]) (by simp [AV.refsIn, AV.refsIn.gol])]
     rfl
    ·rintro - -
     have hc : ¬ (t.args.length : Int) < (t.args.length : Int) := by omega
     simp -dsimp -implicitDefEqProofs only [g30, c30r0, c30r1, c30r2, c30k3, c30r4, c30r5, c30r6, c30k7, c30r8, c30r9, c30k10, c30r11, c30b12, c30k13, c30r14, c30, go_sem, seval, ↓reduceIte, appH, hc, List.take_length, own_cons_sl, w_alloc_agg, w_store_agg (Nat.le_add_right _ _), w_store_sl (Nat.le_add_right _ _), List.append_assoc, List.cons_append, List.nil_append, get_pre, get_pre0, set_pre, set_pre0, Nat.add_assoc, List.length_append, List.length_cons, List.length_nil, Nat.zero_add, hKl, getN (hKl _), getN0 (hKl _), setN (hKl _), setN0 (hKl _)]
     rw [if_neg (by simp [AV.refsIn, AV.refsIn.go])]
   ·have e : ∀ l hp, AV.freeze (7 + 1) (.agg l) hp = match AV.freeze.go 7 l hp with | some (ps, hp') => some (.agg ps, hp') | none => none := fun _ _ => rfl
    cases t with
    | mk k n' s ts =>
     refine ⟨[.box (some 4) (.pv (some 4) (Tm.mk k n' s ts).pv), .box (some 4) (.agg [(none, .pv none (.int .i64 k)), (none, .pv none (.int .i64 n')), (none, .pv none (.str s)), (none, .sl (some 4) (n + 5) ts.length 0 ts.length)]), .arr (some 4) [] false, .box (some 4) (.agg [(none, .pv none (.int .i64 k)), (none, .pv none (.int .i64 n')), (none, .pv none (.str s)), (none, .sl (some 4) (n + 5) ts.length 0 ts.length)]), .arr (some 4) [] false, .arr (some 4) (Tm.pvs ts) true], ?_⟩
     show AV.freeze (7 + 1) (.agg _) _ = _
     simp [e, AV.freeze.go, AV.freeze, getN (hKl _), setN (hKl _), Tm.kind, Tm.n, Tm.name, Tm.args, Tm.pvs_len, Tm.pv]
theorem pVars_ok (t : Tm) (hv : t.valid = true) (hp : Heap) : S 17 [t.av] hp = some (.ret (.pv none (.sl none (ints (vads [] t.occ)))), hp) := by
 refine sem_pure rfl rfl rfl (freezeAll_pvs [(some 4, t.pv)]) rfl ?_
 have hsz := valid_size hv
 have h1 := fun hp => valid_ok t hp (by omega)
 rw [hv] at h1
 have hn0 : ∀ H : Heap, wNilsl none H = some (.sl none H.length 0 0 0, H ++ [.arr none [] false]) := fun H => w_nilsl (sh := none) (by decide)
 obtain ⟨v, e, h2, _, _, e2, hfz⟩ := apply_vars t t [] [] (valid_fits hv) (by omega) (by simp; omega)
 generalize vads [] t.occ = l at *
 simp only [Tm.av] at h1 h2
 have hmk : ∀ (a0 a1 a2 a3 : AObj), wStore none 0 [a0, a1, a2, a3, .map none [], .box none (.pv none .nilmap)] [.ptr 5 0, .map 4] = some (.undef, [a0, a1, a2, a3, .map none [], .box none (.map 4)]) := fun _ _ _ _ => rfl
 have e0 : gV t [] ++ [] = [.box (some 4) (.pv (some 4) t.pv), .arr none [] false, .box none (.sl none 3 0 0 0), .arr none [] false, .map none [], .box none (.map 4)] := rfl
 rw [e0] at h2
 simp only [gV, List.nil_append, List.cons_append] at h2
 have hal : ∀ a0 a1 : AObj, wAlloc none (.tsl none []) [a0, a1] [] = some (.ptr 2 0, [a0, a1, .box none (.sl none 3 0 0 0), .arr none [] false]) := fun _ _ => rfl
 have hfr : ∀ (a0 a1 a2 a4 a5 : AObj), Am.frozen (.pv none (.sl none (ints l))) (.sl none 3 l.length 0 l.length) (a0 :: a1 :: a2 :: .arr none (ints l) false :: a4 :: a5 :: e) := fun a0 a1 a2 a4 a5 => isV_frozen (.inr ⟨3, rfl, rfl⟩)
 simp -dsimp -implicitDefEqProofs only [g17, c17r0, c17r1, c17r2, c17k3, c17r4, c17r5, c17r6, c17r7, c17, go_sem, seval, ↓reduceIte, Tm.av, h1, hn0, w_alloc_agg, hal, hmk, h2]
 exact hfr _ _ _ _ _
end Go.Proofs.Ytffecaafklpmhaa
