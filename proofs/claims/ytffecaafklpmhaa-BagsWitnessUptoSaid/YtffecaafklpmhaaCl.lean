/- What is proved: term.Clone of a valid term is the term. -/
import Derived.Test.YtffecaafklpmhaaSm
import Derived.Test.YtffecaafklpmhaaAm4
set_option linter.unusedSimpArgs false
set_option linter.unusedVariables false
namespace Go.Proofs.Ytffecaafklpmhaa
open Go.Am
theorem get_pre {α : Type} (l r : List α) (k : Nat) : (l ++ r)[l.length + k]? = r[k]? := by
 rw [List.getElem?_append_right (by omega)]
 congr 1
 omega
theorem get_pre0 {α : Type} (l r : List α) : (l ++ r)[l.length]? = r[0]? := get_pre l r 0
theorem set_pre {α : Type} (l r : List α) (k : Nat) (x : α) : (l ++ r).set (l.length + k) x = l ++ r.set k x := by
 rw [List.set_append_right _ _ (by omega)]
 congr 2
 omega
theorem set_pre0 {α : Type} (l r : List α) (x : α) : (l ++ r).set l.length x = l ++ r.set 0 x := set_pre l r 0 x
theorem ident_ok (t : Tm) (hp : Heap) : S 58 [t.av] hp = some (.ret t.av, hp) := by
 refine sem_pure rfl rfl rfl (freezeAll_pvs [(some 4, t.pv)]) rfl ?_
 (repeat' (first | (simp -dsimp -implicitDefEqProofs only [g58, c58r0, c58r1, c58, go_sem, seval, ↓reduceIte, Tm.av, *]) | (refine iteK_intro (fun _ => ?_) (fun _ => ?_))))

theorem own_cons_sl (s s0 : Sh) (r v o n : Nat) (l : List (Sh × AV)) (hp : Heap) : ownComps ((s, .sl s0 r v o n) :: l) hp = ownCons (s, .sl s0 r v o n) (ownComps l hp) := rfl
theorem op_bslicen {Γ : Oracle} {b : Nat} {vs : List AV} {hp : Heap} {K : AV → Heap → Prop} {Kp : PV → Heap → Prop} (sh : Sh) (n : Nat) : opK (aOp Γ b (.bslicen sh n) vs hp) K Kp = stepK (wBslice sh hp (vs.drop n)) (fun v hp' => (vs.take n).all (samePtr hp hp') = true ∧ K v hp') := by
 simp only [aOp, aBslicen]
 cases wBslice sh hp (vs.drop n) with
 | none => rfl
 | some r =>
  obtain ⟨v, hp'⟩ := r
  simp only [opK, stepK]
  split
  ·rename_i h; split at h
   ·cases h; simp [*]
   ·cases h
  ·rename_i h; split at h <;> cases h
  ·rename_i h; split at h
   ·cases h
   ·simp [*]
def appH (n : Nat) (t : Tm) (i : Nat) : Heap := [.box (some 4) (.pv (some 4) t.pv), .box (some 4) (.agg [(none, .pv none (.int .i64 0)), (none, .pv none (.int .i64 0)), (none, .pv none (.str [])), (none, .sl (some 4) (n + 2) 0 0 0)]), .arr (some 4) [] false, .box (some 4) (.agg [(none, .pv none (.int .i64 t.kind)), (none, .pv none (.int .i64 t.n)), (none, .pv none (.str t.name)), (none, .sl (some 4) (n + 5) i 0 i)]), .arr (some 4) [] false, .arr (some 4) (Tm.pvs (t.args.take i)) false]
theorem samePtr_c {hp hp' : Heap} {r o q i : Nat} {t : Tm} (h : hp[r]? = some (.box (some 4) (.agg [(none, .pv none (.int .i64 t.kind)), (none, .pv none (.int .i64 t.n)), (none, .pv none (.str t.name)), (none, .sl (some 4) q i 0 i)]))) (h' : hp'[r]? = some (.box (some 4) (.agg [(none, .pv none (.int .i64 t.kind)), (none, .pv none (.int .i64 t.n)), (none, .pv none (.str t.name)), (none, .sl (some 4) q i 0 i)]))) : samePtr hp hp' (.ptr r o) = true := by
 simp [samePtr, h, h', AObj.beq, AV.beq, AV.beqc, PV.beq]
theorem apply_ok : ∀ (t : Tm) (hp : Heap), t.fits = true → t.size < 1000000000 → ∃ v e, S 30 [t.av, .pv none (.func (.func 58))] hp = some (.ret v, hp ++ e) ∧ v.shp = some 4 ∧ v.plain = true ∧ (∀ H, v.own H = (v, H)) ∧ (∃ e2, AV.freeze deep v (hp ++ e) = some (t.pv, hp ++ e2)) ∧ ∀ H : Heap, (∀ j, hp.length ≤ j → H[j]? = (hp ++ e)[j]?) → ∃ H2, AV.freeze deep v H = some (t.pv, H2) := by
 intro t
 induction t using Tm.induct with
 | h t ih =>
  intro hp hf ht
  have hts := t.size_eq
  have hlen := Tm.sizes_len t.args
  have h1 := fun hp => ident_ok t hp
  simp only [Tm.av] at h1
  by_cases hk : t.kind = 0
  ·refine ⟨t.av, [], ?_, rfl, rfl, fun _ => rfl, ⟨[], rfl⟩, fun H _ => ⟨H, rfl⟩⟩
   rw [List.append_nil]
   refine sem_heap rfl rfl rfl rfl ?_
   have hk' := eq_true hk
   simp -dsimp -implicitDefEqProofs only [g30, c30r0, c30r1, c30r2, c30k3, c30r4, c30r5, c30r6, c30k7, c30r8, c30r9, c30k10, c30r11, c30b12, c30k13, c30r14, c30, go_sem, seval, ↓reduceIte, Tm.av, part_kind, hk', h1, List.append_assoc, List.cons_append, List.nil_append, get_pre, get_pre0, set_pre, set_pre0, Nat.add_assoc, List.length_append, List.length_cons, List.length_nil, Nat.zero_add]
   simp only [AV.refsIn, List.all_nil, if_true]
   exact List.take_left
  ·refine ⟨.agg [(none, .pv none (.int .i64 t.kind)), (none, .pv none (.int .i64 t.n)), (none, .pv none (.str t.name)), (none, .sl (some 4) (hp.length + 5) t.args.length 0 t.args.length)],
    [.box (some 4) (.pv (some 4) t.pv), .box (some 4) (.agg [(none, .pv none (.int .i64 t.kind)), (none, .pv none (.int .i64 t.n)), (none, .pv none (.str t.name)), (none, .sl (some 4) (hp.length + 5) t.args.length 0 t.args.length)]), .arr (some 4) [] false, .box (some 4) (.agg [(none, .pv none (.int .i64 t.kind)), (none, .pv none (.int .i64 t.n)), (none, .pv none (.str t.name)), (none, .sl (some 4) (hp.length + 5) t.args.length 0 t.args.length)]), .arr (some 4) [] false, .arr (some 4) (Tm.pvs t.args) false], ?_, rfl, rfl, fun _ => rfl, ?_, ?_⟩
   ·refine sem_heap rfl rfl rfl rfl ?_
    have hk' := eq_false hk
    have hb : sBuild [(none, .pv none (.int .i64 0)), (none, .pv none (.int .i64 0)), (none, .pv none (.str [])), (none, .tsl (some 4) [])] [0, 1, 2] [.pv none (.int .i64 t.kind), .pv none (.int .i64 t.n), .pv none (.str t.name)] = some (.agg [(none, .pv none (.int .i64 t.kind)), (none, .pv none (.int .i64 t.n)), (none, .pv none (.str t.name)), (none, .tsl (some 4) [])]) := rfl
    simp -dsimp -implicitDefEqProofs only [g30, c30r0, c30r1, c30r2, c30k3, c30r4, c30r5, c30r6, c30k7, c30r8, c30r9, c30k10, c30r11, c30b12, c30k13, c30r14, c30, go_sem, seval, ↓reduceIte, Tm.av, part_kind, part_n, part_name, part_args, hk', Tm.pvs_len, hb, w_alloc_agg, w_store_agg (Nat.le_add_right _ _), List.append_assoc, List.cons_append, List.nil_append, get_pre, get_pre0, set_pre, set_pre0, Nat.add_assoc, List.length_append, List.length_cons, List.length_nil, Nat.zero_add]
    refine W_for (α := Unit) t.args.length (fun _ _ => True) (fun i _ => ⟨[(1, .pv none (.func (.func 58))), (4, .ptr (hp.length + 1) 0), (5, .ptr (hp.length + 3) 0), (22, .pv none (.sl (some 4) (Tm.pvs t.args))), (23, .pv none (.int .i64 t.args.length)), (24, .pv none (.int .i64 i))], hp ++ appH hp.length t i⟩) () ⟨trivial, rfl⟩ ?_ ?_
    ·rintro i - h -
     have hc : (i : Int) < (t.args.length : Int) := by omega
     obtain ⟨u, hu⟩ : ∃ u, t.args[i]? = some u := ⟨_, List.getElem?_eq_getElem h⟩
     have hum := List.mem_of_getElem? hu
     have husz := Tm.arg_lt hum
     obtain ⟨v, e, hcall, hvs, _, _, ⟨e2, hfz⟩, _⟩ := ih u hum (hp ++ (appH hp.length t i ++ [.box (some 4) (.pv (some 4) u.pv), .arr (some 4) [] false])) (Tm.fits_arg hf hum) (by omega)
     have w2 : IntKind.i64.wrap ((i : Int) + 1) = ((i + 1 : Nat) : Int) := by rw [wrap64 (by omega) (by omega)]; omega
     have hl : (Tm.pvs (t.args.take i)).length = i := by rw [Tm.pvs_len, List.length_take]; omega
     have hlim : i + 1 ≤ lim := by unfold lim; omega
     have hbs : wBslice (some 4) (hp ++ (appH hp.length t i ++ [.box (some 4) (.pv (some 4) u.pv), .arr (some 4) [] false]) ++ e) [v] = some (.tsl (some 4) [u.pv], hp ++ (appH hp.length t i ++ [.box (some 4) (.pv (some 4) u.pv), .arr (some 4) [] false]) ++ e2) := by
      simp only [wBslice, freezeAll, hfz, hvs, ofShape, if_true]
     simp only [Tm.av] at hcall
     have hs1 : ∀ e e' : Heap, samePtr (hp ++ (appH hp.length t i ++ e)) (hp ++ (appH hp.length t i ++ e')) (.ptr (hp.length + 3) 3) = true := fun e e' => samePtr_c (t := t) (q := hp.length + 5) (i := i) (by rw [get_pre]; rfl) (by rw [get_pre]; rfl)
     simp only [appH, List.append_assoc, List.cons_append, List.nil_append] at hcall hbs hs1
     simp -dsimp -implicitDefEqProofs only [g30, c30r0, c30r1, c30r2, c30k3, c30r4, c30r5, c30r6, c30k7, c30r8, c30r9, c30k10, c30r11, c30b12, c30k13, c30r14, c30, go_sem, seval, ↓reduceIte, appH, hc, s_iaddr_pv (Tm.pvs_get hu), w_alloc_agg, op_bslicen, List.take_succ_cons, List.drop_succ_cons, List.all_cons, List.all_nil, hcall, hbs, hs1, w2, hl, hlim, Tm.pvs_take_succ hu, upd_agg, w_store_agg (Nat.le_add_right _ _), w_store_sl (Nat.le_add_right _ _), List.append_assoc, List.cons_append, List.nil_append, get_pre, get_pre0, set_pre, set_pre0, Nat.add_assoc, List.length_append, List.length_cons, List.length_nil, Nat.zero_add]
     refine ⟨(), ?_⟩
     rw [collect_pre 6 rfl rfl (by simp [AObj.refs, AV.ofComps, pures, AV.refsIn, AV.refsIn.go]) (by simp [AV.refsIn, AV.refsIn.gol])]
     rfl
    ·rintro - -
     have hc : ¬ (t.args.length : Int) < (t.args.length : Int) := by omega
     simp -dsimp -implicitDefEqProofs only [g30, c30r0, c30r1, c30r2, c30k3, c30r4, c30r5, c30r6, c30k7, c30r8, c30r9, c30k10, c30r11, c30b12, c30k13, c30r14, c30, go_sem, seval, ↓reduceIte, appH, hc, List.take_length, own_cons_sl, w_alloc_agg, w_store_agg (Nat.le_add_right _ _), w_store_sl (Nat.le_add_right _ _), List.append_assoc, List.cons_append, List.nil_append, get_pre, get_pre0, set_pre, set_pre0, Nat.add_assoc, List.length_append, List.length_cons, List.length_nil, Nat.zero_add]
     rw [if_neg (by simp [AV.refsIn, AV.refsIn.go])]
   ·have e : ∀ l hp, AV.freeze (7 + 1) (.agg l) hp = match AV.freeze.go 7 l hp with | some (ps, hp') => some (.agg ps, hp') | none => none := fun _ _ => rfl
    cases t with
    | mk k n s ts =>
     refine ⟨[.box (some 4) (.pv (some 4) (Tm.mk k n s ts).pv), .box (some 4) (.agg [(none, .pv none (.int .i64 k)), (none, .pv none (.int .i64 n)), (none, .pv none (.str s)), (none, .sl (some 4) (hp.length + 5) ts.length 0 ts.length)]), .arr (some 4) [] false, .box (some 4) (.agg [(none, .pv none (.int .i64 k)), (none, .pv none (.int .i64 n)), (none, .pv none (.str s)), (none, .sl (some 4) (hp.length + 5) ts.length 0 ts.length)]), .arr (some 4) [] false, .arr (some 4) (Tm.pvs ts) true], ?_⟩
     show AV.freeze (7 + 1) (.agg _) _ = _
     simp [e, AV.freeze.go, AV.freeze, get_pre, Tm.kind, Tm.n, Tm.name, Tm.args, Tm.pvs_len, Tm.pv]
   ·intro H hH
    have h5 := hH (hp.length + 5) (by omega)
    rw [get_pre] at h5
    have e : ∀ l hp, AV.freeze (7 + 1) (.agg l) hp = match AV.freeze.go 7 l hp with | some (ps, hp') => some (.agg ps, hp') | none => none := fun _ _ => rfl
    cases t with
    | mk k n s ts =>
     refine ⟨H.set (hp.length + 5) (.arr (some 4) (Tm.pvs ts) true), ?_⟩
     show AV.freeze (7 + 1) (.agg _) _ = _
     simp only [Tm.args, List.getElem?_cons_succ, List.getElem?_cons_zero] at h5
     simp [e, AV.freeze.go, AV.freeze, h5, Tm.kind, Tm.n, Tm.name, Tm.args, Tm.pvs_len, Tm.pv]
theorem Tm.valid_fits {t : Tm} (h : t.valid = true) : t.fits = true := by
 unfold Tm.valid at h
 simp only [Bool.and_eq_true] at h
 exact h.2
theorem frozen_of {t : Tm} {v : AV} {H H2 : Heap} (h1 : v.shp = some 4) (h2 : v.plain = true) (h3 : AV.freeze deep v H = some (t.pv, H2)) : Am.frozen t.av v H := by
 refine ⟨H2, ?_⟩
 cases v <;> first | (cases h2; done) | (simp only [AV.freezeRes, h3, h1]; rfl)
theorem clone_ok (t : Tm) (hp : Heap) (hv : t.valid = true) (ht : t.size < 1000000000) : S 29 [t.av] hp = some (.ret t.av, hp) := by
 refine sem_pure rfl rfl rfl (freezeAll_pvs [(some 4, t.pv)]) rfl ?_
 have h1 := fun hp => valid_ok t hp ht
 obtain ⟨v, e, h2, h3, h4, h5, _, h6⟩ := apply_ok t [.box (some 4) (.pv (some 4) t.pv), .box (some 4) (.agg [(none, .pv none (.int .i64 0)), (none, .pv none (.int .i64 0)), (none, .pv none (.str [])), (none, .sl (some 4) 2 0 0 0)]), .arr (some 4) [] false] (Tm.valid_fits hv) ht
 have hst : wStore (some 4) 0 ([.box (some 4) (.pv (some 4) t.pv), .box (some 4) (.agg [(none, .pv none (.int .i64 0)), (none, .pv none (.int .i64 0)), (none, .pv none (.str [])), (none, .sl (some 4) 2 0 0 0)]), .arr (some 4) [] false] ++ e) [.ptr 1 0, v] = some (.undef, [.box (some 4) (.pv (some 4) t.pv), .box (some 4) v, .arr (some 4) [] false] ++ e) := by
  simp [wStore, astore, h3, h4, h5]
 have hfz := fun (H : Heap) (hH : ∀ j, 3 ≤ j → H[j]? = _) => (h6 H hH).elim fun H2 k => frozen_of h3 h4 k
 have hfr : Am.frozen t.av v ([.box (some 4) (.pv (some 4) t.pv), .box (some 4) v, .arr (some 4) [] false] ++ e) := by
  refine hfz _ fun j hj => ?_
  match j, hj with
  | j + 3, _ => rfl
 rw [hv] at h1
 simp only [Tm.av, List.cons_append, List.nil_append] at h1 h2 hst
 simp -dsimp -implicitDefEqProofs only [g29, c29r0, c29r1, c29r2, c29k3, c29r4, c29, go_sem, seval, ↓reduceIte, Tm.av, h1, h2, hst, w_alloc_agg, w_store_agg (Nat.zero_le _)]
 exact hfr
end Go.Proofs.Ytffecaafklpmhaa
