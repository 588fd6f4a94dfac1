/- What is proved: elements of lists, names of structures, the next variable. -/
import Derived.Test.YtffecaafklpmhaaGreatPFre
set_option linter.unusedSimpArgs false
set_option linter.unusedVariables false
namespace Go.Proofs.YtffecaafklpmhaaGreat
open Go.Am
theorem is_ok (t : Tm) (s : List UInt8) (k : Nat) (hp : Heap) : S 67 [t.av, .pv none (.str s), .pv none (.int .i64 k)] hp = some (.ret (.pv none (.bool (decide (t.kind = 3 ∧ t.name = s ∧ t.args.length = k)))), hp) := by
 refine sem_pure rfl rfl rfl (freezeAll_pvs [(some 4, t.pv), (none, .str s), (none, .int .i64 k)]) rfl ?_
 by_cases h1 : t.kind = 3
 ·have h1' := eq_true h1
  by_cases h2 : t.name = s
  ·have h2' := eq_true h2
   by_cases h3 : t.args.length = k
   ·have h3' := eq_true (show (t.args.length : Int) = (k : Int) by omega)
    have e : decide (t.kind = 3 ∧ t.name = s ∧ t.args.length = k) = true := by simp [h1, h2, h3]
    rw [e]
    simp -dsimp -implicitDefEqProofs only [g67, c67r0, c67r1, c67, go_sem, seval, ↓reduceIte, Tm.av, part_kind, part_name, part_args, Tm.pvs_len, h1', h2', h3']
   ·have h3' := eq_false (show ¬ (t.args.length : Int) = (k : Int) by omega)
    have e : decide (t.kind = 3 ∧ t.name = s ∧ t.args.length = k) = false := by simp [h3]
    rw [e]
    simp -dsimp -implicitDefEqProofs only [g67, c67r0, c67r1, c67, go_sem, seval, ↓reduceIte, Tm.av, part_kind, part_name, part_args, Tm.pvs_len, h1', h2', h3']
  ·have h2' := eq_false h2
   have e : decide (t.kind = 3 ∧ t.name = s ∧ t.args.length = k) = false := by simp [h2]
   rw [e]
   simp -dsimp -implicitDefEqProofs only [g67, c67r0, c67r1, c67, go_sem, seval, ↓reduceIte, Tm.av, part_kind, part_name, part_args, Tm.pvs_len, h1', h2']
 ·have h1' := eq_false h1
  have e : decide (t.kind = 3 ∧ t.name = s ∧ t.args.length = k) = false := by simp [h1]
  rw [e]
  simp -dsimp -implicitDefEqProofs only [g67, c67r0, c67r1, c67, go_sem, seval, ↓reduceIte, Tm.av, part_kind, part_name, part_args, Tm.pvs_len, h1']
def cs (t : Tm) : Prop := t.kind = 3 ∧ t.name = [46] ∧ t.args.length = 2
instance (t : Tm) : Decidable (cs t) := inferInstanceAs (Decidable (_ ∧ _))
def tl (t : Tm) : Tm := if h : cs t then tl (arg1 t) else t
termination_by t.size
decreasing_by exact Tm.arg_lt (mem_arg1 h.2.2)
def els (t : Tm) : List Tm := if h : cs t then arg0 t :: els (arg1 t) else []
termination_by t.size
decreasing_by exact Tm.arg_lt (mem_arg1 h.2.2)
theorem tl_c {t : Tm} (h : cs t) : tl t = tl (arg1 t) := by rw [tl, dif_pos h]
theorem tl_n {t : Tm} (h : ¬ cs t) : tl t = t := by rw [tl, dif_neg h]
theorem els_c {t : Tm} (h : cs t) : els t = arg0 t :: els (arg1 t) := by rw [els, dif_pos h]
theorem els_n {t : Tm} (h : ¬ cs t) : els t = [] := by rw [els, dif_neg h]
theorem els_len : ∀ (n : Nat) (t : Tm), t.size = n → (els t).length ≤ t.size := by
 intro n
 induction n using Nat.strongRecOn with
 | _ n ih =>
  intro t hn
  by_cases h : cs t
  ·have h3 := Tm.arg_lt (mem_arg1 h.2.2)
   have := ih _ (by omega) (arg1 t) rfl
   rw [els_c h, List.length_cons]; omega
  ·rw [els_n h]; exact Nat.zero_le _
theorem isCons_ok (t : Tm) (hp : Heap) : S 102 [t.av] hp = some (.ret (.pv none (.bool (decide (cs t)))), hp) := by
 refine sem_pure rfl rfl rfl (freezeAll_pvs [(some 4, t.pv)]) rfl ?_
 by_cases h1 : t.kind = 3
 ·have h1' := eq_true h1
  by_cases h2 : t.name = [46]
  ·have h2' := eq_true h2
   by_cases h3 : t.args.length = 2
   ·have h3' := eq_true (show (t.args.length : Int) = 2 by omega)
    have e : decide (cs t) = true := by simp [cs, h1, h2, h3]
    rw [e]
    simp -dsimp -implicitDefEqProofs only [g102, c102r0, c102r1, c102, go_sem, seval, ↓reduceIte, Tm.av, part_kind, part_name, part_args, Tm.pvs_len, h1', h2', h3']
   ·have h3' := eq_false (show ¬ (t.args.length : Int) = 2 by omega)
    have e : decide (cs t) = false := by simp [cs, h3]
    rw [e]
    simp -dsimp -implicitDefEqProofs only [g102, c102r0, c102r1, c102, go_sem, seval, ↓reduceIte, Tm.av, part_kind, part_name, part_args, Tm.pvs_len, h1', h2', h3']
  ·have h2' := eq_false h2
   have e : decide (cs t) = false := by simp [cs, h2]
   rw [e]
   simp -dsimp -implicitDefEqProofs only [g102, c102r0, c102r1, c102, go_sem, seval, ↓reduceIte, Tm.av, part_kind, part_name, part_args, Tm.pvs_len, h1', h2']
 ·have h1' := eq_false h1
  have e : decide (cs t) = false := by simp [cs, h1]
  rw [e]
  simp -dsimp -implicitDefEqProofs only [g102, c102r0, c102r1, c102, go_sem, seval, ↓reduceIte, Tm.av, part_kind, part_name, part_args, Tm.pvs_len, h1']
theorem frozen_els {l : List Tm} {t : Tm} {a0 a1 a2 a3 : AObj} : Am.frozen (.tuple [.pv none (.sl (some 4) (Tm.pvs l)), .pv (some 4) t.pv]) (.tuple [.sl (some 4) 4 l.length 0 l.length, .pv (some 4) t.pv]) [a0, a1, a2, a3, .arr (some 4) (Tm.pvs l) false] := by
 refine ⟨[a0, a1, a2, a3, .arr (some 4) (Tm.pvs l) true], ?_⟩
 have e2 : ∀ p hp, AV.freeze deep (.pv (some 4) p) hp = some (p, hp) := fun _ _ => rfl
 simp [AV.freezeRes, freezeAll, e2, AV.freeze, deep, Tm.pvs_len, pvs, AV.shp]
theorem relems_ok (t : Tm) (hv : t.valid = true) (hp : Heap) : S 56 [t.av] hp = some (.ret (.tuple [.pv none (.sl (some 4) (Tm.pvs (els t))), (tl t).av]), hp) := by
 refine sem_pure rfl rfl rfl (freezeAll_pvs [(some 4, t.pv)]) rfl ?_
 have hz := valid_size hv
 have hlen := els_len _ t rfl
 have h1 := fun hp => rvalid_ok t hp (by omega)
 have hn0 : ∀ H : Heap, wNilsl (some 4) H = some (.sl (some 4) H.length 0 0 0, H ++ [.arr (some 4) [] false]) := fun H => w_nilsl (sh := some 4) (by decide)
 simp only [Tm.av] at h1
 simp -dsimp -implicitDefEqProofs only [g56, c56r0, c56r1, c56r2, c56k3, c56r4, c56r5, c56k6, c56r7, c56r8, c56k9, c56b10, c56k11, c56r12, c56, go_sem, seval, ↓reduceIte, Tm.av, h1, hv, hn0, w_alloc_agg]
 refine W_loop (fun n st => ∃ (t1 : Tm) (d : List Tm), n = t1.size ∧ t1.valid = true ∧ d ++ els t1 = els t ∧ tl t1 = tl t ∧ st = ⟨[(1, .ptr 0 0), (3, .ptr 2 0), (4, .sl (some 4) 4 d.length 0 d.length)], [.box (some 4) (.pv (some 4) t1.pv), .arr (some 4) [] false, .box (some 4) (zg 3), .arr (some 4) [] false, .arr (some 4) (Tm.pvs d) false]⟩) (n := t.size) ⟨t, [], rfl, hv, rfl, rfl, rfl⟩ ?_
 rintro n st ⟨t1, d, rfl, hv1, he, ht, rfl⟩
 have hq := isCons_ok t1
 simp only [Tm.av] at hq
 have hdl := congrArg List.length he
 rw [List.length_append] at hdl
 by_cases h : cs t1
 ·have hd : decide (cs t1) = true := by simp [h]
  rw [hd] at hq
  have hlt := Tm.arg_lt (mem_arg1 h.2.2)
  have v0 := valid_arg hv1 (mem_arg0 h.2.2)
  have v1 := valid_arg hv1 (mem_arg1 h.2.2)
  have hcp := fun hp => copied_ok (arg0 t1) hp (fit9 v0)
  have hlim : d.length + 1 ≤ lim := by unfold lim; omega
  have hpl := Tm.pvs_len d
  rw [els_c h] at he
  simp only [Tm.av] at hcp
  simp -dsimp -implicitDefEqProofs only [g56, c56r0, c56r1, c56r2, c56k3, c56r4, c56r5, c56k6, c56r7, c56r8, c56k9, c56b10, c56k11, c56r12, c56, go_sem, seval, ↓reduceIte, zg, hq, part_args, hcp, ia0 (Tm.pvs_get (get_arg0 h.2.2)), ia1 (Tm.pvs_get (get_arg1 h.2.2)), hpl, hlim]
  refine ⟨_, hlt, arg1 t1, d ++ [arg0 t1], rfl, v1, by rw [← he, List.append_assoc]; rfl, by rw [← ht, tl_c h], ?_⟩
  rw [Tm.pvs_append, List.length_append]
  rfl
 ·have hd : decide (cs t1) = false := by simp [h]
  rw [hd] at hq
  have hcp := fun hp => copied_ok t1 hp (fit9 hv1)
  rw [els_n h, List.append_nil] at he
  rw [tl_n h] at ht
  simp only [Tm.av] at hcp
  rw [← he, ← ht]
  simp -dsimp -implicitDefEqProofs only [g56, c56r0, c56r1, c56r2, c56k3, c56r4, c56r5, c56k6, c56r7, c56r8, c56k9, c56b10, c56k11, c56r12, c56, go_sem, seval, ↓reduceIte, zg, hq, hcp]
  exact frozen_els
theorem pelems_ok (t : Tm) (hv : t.valid = true) (hp : Heap) : S 50 [t.av] hp = some (.ret (.tuple [.pv none (.sl (some 4) (Tm.pvs (els t))), (tl t).av]), hp) := by
 refine sem_pure rfl rfl rfl (freezeAll_pvs [(some 4, t.pv)]) rfl ?_
 have hz := valid_size hv
 have hlen := els_len _ t rfl
 have h1 := fun hp => valid_ok t hp (by omega)
 have hn0 : ∀ H : Heap, wNilsl (some 4) H = some (.sl (some 4) H.length 0 0 0, H ++ [.arr (some 4) [] false]) := fun H => w_nilsl (sh := some 4) (by decide)
 simp only [Tm.av] at h1
 simp -dsimp -implicitDefEqProofs only [g50, c50r0, c50r1, c50r2, c50k3, c50r4, c50r5, c50k6, c50r7, c50r8, c50k9, c50b10, c50k11, c50r12, c50, go_sem, seval, ↓reduceIte, Tm.av, h1, hv, hn0, w_alloc_agg]
 refine W_loop (fun n st => ∃ (t1 : Tm) (d : List Tm), n = t1.size ∧ t1.valid = true ∧ d ++ els t1 = els t ∧ tl t1 = tl t ∧ st = ⟨[(1, .ptr 0 0), (3, .ptr 2 0), (4, .sl (some 4) 4 d.length 0 d.length)], [.box (some 4) (.pv (some 4) t1.pv), .arr (some 4) [] false, .box (some 4) (zg 3), .arr (some 4) [] false, .arr (some 4) (Tm.pvs d) false]⟩) (n := t.size) ⟨t, [], rfl, hv, rfl, rfl, rfl⟩ ?_
 rintro n st ⟨t1, d, rfl, hv1, he, ht, rfl⟩
 have hdl := congrArg List.length he
 rw [List.length_append] at hdl
 by_cases h : cs t1
 ·have hlt := Tm.arg_lt (mem_arg1 h.2.2)
  have v0 := valid_arg hv1 (mem_arg0 h.2.2)
  have v1 := valid_arg hv1 (mem_arg1 h.2.2)
  have hcp := fun hp => clone_ok (arg0 t1) hp v0 (fit9 v0)
  have hlim : d.length + 1 ≤ lim := by unfold lim; omega
  have hpl := Tm.pvs_len d
  have k1 := eq_true h.1
  have k2 := eq_true h.2.1
  have k3 := eq_true (show (t1.args.length : Int) = 2 by have := h.2.2; omega)
  rw [els_c h] at he
  simp only [Tm.av] at hcp
  simp -dsimp -implicitDefEqProofs only [g50, c50r0, c50r1, c50r2, c50k3, c50r4, c50r5, c50k6, c50r7, c50r8, c50k9, c50b10, c50k11, c50r12, c50, go_sem, seval, ↓reduceIte, zg, part_kind, part_name, part_args, Tm.pvs_len, k1, k2, k3, hcp, ia0 (Tm.pvs_get (get_arg0 h.2.2)), ia1 (Tm.pvs_get (get_arg1 h.2.2)), hpl, hlim]
  refine ⟨_, hlt, arg1 t1, d ++ [arg0 t1], rfl, v1, by rw [← he, List.append_assoc]; rfl, by rw [← ht, tl_c h], ?_⟩
  rw [Tm.pvs_append, List.length_append]
  rfl
 ·have hcp := fun hp => clone_ok t1 hp hv1 (fit9 hv1)
  rw [els_n h, List.append_nil] at he
  rw [tl_n h] at ht
  simp only [Tm.av] at hcp
  rw [← he, ← ht]
  by_cases k1 : t1.kind = 3
  ·have k1' := eq_true k1
   by_cases k2 : t1.name = [46]
   ·have k2' := eq_true k2
    have k3' := eq_false (show ¬ (t1.args.length : Int) = 2 by
     intro e
     exact h ⟨k1, k2, by omega⟩)
    simp -dsimp -implicitDefEqProofs only [g50, c50r0, c50r1, c50r2, c50k3, c50r4, c50r5, c50k6, c50r7, c50r8, c50k9, c50b10, c50k11, c50r12, c50, go_sem, seval, ↓reduceIte, zg, part_kind, part_name, part_args, Tm.pvs_len, k1', k2', k3', hcp]
    exact frozen_els
   ·have k2' := eq_false k2
    simp -dsimp -implicitDefEqProofs only [g50, c50r0, c50r1, c50r2, c50k3, c50r4, c50r5, c50k6, c50r7, c50r8, c50k9, c50b10, c50k11, c50r12, c50, go_sem, seval, ↓reduceIte, zg, part_kind, part_name, part_args, Tm.pvs_len, k1', k2', hcp]
    exact frozen_els
  ·have k1' := eq_false k1
   simp -dsimp -implicitDefEqProofs only [g50, c50r0, c50r1, c50r2, c50k3, c50r4, c50r5, c50k6, c50r7, c50r8, c50k9, c50b10, c50k11, c50r12, c50, go_sem, seval, ↓reduceIte, zg, part_kind, part_name, part_args, Tm.pvs_len, k1', hcp]
   exact frozen_els
def ll (t : Tm) : Prop := (tl t).kind = 0 ∨ ((tl t).kind = 2 ∧ (tl t).name = [91, 93])
instance (t : Tm) : Decidable (ll t) := inferInstanceAs (Decidable (_ ∨ _))
theorem listLike_ok (t : Tm) (hv : t.valid = true) (hp : Heap) : S 70 [t.av] hp = some (.ret (.pv none (.bool (decide (ll t)))), hp) := by
 refine sem_pure rfl rfl rfl (freezeAll_pvs [(some 4, t.pv)]) rfl ?_
 have h1 := pelems_ok t hv
 simp only [Tm.av] at h1
 by_cases k0 : (tl t).kind = 0
 ·have k0' := eq_true k0
  have e : decide (ll t) = true := by simp [ll, k0]
  rw [e]
  simp -dsimp -implicitDefEqProofs only [g70, c70r0, c70r1, c70r2, c70, go_sem, seval, ↓reduceIte, Tm.av, h1, part_kind, part_name, k0', w_alloc_agg]
  try rfl
 ·have k0' := eq_false k0
  by_cases k2 : (tl t).kind = 2
  ·have k2' := eq_true k2
   by_cases kn : (tl t).name = [91, 93]
   ·have kn' := eq_true kn
    have e : decide (ll t) = true := by simp [ll, k2, kn]
    rw [e]
    simp -dsimp -implicitDefEqProofs only [g70, c70r0, c70r1, c70r2, c70, go_sem, seval, ↓reduceIte, Tm.av, h1, part_kind, part_name, k0', k2', kn', w_alloc_agg]
    try rfl
   ·have kn' := eq_false kn
    have e : decide (ll t) = false := by simp [ll, k0, kn]
    rw [e]
    simp -dsimp -implicitDefEqProofs only [g70, c70r0, c70r1, c70r2, c70, go_sem, seval, ↓reduceIte, Tm.av, h1, part_kind, part_name, k0', k2', kn', w_alloc_agg]
    try rfl
  ·have k2' := eq_false k2
   have e : decide (ll t) = false := by simp [ll, k0, k2]
   rw [e]
   simp -dsimp -implicitDefEqProofs only [g70, c70r0, c70r1, c70r2, c70, go_sem, seval, ↓reduceIte, Tm.av, h1, part_kind, part_name, k0', k2', w_alloc_agg]
   try rfl
def mx (x y : Int) : Int := if x < y then y else x
def nxt (l : List Int) : Int := l.foldl (fun n v => mx n (v + 1)) 0
theorem nxt_snoc (l : List Int) (v : Int) : nxt (l ++ [v]) = mx (nxt l) (v + 1) := by simp [nxt]
theorem nxt_lo (l : List Int) : 0 ≤ nxt l := by
 suffices h : ∀ (l : List Int) (n : Int), 0 ≤ n → 0 ≤ l.foldl (fun n v => mx n (v + 1)) n from h l 0 (by omega)
 intro l
 induction l with
 | nil => intro n h; exact h
 | cons v r ih =>
  intro n h
  refine ih _ ?_
  show 0 ≤ mx n (v + 1)
  unfold mx
  split <;> omega
theorem pnext_ok (t : Tm) (hv : t.valid = true) (hp : Heap) : S 71 [t.av] hp = some (.ret (.pv none (.int .i64 (nxt (vads [] t.occ)))), hp) := by
 refine sem_pure rfl rfl rfl (freezeAll_pvs [(some 4, t.pv)]) rfl ?_
 have hz := valid_size hv
 have hvs := pVars_ok t hv
 have hal := vads_len t.occ []
 have hol := t.occ_len
 have hrg : ∀ v ∈ vads [] t.occ, 0 ≤ v ∧ v ≤ 1099511627776 := fun v hvm => occ_rng (valid_fits hv) v (by simpa using (vads_mem t.occ [] v).1 hvm)
 rw [List.length_nil, Nat.zero_add] at hal
 simp only [Tm.av] at hvs
 generalize vads [] t.occ = a at *
 simp -dsimp -implicitDefEqProofs only [g71, c71r0, c71r1, c71r2, c71r3, c71k4, c71r5, c71r6, c71k7, c71r8, c71b9, c71k10, c71r11, c71, go_sem, seval, ↓reduceIte, Tm.av, hvs, ints_len]
 refine W_for (α := Unit) a.length (fun _ _ => True) (fun i _ => ⟨[(3, .pv none (.int .i64 (nxt (a.take i)))), (7, .pv none (.sl none (ints a))), (8, .pv none (.int .i64 a.length)), (9, .pv none (.int .i64 i))], [.box (some 4) (.pv (some 4) t.pv)]⟩) () ⟨trivial, rfl⟩ ?_ ?_
 ·rintro i - hi -
  have hc : (i : Int) < (a.length : Int) := by omega
  obtain ⟨x, hx⟩ : ∃ x, a[i]? = some x := ⟨_, List.getElem?_eq_getElem hi⟩
  have hxr := hrg x (List.mem_of_getElem? hx)
  have w2 : IntKind.i64.wrap ((i : Int) + 1) = ((i + 1 : Nat) : Int) := by rw [wrap64 (by omega) (by omega)]; omega
  have w3 : IntKind.i64.wrap (x + 1) = x + 1 := wrap64 (by omega) (by omega)
  have htk : nxt (a.take (i + 1)) = mx (nxt (a.take i)) (x + 1) := by rw [take_snoc hx, nxt_snoc]
  simp -dsimp -implicitDefEqProofs only [g71, c71r0, c71r1, c71r2, c71r3, c71k4, c71r5, c71r6, c71k7, c71r8, c71b9, c71k10, c71r11, c71, go_sem, seval, ↓reduceIte, hc, s_iaddr_pv (ints_get hx), w2, w3]
  exact ⟨(), by rw [htk]; rfl⟩
 ·rintro - -
  have hc : ¬ (a.length : Int) < (a.length : Int) := by omega
  simp -dsimp -implicitDefEqProofs only [g71, c71r0, c71r1, c71r2, c71r3, c71k4, c71r5, c71r6, c71k7, c71r8, c71b9, c71k10, c71r11, c71, go_sem, seval, ↓reduceIte, hc, List.take_length]
  try rfl
end Go.Proofs.YtffecaafklpmhaaGreat
