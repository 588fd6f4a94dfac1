/- What is proved: unification gives a most general unifier. -/
import Derived.Test.YtenkiofpobeilaaUniLaw
set_option linter.unusedSimpArgs false
set_option linter.unusedVariables false
namespace Go.Proofs.Ytenkiofpobeilaa
open Go.Am
def Resp (σ : Int → Tm) (l : List B) : Prop := ∀ v, fndB l v = true → σ v = Tm.sub σ (toB l v)
theorem sub_tv (σ : Int → Tm) (v : Int) : Tm.sub σ (tvar v) = σ v := by rw [Tm.sub_eq, if_pos (by rfl)]; rfl
theorem Resp.flw {σ : Int → Tm} {l : List B} (h : Resp σ l) (hO : OKB l) : ∀ (k : Nat) (t : Tm), mu l t = k → t.valid = true → Tm.sub σ (flw l t) = Tm.sub σ t := by
 intro k
 induction k using Nat.strongRecOn with
 | _ k ih =>
  intro t hk hv
  by_cases hk0 : t.kind = 0
  ·by_cases hf : fndB l t.n = true
   ·have := mu_to hO.Acyc hk0 hf
    rw [flw_to hO.Acyc hk0 hf, ih _ (by omega) _ rfl (hO.to hf).1, ← h t.n hf, Tm.sub_eq (t := t), if_pos hk0]
   ·rw [flw_free hO.Acyc (valid_fits hv) hk0 hf]
  ·rw [flw_str l hk0]
theorem Resp.rs {σ : Int → Tm} {l : List B} (h : Resp σ l) (hO : OKB l) : ∀ (k : Nat) (t : Tm), mu l t = k → t.fits = true → Tm.sub σ (rs l t) = Tm.sub σ t := by
 intro k
 induction k using Nat.strongRecOn with
 | _ k ih =>
  intro t hk hv
  by_cases hk0 : t.kind = 0
  ·by_cases hf : fndB l t.n = true
   ·have := mu_to hO.Acyc hk0 hf
    rw [rs_var hO.Acyc hk0, if_pos hf, ih _ (by omega) _ rfl (valid_fits (hO.to hf).1), ← h t.n hf, Tm.sub_eq (t := t), if_pos hk0]
   ·rw [rs_free hO.Acyc hv hk0 hf]
  ·rw [rs_str l hk0, Tm.sub_eq, Tm.sub_eq (t := t), if_neg (by exact hk0), if_neg hk0]
   show Tm.mk _ _ _ ((t.args.map _).map _) = _
   rw [List.map_map]
   congr 1
   refine List.map_congr_left fun u hu => ?_
   have := mu_arg l hk0 hu
   exact ih _ (by omega) u rfl (Tm.fits_arg hv hu)
theorem Resp.ins {σ : Int → Tm} {l : List B} (h : Resp σ l) (hG : Good l) {v : Int} {t : Tm} (hf : fndB l v = false) (he : σ v = Tm.sub σ t) : Resp σ (insB l v t) := fun w hw => by
 by_cases hwv : w = v
 ·rw [hwv, to_ins hG hf]; exact he
 ·have hw2 := ((fnd_ins hG hf w).1 hw).resolve_left hwv
  rw [to_ins_ne hG hf hw2]
  exact h w hw2
theorem sizes_map_le {f : Tm → Tm} : ∀ {l : List Tm} {u : Tm}, u ∈ l → (f u).size ≤ Tm.sizes (l.map f)
 | x :: r, u, h => by
  rw [List.map_cons]
  show _ ≤ (f x).size + Tm.sizes (r.map f)
  rcases List.mem_cons.1 h with rfl | h
  ·omega
  ·have := sizes_map_le (f := f) h; omega
 | [], _, h => by cases h
theorem sub_occ_size {σ : Int → Tm} {v : Int} : ∀ t : Tm, v ∈ t.occ → (σ v).size ≤ (Tm.sub σ t).size ∧ (¬ t.kind = 0 → (σ v).size < (Tm.sub σ t).size) := by
 intro t
 induction t using Tm.induct with
 | h t ih =>
  intro h
  rw [Tm.occ_eq] at h
  by_cases hk : t.kind = 0
  ·rw [if_pos hk, List.mem_singleton] at h
   rw [Tm.sub_eq, if_pos hk, h]
   exact ⟨Nat.le_refl _, fun e => absurd hk e⟩
  ·rw [if_neg hk] at h
   obtain ⟨u, hu, h⟩ := Tm.occs_inv h
   have h1 := (ih u hu h).1
   have h2 := sizes_map_le (f := Tm.sub σ) hu
   have hse : (Tm.mk t.kind t.n t.name (t.args.map (Tm.sub σ))).size = 1 + Tm.sizes (t.args.map (Tm.sub σ)) := by rw [Tm.size_eq]; rfl
   rw [Tm.sub_eq, if_neg hk, hse]
   exact ⟨by omega, fun _ => by omega⟩
theorem sub_size_le {σ : Int → Tm} : ∀ t : Tm, t.fits = true → (∀ v, 0 < (σ v).size) → t.size ≤ (Tm.sub σ t).size := by
 intro t
 induction t using Tm.induct with
 | h t ih =>
  intro hf h
  by_cases hk : t.kind = 0
  ·rw [Tm.sub_eq, if_pos hk]
   have e : t.size = 1 := by rw [node_var hf hk]; rfl
   have := h t.n
   omega
  ·have hse : (Tm.mk t.kind t.n t.name (t.args.map (Tm.sub σ))).size = 1 + Tm.sizes (t.args.map (Tm.sub σ)) := by rw [Tm.size_eq]; rfl
   have hse2 := t.size_eq
   rw [Tm.sub_eq, if_neg hk, hse]
   have : ∀ l : List Tm, (∀ u ∈ l, u.size ≤ (Tm.sub σ u).size) → Tm.sizes l ≤ Tm.sizes (l.map (Tm.sub σ)) := by
    intro l
    induction l with
    | nil => intro _; exact Nat.le_refl _
    | cons x r ihl =>
     intro hl
     have h1 := hl x List.mem_cons_self
     have h2 := ihl fun u hu => hl u (List.mem_cons_of_mem _ hu)
     show x.size + Tm.sizes r ≤ (Tm.sub σ x).size + Tm.sizes (r.map (Tm.sub σ))
     omega
   have h3 := this t.args fun u hu => ih u hu (Tm.fits_arg hf hu) h
   omega
theorem zip_sub {σ : Int → Tm} : ∀ {a b : List Tm}, a.map (Tm.sub σ) = b.map (Tm.sub σ) → ∀ p ∈ a.zip b, Tm.sub σ p.1 = Tm.sub σ p.2
 | [], _, _, p, hp => by simp at hp
 | _ :: _, [], h, _, _ => by cases h
 | x :: a, y :: b, h, p, hp => by
  simp only [List.map_cons, List.cons.injEq] at h
  rw [List.zip_cons_cons] at hp
  rcases List.mem_cons.1 hp with rfl | hp
  ·exact h.1
  ·exact zip_sub h.2 p hp
theorem gen_step {σ : Int → Tm} {l : List B} (hO : OKB l) (hR : Resp σ l) {x y : Tm} (hx : Flwd l x) (hy : Flwd l y) (h : Tm.sub σ x = Tm.sub σ y) : ∀ e, ustep l x y ≠ .err e := by
 have key : ∀ {x y : Tm}, Flwd l x → Flwd l y → Tm.sub σ x = Tm.sub σ y → x.kind = 0 → ¬ y.kind = 0 → ¬ inR l x.n y := by
  intro x y hx hy h hk hk2 hi
  have h1 := hR.rs hO _ y rfl (valid_fits hy.1)
  have hi2 : x.n ∈ (rs l y).occ := hi
  have hk3 : ¬ (rs l y).kind = 0 := by rw [rs_str l hk2]; exact hk2
  have h2 := (sub_occ_size (σ := σ) (rs l y) hi2).2 hk3
  rw [h1, ← h, Tm.sub_eq, if_pos hk] at h2
  exact Nat.lt_irrefl _ h2
 intro e he
 unfold ustep at he
 split at he
 ·split at he
  ·cases he
  ·split at he <;> cases he
 ·rename_i hn
  split at he
  ·rename_i hk
   split at he
   ·rename_i hi
    exact key hx hy h hk (fun e => hn ⟨hk, e⟩) hi
   ·cases he
  ·rename_i hk
   split at he
   ·rename_i hk2
    split at he
    ·rename_i hi
     exact key hy hx h.symm hk2 hk hi
    ·cases he
   ·rename_i hk2
    split at he
    ·cases he
    ·rename_i hm
     rw [Tm.sub_eq, if_neg hk, Tm.sub_eq (t := y), if_neg hk2] at h
     injection h with h1 h2 h3 h4
     have h5 := congrArg List.length h4
     rw [List.length_map, List.length_map] at h5
     exact hm ⟨h1, h2, h3, h5⟩
theorem uni_gen {σ : Int → Tm} : ∀ (n : Nat) (l : List B) (r : List (Tm × Tm)), OKB l → (∀ p ∈ r, p.1.valid = true ∧ p.2.valid = true) → Resp σ l → (∀ p ∈ r, Tm.sub σ p.1 = Tm.sub σ p.2) → (uni n l r).2 = 2 ∨ ((uni n l r).2 = 0 ∧ Resp σ (uni n l r).1)
 | n, l, [], _, _, hR, _ => by rw [uni_nil]; exact .inr ⟨rfl, hR⟩
 | 0, l, p :: r, _, _, _, _ => .inl rfl
 | n + 1, l, p :: r, hO, hr, hR, hs => by
  have hp := hr p List.mem_cons_self
  have hx := flw_flwd hO hp.1
  have hy := flw_flwd hO hp.2
  have hr2 := fun q hq => hr q (List.mem_cons_of_mem _ hq)
  have hs2 := fun q hq => hs q (List.mem_cons_of_mem _ hq)
  have hxy : Tm.sub σ (flw l p.1) = Tm.sub σ (flw l p.2) := by
   rw [hR.flw hO _ p.1 rfl hp.1, hR.flw hO _ p.2 rfl hp.2]
   exact hs p List.mem_cons_self
  cases e : ustep l (flw l p.1) (flw l p.2) with
  | err e' => exact absurd e (gen_step hO hR hx hy hxy e')
  | bind v t =>
   rw [uni_bind r e]
   obtain ⟨b1, b2, b3, b4⟩ := ustep_bind hO hx hy e
   have hvt : σ v = Tm.sub σ t := by
    rcases bind_same hx hy e with ⟨e1, e2⟩ | ⟨e1, e2⟩
    ·rw [e1, e2, sub_tv] at hxy; exact hxy
    ·rw [e1, e2, sub_tv] at hxy; exact hxy.symm
   exact uni_gen n _ r (okb_ins hO b1 b2 b3 b4) hr2 (hR.ins hO.good b1 hvt) hs2
  | args xs =>
   rw [uni_args r e]
   have ha := ustep_args hx hy e
   refine uni_gen n l (xs ++ r) hO (fun q hq => (List.mem_append.1 hq).elim (ha.1 q) (hr2 q)) hR fun q hq => ?_
   rcases List.mem_append.1 hq with hq | hq
   ·rcases args_same hx hy e with ⟨_, e2⟩ | ⟨k1, k2, k3, k4, k5, e2⟩
    ·rw [e2] at hq; cases hq
    ·rw [e2] at hq
     have hk2 : ¬ (flw l p.2).kind = 0 := by rw [← k2]; exact k1
     rw [Tm.sub_eq, if_neg k1, Tm.sub_eq (t := flw l p.2), if_neg hk2] at hxy
     injection hxy with h1 h2 h3 h4
     exact zip_sub h4 q hq
   ·exact hs2 q hq
end Go.Proofs.Ytenkiofpobeilaa
