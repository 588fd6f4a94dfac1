/- What unification computes, in plain terms. -/
import Derived.Test.YtenkiofpobeilaaROc
set_option linter.unusedSimpArgs false
set_option linter.unusedVariables false
namespace Go.Proofs.Ytenkiofpobeilaa
open Go.Am
inductive UStep where
 | err (e : Int)
 | bind (v : Int) (t : Tm)
 | args (xs : List (Tm × Tm))
open Classical in
noncomputable def ustep (l : List B) (x y : Tm) : UStep :=
 if x.kind = 0 ∧ y.kind = 0 then
  if y.n < x.n then .bind x.n y else if x.n < y.n then .bind y.n x else .args []
 else if x.kind = 0 then (if inR l x.n y then .err 9 else .bind x.n y)
 else if y.kind = 0 then (if inR l y.n x then .err 9 else .bind y.n x)
 else if x.kind = y.kind ∧ x.n = y.n ∧ x.name = y.name ∧ x.args.length = y.args.length then .args (x.args.zip y.args) else .err 4
noncomputable def uni : Nat → List B → List (Tm × Tm) → List B × Int
 | _, l, [] => (l, 0)
 | 0, _, _ :: _ => ([], 2)
 | n + 1, l, p :: r => match ustep l (flw l p.1) (flw l p.2) with
  | .err e => ([], e)
  | .bind v t => uni n (insB l v t) r
  | .args xs => uni n l (xs ++ r)
theorem uni_nil (n : Nat) (l : List B) : uni n l [] = (l, 0) := by cases n <;> rfl
theorem uni_zero (l : List B) (p : Tm × Tm) (r : List (Tm × Tm)) : uni 0 l (p :: r) = ([], 2) := rfl
theorem uni_err {n : Nat} {l : List B} {p : Tm × Tm} {e : Int} (r : List (Tm × Tm)) (h : ustep l (flw l p.1) (flw l p.2) = .err e) : uni (n + 1) l (p :: r) = ([], e) := by rw [uni, h]
theorem uni_bind {n : Nat} {l : List B} {p : Tm × Tm} {v : Int} {t : Tm} (r : List (Tm × Tm)) (h : ustep l (flw l p.1) (flw l p.2) = .bind v t) : uni (n + 1) l (p :: r) = uni n (insB l v t) r := by rw [uni, h]
theorem uni_args {n : Nat} {l : List B} {p : Tm × Tm} {xs : List (Tm × Tm)} (r : List (Tm × Tm)) (h : ustep l (flw l p.1) (flw l p.2) = .args xs) : uni (n + 1) l (p :: r) = uni n l (xs ++ r) := by rw [uni, h]
theorem mem_insB_iff {l : List B} {v : Int} {t : Tm} {x : B} : x ∈ insB l v t ↔ x = (v, t) ∨ x ∈ l := ⟨mem_insB, mem_ins_of⟩
theorem fnd_ins {l : List B} (hG : Good l) {v : Int} {t : Tm} (hf : fndB l v = false) (w : Int) : fndB (insB l v t) w = true ↔ w = v ∨ fndB l w = true := by
 rw [fnd_iff (insB_srt hG.1 hf), fnd_iff hG.1]
 simp only [List.mem_map, mem_insB_iff]
 constructor
 ·rintro ⟨x, rfl | h, rfl⟩
  ·exact .inl rfl
  ·exact .inr ⟨x, h, rfl⟩
 ·rintro (rfl | ⟨x, h, rfl⟩)
  ·exact ⟨_, .inl rfl, rfl⟩
  ·exact ⟨x, .inr h, rfl⟩
theorem to_ins {l : List B} (hG : Good l) {v : Int} {t : Tm} (hf : fndB l v = false) : toB (insB l v t) v = t := (to_of (insB_srt hG.1 hf) (mem_insB_iff.2 (.inl rfl))).2
theorem to_ins_ne {l : List B} (hG : Good l) {v : Int} {t : Tm} (hf : fndB l v = false) {w : Int} (hw : fndB l w = true) : toB (insB l v t) w = toB l w :=
 (to_of (insB_srt hG.1 hf) (mem_insB_iff.2 (.inr (find_mem hw)))).2
theorem mu_occ {l : List B} {w : Int} : ∀ t : Tm, t.fits = true → w ∈ t.occ → mu l (tvar w) ≤ mu l t := by
 intro t
 induction t using Tm.induct with
 | h t ih =>
  intro hf hw
  rw [Tm.occ_eq] at hw
  by_cases hk : t.kind = 0
  ·rw [if_pos hk, List.mem_singleton] at hw
   rw [hw, mu_tv hf hk]
   exact Nat.le_refl _
  ·rw [if_neg hk] at hw
   obtain ⟨u, hu, h⟩ := Tm.occs_inv hw
   have := ih u hu (Tm.fits_arg hf hu) h
   have := mu_arg l hk hu
   omega
theorem inR_occ {l : List B} {v w : Int} : ∀ t : Tm, t.fits = true → w ∈ t.occ → inR l v (tvar w) → inR l v t := by
 intro t
 induction t using Tm.induct with
 | h t ih =>
  intro hf hw hi
  rw [Tm.occ_eq] at hw
  by_cases hk : t.kind = 0
  ·rw [if_pos hk, List.mem_singleton] at hw
   rw [node_var hf hk, ← hw]
   exact hi
  ·rw [if_neg hk] at hw
   obtain ⟨u, hu, h⟩ := Tm.occs_inv hw
   exact (inR_str hk).2 ⟨u, hu, ih u hu (Tm.fits_arg hf hu) h hi⟩
theorem okb_ins {l : List B} (hO : OKB l) {v : Int} {t : Tm} (hf : fndB l v = false) (hv : 0 ≤ v ∧ v ≤ 1099511627776) (ht : t.valid = true) (hn : ¬ inR l v t) : OKB (insB l v t) := by
 have htz := valid_size ht
 have hA := hO.Acyc
 refine okb_of (insB_good hO.good hf ht (by omega)) (fun b hb => ?_) ?_
 ·rcases mem_insB hb with rfl | h
  ·exact hv
  ·exact hO.rng b h
 ·refine ⟨fun w => by classical exact if inR l v (tvar w) then mu l (tvar w) + mu l t + 1 else mu l (tvar w), fun x hx y hy hfy => ?_⟩
  have hvv : inR l v (tvar v) := (inR_free hA (tvar_fits hv) rfl (by show ¬ fndB l v = true; simp [hf])).2 rfl
  simp only
  by_cases hxv : x = v
  ·subst hxv
   rw [to_ins hO.good hf] at hy
   have h1 : ¬ inR l x (tvar y) := fun h => hn (inR_occ t (valid_fits ht) hy h)
   have h2 := mu_occ (l := l) t (valid_fits ht) hy
   rw [if_pos hvv, if_neg h1]
   omega
  ·have hfx : fndB l x = true := ((fnd_ins hO.good hf x).1 hx).resolve_left hxv
   rw [to_ins_ne hO.good hf hfx] at hy
   have hto := valid_fits (hO.to hfx).1
   have h2 := mu_occ (l := l) _ hto hy
   have h3 := mu_to (l := l) hA (t := tvar x) rfl hfx
   have h3 : mu l (toB l x) < mu l (tvar x) := h3
   have h4 : inR l v (tvar y) → inR l v (tvar x) := fun h => (inR_to hA (t := tvar x) rfl hfx).2 (inR_occ _ hto hy h)
   by_cases h5 : inR l v (tvar y)
   ·rw [if_pos h5, if_pos (h4 h5)]; omega
   ·rw [if_neg h5]
    split <;> omega
def Flwd (l : List B) (x : Tm) : Prop := x.valid = true ∧ (x.kind = 0 → fndB l x.n = false ∧ x = tvar x.n ∧ 0 ≤ x.n ∧ x.n ≤ 1099511627776)
theorem var_rng {x : Tm} (hf : x.fits = true) (hk : x.kind = 0) : 0 ≤ x.n ∧ x.n ≤ 1099511627776 := by
 exact occ_rng hf x.n (by rw [Tm.occ_eq, if_pos hk]; simp)
theorem flw_flwd {l : List B} (hO : OKB l) {t : Tm} (hv : t.valid = true) : Flwd l (flw l t) := by
 obtain ⟨h1, _, _, h4⟩ := flw_ok hO _ t rfl hv
 refine ⟨h1, fun hk => ⟨?_, node_var (valid_fits h1) hk, var_rng (valid_fits h1) hk⟩⟩
 cases e : fndB l (flw l t).n with
 | false => rfl
 | true => exact absurd ⟨hk, e⟩ h4
theorem inR_var {l : List B} (hO : OKB l) {x : Tm} (hx : Flwd l x) (hk : x.kind = 0) (v : Int) : inR l v x ↔ v = x.n :=
 inR_free hO.Acyc (valid_fits hx.1) hk (by simp [(hx.2 hk).1])
structure UBind (l : List B) (v : Int) (t : Tm) : Prop where
 unb : fndB l v = false
 rng : 0 ≤ v ∧ v ≤ 1099511627776
 val : t.valid = true
 out : ¬ inR l v t
theorem ustep_bind {l : List B} (hO : OKB l) {x y : Tm} (hx : Flwd l x) (hy : Flwd l y) {v : Int} {t : Tm} (h : ustep l x y = .bind v t) : UBind l v t := by
 unfold ustep at h
 split at h
 ·rename_i hk
  have hx2 := hx.2 hk.1
  have hy2 := hy.2 hk.2
  split at h
  ·rename_i hlt
   cases h
   exact ⟨hx2.1, hx2.2.2, hy.1, fun e => by have := (inR_var hO hy hk.2 _).1 e; omega⟩
  ·split at h
   ·rename_i hlt
    cases h
    exact ⟨hy2.1, hy2.2.2, hx.1, fun e => by have := (inR_var hO hx hk.1 _).1 e; omega⟩
   ·cases h
 ·split at h
  ·rename_i hk
   split at h
   ·cases h
   ·rename_i hn
    cases h
    exact ⟨(hx.2 hk).1, (hx.2 hk).2.2, hy.1, hn⟩
  ·split at h
   ·rename_i hk
    split at h
    ·cases h
    ·rename_i hn
     cases h
     exact ⟨(hy.2 hk).1, (hy.2 hk).2.2, hx.1, hn⟩
   ·split at h <;> cases h
theorem ustep_args {l : List B} {x y : Tm} (hx : Flwd l x) (hy : Flwd l y) {xs : List (Tm × Tm)} (h : ustep l x y = .args xs) : (∀ p ∈ xs, p.1.valid = true ∧ p.2.valid = true) ∧ xs.length ≤ 2000 := by
 unfold ustep at h
 split at h
 ·split at h
  ·cases h
  ·split at h
   ·cases h
   ·cases h; exact ⟨(fun p hp => by cases hp), Nat.zero_le _⟩
 ·split at h
  ·split at h <;> cases h
  ·split at h
   ·split at h <;> cases h
   ·split at h
    ·cases h
     have hs := valid_size hx.1
     have hse := x.size_eq
     have hlen := Tm.sizes_len x.args
     refine ⟨fun p hp => ?_, by rw [List.length_zip]; omega⟩
     have := List.of_mem_zip hp
     exact ⟨valid_arg hx.1 this.1, valid_arg hy.1 this.2⟩
    ·cases h
theorem okb_nil : OKB [] := ⟨⟨List.Pairwise.nil, (fun b hb => by cases hb)⟩, (fun b hb => by cases hb), fun _ => 0, (fun i b hb => by simp at hb)⟩
theorem uni_ok : ∀ (n : Nat) (l : List B) (r : List (Tm × Tm)), OKB l → (∀ p ∈ r, p.1.valid = true ∧ p.2.valid = true) → OKB (uni n l r).1 ∧ (uni n l r).1.length ≤ l.length + n
 | n, l, [], hO, _ => by rw [uni_nil]; exact ⟨hO, by simp⟩
 | 0, l, p :: r, _, _ => by rw [uni_zero]; exact ⟨okb_nil, by simp⟩
 | n + 1, l, p :: r, hO, hr => by
  have hp := hr p List.mem_cons_self
  have hx := flw_flwd hO hp.1
  have hy := flw_flwd hO hp.2
  have hr2 := fun q hq => hr q (List.mem_cons_of_mem _ hq)
  cases e : ustep l (flw l p.1) (flw l p.2) with
  | err e' => rw [uni_err r e]; exact ⟨okb_nil, by simp⟩
  | bind v t =>
   rw [uni_bind r e]
   obtain ⟨b1, b2, b3, b4⟩ := ustep_bind hO hx hy e
   have ih := uni_ok n (insB l v t) r (okb_ins hO b1 b2 b3 b4) hr2
   have := insB_len l v t
   exact ⟨ih.1, by omega⟩
  | args xs =>
   rw [uni_args r e]
   have ih := uni_ok n l (xs ++ r) hO fun q hq => (List.mem_append.1 hq).elim ((ustep_args hx hy e).1 q) (hr2 q)
   exact ⟨ih.1, by omega⟩
end Go.Proofs.Ytenkiofpobeilaa
