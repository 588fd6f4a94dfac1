/- What resolved terms are, for valid bindings. -/
import Derived.Test.YtenkiofpobeilaaRVd
set_option linter.unusedSimpArgs false
set_option linter.unusedVariables false
namespace Go.Proofs.Ytenkiofpobeilaa
open Go.Am
mutual
def Tm.sub (f : Int → Tm) : Tm → Tm
 | .mk k n s ts => if k = 0 then f n else .mk k n s (Tm.subs f ts)
def Tm.subs (f : Int → Tm) : List Tm → List Tm
 | [] => []
 | t :: r => Tm.sub f t :: Tm.subs f r
end
theorem Tm.subs_map (f : Int → Tm) : ∀ l : List Tm, Tm.subs f l = l.map (Tm.sub f)
 | [] => rfl
 | t :: r => by rw [Tm.subs, Tm.subs_map f r]; rfl
theorem Tm.sub_eq (f : Int → Tm) (t : Tm) : Tm.sub f t = if t.kind = 0 then f t.n else .mk t.kind t.n t.name (t.args.map (Tm.sub f)) := by
 cases t with
 | mk k n s ts =>
  simp only [Tm.sub, Tm.kind, Tm.n, Tm.name, Tm.args, Tm.subs_map]
  by_cases h : k = 0 <;> simp [h]
mutual
def Tm.wt (f : Int → Nat) : Tm → Nat
 | .mk k n _ ts => 1 + (if k = 0 then f n else Tm.wts f ts)
def Tm.wts (f : Int → Nat) : List Tm → Nat
 | [] => 0
 | t :: r => Tm.wt f t + Tm.wts f r
end
theorem Tm.wt_eq (f : Int → Nat) (t : Tm) : Tm.wt f t = 1 + (if t.kind = 0 then f t.n else Tm.wts f t.args) := by
 cases t; rfl
theorem Tm.wts_mem {f : Int → Nat} : ∀ {l : List Tm} {t : Tm}, t ∈ l → Tm.wt f t ≤ Tm.wts f l
 | [], _, h => by cases h
 | x :: r, t, h => by
  rw [Tm.wts]
  rcases List.mem_cons.1 h with rfl | h
  ·omega
  ·have := Tm.wts_mem (f := f) h; omega
theorem Tm.occs_mem {l : List Tm} {u : Tm} (h : u ∈ l) {w : Int} (hw : w ∈ u.occ) : w ∈ Tm.occs l := by
 induction l with
 | nil => cases h
 | cons x r ih =>
  rw [Tm.occs]
  rcases List.mem_cons.1 h with rfl | h
  ·exact List.mem_append_left _ hw
  ·exact List.mem_append_right _ (ih h)
theorem Tm.occs_inv {l : List Tm} {w : Int} (hw : w ∈ Tm.occs l) : ∃ u ∈ l, w ∈ u.occ := by
 induction l with
 | nil => cases hw
 | cons x r ih =>
  rw [Tm.occs] at hw
  rcases List.mem_append.1 hw with h | h
  ·exact ⟨x, List.mem_cons_self, h⟩
  ·obtain ⟨u, hu, h⟩ := ih h
   exact ⟨u, List.mem_cons_of_mem _ hu, h⟩
theorem Tm.occ_arg {t u : Tm} (hk : ¬ t.kind = 0) (h : u ∈ t.args) {w : Int} (hw : w ∈ u.occ) : w ∈ t.occ := by
 rw [Tm.occ_eq, if_neg hk]
 exact Tm.occs_mem h hw
theorem Tm.sub_congr {f g : Int → Tm} : ∀ t : Tm, (∀ w ∈ t.occ, f w = g w) → Tm.sub f t = Tm.sub g t := by
 intro t
 induction t using Tm.induct with
 | h t ih =>
  intro h
  rw [Tm.sub_eq, Tm.sub_eq]
  by_cases hk : t.kind = 0
  ·rw [if_pos hk, if_pos hk]
   exact h _ (by rw [Tm.occ_eq, if_pos hk]; simp)
  ·rw [if_neg hk, if_neg hk]
   congr 1
   exact List.map_congr_left fun u hu => ih u hu fun w hw => h w (Tm.occ_arg hk hu hw)
theorem Tm.wts_congr {f g : Int → Nat} : ∀ l : List Tm, (∀ u ∈ l, Tm.wt f u = Tm.wt g u) → Tm.wts f l = Tm.wts g l
 | [], _ => rfl
 | x :: r, h => by rw [Tm.wts, Tm.wts, h x List.mem_cons_self, Tm.wts_congr r fun u hu => h u (List.mem_cons_of_mem _ hu)]
theorem Tm.wt_congr {f g : Int → Nat} : ∀ t : Tm, (∀ w ∈ t.occ, f w = g w) → Tm.wt f t = Tm.wt g t := by
 intro t
 induction t using Tm.induct with
 | h t ih =>
  intro h
  rw [Tm.wt_eq, Tm.wt_eq]
  by_cases hk : t.kind = 0
  ·rw [if_pos hk, if_pos hk, h _ (by rw [Tm.occ_eq, if_pos hk]; simp)]
  ·rw [if_neg hk, if_neg hk]
   rw [Tm.wts_congr t.args fun u hu => ih u hu fun w hw => h w (Tm.occ_arg hk hu hw)]
def toB (l : List B) (v : Int) : Tm := match l[lbB l v]? with
 | some b => b.2
 | none => default
theorem fnd_get {l : List B} {v : Int} (h : fndB l v = true) : l[lbB l v]? = some (v, toB l v) := by
 unfold fndB at h
 unfold toB
 cases e : l[lbB l v]? with
 | none => rw [e] at h; cases h
 | some b =>
  rw [e] at h
  have : b.1 = v := by simpa using h
  rw [← this]
def Acyc (l : List B) : Prop := ∃ r : Int → Nat, ∀ v, fndB l v = true → ∀ w ∈ (toB l v).occ, fndB l w = true → r w < r v
theorem fnd_of {l : List B} (hs : Srt' l) {i : Nat} {b : B} (hb : l[i]? = some b) : fndB l b.1 = true ∧ lbB l b.1 = i := by
 have hlt := (List.getElem?_eq_some_iff.1 hb).1
 have h1 : ¬ i < lbB l b.1 := fun h => by have := (lbB_spec (v := b.1) hs hb).2 h; omega
 have h2 : ¬ lbB l b.1 < i := fun h => by
  obtain ⟨c, hc⟩ : ∃ c, l[lbB l b.1]? = some c := ⟨_, List.getElem?_eq_getElem (by omega)⟩
  have h3 : c.1 < b.1 := by
   obtain ⟨l1, e1⟩ := List.getElem?_eq_some_iff.1 hc
   obtain ⟨l2, e2⟩ := List.getElem?_eq_some_iff.1 hb
   have := List.pairwise_iff_getElem.1 hs _ _ l1 l2 h
   rw [e1, e2] at this
   exact this
  have := (lbB_spec (v := b.1) hs hc).1 h3
  omega
 have e : lbB l b.1 = i := by omega
 refine ⟨?_, e⟩
 unfold fndB
 rw [e, hb]
 simp
theorem OKB.Acyc {l : List B} (h : OKB l) : Acyc l := by
 obtain ⟨rk, hr⟩ := h.acyc
 refine ⟨fun v => rk (lbB l v), fun v hv w hw hf => ?_⟩
 exact hr _ _ (fnd_get hv) w hw hf
theorem okb_of {l : List B} (hG : Good l) (hr : ∀ b ∈ l, 0 ≤ b.1 ∧ b.1 ≤ 1099511627776) (ha : Acyc l) : OKB l := by
 obtain ⟨r, ha⟩ := ha
 refine ⟨hG, hr, fun i => match l[i]? with | some b => r b.1 | none => 0, fun i b hb w hw hf => ?_⟩
 obtain ⟨h1, h2⟩ := fnd_of hG.1 hb
 have h3 := fnd_get h1
 rw [h2, hb] at h3
 have h4 : toB l b.1 = b.2 := by cases e : toB l b.1; rw [e] at h3; cases b; cases h3; rfl
 simp only [fnd_get hf, hb]
 exact ha b.1 h1 w (by rw [h4]; exact hw) hf
theorem fix_ex {X : Type} {l : List B} (h : Acyc l) (u : Int → X) (s : (Int → X) → Tm → X) (cg : ∀ f g t, (∀ w ∈ t.occ, f w = g w) → s f t = s g t) :
  ∃ f : Int → X, ∀ v, f v = if fndB l v = true then s f (toB l v) else u v := by
 obtain ⟨rk, ha⟩ := h
 obtain ⟨it, h0, h1⟩ : ∃ it : Nat → Int → X, (∀ v, it 0 v = u v) ∧ ∀ n v, it (n + 1) v = if fndB l v = true then s (it n) (toB l v) else u v :=
  ⟨fun n => Nat.rec u (fun _ f v => if fndB l v = true then s f (toB l v) else u v) n, fun _ => rfl, fun _ _ => rfl⟩
 have hu : ∀ n v, ¬ fndB l v = true → it n v = u v := fun n v hv => by
  cases n with
  | zero => exact h0 v
  | succ n => rw [h1, if_neg hv]
 have stab : ∀ k n m v, rk v = k → k < n → k < m → it n v = it m v := by
  intro k
  induction k using Nat.strongRecOn with
  | _ k ih =>
   intro n m v hk hn hm
   by_cases hv : fndB l v = true
   ·obtain ⟨n', rfl⟩ : ∃ n', n = n' + 1 := ⟨n - 1, by omega⟩
    obtain ⟨m', rfl⟩ : ∃ m', m = m' + 1 := ⟨m - 1, by omega⟩
    rw [h1, h1, if_pos hv, if_pos hv]
    refine cg _ _ _ fun w hw => ?_
    by_cases hf : fndB l w = true
    ·have := ha v hv w hw hf
     exact ih (rk w) (by omega) n' m' w rfl (by omega) (by omega)
    ·rw [hu _ _ hf, hu _ _ hf]
   ·rw [hu _ _ hv, hu _ _ hv]
 refine ⟨fun v => it (rk v + 1) v, fun v => ?_⟩
 by_cases hv : fndB l v = true
 ·rw [if_pos hv]
  show it (rk v + 1) v = _
  rw [h1, if_pos hv]
  refine cg _ _ _ fun w hw => ?_
  by_cases hf : fndB l w = true
  ·have := ha v hv w hw hf
   exact stab (rk w) _ _ w rfl (by omega) (by omega)
  ·rw [hu _ _ hf, hu _ _ hf]
 ·rw [if_neg hv]
  exact hu _ _ hv
def tvar (v : Int) : Tm := .mk 0 v [] []
open Classical in
noncomputable def rsv (l : List B) : Int → Tm := if h : Acyc l then Classical.choose (fix_ex h tvar Tm.sub fun _ _ t h => Tm.sub_congr t h) else tvar
theorem rsv_eq {l : List B} (h : Acyc l) (v : Int) : rsv l v = if fndB l v = true then Tm.sub (rsv l) (toB l v) else tvar v := by
 unfold rsv
 rw [dif_pos h]
 exact Classical.choose_spec (fix_ex h tvar Tm.sub fun _ _ t h => Tm.sub_congr t h) v
open Classical in
noncomputable def muv (l : List B) : Int → Nat := if h : Acyc l then Classical.choose (fix_ex h (fun _ => 0) Tm.wt fun _ _ t h => Tm.wt_congr t h) else fun _ => 0
theorem muv_eq {l : List B} (h : Acyc l) (v : Int) : muv l v = if fndB l v = true then Tm.wt (muv l) (toB l v) else 0 := by
 unfold muv
 rw [dif_pos h]
 exact Classical.choose_spec (fix_ex h (fun _ => 0) Tm.wt fun _ _ t h => Tm.wt_congr t h) v
noncomputable def rs (l : List B) (t : Tm) : Tm := Tm.sub (rsv l) t
noncomputable def mu (l : List B) (t : Tm) : Nat := Tm.wt (muv l) t
theorem mu_arg (l : List B) {t u : Tm} (hk : ¬ t.kind = 0) (h : u ∈ t.args) : mu l u < mu l t := by
 unfold mu
 rw [Tm.wt_eq _ t, if_neg hk]
 have := Tm.wts_mem (f := muv l) h
 omega
theorem mu_to {l : List B} (h : Acyc l) {t : Tm} (hk : t.kind = 0) (hf : fndB l t.n = true) : mu l (toB l t.n) < mu l t := by
 unfold mu
 rw [Tm.wt_eq _ t, if_pos hk, muv_eq h, if_pos hf]
 omega
theorem rs_var {l : List B} (h : Acyc l) {t : Tm} (hk : t.kind = 0) : rs l t = if fndB l t.n = true then rs l (toB l t.n) else tvar t.n := by
 unfold rs
 rw [Tm.sub_eq, if_pos hk]
 exact rsv_eq h t.n
theorem rs_str (l : List B) {t : Tm} (hk : ¬ t.kind = 0) : rs l t = .mk t.kind t.n t.name (t.args.map (rs l)) := by
 unfold rs
 rw [Tm.sub_eq, if_neg hk]
theorem node_var {t : Tm} (h : t.fits = true) (hk : t.kind = 0) : t = tvar t.n := by
 rw [Tm.fits_eq] at h
 have h1 : t.node = true := by simp at h; exact h.1
 cases t with
 | mk k n s ts =>
  simp only [Tm.kind] at hk
  subst hk
  simp [Tm.node, Tm.kind, Tm.n, Tm.name, Tm.args] at h1
  obtain ⟨⟨_, h3⟩, h4⟩ := h1
  rw [h4, of_decide_eq_true h3]
  rfl
theorem valid_fits {t : Tm} (h : t.valid = true) : t.fits = true := by simp [Tm.valid] at h; exact h.2
theorem valid_size {t : Tm} (h : t.valid = true) : t.size ≤ 2000 := by simp [Tm.valid] at h; exact h.1
theorem valid_of {t : Tm} (h : t.fits = true) (h2 : t.size ≤ 2000) : t.valid = true := by simp [Tm.valid, h, h2]
theorem OKB.to {l : List B} (h : OKB l) {v : Int} (hf : fndB l v = true) : (toB l v).valid = true ∧ (toB l v).size < 1000000000 := h.good.2 _ (List.mem_of_getElem? (fnd_get hf))
def fstep (f : Int → Tm) (t : Tm) : Tm := if t.kind = 0 then f t.n else t
theorem fstep_congr {f g : Int → Tm} (t : Tm) (h : ∀ w ∈ t.occ, f w = g w) : fstep f t = fstep g t := by
 unfold fstep
 by_cases hk : t.kind = 0
 ·rw [if_pos hk, if_pos hk]
  exact h _ (by rw [Tm.occ_eq, if_pos hk]; simp)
 ·rw [if_neg hk, if_neg hk]
open Classical in
noncomputable def flv (l : List B) : Int → Tm := if h : Acyc l then Classical.choose (fix_ex h tvar fstep fun _ _ t h => fstep_congr t h) else tvar
theorem flv_eq {l : List B} (h : Acyc l) (v : Int) : flv l v = if fndB l v = true then fstep (flv l) (toB l v) else tvar v := by
 unfold flv
 simp only [dif_pos h]
 exact Classical.choose_spec (fix_ex h tvar fstep fun _ _ t h => fstep_congr t h) v
noncomputable def flw (l : List B) (t : Tm) : Tm := fstep (flv l) t
theorem flw_str (l : List B) {t : Tm} (hk : ¬ t.kind = 0) : flw l t = t := by unfold flw fstep; rw [if_neg hk]
theorem flw_to {l : List B} (h : Acyc l) {t : Tm} (hk : t.kind = 0) (hf : fndB l t.n = true) : flw l t = flw l (toB l t.n) := by
 unfold flw
 rw [fstep, if_pos hk, flv_eq h, if_pos hf]
theorem flw_free {l : List B} (h : Acyc l) {t : Tm} (hv : t.fits = true) (hk : t.kind = 0) (hf : ¬ fndB l t.n = true) : flw l t = t := by
 unfold flw
 rw [fstep, if_pos hk, flv_eq h, if_neg hf, ← node_var hv hk]
theorem flw_ok {l : List B} (h : OKB l) : ∀ (m : Nat) (t : Tm), mu l t = m → t.valid = true → (flw l t).valid = true ∧ rs l (flw l t) = rs l t ∧ mu l (flw l t) ≤ mu l t ∧ ¬ ((flw l t).kind = 0 ∧ fndB l (flw l t).n = true) := by
 intro m
 induction m using Nat.strongRecOn with
 | _ m ih =>
  intro t hm hv
  by_cases hk : t.kind = 0
  ·by_cases hf : fndB l t.n = true
   ·have hlt := mu_to h.Acyc hk hf
    obtain ⟨h1, h2, h3, h4⟩ := ih _ (by omega) (toB l t.n) rfl (h.to hf).1
    rw [flw_to h.Acyc hk hf]
    exact ⟨h1, by rw [h2, rs_var h.Acyc hk, if_pos hf], by omega, h4⟩
   ·rw [flw_free h.Acyc (valid_fits hv) hk hf]
    exact ⟨hv, rfl, Nat.le_refl _, fun e => hf e.2⟩
  ·rw [flw_str l hk]
   exact ⟨hv, rfl, Nat.le_refl _, fun e => hk e.1⟩
theorem rs_free {l : List B} (h : Acyc l) {t : Tm} (hv : t.fits = true) (hk : t.kind = 0) (hf : ¬ fndB l t.n = true) : rs l t = t := by
 rw [rs_var h hk, if_neg hf, ← node_var hv hk]
theorem rs_fits {l : List B} (h : OKB l) : ∀ (m : Nat) (t : Tm), mu l t = m → t.fits = true → (rs l t).fits = true := by
 intro m
 induction m using Nat.strongRecOn with
 | _ m ih =>
  intro t hm hv
  by_cases hk : t.kind = 0
  ·by_cases hf : fndB l t.n = true
   ·have hlt := mu_to h.Acyc hk hf
    rw [rs_var h.Acyc hk, if_pos hf]
    exact ih _ (by omega) _ rfl (valid_fits (h.to hf).1)
   ·rw [rs_free h.Acyc hv hk hf]; exact hv
  ·rw [rs_str l hk, Tm.fits_eq]
   have h1 := hv
   rw [Tm.fits_eq] at h1
   simp only [Bool.and_eq_true] at h1 ⊢
   refine ⟨?_, Tm.fitsAll_iff.2 fun u hu => ?_⟩
   ·have := h1.1
    cases t
    simp only [Tm.node, Tm.kind, Tm.n, Tm.name, Tm.args, List.length_map] at this ⊢
    exact this
   ·obtain ⟨w, hw, rfl⟩ := List.mem_map.1 hu
    have := mu_arg l hk hw
    exact ih _ (by omega) w rfl (Tm.fits_arg hv hw)
end Go.Proofs.Ytenkiofpobeilaa
