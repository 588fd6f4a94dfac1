/- What unification gives: symmetric, an extension that makes the terms the same, most general. -/
import Derived.Test.YtenkiofpobeilaaUni
set_option linter.unusedSimpArgs false
set_option linter.unusedVariables false
namespace Go.Proofs.Ytenkiofpobeilaa
open Go.Am
def swp (p : Tm × Tm) : Tm × Tm := (p.2, p.1)
def UStep.swp : UStep → UStep
 | .args xs => .args (xs.map Go.Proofs.Ytenkiofpobeilaa.swp)
 | u => u
theorem zip_swp (a b : List Tm) : (a.zip b).map swp = b.zip a := by
 induction a generalizing b with
 | nil => cases b <;> rfl
 | cons x r ih => cases b with
  | nil => rfl
  | cons y s => simp only [List.zip_cons_cons, List.map_cons, ih]; rfl
theorem ustep_swp (l : List B) (x y : Tm) : ustep l y x = (ustep l x y).swp := by
 by_cases hx : x.kind = 0
 ·by_cases hy : y.kind = 0
  ·by_cases h1 : x.n < y.n
   ·have h2 : ¬ y.n < x.n := by omega
    simp [ustep, hx, hy, h1, h2, UStep.swp]
   ·by_cases h2 : y.n < x.n
    ·simp [ustep, hx, hy, h1, h2, UStep.swp]
    ·simp [ustep, hx, hy, h1, h2, UStep.swp]
  ·by_cases h : inR l x.n y
   ·simp [ustep, hx, hy, h, UStep.swp]
   ·simp [ustep, hx, hy, h, UStep.swp]
 ·by_cases hy : y.kind = 0
  ·by_cases h : inR l y.n x
   ·simp [ustep, hx, hy, h, UStep.swp]
   ·simp [ustep, hx, hy, h, UStep.swp]
  ·by_cases h : x.kind = y.kind ∧ x.n = y.n ∧ x.name = y.name ∧ x.args.length = y.args.length
   ·obtain ⟨h1, h2, h3, h4⟩ := h
    have e : ustep l x y = .args (x.args.zip y.args) := by unfold ustep; rw [if_neg (fun h => hx h.1), if_neg hx, if_neg hy, if_pos ⟨h1, h2, h3, h4⟩]
    have e2 : ustep l y x = .args (y.args.zip x.args) := by unfold ustep; rw [if_neg (fun h => hx h.2), if_neg hy, if_neg hx, if_pos ⟨h1.symm, h2.symm, h3.symm, h4.symm⟩]
    rw [e, e2]
    show _ = UStep.args ((x.args.zip y.args).map Go.Proofs.Ytenkiofpobeilaa.swp)
    rw [zip_swp]
   ·have e : ustep l x y = .err 4 := by unfold ustep; rw [if_neg (fun h => hx h.1), if_neg hx, if_neg hy, if_neg h]
    have e2 : ustep l y x = .err 4 := by unfold ustep; rw [if_neg (fun h => hx h.2), if_neg hy, if_neg hx, if_neg (fun e => h ⟨e.1.symm, e.2.1.symm, e.2.2.1.symm, e.2.2.2.symm⟩)]
    rw [e, e2]
    rfl
theorem uni_swp : ∀ (n : Nat) (l : List B) (r : List (Tm × Tm)), uni n l (r.map swp) = uni n l r
 | n, l, [] => rfl
 | 0, l, p :: r => rfl
 | n + 1, l, p :: r => by
  have hs := ustep_swp l (flw l p.1) (flw l p.2)
  show uni (n + 1) l (swp p :: r.map swp) = _
  cases e : ustep l (flw l p.1) (flw l p.2) with
  | err e' => rw [e] at hs; rw [uni_err r e, uni_err (p := swp p) (r.map swp) hs]
  | bind v t => rw [e] at hs; rw [uni_bind r e, uni_bind (p := swp p) (r.map swp) hs]; exact uni_swp n _ r
  | args xs =>
   rw [e] at hs
   rw [uni_args r e, uni_args (p := swp p) (r.map swp) hs, ← uni_swp n l (xs ++ r), List.map_append]
theorem ustep_err {l : List B} {x y : Tm} {e : Int} (h : ustep l x y = .err e) : e = 4 ∨ e = 9 := by
 unfold ustep at h
 split at h
 ·split at h
  ·cases h
  ·split at h <;> cases h
 ·split at h
  ·split at h
   ·cases h; exact .inr rfl
   ·cases h
  ·split at h
   ·split at h
    ·cases h; exact .inr rfl
    ·cases h
   ·split at h
    ·cases h
    ·cases h; exact .inl rfl
theorem uni_errs : ∀ (n : Nat) (l : List B) (r : List (Tm × Tm)), (uni n l r).2 = 0 ∨ (((uni n l r).2 = 4 ∨ (uni n l r).2 = 9 ∨ (uni n l r).2 = 2) ∧ (uni n l r).1 = [])
 | n, l, [] => by rw [uni_nil]; exact .inl rfl
 | 0, l, p :: r => .inr ⟨.inr (.inr rfl), rfl⟩
 | n + 1, l, p :: r => by
  cases e : ustep l (flw l p.1) (flw l p.2) with
  | err e' =>
   rw [uni_err r e]
   rcases ustep_err e with rfl | rfl
   ·exact .inr ⟨.inl rfl, rfl⟩
   ·exact .inr ⟨.inr (.inl rfl), rfl⟩
  | bind v t => rw [uni_bind r e]; exact uni_errs n _ r
  | args xs => rw [uni_args r e]; exact uni_errs n _ _
def Ext (l R : List B) : Prop := ∀ v, fndB l v = true → fndB R v = true ∧ toB R v = toB l v
theorem Ext.refl (l : List B) : Ext l l := fun _ h => ⟨h, rfl⟩
theorem Ext.ins {l : List B} (hG : Good l) {v : Int} {t : Tm} (hf : fndB l v = false) {R : List B} (h : Ext (insB l v t) R) : Ext l R := fun w hw => by
 have h1 := h w ((fnd_ins hG hf w).2 (.inr hw))
 rw [to_ins_ne hG hf hw] at h1
 exact h1
theorem Ext.rs_flw {l R : List B} (hO : OKB l) (hR : OKB R) (h : Ext l R) : ∀ (k : Nat) (t : Tm), mu l t = k → t.valid = true → rs R (flw l t) = rs R t := by
 intro k
 induction k using Nat.strongRecOn with
 | _ k ih =>
  intro t hk hv
  by_cases hk0 : t.kind = 0
  ·by_cases hf : fndB l t.n = true
   ·obtain ⟨h1, h2⟩ := h t.n hf
    have := mu_to hO.Acyc hk0 hf
    rw [flw_to hO.Acyc hk0 hf, ih _ (by omega) _ rfl (hO.to hf).1, rs_var hR.Acyc hk0, if_pos h1, h2]
   ·rw [flw_free hO.Acyc (valid_fits hv) hk0 hf]
  ·rw [flw_str l hk0]
theorem bind_same {l : List B} {x y : Tm} (hx : Flwd l x) (hy : Flwd l y) {v : Int} {t : Tm} (h : ustep l x y = .bind v t) : (x = tvar v ∧ y = t) ∨ (y = tvar v ∧ x = t) := by
 unfold ustep at h
 split at h
 ·rename_i hk
  split at h
  ·cases h; exact .inl ⟨(hx.2 hk.1).2.1, rfl⟩
  ·split at h
   ·cases h; exact .inr ⟨(hy.2 hk.2).2.1, rfl⟩
   ·cases h
 ·split at h
  ·rename_i hk
   split at h
   ·cases h
   ·cases h; exact .inl ⟨(hx.2 hk).2.1, rfl⟩
  ·split at h
   ·rename_i hk
    split at h
    ·cases h
    ·cases h; exact .inr ⟨(hy.2 hk).2.1, rfl⟩
   ·split at h <;> cases h
theorem args_same {l : List B} {x y : Tm} (hx : Flwd l x) (hy : Flwd l y) {xs : List (Tm × Tm)} (h : ustep l x y = .args xs) : (x = y ∧ xs = []) ∨ (¬ x.kind = 0 ∧ x.kind = y.kind ∧ x.n = y.n ∧ x.name = y.name ∧ x.args.length = y.args.length ∧ xs = x.args.zip y.args) := by
 unfold ustep at h
 split at h
 ·rename_i hk
  split at h
  ·cases h
  ·split at h
   ·cases h
   ·rename_i h1 h2
    cases h
    have e : x.n = y.n := by omega
    exact .inl ⟨by rw [(hx.2 hk.1).2.1, (hy.2 hk.2).2.1, e], rfl⟩
 ·split at h
  ·split at h <;> cases h
  ·rename_i hk
   split at h
   ·split at h <;> cases h
   ·split at h
    ·rename_i h1
     cases h
     exact .inr ⟨hk, h1.1, h1.2.1, h1.2.2.1, h1.2.2.2, rfl⟩
    ·cases h
theorem map_zip_eq {f : Tm → Tm} : ∀ {a b : List Tm}, a.length = b.length → (∀ p ∈ a.zip b, f p.1 = f p.2) → a.map f = b.map f
 | [], [], _, _ => rfl
 | x :: a, y :: b, hl, h => by
  rw [List.map_cons, List.map_cons, h (x, y) (by simp), map_zip_eq (by simpa using hl) fun p hp => h p (by simp [hp])]
 | [], _ :: _, hl, _ => by cases hl
 | _ :: _, [], hl, _ => by cases hl
theorem uni_unifier : ∀ (n : Nat) (l : List B) (r : List (Tm × Tm)), OKB l → (∀ p ∈ r, p.1.valid = true ∧ p.2.valid = true) → (uni n l r).2 = 0 → Ext l (uni n l r).1 ∧ ∀ p ∈ r, rs (uni n l r).1 p.1 = rs (uni n l r).1 p.2
 | n, l, [], _, _, _ => by rw [uni_nil]; exact ⟨Ext.refl l, fun p hp => by cases hp⟩
 | 0, l, p :: r, _, _, h => by rw [uni_zero] at h; cases h
 | n + 1, l, p :: r, hO, hr, h => by
  have hp := hr p List.mem_cons_self
  have hx := flw_flwd hO hp.1
  have hy := flw_flwd hO hp.2
  have hr2 := fun q hq => hr q (List.mem_cons_of_mem _ hq)
  have hRO := (uni_ok (n + 1) l (p :: r) hO hr).1
  cases e : ustep l (flw l p.1) (flw l p.2) with
  | err e' =>
   rw [uni_err r e] at h
   rcases ustep_err e with rfl | rfl <;> cases h
  | bind v t =>
   rw [uni_bind r e] at h hRO ⊢
   obtain ⟨b1, b2, b3, b4⟩ := ustep_bind hO hx hy e
   obtain ⟨h1, h2⟩ := uni_unifier n _ r (okb_ins hO b1 b2 b3 b4) hr2 h
   have hE := Ext.ins hO.good b1 h1
   refine ⟨hE, fun q hq => ?_⟩
   rcases List.mem_cons.1 hq with rfl | hq
   ·rw [← hE.rs_flw hO hRO _ q.1 rfl hp.1, ← hE.rs_flw hO hRO _ q.2 rfl hp.2]
    obtain ⟨k1, k2⟩ := h1 v ((fnd_ins hO.good b1 v).2 (.inl rfl))
    rw [to_ins hO.good b1] at k2
    have hv : rs (uni n (insB l v t) r).1 (tvar v) = rs (uni n (insB l v t) r).1 t := by
     rw [rs_var hRO.Acyc (t := tvar v) rfl, if_pos (show fndB _ (tvar v).n = true from k1)]
     show rs _ (toB _ v) = _
     rw [k2]
    rcases bind_same hx hy e with ⟨e1, e2⟩ | ⟨e1, e2⟩
    ·rw [e1, e2]; exact hv
    ·rw [e1, e2]; exact hv.symm
   ·exact h2 q hq
  | args xs =>
   rw [uni_args r e] at h hRO ⊢
   have ha := ustep_args hx hy e
   obtain ⟨hE, h2⟩ := uni_unifier n l (xs ++ r) hO (fun q hq => (List.mem_append.1 hq).elim (ha.1 q) (hr2 q)) h
   refine ⟨hE, fun q hq => ?_⟩
   rcases List.mem_cons.1 hq with rfl | hq
   ·rw [← hE.rs_flw hO hRO _ q.1 rfl hp.1, ← hE.rs_flw hO hRO _ q.2 rfl hp.2]
    rcases args_same hx hy e with ⟨e1, _⟩ | ⟨k1, k2, k3, k4, k5, rfl⟩
    ·rw [e1]
    ·rw [rs_str _ k1, rs_str (t := flw l q.2) _ (by rw [← k2]; exact k1), k2, k3, k4, map_zip_eq k5 fun z hz => h2 z (List.mem_append_left _ hz)]
   ·exact h2 q (List.mem_append_right _ hq)
end Go.Proofs.Ytenkiofpobeilaa
