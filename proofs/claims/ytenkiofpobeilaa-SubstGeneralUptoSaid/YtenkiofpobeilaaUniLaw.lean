/- What unification gives: symmetric, an extension that makes the terms the same, most general. -/
import Derived.Test.YtenkiofpobeilaaUni
set_option linter.unusedSimpArgs false
set_option linter.unusedVariables false
namespace Go.Proofs.Ytenkiofpobeilaa
open Go.Am
def swp (p : Tm × Tm) : Tm × Tm := (p.2, p.1)
def UStep.swp : UStep → UStep
 | .args xs => .args (xs.map Go.Proofs.Ytenkiofpobeilaa.swp)
 | u => u
def Ext (l R : List B) : Prop := ∀ v, fndB l v = true → fndB R v = true ∧ toB R v = toB l v
theorem Ext.refl (l : List B) : Ext l l := fun _ h => ⟨h, rfl⟩
theorem Ext.ins {l : List B} (hG : Good l) {v : Int} {t : Tm} (hf : fndB l v = false) {R : List B} (h : Ext (insB l v t) R) : Ext l R := fun w hw => by
 have h1 := h w ((fnd_ins hG hf w).2 (.inr hw))
 rw [to_ins_ne hG hf hw] at h1
 exact h1
theorem Ext.rs_flw {l R : List B} (hO : OKB l) (hR : OKB R) (h : Ext l R) : ∀ (k : Nat) (t : Tm), mu l t = k → t.valid = true → rs R (flw l t) = rs R t := by
 intro k
 induction k using Nat.strongRecOn with
 | _ k ih =>
  intro t hk hv
  by_cases hk0 : t.kind = 0
  ·by_cases hf : fndB l t.n = true
   ·obtain ⟨h1, h2⟩ := h t.n hf
    have := mu_to hO.Acyc hk0 hf
    rw [flw_to hO.Acyc hk0 hf, ih _ (by omega) _ rfl (hO.to hf).1, rs_var hR.Acyc hk0, if_pos h1, h2]
   ·rw [flw_free hO.Acyc (valid_fits hv) hk0 hf]
  ·rw [flw_str l hk0]
theorem bind_same {l : List B} {x y : Tm} (hx : Flwd l x) (hy : Flwd l y) {v : Int} {t : Tm} (h : ustep l x y = .bind v t) : (x = tvar v ∧ y = t) ∨ (y = tvar v ∧ x = t) := by
 unfold ustep at h
 split at h
 ·rename_i hk
  split at h
  ·cases h; exact .inl ⟨(hx.2 hk.1).2.1, rfl⟩
  ·split at h
   ·cases h; exact .inr ⟨(hy.2 hk.2).2.1, rfl⟩
   ·cases h
 ·split at h
  ·rename_i hk
   split at h
   ·cases h
   ·cases h; exact .inl ⟨(hx.2 hk).2.1, rfl⟩
  ·split at h
   ·rename_i hk
    split at h
    ·cases h
    ·cases h; exact .inr ⟨(hy.2 hk).2.1, rfl⟩
   ·split at h <;> cases h
theorem args_same {l : List B} {x y : Tm} (hx : Flwd l x) (hy : Flwd l y) {xs : List (Tm × Tm)} (h : ustep l x y = .args xs) : (x = y ∧ xs = []) ∨ (¬ x.kind = 0 ∧ x.kind = y.kind ∧ x.n = y.n ∧ x.name = y.name ∧ x.args.length = y.args.length ∧ xs = x.args.zip y.args) := by
 unfold ustep at h
 split at h
 ·rename_i hk
  split at h
  ·cases h
  ·split at h
   ·cases h
   ·rename_i h1 h2
    cases h
    have e : x.n = y.n := by omega
    exact .inl ⟨by rw [(hx.2 hk.1).2.1, (hy.2 hk.2).2.1, e], rfl⟩
 ·split at h
  ·split at h <;> cases h
  ·rename_i hk
   split at h
   ·split at h <;> cases h
   ·split at h
    ·rename_i h1
     cases h
     exact .inr ⟨hk, h1.1, h1.2.1, h1.2.2.1, h1.2.2.2, rfl⟩
    ·cases h
end Go.Proofs.Ytenkiofpobeilaa
