/- What matching means, without the program. -/
import Derived.Test.YtenkiofpobeilaaVr
set_option linter.unusedSimpArgs false
set_option linter.unusedVariables false
namespace Go.Proofs.Ytenkiofpobeilaa
open Go.Am
def Fits (f : Int → Tm) (l : List B) : Prop := ∀ b ∈ l, f b.1 = b.2
theorem find_mem {l : List B} {v : Int} (h : fndB l v = true) : (v, toB l v) ∈ l := List.mem_of_getElem? (fnd_get h)
structure MT (p t : Tm) (l l' : List B) : Prop where
  sub : ∀ b ∈ l, b ∈ l'
  keys : ∀ v, v ∈ l'.map (·.1) ↔ v ∈ l.map (·.1) ∨ v ∈ p.occ
  inst : ∀ f, Fits f l' → Tm.sub f p = t
theorem sub_tvar : ∀ t : Tm, t.fits = true → Tm.sub tvar t = t := by
  intro t
  induction t using Tm.induct with
  | h t ih =>
    intro hf
    rw [Tm.sub_eq]
    by_cases hk : t.kind = 0
    · rw [if_pos hk, ← node_var hf hk]
    · rw [if_neg hk]
      have : t.args.map (Tm.sub tvar) = t.args := by
        have h := List.map_congr_left (l := t.args) (f := Tm.sub tvar) (g := id) fun u hu => ih u hu (Tm.fits_arg hf hu)
        rw [h, List.map_id]
      rw [this]
      cases t; rfl
def mvd (d : Int) (m : List B) : List B := m.map fun b => (b.1 + d, b.2)
theorem rs_free_all {l : List B} (h : Acyc l) {t : Tm} (hf : t.fits = true) (hw : ∀ w ∈ t.occ, ¬ fndB l w = true) : rs l t = t := by
  have e : Tm.sub (rsv l) t = Tm.sub tvar t := Tm.sub_congr t fun w hw' => by rw [rsv_eq h, if_neg (hw w hw')]
  unfold rs
  rw [e]
  exact sub_tvar t hf
end Go.Proofs.Ytenkiofpobeilaa
