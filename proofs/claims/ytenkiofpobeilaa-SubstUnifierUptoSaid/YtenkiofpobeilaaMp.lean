/- What matching means, without the program. -/
import Derived.Test.YtenkiofpobeilaaVr
set_option linter.unusedSimpArgs false
set_option linter.unusedVariables false
namespace Go.Proofs.Ytenkiofpobeilaa
open Go.Am
def Fits (f : Int → Tm) (l : List B) : Prop := ∀ b ∈ l, f b.1 = b.2
theorem find_mem {l : List B} {v : Int} (h : fndB l v = true) : (v, toB l v) ∈ l := List.mem_of_getElem? (fnd_get h)
theorem mem_ins_of {l : List B} {v : Int} {t : Tm} {x : B} (h : x = (v, t) ∨ x ∈ l) : x ∈ insB l v t := by
 unfold insB
 simp only [List.mem_append, List.mem_singleton]
 rcases h with h | h
 ·exact .inl (.inr h)
 ·rw [← List.take_append_drop (lbB l v) l] at h
  rcases List.mem_append.1 h with h | h
  ·exact .inl (.inl h)
  ·exact .inr h
structure MT (p t : Tm) (l l' : List B) : Prop where
 sub : ∀ b ∈ l, b ∈ l'
 keys : ∀ v, v ∈ l'.map (·.1) ↔ v ∈ l.map (·.1) ∨ v ∈ p.occ
 inst : ∀ f, Fits f l' → Tm.sub f p = t
theorem to_of {l : List B} (hs : Srt' l) {b : B} (hb : b ∈ l) : fndB l b.1 = true ∧ toB l b.1 = b.2 := by
 obtain ⟨i, hlt, rfl⟩ := List.getElem_of_mem hb
 have hg := List.getElem?_eq_getElem hlt
 obtain ⟨h1, h2⟩ := fnd_of hs hg
 refine ⟨h1, ?_⟩
 unfold toB
 rw [h2, hg]
theorem fnd_iff {l : List B} (hs : Srt' l) (v : Int) : fndB l v = true ↔ v ∈ l.map (·.1) := by
 constructor
 ·intro h; exact List.mem_map.2 ⟨_, find_mem h, rfl⟩
 ·intro h
  obtain ⟨b, hb, rfl⟩ := List.mem_map.1 h
  exact (to_of hs hb).1
theorem tvar_fits {n : Int} (h : 0 ≤ n ∧ n ≤ 1099511627776) : (tvar n).fits = true := by
 simp [tvar, Tm.fits, Tm.fitsAll, Tm.node, Tm.kind, Tm.n, Tm.name, Tm.args, h.1, h.2]
def mvd (d : Int) (m : List B) : List B := m.map fun b => (b.1 + d, b.2)
end Go.Proofs.Ytenkiofpobeilaa
