/- What matching means, without the program. -/
import Derived.Test.YtenkiofpobeilaaVr
set_option linter.unusedSimpArgs false
set_option linter.unusedVariables false
namespace Go.Proofs.Ytenkiofpobeilaa
open Go.Am
def Fits (f : Int → Tm) (l : List B) : Prop := ∀ b ∈ l, f b.1 = b.2
theorem find_mem {l : List B} {v : Int} (h : fndB l v = true) : (v, toB l v) ∈ l := List.mem_of_getElem? (fnd_get h)
structure MT (p t : Tm) (l l' : List B) : Prop where
  sub : ∀ b ∈ l, b ∈ l'
  keys : ∀ v, v ∈ l'.map (·.1) ↔ v ∈ l.map (·.1) ∨ v ∈ p.occ
  inst : ∀ f, Fits f l' → Tm.sub f p = t
def mvd (d : Int) (m : List B) : List B := m.map fun b => (b.1 + d, b.2)
end Go.Proofs.Ytenkiofpobeilaa
