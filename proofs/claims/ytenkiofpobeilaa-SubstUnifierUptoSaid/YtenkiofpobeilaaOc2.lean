/- What is proved: Occurs, by the program; the reference's search. -/
import Derived.Test.YtenkiofpobeilaaOc
set_option linter.unusedSimpArgs false
set_option linter.unusedVariables false
namespace Go.Proofs.Ytenkiofpobeilaa
open Go.Am
open Classical in
noncomputable def occB (l : List B) (v : Int) (t : Tm) : Bool := decide (okb l = true ∧ t.valid = true ∧ inR l v t)
theorem unS_bound (f : Int → Int) : ∀ l : List B, (∀ b ∈ l, b.2.size ≤ 1000000) → unS f l ≤ 1000000 * l.length
 | [], _ => Nat.zero_le _
 | b :: r, h => by
  have ih := unS_bound f r fun c hc => h c (List.mem_cons_of_mem _ hc)
  have h1 := h b List.mem_cons_self
  simp only [unS, List.length_cons]
  split <;> omega
end Go.Proofs.Ytenkiofpobeilaa
