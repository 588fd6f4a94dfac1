/- What is proved: the reference's pair, Unified and Unify. -/
import Derived.Test.YtenkiofpobeilaaUni
set_option linter.unusedSimpArgs false
set_option linter.unusedVariables false
namespace Go.Proofs.Ytenkiofpobeilaa
open Go.Am
def KS (hp : Heap) (q : Nat) (l : List B) (k : Int) : Heap := hp.set q (.box (some 2) (.pv (some 2) (.agg [(none, .sl (some 5) (bds l)), (none, .int .i64 k)])))
structure PairR (n : Nat) (l : List B) (p : Tm × Tm) (e : Int) (l' : List B) (n' : Nat) : Prop where
 okb : OKB l'
 le : n' ≤ n
 len : l'.length + n' ≤ l.length + n
 bad : e ≠ 0 → ∀ r, uni n l (p :: r) = ([], e)
 good : e = 0 → ∀ r, uni n l (p :: r) = uni n' l' r
noncomputable def unR (l : List B) (a b : Tm) : List B × Int := if okb l = true ∧ a.valid = true ∧ b.valid = true then uni 1048576 l [(a, b)] else ([], 1)
end Go.Proofs.Ytenkiofpobeilaa
