/- What is proved: whether two terms are the same, by the program and by the reference. -/
import Derived.Test.YtffecaafklpmhaaTerm
import Derived.Test.YtffecaafklpmhaaAm4
set_option linter.unusedSimpArgs false
set_option linter.unusedVariables false
namespace Go.Proofs.Ytffecaafklpmhaa
open Go.Am
def same (a b : Tm) : Bool := a.valid && (b.valid && decide (a.cmp b = 0))
end Go.Proofs.Ytffecaafklpmhaa
