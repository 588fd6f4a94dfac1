/- What is proved: the program's resolve, Resolve and Look. -/
import Derived.Test.YtenkiofpobeilaaMs
set_option linter.unusedSimpArgs false
set_option linter.unusedVariables false
namespace Go.Proofs.Ytenkiofpobeilaa
open Go.Am
def appP (t : Tm) (es : List PV) : Heap := [.box (some 4) (.pv (some 4) t.pv), .box (some 4) (zagg 2), .arr (some 4) [] false, .box (some 4) (.pv (some 4) t.pv), .box (some 4) (zagg 6), .arr (some 4) [] false, .arr (some 4) [] false, .box (some 4) (zagg 6), .arr (some 4) [] false, .box (some 4) (.agg [(none, .pv none (.int .i64 t.kind)), (none, .pv none (.int .i64 t.n)), (none, .pv none (.str t.name)), (none, .sl (some 4) 11 es.length 0 es.length)]), .arr (some 4) [] false, .arr (some 4) es false]
noncomputable def lkR (l : List B) (t : Tm) : Tm := if okb l = true ∧ t.valid = true then flw l t else zt
end Go.Proofs.Ytenkiofpobeilaa
