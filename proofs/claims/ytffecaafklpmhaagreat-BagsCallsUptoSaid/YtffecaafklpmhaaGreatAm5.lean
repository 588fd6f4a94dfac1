/- What is proved: the abstract machine says true of the model (part 5). No conditions beside those that each theorem names. -/
import Derived.Test.YtffecaafklpmhaaGreatAm4
set_option linter.unusedSimpArgs false
set_option linter.unusedVariables false
/- Structs and lists out of data. -/
namespace Go.Am
variable{P:Program}
def Og(P:Program)(t:TypeId):Option (List TypeId):=
 match P.underlying t with
 |some (.struct fs)=>some (fs.toList.map (·.type))
 |_=>none
def uU(P:Program)(t:TypeId):Bool:=match P.underlying t with|some (.int .i64)=>true|_=>false
def uV(P:Program)(t:TypeId):Bool:=match P.underlying t with|some .string=>true|_=>false
theorem Mg{n:Nat}{t:TypeId}{p:PV}(h:uU P t=true)(hw:wt P n t p):∃x,p=.int .i64 x/\QC x:=by
 cases n with
 |zero=>exact hw.elim
 |succ n=>
  unfold wt at hw;unfold uU at h;split at h
  ·rename_i hu;rw[hu] at hw;obtain⟨x,rfl,hx⟩:=hw;exact⟨x,rfl,uO hx⟩
  ·cases h
theorem Mh{n:Nat}{t:TypeId}{p:PV}(h:uV P t=true)(hw:wt P n t p):∃x,p=.str x:=by
 cases n with
 |zero=>exact hw.elim
 |succ n=>
  unfold wt at hw;unfold uV at h;split at h
  ·rename_i hu;rw[hu] at hw;exact hw
  ·cases h
end Go.Am
