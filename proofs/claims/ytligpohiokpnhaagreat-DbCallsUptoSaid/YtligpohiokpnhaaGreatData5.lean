/- What is proved: what DbNumbers is given is a list of calls. -/
import Derived.Test.YtligpohiokpnhaaGreatData3
import Derived.Test.YtligpohiokpnhaaGreatRd3
set_option linter.unusedSimpArgs false
set_option linter.unusedVariables false
namespace Go.Proofs.YtligpohiokpnhaaGreat
open Go.Am Go.ChangeShapes Go.WideShapes Go.ChangeAt Go.RowKit
theorem mW{n:Nat}{p:PV}(h:wt Tryz.prog n 31 p):∃x:Acx,p=x.pv:=by
 obtain⟨m,l,rfl,h'⟩:=qO (ts:=[3,9,3,2,29,4,4]) (by kernel_rfl) h;obtain⟨a,l,rfl,ha,h⟩:=yF h';obtain⟨b,l,rfl,hb,h⟩:=yF h;obtain⟨c,l,rfl,hc,h⟩:=yF h;obtain⟨d,l,rfl,hd,h⟩:=yF h;obtain⟨e,l,rfl,he,h⟩:=yF h;obtain⟨f,l,rfl,hf,h⟩:=yF h;obtain⟨g,l,rfl,hg,h⟩:=yF h;obtain rfl:=qP h;obtain⟨a,rfl,_⟩:=Q0 (by kernel_rfl) ha;obtain⟨b,rfl⟩:=uv (by kernel_rfl) hb;obtain⟨c,rfl,_⟩:=Q0 (by kernel_rfl) hc;obtain⟨d,rfl,_⟩:=Q0 (by kernel_rfl) hd;obtain⟨e,rfl⟩:=G7 he;obtain⟨f,rfl⟩:=ki (by kernel_rfl) hf;obtain⟨g,rfl⟩:=ki (by kernel_rfl) hg;refine⟨⟨a,b,c,d,e,f,g⟩,?_⟩;rw[show shOf Tryz.prog 9=none from by kernel_rfl,show shOf Tryz.prog 3=none from by kernel_rfl,show shOf Tryz.prog 4=none from by kernel_rfl,show shOf Tryz.prog 2=none from by kernel_rfl,show shOf Tryz.prog 29=some 8 from by kernel_rfl];rfl
theorem gc(x:Acx):x.cl.pv.sz<=x.pv.sz:=by
 simp[Acx.pv,PV.sz,PV.szc];omega
end Go.Proofs.YtligpohiokpnhaaGreat
