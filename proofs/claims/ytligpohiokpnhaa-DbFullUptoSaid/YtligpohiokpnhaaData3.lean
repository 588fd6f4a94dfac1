/- What is proved: what the laws of this seat are given are values of their types. -/
import Derived.Test.YtligpohiokpnhaaData
import Derived.Test.YtligpohiokpnhaaAm5
import Derived.Test.YtligpohiokpnhaaAdt
set_option linter.unusedSimpArgs false
set_option linter.unusedVariables false
namespace Go.Proofs.Ytligpohiokpnhaa
open Go.Am Go.ChangeShapes Go.WideShapes Go.ChangeAt Go.RowKit
theorem znn(H:Type):BulkLaws2 (H:=H) Rows.uptoBulk Rows.uptoBulkAll:=
 ⟨zpB H,fun d=>by
  cases d with
  |lit l=>cases l <;> simp[Rows.uptoBulk]
  |_=>simp[Rows.uptoBulk]⟩
set_option maxRecDepth 100000 in
theorem zlV{H:Type}{enc:TypeId × Value->H}{W:World}{base:Nat}{v:Value}{d:DataW H}{ps:List MemPlace}{t:TypeId}(ht:t∈zpC)(hok:okT Try.prog t=true)(h:DataW.Trod enc Try.prog W 0 (fun _=>true) true t v d ps)(hv:Value.okWide Try.prog W .any base t v):
  ∃n p,AR W (noX (P:=Try.prog)) noμ [] (.pv (shOf Try.prog t) p) v/\wt Try.prog n t p/\p.sz<=Rows.uptoBulk d:=by
 obtain⟨fuel,h0⟩:=h
 obtain⟨p,hp⟩:=zpp closed fuel _ _ _ _ ht h0
 obtain⟨h1,h2⟩:=zpq (znn H) fuel _ _ _ hp
 exact⟨fuel,p,ztq ⟨fuel,h0⟩ hok hp (znj hv),h1,h2⟩
theorem zpD{n:Nat}{p:PV}(h:wt Try.prog n 26 p):∃x:Cz,p=x.pv:=by
 obtain⟨m,l,rfl,h'⟩:=zps (ts:=[24,24]) (by kernel_rfl) h
 obtain⟨a,l,rfl,ha,h⟩:=zgq h'
 obtain⟨b,l,rfl,hb,h⟩:=zgq h
 obtain rfl:=znk h
 obtain⟨x,rfl,_⟩:=(zk3 zrX m).1 a ha
 obtain⟨y,rfl,_⟩:=(zk3 zrX m).1 b hb
 refine⟨⟨x,y⟩,?_⟩
 rw[show shOf Try.prog 24=some 4 from by kernel_rfl]
 rfl
theorem ztt(c:Cz):c.head.size<=c.pv.sz/\c.body.size<=c.pv.sz:=by
 have h1:=Tm.zum c.head
 have h2:=Tm.zum c.body
 simp[Cz.pv,PV.sz,PV.szc]
 omega
set_option maxRecDepth 100000 in
theorem zk6{H:Type}{enc:TypeId × Value->H}{W:World}{base:Nat}{v:Value}{d:DataW H}{ps:List MemPlace}(h:DataW.Trod enc Try.prog W 0 (fun _=>true) true 26 v d ps)(hv:Value.okWide Try.prog W .any base 26 v):
  ∃f:Cz,AR W (noX (P:=Try.prog)) noμ [] f.av v/\f.pv.sz<=Rows.uptoBulk d:=by
 obtain⟨n,p,h1,h2,h3⟩:=zlV (by decide) (by kernel_rfl) h hv
 obtain⟨f,rfl⟩:=zpD h2
 rw[show shOf Try.prog 26=some 8 from by kernel_rfl] at h1
 exact⟨f,h1,h3⟩
set_option maxRecDepth 100000 in
theorem zrp{H:Type}{enc:TypeId × Value->H}{W:World}{base:Nat}{v:Value}{d:DataW H}{ps:List MemPlace}(h:DataW.Trod enc Try.prog W 0 (fun _=>true) true 2 v d ps)(hv:Value.okWide Try.prog W .any base 2 v):
  ∃x:Int,AR W (noX (P:=Try.prog)) noμ [] (.pv none (.int .i64 x)) v/\zk2 x:=by
 obtain⟨n,p,h1,h2,h3⟩:=zlV (by decide) (by kernel_rfl) h hv
 obtain⟨x,rfl,hx⟩:=zts (by kernel_rfl) h2
 rw[show shOf Try.prog 2=none from by kernel_rfl] at h1
 exact⟨x,h1,hx⟩
end Go.Proofs.Ytligpohiokpnhaa
