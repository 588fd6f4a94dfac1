/- What is proved: a database of the run's own, made a value. -/
import Derived.Test.YtligpohiokpnhaaGreatDb10
set_option linter.unusedSimpArgs false
set_option linter.unusedVariables false
namespace Go.Proofs.YtligpohiokpnhaaGreat
open Go.Am
def Fz(H H':Heap):Prop:=∀k:Nat,(∀(s:Sh) (es:List PV) (z:Bool),H[k]? =some (AObj.arr s es z)->∃z':Bool,H'[k]? =some (AObj.arr s es z'))/\(∀(s:Sh) (es:List AV),H[k]? =some (AObj.arv s es)->H'[k]? =some (AObj.arv s es))
theorem Fz.refl(H:Heap):Fz H H:=fun _=>⟨fun _ _ z h=>⟨z,h⟩,fun _ _ h=>h⟩
theorem Fz.trans{A B C:Heap}(h1:Fz A B)(h2:Fz B C):Fz A C:=fun k=>⟨fun s es z h=>by
  obtain⟨z',h'⟩:=(h1 k).1 s es z h;exact(h2 k).1 s es z' h',fun s es h=>(h2 k).2 s es ((h1 k).2 s es h)⟩
theorem Fz.set{H:Heap}{q:Nat}{s:Sh}{es:List PV}{z:Bool}(h:H[q]? =some (.arr s es z)):Fz H (H.set q (.arr s es true)):=fun k=>by
 by_cases hk:q=k
 ·subst hk;have hlt:=YT h;refine⟨fun s' es' z' h'=> ?_,fun s' es' h'=> ?_⟩
  ·rw[h] at h';cases h';exact⟨true,by simp[hlt]⟩
  ·rw[h] at h';cases h'
 ·rw[Zk hk];exact⟨fun _ _ z h=>⟨z,h⟩,fun _ _ h=>h⟩
def SvP(sv:AV)(l:List Sto)(H:Heap):Prop:=sv=.tsl (some 9) (Sto.pvs l)\/∃(q ver:Nat) (es:List PV) (z:Bool),sv=.sl (some 9) q ver 0 l.length/\H[q]? =some (.arr (some 9) es z)/\es.length=ver/\l.length<=ver/\es.take l.length=Sto.pvs l
def pAg(p:Prc)(sv:AV):AV:=.agg [(none,.pv none (.str p.name)),(none,.pv none (.int .i64 p.ar)),(none,.pv none (.bool p.dyn)),(none,sv)]
def ElP(p:Prc)(v:AV)(H:Heap):Prop:=v=p.av\/∃sv,v=pAg p sv/\SvP sv p.cls H
theorem SvP.fz{sv:AV}{l:List Sto}{H H':Heap}(h:SvP sv l H)(f:Fz H H'):SvP sv l H':=by
 rcases h with h|⟨q,ver,es,z,h1,h2,h3⟩
 ·exact .inl h
 ·obtain⟨z',h'⟩:=(f q).1 _ _ _ h2;exact .inr ⟨q,ver,es,z',h1,h',h3⟩
theorem ElP.fz{p:Prc}{v:AV}{H H':Heap}(h:ElP p v H)(f:Fz H H'):ElP p v H':=by
 rcases h with h|⟨sv,h1,h2⟩
 ·exact .inl h
 ·exact .inr ⟨sv,h1,h2.fz f⟩
theorem SvP.frz{sv:AV}{l:List Sto}{H:Heap}(h:SvP sv l H)(n:Nat):∃H',AV.freeze0 (n+1) sv H=some (.sl (some 9) (Sto.pvs l),H')/\Fz H H':=by
 rcases h with rfl|⟨q,ver,es,z,rfl,h2,h3,h4,h5⟩
 ·exact⟨H,rfl,Fz.refl H⟩
 ·refine⟨H.set q (.arr (some 9) es true),?_,Fz.set h2⟩;simp only[AV.freeze0,h2];by_cases he:l.length=es.length
  ·rw[Zc ⟨h3.symm,trivial,he⟩];rw[<-h5,Zq (by omega)]
  ·rw[Za (fun hh=>he hh.2.2),Zc ⟨h3.symm,by omega⟩,Z2,h5]
theorem ElP.frz{p:Prc}{v:AV}{H:Heap}(h:ElP p v H):∃H',AV.freeze0 6 v H=some (p.pv,H')/\Fz H H':=by
 rcases h with rfl|⟨sv,rfl,h2⟩
 ·exact⟨H,rfl,Fz.refl H⟩
 ·obtain⟨H',h3,h4⟩:=h2.frz 4;refine⟨H',?_,h4⟩;have e:∀n l hp,AV.freeze0 (n+1) (.agg l) hp=match AV.freeze0.go n l hp with|some (ps,hp')=>some (.agg ps,hp')|none=>none:=fun _ _ _=>rfl
  have e0:∀(x:PV) (s:Sh) (X:Heap),AV.freeze0 5 (.pv s x) X=some (x,X):=fun _ _ _=>rfl;show AV.freeze0 (5+1) (.agg _) H=_;simp only[e,AV.freeze0.go,e0,h3];rfl
theorem kS:∀(ps:List Prc) (els:List AV) (H:Heap),els.length=ps.length->(∀(j:Nat) (p:Prc) (v:AV),ps[j]? =some p->els[j]? =some v->ElP p v H)->∃H',AV.freeze0.go 6 (els.map fun e=>(some 4,e)) H=some (ps.map (fun p=>(some 4,p.pv)),H')/\Fz H H'
 |[],[],H,_,_=>⟨H,rfl,Fz.refl H⟩
 |[],_::_,_,h,_=>by simp at h
 |_::_,[],_,h,_=>by simp at h
 |p::r,v::w,H,hl,he=>by
  obtain⟨H1,h1,f1⟩:=(he 0 p v rfl rfl).frz;obtain⟨H2,h2,f2⟩:=kS r w H1 (by simpa using hl) fun j p' v' hp hv=>(he (j+1) p' v' (by simpa using hp) (by simpa using hv)).fz f1;refine⟨H2,?_,f1.trans f2⟩;simp only[Z3,AV.freeze0.go,h1,h2]
def DbA(d:Dbs)(v:AV)(H:Heap):Prop:=∃(q ver:Nat) (els:List AV) (ps:List Prc),v=.agg [(none,.pv none (.int .i64 d.next)),(none,.slv (some 4) q ver 0 d.procs.length)]/\H[q]? =some (.arv (some 4) els)/\els.length=ver/\d.procs.length<=ver/\ps.length=ver/\ps.take d.procs.length=d.procs/\∀(j:Nat) (p:Prc) (v:AV),ps[j]? =some p->els[j]? =some v->ElP p v H
theorem DbA.frz{d:Dbs}{v:AV}{H:Heap}(h:DbA d v H):∃H',AV.freeze deep v H=some (d.pv,H'):=by
 obtain⟨q,ver,els,ps,rfl,h1,h2,h3,h4,h5,h6⟩:=h;obtain⟨H1,g1,g2⟩:=kS ps els H (by omega) h6;have h1':=(g2 q).2 _ _ h1;refine⟨H1.set q (.arr (some 4) (Prc.pvs ps) true),?_⟩;have e:∀n l hp,AV.freeze (n+1) (.agg l) hp=match AV.freeze.go n l hp with|some (ps,hp')=>some (.agg ps,hp')|none=>none:=fun _ _ _=>rfl
 have e0:∀(x:PV) (s:Sh) (X:Heap),AV.freeze 7 (.pv s x) X=some (x,X):=fun _ _ _=>rfl;have em:(ps.map (fun p=>((some 4:Sh),p.pv))).map (·.2)=Prc.pvs ps:=by simp[Prc.pvs]
 have et:(Prc.pvs ps).take d.procs.length=Prc.pvs d.procs:=by
  rw[Prc.pvs,<-List.map_take,h5];rfl
 have hlen:els.length=els.length:=rfl;have hfs:AV.freeze 7 (.slv (some 4) q ver 0 d.procs.length) H=some (.sl (some 4) (Prc.pvs d.procs),H1.set q (.arr (some 4) (Prc.pvs ps) true)):=by
  show AV.freeze (6+1) _ H=_;simp only[AV.freeze,h1,g1,h1',em,Z2,et];rw[Zc ⟨h2.symm,by omega⟩];simp
 show AV.freeze (7+1) (.agg _) H=_;simp only[e,AV.freeze.go,e0,hfs];rfl
theorem xm:∀(l:List Prc) (b j:Nat) (p:Prc),l[j]? =some p->(cEs l b)[6*j+5]? =some (.arr (some 9) (Sto.pvs p.cls) false)
 |[],_,_,_,h=>by simp at h
 |x::r,b,0,p,h=>by
  simp at h;subst h;rfl
 |x::r,b,j+1,p,h=>by
  have ih:=xm r (b+6) j p (by simpa using h);rw[cEs,Zp (by show 6<=_;omega)];show(cEs r (b+6))[6*(j+1)+5 - 6]? =_;rw[show 6*(j+1)+5 - 6=6*j+5 by omega];exact ih
theorem XB{l:List Prc}{b j:Nat}{p:Prc}(h:l[j]? =some p):(elsA l b l.length)[j]? =some (pA p (b+6*j)):=by
 have hj:=(Zb.1 h).1;have he:l[j]=p:=(Zb.1 h).2;simp[elsA,List.getElem?_mapIdx,hj,he]
def YB:Dbs:=⟨0,[]⟩
def dynP(p:Prc)(b:Bool):Prc:=⟨p.name,p.ar,p.dyn || b,p.cls⟩
theorem lV(d:Dbs)(hb:BndD d)(s:List UInt8)(a:Int)(b:Bool)(h:okD d=false\/namB (keyP s a)=false)(hp:Heap):S 20 [d.av,.pv none (.str s),.pv none (.int .i64 a),.pv none (.bool b)] hp=some (.ret (.tuple [YB.av,.pv none (.int .i64 1)]),hp):=by
 refine Ya rfl rfl rfl (z9 [(some 2,d.pv),(none,.str s),(none,.int .i64 a),(none,.bool b)]) rfl ?_;have h1:=fun hp=>yx d hb.1 hb.2.1 hb.2.2 hp;have h2:∀hp,S 39 [.pv none (.str s),.pv none (.int .i64 a)] hp=some (.ret (.pv none (.bool (namB (keyP s a)))),hp):=fun hp=>qV s a hp;have hz0:Yi A1 [] []=some (.agg A1):=rfl;have hnil:∀H:Heap,Yb A3 H=(A3,H):=fun _=>rfl;simp only[Dbs.av] at h1;cases hv:okD d with
 |false=>
  rw[hv] at h1;simp -dsimp -implicitDefEqProofs only[go_sem,seval,↓reduceIte,Dbs.av,h1,hz0,hnil,z7 (Zd _)];exact⟨_,rfl⟩
 |true=>
  have hn:namB (keyP s a)=false:=by
   rcases h with h|h
   ·rw[hv] at h;cases h
   ·exact h
  rw[hv] at h1;rw[hn] at h2;simp -dsimp -implicitDefEqProofs only[go_sem,seval,↓reduceIte,Dbs.av,h1,h2,hz0,hnil,z7 (Zd _)];exact⟨_,rfl⟩
theorem lW(d:Dbs)(hb:BndD d)(s:List UInt8)(a:Int)(b:Bool)(hv:okD d=true)(hn:namB (keyP s a)=true)(hf:fnD d.procs (keyP s a)=false)(hl:d.procs.length=500)(hp:Heap):S 20 [d.av,.pv none (.str s),.pv none (.int .i64 a),.pv none (.bool b)] hp=some (.ret (.tuple [YB.av,.pv none (.int .i64 13)]),hp):=by
 refine Ya rfl rfl rfl (z9 [(some 2,d.pv),(none,.str s),(none,.int .i64 a),(none,.bool b)]) rfl ?_;have h1:=fun hp=>yx d hb.1 hb.2.1 hb.2.2 hp;have h2:∀hp,S 39 [.pv none (.str s),.pv none (.int .i64 a)] hp=some (.ret (.pv none (.bool (namB (keyP s a)))),hp):=fun hp=>qV s a hp;have h3:∀hp,S 50 [d.av,.pv none (.str s),.pv none (.int .i64 a)] hp=some (.ret (.tuple [.pv none (.int .i64 (lbD d.procs (keyP s a):Int)),.pv none (.bool (fnD d.procs (keyP s a)))]),hp):=fun hp=>XL d s a hb.1 (XM hv) hp;have hz0:Yi A1 [] []=some (.agg A1):=rfl;have hnil:∀H:Heap,Yb A3 H=(A3,H):=fun _=>rfl;have hl':((d.procs.length:Int)=500)=True:=Zo (by omega);simp only[Dbs.av] at h1 h3;rw[hv] at h1;rw[hn] at h2;rw[hf] at h3;simp -dsimp -implicitDefEqProofs only[go_sem,seval,↓reduceIte,Dbs.av,Ye,Prc.pvs_len,h1,h2,h3,hz0,hl',hnil,z7 (Zd _)];exact⟨_,rfl⟩
set_option maxRecDepth 20000 in
theorem lX(d:Dbs)(hb:BndD d)(s:List UInt8)(a:Int)(b:Bool)(hv:okD d=true)(hn:namB (keyP s a)=true)(hf:fnD d.procs (keyP s a)=true)(p:Prc)(i:Nat)(hi:i=lbD d.procs (keyP s a))(hpp:d.procs[i]? =some p)(hp:Heap):S 20 [d.av,.pv none (.str s),.pv none (.int .i64 a),.pv none (.bool b)] hp=some (.ret (.tuple [(⟨d.next,d.procs.set i (dynP p b)⟩:Dbs).av,.pv none (.int .i64 0)]),hp):=by
 refine Ya rfl rfl rfl (z9 [(some 2,d.pv),(none,.str s),(none,.int .i64 a),(none,.bool b)]) rfl ?_;have h1:=fun hp=>yx d hb.1 hb.2.1 hb.2.2 hp;have h2:∀hp,S 39 [.pv none (.str s),.pv none (.int .i64 a)] hp=some (.ret (.pv none (.bool (namB (keyP s a)))),hp):=fun hp=>qV s a hp;have h3:∀hp,S 50 [d.av,.pv none (.str s),.pv none (.int .i64 a)] hp=some (.ret (.tuple [.pv none (.int .i64 (lbD d.procs (keyP s a):Int)),.pv none (.bool (fnD d.procs (keyP s a)))]),hp):=fun hp=>XL d s a hb.1 (XM hv) hp;have hl5:d.procs.length<=500/\totD d.procs<=500:=by
  simp only[okD,Zg,Zw] at hv;exact⟨hv.2.2.1,hv.2.2.2.1⟩
 have h4:∀x0 x1:AObj,S 51 [d.av] [x0,x1]=some (.ret (dA d 4),x0::x1::.box (some 2) (dA d 4)::.box (some 2) (dA d 4)::.arv (some 4) (elsA d.procs 10 d.procs.length)::cEs d.procs 10):=fun x0 x1=>Q7 d (by omega) (fun q hq=>⟨by have:=ye hq;omega,yX hv q hq⟩) [x0,x1];have hnil:∀H:Heap,Yb A3 H=(A3,H):=fun _=>rfl;have hst:∀(x0:AObj) (v:AV) (X:Heap),z8 (some 2) 0 (x0::.box (some 2) v::X) [.ptr 1 0,dA d 4]=some (.undef,x0::.box (some 2) (dA d 4)::X):=fun x0 v X=>by
  simp[z8,astore,dA,AV.plain,AV.shp,AV.own,Yb,YQ,total,Sh.size]
 simp only[Dbs.av] at h1 h3 h4;rw[hv] at h1;rw[hn] at h2;rw[hf,<-hi] at h3;have hil:=(Zb.1 hpp).1;have hge:=XB (b:=10) hpp;have hpt:AV.part deep (dA d 4) 1 none=some (.slv (some 4) 4 d.procs.length 0 d.procs.length):=rfl;have hia:Yl (some 4) [.slv (some 4) 4 d.procs.length 0 d.procs.length,.pv none (.int .i64 i)]=some (.epv (some 4) 4 d.procs.length i 0):=by
  simp[Yl,aindex,hil]
 have hld:∀(x0 x1 x2 x3:AObj) (X:Heap),aload none (x0::x1::x2::x3::.arv (some 4) (elsA d.procs 10 d.procs.length)::X) (.epv (some 4) 4 d.procs.length i 2)=some (.pv none (.bool p.dyn)):=fun x0 x1 x2 x3 X=>by
  have e:AV.part deep (pA p (10+6*i)) 2 none=some (.pv none (.bool p.dyn)):=rfl;simp[aload,YV,hge,e]
 have hse:∀(x0 x1 x2 x3:AObj) (X:Heap) (c:Bool),z8 none 0 (x0::x1::x2::x3::.arv (some 4) (elsA d.procs 10 d.procs.length)::X) [.epv (some 4) 4 d.procs.length i 2,.pv none (.bool c)]=some (.undef,x0::x1::x2::x3::.arv (some 4) ((elsA d.procs 10 d.procs.length).set i (pA ⟨p.name,p.ar,c,p.cls⟩ (10+6*i)))::X):=fun x0 x1 x2 x3 X c=>by
  have e:AV.upd deep (pA p (10+6*i)) 2 none (.pv none (.bool c))=some (pA ⟨p.name,p.ar,c,p.cls⟩ (10+6*i)):=rfl;simp[z8,astore,YV,hge,e,AV.plain,AV.shp]
 have fin:∀(x0 x1 x2 x3:AObj) (c:Bool),c=(p.dyn || b)->DbA ⟨d.next,d.procs.set i (dynP p b)⟩ (dA d 4) (x0::x1::x2::x3::.arv (some 4) ((elsA d.procs 10 d.procs.length).set i (pA ⟨p.name,p.ar,c,p.cls⟩ (10+6*i)))::cEs d.procs 10):=fun x0 x1 x2 x3 c hc=>by
  refine⟨4,d.procs.length,_,d.procs.set i (dynP p b),?_,rfl,by rw[zf,YV],by simp,by simp,by simp[Zq],fun j q v hq hv2=> ?_⟩
  ·simp[dA]
  ·have hcl5:∀(k:Nat) (x:Prc),d.procs[k]? =some x->(x0::x1::x2::x3::AObj.arv (some 4) ((elsA d.procs 10 d.procs.length).set i (pA ⟨p.name,p.ar,c,p.cls⟩ (10+6*i)))::cEs d.procs 10)[10+6*k]? =some (.arr (some 9) (Sto.pvs x.cls) false):=fun k x hx=>by
    rw[show 10+6*k=(6*k+5)+1+1+1+1+1 by omega];simp only[ZR];exact xm _ _ _ _ hx
   have htake:∀l:List Sto,(Sto.pvs l).take l.length=Sto.pvs l:=fun l=>Zq (by rw[Sto.pvs_len];exact Ze _);by_cases hji:i=j
   ·subst hji;rw[Zr hil] at hq;cases hq;rw[Zr (by rw[YV];exact hil)] at hv2;cases hv2;subst hc;exact .inr ⟨_,rfl,.inr ⟨10+6*i,p.cls.length,Sto.pvs p.cls,false,rfl,hcl5 i p hpp,Sto.pvs_len _,Ze _,htake _⟩⟩
   ·rw[Zk hji] at hq hv2;rw[XB hq] at hv2;cases hv2;exact .inr ⟨_,rfl,.inr ⟨10+6*j,q.cls.length,Sto.pvs q.cls,false,rfl,hcl5 j q hq,Sto.pvs_len _,Ze _,htake _⟩⟩
 have hfr:∀(d':Dbs) (H:Heap),DbA d' (dA d 4) H->Am.frozen (.tuple [d'.av,.pv none (.int .i64 0)]) (.tuple [dA d 4,.pv none (.int .i64 0)]) H:=fun d' H hD=>by
  obtain⟨H',hz⟩:=hD.frz;have e3:∀X,AV.freeze deep (.pv none (.int .i64 0)) X=some (.int .i64 0,X):=fun _=>rfl;have hsh:(dA d 4).shp=some 2:=rfl;refine⟨H',?_⟩;simp only[AV.freezeRes,Yn,hz,e3,hsh];rfl
 have hr:∀(x0:AObj) (X:Heap),YL ⟨[(8,.ptr 1 0),(9,.pv none (.int .i64 0))],x0::.box (some 2) (dA d 4)::X⟩ (8,some (some 2))=some (dA d 4):=fun x0 X=>by
  simp[YL,Fr.look,aload]
 have hfa:yz 2 [.epv (some 4) 4 d.procs.length i 0]=some (.epv (some 4) 4 d.procs.length i 2):=rfl;cases hd:p.dyn with
 |true=>
  rw[hd] at hld;simp -dsimp -implicitDefEqProofs only[go_sem,seval,↓reduceIte,Dbs.av,Ye,Prc.pvs_len,h1,h2,h3,h4,hst,hnil,hpt,hia,hfa,hld,hse,hr];have hF:=hfr _ _ (fin (.box (some 2) (.pv (some 2) d.pv)) (.box (some 2) (dA d 4)) (.box (some 2) (dA d 4)) (.box (some 2) (dA d 4)) true (by rw[hd];rfl));simp only[yr,Dbs.av] at hF;exact hF
 |false=>
  rw[hd] at hld;simp -dsimp -implicitDefEqProofs only[go_sem,seval,↓reduceIte,Dbs.av,Ye,Prc.pvs_len,h1,h2,h3,h4,hst,hnil,hpt,hia,hfa,hld,hse,hr];have hF:=hfr _ _ (fin (.box (some 2) (.pv (some 2) d.pv)) (.box (some 2) (dA d 4)) (.box (some 2) (dA d 4)) (.box (some 2) (dA d 4)) b (by rw[hd];rfl));simp only[yr,Dbs.av] at hF;exact hF
set_option maxRecDepth 20000 in
theorem lY(d:Dbs)(hb:BndD d)(s:List UInt8)(a:Int)(b:Bool)(hv:okD d=true)(hn:namB (keyP s a)=true)(hf:fnD d.procs (keyP s a)=false)(i:Nat)(hi:i=lbD d.procs (keyP s a))(hl:d.procs.length≠500)(hp:Heap):S 20 [d.av,.pv none (.str s),.pv none (.int .i64 a),.pv none (.bool b)] hp=some (.ret (.tuple [(⟨d.next,d.procs.take i++(⟨s,a,b,[]⟩:Prc)::d.procs.drop i⟩:Dbs).av,.pv none (.int .i64 0)]),hp):=by
 refine Ya rfl rfl rfl (z9 [(some 2,d.pv),(none,.str s),(none,.int .i64 a),(none,.bool b)]) rfl ?_;have h1:=fun hp=>yx d hb.1 hb.2.1 hb.2.2 hp;have h2:∀hp,S 39 [.pv none (.str s),.pv none (.int .i64 a)] hp=some (.ret (.pv none (.bool (namB (keyP s a)))),hp):=fun hp=>qV s a hp;have h3:∀hp,S 50 [d.av,.pv none (.str s),.pv none (.int .i64 a)] hp=some (.ret (.tuple [.pv none (.int .i64 (lbD d.procs (keyP s a):Int)),.pv none (.bool (fnD d.procs (keyP s a)))]),hp):=fun hp=>XL d s a hb.1 (XM hv) hp;have hl5:d.procs.length<=500/\totD d.procs<=500:=by
  simp only[okD,Zg,Zw] at hv;exact⟨hv.2.2.1,hv.2.2.2.1⟩
 have h4:∀x0 x1:AObj,S 51 [d.av] [x0,x1]=some (.ret (dA d 4),x0::x1::.box (some 2) (dA d 4)::.box (some 2) (dA d 4)::.arv (some 4) (elsA d.procs 10 d.procs.length)::cEs d.procs 10):=fun x0 x1=>Q7 d (by omega) (fun q hq=>⟨by have:=ye hq;omega,yX hv q hq⟩) [x0,x1];have hnil:∀H:Heap,Yb A3 H=(A3,H):=fun _=>rfl;have hst:∀(x0:AObj) (v:AV) (X:Heap),z8 (some 2) 0 (x0::.box (some 2) v::X) [.ptr 1 0,dA d 4]=some (.undef,x0::.box (some 2) (dA d 4)::X):=fun x0 v X=>by
  simp[z8,astore,dA,AV.plain,AV.shp,AV.own,Yb,YQ,total,Sh.size]
 simp only[Dbs.av] at h1 h3 h4;rw[hv] at h1;rw[hn] at h2;rw[hf,<-hi] at h3;have hl':((d.procs.length:Int)=500)=False:=Zl (by omega);have hpt:AV.part deep (dA d 4) 1 none=some (.slv (some 4) 4 d.procs.length 0 d.procs.length):=rfl;have hbu:Yi A2 [0,1] [.pv none (.str s),.pv none (.int .i64 a)]=some (.agg [(none,.pv none (.str s)),(none,.pv none (.int .i64 a)),(none,.pv none (.bool false)),(none,.tsl (some 9) [])]):=rfl;have hil:i<=d.procs.length:=by rw[hi];exact xL _ _
 obtain⟨nv,hnv⟩:∃nv:Bool->AV,nv=fun c=>.agg [(none,.pv none (.str s)),(none,.pv none (.int .i64 a)),(none,.pv none (.bool c)),(none,.tsl (some 9) [])]:=⟨_,rfl⟩;obtain⟨el,hel⟩:∃el:AV->List AV,el=fun v=>(elsA d.procs 10 d.procs.length).take i++v::(elsA d.procs 10 d.procs.length).drop i:=⟨_,rfl⟩;have hell:∀v,(el v).length=d.procs.length+1:=fun v=>by rw[hel];simp[YV];omega
 have hli:((elsA d.procs 10 d.procs.length).take i).length=i:=by rw[Zh,YV];omega
 have heli:∀v,(el v)[i]? =some v:=fun v=>by
  rw[hel];show(_++_)[i]? =_;rw[Zp (by omega),hli,ZX];rfl
 have hels:∀v v',(el v).set i v'=el v':=fun v v'=>by
  rw[hel];show List.set (_++_) i v'=_;rw[zu _ _ (by omega),hli,ZX];rfl
 obtain⟨m,hm⟩:∃m,m=(cEs d.procs 10).length+5:=⟨_,rfl⟩;have xn:∀{vs:List AV} {H:Heap} {K:AV->Heap->Prop} {Kp:PV->Heap->Prop},opK (aOp (sem (find tab) prim) 0 (.bslov (some 4)) vs H) K Kp=YD (YW (some 4) H vs) K:=fun{vs H K Kp}=>by
  show opK (match YW (some 4) H vs with|some (v,hp')=>some (OpRes.val v hp')|none=>none) K Kp=_;cases YW (some 4) H vs with
  |none=>rfl
  |some r=>cases r;rfl
 have hbs:∀x0 x1 x2 x3 x4:AObj,YW (some 4) (x0::x1::x2::x3::x4::cEs d.procs 10) [nv false]=some (.slv (some 4) m 1 0 1,x0::x1::x2::x3::x4::(cEs d.procs 10++[.arv (some 4) [nv false]])):=fun x0 x1 x2 x3 x4=>by
  have e1:(nv false).plain=true:=by rw[hnv];rfl
  have e2:(nv false).shp=some 4:=by rw[hnv];rfl
  simp[YW,e1,e2,XA,hm]
 have hpr:∀x0 x1 x2 x3:AObj,S 52 [.slv (some 4) 4 d.procs.length 0 d.procs.length,.pv none (.int .i64 i),.slv (some 4) m 1 0 1] (x0::x1::x2::x3::.arv (some 4) (elsA d.procs 10 d.procs.length)::(cEs d.procs 10++[.arv (some 4) [nv false]]))=some (.ret (.slv (some 4) 4 (d.procs.length+1) 0 (d.procs.length+1)),x0::x1::x2::x3::.arv (some 4) (el (nv false))::(cEs d.procs 10++[.arv (some 4) [nv false]])):=fun x0 x1 x2 x3=>by
  rw[S,jj (F:=find tab) (prim:=prim) (p:=xG (some 4)) rfl];have hg:(x0::x1::x2::x3::AObj.arv (some 4) (elsA d.procs 10 d.procs.length)::(cEs d.procs 10++[.arv (some 4) [nv false]]))[m]? =some (.arv (some 4) [nv false]):=by
   rw[hm];show(cEs d.procs 10++[.arv (some 4) [nv false]])[(cEs d.procs 10).length]? =_;simp
  have hne:4≠m:=by omega
  have hrf:∀n,yZ n 4 (elsA d.procs 10 d.procs.length) [nv false]=true:=fun n=>by
   rw[hnv];simp[yZ,AV.refsIn.gol,AV.refsIn,AV.refsIn.go]
  have hlm:d.procs.length+1<=lim:=by unfold lim;omega
  have hii:(i:Int)<=(d.procs.length:Int):=by omega
  rw[hel];simp[xG,hg,YV,hne,hrf,hlm,hii]
 have hnv0:(.agg [(none,.pv none (.str s)),(none,.pv none (.int .i64 a)),(none,.pv none (.bool false)),(none,.tsl (some 9) [])]:AV)=nv false:=by rw[hnv]
 rw[hnv0] at hbu;obtain⟨dN,hdN⟩:∃dN:AV,dN=.agg [(none,.pv none (.int .i64 d.next)),(none,.slv (some 4) 4 (d.procs.length+1) 0 (d.procs.length+1))]:=⟨_,rfl⟩;have hsf:∀(x0:AObj) (X:Heap),z8 none 0 (x0::.box (some 2) (dA d 4)::X) [.ptr 1 1,.slv (some 4) 4 (d.procs.length+1) 0 (d.procs.length+1)]=some (.undef,x0::.box (some 2) dN::X):=fun x0 X=>by
  have e:AV.upd deep (dA d 4) 1 none (.slv (some 4) 4 (d.procs.length+1) 0 (d.procs.length+1))=some dN:=by rw[hdN];rfl
  simp[z8,astore,e,AV.plain,AV.shp,AV.own]
 have hpt2:AV.part deep dN 1 none=some (.slv (some 4) 4 (d.procs.length+1) 0 (d.procs.length+1)):=by rw[hdN];rfl
 have hi1:i<d.procs.length+1:=by omega
 have hia:Yl (some 4) [.slv (some 4) 4 (d.procs.length+1) 0 (d.procs.length+1),.pv none (.int .i64 i)]=some (.epv (some 4) 4 (d.procs.length+1) i 0):=by
  have:(i:Int)<(d.procs.length:Int)+1:=by omega
  simp[Yl,aindex,this]
 have hfa:yz 2 [.epv (some 4) 4 (d.procs.length+1) i 0]=some (.epv (some 4) 4 (d.procs.length+1) i 2):=rfl;have hld:∀(x0 x1 x2 x3:AObj) (X:Heap),aload none (x0::x1::x2::x3::.arv (some 4) (el (nv false))::X) (.epv (some 4) 4 (d.procs.length+1) i 2)=some (.pv none (.bool false)):=fun x0 x1 x2 x3 X=>by
  have e:AV.part deep (nv false) 2 none=some (.pv none (.bool false)):=by rw[hnv];rfl
  simp[aload,hell,heli,e]
 have hse:∀(x0 x1 x2 x3:AObj) (X:Heap),z8 none 0 (x0::x1::x2::x3::.arv (some 4) (el (nv false))::X) [.epv (some 4) 4 (d.procs.length+1) i 2,.pv none (.bool b)]=some (.undef,x0::x1::x2::x3::.arv (some 4) (el (nv b))::X):=fun x0 x1 x2 x3 X=>by
  have e:AV.upd deep (nv false) 2 none (.pv none (.bool b))=some (nv b):=by rw[hnv];rfl
  simp[z8,astore,hell,heli,e,hels,AV.plain,AV.shp]
 have hs2:∀(x0:AObj) (X:Heap),z8 (some 2) 0 (x0::.box (some 2) dN::X) [.ptr 1 0,dN]=some (.undef,x0::.box (some 2) dN::X):=fun x0 X=>by
  rw[hdN];simp[z8,astore,AV.plain,AV.shp,AV.own,Yb,YQ,total,Sh.size]
 have hr:∀(x0:AObj) (X:Heap),YL ⟨[(8,.ptr 1 0),(9,.pv none (.int .i64 0))],x0::.box (some 2) dN::X⟩ (8,some (some 2))=some dN:=fun x0 X=>by
  simp[YL,Fr.look,aload]
 have fin:∀(x0 x1 x2 x3:AObj),DbA ⟨d.next,d.procs.take i++(⟨s,a,b,[]⟩:Prc)::d.procs.drop i⟩ dN (x0::x1::x2::x3::.arv (some 4) (el (nv b))::(cEs d.procs 10++[.arv (some 4) [nv false]])):=fun x0 x1 x2 x3=>by
  have hpl:(d.procs.take i++(⟨s,a,b,[]⟩:Prc)::d.procs.drop i).length=d.procs.length+1:=by simp;omega
  refine⟨4,d.procs.length+1,el (nv b),d.procs.take i++(⟨s,a,b,[]⟩:Prc)::d.procs.drop i,?_,rfl,hell _,by rw[hpl];omega,hpl,ZP,fun j q v hq hv2=> ?_⟩
  ·rw[hdN,hpl]
  ·have hE:∀(k:Nat) (x:Prc),d.procs[k]? =some x->ElP x (pA x (10+6*k)) (x0::x1::x2::x3::AObj.arv (some 4) (el (nv b))::(cEs d.procs 10++[.arv (some 4) [nv false]])):=fun k x hx=>by
    refine .inr ⟨_,rfl,.inr ⟨10+6*k,x.cls.length,Sto.pvs x.cls,false,rfl,?_,Sto.pvs_len _,Ze _,Zq (by rw[Sto.pvs_len];exact Ze _)⟩⟩;rw[show 10+6*k=(6*k+5)+1+1+1+1+1 by omega];simp only[ZR];have hg:=xm d.procs 10 k x hx;rw[Zn (Zb.1 hg).1,hg]
   have hlp:(d.procs.take i).length=i:=by rw[Zh];omega
   rw[hel] at hv2;have hv3:((elsA d.procs 10 d.procs.length).take i++nv b::(elsA d.procs 10 d.procs.length).drop i)[j]? =some v:=hv2;rcases zK j i with k|k|k
   ·rw[Zn (by omega),ZG,Zc k] at hq hv3;rw[XB hq] at hv3;cases hv3;exact hE j q hq
   ·subst k;rw[Zp (by omega),hlp,ZX] at hq;rw[Zp (by omega),hli,ZX] at hv3;cases hq;cases hv3;rw[hnv];exact .inr ⟨.tsl (some 9) [],rfl,.inl rfl⟩
   ·rw[Zp (by omega),hlp,show j - i=(j - i - 1)+1 by omega,ZR,ZI] at hq;rw[Zp (by omega),hli,show j - i=(j - i - 1)+1 by omega,ZR,ZI] at hv3;rw[XB hq] at hv3;cases hv3;exact hE _ q hq
 have hfr:∀(d':Dbs) (H:Heap),DbA d' dN H->Am.frozen (.tuple [d'.av,.pv none (.int .i64 0)]) (.tuple [dN,.pv none (.int .i64 0)]) H:=fun d' H hD=>by
  obtain⟨H',hz⟩:=hD.frz;have e3:∀X,AV.freeze deep (.pv none (.int .i64 0)) X=some (.int .i64 0,X):=fun _=>rfl;have hsh:dN.shp=some 2:=by rw[hdN];rfl
  refine⟨H',?_⟩;simp only[AV.freezeRes,Yn,hz,e3,hsh];rfl
 simp -dsimp -implicitDefEqProofs only[go_sem,seval,↓reduceIte,Dbs.av,Ye,Prc.pvs_len,h1,h2,h3,h4,hl',hpt,hbu,xn,hbs,hpr,hsf,hs2,hst,hnil,hpt2,hia,hfa,hld,hse,hr];have hF:=hfr _ _ (fin (.box (some 2) (.pv (some 2) d.pv)) (.box (some 2) dN) (.box (some 2) (dA d 4)) (.box (some 2) (dA d 4)));simp only[yr,Dbs.av] at hF;exact hF
def YF(d:Dbs)(s:List UInt8)(a:Int)(b:Bool):Dbs × Int:=
 if okD d=false\/namB (keyP s a)=false then(YB,1)
 else match fnD d.procs (keyP s a),d.procs[lbD d.procs (keyP s a)]? with
 |true,some p=>(⟨d.next,d.procs.set (lbD d.procs (keyP s a)) (dynP p b)⟩,0)
 |_,_=>if d.procs.length=500 then(YB,13)
  else(⟨d.next,d.procs.take (lbD d.procs (keyP s a))++(⟨s,a,b,[]⟩:Prc)::d.procs.drop (lbD d.procs (keyP s a))⟩,0)
theorem XN{ps:List Prc}{k:Prc}(h:fnD ps k=true):∃p,ps[lbD ps k]? =some p:=by
 cases e:ps[lbD ps k]? with
 |some p=>exact⟨p,rfl⟩
 |none=>simp[fnD,e] at h
theorem lZ(d:Dbs)(hb:BndD d)(s:List UInt8)(a:Int)(b:Bool)(hp:Heap):S 20 [d.av,.pv none (.str s),.pv none (.int .i64 a),.pv none (.bool b)] hp=some (.ret (.tuple [(YF d s a b).1.av,.pv none (.int .i64 (YF d s a b).2)]),hp):=by
 by_cases h:okD d=false\/namB (keyP s a)=false
 ·rw[lV d hb s a b h hp];simp only[YF,Zc h]
 ·have hv:okD d=true:=by cases e:okD d with|true=>rfl|false=>exact absurd (Or.inl e) h
  have hn:namB (keyP s a)=true:=by cases e:namB (keyP s a) with|true=>rfl|false=>exact absurd (Or.inr e) h
  cases hf:fnD d.procs (keyP s a) with
  |true=>
   obtain⟨p,hpp⟩:=XN hf;rw[lX d hb s a b hv hn hf p _ rfl hpp hp];simp only[YF,Za h,hf,hpp]
  |false=>
   by_cases hl:d.procs.length=500
   ·rw[lW d hb s a b hv hn hf hl hp];simp only[YF,Za h,hf,Zc hl]
   ·rw[lY d hb s a b hv hn hf _ rfl hl hp];simp only[YF,Za h,hf,Za hl]
theorem l8(d:Dbs)(hb:BndD d)(s:List UInt8)(a:Int)(h:okD d=false\/fnD d.procs (keyP s a)=false)(hp:Heap):S 23 [d.av,.pv none (.str s),.pv none (.int .i64 a)] hp=some (.ret (.tuple [YB.av,.pv none (.bool false)]),hp):=by
 refine Ya rfl rfl rfl (z9 [(some 2,d.pv),(none,.str s),(none,.int .i64 a)]) rfl ?_;have h1:=fun hp=>yx d hb.1 hb.2.1 hb.2.2 hp;have hz0:Yi A1 [] []=some (.agg A1):=rfl;have hnil:∀H:Heap,Yb A3 H=(A3,H):=fun _=>rfl;simp only[Dbs.av] at h1;cases hv:okD d with
 |false=>
  rw[hv] at h1;simp -dsimp -implicitDefEqProofs only[go_sem,seval,↓reduceIte,Dbs.av,h1,hz0,hnil,z7 (Zd _)];exact⟨_,rfl⟩
 |true=>
  have hf:fnD d.procs (keyP s a)=false:=by
   rcases h with h|h
   ·rw[hv] at h;cases h
   ·exact h
  have h3:∀hp,S 50 [d.av,.pv none (.str s),.pv none (.int .i64 a)] hp=some (.ret (.tuple [.pv none (.int .i64 (lbD d.procs (keyP s a):Int)),.pv none (.bool (fnD d.procs (keyP s a)))]),hp):=fun hp=>XL d s a hb.1 (XM hv) hp;simp only[Dbs.av] at h3;rw[hv] at h1;rw[hf] at h3;simp -dsimp -implicitDefEqProofs only[go_sem,seval,↓reduceIte,Dbs.av,h1,h3,hz0,hnil,z7 (Zd _)];exact⟨_,rfl⟩
theorem Gk(d:Dbs)(hb:BndD d)(id:Int)(h:okD d=false\/whR d.procs id=none)(hp:Heap):S 22 [d.av,.pv none (.int .i64 id)] hp=some (.ret (.tuple [YB.av,.pv none (.bool false)]),hp):=by
 refine Ya rfl rfl rfl (z9 [(some 2,d.pv),(none,.int .i64 id)]) rfl ?_;have h1:=fun hp=>yx d hb.1 hb.2.1 hb.2.2 hp;have hz0:Yi A1 [] []=some (.agg A1):=rfl;have hnil:∀H:Heap,Yb A3 H=(A3,H):=fun _=>rfl;simp only[Dbs.av] at h1;cases hv:okD d with
 |false=>
  rw[hv] at h1;simp -dsimp -implicitDefEqProofs only[go_sem,seval,↓reduceIte,Dbs.av,h1,hz0,hnil,z7 (Zd _)];exact⟨_,rfl⟩
 |true=>
  have hf:whR d.procs id=none:=by
   rcases h with h|h
   ·rw[hv] at h;cases h
   ·exact h
  have hl5:d.procs.length<=500/\totD d.procs<=500:=by
   simp only[okD,Zg,Zw] at hv;exact⟨hv.2.2.1,hv.2.2.2.1⟩
  have h3:=fun hp=>kQ d id (by omega) (by omega) hp;simp only[Dbs.av] at h3;rw[hv] at h1;rw[hf] at h3;simp -dsimp -implicitDefEqProofs only[go_sem,seval,↓reduceIte,Dbs.av,h1,h3,hz0,hnil,z7 (Zd _)];exact⟨_,rfl⟩
theorem l9(d:Dbs)(hb:BndD d)(c:Cz)(z1:c.head.size<100000000)(z2:c.body.size<100000000)(fr dy:Bool)(h:okD d=false\/okC c=false)(hp:Heap):S 21 [d.av,c.av,.pv none (.bool fr),.pv none (.bool dy)] hp=some (.ret (.tuple [YB.av,.pv none (.int .i64 1)]),hp):=by
 refine Ya rfl rfl rfl (z9 [(some 2,d.pv),(some 8,c.pv),(none,.bool fr),(none,.bool dy)]) rfl ?_;have h1:=fun hp=>yx d hb.1 hb.2.1 hb.2.2 hp;have h2:=fun hp=>xK c z1 z2 hp;have hz0:Yi A1 [] []=some (.agg A1):=rfl;have hnil:∀H:Heap,Yb A3 H=(A3,H):=fun _=>rfl;simp only[Dbs.av] at h1;simp only[Cz.av] at h2;cases hv:okD d with
 |false=>
  rw[hv] at h1;simp -dsimp -implicitDefEqProofs only[go_sem,seval,↓reduceIte,Dbs.av,Cz.av,h1,hz0,hnil,z7 (Zd _)];exact⟨_,rfl⟩
 |true=>
  have hn:okC c=false:=by
   rcases h with h|h
   ·rw[hv] at h;cases h
   ·exact h
  rw[hv] at h1;rw[hn] at h2;simp -dsimp -implicitDefEqProofs only[go_sem,seval,↓reduceIte,Dbs.av,Cz.av,h1,h2,hz0,hnil,z7 (Zd _)];exact⟨_,rfl⟩
set_option maxRecDepth 20000 in
theorem Ma(d:Dbs)(hb:BndD d)(c:Cz)(z1:c.head.size<100000000)(z2:c.body.size<100000000)(fr dy:Bool)(hv:okD d=true)(hn:okC c=true)(h:totD d.procs=500)(hp:Heap):S 21 [d.av,c.av,.pv none (.bool fr),.pv none (.bool dy)] hp=some (.ret (.tuple [YB.av,.pv none (.int .i64 13)]),hp):=by
 refine Ya rfl rfl rfl (z9 [(some 2,d.pv),(some 8,c.pv),(none,.bool fr),(none,.bool dy)]) rfl ?_;have h1:=fun hp=>yx d hb.1 hb.2.1 hb.2.2 hp;have h2:=fun hp=>xK c z1 z2 hp;have h3:∀(s:List UInt8) (a:Int) hp,S 50 [d.av,.pv none (.str s),.pv none (.int .i64 a)] hp=some (.ret (.tuple [.pv none (.int .i64 (lbD d.procs (keyP s a):Int)),.pv none (.bool (fnD d.procs (keyP s a)))]),hp):=fun s a hp=>XL d s a hb.1 (XM hv) hp;have hl5:d.procs.length<=500/\totD d.procs<=500:=by
  simp only[okD,Zg,Zw] at hv;exact⟨hv.2.2.1,hv.2.2.2.1⟩
 have h4:=fun hp=>Qp d (by omega) (by omega) hp;have hz0:Yi A1 [] []=some (.agg A1):=rfl;have hnil:∀H:Heap,Yb A3 H=(A3,H):=fun _=>rfl;simp only[Dbs.av] at h1 h3 h4;simp only[Cz.av] at h2;rw[hv] at h1;rw[hn] at h2;rw[h] at h4;obtain⟨⟨hk,hi,hna,has⟩,bd⟩:=c;have hpn:PV.part deep (Cz.pv ⟨⟨hk,hi,hna,has⟩,bd⟩) 2 none=some (.str hna):=rfl;have hpa:PV.part deep (Cz.pv ⟨⟨hk,hi,hna,has⟩,bd⟩) 3 none=some (.sl (some 4) (Tm.pvs has)):=rfl;simp -dsimp -implicitDefEqProofs only[hpn,hpa,Tm.pvs_len,g21,c21r0,c21r1,c21r2,c21k3,c21r4,c21r5,c21r6,c21k7,c21r8,c21r9,c21r10,c21k11,c21r12,c21r13,c21r14,c21r15,c21k16,c21r17,c21r18,c21r19,c21,go_sem,seval,↓reduceIte,Dbs.av,Cz.av,h1,h2,h3,h4,hz0,hnil,z7 (Zd _)];exact⟨_,rfl⟩
theorem xN{Γ:Oracle}{b:Nat}{vs:List AV}{hp:Heap}{K:AV->Heap->Prop}{Kp:PV->Heap->Prop}[Tag K][Tag Kp](sh:Sh):opK (aOp Γ b (.appendv sh) vs hp) K Kp=YD (yc sh b hp vs) K:=by
 show opK (match(yc sh b hp vs) with|some (v,hp')=>some (OpRes.val v hp')|none=>none) K Kp=_;cases (yc sh b hp vs) with
 |none=>rfl
 |some r=>cases r;rfl
theorem Mb(es:List AV)(k q:Nat)(h:q∈AV.refsIn.gol (es.drop k)):q∈AV.refsIn.gol es:=by
 induction es generalizing k with
 |nil=>simpa using h
 |cons e r ih=>
  cases k with
  |zero=>exact h
  |succ k=>exact zB _ (ih k h)
set_option maxRecDepth 20000 in
theorem Mc(es:List AV)(i:Nat)(n:Nat)(hi:i<n)(he:es.length=n)(hn:n<=500)(x0 x1 x2 x3:AObj)(X:Heap):S 57 [.slv (some 4) 4 n 0 n,.pv none (.int .i64 (i:Int)),.pv none (.int .i64 ((i:Int)+1))] (x0::x1::x2::x3::.arv (some 4) es::X)=some (.ret (.slv (some 4) 4 n 0 (n - 1)),x0::x1::x2::x3::.arv (some 4) (es.take i++es.drop (i+1)++[.pv (some 4) (.agg [(none,.str []),(none,.int .i64 0),(none,.bool false),(none,.sl (some 9) [])])])::X):=by
 refine Xn rfl rfl rfl rfl ?_;have h0:((i:Int)=(i:Int)+1)=False:=by simp;omega
 have hL:∀m:Nat,sLen [.slv (some 4) 4 n 0 m]=some (.pv none (.int .i64 (m:Int))):=fun m=>rfl;have h3:yA (some 4) true [.slv (some 4) 4 n 0 n,.pv none (.int .i64 (i:Int)),.pv none (.int .i64 ((i:Int)+1)),.pv none (.int .i64 (n:Int))]=some .undef:=by
  simp only[yA];rw[Zc (by omega)]
 have s1:YR (some 4) false true [.slv (some 4) 4 n 0 n,.pv none (.int .i64 (i:Int))]=some (.slv (some 4) 4 n 0 i):=by
  simp[YR,aslice];omega
 have s2:YR (some 4) true false [.slv (some 4) 4 n 0 n,.pv none (.int .i64 ((i:Int)+1))]=some (.slv (some 4) 4 n (i+1) (n - (i+1))):=by
  simp[YR,aslice];omega
 have s3:YR (some 4) true true [.slv (some 4) 4 n 0 (n - 1),.pv none (.int .i64 ((n - 1:Nat):Int)),.pv none (.int .i64 (n:Int))]=some (.slv (some 4) 4 n (n - 1) 1):=by
  simp[YR,aslice];omega
 have hel:elemsv (x0::x1::x2::x3::.arv (some 4) es::X) (.slv (some 4) 4 n (i+1) (n - (i+1)))=some (some 4,es.drop (i+1)):=by
  simp[elemsv,he];refine⟨by omega,Zq (by simp[he])⟩
 have hro:∀b,yZ b 4 es (es.drop (i+1))=true:=fun b=>by
  simp only[yZ,zk,Zx,List.contains_iff_mem];exact .inr fun q hq=>Mb es _ q hq
 have hap:∀b,yc (some 4) b (x0::x1::x2::x3::.arv (some 4) es::X) [.slv (some 4) 4 n 0 i,.slv (some 4) 4 n (i+1) (n - (i+1))]=some (.slv (some 4) 4 n 0 (n - 1),x0::x1::x2::x3::.arv (some 4) (es.take i++es.drop (i+1)++es.drop (n - 1))::X):=fun b=>by
  have e1:i+(n - (i+1))=n - 1:=by omega
  have e2:n - 1<=n:=by omega
  have e3:n - 1<=lim:=by simp[lim];omega
  have e4:i≠n:=by omega
  simp[yc,aappendv,hel,hro,he,e1,e2,e3,e4]
  decide
 have hcl:XQ (some 4) (.agg [(none,.str []),(none,.int .i64 0),(none,.bool false),(none,.sl (some 9) [])]) (x0::x1::x2::x3::.arv (some 4) (es.take i++es.drop (i+1)++es.drop (n - 1))::X) [.slv (some 4) 4 n (n - 1) 1]=some (.undef,x0::x1::x2::x3::.arv (some 4) (es.take i++es.drop (i+1)++[.pv (some 4) (.agg [(none,.str []),(none,.int .i64 0),(none,.bool false),(none,.sl (some 9) [])])])::X):=by
  have l1:(es.take i++es.drop (i+1)).length=n - 1:=by simp[he];omega
  have l2:(es.take i++es.drop (i+1)++es.drop (n - 1)).length=n:=by rw[Zj,l1];simp[he] <;> omega
  have l3:(es.take i++es.drop (i+1)++es.drop (n - 1)).take (n - 1)=es.take i++es.drop (i+1):=by rw[<-l1];exact List.take_left
  have l4:n - 1+1=n:=by omega
  have l5:(es.take i++es.drop (i+1)++es.drop (n - 1)).drop n=[]:=List.drop_eq_nil_of_le (by omega);simp only[XQ,ZR,zW,l2,l3,l4,l5];simp
 simp only[ZD] at hap hcl;simp -dsimp -implicitDefEqProofs only[go_sem,seval,↓reduceIte,h0,hL,h3,s1,s2,s3,xN,hap,hcl];simp[AV.refsIn]
set_option maxRecDepth 20000 in
theorem Md(H:Heap)(q:Nat)(es:List PV)(k n:Nat)(hk:k<n)(he:es.length=n)(hn:n<=500)(hg:H[q]? =some (.arr (some 9) es false)):S 56 [.sl (some 9) q n 0 n,.pv none (.int .i64 (k:Int)),.pv none (.int .i64 ((k:Int)+1))] H=some (.ret (.sl (some 9) q n 0 (n - 1)),H.set q (.arr (some 9) (es.take k++(es.drop (k+1)++[zS])) false)):=by
 refine Xn rfl rfl rfl rfl ?_;have hq:=YT hg;have h0:((k:Int)=(k:Int)+1)=False:=by simp;omega
 have hL:∀m:Nat,sLen [.sl (some 9) q n 0 m]=some (.pv none (.int .i64 (m:Int))):=fun m=>rfl;have h3:yA (some 9) true [.sl (some 9) q n 0 n,.pv none (.int .i64 (k:Int)),.pv none (.int .i64 ((k:Int)+1)),.pv none (.int .i64 (n:Int))]=some .undef:=by
  simp only[yA];rw[Zc (by omega)]
 have s1:YR (some 9) false true [.sl (some 9) q n 0 n,.pv none (.int .i64 (k:Int))]=some (.sl (some 9) q n 0 k):=by
  simp[YR,aslice];omega
 have s2:YR (some 9) true false [.sl (some 9) q n 0 n,.pv none (.int .i64 ((k:Int)+1))]=some (.sl (some 9) q n (k+1) (n - (k+1))):=by
  simp[YR,aslice];omega
 have s3:YR (some 9) true true [.sl (some 9) q n 0 (n - 1),.pv none (.int .i64 ((n - 1:Nat):Int)),.pv none (.int .i64 (n:Int))]=some (.sl (some 9) q n (n - 1) 1):=by
  simp[YR,aslice];omega
 have hset:∀o:AObj,(H++[AObj.arr (some 9) [] false]).set q o=H.set q o++[.arr (some 9) [] false]:=fun o=>zm _ _ hq;have hg0:(H++[AObj.arr (some 9) [] false])[q]? =some (.arr (some 9) es false):=by rw[Zn hq,hg]
 have hel:elems (H++[.arr (some 9) [] false]) (.sl (some 9) q n (k+1) (n - (k+1)))=some (some 9,es.drop (k+1)):=by
  simp[elems,hg0,he];refine⟨by omega,Zq (by simp[he])⟩
 have hap:YC (some 9) (H++[.arr (some 9) [] false]) [.sl (some 9) q n 0 k,.sl (some 9) q n (k+1) (n - (k+1))]=some (.sl (some 9) q n 0 (n - 1),H.set q (.arr (some 9) (es.take k++(es.drop (k+1)++es.drop (n - 1))) false)++[.arr (some 9) [] false]):=by
  have e1:k+(n - (k+1))=n - 1:=by omega
  have e2:n - 1<=n:=by omega
  have e3:n - 1<=lim:=by simp[lim];omega
  have e4:k≠n:=by omega
  simp[YC,aappend,hel,hg0,he,e1,e2,e3,e4,hset]
 have hcl:XQ (some 9) zS (H.set q (.arr (some 9) (es.take k++(es.drop (k+1)++es.drop (n - 1))) false)++[.arr (some 9) [] false]) [.sl (some 9) q n (n - 1) 1]=some (.undef,H.set q (.arr (some 9) (es.take k++(es.drop (k+1)++[zS])) false)++[.arr (some 9) [] false]):=by
  have hg1:(H.set q (.arr (some 9) (es.take k++(es.drop (k+1)++es.drop (n - 1))) false)++[AObj.arr (some 9) [] false])[q]? =some (.arr (some 9) (es.take k++(es.drop (k+1)++es.drop (n - 1))) false):=by
   rw[Zn (by simpa using hq)];simp[hq]
  have l1:(es.take k++es.drop (k+1)).length=n - 1:=by simp[he];omega
  have l2:(es.take k++(es.drop (k+1)++es.drop (n - 1))).length=n:=by rw[<-ZD,Zj,l1];simp[he] <;> omega
  have l3:(es.take k++(es.drop (k+1)++es.drop (n - 1))).take (n - 1)=es.take k++es.drop (k+1):=by rw[<-ZD,<-l1];exact List.take_left
  have l4:n - 1+1=n:=by omega
  have l5:(es.take k++(es.drop (k+1)++es.drop (n - 1))).drop n=[]:=List.drop_eq_nil_of_le (by omega);have l6:n - 1+1<=n:=by omega
  simp only[XQ,hg1,l2,l3,l4,l5];rw[Zc ⟨trivial,trivial,by omega⟩,zm _ _ (by simpa using hq)];simp
 simp only[zS] at hcl;have hni:yJ (some 9) H=some (.sl (some 9) H.length 0 0 0,H++[.arr (some 9) [] false]):=by simp[yJ,XA]
 simp -dsimp -implicitDefEqProofs only[go_sem,seval,↓reduceIte,hni,h0,hL,h3,s1,s2,s3,hap,hcl];simp[AV.refsIn,zS,hq]
set_option maxRecDepth 20000 in
theorem Me(d:Dbs)(hb:BndD d)(s:List UInt8)(a:Int)(hv:okD d=true)(hf:fnD d.procs (keyP s a)=true)(i:Nat)(hi:i=lbD d.procs (keyP s a))(hil:i<d.procs.length)(hp:Heap):S 23 [d.av,.pv none (.str s),.pv none (.int .i64 a)] hp=some (.ret (.tuple [(⟨d.next,d.procs.take i++d.procs.drop (i+1)⟩:Dbs).av,.pv none (.bool true)]),hp):=by
 refine Ya rfl rfl rfl (z9 [(some 2,d.pv),(none,.str s),(none,.int .i64 a)]) rfl ?_;have h1:=fun hp=>yx d hb.1 hb.2.1 hb.2.2 hp;have h3:∀hp,S 50 [d.av,.pv none (.str s),.pv none (.int .i64 a)] hp=some (.ret (.tuple [.pv none (.int .i64 (lbD d.procs (keyP s a):Int)),.pv none (.bool (fnD d.procs (keyP s a)))]),hp):=fun hp=>XL d s a hb.1 (XM hv) hp;have hl5:d.procs.length<=500/\totD d.procs<=500:=by
  simp only[okD,Zg,Zw] at hv;exact⟨hv.2.2.1,hv.2.2.2.1⟩
 have h4:∀x0:AObj,∀x1:AObj,S 51 [d.av] [x0,x1]=some (.ret (dA d 4),x0::x1::.box (some 2) (dA d 4)::.box (some 2) (dA d 4)::.arv (some 4) (elsA d.procs 10 d.procs.length)::cEs d.procs 10):=fun x0 x1=>Q7 d (by omega) (fun q hq=>⟨by have:=ye hq;omega,yX hv q hq⟩) [x0,x1];have hnil:∀H:Heap,Yb A3 H=(A3,H):=fun _=>rfl;have hst:∀(x0:AObj) (v:AV) (X:Heap),z8 (some 2) 0 (x0::.box (some 2) v::X) [.ptr 1 0,dA d 4]=some (.undef,x0::.box (some 2) (dA d 4)::X):=fun x0 v X=>by
  simp[z8,astore,dA,AV.plain,AV.shp,AV.own,Yb,YQ,total,Sh.size]
 simp only[Dbs.av] at h1 h3 h4;rw[hv] at h1;rw[hf,<-hi] at h3;have hpt:AV.part deep (dA d 4) 1 none=some (.slv (some 4) 4 d.procs.length 0 d.procs.length):=rfl;have hw:IntKind.i64.wrap ((i:Int)+1)=(i:Int)+1:=by
  rw[Yf (by omega) (by omega)]
 have h5:=fun x0 x1 x2 x3 X=>Mc (elsA d.procs 10 d.procs.length) i d.procs.length hil (YV _ _ _) (by omega) x0 x1 x2 x3 X;obtain⟨dN,hdN⟩:∃dN:AV,dN=.agg [(none,.pv none (.int .i64 d.next)),(none,.slv (some 4) 4 d.procs.length 0 (d.procs.length - 1))]:=⟨_,rfl⟩;have hsf:∀(x0:AObj) (X:Heap),z8 none 0 (x0::.box (some 2) (dA d 4)::X) [.ptr 1 1,.slv (some 4) 4 d.procs.length 0 (d.procs.length - 1)]=some (.undef,x0::.box (some 2) dN::X):=fun x0 X=>by
  have e:AV.upd deep (dA d 4) 1 none (.slv (some 4) 4 d.procs.length 0 (d.procs.length - 1))=some dN:=by rw[hdN];rfl
  simp[z8,astore,e,AV.plain,AV.shp,AV.own]
 have hs2:∀(x0:AObj) (X:Heap),z8 (some 2) 0 (x0::.box (some 2) dN::X) [.ptr 1 0,dN]=some (.undef,x0::.box (some 2) dN::X):=fun x0 X=>by
  rw[hdN];simp[z8,astore,AV.plain,AV.shp,AV.own,Yb,YQ,total,Sh.size]
 have hr:∀(x0:AObj) (X:Heap),YL ⟨[(6,.ptr 1 0),(7,.pv none (.bool true))],x0::.box (some 2) dN::X⟩ (6,some (some 2))=some dN:=fun x0 X=>by
  simp[YL,Fr.look,aload]
 have hlp:(d.procs.take i).length=i:=by rw[Zh];omega
 have hle:((elsA d.procs 10 d.procs.length).take i).length=i:=by rw[Zh,YV];omega
 have hpl:(d.procs.take i++d.procs.drop (i+1)).length=d.procs.length - 1:=by simp;omega
 have fin:∀(x0 x1 x2 x3:AObj),DbA ⟨d.next,d.procs.take i++d.procs.drop (i+1)⟩ dN (x0::x1::x2::x3::.arv (some 4) ((elsA d.procs 10 d.procs.length).take i++((elsA d.procs 10 d.procs.length).drop (i+1)++[.pv (some 4) (.agg [(none,.str []),(none,.int .i64 0),(none,.bool false),(none,.sl (some 9) [])])]))::cEs d.procs 10):=fun x0 x1 x2 x3=>by
  refine⟨4,d.procs.length,_,d.procs.take i++(d.procs.drop (i+1)++[⟨[],0,false,[]⟩]),?_,rfl,by simp[YV];omega,by rw[hpl];omega,by simp;omega,?_,fun j q v hq hv2=> ?_⟩
  ·rw[hdN,hpl]
  ·rw[<-ZD];exact List.take_left
  ·have hE:∀(k:Nat) (x:Prc),d.procs[k]? =some x->ElP x (pA x (10+6*k)) (x0::x1::x2::x3::AObj.arv (some 4) ((elsA d.procs 10 d.procs.length).take i++((elsA d.procs 10 d.procs.length).drop (i+1)++[.pv (some 4) (.agg [(none,.str []),(none,.int .i64 0),(none,.bool false),(none,.sl (some 9) [])])]))::cEs d.procs 10):=fun k x hx=>by
    refine .inr ⟨_,rfl,.inr ⟨10+6*k,x.cls.length,Sto.pvs x.cls,false,rfl,?_,Sto.pvs_len _,Ze _,Zq (by rw[Sto.pvs_len];exact Ze _)⟩⟩;rw[show 10+6*k=(6*k+5)+1+1+1+1+1 by omega];simp only[ZR];exact xm _ _ _ _ hx
   by_cases k:j<i
   ·rw[Zn (by omega),ZG,Zc k] at hq hv2;rw[XB hq] at hv2;cases hv2;exact hE j q hq
   ·rw[Zp (by omega),hlp] at hq;rw[Zp (by omega),hle] at hv2;by_cases k2:j - i<d.procs.length - (i+1)
    ·rw[Zn (by simp;omega),ZI] at hq;rw[Zn (by simp[YV];omega),ZI] at hv2;rw[XB hq] at hv2;cases hv2;exact hE _ q hq
    ·rw[Zp (by simp;omega)] at hq;rw[Zp (by simp[YV];omega)] at hv2;have hz:=Zi hq;have hz2:=Zi hv2;rw[List.mem_singleton] at hz hz2;subst hz;subst hz2;exact .inl rfl
 have hfr:∀(d':Dbs) (H:Heap),DbA d' dN H->Am.frozen (.tuple [d'.av,.pv none (.bool true)]) (.tuple [dN,.pv none (.bool true)]) H:=fun d' H hD=>by
  obtain⟨H',hz⟩:=hD.frz;have e3:∀X,AV.freeze deep (.pv none (.bool true)) X=some (.bool true,X):=fun _=>rfl;have hsh:dN.shp=some 2:=by rw[hdN];rfl
  refine⟨H',?_⟩;simp only[AV.freezeRes,Yn,hz,e3,hsh];rfl
 simp -dsimp -implicitDefEqProofs only[go_sem,seval,↓reduceIte,Dbs.av,Ye,Prc.pvs_len,h1,h3,h4,hst,hnil,hpt,h5,hw,hsf,hs2,hr];have hF:=hfr _ _ (fin (.box (some 2) (.pv (some 2) d.pv)) (.box (some 2) dN) (.box (some 2) (dA d 4)) (.box (some 2) (dA d 4)));simp only[yr,Dbs.av] at hF;exact hF
def aboR(d:Dbs)(s:List UInt8)(a:Int):Dbs × Bool:=
 if okD d=false\/fnD d.procs (keyP s a)=false then(YB,false)
 else(⟨d.next,d.procs.take (lbD d.procs (keyP s a))++d.procs.drop (lbD d.procs (keyP s a)+1)⟩,true)
theorem Mf(d:Dbs)(hb:BndD d)(s:List UInt8)(a:Int)(hp:Heap):S 23 [d.av,.pv none (.str s),.pv none (.int .i64 a)] hp=some (.ret (.tuple [(aboR d s a).1.av,.pv none (.bool (aboR d s a).2)]),hp):=by
 by_cases h:okD d=false\/fnD d.procs (keyP s a)=false
 ·rw[l8 d hb s a h hp];simp only[aboR,Zc h]
 ·have hv:okD d=true:=by cases e:okD d with|true=>rfl|false=>exact absurd (Or.inl e) h
  have hf:fnD d.procs (keyP s a)=true:=by cases e:fnD d.procs (keyP s a) with|true=>rfl|false=>exact absurd (Or.inr e) h
  obtain⟨p,hpp⟩:=XN hf;rw[Me d hb s a hv hf _ rfl (Zb.1 hpp).1 hp];simp only[aboR,Za h]
set_option maxRecDepth 20000 in
theorem Mg(d:Dbs)(hb:BndD d)(id:Int)(hv:okD d=true)(i k:Nat)(hw:whR d.procs id=some (i,k))(p:Prc)(hpp:d.procs[i]? =some p)(hkl:k<p.cls.length)(hp:Heap):S 22 [d.av,.pv none (.int .i64 id)] hp=some (.ret (.tuple [(⟨d.next,d.procs.set i ⟨p.name,p.ar,p.dyn,p.cls.take k++p.cls.drop (k+1)⟩⟩:Dbs).av,.pv none (.bool true)]),hp):=by
 refine Ya rfl rfl rfl (z9 [(some 2,d.pv),(none,.int .i64 id)]) rfl ?_;have h1:=fun hp=>yx d hb.1 hb.2.1 hb.2.2 hp;have hl5:d.procs.length<=500/\totD d.procs<=500:=by
  simp only[okD,Zg,Zw] at hv;exact⟨hv.2.2.1,hv.2.2.2.1⟩
 have h3:=fun hp=>kQ d id (by omega) (by omega) hp;have h4:∀x0 x1:AObj,S 51 [d.av] [x0,x1]=some (.ret (dA d 4),x0::x1::.box (some 2) (dA d 4)::.box (some 2) (dA d 4)::.arv (some 4) (elsA d.procs 10 d.procs.length)::cEs d.procs 10):=fun x0 x1=>Q7 d (by omega) (fun q hq=>⟨by have:=ye hq;omega,yX hv q hq⟩) [x0,x1];have hnil:∀H:Heap,Yb A3 H=(A3,H):=fun _=>rfl;have hst:∀(x0:AObj) (v:AV) (X:Heap),z8 (some 2) 0 (x0::.box (some 2) v::X) [.ptr 1 0,dA d 4]=some (.undef,x0::.box (some 2) (dA d 4)::X):=fun x0 v X=>by
  simp[z8,astore,dA,AV.plain,AV.shp,AV.own,Yb,YQ,total,Sh.size]
 simp only[Dbs.av] at h1 h3 h4;rw[hv] at h1;rw[hw] at h3;have hpm:=Zi hpp;have hc5:p.cls.length<=500:=by have:=ye hpm;omega
 have hil:=(Zb.1 hpp).1;have hge:=XB (b:=10) hpp;have hpt:AV.part deep (dA d 4) 1 none=some (.slv (some 4) 4 d.procs.length 0 d.procs.length):=rfl;have hia:Yl (some 4) [.slv (some 4) 4 d.procs.length 0 d.procs.length,.pv none (.int .i64 i)]=some (.epv (some 4) 4 d.procs.length i 0):=by
  simp[Yl,aindex,hil]
 have hfa:yz 3 [.epv (some 4) 4 d.procs.length i 0]=some (.epv (some 4) 4 d.procs.length i 3):=rfl;obtain⟨q,hq⟩:∃q,q=10+6*i:=⟨_,rfl⟩;rw[<-hq] at hge;have hld:∀(x0 x1 x2 x3:AObj) (X:Heap),aload none (x0::x1::x2::x3::.arv (some 4) (elsA d.procs 10 d.procs.length)::X) (.epv (some 4) 4 d.procs.length i 3)=some (.sl (some 9) q p.cls.length 0 p.cls.length):=fun x0 x1 x2 x3 X=>by
  have e:AV.part deep (pA p q) 3 none=some (.sl (some 9) q p.cls.length 0 p.cls.length):=rfl;simp[aload,YV,hge,e]
 have hw1:IntKind.i64.wrap ((k:Int)+1)=(k:Int)+1:=by
  rw[Yf (by omega) (by omega)]
 obtain⟨E,hE⟩:∃E,E=(cEs d.procs 10).set (6*i+5) (.arr (some 9) ((Sto.pvs p.cls).take k++((Sto.pvs p.cls).drop (k+1)++[zS])) false):=⟨_,rfl⟩;have hcg:=xm d.procs 10 i p hpp;have h5:∀(x0 x1 x2 x3 x4:AObj),S 56 [.sl (some 9) q p.cls.length 0 p.cls.length,.pv none (.int .i64 (k:Int)),.pv none (.int .i64 ((k:Int)+1))] (x0::x1::x2::x3::x4::cEs d.procs 10)=some (.ret (.sl (some 9) q p.cls.length 0 (p.cls.length - 1)),x0::x1::x2::x3::x4::E):=fun x0 x1 x2 x3 x4=>by
  have:=Md (x0::x1::x2::x3::x4::cEs d.procs 10) q (Sto.pvs p.cls) k p.cls.length hkl (Sto.pvs_len _) hc5 (by
   rw[hq,show 10+6*i=(6*i+5)+1+1+1+1+1 by omega];simp only[ZR];exact hcg)
  rw[this,hE,hq,show 10+6*i=(6*i+5)+1+1+1+1+1 by omega];rfl
 obtain⟨pN,hpN⟩:∃pN:AV,pN=.agg [(none,.pv none (.str p.name)),(none,.pv none (.int .i64 p.ar)),(none,.pv none (.bool p.dyn)),(none,.sl (some 9) q p.cls.length 0 (p.cls.length - 1))]:=⟨_,rfl⟩;have hse:∀(x0 x1 x2 x3:AObj) (X:Heap),z8 none 0 (x0::x1::x2::x3::.arv (some 4) (elsA d.procs 10 d.procs.length)::X) [.epv (some 4) 4 d.procs.length i 3,.sl (some 9) q p.cls.length 0 (p.cls.length - 1)]=some (.undef,x0::x1::x2::x3::.arv (some 4) ((elsA d.procs 10 d.procs.length).set i pN)::X):=fun x0 x1 x2 x3 X=>by
  have e:AV.upd deep (pA p q) 3 none (.sl (some 9) q p.cls.length 0 (p.cls.length - 1))=some pN:=by rw[hpN];rfl
  simp[z8,astore,YV,hge,e,AV.plain,AV.shp]
 have fin:∀(x0 x1 x2 x3:AObj),DbA ⟨d.next,d.procs.set i ⟨p.name,p.ar,p.dyn,p.cls.take k++p.cls.drop (k+1)⟩⟩ (dA d 4) (x0::x1::x2::x3::.arv (some 4) ((elsA d.procs 10 d.procs.length).set i pN)::E):=fun x0 x1 x2 x3=>by
  refine⟨4,d.procs.length,_,d.procs.set i ⟨p.name,p.ar,p.dyn,p.cls.take k++p.cls.drop (k+1)⟩,?_,rfl,by rw[zf,YV],by simp,by simp,by simp[Zq],fun j r v hr hv2=> ?_⟩
  ·simp[dA]
  ·by_cases hji:i=j
   ·subst hji;rw[Zr hil] at hr;cases hr;rw[Zr (by rw[YV];exact hil)] at hv2;cases hv2;rw[hpN];have hl:(p.cls.take k++p.cls.drop (k+1)).length=p.cls.length - 1:=by simp;omega
    have hpvs:Sto.pvs (p.cls.take k++p.cls.drop (k+1))=(Sto.pvs p.cls).take k++(Sto.pvs p.cls).drop (k+1):=by simp[Sto.pvs]
    refine .inr ⟨.sl (some 9) q p.cls.length 0 (p.cls.length - 1),rfl,.inr ⟨q,p.cls.length,(Sto.pvs p.cls).take k++((Sto.pvs p.cls).drop (k+1)++[zS]),false,by rw[hl],?_,?_,by rw[hl];omega,?_⟩⟩
    ·rw[hq,show 10+6*i=(6*i+5)+1+1+1+1+1 by omega];simp only[ZR];rw[hE,Zr (Zb.1 hcg).1]
    ·simp[Sto.pvs_len];omega
    ·rw[hl,hpvs,<-ZD];exact ZZ (by simp[Sto.pvs_len];omega)
   ·rw[Zk hji] at hr hv2;rw[XB hr] at hv2;cases hv2;refine .inr ⟨_,rfl,.inr ⟨10+6*j,r.cls.length,Sto.pvs r.cls,false,rfl,?_,Sto.pvs_len _,Ze _,Zq (by rw[Sto.pvs_len];exact Ze _)⟩⟩;rw[show 10+6*j=(6*j+5)+1+1+1+1+1 by omega];simp only[ZR];rw[hE,Zk (by omega)];exact xm _ _ _ _ hr
 have hfr:∀(d':Dbs) (H:Heap),DbA d' (dA d 4) H->Am.frozen (.tuple [d'.av,.pv none (.bool true)]) (.tuple [dA d 4,.pv none (.bool true)]) H:=fun d' H hD=>by
  obtain⟨H',hz⟩:=hD.frz;have e3:∀X,AV.freeze deep (.pv none (.bool true)) X=some (.bool true,X):=fun _=>rfl;have hsh:(dA d 4).shp=some 2:=rfl;refine⟨H',?_⟩;simp only[AV.freezeRes,Yn,hz,e3,hsh];rfl
 have hr:∀(x0:AObj) (X:Heap),YL ⟨[(4,.ptr 1 0),(5,.pv none (.bool true))],x0::.box (some 2) (dA d 4)::X⟩ (4,some (some 2))=some (dA d 4):=fun x0 X=>by
  simp[YL,Fr.look,aload]
 have hs1:∀(x0:AObj) (X X':Heap),Yr (x0::.box (some 2) (dA d 4)::X) (x0::.box (some 2) (dA d 4)::X') (.ptr 1 1)=true:=fun x0 X X'=>by
  simp[Yr,AObj.beq,dA,AV.beq,AV.beqc,PV.beq]
 simp -dsimp -implicitDefEqProofs only[go_sem,seval,↓reduceIte,ZN,ze,zj,Z9,hs1,Dbs.av,Ye,Prc.pvs_len,h1,h3,h4,hst,hnil,hpt,hia,hfa,hld,hw1,h5,hse,hr];have hF:=hfr _ _ (fin (.box (some 2) (.pv (some 2) d.pv)) (.box (some 2) (dA d 4)) (.box (some 2) (dA d 4)) (.box (some 2) (dA d 4)));simp only[yr,Dbs.av] at hF;exact hF
theorem Mh(H:Heap)(q:Nat)(es:List PV)(k n:Nat)(v:PV)(hk:k<=n)(he:es.length=n)(hn:n<=500)(hg:H[q]? =some (.arr (some 9) es false)):S 53 [.sl (some 9) q n 0 n,.pv none (.int .i64 (k:Int)),.tsl (some 9) [v]] H=some (.ret (.sl (some 9) q (n+1) 0 (n+1)),H.set q (.arr (some 9) (es.take k++v::es.drop k) false)):=by
 rw[S,jj (F:=find tab) (prim:=prim) (p:=xi (some 9)) rfl];have hl:n<=lim:=by unfold lim;omega
 have hl1:n+1<=lim:=by unfold lim;omega
 by_cases e:k=n
 ·subst e;have h1:es.take k=es:=Zq (by omega);have h2:es.drop k=[]:=List.drop_eq_nil_of_le (by omega);simp[xi,YC,aappend,elems,hg,he,hl,hl1,h1,h2]
 ·have e':¬(k:Int)=(n:Int):=by omega
  have hlt:(k:Int)<(n:Int):=by omega
  have hlt':k<n:=by omega
  simp[xi,hg,he,hl1,e,hlt'];intro h;omega
theorem Mi(H:Heap)(v:PV):S 53 [.tsl (some 9) [],.pv none (.int .i64 0),.tsl (some 9) [v]] H=some (.ret (.sl (some 9) H.length 1 0 1),H++[.arr (some 9) [v] false]):=by
 rw[S,jj (F:=find tab) (prim:=prim) (p:=xi (some 9)) rfl];have hl:0<=lim:=by unfold lim;omega
 have hl1:1<=lim:=by unfold lim;omega
 simp[xi,YC,aappend,elems,hl,hl1]
set_option maxRecDepth 20000 in
theorem Mj(d:Dbs)(hb:BndD d)(c:Cz)(z1:c.head.size<100000000)(z2:c.body.size<100000000)(fr dy:Bool)(hv:okD d=true)(hn:okC c=true)(ht:totD d.procs≠500)(h:d.next=4294967296)(hp:Heap):S 21 [d.av,c.av,.pv none (.bool fr),.pv none (.bool dy)] hp=some (.ret (.tuple [YB.av,.pv none (.int .i64 13)]),hp):=by
 refine Ya rfl rfl rfl (z9 [(some 2,d.pv),(some 8,c.pv),(none,.bool fr),(none,.bool dy)]) rfl ?_;have h1:=fun hp=>yx d hb.1 hb.2.1 hb.2.2 hp;have h2:=fun hp=>xK c z1 z2 hp;have h3:∀(s:List UInt8) (a:Int) hp,S 50 [d.av,.pv none (.str s),.pv none (.int .i64 a)] hp=some (.ret (.tuple [.pv none (.int .i64 (lbD d.procs (keyP s a):Int)),.pv none (.bool (fnD d.procs (keyP s a)))]),hp):=fun s a hp=>XL d s a hb.1 (XM hv) hp;have hl5:d.procs.length<=500/\totD d.procs<=500:=by
  simp only[okD,Zg,Zw] at hv;exact⟨hv.2.2.1,hv.2.2.2.1⟩
 have h4:=fun hp=>Qp d (by omega) (by omega) hp;have hz0:Yi A1 [] []=some (.agg A1):=rfl;have hnil:∀H:Heap,Yb A3 H=(A3,H):=fun _=>rfl;simp only[Dbs.av] at h1 h3 h4;simp only[Cz.av] at h2;rw[hv] at h1;rw[hn] at h2;have ht':((totD d.procs:Int)=500)=False:=Zl (by omega);have hx:PV.part deep d.pv 0 none=some (.int .i64 4294967296):=by rw[Yp,h]
 obtain⟨⟨hk,hi,hna,has⟩,bd⟩:=c;have hpn:PV.part deep (Cz.pv ⟨⟨hk,hi,hna,has⟩,bd⟩) 2 none=some (.str hna):=rfl;have hpa:PV.part deep (Cz.pv ⟨⟨hk,hi,hna,has⟩,bd⟩) 3 none=some (.sl (some 4) (Tm.pvs has)):=rfl;simp -dsimp -implicitDefEqProofs only[hpn,hpa,Tm.pvs_len,g21,c21r0,c21r1,c21r2,c21k3,c21r4,c21r5,c21r6,c21k7,c21r8,c21r9,c21r10,c21k11,c21r12,c21r13,c21r14,c21r15,c21k16,c21r17,c21r18,c21r19,c21,go_sem,seval,↓reduceIte,Dbs.av,Cz.av,h1,h2,h3,h4,ht',hx,hz0,hnil,z7 (Zd _)];exact⟨_,rfl⟩
set_option maxRecDepth 20000 in
theorem Mk(d:Dbs)(hb:BndD d)(c:Cz)(z1:c.head.size<100000000)(z2:c.body.size<100000000)(fr dy:Bool)(hv:okD d=true)(hn:okC c=true)(ht:totD d.procs≠500)(hx:d.next≠4294967296)(hf:fnD d.procs (keyP c.head.name c.head.args.length)=false)(h:d.procs.length=500)(hp:Heap):S 21 [d.av,c.av,.pv none (.bool fr),.pv none (.bool dy)] hp=some (.ret (.tuple [YB.av,.pv none (.int .i64 13)]),hp):=by
 refine Ya rfl rfl rfl (z9 [(some 2,d.pv),(some 8,c.pv),(none,.bool fr),(none,.bool dy)]) rfl ?_;have h1:=fun hp=>yx d hb.1 hb.2.1 hb.2.2 hp;have h2:=fun hp=>xK c z1 z2 hp;have h3:∀hp,S 50 [d.av,.pv none (.str c.head.name),.pv none (.int .i64 c.head.args.length)] hp=some (.ret (.tuple [.pv none (.int .i64 (lbD d.procs (keyP c.head.name c.head.args.length):Int)),.pv none (.bool (fnD d.procs (keyP c.head.name c.head.args.length)))]),hp):=fun hp=>XL d _ _ hb.1 (XM hv) hp;have hl5:d.procs.length<=500/\totD d.procs<=500:=by
  simp only[okD,Zg,Zw] at hv;exact⟨hv.2.2.1,hv.2.2.2.1⟩
 have h4:=fun hp=>Qp d (by omega) (by omega) hp;have hz0:Yi A1 [] []=some (.agg A1):=rfl;have hnil:∀H:Heap,Yb A3 H=(A3,H):=fun _=>rfl;rw[hf] at h3;simp only[Dbs.av] at h1 h3 h4;simp only[Cz.av] at h2;rw[hv] at h1;rw[hn] at h2;have ht':((totD d.procs:Int)=500)=False:=Zl (by omega);have hx':(d.next=4294967296)=False:=Zl hx;have hl':((d.procs.length:Int)=500)=True:=Zo (by omega);obtain⟨⟨hk,hi,hna,has⟩,bd⟩:=c;have hpn:PV.part deep (Cz.pv ⟨⟨hk,hi,hna,has⟩,bd⟩) 2 none=some (.str hna):=rfl;have hpa:PV.part deep (Cz.pv ⟨⟨hk,hi,hna,has⟩,bd⟩) 3 none=some (.sl (some 4) (Tm.pvs has)):=rfl;have ea:(Tm.mk hk hi hna has).args=has:=rfl;have en:(Tm.mk hk hi hna has).name=hna:=rfl;simp only[ea,en] at h3;simp -dsimp -implicitDefEqProofs only[hpn,hpa,Tm.pvs_len,g21,c21r0,c21r1,c21r2,c21k3,c21r4,c21r5,c21r6,c21k7,c21r8,c21r9,c21r10,c21k11,c21r12,c21r13,c21r14,c21r15,c21k16,c21r17,c21r18,c21r19,c21,go_sem,seval,↓reduceIte,Dbs.av,Cz.av,Yp,Ye,Prc.pvs_len,h1,h2,h3,h4,ht',hx',hl',hz0,hnil,z7 (Zd _)];exact⟨_,rfl⟩
def insC(fr:Bool)(s:Sto)(l:List Sto):List Sto:=if fr=true then s::l else l++[s]
theorem kT(fr:Bool)(s:Sto)(l:List Sto):(insC fr s l).length=l.length+1:=by
 unfold insC;split <;> simp
theorem insC_pvs(fr:Bool)(s:Sto)(l:List Sto):Sto.pvs (insC fr s l)=(Sto.pvs l).take (if fr=true then 0 else l.length)++s.pv::(Sto.pvs l).drop (if fr=true then 0 else l.length):=by
 unfold insC;split
 ·simp[Sto.pvs]
 ·have h1:(Sto.pvs l).take l.length=Sto.pvs l:=Zq (by rw[Sto.pvs_len];exact Ze _);have h2:(Sto.pvs l).drop l.length=[]:=List.drop_eq_nil_of_le (by rw[Sto.pvs_len];exact Ze _);rw[h1,h2];simp[Sto.pvs]
set_option maxRecDepth 20000 in
theorem Ml(d:Dbs)(hb:BndD d)(c:Cz)(z1:c.head.size<100000000)(z2:c.body.size<100000000)(fr dy:Bool)(hv:okD d=true)(hn:okC c=true)(ht:totD d.procs≠500)(hx:d.next≠4294967296)(hf:fnD d.procs (keyP c.head.name c.head.args.length)=true)(p:Prc)(i:Nat)(hi:i=lbD d.procs (keyP c.head.name c.head.args.length))(hpp:d.procs[i]? =some p)(hp:Heap):S 21 [d.av,c.av,.pv none (.bool fr),.pv none (.bool dy)] hp=some (.ret (.tuple [(⟨d.next+1,d.procs.set i ⟨p.name,p.ar,p.dyn,insC fr ⟨d.next,c⟩ p.cls⟩⟩:Dbs).av,.pv none (.int .i64 0)]),hp):=by
 refine Ya rfl rfl rfl (z9 [(some 2,d.pv),(some 8,c.pv),(none,.bool fr),(none,.bool dy)]) rfl ?_;have h1:=fun hp=>yx d hb.1 hb.2.1 hb.2.2 hp;have h2:=fun hp=>xK c z1 z2 hp;have h3:∀hp,S 50 [d.av,.pv none (.str c.head.name),.pv none (.int .i64 c.head.args.length)] hp=some (.ret (.tuple [.pv none (.int .i64 (lbD d.procs (keyP c.head.name c.head.args.length):Int)),.pv none (.bool (fnD d.procs (keyP c.head.name c.head.args.length)))]),hp):=fun hp=>XL d _ _ hb.1 (XM hv) hp;have hl5:1<=d.next/\d.next<=4294967296/\d.procs.length<=500/\totD d.procs<=500:=by
  simp only[okD,Zg,Zw] at hv;exact⟨hv.1,hv.2.1,hv.2.2.1,hv.2.2.2.1⟩
 have h4:=fun hp=>Qp d (by omega) (by omega) hp;have h6:∀x0 x1 x2:AObj,S 51 [d.av] [x0,x1,x2]=some (.ret (dA d 5),x0::x1::x2::.box (some 2) (dA d 5)::.box (some 2) (dA d 5)::.arv (some 4) (elsA d.procs 11 d.procs.length)::cEs d.procs 11):=fun x0 x1 x2=>Q7 d (by omega) (fun q hq=>⟨by have:=ye hq;omega,yX hv q hq⟩) [x0,x1,x2];have hnil:∀H:Heap,Yb A3 H=(A3,H):=fun _=>rfl;have hst:∀(x0 x1:AObj) (v:AV) (X:Heap),z8 (some 2) 0 (x0::x1::.box (some 2) v::X) [.ptr 2 0,dA d 5]=some (.undef,x0::x1::.box (some 2) (dA d 5)::X):=fun x0 x1 v X=>by
  simp[z8,astore,dA,AV.plain,AV.shp,AV.own,Yb,YQ,total,Sh.size]
 obtain⟨vh,vb⟩:=Q6 hn;have h7:=fun hp=>ju ⟨d.next,c⟩ vh vb hp;have hbs:Yi A4 [0,1] [.pv none (.int .i64 d.next),.pv (some 8) c.pv]=some (.pv (some 9) (Sto.mk d.next c).pv):=rfl;rw[hf,<-hi] at h3;simp only[Dbs.av] at h1 h3 h4 h6;simp only[Cz.av] at h2;simp only[Sto.av] at h7;rw[hv] at h1;rw[hn] at h2;have ht':((totD d.procs:Int)=500)=False:=Zl (by omega);have hx':(d.next=4294967296)=False:=Zl hx;have hpm:=Zi hpp;have hc5:p.cls.length<=500:=by have:=ye hpm;omega
 have hil:=(Zb.1 hpp).1;have hge:=XB (b:=11) hpp;have hpt:AV.part deep (dA d 5) 1 none=some (.slv (some 4) 5 d.procs.length 0 d.procs.length):=rfl;have hpt0:AV.part deep (dA d 5) 0 none=some (.pv none (.int .i64 d.next)):=rfl;have hia:Yl (some 4) [.slv (some 4) 5 d.procs.length 0 d.procs.length,.pv none (.int .i64 i)]=some (.epv (some 4) 5 d.procs.length i 0):=by
  simp[Yl,aindex,hil]
 have hfa:yz 3 [.epv (some 4) 5 d.procs.length i 0]=some (.epv (some 4) 5 d.procs.length i 3):=rfl;have hnc:xr [.epv (some 4) 5 d.procs.length i 0]=some (.epv (some 4) 5 d.procs.length i 0):=rfl;obtain⟨q,hq⟩:∃q,q=11+6*i:=⟨_,rfl⟩;rw[<-hq] at hge;have hld:∀(x0 x1 x2 x3 x4:AObj) (X:Heap),aload none (x0::x1::x2::x3::x4::.arv (some 4) (elsA d.procs 11 d.procs.length)::X) (.epv (some 4) 5 d.procs.length i 3)=some (.sl (some 9) q p.cls.length 0 p.cls.length):=fun x0 x1 x2 x3 x4 X=>by
  have e:AV.part deep (pA p q) 3 none=some (.sl (some 9) q p.cls.length 0 p.cls.length):=rfl;simp[aload,YV,hge,e]
 obtain⟨ns,hns⟩:∃ns,ns=insC fr ⟨d.next,c⟩ p.cls:=⟨_,rfl⟩;have hnl:ns.length=p.cls.length+1:=by rw[hns,kT]
 have hnp:=insC_pvs fr ⟨d.next,c⟩ p.cls;rw[<-hns] at hnp ⊢;obtain⟨E,hE⟩:∃E,E=(cEs d.procs 11).set (6*i+5) (.arr (some 9) (Sto.pvs ns) false):=⟨_,rfl⟩;have hcg:=xm d.procs 11 i p hpp;have h5:∀(a:Int),a=((if fr=true then 0 else p.cls.length:Nat):Int)->∀(x0 x1 x2 x3 x4 x5:AObj),S 53 [.sl (some 9) q p.cls.length 0 p.cls.length,.pv none (.int .i64 a),.tsl (some 9) [(Sto.mk d.next c).pv]] (x0::x1::x2::x3::x4::x5::cEs d.procs 11)=some (.ret (.sl (some 9) q (p.cls.length+1) 0 (p.cls.length+1)),x0::x1::x2::x3::x4::x5::E):=fun a ha x0 x1 x2 x3 x4 x5=>by
  rw[ha];have:=Mh (x0::x1::x2::x3::x4::x5::cEs d.procs 11) q (Sto.pvs p.cls) (if fr=true then 0 else p.cls.length) p.cls.length (Sto.mk d.next c).pv (by split <;> omega) (Sto.pvs_len _) hc5 (by
   rw[hq,show 11+6*i=(6*i+5)+1+1+1+1+1+1 by omega];simp only[ZR];exact hcg)
  rw[this,hE,hnp,hq,show 11+6*i=(6*i+5)+1+1+1+1+1+1 by omega];rfl
 obtain⟨pN,hpN⟩:∃pN:AV,pN=.agg [(none,.pv none (.str p.name)),(none,.pv none (.int .i64 p.ar)),(none,.pv none (.bool p.dyn)),(none,.sl (some 9) q (p.cls.length+1) 0 (p.cls.length+1))]:=⟨_,rfl⟩;have hse:∀(x0 x1 x2 x3 x4:AObj) (X:Heap),z8 none 0 (x0::x1::x2::x3::x4::.arv (some 4) (elsA d.procs 11 d.procs.length)::X) [.epv (some 4) 5 d.procs.length i 3,.sl (some 9) q (p.cls.length+1) 0 (p.cls.length+1)]=some (.undef,x0::x1::x2::x3::x4::.arv (some 4) ((elsA d.procs 11 d.procs.length).set i pN)::X):=fun x0 x1 x2 x3 x4 X=>by
  have e:AV.upd deep (pA p q) 3 none (.sl (some 9) q (p.cls.length+1) 0 (p.cls.length+1))=some pN:=by rw[hpN];rfl
  simp[z8,astore,YV,hge,e,AV.plain,AV.shp]
 obtain⟨dN,hdN⟩:∃dN:AV,dN=.agg [(none,.pv none (.int .i64 (d.next+1))),(none,.slv (some 4) 5 d.procs.length 0 d.procs.length)]:=⟨_,rfl⟩;have hw1:IntKind.i64.wrap (d.next+1)=d.next+1:=by
  rw[Yf (by omega) (by omega)]
 have hsf:∀(x0 x1:AObj) (X:Heap),z8 none 0 (x0::x1::.box (some 2) (dA d 5)::X) [.ptr 2 0,.pv none (.int .i64 (d.next+1))]=some (.undef,x0::x1::.box (some 2) dN::X):=fun x0 x1 X=>by
  have e:AV.upd deep (dA d 5) 0 none (.pv none (.int .i64 (d.next+1)))=some dN:=by rw[hdN];rfl
  simp[z8,astore,e,AV.plain,AV.shp,AV.own]
 have hs2:∀(x0 x1:AObj) (X:Heap),z8 (some 2) 0 (x0::x1::.box (some 2) dN::X) [.ptr 2 0,dN]=some (.undef,x0::x1::.box (some 2) dN::X):=fun x0 x1 X=>by
  rw[hdN];simp[z8,astore,AV.plain,AV.shp,AV.own,Yb,YQ,total,Sh.size]
 have hr:∀(x0 x1:AObj) (X:Heap),YL ⟨[(8,.ptr 2 0),(9,.pv none (.int .i64 0))],x0::x1::.box (some 2) dN::X⟩ (8,some (some 2))=some dN:=fun x0 x1 X=>by
  simp[YL,Fr.look,aload]
 have fin:∀(x0 x1 x2 x3 x4:AObj),DbA ⟨d.next+1,d.procs.set i ⟨p.name,p.ar,p.dyn,ns⟩⟩ dN (x0::x1::x2::x3::x4::.arv (some 4) ((elsA d.procs 11 d.procs.length).set i pN)::E):=fun x0 x1 x2 x3 x4=>by
  refine⟨5,d.procs.length,_,d.procs.set i ⟨p.name,p.ar,p.dyn,ns⟩,?_,rfl,by rw[zf,YV],by simp,by simp,by simp[Zq],fun j r v hr hv2=> ?_⟩
  ·rw[hdN];simp
  ·by_cases hji:i=j
   ·subst hji;rw[Zr hil] at hr;cases hr;rw[Zr (by rw[YV];exact hil)] at hv2;cases hv2;rw[hpN];refine .inr ⟨.sl (some 9) q (p.cls.length+1) 0 (p.cls.length+1),rfl,.inr ⟨q,p.cls.length+1,Sto.pvs ns,false,by rw[hnl],?_,by rw[Sto.pvs_len,hnl],by rw[hnl];omega,Zq (by rw[Sto.pvs_len];exact Ze _)⟩⟩;rw[hq,show 11+6*i=(6*i+5)+1+1+1+1+1+1 by omega];simp only[ZR];rw[hE,Zr (Zb.1 hcg).1]
   ·rw[Zk hji] at hr hv2;rw[XB hr] at hv2;cases hv2;refine .inr ⟨_,rfl,.inr ⟨11+6*j,r.cls.length,Sto.pvs r.cls,false,rfl,?_,Sto.pvs_len _,Ze _,Zq (by rw[Sto.pvs_len];exact Ze _)⟩⟩;rw[show 11+6*j=(6*j+5)+1+1+1+1+1+1 by omega];simp only[ZR];rw[hE,Zk (by omega)];exact xm _ _ _ _ hr
 have hfr:∀(d':Dbs) (H:Heap),DbA d' dN H->Am.frozen (.tuple [d'.av,.pv none (.int .i64 0)]) (.tuple [dN,.pv none (.int .i64 0)]) H:=fun d' H hD=>by
  obtain⟨H',hz⟩:=hD.frz;have e3:∀X,AV.freeze deep (.pv none (.int .i64 0)) X=some (.int .i64 0,X):=fun _=>rfl;have hsh:dN.shp=some 2:=by rw[hdN];rfl
  refine⟨H',?_⟩;simp only[AV.freezeRes,Yn,hz,e3,hsh];rfl
 clear hnp hns hE hpN;obtain⟨⟨hk,hi',hna,has⟩,bd⟩:=c;have hpn:PV.part deep (Cz.pv ⟨⟨hk,hi',hna,has⟩,bd⟩) 2 none=some (.str hna):=rfl;have hpa:PV.part deep (Cz.pv ⟨⟨hk,hi',hna,has⟩,bd⟩) 3 none=some (.sl (some 4) (Tm.pvs has)):=rfl;have ea:(Tm.mk hk hi' hna has).args=has:=rfl;have en:(Tm.mk hk hi' hna has).name=hna:=rfl;simp only[ea,en] at h3;cases fr with
 |true=>
  have h8:=h5 0 rfl;simp -dsimp -implicitDefEqProofs only[hpn,hpa,Tm.pvs_len,g21,c21r0,c21r1,c21r2,c21k3,c21r4,c21r5,c21r6,c21k7,c21r8,c21r9,c21r10,c21k11,c21r12,c21r13,c21r14,c21r15,c21k16,c21r17,c21r18,c21r19,c21,go_sem,seval,↓reduceIte,Dbs.av,Cz.av,Yp,Ye,Prc.pvs_len,h1,h2,h3,h4,h6,h7,h8,hbs,ht',hx',hnil,hst,hpt,hpt0,hia,hfa,hnc,hld,hse,hw1,hsf,hs2,hr];have hF:=hfr _ _ (fin (.box (some 2) (.pv (some 2) d.pv)) (.box (some 8) (.pv (some 8) (Cz.pv ⟨⟨hk,hi',hna,has⟩,bd⟩))) (.box (some 2) dN) (.box (some 2) (dA d 5)) (.box (some 2) (dA d 5)));simp only[yr,Dbs.av] at hF;exact hF
 |false=>
  have h8:=h5 p.cls.length rfl;simp -dsimp -implicitDefEqProofs only[hpn,hpa,Tm.pvs_len,g21,c21r0,c21r1,c21r2,c21k3,c21r4,c21r5,c21r6,c21k7,c21r8,c21r9,c21r10,c21k11,c21r12,c21r13,c21r14,c21r15,c21k16,c21r17,c21r18,c21r19,c21,go_sem,seval,↓reduceIte,Dbs.av,Cz.av,Yp,Ye,Prc.pvs_len,h1,h2,h3,h4,h6,h7,h8,hbs,ht',hx',hnil,hst,hpt,hpt0,hia,hfa,hnc,hld,hse,hw1,hsf,hs2,hr];have hF:=hfr _ _ (fin (.box (some 2) (.pv (some 2) d.pv)) (.box (some 8) (.pv (some 8) (Cz.pv ⟨⟨hk,hi',hna,has⟩,bd⟩))) (.box (some 2) dN) (.box (some 2) (dA d 5)) (.box (some 2) (dA d 5)));simp only[yr,Dbs.av] at hF;exact hF
set_option maxRecDepth 20000 in
theorem Mm(d:Dbs)(hb:BndD d)(c:Cz)(z1:c.head.size<100000000)(z2:c.body.size<100000000)(fr dy:Bool)(hv:okD d=true)(hn:okC c=true)(ht:totD d.procs≠500)(hx:d.next≠4294967296)(hl:d.procs.length≠500)(s:List UInt8)(a:Int)(hs:s=c.head.name)(ha:a=c.head.args.length)(hf:fnD d.procs (keyP s a)=false)(i:Nat)(hi:i=lbD d.procs (keyP s a))(hp:Heap):S 21 [d.av,c.av,.pv none (.bool fr),.pv none (.bool dy)] hp=some (.ret (.tuple [(⟨d.next+1,d.procs.take i++(⟨s,a,dy,[⟨d.next,c⟩]⟩:Prc)::d.procs.drop i⟩:Dbs).av,.pv none (.int .i64 0)]),hp):=by
 refine Ya rfl rfl rfl (z9 [(some 2,d.pv),(some 8,c.pv),(none,.bool fr),(none,.bool dy)]) rfl ?_;have h1:=fun hp=>yx d hb.1 hb.2.1 hb.2.2 hp;have h2:=fun hp=>xK c z1 z2 hp;have h3:∀hp,S 50 [d.av,.pv none (.str s),.pv none (.int .i64 a)] hp=some (.ret (.tuple [.pv none (.int .i64 (lbD d.procs (keyP s a):Int)),.pv none (.bool (fnD d.procs (keyP s a)))]),hp):=fun hp=>XL d s a hb.1 (XM hv) hp;have hl5:1<=d.next/\d.next<=4294967296/\d.procs.length<=500/\totD d.procs<=500:=by
  simp only[okD,Zg,Zw] at hv;exact⟨hv.1,hv.2.1,hv.2.2.1,hv.2.2.2.1⟩
 have h4:=fun hp=>Qp d (by omega) (by omega) hp;have h6:∀x0 x1 x2:AObj,S 51 [d.av] [x0,x1,x2]=some (.ret (dA d 5),x0::x1::x2::.box (some 2) (dA d 5)::.box (some 2) (dA d 5)::.arv (some 4) (elsA d.procs 11 d.procs.length)::cEs d.procs 11):=fun x0 x1 x2=>Q7 d (by omega) (fun q hq=>⟨by have:=ye hq;omega,yX hv q hq⟩) [x0,x1,x2];have hnil:∀H:Heap,Yb A3 H=(A3,H):=fun _=>rfl;have hst:∀(x0 x1:AObj) (v:AV) (X:Heap),z8 (some 2) 0 (x0::x1::.box (some 2) v::X) [.ptr 2 0,dA d 5]=some (.undef,x0::x1::.box (some 2) (dA d 5)::X):=fun x0 x1 v X=>by
  simp[z8,astore,dA,AV.plain,AV.shp,AV.own,Yb,YQ,total,Sh.size]
 obtain⟨vh,vb⟩:=Q6 hn;have h7:=fun hp=>ju ⟨d.next,c⟩ vh vb hp;have hbs:Yi A4 [0,1] [.pv none (.int .i64 d.next),.pv (some 8) c.pv]=some (.pv (some 9) (Sto.mk d.next c).pv):=rfl;rw[hf,<-hi] at h3;simp only[Dbs.av] at h1 h3 h4 h6;simp only[Cz.av] at h2;simp only[Sto.av] at h7;rw[hv] at h1;rw[hn] at h2;have ht':((totD d.procs:Int)=500)=False:=Zl (by omega);have hx':(d.next=4294967296)=False:=Zl hx;have hl':((d.procs.length:Int)=500)=False:=Zl (by omega);have hpt:AV.part deep (dA d 5) 1 none=some (.slv (some 4) 5 d.procs.length 0 d.procs.length):=rfl;have hil:i<=d.procs.length:=by rw[hi];exact xL _ _
 obtain⟨nv,hnv⟩:∃nv:AV->AV,nv=fun sv=>.agg [(none,.pv none (.str s)),(none,.pv none (.int .i64 a)),(none,.pv none (.bool dy)),(none,sv)]:=⟨_,rfl⟩;have hbu:Yi A2 [0,1,2] [.pv none (.str s),.pv none (.int .i64 a),.pv none (.bool dy)]=some (nv (.tsl (some 9) [])):=by rw[hnv];rfl
 obtain⟨el,hel⟩:∃el:AV->List AV,el=fun v=>(elsA d.procs 11 d.procs.length).take i++v::(elsA d.procs 11 d.procs.length).drop i:=⟨_,rfl⟩;have hell:∀v,(el v).length=d.procs.length+1:=fun v=>by rw[hel];simp[YV];omega
 have hli:((elsA d.procs 11 d.procs.length).take i).length=i:=by rw[Zh,YV];omega
 have heli:∀v,(el v)[i]? =some v:=fun v=>by
  rw[hel];show(_++_)[i]? =_;rw[Zp (by omega),hli,ZX];rfl
 have hels:∀v v',(el v).set i v'=el v':=fun v v'=>by
  rw[hel];show List.set (_++_) i v'=_;rw[zu _ _ (by omega),hli,ZX];rfl
 obtain⟨m,hm⟩:∃m,m=(cEs d.procs 11).length+6:=⟨_,rfl⟩;have xn:∀{vs:List AV} {H:Heap} {K:AV->Heap->Prop} {Kp:PV->Heap->Prop},opK (aOp (sem (find tab) prim) 0 (.bslov (some 4)) vs H) K Kp=YD (YW (some 4) H vs) K:=fun{vs H K Kp}=>by
  show opK (match YW (some 4) H vs with|some (v,hp')=>some (OpRes.val v hp')|none=>none) K Kp=_;cases YW (some 4) H vs with
  |none=>rfl
  |some r=>cases r;rfl
 have hbv:∀x0 x1 x2 x3 x4 x5:AObj,YW (some 4) (x0::x1::x2::x3::x4::x5::cEs d.procs 11) [nv (.tsl (some 9) [])]=some (.slv (some 4) m 1 0 1,x0::x1::x2::x3::x4::x5::(cEs d.procs 11++[.arv (some 4) [nv (.tsl (some 9) [])]])):=fun x0 x1 x2 x3 x4 x5=>by
  have e1:(nv (.tsl (some 9) [])).plain=true:=by rw[hnv];rfl
  have e2:(nv (.tsl (some 9) [])).shp=some 4:=by rw[hnv];rfl
  simp[YW,e1,e2,XA,hm]
 have hpr:∀x0 x1 x2 x3 x4:AObj,S 52 [.slv (some 4) 5 d.procs.length 0 d.procs.length,.pv none (.int .i64 i),.slv (some 4) m 1 0 1] (x0::x1::x2::x3::x4::.arv (some 4) (elsA d.procs 11 d.procs.length)::(cEs d.procs 11++[.arv (some 4) [nv (.tsl (some 9) [])]]))=some (.ret (.slv (some 4) 5 (d.procs.length+1) 0 (d.procs.length+1)),x0::x1::x2::x3::x4::.arv (some 4) (el (nv (.tsl (some 9) [])))::(cEs d.procs 11++[.arv (some 4) [nv (.tsl (some 9) [])]])):=fun x0 x1 x2 x3 x4=>by
  rw[S,jj (F:=find tab) (prim:=prim) (p:=xG (some 4)) rfl];have hg:(x0::x1::x2::x3::x4::AObj.arv (some 4) (elsA d.procs 11 d.procs.length)::(cEs d.procs 11++[.arv (some 4) [nv (.tsl (some 9) [])]]))[m]? =some (.arv (some 4) [nv (.tsl (some 9) [])]):=by
   rw[hm];show(cEs d.procs 11++[.arv (some 4) [nv (.tsl (some 9) [])]])[(cEs d.procs 11).length]? =_;simp
  have hne:5≠m:=by omega
  have hrf:∀n,yZ n 5 (elsA d.procs 11 d.procs.length) [nv (.tsl (some 9) [])]=true:=fun n=>by
   rw[hnv];simp[yZ,AV.refsIn.gol,AV.refsIn,AV.refsIn.go]
  have hlm:d.procs.length+1<=lim:=by unfold lim;omega
  have hii:(i:Int)<=(d.procs.length:Int):=by omega
  rw[hel];simp[xG,hg,YV,hne,hrf,hlm,hii]
 have hcn:∀(x0 x1 x2 x3 x4 x5:AObj),S 53 [.tsl (some 9) [],.pv none (.int .i64 0),.tsl (some 9) [(Sto.mk d.next c).pv]] (x0::x1::x2::x3::x4::x5::(cEs d.procs 11++[.arv (some 4) [nv (.tsl (some 9) [])]]))=some (.ret (.sl (some 9) (m+1) 1 0 1),x0::x1::x2::x3::x4::x5::(cEs d.procs 11++[.arv (some 4) [nv (.tsl (some 9) [])],.arr (some 9) [(Sto.mk d.next c).pv] false])):=fun x0 x1 x2 x3 x4 x5=>by
  rw[Mi];have e:(x0::x1::x2::x3::x4::x5::(cEs d.procs 11++[AObj.arv (some 4) [nv (.tsl (some 9) [])]])).length=m+1:=by
   simp[hm]
  rw[e];simp
 obtain⟨d0,hd0⟩:∃d0:AV,d0=.agg [(none,.pv none (.int .i64 d.next)),(none,.slv (some 4) 5 (d.procs.length+1) 0 (d.procs.length+1))]:=⟨_,rfl⟩;obtain⟨dN,hdN⟩:∃dN:AV,dN=.agg [(none,.pv none (.int .i64 (d.next+1))),(none,.slv (some 4) 5 (d.procs.length+1) 0 (d.procs.length+1))]:=⟨_,rfl⟩;have hsf:∀(x0 x1:AObj) (X:Heap),z8 none 0 (x0::x1::.box (some 2) (dA d 5)::X) [.ptr 2 1,.slv (some 4) 5 (d.procs.length+1) 0 (d.procs.length+1)]=some (.undef,x0::x1::.box (some 2) d0::X):=fun x0 x1 X=>by
  have e:AV.upd deep (dA d 5) 1 none (.slv (some 4) 5 (d.procs.length+1) 0 (d.procs.length+1))=some d0:=by rw[hd0];rfl
  simp[z8,astore,e,AV.plain,AV.shp,AV.own]
 have hpt1:AV.part deep d0 1 none=some (.slv (some 4) 5 (d.procs.length+1) 0 (d.procs.length+1)):=by rw[hd0];rfl
 have hpt0:AV.part deep d0 0 none=some (.pv none (.int .i64 d.next)):=by rw[hd0];rfl
 have hia:Yl (some 4) [.slv (some 4) 5 (d.procs.length+1) 0 (d.procs.length+1),.pv none (.int .i64 i)]=some (.epv (some 4) 5 (d.procs.length+1) i 0):=by
  have:(i:Int)<(d.procs.length:Int)+1:=by omega
  simp[Yl,aindex,this]
 have hfa:yz 3 [.epv (some 4) 5 (d.procs.length+1) i 0]=some (.epv (some 4) 5 (d.procs.length+1) i 3):=rfl;have hnc:xr [.epv (some 4) 5 (d.procs.length+1) i 0]=some (.epv (some 4) 5 (d.procs.length+1) i 0):=rfl;have hld:∀(x0 x1 x2 x3 x4:AObj) (X:Heap),aload none (x0::x1::x2::x3::x4::.arv (some 4) (el (nv (.tsl (some 9) [])))::X) (.epv (some 4) 5 (d.procs.length+1) i 3)=some (.tsl (some 9) []):=fun x0 x1 x2 x3 x4 X=>by
  have e:AV.part deep (nv (.tsl (some 9) [])) 3 none=some (.tsl (some 9) []):=by rw[hnv];rfl
  simp[aload,hell,heli,e]
 have hse:∀(x0 x1 x2 x3 x4:AObj) (X:Heap),z8 none 0 (x0::x1::x2::x3::x4::.arv (some 4) (el (nv (.tsl (some 9) [])))::X) [.epv (some 4) 5 (d.procs.length+1) i 3,.sl (some 9) (m+1) 1 0 1]=some (.undef,x0::x1::x2::x3::x4::.arv (some 4) (el (nv (.sl (some 9) (m+1) 1 0 1)))::X):=fun x0 x1 x2 x3 x4 X=>by
  have e:AV.upd deep (nv (.tsl (some 9) [])) 3 none (.sl (some 9) (m+1) 1 0 1)=some (nv (.sl (some 9) (m+1) 1 0 1)):=by rw[hnv];rfl
  simp[z8,astore,hell,heli,e,hels,AV.plain,AV.shp]
 have hw1:IntKind.i64.wrap (d.next+1)=d.next+1:=by
  rw[Yf (by omega) (by omega)]
 have hsg:∀(x0 x1:AObj) (X:Heap),z8 none 0 (x0::x1::.box (some 2) d0::X) [.ptr 2 0,.pv none (.int .i64 (d.next+1))]=some (.undef,x0::x1::.box (some 2) dN::X):=fun x0 x1 X=>by
  have e:AV.upd deep d0 0 none (.pv none (.int .i64 (d.next+1)))=some dN:=by rw[hdN,hd0];rfl
  simp[z8,astore,e,AV.plain,AV.shp,AV.own]
 have hs2:∀(x0 x1:AObj) (X:Heap),z8 (some 2) 0 (x0::x1::.box (some 2) dN::X) [.ptr 2 0,dN]=some (.undef,x0::x1::.box (some 2) dN::X):=fun x0 x1 X=>by
  rw[hdN];simp[z8,astore,AV.plain,AV.shp,AV.own,Yb,YQ,total,Sh.size]
 have hr:∀(x0 x1:AObj) (X:Heap),YL ⟨[(8,.ptr 2 0),(9,.pv none (.int .i64 0))],x0::x1::.box (some 2) dN::X⟩ (8,some (some 2))=some dN:=fun x0 x1 X=>by
  simp[YL,Fr.look,aload]
 have fin:∀(x0 x1 x2 x3 x4:AObj),DbA ⟨d.next+1,d.procs.take i++(⟨s,a,dy,[⟨d.next,c⟩]⟩:Prc)::d.procs.drop i⟩ dN (x0::x1::x2::x3::x4::.arv (some 4) (el (nv (.sl (some 9) (m+1) 1 0 1)))::(cEs d.procs 11++[.arv (some 4) [nv (.tsl (some 9) [])],.arr (some 9) [(Sto.mk d.next c).pv] false])):=fun x0 x1 x2 x3 x4=>by
  have hpl:(d.procs.take i++(⟨s,a,dy,[⟨d.next,c⟩]⟩:Prc)::d.procs.drop i).length=d.procs.length+1:=by simp;omega
  refine⟨5,d.procs.length+1,el (nv (.sl (some 9) (m+1) 1 0 1)),d.procs.take i++(⟨s,a,dy,[⟨d.next,c⟩]⟩:Prc)::d.procs.drop i,?_,rfl,hell _,by rw[hpl];omega,hpl,ZP,fun j q v hq hv2=> ?_⟩
  ·rw[hdN,hpl]
  ·have hE:∀(k:Nat) (x:Prc),d.procs[k]? =some x->ElP x (pA x (11+6*k)) (x0::x1::x2::x3::x4::AObj.arv (some 4) (el (nv (.sl (some 9) (m+1) 1 0 1)))::(cEs d.procs 11++[.arv (some 4) [nv (.tsl (some 9) [])],.arr (some 9) [(Sto.mk d.next c).pv] false])):=fun k x hx=>by
    refine .inr ⟨_,rfl,.inr ⟨11+6*k,x.cls.length,Sto.pvs x.cls,false,rfl,?_,Sto.pvs_len _,Ze _,Zq (by rw[Sto.pvs_len];exact Ze _)⟩⟩;rw[show 11+6*k=(6*k+5)+1+1+1+1+1+1 by omega];simp only[ZR];have hg:=xm d.procs 11 k x hx;rw[Zn (Zb.1 hg).1,hg]
   have hlp:(d.procs.take i).length=i:=by rw[Zh];omega
   have hv3:((elsA d.procs 11 d.procs.length).take i++nv (.sl (some 9) (m+1) 1 0 1)::(elsA d.procs 11 d.procs.length).drop i)[j]? =some v:=by
    rw[hel] at hv2;exact hv2
   rcases zK j i with k|k|k
   ·rw[Zn (by omega),ZG,Zc k] at hq hv3;rw[XB hq] at hv3;cases hv3;exact hE j q hq
   ·subst k;rw[Zp (by omega),hlp,ZX] at hq;rw[Zp (by omega),hli,ZX] at hv3;cases hq;cases hv3;rw[hnv];refine .inr ⟨.sl (some 9) (m+1) 1 0 1,rfl,.inr ⟨m+1,1,[(Sto.mk d.next c).pv],false,rfl,?_,rfl,Ze _,rfl⟩⟩;rw[hm,show(cEs d.procs 11).length+6+1=((cEs d.procs 11).length+1)+1+1+1+1+1+1 by omega];simp only[ZR];rw[Zp (by omega),ZW];rfl
   ·rw[Zp (by omega),hlp,show j - i=(j - i - 1)+1 by omega,ZR,ZI] at hq;rw[Zp (by omega),hli,show j - i=(j - i - 1)+1 by omega,ZR,ZI] at hv3;rw[XB hq] at hv3;cases hv3;exact hE _ q hq
 have hfr:∀(d':Dbs) (H:Heap),DbA d' dN H->Am.frozen (.tuple [d'.av,.pv none (.int .i64 0)]) (.tuple [dN,.pv none (.int .i64 0)]) H:=fun d' H hD=>by
  obtain⟨H',hz⟩:=hD.frz;have e3:∀X,AV.freeze deep (.pv none (.int .i64 0)) X=some (.int .i64 0,X):=fun _=>rfl;have hsh:dN.shp=some 2:=by rw[hdN];rfl
  refine⟨H',?_⟩;simp only[AV.freezeRes,Yn,hz,e3,hsh];rfl
 clear hm;obtain⟨⟨hk,hi',hna,has⟩,bd⟩:=c;have hpn:PV.part deep (Cz.pv ⟨⟨hk,hi',hna,has⟩,bd⟩) 2 none=some (.str hna):=rfl;have hpa:PV.part deep (Cz.pv ⟨⟨hk,hi',hna,has⟩,bd⟩) 3 none=some (.sl (some 4) (Tm.pvs has)):=rfl;have ea:(Tm.mk hk hi' hna has).args=has:=rfl;have en:(Tm.mk hk hi' hna has).name=hna:=rfl;rw[en] at hs;rw[ea] at ha;subst hs;subst ha;have hz:((([]:List PV).length:Nat):Int)=0:=rfl;cases fr with
 |true=>
  simp -dsimp -implicitDefEqProofs only[hpn,hpa,Tm.pvs_len,g21,c21r0,c21r1,c21r2,c21k3,c21r4,c21r5,c21r6,c21k7,c21r8,c21r9,c21r10,c21k11,c21r12,c21r13,c21r14,c21r15,c21k16,c21r17,c21r18,c21r19,c21,go_sem,seval,↓reduceIte,Dbs.av,Cz.av,Yp,Ye,Prc.pvs_len,h1,h2,h3,h4,h6,h7,hbs,ht',hx',hl',hnil,hst,hpt,hpt0,hpt1,hbu,xn,hbv,hpr,hsf,hia,hfa,hnc,hld,hz,hcn,hse,hw1,hsg,hs2,hr];have hF:=hfr _ _ (fin (.box (some 2) (.pv (some 2) d.pv)) (.box (some 8) (.pv (some 8) (Cz.pv ⟨⟨hk,hi',s,has⟩,bd⟩))) (.box (some 2) dN) (.box (some 2) (dA d 5)) (.box (some 2) (dA d 5)));simp only[yr,Dbs.av] at hF;exact hF
 |false=>
  simp -dsimp -implicitDefEqProofs only[hpn,hpa,Tm.pvs_len,g21,c21r0,c21r1,c21r2,c21k3,c21r4,c21r5,c21r6,c21k7,c21r8,c21r9,c21r10,c21k11,c21r12,c21r13,c21r14,c21r15,c21k16,c21r17,c21r18,c21r19,c21,go_sem,seval,↓reduceIte,Dbs.av,Cz.av,Yp,Ye,Prc.pvs_len,h1,h2,h3,h4,h6,h7,hbs,ht',hx',hl',hnil,hst,hpt,hpt0,hpt1,hbu,xn,hbv,hpr,hsf,hia,hfa,hnc,hld,hz,hcn,hse,hw1,hsg,hs2,hr];have hF:=hfr _ _ (fin (.box (some 2) (.pv (some 2) d.pv)) (.box (some 8) (.pv (some 8) (Cz.pv ⟨⟨hk,hi',s,has⟩,bd⟩))) (.box (some 2) dN) (.box (some 2) (dA d 5)) (.box (some 2) (dA d 5)));simp only[yr,Dbs.av] at hF;exact hF
end Go.Proofs.YtligpohiokpnhaaGreat
