/- The reference's CloneDb. -/
import Derived.Test.YtligpohiokpnhaaGreatRd3
set_option linter.unusedSimpArgs false
set_option linter.unusedVariables false
namespace Go.Proofs.YtligpohiokpnhaaGreat
open Go.Am
theorem Jc{Γ:Oracle}{b:Nat}{vs:List AV}{hp:Heap}{K:AV->Heap->Prop}{Kp:PV->Heap->Prop}(sh:Sh)(n:Nat):opK (aOp Γ b (.bslovn sh n) vs hp) K Kp=YD (YW sh hp (vs.drop n)) (fun v hp'=>(vs.take n).all (Yr hp hp')=true/\K v hp'):=by
 show opK (match YW sh hp (vs.drop n) with|some (v,hp')=>if(vs.take n).all (Yr hp hp')=true then some (OpRes.val v hp') else none|none=>none) K Kp=_;cases h:YW sh hp (vs.drop n) with
 |none=>rfl
 |some r=>
  obtain⟨v,hp'⟩:=r;show opK (if(vs.take n).all (Yr hp hp')=true then some (OpRes.val v hp') else none) K Kp=((vs.take n).all (Yr hp hp')=true/\K v hp');by_cases c:(vs.take n).all (Yr hp hp')=true
  ·rw[Zc c];exact propext ⟨fun h=>⟨c,h⟩,fun h=>h.2⟩
  ·rw[Za c];exact propext ⟨fun h=>h.elim,fun h=>absurd h.1 c⟩
theorem jA{Γ:Oracle}{b:Nat}{vs:List AV}{hp:Heap}{K:AV->Heap->Prop}{Kp:PV->Heap->Prop}(sh:Sh)(n:Nat):opK (aOp Γ b (.appendn sh n) vs hp) K Kp=YD (YC sh hp (vs.drop n)) (fun v hp'=>(vs.take n).all (Yr hp hp')=true/\K v hp'):=by
 show opK (match YC sh hp (vs.drop n) with|some (v,hp')=>if(vs.take n).all (Yr hp hp')=true then some (OpRes.val v hp') else none|none=>none) K Kp=_;cases h:YC sh hp (vs.drop n) with
 |none=>rfl
 |some r=>
  obtain⟨v,hp'⟩:=r;show opK (if(vs.take n).all (Yr hp hp')=true then some (OpRes.val v hp') else none) K Kp=((vs.take n).all (Yr hp hp')=true/\K v hp');by_cases c:(vs.take n).all (Yr hp hp')=true
  ·rw[Zc c];exact propext ⟨fun h=>⟨c,h⟩,fun h=>h.2⟩
  ·rw[Za c];exact propext ⟨fun h=>h.elim,fun h=>absurd h.1 c⟩
def Fa(H H':Heap):Prop:=∀(k:Nat) (s:Sh) (es:List PV) (z:Bool),H[k]? =some (AObj.arr s es z)->∃z':Bool,H'[k]? =some (AObj.arr s es z')
theorem Fa.refl(H:Heap):Fa H H:=fun _ _ _ z h=>⟨z,h⟩
theorem Fa.trans{A B C:Heap}(h1:Fa A B)(h2:Fa B C):Fa A C:=fun k s es z h=>by
 obtain⟨z',h'⟩:=h1 k s es z h;exact h2 k s es z' h'
theorem Fa.app(H X:Heap):Fa H (H++X):=fun k s es z h=>⟨z,by rw[Zn (Zb.1 h).1,h]⟩
theorem Fa.set{H:Heap}{q:Nat}{o:AObj}(h:∀s es z,H[q]?≠some (AObj.arr s es z)):Fa H (H.set q o):=fun k s es z hk=>by
 by_cases e:q=k
 ·subst e;exact absurd hk (h s es z)
 ·exact⟨z,by rw[Zk e,hk]⟩
theorem SvP.fa{sv:AV}{l:List Sto}{H H':Heap}(h:SvP sv l H)(f:Fa H H'):SvP sv l H':=by
 rcases h with h|⟨q,ver,es,z,h1,h2,h3⟩
 ·exact .inl h
 ·obtain⟨z',h'⟩:=f q _ _ _ h2;exact .inr ⟨q,ver,es,z',h1,h',h3⟩
theorem ElP.fa{p:Prc}{v:AV}{H H':Heap}(h:ElP p v H)(f:Fa H H'):ElP p v H':=by
 rcases h with h|⟨sv,h1,h2⟩
 ·exact .inl h
 ·exact .inr ⟨sv,h1,h2.fa f⟩
def SlQ(q:Nat)(els:List AV)(ps:List Prc)(H:Heap):Prop:=H[q]? =some (.arv (some 4) els)/\els.length=ps.length/\∀(j:Nat) (p:Prc) (v:AV),ps[j]? =some p->els[j]? =some v->ElP p v H
def agD(n:Int)(s:AV):AV:=.agg [(none,.pv none (.int .i64 n)),(none,s)]
theorem SlQ.frz{n:Int}{q:Nat}{els:List AV}{ps:List Prc}{H:Heap}(h:SlQ q els ps H):∃H',AV.freeze deep (agD n (.slv (some 4) q ps.length 0 ps.length)) H=some ((⟨n,ps⟩:Dbs).pv,H'):=
 DbA.frz (d:=⟨n,ps⟩) ⟨q,ps.length,els,ps,rfl,h.1,h.2.1,Ze _,rfl,ZP,h.2.2⟩
theorem MJ(n:Int)(H:Heap):AV.freeze deep (agD n (.nilv (some 4))) H=some ((⟨n,[]⟩:Dbs).pv,H):=rfl
def elQ(p:Prc)(q:Nat):AV:=agP p (.sl (some 9) q p.cls.length 0 p.cls.length)
def elsQ(ps:List Prc)(qs:List Nat):List AV:=List.zipWith elQ ps qs
def Xq(ps:List Prc)(qs:List Nat)(H:Heap):Prop:=∀(j:Nat) (p:Prc) (q:Nat),ps[j]? =some p->qs[j]? =some q->H[q]? =some (.arr (some 9) (Sto.pvs p.cls) false)
def Fs(H H':Heap):Prop:=∀(k:Nat) (s:Sh) (es:List PV),H[k]? =some (AObj.arr s es false)->H'[k]? =some (AObj.arr s es false)
theorem Fs.refl(H:Heap):Fs H H:=fun _ _ _ h=>h
theorem Fs.trans{A B C:Heap}(h1:Fs A B)(h2:Fs B C):Fs A C:=fun k s es h=>h2 k s es (h1 k s es h)
theorem Fs.app(H X:Heap):Fs H (H++X):=fun k s es h=>by rw[Zn (Zb.1 h).1,h]
theorem Fs.set{H:Heap}{q:Nat}{o:AObj}(h:∀s es z,H[q]?≠some (AObj.arr s es z)):Fs H (H.set q o):=fun k s es hk=>by
 by_cases e:q=k
 ·subst e;exact absurd hk (h s es false)
 ·rw[Zk e,hk]
theorem Xq.fs{ps:List Prc}{qs:List Nat}{H H':Heap}(h:Xq ps qs H)(f:Fs H H'):Xq ps qs H':=fun j p q hp hq=>f _ _ _ (h j p q hp hq)
theorem Jd(ps:List Prc)(qs:List Nat)(h:qs.length=ps.length):(elsQ ps qs).length=ps.length:=by simp[elsQ,h]
theorem Je{ps:List Prc}{qs:List Nat}{j:Nat}{p:Prc}{q:Nat}(hp:ps[j]? =some p)(hq:qs[j]? =some q):(elsQ ps qs)[j]? =some (elQ p q):=by
 simp[elsQ,List.getElem?_zipWith,hp,hq]
theorem MK{ps:List Prc}{qs:List Nat}(p:Prc)(q:Nat)(h:qs.length=ps.length):elsQ (ps++[p]) (qs++[q])=elsQ ps qs++[elQ p q]:=by
 unfold elsQ;rw[List.zipWith_append (by omega)];rfl
theorem Xq.snoc{ps:List Prc}{qs:List Nat}{p:Prc}{q:Nat}{H:Heap}(h:Xq ps qs H)(hl:qs.length=ps.length)(hq:H[q]? =some (.arr (some 9) (Sto.pvs p.cls) false)):Xq (ps++[p]) (qs++[q]) H:=fun j p' q' hp' hq'=>by
 rcases Zv j ps.length with k|k
 ·rw[Zn k] at hp';rw[Zn (by omega)] at hq';exact h j p' q' hp' hq'
 ·have hj:j=ps.length:=by
   have:=(Zb.1 hp').1;simp at this;omega
  subst hj;rw[Zp (Ze _),ZX] at hp';rw[Zp (by omega),show ps.length - qs.length=0 by omega] at hq';cases hp';cases hq';exact hq
theorem Xq.bd{ps:List Prc}{qs:List Nat}{H:Heap}(h:Xq ps qs H)(hl:qs.length=ps.length):∀x∈qs,x<H.length:=fun x hx=>by
 obtain⟨j,hj⟩:=ZS.1 hx;have hj2:=(Zb.1 hj).1;exact YT (h j _ x (Zf (by omega)) hj)
theorem Xq.sl{ps:List Prc}{qs:List Nat}{H:Heap}{q:Nat}(h:Xq ps qs H)(hl:qs.length=ps.length)(hq:H[q]? =some (.arv (some 4) (elsQ ps qs))):SlQ q (elsQ ps qs) ps H:=⟨hq,Jd _ _ hl,fun j p v hj hv=>by
 obtain⟨x,hx⟩:∃x,qs[j]? =some x:=⟨_,Zf (by have:=(Zb.1 hj).1;omega)⟩;rw[Je hj hx] at hv;cases hv;exact .inr ⟨_,rfl,.inr ⟨x,p.cls.length,Sto.pvs p.cls,false,rfl,h j p x hj hx,Sto.pvs_len _,Ze _,Zq (by rw[Sto.pvs_len];exact Ze _)⟩⟩⟩
def GI(d:Dbs)(hp:Heap)(v:AV)(hp':Heap):Prop:=(d.procs=[]/\v=agD d.next (.nilv (some 4))/\hp'=hp)\/∃(q:Nat) (qs:List Nat) (E:Heap),v=agD d.next (.slv (some 4) (hp.length+q) d.procs.length 0 d.procs.length)/\hp'=hp++E/\E[q]? =some (.arv (some 4) (elsQ (clD d).procs qs))/\qs.length=(clD d).procs.length/\qs.Nodup/\Xq (clD d).procs qs (hp++E)
def ML(d:Dbs)(hp:Heap)(b0 x1:AObj)(j:Nat)(s:AV)(E:Heap):Prop:=(j=0/\s=.nilv (some 4)/\E=[])\/∃(q:Nat) (qs:List Nat),s=.slv (some 4) (hp.length+(q+3)) j 0 j/\E[q]? =some (.arv (some 4) (elsQ ((clD d).procs.take j) qs))/\qs.length=j/\qs.Nodup/\∀bn:AObj,(∀s es z,bn≠.arr s es z)->Xq ((clD d).procs.take j) qs (hp++b0::x1::bn::E)
theorem Jf(p:Prc)(n:Nat):(cR p n).length=6:=rfl
theorem GJ(p:Prc)(H X:Heap):(H++(cR p H.length++X))[H.length+5]? =some (.arr (some 9) (Sto.pvs (clP p).cls) false):=by
 rw[Zp (by omega),ZW,Zn (by rw[Jf];omega)];rfl
theorem GK(p:Prc)(q:Nat):elQ (clP p) q=agP p (.sl (some 9) q p.cls.length 0 p.cls.length):=by simp[elQ,clP,agP]
theorem MM{hp:Heap}{b0 x1 bn:AObj}{E X:Heap}{q:Nat}{o:AObj}{els:List AV}(hq:E[q]? =some (.arv (some 4) els)):Fs (hp++b0::x1::bn::E) (hp++b0::x1::bn::(E.set q o++X)):=by
 have hg:(hp++b0::x1::bn::E)[hp.length+(q+3)]? =some (.arv (some 4) els):=by
  rw[Zp (by omega),ZW];exact hq
 have e:hp++b0::x1::bn::(E.set q o++X)=(hp++b0::x1::bn::E).set (hp.length+(q+3)) o++X:=by
  rw[zu _ _ (by omega),ZW];show _=(hp++b0::x1::bn::E.set q o)++X;simp
 rw[e];exact(Fs.set (by intro s es z;rw[hg];simp)).trans (Fs.app _ _)
theorem GL{hp:Heap}{b0 x1:AObj}{n:Int}{Q j:Nat}{X:Heap}{fr:Fr}(hQ:hp.length+3<=Q):collect (hp.length+3) hp.length fr (hp++b0::x1::.box (some 2) (agD n (.slv (some 4) Q j 0 j))::X)=hp++b0::x1::.box (some 2) (agD n (.slv (some 4) Q j 0 j))::X:=by
 refine kR (k:=hp.length+2) (by omega) (by omega) (o:=.box (some 2) (agD n (.slv (some 4) Q j 0 j))) (by rw[Zp (by omega),ZW];rfl) ?_;simp[AObj.refs,agD,AV.refsIn,AV.refsIn.go];omega
set_option maxRecDepth 20000 in
theorem MN(d:Dbs)(hb:BndD d)(hp:Heap)(hcl:∀p∈d.procs,p.cls.length<1000000000)(hl:d.procs.length<1000000000):∃v hp',S 5 [d.av] hp=some (.ret v,hp')/\GI d hp v hp':=by
 refine kt (GI d hp) rfl rfl rfl rfl ?_;have hbu:Yi A1 [0] [.pv none (.int .i64 d.next)]=some (.agg [(none,.pv none (.int .i64 d.next)),(none,.nilv (some 4))]):=rfl;have hnil:∀H:Heap,Yb A3 H=(A3,H):=fun _=>rfl;simp -dsimp -implicitDefEqProofs only[go_sem,seval,↓reduceIte,Dbs.av,Yp,hbu,hnil,z7 (ZB _ _)];obtain⟨b0,hb0⟩:∃b0:AObj,b0=.box (some 2) (.pv (some 2) d.pv):=⟨_,rfl⟩;obtain⟨x1,hx1⟩:∃x1:AObj,x1=.box (some 2) (.agg A1):=⟨_,rfl⟩;rw[<-hx1];refine Yv (α:=AV × Heap) d.procs.length (fun j a=>ML d hp b0 x1 j a.1 a.2) (fun j a=>⟨[(1,.ptr hp.length 0),(2,.ptr (hp.length+1) 0),(3,.ptr (hp.length+2) 0),(4,.pv none (.int .i64 j))],hp++.box (some 2) (.pv (some 2) d.pv)::x1::.box (some 2) (agD d.next a.1)::a.2⟩) (.nilv (some 4),[]) ⟨.inl ⟨rfl,rfl,rfl⟩,rfl⟩ ?_ ?_
 ·rintro i ⟨s,E⟩ h hinv;dsimp only at hinv ⊢;have hcc:(i:Int)<(d.procs.length:Int):=by omega
  have w1:IntKind.i64.wrap ((i:Int)+1)=((i+1:Nat):Int):=by rw[Yf (by omega) (by omega)];omega
  obtain⟨p,hpp⟩:∃p,d.procs[i]? =some p:=⟨_,Zf h⟩;have hpm:=Zi hpp;obtain⟨m,hm⟩:∃m,m=hp.length+(E.length+3):=⟨_,rfl⟩;have h3:∀bn:AObj,S 15 [.pv (some 4) p.pv] (hp++.box (some 2) (.pv (some 2) d.pv)::x1::bn::E)=some (.ret (agP p (.sl (some 9) (m+5) p.cls.length 0 p.cls.length)),hp++.box (some 2) (.pv (some 2) d.pv)::x1::bn::(E++cR p m)):=fun bn=>by
   have:=GH p (hcl p hpm) (hb.2.2 p hpm) (hp++.box (some 2) (.pv (some 2) d.pv)::x1::bn::E);have e:(hp++.box (some 2) (.pv (some 2) d.pv)::x1::bn::E).length=m:=by rw[hm];simp
   rw[e] at this;simpa[Prc.av] using this
  obtain⟨v,hv⟩:∃v,v=agP p (.sl (some 9) (m+5) p.cls.length 0 p.cls.length):=⟨_,rfl⟩;rw[<-hv] at h3;have hvp:v.plain=true:=by rw[hv];rfl
  have hvs:v.shp=some 4:=by rw[hv];rfl
  have hbv:∀bn:AObj,YW (some 4) (hp++.box (some 2) (.pv (some 2) d.pv)::x1::bn::(E++cR p m)) [v]=some (.slv (some 4) (m+6) 1 0 1,hp++.box (some 2) (.pv (some 2) d.pv)::x1::bn::(E++(cR p m++[.arv (some 4) [v]]))):=fun bn=>by
   simp[YW,hvp,hvs,XA,Jf,hm];omega
  have hel:∀bn:AObj,elemsv (hp++.box (some 2) (.pv (some 2) d.pv)::x1::bn::(E++(cR p m++[.arv (some 4) [v]]))) (.slv (some 4) (m+6) 1 0 1)=some (some 4,[v]):=fun bn=>by
   have e:m+6=hp.length+(E.length+6+1+1+1):=by omega
   have g:(hp++.box (some 2) (.pv (some 2) d.pv)::x1::bn::(E++(cR p m++[.arv (some 4) [v]])))[m+6]? =some (.arv (some 4) [v]):=by
    rw[e,Zp (by omega),ZW];simp only[ZR];rw[Zp (by omega),ZW,Zp (by rw[Jf];omega),Jf];rfl
   simp[elemsv,g]
  have hst:∀(s s':AV) (X:Heap),s'.plain=true->s'.shp=none->(∀H,s'.own H=(s',H))->AV.upd deep (agD d.next s) 1 none s'=some (agD d.next s')->z8 none hp.length (hp++.box (some 2) (.pv (some 2) d.pv)::x1::.box (some 2) (agD d.next s)::X) [.ptr (hp.length+2) 1,s']=some (.undef,hp++.box (some 2) (.pv (some 2) d.pv)::x1::.box (some 2) (agD d.next s')::X):=fun s s' X k1 k2 k3 k4=>by
   simp[z8,astore,getN rfl,setN rfl,k1,k2,k3,k4]
  rcases hinv with⟨hi0,rfl,rfl⟩|⟨q,qs,rfl,hq,hql2,hnd,hp2⟩
  ·have hpt:AV.part deep (agD d.next (.nilv (some 4))) 1 none=some (.nilv (some 4)):=rfl;have hap:∀bn:AObj,yc (some 4) hp.length (hp++.box (some 2) (.pv (some 2) d.pv)::x1::bn::(cR p m++[.arv (some 4) [v]])) [.nilv (some 4),.slv (some 4) (m+6) 1 0 1]=some (.slv (some 4) (m+7) 1 0 1,hp++.box (some 2) (.pv (some 2) d.pv)::x1::bn::(cR p m++[.arv (some 4) [v],.arv (some 4) [v]])):=fun bn=>by
    have hlim:1<=lim:=by unfold lim;omega
    have:=hel bn;simp only[ZJ] at this;have hxl:(hp++.box (some 2) (.pv (some 2) d.pv)::x1::bn::(cR p m++[AObj.arv (some 4) [v]])).length=m+7:=by
     simp[Jf,hm]
    simp only[yc,aappendv,this,hxl];simp[hlim,XA]
   have hsa:∀(X X':Heap),Yr (hp++.box (some 2) (.pv (some 2) d.pv)::x1::.box (some 2) (agD d.next (.nilv (some 4)))::X) (hp++.box (some 2) (.pv (some 2) d.pv)::x1::.box (some 2) (agD d.next (.nilv (some 4)))::X') (.ptr (hp.length+2) 1)=true:=fun X X'=>by
    simp[Yr,getN rfl,agD,AObj.beq,AV.beq,AV.beqc,PV.beq]
   have hs2:=hst (.nilv (some 4)) (.slv (some 4) (m+7) 1 0 1) (cR p m++[.arv (some 4) [v],.arv (some 4) [v]]) rfl rfl (fun _=>rfl) rfl;simp only[ZJ] at h3 hbv;simp -dsimp -implicitDefEqProofs only[go_sem,seval,↓reduceIte,hcc,w1,Ye,Prc.pvs_len,Yd (Prc.pvs_get hpp),hpt,h3,hsa,hbv,hap,hs2,xN,Jc,ZN,ze,zj,Z9];have hm0:m+7=hp.length+(7+3):=by rw[hm];simp
   have hi1:1=i+1:=by omega
   have hcd:(clD d).procs[i]? =some (clP p):=by simp[clD,hpp]
   have key:∀bn:AObj,(hp++b0::x1::bn::(cR p m++[.arv (some 4) [v],.arv (some 4) [v]]))[m+5]? =some (.arr (some 9) (Sto.pvs (clP p).cls) false):=fun bn=>by
    have e:(hp++[b0,x1,bn]).length=m:=by rw[hm];simp
    have:=GJ p (hp++[b0,x1,bn]) [.arv (some 4) [v],.arv (some 4) [v]];rw[e] at this;simpa using this
   rw[hi0] at hcd;have htk:(clD d).procs.take (i+1)=[clP p]:=by
    rw[hi0];exact X6 hcd
   rw[hm0] at*;refine⟨(.slv (some 4) (hp.length+(7+3)) (i+1) 0 (i+1),cR p m++[.arv (some 4) [v],.arv (some 4) [v]]),.inr ⟨7,[m+5],rfl,?_,by simp[hi0],by simp,fun bn _=> ?_⟩,?_⟩
   ·rw[htk,hv,<-GK];rfl
   ·rw[htk];intro j x y hj hy;cases j with
    |zero=>
     cases hj;cases hy;exact key bn
    |succ j=>simp at hj
   ·rw[<-hi1,GL (by omega)]
  ·have hpt:AV.part deep (agD d.next (.slv (some 4) (hp.length+(q+3)) i 0 i)) 1 none=some (.slv (some 4) (hp.length+(q+3)) i 0 i):=rfl;have hql:=YT hq;obtain⟨els,hels⟩:∃els,els=elsQ ((clD d).procs.take i) qs:=⟨_,rfl⟩;have htl:((clD d).procs.take i).length=i:=by simp[clD];omega
   have hel2:els.length=i:=by rw[hels,Jd _ _ (by omega),htl]
   rw[<-hels] at hq;have hap:∀bn:AObj,yc (some 4) hp.length (hp++.box (some 2) (.pv (some 2) d.pv)::x1::bn::(E++(cR p m++[.arv (some 4) [v]]))) [.slv (some 4) (hp.length+(q+3)) i 0 i,.slv (some 4) (m+6) 1 0 1]=some (.slv (some 4) (hp.length+(q+3)) (i+1) 0 (i+1),hp++.box (some 2) (.pv (some 2) d.pv)::x1::bn::(E.set q (.arv (some 4) (els++[v]))++(cR p m++[.arv (some 4) [v]]))):=fun bn=>by
    have hlim:i+1<=lim:=by unfold lim;omega
    have g:(hp++.box (some 2) (.pv (some 2) d.pv)::x1::bn::(E++(cR p m++[.arv (some 4) [v]])))[hp.length+(q+3)]? =some (.arv (some 4) els):=by
     rw[Zp (by omega),ZW];show(E++_)[q]? =_;rw[Zn hql,hq]
    have gs:∀o:AObj,(hp++.box (some 2) (.pv (some 2) d.pv)::x1::bn::(E++(cR p m++[.arv (some 4) [v]]))).set (hp.length+(q+3)) o=hp++.box (some 2) (.pv (some 2) d.pv)::x1::bn::(E.set q o++(cR p m++[.arv (some 4) [v]])):=fun o=>by
     rw[zu _ _ (by omega),ZW];show hp++_::_::_::List.set (E++_) q o=_;rw[zm _ _ hql]
    have hrf:yZ hp.length (hp.length+(q+3)) els [v]=true:=by simp[yZ]
    simp[yc,aappendv,hel bn,g,gs,hrf,hel2,hlim,XA]
   have hsa:∀(X X':Heap),Yr (hp++.box (some 2) (.pv (some 2) d.pv)::x1::.box (some 2) (agD d.next (.slv (some 4) (hp.length+(q+3)) i 0 i))::X) (hp++.box (some 2) (.pv (some 2) d.pv)::x1::.box (some 2) (agD d.next (.slv (some 4) (hp.length+(q+3)) i 0 i))::X') (.ptr (hp.length+2) 1)=true:=fun X X'=>by
    simp[Yr,getN rfl,agD,AObj.beq,AV.beq,AV.beqc,PV.beq]
   have hs2:=hst (.slv (some 4) (hp.length+(q+3)) i 0 i) (.slv (some 4) (hp.length+(q+3)) (i+1) 0 (i+1)) (E.set q (.arv (some 4) (els++[v]))++(cR p m++[.arv (some 4) [v]])) rfl rfl (fun _=>rfl) rfl;simp -dsimp -implicitDefEqProofs only[go_sem,seval,↓reduceIte,hcc,w1,Ye,Prc.pvs_len,Yd (Prc.pvs_get hpp),hpt,h3,hsa,hbv,hap,hs2,xN,Jc,ZN,ze,zj,Z9];have hcd:(clD d).procs[i]? =some (clP p):=by simp[clD,hpp]
   have key:∀bn:AObj,(hp++b0::x1::bn::(E.set q (.arv (some 4) (els++[v]))++(cR p m++[.arv (some 4) [v]])))[m+5]? =some (.arr (some 9) (Sto.pvs (clP p).cls) false):=fun bn=>by
    have e:(hp++b0::x1::bn::E.set q (.arv (some 4) (els++[v]))).length=m:=by rw[hm];simp
    have:=GJ p (hp++b0::x1::bn::E.set q (.arv (some 4) (els++[v]))) [.arv (some 4) [v]];rw[e] at this;simpa using this
   have hbd:=(hp2 (.box none .undef) (by intro s es z;simp)).bd (by omega);refine⟨(.slv (some 4) (hp.length+(q+3)) (i+1) 0 (i+1),E.set q (.arv (some 4) (els++[v]))++(cR p m++[.arv (some 4) [v]])),.inr ⟨q,qs++[m+5],rfl,?_,by simp[hql2],?_,fun bn hbn=> ?_⟩,?_⟩
   ·rw[Zn (by simpa using hql),Zr hql,X6 hcd,MK _ _ (by omega),<-hels,GK,<-hv]
   ·rw[zC];refine⟨hnd,by simp,fun a ha b hb=> ?_⟩;have:=hbd a ha;simp at this hb;omega
   ·rw[X6 hcd];exact((hp2 bn hbn).fs (MM hq)).snoc (by omega) (key bn)
   ·rw[GL (by omega)]
 ·rintro⟨s,E⟩ hinv;dsimp only at hinv ⊢;have hcc:¬(d.procs.length:Int)<(d.procs.length:Int):=by omega
  have hcl:(clD d).procs.length=d.procs.length:=by simp[clD]
  rcases hinv with⟨hi0,rfl,rfl⟩|⟨q,qs,rfl,hq,hql2,hnd,hp2⟩
  ·have hd:d.procs=[]:=zd hi0;have hs3:z8 (some 2) hp.length (hp++[.box (some 2) (.pv (some 2) d.pv),x1,.box (some 2) (agD d.next (.nilv (some 4)))]) [.ptr (hp.length+1) 0,agD d.next (.nilv (some 4))]=some (.undef,hp++[.box (some 2) (.pv (some 2) d.pv),.box (some 2) (agD d.next (.nilv (some 4))),.box (some 2) (agD d.next (.nilv (some 4)))]):=by
    rw[hx1];simp[z8,astore,getN rfl,setN rfl,agD,AV.plain,AV.shp,AV.own,Yb,YQ,total,Sh.size]
   simp -dsimp -implicitDefEqProofs only[go_sem,seval,↓reduceIte,hcc,Ye,Prc.pvs_len,hs3];rw[Zc (by simp[agD,AV.refsIn,AV.refsIn.go])];exact .inl ⟨hd,rfl,List.take_left⟩
  ·have hs3:z8 (some 2) hp.length (hp++.box (some 2) (.pv (some 2) d.pv)::x1::.box (some 2) (agD d.next (.slv (some 4) (hp.length+(q+3)) d.procs.length 0 d.procs.length))::E) [.ptr (hp.length+1) 0,agD d.next (.slv (some 4) (hp.length+(q+3)) d.procs.length 0 d.procs.length)]=some (.undef,hp++.box (some 2) (.pv (some 2) d.pv)::.box (some 2) (agD d.next (.slv (some 4) (hp.length+(q+3)) d.procs.length 0 d.procs.length))::.box (some 2) (agD d.next (.slv (some 4) (hp.length+(q+3)) d.procs.length 0 d.procs.length))::E):=by
    rw[hx1];simp[z8,astore,getN rfl,setN rfl,agD,AV.plain,AV.shp,AV.own,Yb,YQ,total,Sh.size]
   simp -dsimp -implicitDefEqProofs only[go_sem,seval,↓reduceIte,hcc,Ye,Prc.pvs_len,hs3];rw[Za (by simp[agD,AV.refsIn,AV.refsIn.go])];have htk:(clD d).procs.take d.procs.length=(clD d).procs:=Zq (by omega);rw[htk] at hq hp2;refine .inr ⟨q+3,qs,_,rfl,rfl,hq,by omega,hnd,?_⟩;have k:=hp2 (.box (some 2) (agD d.next (.slv (some 4) (hp.length+(q+3)) d.procs.length 0 d.procs.length))) (by intro s es z;simp);refine k.fs ?_;rw[hb0];have e:hp++AObj.box (some 2) (.pv (some 2) d.pv)::.box (some 2) (agD d.next (.slv (some 4) (hp.length+(q+3)) d.procs.length 0 d.procs.length))::.box (some 2) (agD d.next (.slv (some 4) (hp.length+(q+3)) d.procs.length 0 d.procs.length))::E=(hp++AObj.box (some 2) (.pv (some 2) d.pv)::x1::.box (some 2) (agD d.next (.slv (some 4) (hp.length+(q+3)) d.procs.length 0 d.procs.length))::E).set (hp.length+1) (.box (some 2) (agD d.next (.slv (some 4) (hp.length+(q+3)) d.procs.length 0 d.procs.length))):=by
    rw[zu _ _ (by omega),ZW];rfl
   rw[e];refine Fs.set ?_;intro s es z;rw[Zp (by omega),ZW,hx1];simp
theorem SvP.frz8{sv:AV}{l:List Sto}{H:Heap}(h:SvP sv l H)(n:Nat):∃H',AV.freeze (n+1) sv H=some (.sl (some 9) (Sto.pvs l),H')/\Fz H H':=by
 rcases h with rfl|⟨q,ver,es,z,rfl,h2,h3,h4,h5⟩
 ·exact⟨H,rfl,Fz.refl H⟩
 ·refine⟨H.set q (.arr (some 9) es true),?_,Fz.set h2⟩;simp only[AV.freeze,h2];by_cases he:l.length=es.length
  ·rw[Zc ⟨h3.symm,trivial,he⟩];rw[<-h5,Zq (by omega)]
  ·rw[Za (fun hh=>he hh.2.2),Zc ⟨h3.symm,by omega⟩,Z2,h5]
theorem ElP.frz8{p:Prc}{v:AV}{H:Heap}(h:ElP p v H):∃H',AV.freeze deep v H=some (p.pv,H')/\v.shp=some 4/\Fz H H':=by
 rcases h with rfl|⟨sv,rfl,h2⟩
 ·exact⟨H,rfl,rfl,Fz.refl H⟩
 ·obtain⟨H',h3,h4⟩:=h2.frz8 6;refine⟨H',?_,rfl,h4⟩;have e:∀n l hp,AV.freeze (n+1) (.agg l) hp=match AV.freeze.go n l hp with|some (ps,hp')=>some (.agg ps,hp')|none=>none:=fun _ _ _=>rfl
  have e0:∀(x:PV) (s:Sh) (X:Heap),AV.freeze 7 (.pv s x) X=some (x,X):=fun _ _ _=>rfl;show AV.freeze (7+1) (.agg _) H=_;simp only[e,AV.freeze.go,e0,h3];rfl
theorem MO{p x:Prc}{v u:AV}{H:Heap}(h1:ElP p v H)(h2:ElP x u H):S 18 [v,u] H=some (.ret (.pv none (.bool (decide (ordP p x<0)))),H):=by
 obtain⟨H1,f1,s1,z1⟩:=h1.frz8;have h2':ElP x u H1:=h2.fz z1;obtain⟨H2,f2,s2,z2⟩:=h2'.frz8;exact Xa (F:=find tab) (prim:=prim) (f:=18) (ps:=[(some 4,p.pv),(some 4,x.pv)]) (hp1:=H2) rfl rfl rfl (by simp only[Yn,f1,f2,s1,s2]) (Vb p x [])
def wpos(ps:List Prc)(p:Prc):Nat:=ps.findIdx fun x=>decide (ordP p x<0)
def nwP(s:List UInt8)(a:Int)(b:Bool):AV:=.agg [(none,.pv none (.str s)),(none,.pv none (.int .i64 a)),(none,.pv none (.bool b)),(none,.tsl (some 9) [])]
def SlK(s:AV):Prop:=s=.nilv (some 4)\/∃q v o n,s=.slv (some 4) q v o n
theorem MP{s:AV}(h:SlK s)(n:Int)(s0:AV)(h0:SlK s0):AV.upd deep (agD n s0) 1 none s=some (agD n s):=by
 rcases h with rfl|⟨q,v,o,m,rfl⟩ <;> rcases h0 with rfl|⟨q0,v0,o0,m0,rfl⟩ <;> rfl
theorem Xr{s:AV}(h:SlK s):s.plain=true/\s.shp=none/\(∀H,s.own H=(s,H))/\AV.beq s s=true/\(∀n H,(agD n s).own H=(agD n s,H))/\(∀n,(agD n s).plain=true)/\∀n,(agD n s).shp=some 2:=by
 rcases h with rfl|⟨q,v,o,m,rfl⟩
 ·exact⟨rfl,rfl,fun _=>rfl,by simp[AV.beq],fun _ _=>rfl,fun _=>rfl,fun _=>rfl⟩
 ·exact⟨rfl,rfl,fun _=>rfl,by simp[AV.beq],fun _ _=>rfl,fun _=>rfl,fun _=>rfl⟩
def NI(r:Nat)(L:List AV)(s:AV)(E:Heap):Prop:=(L=[]/\s=.nilv (some 4))\/∃q,s=.slv (some 4) (r+q) L.length 0 L.length/\E[q]? =some (.arv (some 4) L)
theorem NI.slK{r:Nat}{L:List AV}{s:AV}{E:Heap}(h:NI r L s E):SlK s:=by
 rcases h with⟨_,rfl⟩|⟨q,rfl,_⟩
 ·exact .inl rfl
 ·exact .inr ⟨_,_,_,_,rfl⟩
theorem NI.push{r b:Nat}{L:List AV}{s:AV}{E:Heap}{v:AV}(h:NI r L s E)(hb:b<=r)(hl:L.length<1000000):∃s' E',NI r (L++[v]) s' E'/\∀pre:Heap,pre.length=r->yc (some 4) b (pre++(E++[.arv (some 4) [v]])) [s,.slv (some 4) (r+E.length) 1 0 1]=some (s',pre++E'):=by
 have hel:∀pre:Heap,pre.length=r->elemsv (pre++(E++[.arv (some 4) [v]])) (.slv (some 4) (r+E.length) 1 0 1)=some (some 4,[v]):=fun pre hp=>by
  have g:(pre++(E++[.arv (some 4) [v]]))[r+E.length]? =some (.arv (some 4) [v]):=by
   rw[Zp (by omega),hp,ZW,Zp (Ze _),ZX];rfl
  simp[elemsv,g]
 rcases h with⟨rfl,rfl⟩|⟨q,rfl,hq⟩
 ·refine⟨.slv (some 4) (r+(E.length+1)) 1 0 1,E++[.arv (some 4) [v],.arv (some 4) [v]],.inr ⟨E.length+1,rfl,by rw[Zp (by omega),ZW];rfl⟩,fun pre hp=> ?_⟩;have hlim:1<=lim:=by unfold lim;omega
  have hxl:(pre++(E++[AObj.arv (some 4) [v]])).length=r+(E.length+1):=by simp[hp]
  simp only[yc,aappendv,hel pre hp,hxl];simp[hlim,XA]
 ·have hql:=YT hq;refine⟨.slv (some 4) (r+q) (L.length+1) 0 (L.length+1),E.set q (.arv (some 4) (L++[v]))++[.arv (some 4) [v]],.inr ⟨q,by simp,by rw[Zn (by simpa using hql),Zr hql]⟩,fun pre hp=> ?_⟩;have hlim:L.length+1<=lim:=by unfold lim;omega
  have g:(pre++(E++[.arv (some 4) [v]]))[r+q]? =some (.arv (some 4) L):=by
   rw[Zp (by omega),hp,ZW,Zn hql,hq]
  have gs:∀o:AObj,(pre++(E++[AObj.arv (some 4) [v]])).set (r+q) o=pre++(E.set q o++[AObj.arv (some 4) [v]]):=fun o=>by
   rw[zu _ _ (by omega),hp,ZW,zm _ _ hql]
  have hrf:yZ b (r+q) L [v]=true:=by
   simp[yZ];omega
  simp[yc,aappendv,hel pre hp,g,gs,hrf,hlim,XA]
theorem Jg{α:Type}{l:List α}{k:Nat}(x:α)(hk:k<=l.length):(∀i,i<k->(l.take k++x::l.drop k)[i]? =l[i]?)/\(l.take k++x::l.drop k)[k]? =some x/\∀i,k<=i->(l.take k++x::l.drop k)[i+1]? =l[i]? :=by
 have hl:(l.take k).length=k:=by rw[Zh];omega
 refine⟨fun i hi=> ?_,?_,fun i hi=> ?_⟩
 ·rw[Zn (by omega),ZG,Zc hi]
 ·rw[Zp (by omega),hl,ZX];rfl
 ·rw[Zp (by omega),hl,show i+1 - k=(i - k)+1 by omega,ZR,ZI]
  congr 1
  omega
theorem xn{Γ:Oracle}{b:Nat}{vs:List AV}{hp:Heap}{K:AV->Heap->Prop}{Kp:PV->Heap->Prop}(sh:Sh):opK (aOp Γ b (.bslov sh) vs hp) K Kp=YD (YW sh hp vs) K:=by
 show opK (match YW sh hp vs with|some (v,hp')=>some (OpRes.val v hp')|none=>none) K Kp=_;cases YW sh hp vs with
 |none=>rfl
 |some r=>cases r;rfl
theorem Ve{hp:Heap}{b0 b1 a2 x3:AObj}{n:Int}{L:List AV}{s:AV}{E:Heap}{fr:Fr}(h:NI (hp.length+5) L s E)(hL:L≠[]):collect (hp.length+5) hp.length fr (hp++b0::b1::a2::x3::.box (some 2) (agD n s)::E)=hp++b0::b1::a2::x3::.box (some 2) (agD n s)::E:=by
 rcases h with⟨h,_⟩|⟨q,rfl,_⟩
 ·exact absurd h hL
 ·refine kR (k:=hp.length+4) (by omega) (by omega) (o:=.box (some 2) (agD n (.slv (some 4) (hp.length+5+q) L.length 0 L.length))) (by rw[Zp (by omega),ZW];rfl) ?_;simp[AObj.refs,agD,AV.refsIn,AV.refsIn.go]
theorem ElP.look{p:Prc}{v:AV}{H:Heap}(h:ElP p v H):v.plain=true/\v.shp=some 4:=by
 rcases h with rfl|⟨sv,rfl,_⟩
 ·exact⟨rfl,rfl⟩
 ·exact⟨rfl,rfl⟩
theorem Jh{hp:Heap}{b0 b1 a2 x3:AObj}{L:List AV}{s:AV}{E:Heap}(n:Int)(h:NI (hp.length+5) L s E)(hl:L.length<1000000)(v:AV)(hv1:v.plain=true)(hv2:v.shp=some 4):∃s' E',NI (hp.length+5) (L++[v]) s' E'/\(∀bn:AObj,YW (some 4) (hp++b0::b1::a2::x3::bn::E) [v]=some (.slv (some 4) (hp.length+(E.length+5)) 1 0 1,hp++b0::b1::a2::x3::bn::(E++[.arv (some 4) [v]])))/\(∀bn:AObj,yc (some 4) hp.length (hp++b0::b1::a2::x3::bn::(E++[.arv (some 4) [v]])) [s,.slv (some 4) (hp.length+(E.length+5)) 1 0 1]=some (s',hp++b0::b1::a2::x3::bn::E'))/\(∀X:Heap,z8 none hp.length (hp++b0::b1::a2::x3::.box (some 2) (agD n s)::X) [.ptr (hp.length+4) 1,s']=some (.undef,hp++b0::b1::a2::x3::.box (some 2) (agD n s')::X))/\∀X X':Heap,Yr (hp++b0::b1::a2::x3::.box (some 2) (agD n s)::X) (hp++b0::b1::a2::x3::.box (some 2) (agD n s)::X') (.ptr (hp.length+4) 1)=true:=by
 obtain⟨s',E',h1,h2⟩:=h.push (v:=v) (b:=hp.length) (by omega) hl;obtain⟨f1,f2,f3,f4,_⟩:=Xr h1.slK;have g4:=(Xr h.slK).2.2.2.1;have hu:=MP h1.slK n s h.slK;refine⟨s',E',h1,fun bn=> ?_,fun bn=> ?_,fun X=> ?_,fun X X'=> ?_⟩
 ·simp[YW,hv1,hv2,XA]
 ·have:=h2 (hp++[b0,b1,a2,x3,bn]) (by simp);rw[show hp.length+5+E.length=hp.length+(E.length+5) by omega] at this;simpa using this
 ·simp[z8,astore,getN rfl,setN rfl,f1,f2,f3,hu]
 ·simp[Yr,getN rfl,agD,AObj.beq,AV.beq,AV.beqc,PV.beq,g4]
def wRes(n:Int)(ps:List Prc)(els:List AV)(s:List UInt8)(a:Int)(b:Bool)(hp:Heap)(v:AV)(hp':Heap):Prop:=∃(q:Nat) (E:Heap),v=agD n (.slv (some 4) (hp.length+q) (ps.length+1) 0 (ps.length+1))/\hp'=hp++E/\E[q]? =some (.arv (some 4) (els.take (wpos ps ⟨s,a,b,[]⟩)++elQ ⟨s,a,b,[]⟩ (hp.length+2)::els.drop (wpos ps ⟨s,a,b,[]⟩)))/\E[2]? =some (.arr (some 9) [] false)
set_option maxRecDepth 20000 in
theorem MQ(n:Int)(ps:List Prc)(s0:AV)(els:List AV)(s:List UInt8)(a:Int)(b:Bool)(hp:Heap)(hl:ps.length<900000)(hs:(s0=.nilv (some 4)/\ps=[]/\els=[])\/∃q,s0=.slv (some 4) q ps.length 0 ps.length/\SlQ q els ps hp):∃v hp',S 59 [agD n s0,nwP s a b] hp=some (.ret v,hp')/\wRes n ps els s a b hp v hp':=by
 refine kt (wRes n ps els s a b hp) rfl rfl rfl rfl ?_;have hbu:Yi A1 [0] [.pv none (.int .i64 n)]=some (.agg [(none,.pv none (.int .i64 n)),(none,.nilv (some 4))]):=rfl;have hnil:∀H:Heap,Yb A3 H=(A3,H):=fun _=>rfl;have hK0:SlK s0:=by
  rcases hs with⟨h,_⟩|⟨q,h,_⟩
  ·exact .inl h
  ·exact .inr ⟨_,_,_,_,h⟩
 obtain⟨k1,k2,k3,k4,k5,k6,k7⟩:=Xr hK0;have hlen0:sLen [s0]=some (.pv none (.int .i64 ps.length)):=by
  rcases hs with⟨h,h2,_⟩|⟨q,h,_⟩
  ·rw[h,h2];rfl
  ·rw[h];rfl
 have hell:els.length=ps.length:=by
  rcases hs with⟨_,h2,h3⟩|⟨q,_,h⟩
  ·rw[h2,h3];rfl
  ·exact h.2.1
 have help:∀(j:Nat) (p:Prc) (v:AV),ps[j]? =some p->els[j]? =some v->ElP p v hp:=by
  rcases hs with⟨_,h2,h3⟩|⟨q,_,h⟩
  ·intro j p v hj;rw[h2] at hj;simp at hj
  ·exact h.2.2
 have hld:∀(i:Nat) (u:AV),els[i]? =some u->∃e,Yl (some 4) [s0,.pv none (.int .i64 i)]=some e/\∀X,aload (some 4) (hp++X) e=some u:=by
  rcases hs with⟨_,h2,h3⟩|⟨q,h,hq,hq2,_⟩
  ·intro i u hu;rw[h3] at hu;simp at hu
  ·intro i u hu;have hi:=(Zb.1 hu).1;have hi2:i<ps.length:=by omega
   refine⟨.epv (some 4) q ps.length i 0,by rw[h];simp[Yl,aindex,hi2],fun X=> ?_⟩;have hg:(hp++X)[q]? =some (.arv (some 4) els):=by rw[Zn (YT hq),hq]
   simp[aload,hg,hq2,hu]
 have hbx1:∀H:Heap,wBox (some 2) H [agD n s0]=some (.ptr H.length 0,H++[.box (some 2) (agD n s0)]):=fun H=>by
  simp[wBox,k5,k6,k7]
 have hbx2:∀H:Heap,wBox (some 4) H [nwP s a b]=some (.ptr H.length 0,H++[.box (some 4) (.agg [(none,.pv none (.str s)),(none,.pv none (.int .i64 a)),(none,.pv none (.bool b)),(none,.sl (some 9) (H.length+1) 0 0 0)]),.arr (some 9) [] false]):=fun H=>by
  simp[wBox,nwP,AV.plain,AV.shp,AV.own,Yb,YQ,total,Sh.size]
 have hp0:∀s:AV,AV.part deep (agD n s) 0 none=some (.pv none (.int .i64 n)):=fun _=>rfl;have hp1:∀s:AV,AV.part deep (agD n s) 1 none=some s:=fun _=>rfl;simp -dsimp -implicitDefEqProofs only[go_sem,seval,↓reduceIte,hbx1,hbx2,hbu,hnil,hp0,z7 (ZB _ _)];obtain⟨pv,hpv⟩:∃pv:AV,pv=.agg [(none,.pv none (.str s)),(none,.pv none (.int .i64 a)),(none,.pv none (.bool b)),(none,.sl (some 9) (hp.length+2) 0 0 0)]:=⟨_,rfl⟩;obtain⟨x3,hx3⟩:∃x3:AObj,x3=.box (some 2) (.agg A1):=⟨_,rfl⟩;rw[<-hpv,<-hx3];obtain⟨w,hw⟩:∃w,w=wpos ps ⟨s,a,b,[]⟩:=⟨_,rfl⟩;have hwl:w<=ps.length:=by rw[hw];exact List.findIdx_le_length
 obtain⟨F,hF⟩:∃F,F=els.take w++pv::els.drop w:=⟨_,rfl⟩;have hFl:F.length=ps.length+1:=by rw[hF];simp[hell];omega
 obtain⟨i1,i2,i3⟩:=Jg pv (show w<=els.length by omega);rw[<-hF] at i1 i2 i3;refine Yv (α:=AV × Heap) ps.length (fun i x=>NI (hp.length+5) (F.take (i+if w<i then 1 else 0)) x.1 x.2) (fun i x=>⟨[(2,.ptr hp.length 0),(3,.ptr (hp.length+1) 0),(4,.ptr (hp.length+3) 0),(5,.ptr (hp.length+4) 0),(6,.pv none (.bool (decide (w<i)))),(7,.pv none (.int .i64 i))],hp++.box (some 2) (agD n s0)::.box (some 4) pv::.arr (some 9) [] false::x3::.box (some 2) (agD n x.1)::x.2⟩) (.nilv (some 4),[]) ⟨.inl ⟨by simp,rfl⟩,rfl⟩ ?_ ?_
 ·rintro i ⟨s1,E⟩ h hN;dsimp only at hN ⊢;have hcc:(i:Int)<(ps.length:Int):=by omega
  have w1:IntKind.i64.wrap ((i:Int)+1)=((i+1:Nat):Int):=by rw[Yf (by omega) (by omega)];omega
  obtain⟨x,hx⟩:∃x,ps[i]? =some x:=⟨_,Zf h⟩;obtain⟨u,hu⟩:∃u,els[i]? =some u:=⟨_,Zf (by omega)⟩;obtain⟨e,hia,hle⟩:=hld i u hu;have hxu:=help i x u hx hu;obtain⟨u1,u2⟩:=hxu.look;have hbef:∀(c0:AObj) (X:Heap),S 18 [pv,u] (hp++c0::.box (some 4) pv::.arr (some 9) [] false::X)=some (.ret (.pv none (.bool (decide (ordP ⟨s,a,b,[]⟩ x<0)))),hp++c0::.box (some 4) pv::.arr (some 9) [] false::X):=fun c0 X=>by
   refine MO (.inr ⟨.sl (some 9) (hp.length+2) 0 0 0,hpv,.inr ⟨hp.length+2,0,[],false,rfl,?_,rfl,Ze _,rfl⟩⟩) (hxu.fa (Fa.app _ _));rw[Zp (by omega),ZW];rfl
  have hpv1:pv.plain=true:=by rw[hpv];rfl
  have hpv2:pv.shp=some 4:=by rw[hpv];rfl
  have hFt:∀(k:Nat) (y:AV),F[k]? =some y->F.take k++[y]=F.take (k+1):=fun k y hy=>(X6 hy).symm;have hFtl:∀k,(F.take k).length<1000000:=fun k=>by rw[Zh];omega
  by_cases c1:w<i
  ·have hd:=Zs c1;have hd':decide (w<i+1)=true:=Zs (by omega);rw[Zc c1] at hN;obtain⟨s2,E2,n1,n2,n3,n4,n5⟩:=Jh (b0:=.box (some 2) (agD n s0)) (b1:=.box (some 4) pv) (a2:=.arr (some 9) [] false) (x3:=x3) n hN (hFtl _) u u1 u2;have hsn:=hFt (i+1) u (by rw[i3 i (by omega),hu]);rw[hsn] at n1;simp -dsimp -implicitDefEqProofs only[go_sem,seval,↓reduceIte,hcc,w1,hd,hp1,hlen0,hia,hle,n2,n3,n4,n5,xN,Jc,xn,ZN,ze,zj,Z9];refine⟨(s2,E2),by rw[Zc (by omega)];exact n1,?_⟩;rw[hd',Ve n1 (by intro h0;have:=congrArg List.length h0;simp[hFl] at this;try omega)]
  ·have hd:=ZL c1;rw[Za c1] at hN;simp only[zr] at hN;by_cases c2:i<w
   ·have hd':decide (w<i+1)=false:=ZL (by omega);have hnb:decide (ordP ⟨s,a,b,[]⟩ x<0)=false:=by
     have:=List.not_of_lt_findIdx (p:=fun x=>decide (ordP ⟨s,a,b,[]⟩ x<0)) (xs:=ps) (i:=i) (by rw[hw] at c2;exact c2);have hxe:=(Zb.1 hx).2;rw[hxe] at this;simpa using this
    rw[hnb] at hbef;obtain⟨s2,E2,n1,n2,n3,n4,n5⟩:=Jh (b0:=.box (some 2) (agD n s0)) (b1:=.box (some 4) pv) (a2:=.arr (some 9) [] false) (x3:=x3) n hN (hFtl _) u u1 u2;have hsn:=hFt i u (by rw[i1 i c2,hu]);rw[hsn] at n1;simp -dsimp -implicitDefEqProofs only[go_sem,seval,↓reduceIte,hcc,w1,hd,hbef,hp1,hlen0,hia,hle,n2,n3,n4,n5,xN,Jc,xn,ZN,ze,zj,Z9];refine⟨(s2,E2),by rw[Za (by omega)];exact n1,?_⟩;rw[hd',Ve n1 (by intro h0;have:=congrArg List.length h0;simp[hFl] at this;try omega)]
   ·have hiw:i=w:=by omega
    have hd':decide (w<i+1)=true:=Zs (by omega);have hyb:decide (ordP ⟨s,a,b,[]⟩ x<0)=true:=by
     have hlt:ps.findIdx (fun x=>decide (ordP ⟨s,a,b,[]⟩ x<0))<ps.length:=by
      have:wpos ps ⟨s,a,b,[]⟩<ps.length:=by omega
      exact this
     have:=List.findIdx_getElem (p:=fun x=>decide (ordP ⟨s,a,b,[]⟩ x<0)) (xs:=ps) (w:=hlt);have hix:ps.findIdx (fun x=>decide (ordP ⟨s,a,b,[]⟩ x<0))=i:=by
      rw[hiw,hw];rfl
     have hxe:=(Zb.1 hx).2;simp only[hix,hxe] at this;exact this
    rw[hyb] at hbef;obtain⟨s2,E2,n1,n2,n3,n4,n5⟩:=Jh (b0:=.box (some 2) (agD n s0)) (b1:=.box (some 4) pv) (a2:=.arr (some 9) [] false) (x3:=x3) n hN (hFtl _) pv hpv1 hpv2;have hsn:=hFt i pv (by rw[hiw];exact i2);rw[hsn] at n1;obtain⟨s4,E4,m1,m2,m3,m4,m5⟩:=Jh (b0:=.box (some 2) (agD n s0)) (b1:=.box (some 4) pv) (a2:=.arr (some 9) [] false) (x3:=x3) n n1 (hFtl _) u u1 u2;have hsn2:=hFt (i+1) u (by rw[i3 i (by omega),hu]);rw[hsn2] at m1;simp -dsimp -implicitDefEqProofs only[go_sem,seval,↓reduceIte,hcc,w1,hd,hbef,hp1,hlen0,hia,hle,n2,n3,n4,n5,m2,m3,m4,m5,xN,Jc,xn,ZN,ze,zj,Z9];refine⟨(s4,E4),by rw[Zc (by omega)];exact m1,?_⟩;rw[hd',Ve m1 (by intro h0;have:=congrArg List.length h0;simp[hFl] at this;try omega)]
 ·rintro⟨s1,E⟩ hN;dsimp only at hN ⊢;have hcc:¬(ps.length:Int)<(ps.length:Int):=by omega
  have hpv1:pv.plain=true:=by rw[hpv];rfl
  have hpv2:pv.shp=some 4:=by rw[hpv];rfl
  have hFN:F.take (ps.length+1)=F:=Zq (by omega);have hfin:∀(s2:AV) (E2:Heap),NI (hp.length+5) F s2 E2->wRes n ps els s a b hp (agD n s2) (if(agD n s2).refsIn.all (fun q=>decide (q<hp.length))=true then(hp++.box (some 2) (agD n s0)::.box (some 4) pv::.arr (some 9) [] false::.box (some 2) (agD n s2)::.box (some 2) (agD n s2)::E2).take hp.length else hp++.box (some 2) (agD n s0)::.box (some 4) pv::.arr (some 9) [] false::.box (some 2) (agD n s2)::.box (some 2) (agD n s2)::E2):=fun s2 E2 hn=>by
   unfold wRes;rw[<-hw];rcases hn with⟨h0,_⟩|⟨q,rfl,hq⟩
   ·rw[h0] at hFl;simp at hFl
   ·refine⟨q+5,.box (some 2) (agD n s0)::.box (some 4) pv::.arr (some 9) [] false::.box (some 2) (agD n (.slv (some 4) (hp.length+5+q) F.length 0 F.length))::.box (some 2) (agD n (.slv (some 4) (hp.length+5+q) F.length 0 F.length))::E2,by rw[hFl,show hp.length+5+q=hp.length+(q+5) by omega],?_,?_,rfl⟩
    ·rw[Za (by simp[agD,AV.refsIn,AV.refsIn.go];omega)]
    ·rw[hF,hpv] at hq;exact hq
  have hs3:∀(s2:AV) (X:Heap),SlK s2->z8 (some 2) hp.length (hp++.box (some 2) (agD n s0)::.box (some 4) pv::.arr (some 9) [] false::x3::X) [.ptr (hp.length+3) 0,agD n s2]=some (.undef,hp++.box (some 2) (agD n s0)::.box (some 4) pv::.arr (some 9) [] false::.box (some 2) (agD n s2)::X):=fun s2 X hk=>by
   obtain⟨_,_,_,_,f5,f6,f7⟩:=Xr hk;rw[hx3];simp[z8,astore,getN rfl,setN rfl,f5,f6,f7]
  by_cases c1:w<ps.length
  ·have hd:=Zs c1;rw[Zc c1,hFN] at hN;have hs4:=fun X=>hs3 s1 X hN.slK;simp -dsimp -implicitDefEqProofs only[go_sem,seval,↓reduceIte,hcc,hd,hp1,hlen0,hs4];exact hfin s1 E hN
  ·have hd:=ZL c1;have hiw:w=ps.length:=by omega
   rw[Za c1] at hN;simp only[zr] at hN;obtain⟨s2,E2,n1,n2,n3,n4,n5⟩:=Jh (b0:=.box (some 2) (agD n s0)) (b1:=.box (some 4) pv) (a2:=.arr (some 9) [] false) (x3:=x3) n hN (by rw[Zh];omega) pv hpv1 hpv2;have hsn:F.take ps.length++[pv]=F.take (ps.length+1):=(X6 (by rw[<-hiw];exact i2)).symm;rw[hsn,hFN] at n1;have hs4:=fun X=>hs3 s2 X n1.slK;simp -dsimp -implicitDefEqProofs only[go_sem,seval,↓reduceIte,hcc,hd,hp1,hlen0,n2,n3,n4,n5,hs4,xN,xn];exact hfin s2 E2 n1
theorem xP{t:Tm}(h:t.valid=true):clT t=t:=by unfold clT;rw[Zc h]
theorem Vf{d:Dbs}(hv:okD d=true):clD d=d:=by
 have h:∀p∈d.procs,clP p=p:=fun p hp=>by
  have:∀s∈p.cls,clS s=s:=fun s hs=>by
   obtain⟨v1,v2⟩:=yX hv p hp s hs;unfold clS;rw[xP v1,xP v2]
  unfold clP;rw[List.map_congr_left (g:=fun s=>s) this];simp
 unfold clD;rw[List.map_congr_left (g:=fun p=>p) h];simp
theorem X7{l:List Prc}(hp:l.Pairwise (fun a b=>ordP a b<0))(s:List UInt8)(a:Int):atR l s a=if fnD l (keyP s a)=true then(lbD l (keyP s a):Int) else -1:=by
 unfold atR;by_cases hf:fnD l (keyP s a)=true
 ·rw[Zc hf];obtain⟨p,hpp⟩:=XN hf;have hk:p.name=s/\p.ar=a:=by
   have:=hf;unfold fnD at this;rw[hpp] at this;exact ordP_zero.1 (zi this)
  have:l.findIdx? (fun p=>decide (p.name=s/\p.ar=a))=some (lbD l (keyP s a)):=by
   rw[z6];obtain⟨h1,h2⟩:=Zb.1 hpp;refine⟨h1,by rw[h2];exact Zs hk,fun j hj=> ?_⟩;have hjl:j<l.length:=by omega
   have:=(xl (q:=keyP s a) (Qq hp) (Zf hjl)).2 hj;simp only[Zw];intro hkk;rw[(ordP_zero (p:=l[j]) (q:=keyP s a)).2 hkk] at this;omega
  rw[this]
 ·rw[Za hf];have:l.findIdx? (fun p=>decide (p.name=s/\p.ar=a))=none:=by
   rw[List.findIdx?_eq_none_iff];intro x hx;simp only[decide_eq_false_iff_not];intro hk;exact hf ((q8 _ hp).2 ⟨x,hx,ordP_zero.2 hk⟩)
  rw[this]
theorem GM{l:List Prc}(hp:l.Pairwise (fun a b=>ordP a b<0))(s:List UInt8)(a:Int)(b:Bool)(hf:fnD l (keyP s a)=false):wpos l ⟨s,a,b,[]⟩=lbD l (keyP s a):=by
 obtain⟨c1,c2⟩:=kX (keyP s a) hp;have ek:∀x,ordP ⟨s,a,b,[]⟩ x=ordP (keyP s a) x:=fun x=>Q9 rfl rfl rfl rfl;have hle:=xL l (keyP s a);have hne:∀x∈l,ordP x (keyP s a)≠0:=fun x hx e=>by
  rw[(q8 _ hp).2 ⟨x,hx,e⟩] at hf;cases hf
 have hlo:∀j (hj:j<l.length),j<lbD l (keyP s a)->¬ordP (keyP s a) l[j]<0:=fun j hj hlt hc=>by
  have h1:=(xl (q:=keyP s a) (Qq hp) (Zf hj)).2 hlt;have:=qW h1 hc;rw[ordP_zero.2 ⟨rfl,rfl⟩] at this;omega
 have hhi:∀j (hj:j<l.length),lbD l (keyP s a)<=j->ordP (keyP s a) l[j]<0:=fun j hj hle=>by
  refine Gs (fun hc=> ?_) (hne _ (List.getElem_mem hj));have:=(xl (q:=keyP s a) (Qq hp) (Zf hj)).1 hc;omega
 unfold wpos;rcases Zv (lbD l (keyP s a)) l.length with h|h
 ·rw[List.findIdx_eq h];refine⟨Zs (by rw[ek];exact hhi _ h (Ze _)),fun j hj=>ZL (by rw[ek];exact hlo j (by omega) hj)⟩
 ·have e:lbD l (keyP s a)=l.length:=by omega
  rw[e];refine List.findIdx_eq_length_of_false fun x hx=>ZL ?_;obtain⟨j,hj⟩:=ZS.1 hx;obtain⟨h1,h2⟩:=Zb.1 hj;rw[ek,<-h2];exact hlo j h1 (by omega)
def OwnD(s0:AV)(ps:List Prc)(els:List AV)(H:Heap):Prop:=(s0=.nilv (some 4)/\ps=[]/\els=[])\/∃q,s0=.slv (some 4) q ps.length 0 ps.length/\SlQ q els ps H
theorem SlQ.fa{q:Nat}{els:List AV}{ps:List Prc}{H H':Heap}(h:SlQ q els ps H)(f:Fa H H')(hq:H'[q]? =some (.arv (some 4) els)):SlQ q els ps H':=⟨hq,h.2.1,fun j p v hj hv=>(h.2.2 j p v hj hv).fa f⟩
theorem OwnD.app{s0:AV}{ps:List Prc}{els:List AV}{H:Heap}(h:OwnD s0 ps els H)(X:Heap):OwnD s0 ps els (H++X):=by
 rcases h with h|⟨q,h1,h2⟩
 ·exact .inl h
 ·exact .inr ⟨q,h1,h2.fa (Fa.app H X) (by rw[Zn (YT h2.1),h2.1])⟩
theorem OwnD.slK{s0:AV}{ps:List Prc}{els:List AV}{H:Heap}(h:OwnD s0 ps els H):SlK s0:=by
 rcases h with⟨h,_⟩|⟨q,h,_⟩
 ·exact .inl h
 ·exact .inr ⟨_,_,_,_,h⟩
theorem OwnD.len{s0:AV}{ps:List Prc}{els:List AV}{H:Heap}(h:OwnD s0 ps els H):sLen [s0]=some (.pv none (.int .i64 ps.length)):=by
 rcases h with⟨h,h2,_⟩|⟨q,h,_⟩
 ·rw[h,h2];rfl
 ·rw[h];rfl
theorem OwnD.frz{n:Int}{s0:AV}{ps:List Prc}{els:List AV}{H:Heap}(h:OwnD s0 ps els H):∃H',AV.freeze deep (agD n s0) H=some ((⟨n,ps⟩:Dbs).pv,H'):=by
 rcases h with⟨rfl,rfl,_⟩|⟨q,rfl,h⟩
 ·exact⟨H,MJ n H⟩
 ·exact h.frz
theorem Ji{n:Int}{s0:AV}{ps:List Prc}{els:List AV}{H:Heap}(h:OwnD s0 ps els H)(hl:ps.length<1000000000)(s:List UInt8)(a:Int):S 58 [agD n s0,.pv none (.str s),.pv none (.int .i64 a)] H=some (.ret (.pv none (.int .i64 (atR ps s a))),H):=by
 obtain⟨H',hz⟩:=h.frz (n:=n);have hsh:=(Xr h.slK).2.2.2.2.2.2 n;exact Xa (F:=find tab) (prim:=prim) (f:=58) (ps:=[(some 2,(⟨n,ps⟩:Dbs).pv),(none,.str s),(none,.int .i64 a)]) (hp1:=H') rfl rfl rfl (by simp only[Yn,hz,hsh];rfl) (Qs ⟨n,ps⟩ hl s a [])
def OwnQ(s0:AV)(ps:List Prc)(qs:List Nat)(H:Heap):Prop:=qs.length=ps.length/\qs.Nodup/\Xq ps qs H/\((s0=.nilv (some 4)/\ps=[])\/∃q,s0=.slv (some 4) q ps.length 0 ps.length/\H[q]? =some (.arv (some 4) (elsQ ps qs)))
theorem OwnQ.own{s0:AV}{ps:List Prc}{qs:List Nat}{H:Heap}(h:OwnQ s0 ps qs H):OwnD s0 ps (elsQ ps qs) H:=by
 obtain⟨h1,h2,h3,h4⟩:=h;rcases h4 with⟨h4,rfl⟩|⟨q,h4,h5⟩
 ·exact .inl ⟨h4,rfl,by simp[elsQ]⟩
 ·exact .inr ⟨q,h4,h3.sl h1 h5⟩
theorem OwnQ.app{s0:AV}{ps:List Prc}{qs:List Nat}{H:Heap}(h:OwnQ s0 ps qs H)(X:Heap):OwnQ s0 ps qs (H++X):=by
 obtain⟨h1,h2,h3,h4⟩:=h;refine⟨h1,h2,h3.fs (Fs.app H X),?_⟩;rcases h4 with h4|⟨q,h4,h5⟩
 ·exact .inl h4
 ·exact .inr ⟨q,h4,by rw[Zn (YT h5),h5]⟩
theorem rclone_own'(d:Dbs)(hb:BndD d)(hp:Heap):∃s0 qs E,S 5 [d.av] hp=some (.ret (agD d.next s0),hp++E)/\OwnQ s0 (clD d).procs qs (hp++E):=by
 obtain⟨v,hp',h1,h2⟩:=MN d hb hp (fun p hpm=>by have:=ye hpm;have:=hb.2.1;omega) hb.1;have hl:(clD d).procs.length=d.procs.length:=by simp[clD]
 rcases h2 with⟨e1,rfl,rfl⟩|⟨q,qs,E,rfl,rfl,h3,h4,h5,h6⟩
 ·have e2:(clD d).procs=[]:=by simp[clD,e1]
  refine⟨.nilv (some 4),[],[],by rw[ZC];exact h1,by rw[e2];rfl,List.nodup_nil,fun j p q hj=> ?_,.inl ⟨rfl,e2⟩⟩;rw[e2] at hj;simp at hj
 ·exact⟨_,qs,E,h1,h4,h5,h6,.inr ⟨_,by rw[hl],by rw[Zp (by omega),ZW,h3]⟩⟩
theorem Qt(d:Dbs)(hv:okD d=true)(hp:Heap):∃s0 qs E,S 5 [d.av] hp=some (.ret (agD d.next s0),hp++E)/\OwnQ s0 d.procs qs (hp++E):=by
 have h:=rclone_own' d (Qr hv) hp;rw[Vf hv] at h;exact h
theorem MS(ps:List Prc)(qs:List Nat)(w:Nat)(p:Prc)(q:Nat)(hl:qs.length=ps.length):elsQ (ps.take w++p::ps.drop w) (qs.take w++q::qs.drop w)=(elsQ ps qs).take w++elQ p q::(elsQ ps qs).drop w:=by
 unfold elsQ;rw[List.zipWith_append (by simp[hl]),List.zipWith_cons_cons,List.take_zipWith,List.drop_zipWith]
theorem MT{l:List Nat}{w x:Nat}(h:l.Nodup)(hx:∀y∈l,y<x):(l.take w++x::l.drop w).Nodup:=by
 have hm:x ∉ l:=fun hm=>by have:=hx x hm;omega
 have:(x::(l.take w++l.drop w)).Nodup:=by
  rw[Z6];exact zM.2 ⟨hm,h⟩
 exact(List.Perm.nodup_iff List.perm_middle).2 this
theorem GN{n:Int}{s0:AV}{ps:List Prc}{qs:List Nat}{H:Heap}(h:OwnQ s0 ps qs H)(hl:ps.length<900000)(s:List UInt8)(a:Int)(b:Bool):∃s1 qs' E,S 59 [agD n s0,nwP s a b] H=some (.ret (agD n s1),H++E)/\OwnQ s1 (ps.take (wpos ps ⟨s,a,b,[]⟩)++(⟨s,a,b,[]⟩:Prc)::ps.drop (wpos ps ⟨s,a,b,[]⟩)) qs' (H++E):=by
 obtain⟨v,hp',h1,q,E,rfl,rfl,h2,h3⟩:=MQ n ps s0 (elsQ ps qs) s a b H hl h.own;obtain⟨g1,g2,g3,_⟩:=h;obtain⟨w,hw⟩:∃w,w=wpos ps ⟨s,a,b,[]⟩:=⟨_,rfl⟩;have hwl:w<=ps.length:=by rw[hw];exact List.findIdx_le_length
 rw[<-hw] at h2 ⊢;have hlp:(ps.take w++(⟨s,a,b,[]⟩:Prc)::ps.drop w).length=ps.length+1:=by simp;omega
 refine⟨_,qs.take w++(H.length+2)::qs.drop w,E,h1,by simp;omega,MT g2 (fun y hy=>by have:=g3.bd g1 y hy;omega),fun j p x hj hx=> ?_,.inr ⟨H.length+q,by rw[hlp],?_⟩⟩
 ·obtain⟨i1,i2,i3⟩:=Jg (⟨s,a,b,[]⟩:Prc) hwl;obtain⟨j1,j2,j3⟩:=Jg (H.length+2) (show w<=qs.length by omega);rcases zK j w with k|k|k
  ·rw[i1 j k] at hj;rw[j1 j k] at hx;exact Fs.app H E _ _ _ (g3 j p x hj hx)
  ·subst k;rw[i2] at hj;rw[j2] at hx;cases hj;cases hx;rw[Zp (by omega),ZW];exact h3
  ·obtain⟨j',rfl⟩:∃j',j=j'+1:=⟨j - 1,by omega⟩;rw[i3 j' (by omega)] at hj;rw[j3 j' (by omega)] at hx;exact Fs.app H E _ _ _ (g3 j' p x hj hx)
 ·rw[Zp (by omega),ZW,h2,MS _ _ _ _ _ g1]
theorem OwnQ.fs{s0:AV}{ps:List Prc}{qs:List Nat}{H:Heap}(h:OwnQ s0 ps qs H){i:Nat}{o:AObj}(h1:∀s es z,H[i]?≠some (AObj.arr s es z))(h2:∀s es,H[i]?≠some (AObj.arv s es)):OwnQ s0 ps qs (H.set i o):=by
 obtain⟨g1,g2,g3,g4⟩:=h;refine⟨g1,g2,g3.fs (Fs.set h1),?_⟩;rcases g4 with g4|⟨q,g4,g5⟩
 ·exact .inl g4
 ·refine .inr ⟨q,g4,?_⟩;rw[Zk (fun e=> ?_),g5];rw[e] at h2;exact h2 _ _ g5
theorem qc{n:Int}{s0:AV}{ps:List Prc}{els:List AV}{H:Heap}(h:OwnD s0 ps els H)(p:PV):Am.frozen (.tuple [(⟨n,ps⟩:Dbs).av,.pv none p]) (.tuple [agD n s0,.pv none p]) H:=by
 obtain⟨H',hz⟩:=h.frz (n:=n);have hsh:=(Xr h.slK).2.2.2.2.2.2 n;have e3:∀X,AV.freeze deep (.pv none p) X=some (p,X):=fun _=>rfl;refine⟨H',?_⟩;simp only[AV.freezeRes,Yn,hz,e3,hsh];rfl
theorem yY(E:Heap)(o:AObj):(E++[o])[E.length]? =some o:=by simp
theorem Xs(E:Heap)(o o':AObj):(E++[o]).set E.length o'=E++[o']:=by simp
theorem MU(d:Dbs)(hb:BndD d)(s:List UInt8)(a:Int)(b:Bool)(h:okD d=false\/namB (keyP s a)=false)(hp:Heap):S 24 [d.av,.pv none (.str s),.pv none (.int .i64 a),.pv none (.bool b)] hp=some (.ret (.tuple [YB.av,.pv none (.int .i64 1)]),hp):=by
 refine Ya rfl rfl rfl (z9 [(some 2,d.pv),(none,.str s),(none,.int .i64 a),(none,.bool b)]) rfl ?_;have h1:=fun hp=>yH d hb hp;have h2:=fun hp=>Jb s a hp;have hz0:Yi A1 [] []=some (.agg A1):=rfl;have hnil:∀H:Heap,Yb A3 H=(A3,H):=fun _=>rfl;simp only[Dbs.av] at h1;cases hv:okD d with
 |false=>
  rw[hv] at h1;simp -dsimp -implicitDefEqProofs only[go_sem,seval,↓reduceIte,Dbs.av,h1,hz0,hnil,z7 (Zd _)];exact⟨_,rfl⟩
 |true=>
  have hn:namB (keyP s a)=false:=by
   rcases h with h|h
   ·rw[hv] at h;cases h
   ·exact h
  rw[hv] at h1;rw[hn] at h2;simp -dsimp -implicitDefEqProofs only[go_sem,seval,↓reduceIte,Dbs.av,h1,h2,hz0,hnil,z7 (Zd _)];exact⟨_,rfl⟩
theorem Qu{s0 s1:AV}(k:SlK s1)(n m:Int)(x0 x1:AObj)(E:Heap)(hs:∃v,s0=v):z8 (some 2) 0 (x0::x1::(E++[.box (some 2) (agD m s0)])) [.ptr (E.length+1+1) 0,agD n s1]=some (.undef,x0::x1::(E++[.box (some 2) (agD n s1)])):=by
 obtain⟨_,_,_,_,f5,f6,f7⟩:=Xr k;simp[z8,astore,f5,f6,f7]
theorem Vg{s1:AV}(k:SlK s1)(n:Int)(x0:AObj)(v:AV)(X:Heap):z8 (some 2) 0 (x0::.box (some 2) v::X) [.ptr 1 0,agD n s1]=some (.undef,x0::.box (some 2) (agD n s1)::X):=by
 obtain⟨_,_,_,_,f5,f6,f7⟩:=Xr k;simp[z8,astore,f5,f6,f7]
theorem GO(x0:AObj)(v:AV)(X:Heap)(r:AV):YL ⟨[(8,.ptr 1 0),(9,r)],x0::.box (some 2) v::X⟩ (8,some (some 2))=some v:=by
 simp[YL,Fr.look,aload]
theorem Xt{d:Dbs}(hv:okD d=true):d.procs.Pairwise (fun a b=>ordP a b<0):=((YG d).1 hv).2.2.2.2.2.1
theorem MV(d:Dbs)(hb:BndD d)(s:List UInt8)(a:Int)(b:Bool)(hv:okD d=true)(hn:namB (keyP s a)=true)(hf:fnD d.procs (keyP s a)=false)(hl:d.procs.length=500)(hp:Heap):S 24 [d.av,.pv none (.str s),.pv none (.int .i64 a),.pv none (.bool b)] hp=some (.ret (.tuple [YB.av,.pv none (.int .i64 13)]),hp):=by
 refine Ya rfl rfl rfl (z9 [(some 2,d.pv),(none,.str s),(none,.int .i64 a),(none,.bool b)]) rfl ?_;have h1:=fun hp=>yH d hb hp;have h2:=fun hp=>Jb s a hp;obtain⟨b0,hb0⟩:∃b0:AObj,b0=.box (some 2) (.pv (some 2) d.pv):=⟨_,rfl⟩;obtain⟨x1,hx1⟩:∃x1:AObj,x1=.box (some 2) (.agg A1):=⟨_,rfl⟩;obtain⟨s0,qs,E,h3,hQ⟩:=Qt d hv [b0,x1];have hO:=hQ.own;have hz0:Yi A1 [] []=some (.agg A1):=rfl;have hnil:∀H:Heap,Yb A3 H=(A3,H):=fun _=>rfl;have h4:=fun X=>Ji (n:=d.next) (hO.app X) (by omega) s a;have hat:atR d.procs s a= -1:=by rw[X7 (Xt hv),hf];rfl
 rw[hat] at h4;have hk:=hO.slK;have hlen:=hO.len;have hpt:AV.part deep (agD d.next s0) 1 none=some s0:=rfl;have hl':((500:Int)<=(d.procs.length:Int))=True:=Zo (by omega);have hst:=fun m s'=>Qu (s0:=s') hk d.next m b0 x1 E ⟨_,rfl⟩
 have hst':=hst 0 (.nilv (some 4));simp only[Dbs.av,ZK,ZJ] at h1 h3 h4;rw[hv] at h1;rw[hn] at h2;subst hb0;rw[hx1] at h3 h4 hst';simp only[agD] at*;simp -dsimp -implicitDefEqProofs only[go_sem,seval,↓reduceIte,Dbs.av,Ye,Prc.pvs_len,h1,h2,h3,h4,hz0,hl',hpt,hst',hlen,yY,Xs,hnil,z7 (Zd _)];exact⟨_,rfl⟩
theorem MW(d:Dbs)(hb:BndD d)(s:List UInt8)(a:Int)(b:Bool)(hv:okD d=true)(hn:namB (keyP s a)=true)(hf:fnD d.procs (keyP s a)=false)(hl:d.procs.length≠500)(hp:Heap):S 24 [d.av,.pv none (.str s),.pv none (.int .i64 a),.pv none (.bool b)] hp=some (.ret (.tuple [(⟨d.next,d.procs.take (lbD d.procs (keyP s a))++(⟨s,a,b,[]⟩:Prc)::d.procs.drop (lbD d.procs (keyP s a))⟩:Dbs).av,.pv none (.int .i64 0)]),hp):=by
 refine Ya rfl rfl rfl (z9 [(some 2,d.pv),(none,.str s),(none,.int .i64 a),(none,.bool b)]) rfl ?_;have h1:=fun hp=>yH d hb hp;have h2:=fun hp=>Jb s a hp;have hd5:=(YG d).1 hv;obtain⟨b0,hb0⟩:∃b0:AObj,b0=.box (some 2) (.pv (some 2) d.pv):=⟨_,rfl⟩;obtain⟨x1,hx1⟩:∃x1:AObj,x1=.box (some 2) (.agg A1):=⟨_,rfl⟩;obtain⟨s0,qs,E,h3,hQ⟩:=Qt d hv [b0,x1];have hO:=hQ.own;have hbd:Yi A2 [0,1,2] [.pv none (.str s),.pv none (.int .i64 a),.pv none (.bool b)]=some (nwP s a b):=rfl;have hnil:∀H:Heap,Yb A3 H=(A3,H):=fun _=>rfl;have h4:=fun X=>Ji (n:=d.next) (hO.app X) (by omega) s a;have hat:atR d.procs s a= -1:=by rw[X7 (Xt hv),hf];rfl
 rw[hat] at h4;have hk:=hO.slK;have hlen:=hO.len;have hpt:AV.part deep (agD d.next s0) 1 none=some s0:=rfl;have hl':((500:Int)<=(d.procs.length:Int))=False:=Zl (by omega);have hst':=Qu (s0:=.nilv (some 4)) hk d.next 0 b0 x1 E ⟨_,rfl⟩
 obtain⟨s1,qs1,E2,h5,hQ5⟩:=GN (n:=d.next) (hQ.app [.box (some 2) (agD d.next s0)]) (by omega) s a b;rw[GM (Xt hv) s a b hf] at hQ5;have hN:=(hQ5.fs (i:=1) (o:=.box (some 2) (agD d.next s1)) (by intro s es z h;rw[hx1] at h;cases h) (by intro s es h;rw[hx1] at h;cases h)).own;have hF:=qc hN (.int .i64 0) (n:=d.next);have hr:=fun X=>GO b0 (agD d.next s1) X (.pv none (.int .i64 0));have hst2:=fun X v=>Vg hN.slK d.next b0 v X
 simp only[Dbs.av,ZK,ZJ,ZD,List.set_cons_succ,List.set_cons_zero] at h1 h3 h4 h5 hF;rw[hv] at h1;rw[hn] at h2;subst hb0;rw[hx1] at h3 h4 h5 hst';simp only[agD] at*;simp -dsimp -implicitDefEqProofs only[go_sem,seval,↓reduceIte,Dbs.av,Ye,Prc.pvs_len,h1,h2,h3,h4,h5,hl',hpt,hst',hst2,hr,hbd,hlen,yY,Xs,hnil];simp only[yr] at hF;exact hF
theorem GP(E:Heap)(q:Nat)(v o:AObj):(E.set q v++[o])[E.length]? =some o:=by
 rw[Zp (by simp)];simp
theorem GQ(E:Heap)(q:Nat)(v o o':AObj):(E.set q v++[o]).set E.length o'=E.set q v++[o']:=by
 rw[zu _ _ (by simp)];simp
theorem SlQ.setE{q:Nat}{els:List AV}{ps:List Prc}{H H':Heap}{i:Nat}{p':Prc}{v':AV}(h:SlQ q els ps H)(hq:H'[q]? =some (.arv (some 4) (els.set i v')))(hv:ElP p' v' H')(ho:∀(j:Nat) (p:Prc) (v:AV),j≠i->ps[j]? =some p->els[j]? =some v->ElP p v H->ElP p v H'):SlQ q (els.set i v') (ps.set i p') H':=by
 refine⟨hq,by rw[zf,zf];exact h.2.1,fun j p v hj hu=> ?_⟩;by_cases e:i=j
 ·subst e;have h1:i<ps.length:=by have:=(Zb.1 hj).1;simpa using this
  have h2:i<els.length:=by have:=(Zb.1 hu).1;simpa using this
  rw[Zr h1] at hj;rw[Zr h2] at hu;cases hj;cases hu;exact hv
 ·rw[Zk e] at hj hu;exact ho j p v (fun h=>e h.symm) hj hu (h.2.2 j p v hj hu)
theorem OwnQ.two{s0:AV}{ps:List Prc}{qs:List Nat}{x0 x1:AObj}{E:Heap}{i:Nat}{p:Prc}(h:OwnQ s0 ps qs (x0::x1::E))(h0:∀s es,x0≠AObj.arv s es)(h1:∀s es,x1≠AObj.arv s es)(hp:ps[i]? =some p):∃q x,s0=.slv (some 4) (q+1+1) ps.length 0 ps.length/\E[q]? =some (.arv (some 4) (elsQ ps qs))/\(elsQ ps qs)[i]? =some (elQ p x)/\qs[i]? =some x:=by
 obtain⟨g1,g2,g3,g4⟩:=h;rcases g4 with⟨_,rfl⟩|⟨q,rfl,g5⟩
 ·simp at hp
 ·obtain⟨x,hx⟩:∃x,qs[i]? =some x:=⟨_,Zf (by have:=(Zb.1 hp).1;omega)⟩
  match q,g5 with
  |0,g5=>cases g5;exact absurd rfl (h0 _ _)
  |1,g5=>cases g5;exact absurd rfl (h1 _ _)
  |q+2,g5=>exact⟨q,x,rfl,g5,Je hp hx,hx⟩
set_option maxRecDepth 20000 in
theorem MX(d:Dbs)(hb:BndD d)(s:List UInt8)(a:Int)(b:Bool)(hv:okD d=true)(hn:namB (keyP s a)=true)(hf:fnD d.procs (keyP s a)=true)(p:Prc)(i:Nat)(hi:i=lbD d.procs (keyP s a))(hpp:d.procs[i]? =some p)(hp:Heap):S 24 [d.av,.pv none (.str s),.pv none (.int .i64 a),.pv none (.bool b)] hp=some (.ret (.tuple [(⟨d.next,d.procs.set i (dynP p b)⟩:Dbs).av,.pv none (.int .i64 0)]),hp):=by
 refine Ya rfl rfl rfl (z9 [(some 2,d.pv),(none,.str s),(none,.int .i64 a),(none,.bool b)]) rfl ?_;have h1:=fun hp=>yH d hb hp;have h2:=fun hp=>Jb s a hp;have hd5:=(YG d).1 hv;obtain⟨b0,hb0⟩:∃b0:AObj,b0=.box (some 2) (.pv (some 2) d.pv):=⟨_,rfl⟩;obtain⟨x1,hx1⟩:∃x1:AObj,x1=.box (some 2) (.agg A1):=⟨_,rfl⟩;obtain⟨s0,qs,E,h3,hQ⟩:=Qt d hv [b0,x1];have hO:=hQ.own;have hnil:∀H:Heap,Yb A3 H=(A3,H):=fun _=>rfl;have h4:=fun X=>Ji (n:=d.next) (hO.app X) (by omega) s a;have hat:atR d.procs s a=(i:Int):=by rw[X7 (Xt hv),Zc hf,hi]
 rw[hat] at h4;have hk:=hO.slK;obtain⟨q,x,hs0,hEq,hge,hqx⟩:=OwnQ.two (E:=E) hQ (by rw[hb0];intro s es h;cases h) (by rw[hx1];intro s es h;cases h) hpp;have hil:=(Zb.1 hpp).1;have hell:=Jd _ _ hQ.1;have hEl:=YT hEq;have hpt:AV.part deep (agD d.next s0) 1 none=some s0:=rfl;have hia:Yl (some 4) [s0,.pv none (.int .i64 i)]=some (.epv (some 4) (q+1+1) d.procs.length i 0):=by
  rw[hs0];simp[Yl,aindex,hil]
 have hfa:yz 2 [.epv (some 4) (q+1+1) d.procs.length i 0]=some (.epv (some 4) (q+1+1) d.procs.length i 2):=rfl;have hld:∀(y0 y1:AObj) (X:Heap),aload none (y0::y1::(E++X)) (.epv (some 4) (q+1+1) d.procs.length i 2)=some (.pv none (.bool p.dyn)):=fun y0 y1 X=>by
  have e:AV.part deep (elQ p x) 2 none=some (.pv none (.bool p.dyn)):=rfl;have g:(E++X)[q]? =some (.arv (some 4) (elsQ d.procs qs)):=by rw[Zn hEl,hEq]
  simp[aload,g,hell,hge,e]
 have hse:∀(y0 y1:AObj) (X:Heap) (c:Bool),z8 none 0 (y0::y1::(E++X)) [.epv (some 4) (q+1+1) d.procs.length i 2,.pv none (.bool c)]=some (.undef,y0::y1::(E.set q (.arv (some 4) ((elsQ d.procs qs).set i (elQ ⟨p.name,p.ar,c,p.cls⟩ x)))++X)):=fun y0 y1 X c=>by
  have e:AV.upd deep (elQ p x) 2 none (.pv none (.bool c))=some (elQ ⟨p.name,p.ar,c,p.cls⟩ x):=rfl;have g:(E++X)[q]? =some (.arv (some 4) (elsQ d.procs qs)):=by rw[Zn hEl,hEq]
  simp[z8,astore,g,hell,hge,e,AV.plain,AV.shp,zm _ _ hEl]
 have hS:SlQ (q+1+1) (elsQ d.procs qs) d.procs (b0::x1::E):=hQ.2.2.1.sl hQ.1 hEq;have fin:∀(X:Heap) (c:Bool),c=(p.dyn || b)->OwnD s0 (d.procs.set i (dynP p b)) ((elsQ d.procs qs).set i (elQ ⟨p.name,p.ar,c,p.cls⟩ x)) (b0::.box (some 2) (agD d.next s0)::(E.set q (.arv (some 4) ((elsQ d.procs qs).set i (elQ ⟨p.name,p.ar,c,p.cls⟩ x)))++X)):=fun X c hc=>by
  obtain⟨H',hH'⟩:∃H',H'=b0::.box (some 2) (agD d.next s0)::(E.set q (.arv (some 4) ((elsQ d.procs qs).set i (elQ ⟨p.name,p.ar,c,p.cls⟩ x)))++X):=⟨_,rfl⟩;have e:H'=(((b0::x1::E).set 1 (.box (some 2) (agD d.next s0))).set (q+1+1) (.arv (some 4) ((elsQ d.procs qs).set i (elQ ⟨p.name,p.ar,c,p.cls⟩ x))))++X:=by rw[hH'];rfl
  have hfa:Fa (b0::x1::E) H':=by
   rw[e];refine((Fa.set ?_).trans (Fa.set ?_)).trans (Fa.app _ _)
   ·intro s es z h;rw[hx1] at h;cases h
   ·intro s es z h;have:E[q]? =some (.arr s es z):=h;rw[hEq] at this;cases this
  rw[<-hH'];refine .inr ⟨q+1+1,by rw[hs0,zf],hS.setE ?_ ?_ fun j p v _ _ _ h=>h.fa hfa⟩
  ·rw[hH'];show(E.set q _++X)[q]? =_;rw[Zn (by simpa using hEl),Zr hEl]
  ·have:=hS.2.2 i p _ hpp hge;rcases this with h|⟨sv,h,k⟩
   ·cases h
   ·cases h;rw[hc];exact .inr ⟨_,rfl,k.fa hfa⟩
 have h0i:((0:Int)<=(i:Int))=True:=Zo (by omega);have hst':=Qu (s0:=.nilv (some 4)) hk d.next 0 b0 x1 E ⟨_,rfl⟩
 have hst2:=fun X v=>Vg hk d.next b0 v X
 have hr:=fun X=>GO b0 (agD d.next s0) X (.pv none (.int .i64 0));have hFr:=fun X c hc=>qc (fin X c hc) (.int .i64 0) (n:=d.next);simp only[Dbs.av,ZK,ZJ,ZD] at h1 h3 h4;rw[hv] at h1;rw[hn] at h2;subst hb0;rw[hx1] at h3 h4 hst';cases hd:p.dyn with
 |true=>
  rw[hd] at hld;have hF:=hFr [.box (some 2) (agD d.next s0)] true (by rw[hd];rfl);simp only[agD] at*;simp -dsimp -implicitDefEqProofs only[go_sem,seval,↓reduceIte,Dbs.av,Ye,Prc.pvs_len,h1,h2,h3,h4,h0i,hpt,hia,hfa,hld,hse,hst',hst2,hr,yY,Xs,GP,GQ,hnil];simp only[yr,Dbs.av] at hF;exact hF
 |false=>
  rw[hd] at hld;have hF:=hFr [.box (some 2) (agD d.next s0)] b (by rw[hd];rfl);simp only[agD] at*;simp -dsimp -implicitDefEqProofs only[go_sem,seval,↓reduceIte,Dbs.av,Ye,Prc.pvs_len,h1,h2,h3,h4,h0i,hpt,hia,hfa,hld,hse,hst',hst2,hr,yY,Xs,GP,GQ,hnil];simp only[yr,Dbs.av] at hF;exact hF
theorem MY(d:Dbs)(hb:BndD d)(s:List UInt8)(a:Int)(b:Bool)(hp:Heap):S 24 [d.av,.pv none (.str s),.pv none (.int .i64 a),.pv none (.bool b)] hp=some (.ret (.tuple [(YF d s a b).1.av,.pv none (.int .i64 (YF d s a b).2)]),hp):=by
 by_cases h:okD d=false\/namB (keyP s a)=false
 ·rw[MU d hb s a b h hp];simp only[YF,Zc h]
 ·have hv:okD d=true:=by cases e:okD d with|true=>rfl|false=>exact absurd (Or.inl e) h
  have hn:namB (keyP s a)=true:=by cases e:namB (keyP s a) with|true=>rfl|false=>exact absurd (Or.inr e) h
  cases hf:fnD d.procs (keyP s a) with
  |true=>
   obtain⟨p,hpp⟩:=XN hf;rw[MX d hb s a b hv hn hf p _ rfl hpp hp];simp only[YF,Za h,hf,hpp]
  |false=>
   by_cases hl:d.procs.length=500
   ·rw[MV d hb s a b hv hn hf hl hp];simp only[YF,Za h,hf,Zc hl]
   ·rw[MW d hb s a b hv hn hf hl hp];simp only[YF,Za h,hf,Za hl]
theorem OwnQ.three{s0:AV}{ps:List Prc}{qs:List Nat}{x0 x1 x2:AObj}{E:Heap}{i:Nat}{p:Prc}(h:OwnQ s0 ps qs (x0::x1::x2::E))(h0:∃s v,x0=AObj.box s v)(h1:∃s v,x1=AObj.box s v)(h2:∃s v,x2=AObj.box s v)(hp:ps[i]? =some p):∃q x,s0=.slv (some 4) (q+1+1+1) ps.length 0 ps.length/\E[q]? =some (.arv (some 4) (elsQ ps qs))/\(elsQ ps qs)[i]? =some (elQ p (x+1+1+1))/\qs[i]? =some (x+1+1+1)/\E[x]? =some (.arr (some 9) (Sto.pvs p.cls) false):=by
 obtain⟨g1,g2,g3,g4⟩:=h;obtain⟨_,_,rfl⟩:=h0;obtain⟨_,_,rfl⟩:=h1;obtain⟨_,_,rfl⟩:=h2;rcases g4 with⟨_,rfl⟩|⟨q,rfl,g5⟩
 ·simp at hp
 ·obtain⟨x,hx⟩:∃x,qs[i]? =some x:=⟨_,Zf (by have:=(Zb.1 hp).1;omega)⟩;have g6:=g3 i p x hp hx
  match q,g5 with
  |0,g5=>cases g5
  |1,g5=>cases g5
  |2,g5=>cases g5
  |q+3,g5=>
   match x,g6,hx with
   |0,g6,hx=>cases g6
   |1,g6,hx=>cases g6
   |2,g6,hx=>cases g6
   |x+3,g6,hx=>exact⟨q,x,rfl,g5,Je hp hx,hx,g6⟩
theorem MZ{s:AV}(h:SlK s)(n m:Int):AV.upd deep (agD n s) 0 none (.pv none (.int .i64 m))=some (agD m s):=by
 rcases h with rfl|⟨q,v,o,k,rfl⟩ <;> rfl
theorem M0{l:List Nat}{i j x:Nat}(h:l.Nodup)(hi:l[i]? =some x)(hj:l[j]? =some x):i=j:=by
 obtain⟨j1,j2⟩:=Zb.1 hj;obtain⟨i1,i2⟩:=Zb.1 hi;have k:=List.pairwise_iff_getElem.1 h;rcases zK i j with c|c|c
 ·exact absurd (i2.trans j2.symm) (k i j i1 j1 c)
 ·exact c
 ·exact absurd (j2.trans i2.symm) (k j i j1 i1 c)
def tlA:ACode:=.seq (.region true c25r13 [2,4,5,8,13,14]) (.seq (.region true c25r14 [2,4,8,13,14,15]) (.seq (.seq (.region true c25r15 [4,8,13,14,15,76]) c25k18) (.seq (.region true c25r19 [8,13]) (.seq (.region true c25r20 [8,9]) .ret))))
set_option maxRecDepth 20000 in
theorem GR(d:Dbs)(c:Cz)(hn:okC c=true)(z1:c.head.size<100000000)(z2:c.body.size<100000000)(hx0:0<=d.next)(hx:d.next<4294967296)(fr:Bool)(b0 b1:AObj)(hb0:b0=.box (some 2) (.pv (some 2) d.pv))(hb1:b1=.box (some 8) (.pv (some 8) c.pv))(w0:AV)(G:Heap)(g:Nat)(s:AV)(ps:List Prc)(qs:List Nat)(hG:G[g]? =some (.box (some 2) (agD d.next s)))(hQ:OwnQ s ps qs (b0::b1::.box (some 2) w0::G))(p:Prc)(i:Nat)(hpp:ps[i]? =some p)(hat:atR ps c.head.name c.head.args.length=(i:Int))(hc:p.cls.length<=500)(hl:ps.length<1000000)(F:Fr)(f2:F.look 2=some (.pv none (.bool fr)))(f4:F.look 4=some (.ptr 0 0))(f5:F.look 5=some (.ptr 1 0))(f8:F.look 8=some (.ptr 2 0))(f10:F.look 10=some (.pv none (.str c.head.name)))(f11:F.look 11=some (.pv none (.int .i64 c.head.args.length)))(f13:F.look 13=some (.ptr (g+1+1+1) 0)):
  W (sem (find tab) prim) (sloop (find tab) prim) 0 tlA ⟨F,b0::b1::.box (some 2) w0::G⟩ (endK g25.results (Am.frozen (.tuple [(⟨d.next+1,ps.set i ⟨p.name,p.ar,p.dyn,insC fr ⟨d.next,c⟩ p.cls⟩⟩:Dbs).av,.pv none (.int .i64 0)]))):=by
 subst hb0 hb1;have hO:=hQ.own;have hk:=hO.slK;have h4:=Ji (n:=d.next) hO (by omega) c.head.name c.head.args.length;rw[hat] at h4;obtain⟨vh,vb⟩:=Q6 hn;have hcs:clS ⟨d.next,c⟩=⟨d.next,c⟩:=by unfold clS;rw[xP vh,xP vb]
 have h7:=fun hp=>Vd ⟨d.next,c⟩ z1 z2 hp;rw[hcs] at h7;simp only[Sto.av] at h7;have hbs:Yi A4 [0,1] [.pv none (.int .i64 d.next),.pv (some 8) c.pv]=some (.pv (some 9) (Sto.mk d.next c).pv):=rfl;obtain⟨q,x,hs0,hEq,hge,hqx,hEx⟩:=OwnQ.three (E:=G) hQ ⟨_,_,rfl⟩ ⟨_,_,rfl⟩ ⟨_,_,rfl⟩ hpp;have hil:=(Zb.1 hpp).1;have hell:=Jd _ _ hQ.1;have hEl:=YT hEq;have hExl:=YT hEx;have hGl:=YT hG;have hpt:∀m,AV.part deep (agD m s) 1 none=some s:=fun _=>rfl;have hpt0:PV.part deep d.pv 0 none=some (.int .i64 d.next):=rfl;have hia:Yl (some 4) [s,.pv none (.int .i64 i)]=some (.epv (some 4) (q+1+1+1) ps.length i 0):=by
  rw[hs0];simp[Yl,aindex,hil]
 have hfa:yz 3 [.epv (some 4) (q+1+1+1) ps.length i 0]=some (.epv (some 4) (q+1+1+1) ps.length i 3):=rfl;obtain⟨b0,hb0⟩:∃b0:AObj,b0=.box (some 2) (.pv (some 2) d.pv):=⟨_,rfl⟩;obtain⟨b1,hb1⟩:∃b1:AObj,b1=.box (some 8) (.pv (some 8) c.pv):=⟨_,rfl⟩;obtain⟨nw,hnw⟩:∃nw,nw=Sto.mk d.next c:=⟨_,rfl⟩
 obtain⟨n,hn'⟩:∃n,n=p.cls.length:=⟨_,rfl⟩;obtain⟨cl',hcl'⟩:∃cl',cl'=insC fr nw p.cls:=⟨_,rfl⟩;have hcll:cl'.length=n+1:=by rw[hcl',kT,hn']
 obtain⟨p',hp'⟩:∃p':Prc,p'=⟨p.name,p.ar,p.dyn,cl'⟩:=⟨_,rfl⟩;obtain⟨els,hels⟩:∃els,els=elsQ ps qs:=⟨_,rfl⟩;rw[<-hels] at hEq hge hell;rw[<-hb0,<-hb1] at hQ;have hld:∀(y0 y1 y2:AObj) (X:Heap),aload none (y0::y1::y2::(G++X)) (.epv (some 4) (q+1+1+1) ps.length i 3)=some (.sl (some 9) (x+1+1+1) n 0 n):=fun y0 y1 y2 X=>by
  have e:AV.part deep (elQ p (x+1+1+1)) 3 none=some (.sl (some 9) (x+1+1+1) n 0 n):=by rw[hn'];rfl
  have g:(G++X)[q]? =some (.arv (some 4) els):=by rw[Zn hEl,hEq]
  simp[aload,g,hell,hge,e]
 have hGa:∀X,(G++X)[g]? =some (.box (some 2) (agD d.next s)):=fun X=>by rw[Zn hGl,hG]
 have beq_s:AV.beq s s=true:=(Xr hk).2.2.2.1;have core:∀(G1 X:Heap) (sv:AV),G1.length=G.length->G1[q]? =some (.arv (some 4) els)->G1[g]? =some (.box (some 2) (agD d.next s))->sv.plain=true->sv.shp=none->AV.upd deep (elQ p (x+1+1+1)) 3 none sv=some (agP p' sv)->SvP sv cl' (b0::b1::.box (some 2) w0::(G1++X))->(∀(j:Nat) (pj:Prc) (qj:Nat),j≠i->ps[j]? =some pj->qs[j]? =some qj->(b0::b1::.box (some 2) w0::(G1++X))[qj]? =some (.arr (some 9) (Sto.pvs pj.cls) false))->
   ∃G2 G3:Heap,(∀y0 y1 y2:AObj,z8 none 0 (y0::y1::y2::(G1++X)) [.epv (some 4) (q+1+1+1) ps.length i 3,sv]=some (.undef,y0::y1::y2::(G2++X)))/\(G2++X)[g]? =some (.box (some 2) (agD d.next s))/\(∀y0 y1 y2:AObj,z8 none 0 (y0::y1::y2::(G2++X)) [.ptr (g+1+1+1) 0,.pv none (.int .i64 (d.next+1))]=some (.undef,y0::y1::y2::(G3++X)))/\(G3++X)[g]? =some (.box (some 2) (agD (d.next+1) s))/\OwnD s (ps.set i p') (els.set i (agP p' sv)) (b0::b1::.box (some 2) (agD (d.next+1) s)::(G3++X)):=fun G1 X sv k1 k2 k3 k6 k7 k8 k4 k5=>by
  have kq:=YT k2;have kg:=YT k3;obtain⟨ov,hov⟩:∃ov:AObj,ov=.arv (some 4) (els.set i (agP p' sv)):=⟨_,rfl⟩;obtain⟨ob,hob⟩:∃ob:AObj,ob=.box (some 2) (agD (d.next+1) s):=⟨_,rfl⟩;have hqg:q≠g:=fun e=>by rw[e,k3] at k2;cases k2
  have c1:(G1++X)[q]? =some (.arv (some 4) els):=by rw[Zn kq,k2]
  have c2:(G1.set q ov++X)[g]? =some (.box (some 2) (agD d.next s)):=by rw[Zn (by simpa using kg),Zk hqg,k3]
  have c3:((G1.set q ov).set g ob++X)[g]? =some ob:=by rw[Zn (by simpa using kg),Zr (by simpa using kg)]
  have c4:((G1.set q ov).set g ob++X)[q]? =some ov:=by rw[Zn (by simpa using kq),Zk (fun e=>hqg e.symm),Zr kq]
  refine⟨G1.set q ov,(G1.set q ov).set g ob,fun y0 y1 y2=> ?_,c2,fun y0 y1 y2=> ?_,by rw[c3,hob],?_⟩
  ·simp[z8,astore,c1,hell,hge,k6,k7,k8,zm _ _ kq,hov]
  ·have e:=MZ hk d.next (d.next+1)
   simp[z8,astore,c2,e,AV.plain,AV.shp,AV.own,zm _ _ (show g<(G1.set q ov).length by simpa using kg),hob]
  ·obtain⟨H1,hH1⟩:∃H1,H1=b0::b1::.box (some 2) w0::(G1++X):=⟨_,rfl⟩;have eH:b0::b1::ob::((G1.set q ov).set g ob++X)=(((H1.set 2 ob).set (q+1+1+1) ov).set (g+1+1+1) ob):=by
    rw[hH1];simp[zm _ _ kq,zm _ _ (show g<(G1.set q ov).length by simpa using kg)]
   have f1:Fa H1 (b0::b1::ob::((G1.set q ov).set g ob++X)):=by
    rw[eH];refine(Fa.set ?_).trans ((Fa.set ?_).trans (Fa.set ?_))
    ·intro s es z h;rw[hH1] at h;cases h
    ·intro s es z h;rw[hH1] at h;have:(G1++X)[q]? =some (.arr s es z):=h;rw[c1] at this;cases this
    ·intro s es z h;rw[hH1] at h;have:((G1++X).set q ov)[g]? =some (.arr s es z):=h;rw[zm _ _ kq,c2] at this;cases this
   rw[<-hH1] at k4 k5;rw[<-hob];have htk:∀l:List Sto,(Sto.pvs l).take l.length=Sto.pvs l:=fun l=>Zq (by rw[Sto.pvs_len];exact Ze _);refine .inr ⟨q+1+1+1,by rw[hs0,zf],by show((G1.set q ov).set g ob++X)[q]? =_;rw[c4,hov],by rw[zf,zf,hell],fun j pj v hj hv=> ?_⟩;by_cases e:i=j
   ·subst e;rw[Zr hil] at hj;rw[Zr (by omega)] at hv;cases hj;cases hv;have e2:p'.cls=cl':=by rw[hp']
    exact .inr ⟨_,rfl,by rw[e2];exact k4.fa f1⟩
   ·rw[Zk e] at hj hv;obtain⟨y,hy⟩:∃y,qs[j]? =some y:=⟨_,Zf (by have:=(Zb.1 hj).1;have:=hQ.1;omega)⟩;rw[hels,Je hj hy] at hv;cases hv;exact ElP.fa (.inr ⟨_,rfl,.inr ⟨y,pj.cls.length,Sto.pvs pj.cls,false,rfl,k5 j pj y (fun h=>e h.symm) hj hy,Sto.pvs_len _,Ze _,htk _⟩⟩) f1
 have hw1:IntKind.i64.wrap (d.next+1)=d.next+1:=by
  rw[Yf (by omega) (by omega)]
 have hres:∀(y0 y1:AObj) (X:Heap),z8 (some 2) 0 (y0::y1::.box (some 2) w0::X) [.ptr 2 0,agD (d.next+1) s]=some (.undef,y0::y1::.box (some 2) (agD (d.next+1) s)::X):=fun y0 y1 X=>by
  obtain⟨_,_,_,_,f5,f6,f7⟩:=Xr hk;simp[z8,astore,f5,f6,f7]
 have hr:∀(y0 y1:AObj) (X:Heap),YL ⟨[(8,.ptr 2 0),(9,.pv none (.int .i64 0))],y0::y1::.box (some 2) (agD (d.next+1) s)::X⟩ (8,some (some 2))=some (agD (d.next+1) s):=fun y0 y1 X=>by
  simp[YL,Fr.look,aload]
 have hlim:n+1<=lim:=by unfold lim;omega
 have hpl:(Sto.pvs p.cls).length=n:=by rw[Sto.pvs_len,hn']
 rw[<-hnw] at h7 hbs ⊢;rw[<-hcl',<-hp'];have hsa:∀(y0 y1 y2 z0 z1 z2:AObj) (X X':Heap),Yr (y0::y1::y2::(G++X)) (z0::z1::z2::(G++X')) (.ptr (g+1+1+1) 1)=true:=fun y0 y1 y2 z0 z1 z2 X X'=>by
  simp[Yr,hGa,agD,AObj.beq,AV.beq,AV.beqc,PV.beq,beq_s]
 have hkeep:∀X:Heap,∀(j:Nat) (pj:Prc) (qj:Nat),ps[j]? =some pj->qs[j]? =some qj->(b0::b1::.box (some 2) w0::(G++X))[qj]? =some (.arr (some 9) (Sto.pvs pj.cls) false):=fun X j pj qj hj hqj=>Fs.app _ _ _ _ _ (hQ.2.2.1 j pj qj hj hqj);have hn0:G++([]:Heap)=G:=ZC _;cases fr with
 |true=>
  have hcv:Sto.pvs cl'=nw.pv::Sto.pvs p.cls:=by rw[hcl'];simp[insC,Sto.pvs]
  by_cases h0:n=0
  ·have hpn:Sto.pvs p.cls=[]:=zd (by omega);have hA:∀(y0 y1 y2:AObj),YC (some 9) (y0::y1::y2::G) [.tsl (some 9) [nw.pv],.sl (some 9) (x+1+1+1) n 0 n]=some (.tsl (some 9) (Sto.pvs cl'),y0::y1::y2::G):=fun y0 y1 y2=>by
    rw[h0,hcv,hpn];rw[hpn] at hEx;simp[YC,aappend,elems,hEx]
   obtain⟨G2,G3,c1,c2,c3,c4,c5⟩:=core G [] (.tsl (some 9) (Sto.pvs cl')) rfl hEq hG rfl rfl (by rw[hp'];rfl) (.inl rfl) (fun j pj qj _ hj hqj=>hkeep [] j pj qj hj hqj);have hsa':=fun y0 y1 y2 z0 z1 z2=>hsa y0 y1 y2 z0 z1 z2 [] [];have hld':=fun y0 y1 y2=>hld y0 y1 y2 [];have hF:=qc c5 (.int .i64 0) (n:=d.next+1);simp only[ZC] at hsa' hld' c1 c2 c3 c4 hF;simp only[agD] at*;simp -dsimp -implicitDefEqProofs only[tlA,g25,c25r0,c25r1,c25r2,c25k3,c25r4,c25r5,c25r6,c25r7,c25k8,c25r9,c25r10,c25r11,c25k12,c25r13,c25r14,c25r15,c25r16,c25r17,c25k18,c25r19,c25r20,go_sem,seval,↓reduceIte,Cz.av,f2,f4,f5,f8,f10,f11,f13,hG,h4,h7,hbs,hpt,hpt0,hia,hfa,hld',hA,hsa',c1,c2,c3,c4,hw1,hres,hr,jA,ZN,ze,zj,Z9];simp only[yr,Dbs.av] at hF;rw[hb0,hb1] at hF;exact hF
  ·have hne:Sto.pvs p.cls≠[]:=fun h=>h0 (by rw[<-hpl,h];rfl);have hA:∀(y0 y1 y2:AObj),YC (some 9) (y0::y1::y2::G) [.tsl (some 9) [nw.pv],.sl (some 9) (x+1+1+1) n 0 n]=some (.sl (some 9) (G.length+1+1+1) (n+1) 0 (n+1),y0::y1::y2::(G++[.arr (some 9) (Sto.pvs cl') false])):=fun y0 y1 y2=>by
    have hlim':1+n<=lim:=by omega
    simp[YC,aappend,elems,hEx,hpl,hlim,hlim',hcv,hne,Nat.add_comm 1 n]
   obtain⟨G2,G3,c1,c2,c3,c4,c5⟩:=core G [.arr (some 9) (Sto.pvs cl') false] (.sl (some 9) (G.length+1+1+1) (n+1) 0 (n+1)) rfl hEq hG rfl rfl (by rw[hp'];rfl) (.inr ⟨G.length+1+1+1,n+1,Sto.pvs cl',false,by rw[hcll],by simp,by rw[Sto.pvs_len,hcll],by omega,Zq (by rw[Sto.pvs_len];exact Ze _)⟩) (fun j pj qj _ hj hqj=>hkeep _ j pj qj hj hqj);have hsa':=fun y0 y1 y2 z0 z1 z2 X=>hsa y0 y1 y2 z0 z1 z2 [] X;have hld':=fun y0 y1 y2=>hld y0 y1 y2 [];have hF:=qc c5 (.int .i64 0) (n:=d.next+1);simp only[ZC] at hsa' hld';simp only[agD] at*;simp -dsimp -implicitDefEqProofs only[tlA,g25,c25r0,c25r1,c25r2,c25k3,c25r4,c25r5,c25r6,c25r7,c25k8,c25r9,c25r10,c25r11,c25k12,c25r13,c25r14,c25r15,c25r16,c25r17,c25k18,c25r19,c25r20,go_sem,seval,↓reduceIte,Cz.av,f2,f4,f5,f8,f10,f11,f13,hG,h4,h7,hbs,hpt,hpt0,hia,hfa,hld',hA,hsa',c1,c2,c3,c4,hw1,hres,hr,jA,ZN,ze,zj,Z9];simp only[yr,Dbs.av] at hF;rw[hb0,hb1] at hF;exact hF
 |false=>
  have hcv:Sto.pvs cl'=Sto.pvs p.cls++[nw.pv]:=by rw[hcl'];simp[insC,Sto.pvs]
  obtain⟨oa,hoa⟩:∃oa:AObj,oa=.arr (some 9) (Sto.pvs cl') false:=⟨_,rfl⟩;have hA:∀(y0 y1 y2:AObj),YC (some 9) (y0::y1::y2::G) [.sl (some 9) (x+1+1+1) n 0 n,.tsl (some 9) [nw.pv]]=some (.sl (some 9) (x+1+1+1) (n+1) 0 (n+1),y0::y1::y2::G.set x oa):=fun y0 y1 y2=>by
   simp[YC,aappend,elems,hEx,hpl,hlim,hcv,hoa]
  have hxq:x≠q:=fun e=>by rw[e,hEq] at hEx;cases hEx
  have hxg:x≠g:=fun e=>by rw[e,hG] at hEx;cases hEx
  have hsx:∀(y0 y1 y2 z0 z1 z2:AObj),Yr (y0::y1::y2::G) (z0::z1::z2::G.set x oa) (.ptr (g+1+1+1) 1)=true:=fun y0 y1 y2 z0 z1 z2=>by
   have e:(G.set x oa)[g]? =some (.box (some 2) (agD d.next s)):=by rw[Zk hxg,hG]
   simp[Yr,hG,e,agD,AObj.beq,AV.beq,AV.beqc,PV.beq,beq_s]
  obtain⟨G2,G3,c1,c2,c3,c4,c5⟩:=core (G.set x oa) [] (.sl (some 9) (x+1+1+1) (n+1) 0 (n+1)) (by simp) (by rw[Zk hxq,hEq]) (by rw[Zk hxg,hG]) rfl rfl (by rw[hp'];rfl) (.inr ⟨x+1+1+1,n+1,Sto.pvs cl',false,by rw[hcll],by rw[<-hoa];simp[hExl],by rw[Sto.pvs_len,hcll],by omega,Zq (by rw[Sto.pvs_len];exact Ze _)⟩) (fun j pj qj hji hj hqj=>by
   have hne:qj≠x+1+1+1:=fun e=>by
    rw[e] at hqj;obtain⟨j1,j2⟩:=Zb.1 hqj;obtain⟨i1,i2⟩:=Zb.1 hqx;exact hji (M0 hQ.2.1 hqj hqx)
   have e:b0::b1::AObj.box (some 2) w0::(G.set x oa++([]:Heap))=(b0::b1::AObj.box (some 2) w0::G).set (x+1+1+1) oa:=by simp
   rw[e,Zk (fun e=>hne e.symm)];exact hQ.2.2.1 j pj qj hj hqj)
  have hld':=fun y0 y1 y2=>hld y0 y1 y2 [];have hF:=qc c5 (.int .i64 0) (n:=d.next+1);simp only[ZC] at hld' c1 c2 c3 c4 hF;simp only[agD] at*;simp -dsimp -implicitDefEqProofs only[tlA,g25,c25r0,c25r1,c25r2,c25k3,c25r4,c25r5,c25r6,c25r7,c25k8,c25r9,c25r10,c25r11,c25k12,c25r13,c25r14,c25r15,c25r16,c25r17,c25k18,c25r19,c25r20,go_sem,seval,↓reduceIte,Cz.av,f2,f4,f5,f8,f10,f11,f13,hG,h4,h7,hbs,hpt,hpt0,hia,hfa,hld',hA,hsx,c1,c2,c3,c4,hw1,hres,hr,jA,ZN,ze,zj,Z9];simp only[yr,Dbs.av] at hF;rw[hb0,hb1] at hF;exact hF
end Go.Proofs.YtligpohiokpnhaaGreat
