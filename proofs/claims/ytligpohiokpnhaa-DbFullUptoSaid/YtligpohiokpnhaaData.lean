/- db.Add where the procedure is new. -/
import Derived.Test.YtligpohiokpnhaaAdt
import Derived.Test.YtligpohiokpnhaaSml
import Derived.Test.YtligpohiokpnhaaDb2
import Derived.Test.YtligpohiokpnhaaAm5
set_option linter.unusedSimpArgs false
set_option linter.unusedVariables false
namespace Go.Proofs.Ytligpohiokpnhaa
open Go.Am
set_option maxRecDepth 20000 in
theorem zr6(d:Dbs)(hb:BndD d)(c:Cz)(z1:c.head.size<100000000)(z2:c.body.size<100000000)(fr dy:Bool)(hv:okD d=true)(hn:okC c=true)(ht:totD d.procs≠500)(hx:d.next≠4294967296)(hl:d.procs.length≠500)(s:List UInt8)(a:Int)(hs:s=c.head.name)(ha:a=c.head.args.length)(hf:fnD d.procs (keyP s a)=false)(i:Nat)(hi:i=lbD d.procs (keyP s a))(hp:Heap):S 11 [d.av,c.av,.pv none (.bool fr),.pv none (.bool dy)] hp=some (.ret (.tuple [(⟨d.next+1,d.procs.take i++(⟨s,a,dy,[⟨d.next,c⟩]⟩:Prc)::d.procs.drop i⟩:Dbs).av,.pv none (.int .i64 0)]),hp):=by
 refine zaj rfl rfl rfl (zaa [(some 2,d.pv),(some 8,c.pv),(none,.bool fr),(none,.bool dy)]) rfl ?_
 have h1:=fun hp=>zby d hb.1 hb.2.1 hb.2.2 hp
 have h2:=fun hp=>zb9 c z1 z2 hp
 have h3:∀hp,S 31 [d.av,.pv none (.str s),.pv none (.int .i64 a)] hp=some (.ret (.tuple [.pv none (.int .i64 (lbD d.procs (keyP s a):Int)),.pv none (.bool (fnD d.procs (keyP s a)))]),hp):=fun hp=>zd0 d s a hb.1 (zfj hv) hp
 have hl5:1<=d.next/\d.next<=4294967296/\d.procs.length<=500/\totD d.procs<=500:=by
  simp only[okD,Bool.and_eq_true,decide_eq_true_eq] at hv
  exact⟨hv.1,hv.2.1,hv.2.2.1,hv.2.2.2.1⟩
 have h4:=fun hp=>zdk d (by omega) (by omega) hp
 have h6:∀x0 x1 x2:AObj,S 33 [d.av] [x0,x1,x2]=some (.ret (dA d 5),x0::x1::x2::.box (some 2) (dA d 5)::.box (some 2) (dA d 5)::.arv (some 4) (elsA d.procs 11 d.procs.length)::cEs d.procs 11):=fun x0 x1 x2=>zgt d (by omega) (fun q hq=>⟨by have:=zcJ hq;omega,zjQ hv q hq⟩) [x0,x1,x2]
 have hnil:∀H:Heap,zal [(none,.nilv (some 4))] H=([(none,.nilv (some 4))],H):=fun _=>rfl
 have hst:∀(x0 x1:AObj) (v:AV) (X:Heap),zar (some 2) 0 (x0::x1::.box (some 2) v::X) [.ptr 2 0,dA d 5]=some (.undef,x0::x1::.box (some 2) (dA d 5)::X):=fun x0 x1 v X=>by
  simp[zar,astore,dA,AV.plain,AV.shp,AV.own,zal,zbh,total,Sh.size]
 obtain⟨vh,vb⟩:=zk8 hn
 have h7:=fun hp=>zgv ⟨d.next,c⟩ vh vb hp
 have hbs:zaJ [(none,.pv none (.int .i64 0)),(some 8,.agg [(some 4,.agg [(none,.pv none (.int .i64 0)),(none,.pv none (.int .i64 0)),(none,.pv none (.str [])),(none,.tsl (some 4) [])]),(some 4,.agg [(none,.pv none (.int .i64 0)),(none,.pv none (.int .i64 0)),(none,.pv none (.str [])),(none,.tsl (some 4) [])])])] [0,1] [.pv none (.int .i64 d.next),.pv (some 8) c.pv]=some (.pv (some 9) (Sto.mk d.next c).pv):=rfl
 rw[hf,<-hi] at h3
 simp only[Dbs.av] at h1 h3 h4 h6
 simp only[Cz.av] at h2
 simp only[Sto.av] at h7
 rw[hv] at h1
 rw[hn] at h2
 have ht':((totD d.procs:Int)=500)=False:=eq_false (by omega)
 have hx':(d.next=4294967296)=False:=eq_false hx
 have hl':((d.procs.length:Int)=500)=False:=eq_false (by omega)
 have hpt:AV.part deep (dA d 5) 1 none=some (.slv (some 4) 5 d.procs.length 0 d.procs.length):=rfl
 have hil:i<=d.procs.length:=by rw[hi];exact zr0 _ _
 obtain⟨nv,hnv⟩:∃nv:AV->AV,nv=fun sv=>.agg [(none,.pv none (.str s)),(none,.pv none (.int .i64 a)),(none,.pv none (.bool dy)),(none,sv)]:=⟨_,rfl⟩
 have hbu:zaJ [(none,.pv none (.str [])),(none,.pv none (.int .i64 0)),(none,.pv none (.bool false)),(none,.tsl (some 9) [])] [0,1,2] [.pv none (.str s),.pv none (.int .i64 a),.pv none (.bool dy)]=some (nv (.tsl (some 9) [])):=by rw[hnv];rfl
 obtain⟨el,hel⟩:∃el:AV->List AV,el=fun v=>(elsA d.procs 11 d.procs.length).take i++v::(elsA d.procs 11 d.procs.length).drop i:=⟨_,rfl⟩
 have hell:∀v,(el v).length=d.procs.length+1:=fun v=>by rw[hel];simp[zbm];omega
 have hli:((elsA d.procs 11 d.procs.length).take i).length=i:=by rw[List.length_take,zbm];omega
 have heli:∀v,(el v)[i]? =some v:=fun v=>by
  rw[hel]
  show(_++_)[i]? =_
  rw[List.getElem?_append_right (by omega),hli,Nat.sub_self]
  rfl
 have hels:∀v v',(el v).set i v'=el v':=fun v v'=>by
  rw[hel]
  show List.set (_++_) i v'=_
  rw[List.set_append_right _ _ (by omega),hli,Nat.sub_self]
  rfl
 obtain⟨m,hm⟩:∃m,m=(cEs d.procs 11).length+6:=⟨_,rfl⟩
 have op_bslov:∀{vs:List AV} {H:Heap} {K:AV->Heap->Prop} {Kp:PV->Heap->Prop},opK (aOp (sem (find tab) prim) 0 (.bslov (some 4)) vs H) K Kp=zbP (zcM (some 4) H vs) K:=fun{vs H K Kp}=>by
  show opK (match zcM (some 4) H vs with|some (v,hp')=>some (OpRes.val v hp')|none=>none) K Kp=_
  cases zcM (some 4) H vs with
  |none=>rfl
  |some r=>cases r;rfl
 have hbv:∀x0 x1 x2 x3 x4 x5:AObj,zcM (some 4) (x0::x1::x2::x3::x4::x5::cEs d.procs 11) [nv (.tsl (some 9) [])]=some (.slv (some 4) m 1 0 1,x0::x1::x2::x3::x4::x5::(cEs d.procs 11++[.arv (some 4) [nv (.tsl (some 9) [])]])):=fun x0 x1 x2 x3 x4 x5=>by
  have e1:(nv (.tsl (some 9) [])).plain=true:=by rw[hnv];rfl
  have e2:(nv (.tsl (some 9) [])).shp=some 4:=by rw[hnv];rfl
  simp[zcM,e1,e2,zcT,hm]
 have hpr:∀x0 x1 x2 x3 x4:AObj,S 34 [.slv (some 4) 5 d.procs.length 0 d.procs.length,.pv none (.int .i64 i),.slv (some 4) m 1 0 1] (x0::x1::x2::x3::x4::.arv (some 4) (elsA d.procs 11 d.procs.length)::(cEs d.procs 11++[.arv (some 4) [nv (.tsl (some 9) [])]]))=some (.ret (.slv (some 4) 5 (d.procs.length+1) 0 (d.procs.length+1)),x0::x1::x2::x3::x4::.arv (some 4) (el (nv (.tsl (some 9) [])))::(cEs d.procs 11++[.arv (some 4) [nv (.tsl (some 9) [])]])):=fun x0 x1 x2 x3 x4=>by
  rw[S,zic (F:=find tab) (prim:=prim) (p:=zdX (some 4)) rfl]
  have hg:(x0::x1::x2::x3::x4::AObj.arv (some 4) (elsA d.procs 11 d.procs.length)::(cEs d.procs 11++[.arv (some 4) [nv (.tsl (some 9) [])]]))[m]? =some (.arv (some 4) [nv (.tsl (some 9) [])]):=by
   rw[hm]
   show(cEs d.procs 11++[.arv (some 4) [nv (.tsl (some 9) [])]])[(cEs d.procs 11).length]? =_
   simp
  have hne:5≠m:=by omega
  have hrf:∀n,zgJ n 5 (elsA d.procs 11 d.procs.length) [nv (.tsl (some 9) [])]=true:=fun n=>by
   rw[hnv]
   simp[zgJ,AV.refsIn.gol,AV.refsIn,AV.refsIn.go]
  have hlm:d.procs.length+1<=lim:=by unfold lim;omega
  have hii:(i:Int)<=(d.procs.length:Int):=by omega
  rw[hel]
  simp[zdX,hg,zbm,hne,hrf,hlm,hii]
 have hcn:∀(x0 x1 x2 x3 x4 x5:AObj),S 35 [.tsl (some 9) [],.pv none (.int .i64 0),.tsl (some 9) [(Sto.mk d.next c).pv]] (x0::x1::x2::x3::x4::x5::(cEs d.procs 11++[.arv (some 4) [nv (.tsl (some 9) [])]]))=some (.ret (.sl (some 9) (m+1) 1 0 1),x0::x1::x2::x3::x4::x5::(cEs d.procs 11++[.arv (some 4) [nv (.tsl (some 9) [])],.arr (some 9) [(Sto.mk d.next c).pv] false])):=fun x0 x1 x2 x3 x4 x5=>by
  rw[zr4]
  have e:(x0::x1::x2::x3::x4::x5::(cEs d.procs 11++[AObj.arv (some 4) [nv (.tsl (some 9) [])]])).length=m+1:=by
   simp[hm]
  rw[e]
  simp
 obtain⟨d0,hd0⟩:∃d0:AV,d0=.agg [(none,.pv none (.int .i64 d.next)),(none,.slv (some 4) 5 (d.procs.length+1) 0 (d.procs.length+1))]:=⟨_,rfl⟩
 obtain⟨dN,hdN⟩:∃dN:AV,dN=.agg [(none,.pv none (.int .i64 (d.next+1))),(none,.slv (some 4) 5 (d.procs.length+1) 0 (d.procs.length+1))]:=⟨_,rfl⟩
 have hsf:∀(x0 x1:AObj) (X:Heap),zar none 0 (x0::x1::.box (some 2) (dA d 5)::X) [.ptr 2 1,.slv (some 4) 5 (d.procs.length+1) 0 (d.procs.length+1)]=some (.undef,x0::x1::.box (some 2) d0::X):=fun x0 x1 X=>by
  have e:AV.upd deep (dA d 5) 1 none (.slv (some 4) 5 (d.procs.length+1) 0 (d.procs.length+1))=some d0:=by rw[hd0];rfl
  simp[zar,astore,e,AV.plain,AV.shp,AV.own]
 have hpt1:AV.part deep d0 1 none=some (.slv (some 4) 5 (d.procs.length+1) 0 (d.procs.length+1)):=by rw[hd0];rfl
 have hpt0:AV.part deep d0 0 none=some (.pv none (.int .i64 d.next)):=by rw[hd0];rfl
 have hia:zaR (some 4) [.slv (some 4) 5 (d.procs.length+1) 0 (d.procs.length+1),.pv none (.int .i64 i)]=some (.epv (some 4) 5 (d.procs.length+1) i 0):=by
  have:(i:Int)<(d.procs.length:Int)+1:=by omega
  simp[zaR,aindex,this]
 have hfa:zdq 3 [.epv (some 4) 5 (d.procs.length+1) i 0]=some (.epv (some 4) 5 (d.procs.length+1) i 3):=rfl
 have hnc:zb4 [.epv (some 4) 5 (d.procs.length+1) i 0]=some (.epv (some 4) 5 (d.procs.length+1) i 0):=rfl
 have hld:∀(x0 x1 x2 x3 x4:AObj) (X:Heap),aload none (x0::x1::x2::x3::x4::.arv (some 4) (el (nv (.tsl (some 9) [])))::X) (.epv (some 4) 5 (d.procs.length+1) i 3)=some (.tsl (some 9) []):=fun x0 x1 x2 x3 x4 X=>by
  have e:AV.part deep (nv (.tsl (some 9) [])) 3 none=some (.tsl (some 9) []):=by rw[hnv];rfl
  simp[aload,hell,heli,e]
 have hse:∀(x0 x1 x2 x3 x4:AObj) (X:Heap),zar none 0 (x0::x1::x2::x3::x4::.arv (some 4) (el (nv (.tsl (some 9) [])))::X) [.epv (some 4) 5 (d.procs.length+1) i 3,.sl (some 9) (m+1) 1 0 1]=some (.undef,x0::x1::x2::x3::x4::.arv (some 4) (el (nv (.sl (some 9) (m+1) 1 0 1)))::X):=fun x0 x1 x2 x3 x4 X=>by
  have e:AV.upd deep (nv (.tsl (some 9) [])) 3 none (.sl (some 9) (m+1) 1 0 1)=some (nv (.sl (some 9) (m+1) 1 0 1)):=by rw[hnv];rfl
  simp[zar,astore,hell,heli,e,hels,AV.plain,AV.shp]
 have hw1:IntKind.i64.wrap (d.next+1)=d.next+1:=by
  rw[zaF (by omega) (by omega)]
 have hsg:∀(x0 x1:AObj) (X:Heap),zar none 0 (x0::x1::.box (some 2) d0::X) [.ptr 2 0,.pv none (.int .i64 (d.next+1))]=some (.undef,x0::x1::.box (some 2) dN::X):=fun x0 x1 X=>by
  have e:AV.upd deep d0 0 none (.pv none (.int .i64 (d.next+1)))=some dN:=by rw[hdN,hd0];rfl
  simp[zar,astore,e,AV.plain,AV.shp,AV.own]
 have hs2:∀(x0 x1:AObj) (X:Heap),zar (some 2) 0 (x0::x1::.box (some 2) dN::X) [.ptr 2 0,dN]=some (.undef,x0::x1::.box (some 2) dN::X):=fun x0 x1 X=>by
  rw[hdN]
  simp[zar,astore,AV.plain,AV.shp,AV.own,zal,zbh,total,Sh.size]
 have hr:∀(x0 x1:AObj) (X:Heap),za9 ⟨[(8,.ptr 2 0),(9,.pv none (.int .i64 0))],x0::x1::.box (some 2) dN::X⟩ (8,some (some 2))=some dN:=fun x0 x1 X=>by
  simp[za9,Fr.look,aload]
 have fin:∀(x0 x1 x2 x3 x4:AObj),DbA ⟨d.next+1,d.procs.take i++(⟨s,a,dy,[⟨d.next,c⟩]⟩:Prc)::d.procs.drop i⟩ dN (x0::x1::x2::x3::x4::.arv (some 4) (el (nv (.sl (some 9) (m+1) 1 0 1)))::(cEs d.procs 11++[.arv (some 4) [nv (.tsl (some 9) [])],.arr (some 9) [(Sto.mk d.next c).pv] false])):=fun x0 x1 x2 x3 x4=>by
  have hpl:(d.procs.take i++(⟨s,a,dy,[⟨d.next,c⟩]⟩:Prc)::d.procs.drop i).length=d.procs.length+1:=by simp;omega
  refine⟨5,d.procs.length+1,el (nv (.sl (some 9) (m+1) 1 0 1)),d.procs.take i++(⟨s,a,dy,[⟨d.next,c⟩]⟩:Prc)::d.procs.drop i,?_,rfl,hell _,by rw[hpl];omega,hpl,List.take_length,fun j q v hq hv2=> ?_⟩
  ·rw[hdN,hpl]
  ·have hE:∀(k:Nat) (x:Prc),d.procs[k]? =some x->ElP x (pA x (11+6*k)) (x0::x1::x2::x3::x4::AObj.arv (some 4) (el (nv (.sl (some 9) (m+1) 1 0 1)))::(cEs d.procs 11++[.arv (some 4) [nv (.tsl (some 9) [])],.arr (some 9) [(Sto.mk d.next c).pv] false])):=fun k x hx=>by
    refine .inr ⟨_,rfl,.inr ⟨11+6*k,x.cls.length,Sto.pvs x.cls,false,rfl,?_,Sto.pvs_len _,Nat.le_refl _,List.take_of_length_le (by rw[Sto.pvs_len];exact Nat.le_refl _)⟩⟩
    rw[show 11+6*k=(6*k+5)+1+1+1+1+1+1 by omega]
    simp only[List.getElem?_cons_succ]
    have hg:=zfh d.procs 11 k x hx
    rw[List.getElem?_append_left (List.getElem?_eq_some_iff.1 hg).1,hg]
   have hlp:(d.procs.take i).length=i:=by rw[List.length_take];omega
   have hv3:((elsA d.procs 11 d.procs.length).take i++nv (.sl (some 9) (m+1) 1 0 1)::(elsA d.procs 11 d.procs.length).drop i)[j]? =some v:=by
    rw[hel] at hv2
    exact hv2
   rcases Nat.lt_trichotomy j i with k|k|k
   ·rw[List.getElem?_append_left (by omega),List.getElem?_take,if_pos k] at hq hv3
    rw[zdZ hq] at hv3
    cases hv3
    exact hE j q hq
   ·subst k
    rw[List.getElem?_append_right (by omega),hlp,Nat.sub_self] at hq
    rw[List.getElem?_append_right (by omega),hli,Nat.sub_self] at hv3
    cases hq
    cases hv3
    rw[hnv]
    refine .inr ⟨.sl (some 9) (m+1) 1 0 1,rfl,.inr ⟨m+1,1,[(Sto.mk d.next c).pv],false,rfl,?_,rfl,Nat.le_refl _,rfl⟩⟩
    rw[hm,show(cEs d.procs 11).length+6+1=((cEs d.procs 11).length+1)+1+1+1+1+1+1 by omega]
    simp only[List.getElem?_cons_succ]
    rw[List.getElem?_append_right (by omega),Nat.add_sub_cancel_left]
    rfl
   ·rw[List.getElem?_append_right (by omega),hlp,show j - i=(j - i - 1)+1 by omega,List.getElem?_cons_succ,List.getElem?_drop] at hq
    rw[List.getElem?_append_right (by omega),hli,show j - i=(j - i - 1)+1 by omega,List.getElem?_cons_succ,List.getElem?_drop] at hv3
    rw[zdZ hq] at hv3
    cases hv3
    exact hE _ q hq
 have hfr:∀(d':Dbs) (H:Heap),DbA d' dN H->Am.frozen (.tuple [d'.av,.pv none (.int .i64 0)]) (.tuple [dN,.pv none (.int .i64 0)]) H:=fun d' H hD=>by
  obtain⟨H',hz⟩:=hD.frz
  have e3:∀X,AV.freeze deep (.pv none (.int .i64 0)) X=some (.int .i64 0,X):=fun _=>rfl
  have hsh:dN.shp=some 2:=by rw[hdN];rfl
  refine⟨H',?_⟩
  simp only[AV.freezeRes,zaq,hz,e3,hsh]
  rfl
 clear hm
 obtain⟨⟨hk,hi',hna,has⟩,bd⟩:=c
 have hpn:PV.part deep (Cz.pv ⟨⟨hk,hi',hna,has⟩,bd⟩) 2 none=some (.str hna):=rfl
 have hpa:PV.part deep (Cz.pv ⟨⟨hk,hi',hna,has⟩,bd⟩) 3 none=some (.sl (some 4) (Tm.pvs has)):=rfl
 have ea:(Tm.mk hk hi' hna has).args=has:=rfl
 have en:(Tm.mk hk hi' hna has).name=hna:=rfl
 rw[en] at hs
 rw[ea] at ha
 subst hs
 subst ha
 have hz:((([]:List PV).length:Nat):Int)=0:=rfl
 cases fr with
 |true=>
  simp -dsimp -implicitDefEqProofs only[hpn,hpa,Tm.pvs_len,g11,c11r0,c11r1,c11r2,c11k3,c11r4,c11r5,c11r6,c11k7,c11r8,c11r9,c11r10,c11k11,c11r12,c11r13,c11r14,c11r15,c11k16,c11r17,c11r18,c11r19,c11,go_sem,seval,↓reduceIte,Dbs.av,Cz.av,zaE,zaH,Prc.pvs_len,h1,h2,h3,h4,h6,h7,hbs,ht',hx',hl',hnil,hst,hpt,hpt0,hpt1,hbu,op_bslov,hbv,hpr,hsf,hia,hfa,hnc,hld,hz,hcn,hse,hw1,hsg,hs2,hr,List.append_assoc,zae,zac,zaf,zad,Nat.add_assoc,List.length_append]
  have hF:=hfr _ _ (fin (.box (some 2) (.pv (some 2) d.pv)) (.box (some 8) (.pv (some 8) (Cz.pv ⟨⟨hk,hi',s,has⟩,bd⟩))) (.box (some 2) dN) (.box (some 2) (dA d 5)) (.box (some 2) (dA d 5)))
  simp only[zbH,Dbs.av] at hF
  exact hF
 |false=>
  simp -dsimp -implicitDefEqProofs only[hpn,hpa,Tm.pvs_len,g11,c11r0,c11r1,c11r2,c11k3,c11r4,c11r5,c11r6,c11k7,c11r8,c11r9,c11r10,c11k11,c11r12,c11r13,c11r14,c11r15,c11k16,c11r17,c11r18,c11r19,c11,go_sem,seval,↓reduceIte,Dbs.av,Cz.av,zaE,zaH,Prc.pvs_len,h1,h2,h3,h4,h6,h7,hbs,ht',hx',hl',hnil,hst,hpt,hpt0,hpt1,hbu,op_bslov,hbv,hpr,hsf,hia,hfa,hnc,hld,hz,hcn,hse,hw1,hsg,hs2,hr,List.append_assoc,zae,zac,zaf,zad,Nat.add_assoc,List.length_append]
  have hF:=hfr _ _ (fin (.box (some 2) (.pv (some 2) d.pv)) (.box (some 8) (.pv (some 8) (Cz.pv ⟨⟨hk,hi',s,has⟩,bd⟩))) (.box (some 2) dN) (.box (some 2) (dA d 5)) (.box (some 2) (dA d 5)))
  simp only[zbH,Dbs.av] at hF
  exact hF
def addR(d:Dbs)(c:Cz)(fr dy:Bool):Dbs × Int:=
 if okD d=false\/okC c=false then(zDb,1)
 else if totD d.procs=500\/d.next=4294967296 then(zDb,13)
 else match fnD d.procs (keyP c.head.name c.head.args.length),d.procs[lbD d.procs (keyP c.head.name c.head.args.length)]? with
 |true,some p=>(⟨d.next+1,d.procs.set (lbD d.procs (keyP c.head.name c.head.args.length)) ⟨p.name,p.ar,p.dyn,insC fr ⟨d.next,c⟩ p.cls⟩⟩,0)
 |_,_=>if d.procs.length=500 then(zDb,13)
  else(⟨d.next+1,d.procs.take (lbD d.procs (keyP c.head.name c.head.args.length))++(⟨c.head.name,c.head.args.length,dy,[⟨d.next,c⟩]⟩:Prc)::d.procs.drop (lbD d.procs (keyP c.head.name c.head.args.length))⟩,0)
theorem zlg(d:Dbs)(hb:BndD d)(c:Cz)(z1:c.head.size<100000000)(z2:c.body.size<100000000)(fr dy:Bool)(hp:Heap):S 11 [d.av,c.av,.pv none (.bool fr),.pv none (.bool dy)] hp=some (.ret (.tuple [(addR d c fr dy).1.av,.pv none (.int .i64 (addR d c fr dy).2)]),hp):=by
 by_cases h:okD d=false\/okC c=false
 ·rw[zr2 d hb c z1 z2 fr dy h hp]
  simp only[addR,if_pos h]
 ·have hv:okD d=true:=by cases e:okD d with|true=>rfl|false=>exact absurd (Or.inl e) h
  have hn:okC c=true:=by cases e:okC c with|true=>rfl|false=>exact absurd (Or.inr e) h
  by_cases ht:totD d.procs=500
  ·rw[zp7 d hb c z1 z2 fr dy hv hn ht hp]
   simp only[addR,if_neg h,if_pos (Or.inl ht:totD d.procs=500\/d.next=4294967296)]
  ·by_cases hx:d.next=4294967296
   ·rw[zr5 d hb c z1 z2 fr dy hv hn ht hx hp]
    simp only[addR,if_neg h,if_pos (Or.inr hx:totD d.procs=500\/d.next=4294967296)]
   ·have h0:¬(totD d.procs=500\/d.next=4294967296):=by
     rintro(k|k)
     ·exact ht k
     ·exact hx k
    cases hf:fnD d.procs (keyP c.head.name c.head.args.length) with
    |true=>
     obtain⟨p,hpp⟩:=zry hf
     rw[znx d hb c z1 z2 fr dy hv hn ht hx hf p _ rfl hpp hp]
     simp only[addR,if_neg h,if_neg h0,hf,hpp]
    |false=>
     by_cases hl:d.procs.length=500
     ·rw[zp6 d hb c z1 z2 fr dy hv hn ht hx hf hl hp]
      simp only[addR,if_neg h,if_neg h0,hf,if_pos hl]
     ·rw[zr6 d hb c z1 z2 fr dy hv hn ht hx hl _ _ rfl rfl hf _ rfl hp]
      simp only[addR,if_neg h,if_neg h0,hf,if_neg hl]
def cutC(p:Prc)(k:Nat):Prc:=⟨p.name,p.ar,p.dyn,p.cls.take k++p.cls.drop (k+1)⟩
def eraR(d:Dbs)(id:Int):Dbs × Bool:=
 if okD d=false then(zDb,false)
 else match whR d.procs id with
 |none=>(zDb,false)
 |some x=>(⟨d.next,d.procs.modify x.1 fun p=>cutC p x.2⟩,true)
theorem ziu{α:Type}{l:List α}{i:Nat}{x:α}(h:l[i]? =some x)(f:α->α):l.modify i f=l.set i (f x):=by
 refine List.ext_getElem? fun j=> ?_
 rw[List.getElem?_modify,List.getElem?_set]
 by_cases e:i=j
 ·subst e
  obtain⟨h1,h2⟩:=List.getElem?_eq_some_iff.1 h
  simp[h1,h2]
 ·simp[e]
theorem zlh(d:Dbs)(hb:BndD d)(id:Int)(hp:Heap):S 12 [d.av,.pv none (.int .i64 id)] hp=some (.ret (.tuple [(eraR d id).1.av,.pv none (.bool (eraR d id).2)]),hp):=by
 cases hv:okD d with
 |false=>
  rw[zl7 d hb id (.inl hv) hp]
  simp only[eraR,if_pos hv]
 |true=>
  cases hw:whR d.procs id with
  |none=>
   rw[zl7 d hb id (.inr hw) hp]
   simp[eraR,hw]
  |some x=>
   obtain⟨i,k⟩:=x
   obtain⟨p,s,hpp,hs,_⟩:=zk9 hw
   rw[zrz d hb id hv i k hw p hpp (List.getElem?_eq_some_iff.1 hs).1 hp]
   have e:eraR d id=(⟨d.next,d.procs.set i (cutC p k)⟩,true):=by
    simp only[eraR,hv,hw]
    rw[ziu hpp]
    rfl
   rw[e]
   rfl
def ids(l:List Prc):List Int:=l.flatMap fun p=>p.cls.map (·.id)
theorem zlb(A B:List Prc):ids (A++B)=ids A++ids B:=by simp[ids]
theorem zb2(p:Prc)(B:List Prc):ids (p::B)=p.cls.map (·.id)++ids B:=by simp[ids]
theorem mem_ids{l:List Prc}{x:Int}:x∈ids l↔∃p∈l,∃s∈p.cls,s.id=x:=by simp[ids]
def okS(next:Int)(p:Prc)(s:Sto):Prop:=1<=s.id/\s.id<next/\okC s.cl=true/\s.cl.head.name=p.name/\(s.cl.head.args.length:Int)=p.ar
theorem zl9(next:Int)(p:Prc)(seen:List Int)(s:Sto):okSt next p seen s=true↔s.id ∉ seen/\okS next p s:=by
 unfold okSt okS
 simp only[Bool.and_eq_true,decide_eq_true_eq]
 constructor
 ·rintro⟨a,b,c,d,e,f⟩
  exact⟨c,a,b,d,e,f⟩
 ·rintro⟨c,a,b,d,e,f⟩
  exact⟨a,b,c,d,e,f⟩
theorem zil(next:Int)(p:Prc):∀(l:List Sto) (seen s':List Int),okSs next p seen l=some s'↔s'=seen++l.map (·.id)/\(l.map (·.id)).Nodup/\(∀x∈l,x.id ∉ seen)/\∀s∈l,okS next p s
 |[],seen,s'=>by simp[okSs,eq_comm]
 |s::r,seen,s'=>by
  rw[okSs]
  by_cases h:okSt next p seen s=true
  ·rw[if_pos h,zil next p r]
   obtain⟨h1,h2⟩:=(zl9 ..).1 h
   constructor
   ·rintro⟨rfl,g1,g2,g3⟩
    refine⟨by simp,List.nodup_cons.2 ⟨fun hm=> ?_,g1⟩,fun x hx=> ?_,fun x hx=> ?_⟩
    ·obtain⟨u,hu,e⟩:=List.mem_map.1 hm
     exact g2 u hu (by rw[e];simp)
    ·rcases List.mem_cons.1 hx with rfl|hx
     ·exact h1
     ·exact fun hm=>g2 x hx (by simp[hm])
    ·rcases List.mem_cons.1 hx with rfl|hx
     ·exact h2
     ·exact g3 x hx
   ·rintro⟨rfl,g1,g2,g3⟩
    obtain⟨k1,k2⟩:=List.nodup_cons.1 g1
    refine⟨by simp,k2,fun x hx hm=> ?_,fun x hx=>g3 x (List.mem_cons_of_mem _ hx)⟩
    rcases List.mem_append.1 hm with hm|hm
    ·exact g2 x (List.mem_cons_of_mem _ hx) hm
    ·exact k1 (List.mem_map.2 ⟨x,hx,by simpa using hm⟩)
  ·rw[if_neg h]
   constructor
   ·intro hh
    cases hh
   ·rintro⟨_,_,g2,g3⟩
    exact absurd ((zl9 ..).2 ⟨g2 s List.mem_cons_self,g3 s List.mem_cons_self⟩) h
def OkP(next:Int)(l:List Prc):Prop:=(∀p∈l,namB p=true)/\l.Pairwise (fun a b=>ordP a b<0)/\(ids l).Nodup/\∀p∈l,∀s∈p.cls,okS next p s
theorem zpT(next:Int):∀(l:List Prc) (q:Option Prc) (seen:List Int),okPs next q seen l=true->OkP next l/\(∀p,l.head? =some p->preB q p=true)/\∀x∈ids l,x ∉ seen
 |[],q,seen,_=>⟨⟨fun p h=>(by cases h),List.Pairwise.nil,List.nodup_nil,fun p h=>(by cases h)⟩,fun p h=>(by cases h),fun x h=>(by cases h)⟩
 |x::r,q,seen,h=>by
  rw[okPs,Bool.and_eq_true,Bool.and_eq_true] at h
  obtain⟨h1,h2,h3⟩:=h
  split at h3
  ·cases h3
  ·rename_i s' hs
   obtain⟨rfl,e2,e3,e4⟩:=(zil ..).1 hs
   obtain⟨⟨g1,g2,g3,g4⟩,g5,g6⟩:=zpT next r (some x) _ h3
   have hx:∀b∈r,ordP x b<0:=by
    intro b hb
    cases r with
    |nil=>cases hb
    |cons y r'=>
     have h0:ordP x y<0:=of_decide_eq_true (g5 y rfl)
     rcases List.mem_cons.1 hb with rfl|hb
     ·exact h0
     ·exact zfi h0 ((List.pairwise_cons.1 g2).1 b hb)
   refine⟨⟨fun p hp=> ?_,List.pairwise_cons.2 ⟨hx,g2⟩,?_,fun p hp=> ?_⟩,fun p hp=>by cases hp;exact h2,fun y hy=> ?_⟩
   ·rcases List.mem_cons.1 hp with rfl|hp
    ·exact h1
    ·exact g1 p hp
   ·rw[zb2,List.nodup_append]
    refine⟨e2,g3,fun a ha b hb e=> ?_⟩
    subst e
    exact g6 a hb (List.mem_append_right _ ha)
   ·rcases List.mem_cons.1 hp with rfl|hp
    ·exact e4
    ·exact g4 p hp
   ·rw[zb2] at hy
    rcases List.mem_append.1 hy with hy|hy
    ·obtain⟨u,hu,rfl⟩:=List.mem_map.1 hy
     exact e3 u hu
    ·exact fun hm=>g6 y hy (List.mem_append_left _ hm)
theorem zma(next:Int):∀(l:List Prc) (q:Option Prc) (seen:List Int),OkP next l->(∀p,l.head? =some p->preB q p=true)->(∀x∈ids l,x ∉ seen)->okPs next q seen l=true
 |[],q,seen,_,_,_=>rfl
 |x::r,q,seen,⟨h1,h2,h3,h4⟩,h5,h6=>by
  rw[okPs,h1 x List.mem_cons_self,h5 x rfl]
  rw[zb2,List.nodup_append] at h3
  obtain⟨k1,k2⟩:=List.pairwise_cons.1 h2
  have hs:okSs next x seen x.cls=some (seen++x.cls.map (·.id)):=(zil ..).2 ⟨rfl,h3.1,fun u hu=>h6 u.id (by rw[zb2];exact List.mem_append_left _ (List.mem_map.2 ⟨u,hu,rfl⟩)),h4 x List.mem_cons_self⟩
  rw[hs]
  simp only[Bool.true_and]
  refine zma next r (some x) _ ⟨fun p hp=>h1 p (List.mem_cons_of_mem _ hp),k2,h3.2.1,fun p hp=>h4 p (List.mem_cons_of_mem _ hp)⟩ (fun p hp=> ?_) fun y hy hm=> ?_
  ·exact decide_eq_true (k1 p (List.mem_of_mem_head? (by rw[hp];rfl)))
  ·rcases List.mem_append.1 hm with hm|hm
   ·exact h6 y (by rw[zb2];exact List.mem_append_right _ hy) hm
   ·exact h3.2.2 y hm y hy rfl
theorem zgy(d:Dbs):okD d=true↔1<=d.next/\d.next<=4294967296/\d.procs.length<=500/\totD d.procs<=500/\OkP d.next d.procs:=by
 simp only[okD,Bool.and_eq_true,decide_eq_true_eq]
 constructor
 ·rintro⟨a,b,c,e,f⟩
  exact⟨a,b,c,e,(zpT _ _ _ _ f).1⟩
 ·rintro⟨a,b,c,e,f⟩
  exact⟨a,b,c,e,zma _ _ _ _ f (fun _ _=>rfl) fun _ _ h=>by cases h⟩
theorem OkP.mono{n n':Int}{l:List Prc}(h:OkP n l)(hn:n<=n'):OkP n' l:=⟨h.1,h.2.1,h.2.2.1,fun p hp s hs=>by
 obtain⟨a,b,c⟩:=h.2.2.2 p hp s hs
 exact⟨a,by omega,c⟩⟩
theorem zpU(next:Int)(A B:List Prc)(q:Prc):OkP next (A++q::B)↔OkP next (A++B)/\namB q=true/\(∀a∈A,ordP a q<0)/\(∀b∈B,ordP q b<0)/\(q.cls.map (·.id)).Nodup/\(∀s∈q.cls,s.id ∉ ids (A++B))/\∀s∈q.cls,okS next q s:=by
 have hperm:(ids (A++q::B)).Perm (q.cls.map (·.id)++ids (A++B)):=by
  rw[zlb,zb2,zlb,<-List.append_assoc,<-List.append_assoc]
  exact List.Perm.append_right _ List.perm_append_comm
 unfold OkP
 rw[hperm.nodup_iff,List.nodup_append,List.pairwise_append,List.pairwise_append,List.pairwise_cons]
 constructor
 ·rintro⟨h1,⟨h2,⟨h3,h4⟩,h5⟩,⟨h6,h7,h8⟩,h9⟩
  have hs:∀p,p∈A++B->p∈A++q::B:=fun p hp=>by
   rcases List.mem_append.1 hp with hp|hp
   ·exact List.mem_append_left _ hp
   ·exact List.mem_append_right _ (List.mem_cons_of_mem _ hp)
  have hq:q∈A++q::B:=List.mem_append_right _ List.mem_cons_self
  exact⟨⟨fun p hp=>h1 p (hs p hp),⟨h2,h4,fun a ha b hb=>h5 a ha b (List.mem_cons_of_mem _ hb)⟩,h7,fun p hp=>h9 p (hs p hp)⟩,h1 q hq,fun a ha=>h5 a ha q List.mem_cons_self,h3,h6,fun s hs' hm=>h8 s.id (List.mem_map.2 ⟨s,hs',rfl⟩) s.id hm rfl,h9 q hq⟩
 ·rintro⟨⟨h1,⟨h2,h4,h5⟩,h7,h9⟩,g1,g2,g3,g4,g5,g6⟩
  have hc:∀p,p∈A++q::B->p=q\/p∈A++B:=fun p hp=>by
   rcases List.mem_append.1 hp with hp|hp
   ·exact .inr (List.mem_append_left _ hp)
   ·rcases List.mem_cons.1 hp with hp|hp
    ·exact .inl hp
    ·exact .inr (List.mem_append_right _ hp)
  refine⟨fun p hp=> ?_,⟨h2,⟨g3,h4⟩,fun a ha b hb=> ?_⟩,⟨g4,h7,fun a ha b hb e=> ?_⟩,fun p hp=> ?_⟩
  ·rcases hc p hp with rfl|hp
   ·exact g1
   ·exact h1 p hp
  ·rcases List.mem_cons.1 hb with rfl|hb
   ·exact g2 a ha
   ·exact h5 a ha b hb
  ·subst e
   obtain⟨u,hu,rfl⟩:=List.mem_map.1 ha
   exact g5 u hu hb
  ·rcases hc p hp with rfl|hp
   ·exact g6
   ·exact h9 p hp
theorem zd5{d:Dbs}(hv:okD d=true):BndD d:=by
 have h:=(zgy d).1 hv
 refine⟨by omega,by omega,fun p hp s hs=> ?_⟩
 obtain⟨vh,vb⟩:=zjQ hv p hp s hs
 have h1:=zbd vh
 have h2:=zbd vb
 omega
theorem zpY{α:Type}{l:List α}{i:Nat}{x:α}(h:l[i]? =some x):l=l.take i++x::l.drop (i+1):=by
 rw[<-zfO h,List.take_append_drop]
theorem ztB{α:Type}{l:List α}{i:Nat}{x:α}(h:l[i]? =some x)(y:α):l.set i y=l.take i++y::l.drop (i+1):=by
 have hi:=(List.getElem?_eq_some_iff.1 h).1
 rw[List.set_eq_take_append_cons_drop,if_pos hi]
theorem zpZ(p:Prc)(B:List Prc):totD (p::B)=p.cls.length+totD B:=by simp[totD]
theorem zsR{n:Int}{p q:Prc}{s:Sto}(h:okS n p s)(h1:p.name=q.name)(h2:p.ar=q.ar):okS n q s:=by
 obtain⟨a,b,c,d,e⟩:=h
 exact⟨a,b,c,by rw[d,h1],by rw[e,h2]⟩
theorem zim(l:List Prc):totD l=(ids l).length:=by
 induction l with
 |nil=>rfl
 |cons p r ih=>rw[zpZ,zb2,List.length_append,List.length_map,ih]
def rmP(id:Int)(p:Prc):Prc:=⟨p.name,p.ar,p.dyn,p.cls.filter fun s=>decide (s.id≠id)⟩
theorem zrD{id:Int}{p:Prc}(h:∀s∈p.cls,s.id≠id):rmP id p=p:=by
 unfold rmP
 rw[List.filter_eq_self.2 fun s hs=>decide_eq_true (h s hs)]
theorem zjU{id:Int}{l:List Prc}(h:id ∉ ids l):l.map (rmP id)=l:=by
 have e:∀p∈l,rmP id p=p:=fun p hp=>zrD fun s hs e=>h (mem_ids.2 ⟨p,hp,s,hs,e⟩)
 rw[List.map_congr_left (g:=fun p=>p) e]
 simp
theorem zpV(id:Int)(l:List Prc):ids (l.map (rmP id))=(ids l).filter fun x=>decide (x≠id):=by
 induction l with
 |nil=>rfl
 |cons p r ih=>
  rw[List.map_cons,zb2,zb2,ih,List.filter_append]
  congr 1
  show((p.cls.filter _).map _)=_
  rw[List.filter_map]
  rfl
theorem zpW(l:List Prc)(id:Int):whR l id=none↔id ∉ ids l:=by
 constructor
 ·intro h hm
  obtain⟨p,hp,s,hs,e⟩:=mem_ids.1 hm
  induction l with
  |nil=>cases hp
  |cons x r ih=>
   rw[whR] at h
   split at h
   ·cases h
   ·rename_i hk
    split at h
    ·cases h
    ·rename_i hr
     rcases List.mem_cons.1 hp with rfl|hp
     ·unfold idS at hk
      rw[List.findIdx?_eq_none_iff] at hk
      have:=hk s hs
      rw[decide_eq_true e] at this
      cases this
     ·exact ih hr (mem_ids.2 ⟨p,hp,s,hs,e⟩) hp
 ·intro h
  exact zij fun j q hq=>zl2 fun k u hu e=>h (mem_ids.2 ⟨q,List.mem_of_getElem? hq,u,List.mem_of_getElem? hu,e⟩)
theorem zns{l:List Sto}{k:Nat}{s:Sto}(h:l[k]? =some s)(hn:(l.map (·.id)).Nodup):l.take k++l.drop (k+1)=l.filter fun x=>decide (x.id≠s.id):=by
 have e:=zpY h
 obtain⟨A,hA⟩:∃A,A=l.take k:=⟨_,rfl⟩
 obtain⟨B,hB⟩:∃B,B=l.drop (k+1):=⟨_,rfl⟩
 rw[<-hA,<-hB] at e ⊢
 rw[e,List.map_append,List.map_cons,List.nodup_append,List.nodup_cons] at hn
 obtain⟨n1,⟨n2,n3⟩,n4⟩:=hn
 rw[e,List.filter_append,List.filter_cons_of_neg (by simp),List.filter_eq_self.2,List.filter_eq_self.2]
 ·intro x hx
  refine decide_eq_true fun e2=>n2 (List.mem_map.2 ⟨x,hx,e2⟩)
 ·intro x hx
  exact decide_eq_true fun e2=>n4 x.id (List.mem_map.2 ⟨x,hx,rfl⟩) s.id List.mem_cons_self e2
theorem zin{d:Dbs}{id:Int}(hv:okD d=true)(h:id∈ids d.procs):eraR d id=(⟨d.next,d.procs.map (rmP id)⟩,true):=by
 cases hw:whR d.procs id with
 |none=>exact absurd h ((zpW ..).1 hw)
 |some x=>
  obtain⟨i,k⟩:=x
  obtain⟨p,s,hpp,hs,hsi⟩:=zk9 hw
  have d5:=((zgy d).1 hv).2.2.2.2
  have d5':=d5
  rw[zpY hpp] at d5'
  obtain⟨g1,g2,g3,g4,g5,g6,g7⟩:=(zpU ..).1 d5'
  have hsm:=List.mem_of_getElem? hs
  have hout:=g6 s hsm
  rw[hsi,zlb,List.mem_append,not_or] at hout
  have e1:cutC p k=rmP id p:=by
   unfold cutC rmP
   rw[zns hs g5,hsi]
  have e2:d.procs.modify i (fun p=>cutC p k)=d.procs.map (rmP id):=by
   rw[ziu hpp,ztB hpp,e1]
   have e3:d.procs.map (rmP id)=(d.procs.take i++p::d.procs.drop (i+1)).map (rmP id):=by rw[<-zpY hpp]
   rw[e3,List.map_append,List.map_cons,zjU hout.1,zjU hout.2]
  simp only[eraR,hv,hw,e2]
  rfl
theorem eraR_iff{d:Dbs}{id:Int}:(eraR d id).2=true↔okD d=true/\id∈ids d.procs:=by
 constructor
 ·intro h
  by_cases hv:okD d=true
  ·refine⟨hv,Classical.byContradiction fun hm=> ?_⟩
   have hw:=(zpW d.procs id).2 hm
   simp only[eraR,hv,hw] at h
   cases h
  ·have hv':okD d=false:=by simpa using hv
   simp only[eraR,if_pos hv'] at h
   cases h
 ·rintro⟨hv,hm⟩
  rw[zin hv hm]
theorem zr1{x:Int}:∀{l:List Int},l.Nodup->x∈l->(l.filter fun y=>decide (y≠x)).length+1=l.length
 |[],_,h=>by cases h
 |y::r,hn,h=>by
  obtain⟨n1,n2⟩:=List.nodup_cons.1 hn
  by_cases e:y=x
  ·subst e
   rw[List.filter_cons_of_neg (by simp),List.filter_eq_self.2]
   ·rfl
   ·exact fun z hz=>decide_eq_true fun e=>n1 (e▸hz)
  ·rw[List.filter_cons_of_pos (by simpa using e)]
   rcases List.mem_cons.1 h with h|h
   ·exact absurd h.symm e
   ·have:=zr1 n2 h
    simp only[List.length_cons]
    omega
theorem ztZ{n:Int}{l:List Prc}(id:Int)(h:OkP n l):OkP n (l.map (rmP id)):=by
 refine⟨fun p hp=> ?_,?_,?_,fun p hp s hs=> ?_⟩
 ·obtain⟨q,hq,rfl⟩:=List.mem_map.1 hp
  exact h.1 q hq
 ·rw[List.pairwise_map]
  exact h.2.1
 ·rw[zpV]
  exact h.2.2.1.filter _
 ·obtain⟨q,hq,rfl⟩:=List.mem_map.1 hp
  exact zsR (h.2.2.2 q hq s (List.mem_filter.1 hs).1) rfl rfl
theorem zpX{d:Dbs}{id:Int}(h:(eraR d id).2=true):okD d=true/\id∈ids d.procs/\(eraR d id).1=⟨d.next,d.procs.map (rmP id)⟩/\okD (eraR d id).1=true/\totD (eraR d id).1.procs+1=totD d.procs/\id ∉ ids (eraR d id).1.procs:=by
 obtain⟨hv,hm⟩:=eraR_iff.1 h
 obtain⟨d1,d2,d3,d4,d5⟩:=(zgy d).1 hv
 have e:=zin hv hm
 rw[e]
 have ht:totD (d.procs.map (rmP id))+1=totD d.procs:=by
  rw[zim,zim,zpV]
  exact zr1 d5.2.2.1 hm
 refine⟨hv,hm,rfl,(zgy _).2 ⟨d1,d2,by simpa using d3,by show totD (d.procs.map (rmP id))<=500;omega,ztZ id d5⟩,ht,?_⟩
 show id ∉ ids (d.procs.map (rmP id))
 rw[zpV]
 intro hm2
 have:=(List.mem_filter.1 hm2).2
 simp at this
def ztX:List UInt8:=[116,114,117,101]
def zcl(n:List UInt8):Cz:=⟨⟨2,0,n,[]⟩,⟨2,0,ztX,[]⟩⟩
theorem zpM(n:List UInt8)(hp:Heap):S 10 [.pv none (.str n)] hp=some (.ret (zcl n).av,hp):=by
 refine zaj rfl rfl rfl (zaa [(none,.str n)]) rfl ?_
 have b1:zaJ [(none,.pv none (.int .i64 0)),(none,.pv none (.int .i64 0)),(none,.pv none (.str [])),(none,.tsl (some 4) [])] [0,2] [.pv none (.int .i64 2),.pv none (.str n)]=some (.agg [(none,.pv none (.int .i64 2)),(none,.pv none (.int .i64 0)),(none,.pv none (.str n)),(none,.tsl (some 4) [])]):=rfl
 have b2:zaJ [(none,.pv none (.int .i64 0)),(none,.pv none (.int .i64 0)),(none,.pv none (.str [])),(none,.tsl (some 4) [])] [0,2] [.pv none (.int .i64 2),.pv none (.str [116,114,117,101])]=some (.agg [(none,.pv none (.int .i64 2)),(none,.pv none (.int .i64 0)),(none,.pv none (.str [116,114,117,101])),(none,.tsl (some 4) [])]):=rfl
 have b3:zaJ [(some 4,.agg [(none,.pv none (.int .i64 0)),(none,.pv none (.int .i64 0)),(none,.pv none (.str [])),(none,.tsl (some 4) [])]),(some 4,.agg [(none,.pv none (.int .i64 0)),(none,.pv none (.int .i64 0)),(none,.pv none (.str [])),(none,.tsl (some 4) [])])] [0,1] [.agg [(none,.pv none (.int .i64 2)),(none,.pv none (.int .i64 0)),(none,.pv none (.str n)),(none,.tsl (some 4) [])],.agg [(none,.pv none (.int .i64 2)),(none,.pv none (.int .i64 0)),(none,.pv none (.str [116,114,117,101])),(none,.tsl (some 4) [])]]=some (.agg [(some 4,.agg [(none,.pv none (.int .i64 2)),(none,.pv none (.int .i64 0)),(none,.pv none (.str n)),(none,.tsl (some 4) [])]),(some 4,.agg [(none,.pv none (.int .i64 2)),(none,.pv none (.int .i64 0)),(none,.pv none (.str [116,114,117,101])),(none,.tsl (some 4) [])])]):=rfl
 simp -dsimp -implicitDefEqProofs only[go_sem,seval,↓reduceIte,b1,b2,b3,zab (Nat.zero_le _),List.append_assoc,zae,zac,zaf,zad,Nat.add_assoc,List.length_append]
 try exact⟨_,rfl⟩
def aN:List UInt8:=[97]
def d1E:Dbs:=⟨2,[⟨aN,0,false,[⟨1,zcl aN⟩]⟩]⟩
def d2E:Dbs:=⟨3,[⟨aN,0,false,[⟨2,zcl aN⟩,⟨1,zcl aN⟩]⟩]⟩
def d3E:Dbs:=⟨3,[⟨aN,0,false,[⟨2,zcl aN⟩]⟩]⟩
theorem k1:okD nilD=true:=by decide+kernel
theorem k2:okD d1E=true:=by decide+kernel
theorem k3:okD d2E=true:=by decide+kernel
theorem a1E:addR nilD (zcl aN) false false=(d1E,0):=by kernel_rfl
theorem a2E:addR d1E (zcl aN) true true=(d2E,0):=by kernel_rfl
theorem f2E:zii d2E aN 0=some ⟨aN,0,false,[⟨2,zcl aN⟩,⟨1,zcl aN⟩]⟩:=by kernel_rfl
theorem e2E:eraR d2E 1=(d3E,true):=by kernel_rfl
theorem k4:okD d3E=true:=by decide+kernel
theorem znp(s s':Sh)(p q:PV)(H:Heap):(AV.tuple [.pv s p,.pv s' q]).alone H=some (.tuple [.pv s p,.pv s' q]):=rfl
set_option maxRecDepth 20000 in
theorem zjS:S 9 [] []=some (.ret (.pv none (.bool true)),[]):=by
 refine zaj (ps:=[]) rfl rfl rfl rfl rfl ?_
 have z1:(zcl aN).head.size<100000000:=by decide+kernel
 have z2:(zcl aN).body.size<100000000:=by decide+kernel
 have h1:=fun hp=>ztu hp
 have h2:=fun hp=>zpM aN hp
 have h3:=fun hp=>zlg nilD (zd5 k1) (zcl aN) z1 z2 false false hp
 rw[a1E] at h3
 have h4:=fun hp=>zlg d1E (zd5 k2) (zcl aN) z1 z2 true true hp
 rw[a2E] at h4
 have h5:=fun hp=>zsP d2E (zd5 k3) aN 0 hp
 rw[f2E] at h5
 have h6:=fun hp=>zlh d2E (zd5 k3) 1 hp
 rw[e2E] at h6
 have h7:=fun hp=>zih d2E (zd5 k3) hp
 have h8:=fun hp=>zih d3E (zd5 k4) hp
 rw[k3] at h7
 rw[k4] at h8
 have t2:((totD d2E.procs:Nat):Int)=2:=rfl
 have t3:((totD d3E.procs:Nat):Int)=1:=rfl
 rw[if_pos rfl,t2] at h7
 rw[if_pos rfl,t3] at h8
 obtain⟨P,hP⟩:∃P:Prc,P=⟨aN,0,false,[⟨2,zcl aN⟩,⟨1,zcl aN⟩]⟩:=⟨_,rfl⟩
 rw[<-hP] at h5
 have p1:PV.part deep P.pv 2 none=some (.bool false):=by rw[hP];rfl
 have p2:PV.part deep P.pv 3 none=some (.sl (some 9) [(Sto.mk 2 (zcl aN)).pv,(Sto.mk 1 (zcl aN)).pv]):=by rw[hP];rfl
 have p3:PV.part deep d3E.pv 0 none=some (.int .i64 3):=rfl
 have hnil:∀H:Heap,zal [(none,.nilv (some 4))] H=([(none,.nilv (some 4))],H):=fun _=>rfl
 have hi0:zaR (some 9) [.pv none (.sl (some 9) [(Sto.mk 2 (zcl aN)).pv,(Sto.mk 1 (zcl aN)).pv]),.pv none (.int .i64 0)]=some (.iptr (some 9) (Sto.mk 2 (zcl aN)).pv 0):=rfl
 have p4:PV.part deep (Sto.mk 2 (zcl aN)).pv 0 none=some (.int .i64 2):=rfl
 simp only[Dbs.av,Cz.av,Prc.av,aN,Option.getD_some,Option.isSome_some] at h1 h2 h3 h4 h5 h6 h7 h8
 simp only[aN] at p2 hi0 p4
 simp -dsimp -implicitDefEqProofs only[go_sem,seval,↓reduceIte,h1,h2,h3,h4,h5,h6,h7,h8,p1,p2,p3,p4,hi0,hnil,znp,zab (Nat.zero_le _),List.append_assoc,zae,zac,zaf,zad,Nat.add_assoc,List.length_append]
 try rfl
theorem znq(hp:Heap):S 9 [] hp=some (.ret (.pv none (.bool true)),hp):=zcL (F:=find tab) (prim:=prim) (f:=9) (args:=[]) (ps:=[]) (hp:=hp) (hp1:=hp) rfl rfl rfl rfl zjS
theorem zp0:∀(t:Tm) (hp:Heap),t.size<1000000000->S 71 [t.av] hp=some (.ret t.av,hp):=by
 intro t
 induction t using Tm.zt6 with
 |h t ih=>
  intro hp ht
  have hts:=t.size_eq
  have hlen:=Tm.zt2 t.args
  refine zaj rfl rfl rfl (zaa [(some 4,t.pv)]) rfl ?_
  have hb:zaJ [(none,.pv none (.int .i64 0)),(none,.pv none (.int .i64 0)),(none,.pv none (.str [])),(none,.tsl (some 4) [])] [0,1,2] [.pv none (.int .i64 t.kind),.pv none (.int .i64 t.n),.pv none (.str t.name)]=some (.agg [(none,.pv none (.int .i64 t.kind)),(none,.pv none (.int .i64 t.n)),(none,.pv none (.str t.name)),(none,.tsl (some 4) [])]):=rfl
  simp -dsimp -implicitDefEqProofs only[go_sem,seval,↓reduceIte,Tm.av,zao,zbS,zat,zak,Tm.pvs_len,hb,zab (Nat.zero_le _)]
  refine zcj (α:=Unit) t.args.length (fun _ _=>True) (fun i _=>⟨[(1,.ptr 0 0),(2,.ptr 1 0),(3,.ptr 3 0),(4,.pv none (.int .i64 i))],appH 0 t i⟩) () ⟨trivial,rfl⟩ ?_ ?_
  ·rintro i - h -
   have hc:(i:Int)<(t.args.length:Int):=by omega
   obtain⟨u,hu⟩:∃u,t.args[i]? =some u:=⟨_,List.getElem?_eq_getElem h⟩
   have hum:=List.mem_of_getElem? hu
   have husz:=Tm.zt3 hum
   have hcall:=fun hp=>ih u hum hp (by omega)
   simp only[Tm.av] at hcall
   have w2:IntKind.i64.wrap ((i:Int)+1)=((i+1:Nat):Int):=by rw[zaF (by omega) (by omega)];omega
   have hl:(Tm.pvs (t.args.take i)).length=i:=by rw[Tm.pvs_len,List.length_take];omega
   have hlim:i+1<=lim:=by unfold lim;omega
   simp -dsimp -implicitDefEqProofs only[go_sem,seval,↓reduceIte,appH,zak,Tm.pvs_len,hc,zai (Tm.pvs_get hu),hcall,w2,hl,hlim,Tm.zt5 hu,zab (Nat.zero_le _),zaQ (Nat.zero_le _)]
   exact⟨(),rfl⟩
  ·rintro - -
   have hc:¬(t.args.length:Int)<(t.args.length:Int):=by omega
   simp -dsimp -implicitDefEqProofs only[go_sem,seval,↓reduceIte,appH,zak,Tm.pvs_len,hc,List.take_length,zaL,zab (Nat.zero_le _),zaQ (Nat.zero_le _)]
   exact zpx t rfl
def rawP(k n:Int)(s:List UInt8)(es:List PV):PV:=.agg [(none,.int .i64 k),(none,.int .i64 n),(none,.str s),(none,.sl (some 4) es)]
theorem zhn{hp:Heap}{r:Nat}(k n:Int)(s:List UInt8)(es:List PV)(m:Nat)(hm:m=es.length)(h:hp[r]? =some (.arr (some 4) es false)):Am.frozen (.pv (some 4) (rawP k n s es)) (.agg [(none,.pv none (.int .i64 k)),(none,.pv none (.int .i64 n)),(none,.pv none (.str s)),(none,.sl (some 4) r m 0 m)]) hp:=by
 subst hm
 refine⟨hp.set r (.arr (some 4) es true),?_⟩
 show(match AV.freeze (7+1) (.agg _) hp with|some (p,hp')=>some (AV.pv _ p,hp')|none=>none)=_
 have e:∀l hp,AV.freeze (7+1) (.agg l) hp=match AV.freeze.go 7 l hp with|some (ps,hp')=>some (.agg ps,hp')|none=>none:=fun _ _=>rfl
 simp[e,AV.freeze.go,AV.freeze,h,rawP]
 rfl
theorem zp1(t:Tm)(hp:Heap)(hv:t.valid=true)(ht:t.size<1000000000):S 46 [t.av] hp=some (.ret t.av,hp):=by
 refine zaj rfl rfl rfl (zaa [(some 4,t.pv)]) rfl ?_
 have h1:=fun hp=>zdJ t hp ht
 have h2:=fun hp=>zp0 t hp ht
 rw[hv] at h1
 simp only[Tm.av] at h1 h2
 simp -dsimp -implicitDefEqProofs only[go_sem,seval,↓reduceIte,Tm.av,h1,h2,zab (Nat.zero_le _)]
theorem zjV{x:Int}:∀{l:List Int} {i:Nat},l[i]? =some x->(∀j,j<i->l[j]?≠some x)->l.idxOf x=i
 |[],_,h,_=>by simp at h
 |y::r,0,h,_=>by
  simp at h
  simp[h]
 |y::r,i+1,h,hn=>by
  have h0:=hn 0 (by omega)
  have hy:¬y=x:=fun e=>h0 (by simp[e])
  rw[List.idxOf_cons,beq_eq_false_iff_ne.2 hy]
  simp only[cond_false]
  rw[zjV (l:=r) (i:=i) (by simpa using h) fun j hj=>by simpa using hn (j+1) (by omega)]
theorem zsS(l:List Int)(x:Int)(hl:l.length<1000000000)(hm:x∈l)(hp:Heap):S 72 [.pv none (.sl none (ints l)),.pv none (.int .i64 x)] hp=some (.ret (.pv none (.int .i64 ((l.idxOf x:Nat):Int))),hp):=by
 refine zaj rfl rfl rfl (zaa [(none,.sl none (ints l)),(none,.int .i64 x)]) rfl ?_
 simp -dsimp -implicitDefEqProofs only[go_sem,seval,↓reduceIte,zbn]
 refine zcj (α:=Unit) l.length (fun i _=>∀j,j<i->l[j]?≠some x) (fun i _=>⟨[(0,.pv none (.sl none (ints l))),(1,.pv none (.int .i64 x)),(5,.pv none (.int .i64 i))],[]⟩) () ⟨fun j hj=>by omega,rfl⟩ ?_ ?_
 ·rintro i - h hinv
  have hc:(i:Int)<(l.length:Int):=by omega
  obtain⟨b,hb⟩:∃b,l[i]? =some b:=⟨_,List.getElem?_eq_getElem h⟩
  have w2:IntKind.i64.wrap ((i:Int)+1)=((i+1:Nat):Int):=by rw[zaF (by omega) (by omega)];omega
  by_cases hbx:b=x
  ·have hi:=zjV (by rw[hb,hbx]) hinv
   simp -dsimp -implicitDefEqProofs only[go_sem,seval,↓reduceIte,zbn,hc,zai (zfP hb),hbx,hi]
  ·simp -dsimp -implicitDefEqProofs only[go_sem,seval,↓reduceIte,zbn,hc,zai (zfP hb),hbx,w2]
   refine⟨(),fun j hj=> ?_⟩
   rcases Nat.lt_or_ge j i with h|h
   ·exact hinv j h
   ·have:j=i:=by omega
    subst this
    rw[hb]
    intro e
    cases e
    exact hbx rfl
 ·rintro - hinv
  obtain⟨j,hlt,hj⟩:=List.getElem_of_mem hm
  exact absurd (by rw[List.getElem?_eq_getElem hlt,hj]) (hinv j hlt)
def appR(t:Tm)(ts:List Tm)(i:Nat):Heap:=[.box (some 4) (.pv (some 4) t.pv),.box (some 4) (.agg [(none,.pv none (.int .i64 0)),(none,.pv none (.int .i64 0)),(none,.pv none (.str [])),(none,.sl (some 4) 2 0 0 0)]),.arr (some 4) [] false,.box (some 4) (.agg [(none,.pv none (.int .i64 t.kind)),(none,.pv none (.int .i64 t.n)),(none,.pv none (.str t.name)),(none,.sl (some 4) 5 i 0 i)]),.arr (some 4) [] false,.arr (some 4) (Tm.pvs (ts.take i)) false]
theorem zsT(L:List Int)(hL:L.length<100000000):∀(t:Tm) (hp:Heap),t.fits=true->t.size<1000000000->(∀w∈t.occ,w∈L)->S 50 [.pv none (.sl none (ints L)),t.av] hp=some (.ret (Tm.sub (cPos L) t).av,hp):=by
 intro t
 induction t using Tm.zt6 with
 |h t ih=>
  intro hp hf ht ho
  have hts:=t.size_eq
  have hlen:=Tm.zt2 t.args
  refine zaj rfl rfl rfl (zaa [(none,.sl none (ints L)),(some 4,t.pv)]) rfl ?_
  have hb:zaJ [(none,.pv none (.int .i64 0)),(none,.pv none (.int .i64 0)),(none,.pv none (.str [])),(none,.tsl (some 4) [])] [0,1,2] [.pv none (.int .i64 t.kind),.pv none (.int .i64 t.n),.pv none (.str t.name)]=some (.agg [(none,.pv none (.int .i64 t.kind)),(none,.pv none (.int .i64 t.n)),(none,.pv none (.str t.name)),(none,.tsl (some 4) [])]):=rfl
  by_cases hk:t.kind=0
  ·have hk':=eq_true hk
   have hm:t.n∈L:=ho _ (by rw[Tm.zuh,if_pos hk];simp)
   have hpos:=fun hp=>zsS L t.n (by omega) hm hp
   have ha:t.args=[]:=by rw[zeS hf hk];rfl
   have hnm:t.name=[]:=by rw[zeS hf hk];rfl
   have e:Tm.sub (cPos L) t=tvar (L.idxOf t.n:Nat):=by rw[Tm.zui,if_pos hk];rfl
   rw[e]
   generalize ((L.idxOf t.n:Nat):Int)=k at hpos ⊢
   simp -dsimp -implicitDefEqProofs only[go_sem,seval,↓reduceIte,Tm.av,zao,zbS,zat,zak,Tm.pvs_len,hk',hb,hpos,zab (Nat.zero_le _)]
   refine zcj (α:=Unit) 0 (fun _ _=>True) (fun i _=>⟨[(0,.pv none (.sl none (ints L))),(3,.ptr 0 0),(4,.ptr 1 0),(5,.ptr 3 0),(6,.pv none (.int .i64 i))],[.box (some 4) (.pv (some 4) t.pv),.box (some 4) (.agg [(none,.pv none (.int .i64 0)),(none,.pv none (.int .i64 0)),(none,.pv none (.str [])),(none,.sl (some 4) 2 0 0 0)]),.arr (some 4) [] false,.box (some 4) (.agg [(none,.pv none (.int .i64 t.kind)),(none,.pv none (.int .i64 k)),(none,.pv none (.str t.name)),(none,.sl (some 4) 5 0 0 0)]),.arr (some 4) [] false,.arr (some 4) [] false]⟩) () ⟨trivial,rfl⟩ ?_ ?_
   ·rintro i - h -
    omega
   ·rintro - -
    have hc:¬(0:Int)<(t.args.length:Int):=by rw[ha];simp
    simp -dsimp -implicitDefEqProofs only[go_sem,seval,↓reduceIte,zak,Tm.pvs_len,hc,zaL,zab (Nat.zero_le _),zaQ (Nat.zero_le _)]
    rw[hk,hnm]
    exact zhn _ _ _ [] _ rfl rfl
  ·have hk':=eq_false hk
   rw[zk4 hk]
   obtain⟨ts',hts'⟩:∃ts',ts'=t.args.map (Tm.sub (cPos L)):=⟨_,rfl⟩
   have htl:ts'.length=t.args.length:=by rw[hts',List.length_map]
   rw[<-hts']
   simp -dsimp -implicitDefEqProofs only[go_sem,seval,↓reduceIte,Tm.av,zao,zbS,zat,zak,Tm.pvs_len,hk',hb,zab (Nat.zero_le _)]
   refine zcj (α:=Unit) t.args.length (fun _ _=>True) (fun i _=>⟨[(0,.pv none (.sl none (ints L))),(3,.ptr 0 0),(4,.ptr 1 0),(5,.ptr 3 0),(6,.pv none (.int .i64 i))],appR t ts' i⟩) () ⟨trivial,rfl⟩ ?_ ?_
   ·rintro i - h -
    have hc:(i:Int)<(t.args.length:Int):=by omega
    obtain⟨u,hu⟩:∃u,t.args[i]? =some u:=⟨_,List.getElem?_eq_getElem h⟩
    have hum:=List.mem_of_getElem? hu
    have husz:=Tm.zt3 hum
    have hcall:=fun hp=>ih u hum hp (Tm.zt7 hf hum) (by omega) fun w hw=>ho w (Tm.zut hk hum hw)
    simp only[Tm.av] at hcall
    have w2:IntKind.i64.wrap ((i:Int)+1)=((i+1:Nat):Int):=by rw[zaF (by omega) (by omega)];omega
    have hl:(Tm.pvs (ts'.take i)).length=i:=by rw[Tm.pvs_len,List.length_take];omega
    have hlim:i+1<=lim:=by unfold lim;omega
    have hus:ts'[i]? =some (Tm.sub (cPos L) u):=by rw[hts'];simp[hu]
    simp -dsimp -implicitDefEqProofs only[go_sem,seval,↓reduceIte,appR,zak,Tm.pvs_len,hc,zai (Tm.pvs_get hu),hcall,w2,hl,hlim,Tm.zt5 hus,zab (Nat.zero_le _),zaQ (Nat.zero_le _)]
    exact⟨(),rfl⟩
   ·rintro - -
    have hc:¬(t.args.length:Int)<(t.args.length:Int):=by omega
    have htk:ts'.take t.args.length=ts':=List.take_of_length_le (by omega)
    simp -dsimp -implicitDefEqProofs only[go_sem,seval,↓reduceIte,appR,zak,Tm.pvs_len,hc,htk,zaL,zab (Nat.zero_le _),zaQ (Nat.zero_le _)]
    exact zhn _ _ _ (Tm.pvs ts') _ (by rw[Tm.pvs_len,htl]) rfl
theorem zt0(t:Tm)(s:List UInt8)(n:Int)(hp:Heap):S 70 [t.av,.pv none (.str s),.pv none (.int .i64 n)] hp=some (.ret (.pv none (.bool (decide ((t.kind=2\/t.kind=3)/\t.name=s/\(t.args.length:Int)=n)))),hp):=by
 refine zaj rfl rfl rfl (zaa [(some 4,t.pv),(none,.str s),(none,.int .i64 n)]) rfl ?_
 by_cases h2:t.kind=2
 ·have h2':=eq_true h2
  by_cases hn:t.name=s
  ·have hn':=eq_true hn
   simp -dsimp -implicitDefEqProofs only[go_sem,seval,↓reduceIte,Tm.av,zao,zat,zak,Tm.pvs_len,h2',hn',true_or]
  ·have hn':=eq_false hn
   simp -dsimp -implicitDefEqProofs only[go_sem,seval,↓reduceIte,Tm.av,zao,zat,zak,Tm.pvs_len,h2',hn',true_or]
 ·have h2':=eq_false h2
  by_cases h3:t.kind=3
  ·have h3':=eq_true h3
   by_cases hn:t.name=s
   ·have hn':=eq_true hn
    simp -dsimp -implicitDefEqProofs only[go_sem,seval,↓reduceIte,Tm.av,zao,zat,zak,Tm.pvs_len,h2',h3',hn',false_or]
   ·have hn':=eq_false hn
    simp -dsimp -implicitDefEqProofs only[go_sem,seval,↓reduceIte,Tm.av,zao,zat,zak,Tm.pvs_len,h2',h3',hn',false_or]
  ·have h3':=eq_false h3
   simp -dsimp -implicitDefEqProofs only[go_sem,seval,↓reduceIte,Tm.av,zao,zat,zak,Tm.pvs_len,h2',h3',false_or]
theorem zt1{t:Tm}(hf:t.fits=true)(s:List UInt8):((t.kind=2\/t.kind=3)/\t.name=s/\(t.args.length:Int)=2)↔(t.kind=3/\t.args.length=2/\t.name=s):=by
 constructor
 ·rintro⟨hk,hn,ha⟩
  refine⟨?_,by omega,hn⟩
  rcases hk with hk|hk
  ·rw[Tm.zt9,Bool.and_eq_true] at hf
   have h:=hf.1
   unfold Tm.node at h
   rw[hk] at h
   simp at h
   rw[h.2] at ha
   simp at ha
  ·exact hk
 ·rintro⟨hk,ha,hn⟩
  exact⟨.inr hk,hn,by omega⟩
theorem zmb(t:Tm)(hf:t.fits=true)(hp:Heap):S 45 [t.av] hp=some (.ret (.pv none (.bool (decide (jn t)))),hp):=by
 refine zaj rfl rfl rfl (zaa [(some 4,t.pv)]) rfl ?_
 have h1:=fun s hp=>zt0 t s 2 hp
 simp only[zt1 hf,Tm.av] at h1
 have e:decide (jn t)=(decide (t.kind=3/\t.args.length=2/\t.name=[44]) || (decide (t.kind=3/\t.args.length=2/\t.name=[59]) || decide (t.kind=3/\t.args.length=2/\t.name=[45,62]))):=by
  unfold jn
  by_cases a:t.kind=3 <;> by_cases b:t.args.length=2 <;> simp[a,b]
 rw[e]
 have g1:=h1 [44]
 have g2:=h1 [59]
 have g3:=h1 [45,62]
 generalize decide (t.kind=3/\t.args.length=2/\t.name=[44])=x at g1
 generalize decide (t.kind=3/\t.args.length=2/\t.name=[59])=y at g2
 generalize decide (t.kind=3/\t.args.length=2/\t.name=[45,62])=z at g3
 clear e h1
 cases x
 ·cases y
  ·simp -dsimp -implicitDefEqProofs only[go_sem,seval,↓reduceIte,Tm.av,g1,g2,g3,Bool.false_or]
  ·simp -dsimp -implicitDefEqProofs only[go_sem,seval,↓reduceIte,Tm.av,g1,g2,g3,Bool.false_or,Bool.true_or]
 ·simp -dsimp -implicitDefEqProofs only[go_sem,seval,↓reduceIte,Tm.av,g1,g2,g3,Bool.true_or]
def rcF:Nat->Tm->Tm × Bool
 |0,_=>(zt,false)
 |n+1,t=>if t.kind=0 then(tstr zpw [t],true) else if t.kind=1 then(zt,false) else if jn t then(match t.args with
   |[a,b]=>(tstr t.name [(rcF n a).1,(rcF n b).1],(rcF n a).2 && (rcF n b).2)
   |_=>(zt,false)) else(t,true)
theorem znu(t a b ga gb:Tm)(oa ob:Bool)(hab:t.args=[a,b])(hf:t.fits=true)(k0:¬t.kind=0)(k1:¬t.kind=1)(hjn:jn t)(h1:∀hp,S 24 [a.av] hp=some (.ret (.tuple [ga.av,.pv none (.bool oa)]),hp))(h2:∀hp,S 24 [b.av] hp=some (.ret (.tuple [gb.av,.pv none (.bool ob)]),hp))(hp:Heap):S 24 [t.av] hp=some (.ret (.tuple [(tstr t.name [ga,gb]).av,.pv none (.bool (oa && ob))]),hp):=by
 refine zaj rfl rfl rfl (zaa [(some 4,t.pv)]) rfl ?_
 have k0':=eq_false k0
 have k1':=eq_false k1
 have hj:=fun hp=>zmb t hf hp
 rw[decide_eq_true hjn] at hj
 have pa:PV.part deep t.pv 3 none=some (.sl (some 4) [a.pv,b.pv]):=by rw[zak,hab];rfl
 have i0:zaR (some 4) [.pv none (.sl (some 4) [a.pv,b.pv]),.pv none (.int .i64 0)]=some (.iptr (some 4) a.pv 0):=rfl
 have i1:zaR (some 4) [.pv none (.sl (some 4) [a.pv,b.pv]),.pv none (.int .i64 1)]=some (.iptr (some 4) b.pv 0):=rfl
 have hb:zaJ [(none,.pv none (.int .i64 0)),(none,.pv none (.int .i64 0)),(none,.pv none (.str [])),(none,.tsl (some 4) [])] [0,2,3] [.pv none (.int .i64 3),.pv none (.str t.name),.tsl (some 4) [ga.pv,gb.pv]]=some (cV t.name [ga.pv,gb.pv]):=rfl
 have hst:=fun x0 v r=>zrh x0 v r t.name ga.pv [gb.pv]
 simp only[Tm.av] at h1 h2 hj
 cases oa
 ·simp -dsimp -implicitDefEqProofs only[go_sem,seval,↓reduceIte,Tm.av,zao,zat,k0',k1',hj,h1,h2,pa,i0,i1,hb,hst,zab (Nat.zero_le _),List.append_assoc,zae,zac,zaf,zad,Nat.add_assoc,List.length_append]
  exact⟨_,rfl⟩
 ·simp -dsimp -implicitDefEqProofs only[go_sem,seval,↓reduceIte,Tm.av,zao,zat,k0',k1',hj,h1,h2,pa,i0,i1,hb,hst,zab (Nat.zero_le _),List.append_assoc,zae,zac,zaf,zad,Nat.add_assoc,List.length_append]
  exact⟨_,rfl⟩
theorem zrE:∀(n:Nat) (t:Tm),t.size<=n->t.valid=true->∀hp,S 24 [t.av] hp=some (.ret (.tuple [(rcF n t).1.av,.pv none (.bool (rcF n t).2)]),hp):=by
 intro n
 induction n with
 |zero=>
  intro t h
  have:=t.size_eq
  omega
 |succ n ih=>
  intro t hs hv hp
  have hf:=valid_fits hv
  have hts:=t.size_eq
  have hsz:=zbd hv
  rw[rcF]
  by_cases k0:t.kind=0
  ·rw[if_pos k0]
   refine zaj rfl rfl rfl (zaa [(some 4,t.pv)]) rfl ?_
   have k0':=eq_true k0
   have hb:zaJ [(none,.pv none (.int .i64 0)),(none,.pv none (.int .i64 0)),(none,.pv none (.str [])),(none,.tsl (some 4) [])] [0,2,3] [.pv none (.int .i64 3),.pv none (.str [99,97,108,108]),.tsl (some 4) [t.pv]]=some (cV zpw [t.pv]):=rfl
   have hst:=fun x0 v r=>zrh x0 v r zpw t.pv []
   simp -dsimp -implicitDefEqProofs only[go_sem,seval,↓reduceIte,Tm.av,zao,k0',hb,hst,zab (Nat.zero_le _),List.append_assoc,zae,zac,zaf,zad,Nat.add_assoc,List.length_append]
   exact⟨_,rfl⟩
  have k0':=eq_false k0
  rw[if_neg k0]
  by_cases k1:t.kind=1
  ·rw[if_pos k1]
   refine zaj rfl rfl rfl (zaa [(some 4,t.pv)]) rfl ?_
   have k1':=eq_true k1
   have hb:zaJ [(none,.pv none (.int .i64 0)),(none,.pv none (.int .i64 0)),(none,.pv none (.str [])),(none,.tsl (some 4) [])] [] []=some (.agg [(none,.pv none (.int .i64 0)),(none,.pv none (.int .i64 0)),(none,.pv none (.str [])),(none,.tsl (some 4) [])]):=rfl
   simp -dsimp -implicitDefEqProofs only[go_sem,seval,↓reduceIte,Tm.av,zao,k0',k1',hb,zab (Nat.zero_le _),List.append_assoc,zae,zac,zaf,zad,Nat.add_assoc,List.length_append]
   exact⟨_,rfl⟩
  have k1':=eq_false k1
  rw[if_neg k1]
  by_cases hjn:jn t
  ·rw[if_pos hjn]
   obtain⟨a,b,hab⟩:=zid hjn.2.1
   have ha:a∈t.args:=by rw[hab];simp
   have hbm:b∈t.args:=by rw[hab];simp
   have z1:=Tm.zt3 ha
   have z2:=Tm.zt3 hbm
   rw[hab]
   exact znu t a b _ _ _ _ hab hf k0 k1 hjn (fun hp=>ih a (by omega) (zeQ hv ha) hp) (fun hp=>ih b (by omega) (zeQ hv hbm) hp) hp
  ·rw[if_neg hjn]
   refine zaj rfl rfl rfl (zaa [(some 4,t.pv)]) rfl ?_
   have hj:=fun hp=>zmb t hf hp
   rw[decide_eq_false hjn] at hj
   have hcl:=fun hp=>zp1 t hp hv (by omega)
   simp only[Tm.av] at hj hcl
   simp -dsimp -implicitDefEqProofs only[go_sem,seval,↓reduceIte,Tm.av,zao,k0',k1',hj,hcl,zab (Nat.zero_le _),List.append_assoc,zae,zac,zaf,zad,Nat.add_assoc,List.length_append]
   exact⟨_,rfl⟩
theorem ztC:∀(n:Nat) (t:Tm),(rcF n t).2=true->t.fits=true->cvF n t=some (rcF n t).1:=by
 intro n
 induction n with
 |zero=>intro t h;cases h
 |succ n ih=>
  intro t h hf
  rw[rcF] at h ⊢
  rw[cvF]
  by_cases k0:t.kind=0
  ·rw[if_pos k0,if_pos k0]
  rw[if_neg k0] at h ⊢
  rw[if_neg k0]
  by_cases k1:t.kind=1
  ·rw[if_pos k1] at h
   cases h
  rw[if_neg k1] at h ⊢
  by_cases hj:jn t
  ·rw[if_pos hj] at h ⊢
   rw[if_pos hj]
   obtain⟨a,b,hab⟩:=zid hj.2.1
   have fa:a.fits=true:=Tm.zt7 hf (by rw[hab];simp)
   have fb:b.fits=true:=Tm.zt7 hf (by rw[hab];simp)
   rw[hab] at h ⊢
   simp only[Bool.and_eq_true] at h ⊢
   rw[ih a h.1 fa,ih b h.2 fb]
  ·rw[if_neg hj] at h ⊢
   rw[if_neg hj]
   have hk:t.kind=2\/t.kind=3:=by
    rw[Tm.zt9,Bool.and_eq_true] at hf
    have hn:=hf.1
    unfold Tm.node at hn
    rw[if_neg k0,if_neg k1] at hn
    by_cases k2:t.kind=2
    ·exact .inl k2
    ·rw[if_neg k2] at hn
     by_cases k3:t.kind=3
     ·exact .inr k3
     ·rw[if_neg k3] at hn
      cases hn
   rw[if_pos hk]
theorem zrF:∀(n:Nat) (t:Tm),(rcF n t).1.size<=2*t.size:=by
 intro n
 induction n with
 |zero=>
  intro t
  have:=t.size_eq
  show 1<=_
  omega
 |succ n ih=>
  intro t
  have hts:=t.size_eq
  rw[rcF]
  split
  ·show 1+(t.size+0)<=_
   omega
  ·split
   ·show 1<=_
    omega
   ·split
    ·split
     ·rename_i a b hab
      have h1:=ih a
      have h2:=ih b
      rw[hab] at hts
      have e:Tm.sizes [a,b]=a.size+(b.size+0):=rfl
      rw[e] at hts
      show 1+((rcF n a).1.size+((rcF n b).1.size+0))<=_
      omega
     ·show 1<=_
      omega
    ·show t.size<=_
     omega
theorem zgz(l:List Tm)(hf:∀t∈l,t.fits=true)(hz:Tm.sizes l<50000000)(hp:Heap):S 27 [.pv none (.sl (some 4) (Tm.pvs l))] hp=some (.ret (.pv none (.sl none (ints (vads [] (Tm.occs l))))),hp):=by
 refine zaj rfl rfl rfl (zaa [(none,.sl (some 4) (Tm.pvs l))]) rfl ?_
 have hlen:=Tm.zt2 l
 have hn0:∀H:Heap,zcr none H=some (.sl none H.length 0 0 0,H++[.arr none [] false]):=fun H=>zkU (sh:=none) (by decide)
 simp -dsimp -implicitDefEqProofs only[go_sem,seval,↓reduceIte,hn0,List.append_assoc,zae,zac,zaf,zad,Nat.add_assoc,List.length_append]
 refine zcj (α:=AV × Heap) l.length (fun i a=>IsV a.1 a.2 (vads [] (Tm.occs (l.take i)))) (fun i a=>⟨[(0,.pv none (.sl (some 4) (Tm.pvs l))),(3,a.1),(4,.pv none (.int .i64 i))],a.2⟩) (.sl none 1 0 0 0,[.arr none [] false,.arr none [] false]) ⟨.inr ⟨1,rfl,rfl⟩,rfl⟩ ?_ ?_
 ·rintro i ⟨s1,H⟩ h k1
  dsimp only at k1
  have hc:(i:Int)<(l.length:Int):=by omega
  obtain⟨u,hu⟩:∃u,l[i]? =some u:=⟨_,List.getElem?_eq_getElem h⟩
  have hum:=List.mem_of_getElem? hu
  have hst:=Tm.zt8 hu
  have hle:=Tm.zt4 l (i+1)
  have hvl:=zeW (Tm.occs (l.take i)) []
  have hol:=Tm.zuf (l.take i)
  simp only[List.length_nil] at hvl
  obtain⟨s2,H2,hcall,p1,p2,p3⟩:=zrL u s1 H _ k1 (hf u hum) (by omega)
  simp only[Tm.av] at hcall
  have w2:IntKind.i64.wrap ((i:Int)+1)=((i+1:Nat):Int):=by rw[zaF (by omega) (by omega)];omega
  simp -dsimp -implicitDefEqProofs only[go_sem,seval,↓reduceIte,Tm.pvs_len,hc,zai (Tm.pvs_get hu),hcall,w2]
  have hcc:=zeT 2 0 [(0,.pv none (.sl (some 4) (Tm.pvs l))),(3,s2),(4,.pv none (.int .i64 ((i+1:Nat):Int)))] H2
  refine⟨(s2,collect 2 0 [(0,.pv none (.sl (some 4) (Tm.pvs l))),(3,s2),(4,.pv none (.int .i64 ((i+1:Nat):Int)))] H2),?_,rfl⟩
  generalize collect 2 0 [(0,.pv none (.sl (some 4) (Tm.pvs l))),(3,s2),(4,.pv none (.int .i64 ((i+1:Nat):Int)))] H2=HC at hcc
  rw[Tm.zub hu,zd1]
  rcases hcc with rfl|⟨rfl,hr⟩
  ·exact p1
  ·exact p1.take (hr (3,s2) (by simp))
 ·rintro⟨s1,H⟩ k1
  dsimp only at k1
  have hc:¬(l.length:Int)<(l.length:Int):=by omega
  rw[List.take_length] at k1
  simp -dsimp -implicitDefEqProofs only[go_sem,seval,↓reduceIte,Tm.pvs_len,hc]
  exact znw k1
theorem zjW(l:List Tm)(hf:∀t∈l,t.fits=true)(hz:Tm.sizes l<50000000)(hp:Heap):S 29 [.pv none (.sl (some 4) (Tm.pvs l))] hp=some (.ret (.pv none (.sl (some 4) (Tm.pvs (l.map (Tm.sub (cPos (vads [] (Tm.occs l)))))))),hp):=by
 refine zaj rfl rfl rfl (zaa [(none,.sl (some 4) (Tm.pvs l))]) rfl ?_
 have hlen:=Tm.zt2 l
 have hn4:∀H:Heap,zcr (some 4) H=some (.sl (some 4) H.length 0 0 0,H++[.arr (some 4) [] false]):=fun H=>zkU (sh:=some 4) (by decide)
 have h1:=fun hp=>zgz l hf hz hp
 have hvl:=zeW (Tm.occs l) []
 have hol:=Tm.zuf l
 simp only[List.length_nil] at hvl
 have hnum:=fun(u:Tm) (hu:u∈l) hp=>zsT (vads [] (Tm.occs l)) (by omega) u hp (hf u hu) (by have:=Tm.zug hu;omega) fun w hw=>(zrK _ [] w).2 (.inr (Tm.zup hu hw))
 generalize vads [] (Tm.occs l)=L at*
 obtain⟨ts',hts'⟩:∃ts',ts'=l.map (Tm.sub (cPos L)):=⟨_,rfl⟩
 have htl:ts'.length=l.length:=by rw[hts',List.length_map]
 rw[<-hts']
 simp -dsimp -implicitDefEqProofs only[go_sem,seval,↓reduceIte,hn4,h1,List.append_assoc,zae,zac,zaf,zad,Nat.add_assoc,List.length_append]
 refine zcj (α:=Unit) l.length (fun _ _=>True) (fun i _=>⟨[(0,.pv none (.sl (some 4) (Tm.pvs l))),(3,.pv none (.sl none (ints L))),(4,.sl (some 4) 1 i 0 i),(5,.pv none (.int .i64 i))],[.arr (some 4) [] false,.arr (some 4) (Tm.pvs (ts'.take i)) false]⟩) () ⟨trivial,rfl⟩ ?_ ?_
 ·rintro i - h -
  have hc:(i:Int)<(l.length:Int):=by omega
  obtain⟨u,hu⟩:∃u,l[i]? =some u:=⟨_,List.getElem?_eq_getElem h⟩
  have hum:=List.mem_of_getElem? hu
  have hcall:=fun hp=>hnum u hum hp
  simp only[Tm.av] at hcall
  have w2:IntKind.i64.wrap ((i:Int)+1)=((i+1:Nat):Int):=by rw[zaF (by omega) (by omega)];omega
  have hll:(Tm.pvs (ts'.take i)).length=i:=by rw[Tm.pvs_len,List.length_take];omega
  have hlim:i+1<=lim:=by unfold lim;omega
  have hus:ts'[i]? =some (Tm.sub (cPos L) u):=by rw[hts'];simp[hu]
  simp -dsimp -implicitDefEqProofs only[go_sem,seval,↓reduceIte,Tm.pvs_len,hc,zai (Tm.pvs_get hu),hcall,w2,hll,hlim,Tm.zt5 hus]
  exact⟨(),trivial⟩
 ·rintro - -
  have hc:¬(l.length:Int)<(l.length:Int):=by omega
  have htk:ts'.take l.length=ts':=List.take_of_length_le (by omega)
  simp -dsimp -implicitDefEqProofs only[go_sem,seval,↓reduceIte,Tm.pvs_len,hc,htk]
  have hlp:(Tm.pvs ts').length=l.length:=by rw[Tm.pvs_len,htl]
  rw[zjG (sh:=some 4) (hp:=[AObj.arr (some 4) [] false,AObj.arr (some 4) (Tm.pvs ts') false]) (r:=1) (n:=l.length) hlp]
  rfl
theorem zlc(a a' b b':Tm)(z1:a.size<1000000000)(z2:a'.size<1000000000)(z3:b.size<1000000000)(z4:b'.size<1000000000)(hp:Heap):S 28 [.pv none (.sl (some 4) (Tm.pvs [a',b'])),.pv none (.sl (some 4) (Tm.pvs [a,b]))] hp=some (.ret (.pv none (.bool (same a' a && same b' b))),hp):=by
 refine zaj rfl rfl rfl (zaa [(none,.sl (some 4) (Tm.pvs [a',b'])),(none,.sl (some 4) (Tm.pvs [a,b]))]) rfl ?_
 have h1:=fun hp=>zio a' a hp z2 z1
 have h2:=fun hp=>zio b' b hp z4 z3
 have e2:((2:Nat):Int)=2:=rfl
 have e1:((1:Nat):Int)=1:=rfl
 have e0:((0:Nat):Int)=0:=rfl
 have p1:Tm.pvs [a',b']=[a'.pv,b'.pv]:=rfl
 have p2:Tm.pvs [a,b]=[a.pv,b.pv]:=rfl
 have hl:∀x y:PV,(([x,y]:List PV).length:Int)=2:=fun _ _=>rfl
 simp only[Tm.av] at h1 h2
 rw[p1,p2]
 simp -dsimp -implicitDefEqProofs only[go_sem,seval,↓reduceIte,hl,e2]
 refine zcj (α:=Unit) 2 (fun i _=>(0<i->same a' a=true)/\(1<i->same b' b=true)) (fun i _=>⟨[(0,.pv none (.sl (some 4) [a'.pv,b'.pv])),(1,.pv none (.sl (some 4) [a.pv,b.pv])),(5,.pv none (.int .i64 i))],[]⟩) () ⟨⟨by omega,by omega⟩,rfl⟩ ?_ ?_
 ·rintro i - h ⟨ha,hb⟩
  match i,h with
  |0,_=>
   have c2:(0:Int)<2:=by decide
   have w2:IntKind.i64.wrap ((0:Int)+1)=((0+1:Nat):Int):=by decide
   have i0:zaR (some 4) [.pv none (.sl (some 4) [a'.pv,b'.pv]),.pv none (.int .i64 0)]=some (.iptr (some 4) a'.pv 0):=rfl
   have i1:zaR (some 4) [.pv none (.sl (some 4) [a.pv,b.pv]),.pv none (.int .i64 0)]=some (.iptr (some 4) a.pv 0):=rfl
   cases hs:same a' a with
   |true=>
    rw[hs] at h1
    simp -dsimp -implicitDefEqProofs only[go_sem,seval,↓reduceIte,hl,e2,e0,c2,w2,i0,i1,h1]
    exact⟨(),⟨fun _=>trivial,fun h=>absurd h (by decide)⟩,rfl⟩
   |false=>
    rw[hs] at h1
    simp -dsimp -implicitDefEqProofs only[go_sem,seval,↓reduceIte,hl,e2,e0,c2,w2,i0,i1,h1]
    try exact⟨_,rfl⟩
  |1,_=>
   have h0:=ha (by omega)
   have c2:(1:Int)<2:=by decide
   have w2:IntKind.i64.wrap ((1:Int)+1)=((1+1:Nat):Int):=by decide
   have i0:zaR (some 4) [.pv none (.sl (some 4) [a'.pv,b'.pv]),.pv none (.int .i64 1)]=some (.iptr (some 4) b'.pv 0):=rfl
   have i1:zaR (some 4) [.pv none (.sl (some 4) [a.pv,b.pv]),.pv none (.int .i64 1)]=some (.iptr (some 4) b.pv 0):=rfl
   rw[h0]
   cases hs:same b' b with
   |true=>
    rw[hs] at h2
    simp -dsimp -implicitDefEqProofs only[go_sem,seval,↓reduceIte,hl,e2,e1,c2,w2,i0,i1,h2]
    first|exact⟨(),⟨fun _=>trivial,fun _=>trivial⟩,rfl⟩|exact⟨(),fun _=>trivial,rfl⟩|exact⟨(),fun _=>trivial⟩
   |false=>
    rw[hs] at h2
    simp -dsimp -implicitDefEqProofs only[go_sem,seval,↓reduceIte,hl,e2,e1,c2,w2,i0,i1,h2]
    try exact⟨_,rfl⟩
 ·rintro - ⟨ha,hb⟩
  have h0:=ha (by omega)
  have h1':=hb (by omega)
  have c2:¬(2:Int)<2:=by decide
  rw[h0,h1']
  simp -dsimp -implicitDefEqProofs only[go_sem,seval,↓reduceIte,hl,e2,c2]
  try exact⟨_,rfl⟩
theorem zbX(c:Cz):PV.part deep c.pv 0 none=some (.int .i64 c.head.kind):=by
 obtain⟨⟨_,_,_,_⟩,_⟩:=c
 rfl
theorem znt(c:Cz)(z1:c.head.size<100000000)(z2:c.body.size<100000000)(hp:Heap):∃r:Bool,S 8 [c.av] hp=some (.ret (.pv none (.bool r)),hp)/\(r=true->okC c=true):=by
 have h1:=fun hp=>zdJ c.head hp (by omega)
 have h2:=fun hp=>zdJ c.body hp (by omega)
 simp only[Tm.av] at h1 h2
 cases v1:c.head.valid with
 |false=>
  rw[v1] at h1
  refine⟨false,zaj rfl rfl rfl (zaa [(some 8,c.pv)]) rfl ?_,fun h=>by cases h⟩
  simp -dsimp -implicitDefEqProofs only[go_sem,seval,↓reduceIte,Cz.av,zaT,zaU,zbX,h1,List.append_assoc,zae,zac,zaf,zad,Nat.add_assoc,List.length_append]
 |true=>
 rw[v1] at h1
 cases v2:c.body.valid with
 |false=>
  rw[v2] at h2
  refine⟨false,zaj rfl rfl rfl (zaa [(some 8,c.pv)]) rfl ?_,fun h=>by cases h⟩
  simp -dsimp -implicitDefEqProofs only[go_sem,seval,↓reduceIte,Cz.av,zaT,zaU,zbX,h1,h2,List.append_assoc,zae,zac,zaf,zad,Nat.add_assoc,List.length_append]
 |true=>
 rw[v2] at h2
 have hs1:=zbd v1
 have hs2:=zbd v2
 by_cases hk:c.head.kind=2\/c.head.kind=3
 rotate_left
 ·have k2:(c.head.kind=2)=False:=eq_false fun h=>hk (.inl h)
  have k3:(c.head.kind=3)=False:=eq_false fun h=>hk (.inr h)
  refine⟨false,zaj rfl rfl rfl (zaa [(some 8,c.pv)]) rfl ?_,fun h=>by cases h⟩
  simp -dsimp -implicitDefEqProofs only[go_sem,seval,↓reduceIte,Cz.av,zaT,zaU,zbX,h1,h2,k2,k3,List.append_assoc,zae,zac,zaf,zad,Nat.add_assoc,List.length_append]
 have h3:=fun hp=>zrE c.body.size c.body (Nat.le_refl _) v2 hp
 have hcv:=ztC c.body.size c.body
 have hcs:=zrF c.body.size c.body
 generalize rcF c.body.size c.body=R at h3 hcv hcs
 obtain⟨g,ok⟩:=R
 dsimp only at h3 hcv hcs
 have h4:=fun hp=>zio g c.body hp (by omega) (by omega)
 have h5:=fun hp=>zis c.head hp (by omega)
 have h6:=fun hp=>zis c.body hp (by omega)
 have w1:IntKind.i64.wrap (((min c.head.size 2001:Nat):Int)+((min c.body.size 2001:Nat):Int))=((c.head.size+c.body.size:Nat):Int):=by rw[zaF (by omega) (by omega)];omega
 simp only[Tm.av] at h3 h4 h5 h6
 have hfl:∀t∈[c.head,c.body],t.fits=true:=fun t ht=>by
  rcases List.mem_cons.1 ht with rfl|ht
  ·exact valid_fits v1
  ·rcases List.mem_cons.1 ht with rfl|ht
   ·exact valid_fits v2
   ·cases ht
 have hzz:Tm.sizes [c.head,c.body]<50000000:=by
  show c.head.size+(c.body.size+0)<_
  omega
 have eoc:Tm.occs [c.head,c.body]=c.head.occ++c.body.occ:=by
  show c.head.occ++(c.body.occ++[])=_
  rw[List.append_nil]
 have h7:∀hp,S 27 [.tsl (some 4) [c.head.pv,c.body.pv]] hp=some (.ret (.pv none (.sl none (ints c.vars))),hp):=fun hp=>by
  have:=zcL (F:=find tab) (prim:=prim) (f:=27) (args:=[.tsl (some 4) [c.head.pv,c.body.pv]]) (ps:=[(none,.sl (some 4) [c.head.pv,c.body.pv])]) (hp:=hp) (hp1:=hp) rfl rfl rfl rfl (zgz [c.head,c.body] hfl hzz [])
  rw[eoc] at this
  exact this
 have h8:∀hp,S 29 [.tsl (some 4) [c.head.pv,c.body.pv]] hp=some (.ret (.pv none (.sl (some 4) [c.can.head.pv,c.can.body.pv])),hp):=fun hp=>by
  have:=zcL (F:=find tab) (prim:=prim) (f:=29) (args:=[.tsl (some 4) [c.head.pv,c.body.pv]]) (ps:=[(none,.sl (some 4) [c.head.pv,c.body.pv])]) (hp:=hp) (hp1:=hp) rfl rfl rfl rfl (zjW [c.head,c.body] hfl hzz [])
  rw[eoc] at this
  exact this
 have q1:c.can.head.size=c.head.size:=zeV _ (valid_fits v1)
 have q2:c.can.body.size=c.body.size:=zeV _ (valid_fits v2)
 have h9:∀hp,S 28 [.pv none (.sl (some 4) [c.can.head.pv,c.can.body.pv]),.tsl (some 4) [c.head.pv,c.body.pv]] hp=some (.ret (.pv none (.bool (same c.can.head c.head && same c.can.body c.body))),hp):=fun hp=>by
  have:=zcL (F:=find tab) (prim:=prim) (f:=28) (args:=[.pv none (.sl (some 4) [c.can.head.pv,c.can.body.pv]),.tsl (some 4) [c.head.pv,c.body.pv]]) (ps:=[(none,.sl (some 4) [c.can.head.pv,c.can.body.pv]),(none,.sl (some 4) [c.head.pv,c.body.pv])]) (hp:=hp) (hp1:=hp) rfl rfl rfl rfl (zlc c.head c.can.head c.body c.can.body (by omega) (by omega) (by omega) (by omega) [])
  exact this
 cases ok with
 |false=>
  refine⟨false,zaj rfl rfl rfl (zaa [(some 8,c.pv)]) rfl ?_,fun h=>by cases h⟩
  rcases hk with hk|hk
  ·have k2:=eq_true hk
   simp -dsimp -implicitDefEqProofs only[go_sem,seval,↓reduceIte,Cz.av,zaT,zaU,zbX,h1,h2,h3,k2,zab (Nat.zero_le _),List.append_assoc,zae,zac,zaf,zad,Nat.add_assoc,List.length_append]
  ·have k3:=eq_true hk
   have k2:(c.head.kind=2)=False:=eq_false (by omega)
   simp -dsimp -implicitDefEqProofs only[go_sem,seval,↓reduceIte,Cz.av,zaT,zaU,zbX,h1,h2,h3,k2,k3,zab (Nat.zero_le _),List.append_assoc,zae,zac,zaf,zad,Nat.add_assoc,List.length_append]
 |true=>
 cases sm:same g c.body with
 |false=>
  rw[sm] at h4
  refine⟨false,zaj rfl rfl rfl (zaa [(some 8,c.pv)]) rfl ?_,fun h=>by cases h⟩
  rcases hk with hk|hk
  ·have k2:=eq_true hk
   simp -dsimp -implicitDefEqProofs only[go_sem,seval,↓reduceIte,Cz.av,zaT,zaU,zbX,h1,h2,h3,h4,k2,zab (Nat.zero_le _),List.append_assoc,zae,zac,zaf,zad,Nat.add_assoc,List.length_append]
  ·have k3:=eq_true hk
   have k2:(c.head.kind=2)=False:=eq_false (by omega)
   simp -dsimp -implicitDefEqProofs only[go_sem,seval,↓reduceIte,Cz.av,zaT,zaU,zbX,h1,h2,h3,h4,k2,k3,zab (Nat.zero_le _),List.append_assoc,zae,zac,zaf,zad,Nat.add_assoc,List.length_append]
 |true=>
 rw[sm] at h4
 by_cases hsz:c.head.size+c.body.size<=2000
 rotate_left
 ·have hgt:(2000:Int)<((c.head.size+c.body.size:Nat):Int):=by omega
  refine⟨false,zaj rfl rfl rfl (zaa [(some 8,c.pv)]) rfl ?_,fun h=>by cases h⟩
  rcases hk with hk|hk
  ·have k2:=eq_true hk
   simp -dsimp -implicitDefEqProofs only[go_sem,seval,↓reduceIte,Cz.av,zaT,zaU,zbX,h1,h2,h3,h4,h5,h6,w1,hgt,k2,zab (Nat.zero_le _),List.append_assoc,zae,zac,zaf,zad,Nat.add_assoc,List.length_append]
  ·have k3:=eq_true hk
   have k2:(c.head.kind=2)=False:=eq_false (by omega)
   simp -dsimp -implicitDefEqProofs only[go_sem,seval,↓reduceIte,Cz.av,zaT,zaU,zbX,h1,h2,h3,h4,h5,h6,w1,hgt,k2,k3,zab (Nat.zero_le _),List.append_assoc,zae,zac,zaf,zad,Nat.add_assoc,List.length_append]
 have hgt:¬(2000:Int)<((c.head.size+c.body.size:Nat):Int):=by omega
 by_cases hvl:c.vars.length<=64
 rotate_left
 ·have hv':¬((c.vars.length:Nat):Int)<=64:=by omega
  refine⟨false,zaj rfl rfl rfl (zaa [(some 8,c.pv)]) rfl ?_,fun h=>by cases h⟩
  rcases hk with hk|hk
  ·have k2:=eq_true hk
   simp -dsimp -implicitDefEqProofs only[go_sem,seval,↓reduceIte,Cz.av,zaT,zaU,zbX,h1,h2,h3,h4,h5,h6,h7,w1,hgt,hv',zbn,k2,zab (Nat.zero_le _),List.append_assoc,zae,zac,zaf,zad,Nat.add_assoc,List.length_append]
  ·have k3:=eq_true hk
   have k2:(c.head.kind=2)=False:=eq_false (by omega)
   simp -dsimp -implicitDefEqProofs only[go_sem,seval,↓reduceIte,Cz.av,zaT,zaU,zbX,h1,h2,h3,h4,h5,h6,h7,w1,hgt,hv',zbn,k2,k3,zab (Nat.zero_le _),List.append_assoc,zae,zac,zaf,zad,Nat.add_assoc,List.length_append]
 have hv':((c.vars.length:Nat):Int)<=64:=by omega
 refine⟨same c.can.head c.head && same c.can.body c.body,zaj rfl rfl rfl (zaa [(some 8,c.pv)]) rfl ?_,fun h=> ?_⟩
 ·rcases hk with hk|hk
  ·have k2:=eq_true hk
   simp -dsimp -implicitDefEqProofs only[go_sem,seval,↓reduceIte,Cz.av,zaT,zaU,zbX,h1,h2,h3,h4,h5,h6,h7,h8,h9,w1,hgt,hv',zbn,k2,zab (Nat.zero_le _),List.append_assoc,zae,zac,zaf,zad,Nat.add_assoc,List.length_append]
  ·have k3:=eq_true hk
   have k2:(c.head.kind=2)=False:=eq_false (by omega)
   simp -dsimp -implicitDefEqProofs only[go_sem,seval,↓reduceIte,Cz.av,zaT,zaU,zbX,h1,h2,h3,h4,h5,h6,h7,h8,h9,w1,hgt,hv',zbn,k2,k3,zab (Nat.zero_le _),List.append_assoc,zae,zac,zaf,zad,Nat.add_assoc,List.length_append]
 ·rw[Bool.and_eq_true] at h
  have hg:zd3 c.body=some g:=by
   have hgv:g.valid=true:=by
    unfold same at sm
    rw[Bool.and_eq_true] at sm
    exact sm.1
   have hgs:=zbd hgv
   unfold zd3
   rw[if_pos v2]
   unfold cv
   rw[hcv rfl (valid_fits v2)]
   show(if 2000<g.size then none else some g)=some g
   rw[if_neg (by omega)]
  unfold okC
  rw[v1,hg]
  simp only[sm,h.1,h.2,hsz,hvl,decide_true,Bool.and_true,Bool.true_and]
  rcases hk with hk|hk <;> simp[hk]
def pNm:List UInt8:=[112]
def fSto(j:Nat):Sto:=⟨(j:Int)+1,zcl pNm⟩
def cls5(n:Nat):List Sto:=(List.range n).map fSto
def pFul(n:Nat):Prc:=⟨pNm,0,false,cls5 n⟩
def dFul(n:Nat):Dbs:=⟨501,[pFul n]⟩
theorem zrB(n:Nat):(cls5 n).length=n:=by simp[cls5]
theorem zpN(n:Nat):cls5 (n+1)=cls5 n++[fSto n]:=by simp[cls5,List.range_succ]
theorem ztY:okC (zcl pNm)=true:=by decide+kernel
theorem zpO(n:Nat):ids (dFul n).procs=(List.range n).map fun(j:Nat)=>(j:Int)+1:=by
 show ids [pFul n]=_
 rw[zb2]
 show(cls5 n).map (·.id)++[]=_
 rw[List.append_nil,cls5,List.map_map]
 rfl
theorem zl8(n:Nat):totD (dFul n).procs=n:=by
 rw[zim,zpO]
 simp
theorem ztx(n:Nat)(h:n<=500):okD (dFul n)=true:=by
 refine(zgy _).2 ⟨by show(1:Int)<=501;decide,by show(501:Int)<=4294967296;decide,by show 1<=500;decide,by rw[zl8];exact h,?_⟩
 refine(zpU 501 [] [] (pFul n)).2 ⟨⟨fun p hp=>(by cases hp),List.Pairwise.nil,List.nodup_nil,fun p hp=>(by cases hp)⟩,show namB (keyP pNm 0)=true by decide,fun p hp=>(by cases hp),fun p hp=>(by cases hp),?_,fun s hs hm=>(by cases hm),fun s hs=> ?_⟩
 ·show((cls5 n).map (·.id)).Nodup
  rw[cls5,List.map_map,List.Nodup,List.pairwise_map]
  refine List.Pairwise.imp ?_ (List.nodup_range (n:=n))
  intro a b h e
  apply h
  have e':(a:Int)+1=(b:Int)+1:=e
  omega
 ·obtain⟨j,hj,rfl⟩:=List.mem_map.1 hs
  rw[List.mem_range] at hj
  exact⟨by show 1<=(j:Int)+1;omega,by show(j:Int)+1<501;omega,ztY,rfl,rfl⟩
theorem zla{id:Int}(n:Nat)(h1:¬id<1)(h2:¬(n:Int)<id):id∈ids (dFul n).procs:=by
 rw[zpO]
 refine List.mem_map.2 ⟨(id - 1).toNat,List.mem_range.2 (by omega),by omega⟩
theorem zpP{d:Dbs}{c:Cz}(hv:okD d=true)(hc:okC c=true)(h:totD d.procs=500)(fr dy:Bool):addR d c fr dy=(zDb,13):=by
 unfold addR
 rw[if_neg (by simp[hv,hc]),if_pos (.inl h)]
theorem zpQ{d:Dbs}{c:Cz}(hv:okD d=true)(hc:okC c=true)(h:totD d.procs≠500)(hx:d.next≠4294967296)(hl:d.procs.length≠500)(fr dy:Bool):(addR d c fr dy).2=0:=by
 unfold addR
 rw[if_neg (by simp[hv,hc]),if_neg (by simp[h,hx])]
 split
 ·rfl
 ·rw[if_neg hl]
set_option maxRecDepth 20000 in
theorem zrA(c:Cz)(z1:c.head.size<100000000)(z2:c.body.size<100000000)(id:Int):S 3 [c.av,.pv none (.int .i64 id)] []=some (.ret (.pv none (.bool true)),[]):=by
 refine zaj rfl rfl rfl (zaa [(some 8,c.pv),(none,.int .i64 id)]) rfl ?_
 have hex:=fun hp=>znq hp
 obtain⟨r,h1,hr⟩:=znt c z1 z2 []
 have h1':∀hp,S 8 [c.av] hp=some (.ret (.pv none (.bool r)),hp):=fun hp=>zcL (F:=find tab) (prim:=prim) (f:=8) (args:=[c.av]) (ps:=[(some 8,c.pv)]) (hp:=hp) (hp1:=hp) rfl rfl rfl rfl h1
 simp only[Cz.av] at h1'
 cases r with
 |false=>
  simp -dsimp -implicitDefEqProofs only[go_sem,seval,↓reduceIte,Cz.av,h1',hex,List.append_assoc,zae,zac,zaf,zad,Nat.add_assoc,List.length_append]
  try rfl
 |true=>
 have hc:=hr rfl
 by_cases i1:id<1
 ·simp -dsimp -implicitDefEqProofs only[go_sem,seval,↓reduceIte,Cz.av,h1',hex,i1,List.append_assoc,zae,zac,zaf,zad,Nat.add_assoc,List.length_append]
  try rfl
 by_cases i2:500<id
 ·simp -dsimp -implicitDefEqProofs only[go_sem,seval,↓reduceIte,Cz.av,h1',hex,i1,i2,List.append_assoc,zae,zac,zaf,zad,Nat.add_assoc,List.length_append]
  try rfl
 have hnil:∀H:Heap,zal [(none,.nilv (some 4))] H=([(none,.nilv (some 4))],H):=fun _=>rfl
 have b1:zaJ [(none,.pv none (.int .i64 0)),(none,.nilv (some 4))] [0] [.pv none (.int .i64 501)]=some (.agg [(none,.pv none (.int .i64 501)),(none,.nilv (some 4))]):=rfl
 have b2:zaJ [(none,.pv none (.str [])),(none,.pv none (.int .i64 0)),(none,.pv none (.bool false)),(none,.tsl (some 9) [])] [0] [.pv none (.str [112])]=some (.agg [(none,.pv none (.str [112])),(none,.pv none (.int .i64 0)),(none,.pv none (.bool false)),(none,.tsl (some 9) [])]):=rfl
 simp -dsimp -implicitDefEqProofs only[go_sem,seval,↓reduceIte,Cz.av,h1',i1,i2,b1,b2,hnil,zab (Nat.zero_le _),List.append_assoc,zae,zac,zaf,zad,Nat.add_assoc,List.length_append]
 have hfa:=fun hp=>zpM [112] hp
 simp only[Cz.av] at hfa
 have hbs:∀(j:Nat),zaJ [(none,.pv none (.int .i64 0)),(some 8,.agg [(some 4,.agg [(none,.pv none (.int .i64 0)),(none,.pv none (.int .i64 0)),(none,.pv none (.str [])),(none,.tsl (some 4) [])]),(some 4,.agg [(none,.pv none (.int .i64 0)),(none,.pv none (.int .i64 0)),(none,.pv none (.str [])),(none,.tsl (some 4) [])])])] [0,1] [.pv none (.int .i64 ((j:Int)+1)),.pv (some 8) (zcl [112]).pv]=some (.pv (some 9) (fSto j).pv):=fun j=>rfl
 have hsn:∀j,Sto.pvs (cls5 j)++[(fSto j).pv]=Sto.pvs (cls5 (j+1)):=fun j=>by rw[zpN];simp[Sto.pvs]
 have hsl:∀j,(Sto.pvs (cls5 j)).length=j:=fun j=>by rw[Sto.pvs_len,zrB]
 obtain⟨N,hN⟩:∃N:Nat,N=500:=⟨_,rfl⟩
 refine zcj (α:=Unit) N (fun _ _=>True) (fun j _=>⟨[(1,.pv none (.int .i64 id)),(2,.ptr 0 0),(5,.ptr 1 0),(6,.ptr 2 0),(7,.pv none (.int .i64 ((j:Int)+1)))],[.box (some 8) (.pv (some 8) c.pv),.box (some 2) (.agg [(none,.pv none (.int .i64 501)),(none,.nilv (some 4))]),.box (some 4) (.agg [(none,.pv none (.str [112])),(none,.pv none (.int .i64 0)),(none,.pv none (.bool false)),(none,.sl (some 9) 4 j 0 j)]),.arr (some 9) [] false,.arr (some 9) (Sto.pvs (cls5 j)) false]⟩) () ⟨trivial,rfl⟩ ?_ ?_
 ·rintro j - h -
  have hcc:(j:Int)+1<=500:=by omega
  have w1:IntKind.i64.wrap ((j:Int)+1+1)=((j+1:Nat):Int)+1:=by rw[zaF (by omega) (by omega)];omega
  have hlim:j+1<=lim:=by unfold lim;omega
  simp -dsimp -implicitDefEqProofs only[go_sem,seval,↓reduceIte,hcc,w1,hfa,hbs,hsl,hsn,hlim,zaL,zab (Nat.zero_le _),zaQ (Nat.zero_le _),List.append_assoc,zae,zac,zaf,zad,Nat.add_assoc,List.length_append]
  exact⟨(),rfl⟩
 ·rintro - -
  have hcc:¬(N:Int)+1<=500:=by omega
  have op_bslov:∀{vs:List AV} {H:Heap} {K:AV->Heap->Prop} {Kp:PV->Heap->Prop},opK (aOp (sem (find tab) prim) 0 (.bslov (some 4)) vs H) K Kp=zbP (zcM (some 4) H vs) K:=fun{vs H K Kp}=>by
   show opK (match zcM (some 4) H vs with|some (v,hp')=>some (OpRes.val v hp')|none=>none) K Kp=_
   cases zcM (some 4) H vs with
   |none=>rfl
   |some r=>cases r;rfl
  have hbv:zcM (some 4) [AObj.box (some 8) (.pv (some 8) c.pv),.box (some 2) (.agg [(none,.pv none (.int .i64 501)),(none,.nilv (some 4))]),.box (some 4) (.agg [(none,.pv none (.str [112])),(none,.pv none (.int .i64 0)),(none,.pv none (.bool false)),(none,.sl (some 9) 4 N 0 N)]),.arr (some 9) [] false,.arr (some 9) (Sto.pvs (cls5 N)) false] [.agg [(none,.pv none (.str [112])),(none,.pv none (.int .i64 0)),(none,.pv none (.bool false)),(none,.sl (some 9) 4 N 0 N)]]=some (.slv (some 4) 5 1 0 1,[AObj.box (some 8) (.pv (some 8) c.pv),.box (some 2) (.agg [(none,.pv none (.int .i64 501)),(none,.nilv (some 4))]),.box (some 4) (.agg [(none,.pv none (.str [112])),(none,.pv none (.int .i64 0)),(none,.pv none (.bool false)),(none,.sl (some 9) 4 N 0 N)]),.arr (some 9) [] false,.arr (some 9) (Sto.pvs (cls5 N)) false,.arv (some 4) [.agg [(none,.pv none (.str [112])),(none,.pv none (.int .i64 0)),(none,.pv none (.bool false)),(none,.sl (some 9) 4 N 0 N)]]]):=by
   simp[zcM,zcT,AV.plain,AV.shp,total,Sh.size]
  have hsf:∀(x0:AObj) (X:Heap),zar none 0 (x0::.box (some 2) (.agg [(none,.pv none (.int .i64 501)),(none,.nilv (some 4))])::X) [.ptr 1 1,.slv (some 4) 5 1 0 1]=some (.undef,x0::.box (some 2) (.agg [(none,.pv none (.int .i64 501)),(none,.slv (some 4) 5 1 0 1)])::X):=fun x0 X=>by
   have e:AV.upd deep (.agg [(none,.pv none (.int .i64 501)),(none,.nilv (some 4))]) 1 none (.slv (some 4) 5 1 0 1)=some (.agg [(none,.pv none (.int .i64 501)),(none,.slv (some 4) 5 1 0 1)]):=rfl
   simp[zar,astore,e,AV.plain,AV.shp,AV.own]
  have hN5:N<=500:=by omega
  have hD:=ztx N hN5
  have hz1:AV.freeze deep (.agg [(none,.pv none (.int .i64 501)),(none,.slv (some 4) 5 1 0 1)]) [AObj.box (some 8) (.pv (some 8) c.pv),.box (some 2) (.agg [(none,.pv none (.int .i64 501)),(none,.slv (some 4) 5 1 0 1)]),.box (some 4) (.agg [(none,.pv none (.str [112])),(none,.pv none (.int .i64 0)),(none,.pv none (.bool false)),(none,.sl (some 9) 4 N 0 N)]),.arr (some 9) [] false,.arr (some 9) (Sto.pvs (cls5 N)) false,.arv (some 4) [.agg [(none,.pv none (.str [112])),(none,.pv none (.int .i64 0)),(none,.pv none (.bool false)),(none,.sl (some 9) 4 N 0 N)]]]=some ((dFul N).pv,[AObj.box (some 8) (.pv (some 8) c.pv),.box (some 2) (.agg [(none,.pv none (.int .i64 501)),(none,.slv (some 4) 5 1 0 1)]),.box (some 4) (.agg [(none,.pv none (.str [112])),(none,.pv none (.int .i64 0)),(none,.pv none (.bool false)),(none,.sl (some 9) 4 N 0 N)]),.arr (some 9) [] false,.arr (some 9) (Sto.pvs (cls5 N)) true,.arr (some 4) [(pFul N).pv] true]):=by
   have e1:∀n l hp,AV.freeze (n+1) (.agg l) hp=match AV.freeze.go n l hp with|some (ps,hp')=>some (.agg ps,hp')|none=>none:=fun _ _ _=>rfl
   have e2:∀n l hp,AV.freeze0 (n+1) (.agg l) hp=match AV.freeze0.go n l hp with|some (ps,hp')=>some (.agg ps,hp')|none=>none:=fun _ _ _=>rfl
   show AV.freeze (7+1) _ _=_
   simp[e1,e2,AV.freeze.go,AV.freeze,AV.freeze0.go,AV.freeze0,hsl N]
   exact⟨rfl,rfl⟩
  have hz2:∀X:Heap,AV.freeze deep (.agg [(none,.pv none (.int .i64 501)),(none,.slv (some 4) 5 1 0 1)]) (AObj.box (some 8) (.pv (some 8) c.pv)::.box (some 2) (.agg [(none,.pv none (.int .i64 501)),(none,.slv (some 4) 5 1 0 1)])::.box (some 4) (.agg [(none,.pv none (.str [112])),(none,.pv none (.int .i64 0)),(none,.pv none (.bool false)),(none,.sl (some 9) 4 N 0 N)])::.arr (some 9) [] false::.arr (some 9) (Sto.pvs (cls5 N)) true::.arr (some 4) [(pFul N).pv] true::X)=some ((dFul N).pv,(AObj.box (some 8) (.pv (some 8) c.pv)::.box (some 2) (.agg [(none,.pv none (.int .i64 501)),(none,.slv (some 4) 5 1 0 1)])::.box (some 4) (.agg [(none,.pv none (.str [112])),(none,.pv none (.int .i64 0)),(none,.pv none (.bool false)),(none,.sl (some 9) 4 N 0 N)])::.arr (some 9) [] false::.arr (some 9) (Sto.pvs (cls5 N)) true::.arr (some 4) [(pFul N).pv] true::X)):=fun X=>by
   have e1:∀n l hp,AV.freeze (n+1) (.agg l) hp=match AV.freeze.go n l hp with|some (ps,hp')=>some (.agg ps,hp')|none=>none:=fun _ _ _=>rfl
   show AV.freeze (7+1) _ _=_
   simp[e1,AV.freeze.go,AV.freeze]
   rfl
  have t5:totD (dFul N).procs=500:=by rw[zl8,hN]
  have A1:S 11 [.agg [(none,.pv none (.int .i64 501)),(none,.slv (some 4) 5 1 0 1)],.pv (some 8) c.pv,.pv none (.bool false),.pv none (.bool false)] [AObj.box (some 8) (.pv (some 8) c.pv),.box (some 2) (.agg [(none,.pv none (.int .i64 501)),(none,.slv (some 4) 5 1 0 1)]),.box (some 4) (.agg [(none,.pv none (.str [112])),(none,.pv none (.int .i64 0)),(none,.pv none (.bool false)),(none,.sl (some 9) 4 N 0 N)]),.arr (some 9) [] false,.arr (some 9) (Sto.pvs (cls5 N)) false,.arv (some 4) [.agg [(none,.pv none (.str [112])),(none,.pv none (.int .i64 0)),(none,.pv none (.bool false)),(none,.sl (some 9) 4 N 0 N)]]]=some (.ret (.tuple [.pv (some 2) zDb.pv,.pv none (.int .i64 13)]),[AObj.box (some 8) (.pv (some 8) c.pv),.box (some 2) (.agg [(none,.pv none (.int .i64 501)),(none,.slv (some 4) 5 1 0 1)]),.box (some 4) (.agg [(none,.pv none (.str [112])),(none,.pv none (.int .i64 0)),(none,.pv none (.bool false)),(none,.sl (some 9) 4 N 0 N)]),.arr (some 9) [] false,.arr (some 9) (Sto.pvs (cls5 N)) true,.arr (some 4) [(pFul N).pv] true]):=by
   have h:=zlg (dFul N) (zd5 hD) c z1 z2 false false []
   rw[zpP hD hc t5] at h
   exact zcL (F:=find tab) (prim:=prim) (f:=11) (ps:=[(some 2,(dFul N).pv),(some 8,c.pv),(none,.bool false),(none,.bool false)]) (hp1:=[AObj.box (some 8) (.pv (some 8) c.pv),.box (some 2) (.agg [(none,.pv none (.int .i64 501)),(none,.slv (some 4) 5 1 0 1)]),.box (some 4) (.agg [(none,.pv none (.str [112])),(none,.pv none (.int .i64 0)),(none,.pv none (.bool false)),(none,.sl (some 9) 4 N 0 N)]),.arr (some 9) [] false,.arr (some 9) (Sto.pvs (cls5 N)) true,.arr (some 4) [(pFul N).pv] true]) rfl rfl rfl (by simp only[zaq,hz1];rfl) h
  have hid:id∈ids (dFul N).procs:=zla N i1 (by omega)
  have hE:=zin hD hid
  have hE2:(eraR (dFul N) id).2=true:=by rw[hE]
  obtain⟨_,_,_,hn,htn,_⟩:=zpX hE2
  rw[hE] at hn htn
  obtain⟨n,hnd⟩:∃n:Dbs,n=⟨(dFul N).next,(dFul N).procs.map (rmP id)⟩:=⟨_,rfl⟩
  rw[<-hnd] at hE hn htn
  have A2:∀X:Heap,S 12 [.agg [(none,.pv none (.int .i64 501)),(none,.slv (some 4) 5 1 0 1)],.pv none (.int .i64 id)] (AObj.box (some 8) (.pv (some 8) c.pv)::.box (some 2) (.agg [(none,.pv none (.int .i64 501)),(none,.slv (some 4) 5 1 0 1)])::.box (some 4) (.agg [(none,.pv none (.str [112])),(none,.pv none (.int .i64 0)),(none,.pv none (.bool false)),(none,.sl (some 9) 4 N 0 N)])::.arr (some 9) [] false::.arr (some 9) (Sto.pvs (cls5 N)) true::.arr (some 4) [(pFul N).pv] true::X)=some (.ret (.tuple [.pv (some 2) n.pv,.pv none (.bool true)]),(AObj.box (some 8) (.pv (some 8) c.pv)::.box (some 2) (.agg [(none,.pv none (.int .i64 501)),(none,.slv (some 4) 5 1 0 1)])::.box (some 4) (.agg [(none,.pv none (.str [112])),(none,.pv none (.int .i64 0)),(none,.pv none (.bool false)),(none,.sl (some 9) 4 N 0 N)])::.arr (some 9) [] false::.arr (some 9) (Sto.pvs (cls5 N)) true::.arr (some 4) [(pFul N).pv] true::X)):=fun X=>by
   have h:=zlh (dFul N) (zd5 hD) id []
   rw[hE] at h
   exact zcL (F:=find tab) (prim:=prim) (f:=12) (ps:=[(some 2,(dFul N).pv),(none,.int .i64 id)]) (hp1:=(AObj.box (some 8) (.pv (some 8) c.pv)::.box (some 2) (.agg [(none,.pv none (.int .i64 501)),(none,.slv (some 4) 5 1 0 1)])::.box (some 4) (.agg [(none,.pv none (.str [112])),(none,.pv none (.int .i64 0)),(none,.pv none (.bool false)),(none,.sl (some 9) 4 N 0 N)])::.arr (some 9) [] false::.arr (some 9) (Sto.pvs (cls5 N)) true::.arr (some 4) [(pFul N).pv] true::X)) rfl rfl rfl (by simp only[zaq,hz2];rfl) h
  have hA3:(addR n c false false).2=0:=zpQ hn hc (by omega) (by rw[hnd];show(501:Int)≠_;decide) (by rw[hnd];show([pFul N].map (rmP id)).length≠500;simp) false false
  have A3:=fun hp=>zlg n (zd5 hn) c z1 z2 false false hp
  rw[hA3] at A3
  simp only[Dbs.av,Cz.av] at A3
  have A4:∀X:Heap,S 13 [.agg [(none,.pv none (.int .i64 501)),(none,.slv (some 4) 5 1 0 1)]] (AObj.box (some 8) (.pv (some 8) c.pv)::.box (some 2) (.agg [(none,.pv none (.int .i64 501)),(none,.slv (some 4) 5 1 0 1)])::.box (some 4) (.agg [(none,.pv none (.str [112])),(none,.pv none (.int .i64 0)),(none,.pv none (.bool false)),(none,.sl (some 9) 4 N 0 N)])::.arr (some 9) [] false::.arr (some 9) (Sto.pvs (cls5 N)) true::.arr (some 4) [(pFul N).pv] true::X)=some (.ret (.pv none (.int .i64 500)),(AObj.box (some 8) (.pv (some 8) c.pv)::.box (some 2) (.agg [(none,.pv none (.int .i64 501)),(none,.slv (some 4) 5 1 0 1)])::.box (some 4) (.agg [(none,.pv none (.str [112])),(none,.pv none (.int .i64 0)),(none,.pv none (.bool false)),(none,.sl (some 9) 4 N 0 N)])::.arr (some 9) [] false::.arr (some 9) (Sto.pvs (cls5 N)) true::.arr (some 4) [(pFul N).pv] true::X)):=fun X=>by
   have h:=zih (dFul N) (zd5 hD) []
   rw[if_pos hD,t5] at h
   exact zcL (F:=find tab) (prim:=prim) (f:=13) (ps:=[(some 2,(dFul N).pv)]) (hp1:=(AObj.box (some 8) (.pv (some 8) c.pv)::.box (some 2) (.agg [(none,.pv none (.int .i64 501)),(none,.slv (some 4) 5 1 0 1)])::.box (some 4) (.agg [(none,.pv none (.str [112])),(none,.pv none (.int .i64 0)),(none,.pv none (.bool false)),(none,.sl (some 9) 4 N 0 N)])::.arr (some 9) [] false::.arr (some 9) (Sto.pvs (cls5 N)) true::.arr (some 4) [(pFul N).pv] true::X)) rfl rfl rfl (by simp only[zaq,hz2];rfl) h
  simp -dsimp -implicitDefEqProofs only[go_sem,seval,↓reduceIte,hcc,op_bslov,hbv,hsf,A1,A2,A3,A4,hex,hnil,zab (Nat.zero_le _),zaQ (Nat.zero_le _),List.append_assoc,zae,zac,zaf,zad,Nat.add_assoc,List.length_append]
  done
end Go.Proofs.Ytligpohiokpnhaa
namespace Go.Proofs.Ytligpohiokpnhaa
open Go.Am Go.ChangeShapes Go.WideShapes Go.ChangeAt Go.RowKit
theorem zpB(H:Type):BulkLaws (H:=H) Rows.uptoBulk Rows.uptoBulkAll where
 nil:=by simp[Rows.uptoBulkAll]
 cons d r:=by simp[Rows.uptoBulkAll]
 slice e s:=by simp[Rows.uptoBulk]
 agg l:=by simp[Rows.uptoBulk]
 string l:=by simp[Rows.uptoBulk]
theorem znm{H:Type}{l:List (DataW H)}(hk:Rows.uptoSmall H l=true):Rows.uptoBulkAll l<=1048576:=of_decide_eq_true hk
def zlU(P:Program)(tA tT:TypeId):Bool:=
 (match P.underlying tA with|some (.slice t)=>t == tT|_=>false) &&
 (match P.underlying tT with
  |some (.struct fs)=>match fs.toList.map (·.type) with
   |[a,b,c,d]=>d == tA && (match P.underlying a with|some (.int .i64)=>true|_=>false) && (match P.underlying b with|some (.int .i64)=>true|_=>false) && (match P.underlying c with|some .string=>true|_=>false) && decide (shOf P a=none) && decide (shOf P b=none) && decide (shOf P c=none)
   |_=>false
  |_=>false) && decide (shOf P tT=some 4) && decide (shOf P tA=none)
theorem zk5{P:Program}{tA tT:TypeId}(h:zlU P tA tT=true):TermTy P tA tT:=by
 unfold zlU at h
 simp only[Bool.and_eq_true,decide_eq_true_eq] at h
 obtain⟨⟨⟨h1,h2⟩,h3⟩,h4⟩:=h
 refine⟨?_,?_⟩
 ·split at h1
  ·rename_i t ht;rw[ht];simp at h1;rw[h1]
  ·cases h1
 ·split at h2
  ·rename_i fs hfs
   split at h2
   ·rename_i a b c d hl
    simp only[Bool.and_eq_true,decide_eq_true_eq,beq_iff_eq] at h2
    obtain⟨⟨⟨⟨⟨⟨k1,k2⟩,k3⟩,k4⟩,k5⟩,k6⟩,k7⟩:=h2
    subst k1
    refine⟨fs,a,b,c,hfs,hl,?_,?_,?_,h3,h4,k5,k6,k7⟩
    ·split at k2
     ·assumption
     ·cases k2
    ·split at k3
     ·assumption
     ·cases k3
    ·split at k4
     ·assumption
     ·cases k4
   ·cases h2
  ·cases h2
theorem zrX:TermTy Try.prog 22 24:=zk5 (by kernel_rfl)
def zpC:List TypeId:=[2,3,4,5,9,22,24,26,37,32,34,29,31,62,57]
theorem closed:zlP Try.prog zpC=true:=by kernel_rfl
end Go.Proofs.Ytligpohiokpnhaa
