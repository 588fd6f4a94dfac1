/- db.Add where the procedure is new. -/
import Derived.Test.YtligpohiokpnhaaAdt
import Derived.Test.YtligpohiokpnhaaCp
import Derived.Test.YtligpohiokpnhaaAm5
import Derived.Test.YtligpohiokpnhaaDb5
set_option linter.unusedSimpArgs false
set_option linter.unusedVariables false
namespace Go.Proofs.Ytligpohiokpnhaa
open Go.Am
set_option maxRecDepth 20000 in
theorem zr2(d:Dbs)(hb:BndD d)(c:Cz)(z1:c.head.size<100000000)(z2:c.body.size<100000000)(fr dy:Bool)(hv:okD d=true)(hn:okC c=true)(ht:totD d.procs≠500)(hx:d.next≠4294967296)(hl:d.procs.length≠500)(s:List UInt8)(a:Int)(hs:s=c.head.name)(ha:a=c.head.args.length)(hf:fnD d.procs (keyP s a)=false)(i:Nat)(hi:i=lbD d.procs (keyP s a))(hp:Heap):S 11 [d.av,c.av,.pv none (.bool fr),.pv none (.bool dy)] hp=some (.ret (.tuple [(⟨d.next+1,d.procs.take i++(⟨s,a,dy,[⟨d.next,c⟩]⟩:Prc)::d.procs.drop i⟩:Dbs).av,.pv none (.int .i64 0)]),hp):=by
 refine zal rfl rfl rfl (zad [(some 2,d.pv),(some 8,c.pv),(none,.bool fr),(none,.bool dy)]) rfl ?_
 have h1:=fun hp=>za6 d hb.1 hb.2.1 hb.2.2 hp
 have h2:=fun hp=>zb6 c z1 z2 hp
 have h3:∀hp,S 31 [d.av,.pv none (.str s),.pv none (.int .i64 a)] hp=some (.ret (.tuple [.pv none (.int .i64 (lbD d.procs (keyP s a):Int)),.pv none (.bool (fnD d.procs (keyP s a)))]),hp):=fun hp=>zcG d s a hb.1 (zdH hv) hp
 have hl5:1<=d.next/\d.next<=4294967296/\d.procs.length<=500/\totD d.procs<=500:=by
  simp only[okD,Bool.and_eq_true,decide_eq_true_eq] at hv
  exact⟨hv.1,hv.2.1,hv.2.2.1,hv.2.2.2.1⟩
 have h4:=fun hp=>zdh d (by omega) (by omega) hp
 have h6:∀x0 x1 x2:AObj,S 33 [d.av] [x0,x1,x2]=some (.ret (dA d 5),x0::x1::x2::.box (some 2) (dA d 5)::.box (some 2) (dA d 5)::.arv (some 4) (elsA d.procs 11 d.procs.length)::cEs d.procs 11):=fun x0 x1 x2=>zeS d (by omega) (fun q hq=>⟨by have:=zb0 hq;omega,zfE hv q hq⟩) [x0,x1,x2]
 have hnil:∀H:Heap,zaj [(none,.nilv (some 4))] H=([(none,.nilv (some 4))],H):=fun _=>rfl
 have hst:∀(x0 x1:AObj) (v:AV) (X:Heap),zap (some 2) 0 (x0::x1::.box (some 2) v::X) [.ptr 2 0,dA d 5]=some (.undef,x0::x1::.box (some 2) (dA d 5)::X):=fun x0 x1 v X=>by
  simp[zap,astore,dA,AV.plain,AV.shp,AV.own,zaj,za5,total,Sh.size]
 obtain⟨vh,vb⟩:=zk5 hn
 have h7:=fun hp=>zeT ⟨d.next,c⟩ vh vb hp
 have hbs:zaQ [(none,.pv none (.int .i64 0)),(some 8,.agg [(some 4,.agg [(none,.pv none (.int .i64 0)),(none,.pv none (.int .i64 0)),(none,.pv none (.str [])),(none,.tsl (some 4) [])]),(some 4,.agg [(none,.pv none (.int .i64 0)),(none,.pv none (.int .i64 0)),(none,.pv none (.str [])),(none,.tsl (some 4) [])])])] [0,1] [.pv none (.int .i64 d.next),.pv (some 8) c.pv]=some (.pv (some 9) (Sto.mk d.next c).pv):=rfl
 rw[hf,<-hi] at h3
 simp only[Dbs.av] at h1 h3 h4 h6
 simp only[Cz.av] at h2
 simp only[Sto.av] at h7
 rw[hv] at h1
 rw[hn] at h2
 have ht':((totD d.procs:Int)=500)=False:=eq_false (by omega)
 have hx':(d.next=4294967296)=False:=eq_false hx
 have hl':((d.procs.length:Int)=500)=False:=eq_false (by omega)
 have hpt:AV.part deep (dA d 5) 1 none=some (.slv (some 4) 5 d.procs.length 0 d.procs.length):=rfl
 have hil:i<=d.procs.length:=by rw[hi];exact zrU _ _
 obtain⟨nv,hnv⟩:∃nv:AV->AV,nv=fun sv=>.agg [(none,.pv none (.str s)),(none,.pv none (.int .i64 a)),(none,.pv none (.bool dy)),(none,sv)]:=⟨_,rfl⟩
 have hbu:zaQ [(none,.pv none (.str [])),(none,.pv none (.int .i64 0)),(none,.pv none (.bool false)),(none,.tsl (some 9) [])] [0,1,2] [.pv none (.str s),.pv none (.int .i64 a),.pv none (.bool dy)]=some (nv (.tsl (some 9) [])):=by rw[hnv];rfl
 obtain⟨el,hel⟩:∃el:AV->List AV,el=fun v=>(elsA d.procs 11 d.procs.length).take i++v::(elsA d.procs 11 d.procs.length).drop i:=⟨_,rfl⟩
 have hell:∀v,(el v).length=d.procs.length+1:=fun v=>by rw[hel];simp[zaO];omega
 have hli:((elsA d.procs 11 d.procs.length).take i).length=i:=by rw[List.length_take,zaO];omega
 have heli:∀v,(el v)[i]? =some v:=fun v=>by
  rw[hel]
  show(_++_)[i]? =_
  rw[List.getElem?_append_right (by omega),hli,Nat.sub_self]
  rfl
 have hels:∀v v',(el v).set i v'=el v':=fun v v'=>by
  rw[hel]
  show List.set (_++_) i v'=_
  rw[List.set_append_right _ _ (by omega),hli,Nat.sub_self]
  rfl
 obtain⟨m,hm⟩:∃m,m=(cEs d.procs 11).length+6:=⟨_,rfl⟩
 have op_bslov:∀{vs:List AV} {H:Heap} {K:AV->Heap->Prop} {Kp:PV->Heap->Prop},opK (aOp (sem (find tab) prim) 0 (.bslov (some 4)) vs H) K Kp=zbO (zfn (some 4) H vs) K:=fun{vs H K Kp}=>by
  show opK (match zfn (some 4) H vs with|some (v,hp')=>some (OpRes.val v hp')|none=>none) K Kp=_
  cases zfn (some 4) H vs with
  |none=>rfl
  |some r=>cases r;rfl
 have hbv:∀x0 x1 x2 x3 x4 x5:AObj,zfn (some 4) (x0::x1::x2::x3::x4::x5::cEs d.procs 11) [nv (.tsl (some 9) [])]=some (.slv (some 4) m 1 0 1,x0::x1::x2::x3::x4::x5::(cEs d.procs 11++[.arv (some 4) [nv (.tsl (some 9) [])]])):=fun x0 x1 x2 x3 x4 x5=>by
  have e1:(nv (.tsl (some 9) [])).plain=true:=by rw[hnv];rfl
  have e2:(nv (.tsl (some 9) [])).shp=some 4:=by rw[hnv];rfl
  simp[zfn,e1,e2,zdC,hm]
 have hpr:∀x0 x1 x2 x3 x4:AObj,S 34 [.slv (some 4) 5 d.procs.length 0 d.procs.length,.pv none (.int .i64 i),.slv (some 4) m 1 0 1] (x0::x1::x2::x3::x4::.arv (some 4) (elsA d.procs 11 d.procs.length)::(cEs d.procs 11++[.arv (some 4) [nv (.tsl (some 9) [])]]))=some (.ret (.slv (some 4) 5 (d.procs.length+1) 0 (d.procs.length+1)),x0::x1::x2::x3::x4::.arv (some 4) (el (nv (.tsl (some 9) [])))::(cEs d.procs 11++[.arv (some 4) [nv (.tsl (some 9) [])]])):=fun x0 x1 x2 x3 x4=>by
  rw[S,zib (F:=find tab) (prim:=prim) (p:=zdW (some 4)) rfl]
  have hg:(x0::x1::x2::x3::x4::AObj.arv (some 4) (elsA d.procs 11 d.procs.length)::(cEs d.procs 11++[.arv (some 4) [nv (.tsl (some 9) [])]]))[m]? =some (.arv (some 4) [nv (.tsl (some 9) [])]):=by
   rw[hm]
   show(cEs d.procs 11++[.arv (some 4) [nv (.tsl (some 9) [])]])[(cEs d.procs 11).length]? =_
   simp
  have hne:5≠m:=by omega
  have hrf:∀n,zfl n 5 (elsA d.procs 11 d.procs.length) [nv (.tsl (some 9) [])]=true:=fun n=>by
   rw[hnv]
   simp[zfl,AV.refsIn.gol,AV.refsIn,AV.refsIn.go]
  have hlm:d.procs.length+1<=lim:=by unfold lim;omega
  have hii:(i:Int)<=(d.procs.length:Int):=by omega
  rw[hel]
  simp[zdW,hg,zaO,hne,hrf,hlm,hii]
 have hcn:∀(x0 x1 x2 x3 x4 x5:AObj),S 35 [.tsl (some 9) [],.pv none (.int .i64 0),.tsl (some 9) [(Sto.mk d.next c).pv]] (x0::x1::x2::x3::x4::x5::(cEs d.procs 11++[.arv (some 4) [nv (.tsl (some 9) [])]]))=some (.ret (.sl (some 9) (m+1) 1 0 1),x0::x1::x2::x3::x4::x5::(cEs d.procs 11++[.arv (some 4) [nv (.tsl (some 9) [])],.arr (some 9) [(Sto.mk d.next c).pv] false])):=fun x0 x1 x2 x3 x4 x5=>by
  rw[zr0]
  have e:(x0::x1::x2::x3::x4::x5::(cEs d.procs 11++[AObj.arv (some 4) [nv (.tsl (some 9) [])]])).length=m+1:=by
   simp[hm]
  rw[e]
  simp
 obtain⟨d0,hd0⟩:∃d0:AV,d0=.agg [(none,.pv none (.int .i64 d.next)),(none,.slv (some 4) 5 (d.procs.length+1) 0 (d.procs.length+1))]:=⟨_,rfl⟩
 obtain⟨dN,hdN⟩:∃dN:AV,dN=.agg [(none,.pv none (.int .i64 (d.next+1))),(none,.slv (some 4) 5 (d.procs.length+1) 0 (d.procs.length+1))]:=⟨_,rfl⟩
 have hsf:∀(x0 x1:AObj) (X:Heap),zap none 0 (x0::x1::.box (some 2) (dA d 5)::X) [.ptr 2 1,.slv (some 4) 5 (d.procs.length+1) 0 (d.procs.length+1)]=some (.undef,x0::x1::.box (some 2) d0::X):=fun x0 x1 X=>by
  have e:AV.upd deep (dA d 5) 1 none (.slv (some 4) 5 (d.procs.length+1) 0 (d.procs.length+1))=some d0:=by rw[hd0];rfl
  simp[zap,astore,e,AV.plain,AV.shp,AV.own]
 have hpt1:AV.part deep d0 1 none=some (.slv (some 4) 5 (d.procs.length+1) 0 (d.procs.length+1)):=by rw[hd0];rfl
 have hpt0:AV.part deep d0 0 none=some (.pv none (.int .i64 d.next)):=by rw[hd0];rfl
 have hia:zba (some 4) [.slv (some 4) 5 (d.procs.length+1) 0 (d.procs.length+1),.pv none (.int .i64 i)]=some (.epv (some 4) 5 (d.procs.length+1) i 0):=by
  have:(i:Int)<(d.procs.length:Int)+1:=by omega
  simp[zba,aindex,this]
 have hfa:zdo 3 [.epv (some 4) 5 (d.procs.length+1) i 0]=some (.epv (some 4) 5 (d.procs.length+1) i 3):=rfl
 have hnc:zb1 [.epv (some 4) 5 (d.procs.length+1) i 0]=some (.epv (some 4) 5 (d.procs.length+1) i 0):=rfl
 have hld:∀(x0 x1 x2 x3 x4:AObj) (X:Heap),aload none (x0::x1::x2::x3::x4::.arv (some 4) (el (nv (.tsl (some 9) [])))::X) (.epv (some 4) 5 (d.procs.length+1) i 3)=some (.tsl (some 9) []):=fun x0 x1 x2 x3 x4 X=>by
  have e:AV.part deep (nv (.tsl (some 9) [])) 3 none=some (.tsl (some 9) []):=by rw[hnv];rfl
  simp[aload,hell,heli,e]
 have hse:∀(x0 x1 x2 x3 x4:AObj) (X:Heap),zap none 0 (x0::x1::x2::x3::x4::.arv (some 4) (el (nv (.tsl (some 9) [])))::X) [.epv (some 4) 5 (d.procs.length+1) i 3,.sl (some 9) (m+1) 1 0 1]=some (.undef,x0::x1::x2::x3::x4::.arv (some 4) (el (nv (.sl (some 9) (m+1) 1 0 1)))::X):=fun x0 x1 x2 x3 x4 X=>by
  have e:AV.upd deep (nv (.tsl (some 9) [])) 3 none (.sl (some 9) (m+1) 1 0 1)=some (nv (.sl (some 9) (m+1) 1 0 1)):=by rw[hnv];rfl
  simp[zap,astore,hell,heli,e,hels,AV.plain,AV.shp]
 have hw1:IntKind.i64.wrap (d.next+1)=d.next+1:=by
  rw[zaK (by omega) (by omega)]
 have hsg:∀(x0 x1:AObj) (X:Heap),zap none 0 (x0::x1::.box (some 2) d0::X) [.ptr 2 0,.pv none (.int .i64 (d.next+1))]=some (.undef,x0::x1::.box (some 2) dN::X):=fun x0 x1 X=>by
  have e:AV.upd deep d0 0 none (.pv none (.int .i64 (d.next+1)))=some dN:=by rw[hdN,hd0];rfl
  simp[zap,astore,e,AV.plain,AV.shp,AV.own]
 have hs2:∀(x0 x1:AObj) (X:Heap),zap (some 2) 0 (x0::x1::.box (some 2) dN::X) [.ptr 2 0,dN]=some (.undef,x0::x1::.box (some 2) dN::X):=fun x0 x1 X=>by
  rw[hdN]
  simp[zap,astore,AV.plain,AV.shp,AV.own,zaj,za5,total,Sh.size]
 have hr:∀(x0 x1:AObj) (X:Heap),zaV ⟨[(8,.ptr 2 0),(9,.pv none (.int .i64 0))],x0::x1::.box (some 2) dN::X⟩ (8,some (some 2))=some dN:=fun x0 x1 X=>by
  simp[zaV,Fr.look,aload]
 have fin:∀(x0 x1 x2 x3 x4:AObj),DbA ⟨d.next+1,d.procs.take i++(⟨s,a,dy,[⟨d.next,c⟩]⟩:Prc)::d.procs.drop i⟩ dN (x0::x1::x2::x3::x4::.arv (some 4) (el (nv (.sl (some 9) (m+1) 1 0 1)))::(cEs d.procs 11++[.arv (some 4) [nv (.tsl (some 9) [])],.arr (some 9) [(Sto.mk d.next c).pv] false])):=fun x0 x1 x2 x3 x4=>by
  have hpl:(d.procs.take i++(⟨s,a,dy,[⟨d.next,c⟩]⟩:Prc)::d.procs.drop i).length=d.procs.length+1:=by simp;omega
  refine⟨5,d.procs.length+1,el (nv (.sl (some 9) (m+1) 1 0 1)),d.procs.take i++(⟨s,a,dy,[⟨d.next,c⟩]⟩:Prc)::d.procs.drop i,?_,rfl,hell _,by rw[hpl];omega,hpl,List.take_length,fun j q v hq hv2=> ?_⟩
  ·rw[hdN,hpl]
  ·have hE:∀(k:Nat) (x:Prc),d.procs[k]? =some x->ElP x (pA x (11+6*k)) (x0::x1::x2::x3::x4::AObj.arv (some 4) (el (nv (.sl (some 9) (m+1) 1 0 1)))::(cEs d.procs 11++[.arv (some 4) [nv (.tsl (some 9) [])],.arr (some 9) [(Sto.mk d.next c).pv] false])):=fun k x hx=>by
    refine .inr ⟨_,rfl,.inr ⟨11+6*k,x.cls.length,Sto.pvs x.cls,false,rfl,?_,Sto.pvs_len _,Nat.le_refl _,List.take_of_length_le (by rw[Sto.pvs_len];exact Nat.le_refl _)⟩⟩
    rw[show 11+6*k=(6*k+5)+1+1+1+1+1+1 by omega]
    simp only[List.getElem?_cons_succ]
    have hg:=zeh d.procs 11 k x hx
    rw[List.getElem?_append_left (List.getElem?_eq_some_iff.1 hg).1,hg]
   have hlp:(d.procs.take i).length=i:=by rw[List.length_take];omega
   have hv3:((elsA d.procs 11 d.procs.length).take i++nv (.sl (some 9) (m+1) 1 0 1)::(elsA d.procs 11 d.procs.length).drop i)[j]? =some v:=by
    rw[hel] at hv2
    exact hv2
   rcases Nat.lt_trichotomy j i with k|k|k
   ·rw[List.getElem?_append_left (by omega),List.getElem?_take,if_pos k] at hq hv3
    rw[zcF hq] at hv3
    cases hv3
    exact hE j q hq
   ·subst k
    rw[List.getElem?_append_right (by omega),hlp,Nat.sub_self] at hq
    rw[List.getElem?_append_right (by omega),hli,Nat.sub_self] at hv3
    cases hq
    cases hv3
    rw[hnv]
    refine .inr ⟨.sl (some 9) (m+1) 1 0 1,rfl,.inr ⟨m+1,1,[(Sto.mk d.next c).pv],false,rfl,?_,rfl,Nat.le_refl _,rfl⟩⟩
    rw[hm,show(cEs d.procs 11).length+6+1=((cEs d.procs 11).length+1)+1+1+1+1+1+1 by omega]
    simp only[List.getElem?_cons_succ]
    rw[List.getElem?_append_right (by omega),Nat.add_sub_cancel_left]
    rfl
   ·rw[List.getElem?_append_right (by omega),hlp,show j - i=(j - i - 1)+1 by omega,List.getElem?_cons_succ,List.getElem?_drop] at hq
    rw[List.getElem?_append_right (by omega),hli,show j - i=(j - i - 1)+1 by omega,List.getElem?_cons_succ,List.getElem?_drop] at hv3
    rw[zcF hq] at hv3
    cases hv3
    exact hE _ q hq
 have hfr:∀(d':Dbs) (H:Heap),DbA d' dN H->Am.frozen (.tuple [d'.av,.pv none (.int .i64 0)]) (.tuple [dN,.pv none (.int .i64 0)]) H:=fun d' H hD=>by
  obtain⟨H',hz⟩:=hD.frz
  have e3:∀X,AV.freeze deep (.pv none (.int .i64 0)) X=some (.int .i64 0,X):=fun _=>rfl
  have hsh:dN.shp=some 2:=by rw[hdN];rfl
  refine⟨H',?_⟩
  simp only[AV.freezeRes,zaq,hz,e3,hsh]
  rfl
 clear hm
 obtain⟨⟨hk,hi',hna,has⟩,bd⟩:=c
 have hpn:PV.part deep (Cz.pv ⟨⟨hk,hi',hna,has⟩,bd⟩) 2 none=some (.str hna):=rfl
 have hpa:PV.part deep (Cz.pv ⟨⟨hk,hi',hna,has⟩,bd⟩) 3 none=some (.sl (some 4) (Tm.pvs has)):=rfl
 have ea:(Tm.mk hk hi' hna has).args=has:=rfl
 have en:(Tm.mk hk hi' hna has).name=hna:=rfl
 rw[en] at hs
 rw[ea] at ha
 subst hs
 subst ha
 have hz:((([]:List PV).length:Nat):Int)=0:=rfl
 cases fr with
 |true=>
  simp -dsimp -implicitDefEqProofs only[hpn,hpa,Tm.pvs_len,g11,c11r0,c11r1,c11r2,c11k3,c11r4,c11r5,c11r6,c11k7,c11r8,c11r9,c11r10,c11k11,c11r12,c11r13,c11r14,c11r15,c11k16,c11r17,c11r18,c11r19,c11,go_sem,seval,↓reduceIte,Dbs.av,Cz.av,zaE,zat,Prc.pvs_len,h1,h2,h3,h4,h6,h7,hbs,ht',hx',hl',hnil,hst,hpt,hpt0,hpt1,hbu,op_bslov,hbv,hpr,hsf,hia,hfa,hnc,hld,hz,hcn,hse,hw1,hsg,hs2,hr,List.append_assoc,zae,zaa,zaf,zab,Nat.add_assoc,List.length_append]
  have hF:=hfr _ _ (fin (.box (some 2) (.pv (some 2) d.pv)) (.box (some 8) (.pv (some 8) (Cz.pv ⟨⟨hk,hi',s,has⟩,bd⟩))) (.box (some 2) dN) (.box (some 2) (dA d 5)) (.box (some 2) (dA d 5)))
  simp only[zbn,Dbs.av] at hF
  exact hF
 |false=>
  simp -dsimp -implicitDefEqProofs only[hpn,hpa,Tm.pvs_len,g11,c11r0,c11r1,c11r2,c11k3,c11r4,c11r5,c11r6,c11k7,c11r8,c11r9,c11r10,c11k11,c11r12,c11r13,c11r14,c11r15,c11k16,c11r17,c11r18,c11r19,c11,go_sem,seval,↓reduceIte,Dbs.av,Cz.av,zaE,zat,Prc.pvs_len,h1,h2,h3,h4,h6,h7,hbs,ht',hx',hl',hnil,hst,hpt,hpt0,hpt1,hbu,op_bslov,hbv,hpr,hsf,hia,hfa,hnc,hld,hz,hcn,hse,hw1,hsg,hs2,hr,List.append_assoc,zae,zaa,zaf,zab,Nat.add_assoc,List.length_append]
  have hF:=hfr _ _ (fin (.box (some 2) (.pv (some 2) d.pv)) (.box (some 8) (.pv (some 8) (Cz.pv ⟨⟨hk,hi',s,has⟩,bd⟩))) (.box (some 2) dN) (.box (some 2) (dA d 5)) (.box (some 2) (dA d 5)))
  simp only[zbn,Dbs.av] at hF
  exact hF
def addR(d:Dbs)(c:Cz)(fr dy:Bool):Dbs × Int:=
 if okD d=false\/okC c=false then(zDb,1)
 else if totD d.procs=500\/d.next=4294967296 then(zDb,13)
 else match fnD d.procs (keyP c.head.name c.head.args.length),d.procs[lbD d.procs (keyP c.head.name c.head.args.length)]? with
 |true,some p=>(⟨d.next+1,d.procs.set (lbD d.procs (keyP c.head.name c.head.args.length)) ⟨p.name,p.ar,p.dyn,insC fr ⟨d.next,c⟩ p.cls⟩⟩,0)
 |_,_=>if d.procs.length=500 then(zDb,13)
  else(⟨d.next+1,d.procs.take (lbD d.procs (keyP c.head.name c.head.args.length))++(⟨c.head.name,c.head.args.length,dy,[⟨d.next,c⟩]⟩:Prc)::d.procs.drop (lbD d.procs (keyP c.head.name c.head.args.length))⟩,0)
theorem zrE(d:Dbs)(hb:BndD d)(c:Cz)(z1:c.head.size<100000000)(z2:c.body.size<100000000)(fr dy:Bool)(hp:Heap):S 11 [d.av,c.av,.pv none (.bool fr),.pv none (.bool dy)] hp=some (.ret (.tuple [(addR d c fr dy).1.av,.pv none (.int .i64 (addR d c fr dy).2)]),hp):=by
 by_cases h:okD d=false\/okC c=false
 ·rw[zrY d hb c z1 z2 fr dy h hp]
  simp only[addR,if_pos h]
 ·have hv:okD d=true:=by cases e:okD d with|true=>rfl|false=>exact absurd (Or.inl e) h
  have hn:okC c=true:=by cases e:okC c with|true=>rfl|false=>exact absurd (Or.inr e) h
  by_cases ht:totD d.procs=500
  ·rw[zpZ d hb c z1 z2 fr dy hv hn ht hp]
   simp only[addR,if_neg h,if_pos (Or.inl ht:totD d.procs=500\/d.next=4294967296)]
  ·by_cases hx:d.next=4294967296
   ·rw[zr1 d hb c z1 z2 fr dy hv hn ht hx hp]
    simp only[addR,if_neg h,if_pos (Or.inr hx:totD d.procs=500\/d.next=4294967296)]
   ·have h0:¬(totD d.procs=500\/d.next=4294967296):=by
     rintro(k|k)
     ·exact ht k
     ·exact hx k
    cases hf:fnD d.procs (keyP c.head.name c.head.args.length) with
    |true=>
     obtain⟨p,hpp⟩:=zeU hf
     rw[znz d hb c z1 z2 fr dy hv hn ht hx hf p _ rfl hpp hp]
     simp only[addR,if_neg h,if_neg h0,hf,hpp]
    |false=>
     by_cases hl:d.procs.length=500
     ·rw[zpY d hb c z1 z2 fr dy hv hn ht hx hf hl hp]
      simp only[addR,if_neg h,if_neg h0,hf,if_pos hl]
     ·rw[zr2 d hb c z1 z2 fr dy hv hn ht hx hl _ _ rfl rfl hf _ rfl hp]
      simp only[addR,if_neg h,if_neg h0,hf,if_neg hl]
def cutC(p:Prc)(k:Nat):Prc:=⟨p.name,p.ar,p.dyn,p.cls.take k++p.cls.drop (k+1)⟩
def eraR(d:Dbs)(id:Int):Dbs × Bool:=
 if okD d=false then(zDb,false)
 else match whR d.procs id with
 |none=>(zDb,false)
 |some x=>(⟨d.next,d.procs.modify x.1 fun p=>cutC p x.2⟩,true)
theorem zio{α:Type}{l:List α}{i:Nat}{x:α}(h:l[i]? =some x)(f:α->α):l.modify i f=l.set i (f x):=by
 refine List.ext_getElem? fun j=> ?_
 rw[List.getElem?_modify,List.getElem?_set]
 by_cases e:i=j
 ·subst e
  obtain⟨h1,h2⟩:=List.getElem?_eq_some_iff.1 h
  simp[h1,h2]
 ·simp[e]
theorem zho(d:Dbs)(hb:BndD d)(id:Int)(hp:Heap):S 12 [d.av,.pv none (.int .i64 id)] hp=some (.ret (.tuple [(eraR d id).1.av,.pv none (.bool (eraR d id).2)]),hp):=by
 cases hv:okD d with
 |false=>
  rw[zl3 d hb id (.inl hv) hp]
  simp only[eraR,if_pos hv]
 |true=>
  cases hw:whR d.procs id with
  |none=>
   rw[zl3 d hb id (.inr hw) hp]
   simp[eraR,hw]
  |some x=>
   obtain⟨i,k⟩:=x
   obtain⟨p,s,hpp,hs,_⟩:=zij hw
   rw[zrp d hb id hv i k hw p hpp (List.getElem?_eq_some_iff.1 hs).1 hp]
   have e:eraR d id=(⟨d.next,d.procs.set i (cutC p k)⟩,true):=by
    simp only[eraR,hv,hw]
    rw[zio hpp]
    rfl
   rw[e]
   rfl
def ids(l:List Prc):List Int:=l.flatMap fun p=>p.cls.map (·.id)
theorem zk7(A B:List Prc):ids (A++B)=ids A++ids B:=by simp[ids]
theorem zch(p:Prc)(B:List Prc):ids (p::B)=p.cls.map (·.id)++ids B:=by simp[ids]
theorem mem_ids{l:List Prc}{x:Int}:x∈ids l↔∃p∈l,∃s∈p.cls,s.id=x:=by simp[ids]
def okS(next:Int)(p:Prc)(s:Sto):Prop:=1<=s.id/\s.id<next/\okC s.cl=true/\s.cl.head.name=p.name/\(s.cl.head.args.length:Int)=p.ar
theorem zl4(next:Int)(p:Prc)(seen:List Int)(s:Sto):okSt next p seen s=true↔s.id ∉ seen/\okS next p s:=by
 unfold okSt okS
 simp only[Bool.and_eq_true,decide_eq_true_eq]
 constructor
 ·rintro⟨a,b,c,d,e,f⟩
  exact⟨c,a,b,d,e,f⟩
 ·rintro⟨c,a,b,d,e,f⟩
  exact⟨a,b,c,d,e,f⟩
theorem zil(next:Int)(p:Prc):∀(l:List Sto) (seen s':List Int),okSs next p seen l=some s'↔s'=seen++l.map (·.id)/\(l.map (·.id)).Nodup/\(∀x∈l,x.id ∉ seen)/\∀s∈l,okS next p s
 |[],seen,s'=>by simp[okSs,eq_comm]
 |s::r,seen,s'=>by
  rw[okSs]
  by_cases h:okSt next p seen s=true
  ·rw[if_pos h,zil next p r]
   obtain⟨h1,h2⟩:=(zl4 ..).1 h
   constructor
   ·rintro⟨rfl,g1,g2,g3⟩
    refine⟨by simp,List.nodup_cons.2 ⟨fun hm=> ?_,g1⟩,fun x hx=> ?_,fun x hx=> ?_⟩
    ·obtain⟨u,hu,e⟩:=List.mem_map.1 hm
     exact g2 u hu (by rw[e];simp)
    ·rcases List.mem_cons.1 hx with rfl|hx
     ·exact h1
     ·exact fun hm=>g2 x hx (by simp[hm])
    ·rcases List.mem_cons.1 hx with rfl|hx
     ·exact h2
     ·exact g3 x hx
   ·rintro⟨rfl,g1,g2,g3⟩
    obtain⟨k1,k2⟩:=List.nodup_cons.1 g1
    refine⟨by simp,k2,fun x hx hm=> ?_,fun x hx=>g3 x (List.mem_cons_of_mem _ hx)⟩
    rcases List.mem_append.1 hm with hm|hm
    ·exact g2 x (List.mem_cons_of_mem _ hx) hm
    ·exact k1 (List.mem_map.2 ⟨x,hx,by simpa using hm⟩)
  ·rw[if_neg h]
   constructor
   ·intro hh
    cases hh
   ·rintro⟨_,_,g2,g3⟩
    exact absurd ((zl4 ..).2 ⟨g2 s List.mem_cons_self,g3 s List.mem_cons_self⟩) h
def OkP(next:Int)(l:List Prc):Prop:=(∀p∈l,namB p=true)/\l.Pairwise (fun a b=>ordP a b<0)/\(ids l).Nodup/\∀p∈l,∀s∈p.cls,okS next p s
theorem zpQ(next:Int):∀(l:List Prc) (q:Option Prc) (seen:List Int),okPs next q seen l=true->OkP next l/\(∀p,l.head? =some p->preB q p=true)/\∀x∈ids l,x ∉ seen
 |[],q,seen,_=>⟨⟨fun p h=>(by cases h),List.Pairwise.nil,List.nodup_nil,fun p h=>(by cases h)⟩,fun p h=>(by cases h),fun x h=>(by cases h)⟩
 |x::r,q,seen,h=>by
  rw[okPs,Bool.and_eq_true,Bool.and_eq_true] at h
  obtain⟨h1,h2,h3⟩:=h
  split at h3
  ·cases h3
  ·rename_i s' hs
   obtain⟨rfl,e2,e3,e4⟩:=(zil ..).1 hs
   obtain⟨⟨g1,g2,g3,g4⟩,g5,g6⟩:=zpQ next r (some x) _ h3
   have hx:∀b∈r,ordP x b<0:=by
    intro b hb
    cases r with
    |nil=>cases hb
    |cons y r'=>
     have h0:ordP x y<0:=of_decide_eq_true (g5 y rfl)
     rcases List.mem_cons.1 hb with rfl|hb
     ·exact h0
     ·exact zfj h0 ((List.pairwise_cons.1 g2).1 b hb)
   refine⟨⟨fun p hp=> ?_,List.pairwise_cons.2 ⟨hx,g2⟩,?_,fun p hp=> ?_⟩,fun p hp=>by cases hp;exact h2,fun y hy=> ?_⟩
   ·rcases List.mem_cons.1 hp with rfl|hp
    ·exact h1
    ·exact g1 p hp
   ·rw[zch,List.nodup_append]
    refine⟨e2,g3,fun a ha b hb e=> ?_⟩
    subst e
    exact g6 a hb (List.mem_append_right _ ha)
   ·rcases List.mem_cons.1 hp with rfl|hp
    ·exact e4
    ·exact g4 p hp
   ·rw[zch] at hy
    rcases List.mem_append.1 hy with hy|hy
    ·obtain⟨u,hu,rfl⟩:=List.mem_map.1 hy
     exact e3 u hu
    ·exact fun hm=>g6 y hy (List.mem_append_left _ hm)
theorem zl5(next:Int):∀(l:List Prc) (q:Option Prc) (seen:List Int),OkP next l->(∀p,l.head? =some p->preB q p=true)->(∀x∈ids l,x ∉ seen)->okPs next q seen l=true
 |[],q,seen,_,_,_=>rfl
 |x::r,q,seen,⟨h1,h2,h3,h4⟩,h5,h6=>by
  rw[okPs,h1 x List.mem_cons_self,h5 x rfl]
  rw[zch,List.nodup_append] at h3
  obtain⟨k1,k2⟩:=List.pairwise_cons.1 h2
  have hs:okSs next x seen x.cls=some (seen++x.cls.map (·.id)):=(zil ..).2 ⟨rfl,h3.1,fun u hu=>h6 u.id (by rw[zch];exact List.mem_append_left _ (List.mem_map.2 ⟨u,hu,rfl⟩)),h4 x List.mem_cons_self⟩
  rw[hs]
  simp only[Bool.true_and]
  refine zl5 next r (some x) _ ⟨fun p hp=>h1 p (List.mem_cons_of_mem _ hp),k2,h3.2.1,fun p hp=>h4 p (List.mem_cons_of_mem _ hp)⟩ (fun p hp=> ?_) fun y hy hm=> ?_
  ·exact decide_eq_true (k1 p (List.mem_of_mem_head? (by rw[hp];rfl)))
  ·rcases List.mem_append.1 hm with hm|hm
   ·exact h6 y (by rw[zch];exact List.mem_append_right _ hy) hm
   ·exact h3.2.2 y hm y hy rfl
theorem zcL(d:Dbs):okD d=true↔1<=d.next/\d.next<=4294967296/\d.procs.length<=500/\totD d.procs<=500/\OkP d.next d.procs:=by
 simp only[okD,Bool.and_eq_true,decide_eq_true_eq]
 constructor
 ·rintro⟨a,b,c,e,f⟩
  exact⟨a,b,c,e,(zpQ _ _ _ _ f).1⟩
 ·rintro⟨a,b,c,e,f⟩
  exact⟨a,b,c,e,zl5 _ _ _ _ f (fun _ _=>rfl) fun _ _ h=>by cases h⟩
theorem OkP.mono{n n':Int}{l:List Prc}(h:OkP n l)(hn:n<=n'):OkP n' l:=⟨h.1,h.2.1,h.2.2.1,fun p hp s hs=>by
 obtain⟨a,b,c⟩:=h.2.2.2 p hp s hs
 exact⟨a,by omega,c⟩⟩
theorem zpR(next:Int)(A B:List Prc)(q:Prc):OkP next (A++q::B)↔OkP next (A++B)/\namB q=true/\(∀a∈A,ordP a q<0)/\(∀b∈B,ordP q b<0)/\(q.cls.map (·.id)).Nodup/\(∀s∈q.cls,s.id ∉ ids (A++B))/\∀s∈q.cls,okS next q s:=by
 have hperm:(ids (A++q::B)).Perm (q.cls.map (·.id)++ids (A++B)):=by
  rw[zk7,zch,zk7,<-List.append_assoc,<-List.append_assoc]
  exact List.Perm.append_right _ List.perm_append_comm
 unfold OkP
 rw[hperm.nodup_iff,List.nodup_append,List.pairwise_append,List.pairwise_append,List.pairwise_cons]
 constructor
 ·rintro⟨h1,⟨h2,⟨h3,h4⟩,h5⟩,⟨h6,h7,h8⟩,h9⟩
  have hs:∀p,p∈A++B->p∈A++q::B:=fun p hp=>by
   rcases List.mem_append.1 hp with hp|hp
   ·exact List.mem_append_left _ hp
   ·exact List.mem_append_right _ (List.mem_cons_of_mem _ hp)
  have hq:q∈A++q::B:=List.mem_append_right _ List.mem_cons_self
  exact⟨⟨fun p hp=>h1 p (hs p hp),⟨h2,h4,fun a ha b hb=>h5 a ha b (List.mem_cons_of_mem _ hb)⟩,h7,fun p hp=>h9 p (hs p hp)⟩,h1 q hq,fun a ha=>h5 a ha q List.mem_cons_self,h3,h6,fun s hs' hm=>h8 s.id (List.mem_map.2 ⟨s,hs',rfl⟩) s.id hm rfl,h9 q hq⟩
 ·rintro⟨⟨h1,⟨h2,h4,h5⟩,h7,h9⟩,g1,g2,g3,g4,g5,g6⟩
  have hc:∀p,p∈A++q::B->p=q\/p∈A++B:=fun p hp=>by
   rcases List.mem_append.1 hp with hp|hp
   ·exact .inr (List.mem_append_left _ hp)
   ·rcases List.mem_cons.1 hp with hp|hp
    ·exact .inl hp
    ·exact .inr (List.mem_append_right _ hp)
  refine⟨fun p hp=> ?_,⟨h2,⟨g3,h4⟩,fun a ha b hb=> ?_⟩,⟨g4,h7,fun a ha b hb e=> ?_⟩,fun p hp=> ?_⟩
  ·rcases hc p hp with rfl|hp
   ·exact g1
   ·exact h1 p hp
  ·rcases List.mem_cons.1 hb with rfl|hb
   ·exact g2 a ha
   ·exact h5 a ha b hb
  ·subst e
   obtain⟨u,hu,rfl⟩:=List.mem_map.1 ha
   exact g5 u hu hb
  ·rcases hc p hp with rfl|hp
   ·exact g6
   ·exact h9 p hp
theorem zrr{p q p' q':Prc}(h1:p.name=p'.name)(h2:p.ar=p'.ar)(h3:q.name=q'.name)(h4:q.ar=q'.ar):ordP p q=ordP p' q':=by
 unfold ordP
 rw[h1,h2,h3,h4]
theorem zrV{l:List Prc}(h:l.Pairwise (fun a b=>ordP a b<0)):IncP l:=fun i j a b hij ha hb=>by
 obtain⟨h1,e1⟩:=List.getElem?_eq_some_iff.1 ha
 obtain⟨h2,e2⟩:=List.getElem?_eq_some_iff.1 hb
 rw[<-e1,<-e2]
 exact List.pairwise_iff_getElem.1 h i j h1 h2 hij
theorem zpS{l:List Prc}(k:Prc)(h:l.Pairwise (fun a b=>ordP a b<0)):fnD l k=true↔∃p∈l,ordP p k=0:=by
 have hi:=zrV h
 constructor
 ·intro hf
  obtain⟨p,hp⟩:=zeU hf
  refine⟨p,List.mem_of_getElem? hp,?_⟩
  unfold fnD at hf
  rw[hp] at hf
  exact of_decide_eq_true hf
 ·rintro⟨p,hp,e⟩
  obtain⟨j,hj⟩:=List.mem_iff_getElem?.1 hp
  have h1:¬j<lbD l k:=fun hlt=>by
   have:=(zfT hi hj).2 hlt
   omega
  have h2:¬lbD l k<j:=fun hlt=>by
   have hl:lbD l k<l.length:=by
    have:=(List.getElem?_eq_some_iff.1 hj).1
    omega
   have hx:=hi _ j _ p hlt (List.getElem?_eq_getElem hl) hj
   have hz:=ordP_zero.1 e
   have hx':ordP l[lbD l k] k<0:=by
    rw[<-zrr rfl rfl hz.1 hz.2]
    exact hx
   have:=(zfT hi (List.getElem?_eq_getElem hl)).1 hx'
   omega
  have e3:j=lbD l k:=by omega
  subst e3
  unfold fnD
  rw[hj]
  exact decide_eq_true e
theorem zk8{l:List Prc}{k p:Prc}(h:l.Pairwise (fun a b=>ordP a b<0))(hp:p∈l)(e:ordP p k=0):l[lbD l k]? =some p:=by
 have hi:=zrV h
 have hf:=(zpS k h).2 ⟨p,hp,e⟩
 obtain⟨q,hq⟩:=zeU hf
 have e2:ordP q k=0:=by
  unfold fnD at hf
  rw[hq] at hf
  exact of_decide_eq_true hf
 obtain⟨j,hj⟩:=List.mem_iff_getElem?.1 hp
 have z1:=ordP_zero.1 e
 have z2:=ordP_zero.1 e2
 have e0:ordP p q=0:=ordP_zero.2 ⟨z1.1.trans z2.1.symm,z1.2.trans z2.2.symm⟩
 have e1:ordP q p=0:=ordP_zero.2 ⟨z2.1.trans z1.1.symm,z2.2.trans z1.2.symm⟩
 rcases Nat.lt_trichotomy j (lbD l k) with hlt|hlt|hlt
 ·have:=hi _ _ _ _ hlt hj hq
  omega
 ·rw[<-hlt,hj]
 ·have:=hi _ _ _ _ hlt hq hj
  omega
theorem zdI{d:Dbs}(hv:okD d=true)(s:List UInt8)(a:Int)(p:Prc):zcg d s a=some p↔p∈d.procs/\p.name=s/\p.ar=a:=by
 have hpw:=((zcL d).1 hv).2.2.2.2.2.1
 unfold zcg
 rw[if_pos hv]
 constructor
 ·intro h
  split at h
  ·rename_i hf
   refine⟨List.mem_of_getElem? h,?_⟩
   unfold fnD at hf
   rw[h] at hf
   exact ordP_zero.1 (of_decide_eq_true hf)
  ·cases h
 ·rintro⟨h1,h2,h3⟩
  have e:ordP p (keyP s a)=0:=ordP_zero.2 ⟨h2,h3⟩
  rw[if_pos ((zpS _ hpw).2 ⟨p,h1,e⟩)]
  exact zk8 hpw h1 e
theorem znv{d:Dbs}(hv:okD d=true)(s:List UInt8)(a:Int):zcg d s a=none↔∀p∈d.procs,¬(p.name=s/\p.ar=a):=by
 constructor
 ·intro h p hp hk
  rw[(zdI hv s a p).2 ⟨hp,hk⟩] at h
  cases h
 ·intro h
  cases e:zcg d s a with
  |none=>rfl
  |some p=>
   have:=(zdI hv s a p).1 e
   exact absurd this.2 (h p this.1)
theorem zeW{d:Dbs}(hv:okD d=true):BndD d:=by
 have h:=(zcL d).1 hv
 refine⟨by omega,by omega,fun p hp s hs=> ?_⟩
 obtain⟨vh,vb⟩:=zfE hv p hp s hs
 have h1:=zbH vh
 have h2:=zbH vb
 omega
theorem ztE:BndD zDb:=⟨by decide,by decide,fun p hp=>by cases hp⟩
theorem zjT{α:Type}{l:List α}{i:Nat}{x:α}(h:l[i]? =some x):l=l.take i++x::l.drop (i+1):=by
 rw[<-zfS h,List.take_append_drop]
theorem zrX{α:Type}{l:List α}{i:Nat}{x:α}(h:l[i]? =some x)(y:α):l.set i y=l.take i++y::l.drop (i+1):=by
 have hi:=(List.getElem?_eq_some_iff.1 h).1
 rw[List.set_eq_take_append_cons_drop,if_pos hi]
theorem zl8(A B:List Prc):totD (A++B)=totD A+totD B:=by simp[totD]
theorem zjU(p:Prc)(B:List Prc):totD (p::B)=p.cls.length+totD B:=by simp[totD]
theorem zla{l:List Prc}{i:Nat}{p:Prc}(h:l[i]? =some p)(q x:Prc):x∈l.set i q↔x=q\/x∈l.take i++l.drop (i+1):=by
 rw[zrX h]
 simp only[List.mem_append,List.mem_cons]
 constructor
 ·rintro(h|h|h)
  ·exact .inr (.inl h)
  ·exact .inl h
  ·exact .inr (.inr h)
 ·rintro(h|h|h)
  ·exact .inr (.inl h)
  ·exact .inl h
  ·exact .inr (.inr h)
theorem zlb{l:List Prc}{i:Nat}{p:Prc}(h:l[i]? =some p)(x:Prc):x∈l↔x=p\/x∈l.take i++l.drop (i+1):=by
 have e:=zla h p x
 rw[zlY h] at e
 exact e
theorem zsU{n:Int}{p q:Prc}{s:Sto}(h:okS n p s)(h1:p.name=q.name)(h2:p.ar=q.ar):okS n q s:=by
 obtain⟨a,b,c,d,e⟩:=h
 exact⟨a,b,c,by rw[d,h1],by rw[e,h2]⟩
def ApR(d n:Dbs)(s:List UInt8)(a:Int):Prop:=∀p∈d.procs,¬(p.name=s/\p.ar=a)->zcg n p.name p.ar=some p
theorem ztF{d n:Dbs}{s:List UInt8}{a:Int}(hn:okD n=true)(h:∀p∈d.procs,¬(p.name=s/\p.ar=a)->p∈n.procs):ApR d n s a:=fun p hp hk=>(zdI hn _ _ _).2 ⟨h p hp hk,rfl,rfl⟩
theorem zrw{d:Dbs}(hv:okD d=true){s:List UInt8}{a:Int}(hf:fnD d.procs (keyP s a)=true):∃p,d.procs[lbD d.procs (keyP s a)]? =some p/\p.name=s/\p.ar=a/\zcg d s a=some p:=by
 obtain⟨p,hpp⟩:=zeU hf
 have e:zcg d s a=some p:=by
  unfold zcg
  rw[if_pos hv,if_pos hf,hpp]
 exact⟨p,hpp,((zdI hv ..).1 e).2.1,((zdI hv ..).1 e).2.2,e⟩
theorem zgz{d:Dbs}{s:List UInt8}{a:Int}(h:(aboR d s a).2=true):∃p,zcg d s a=some p/\okD d=true/\okD (aboR d s a).1=true/\zcg (aboR d s a).1 s a=none/\totD (aboR d s a).1.procs+p.cls.length=totD d.procs/\(aboR d s a).1.next=d.next/\ApR d (aboR d s a).1 s a:=by
 by_cases hbad:okD d=false\/fnD d.procs (keyP s a)=false
 ·simp only[aboR,if_pos hbad] at h
  cases h
 have hv:okD d=true:=by cases e:okD d with|true=>rfl|false=>exact absurd (Or.inl e) hbad
 have hf:fnD d.procs (keyP s a)=true:=by cases e:fnD d.procs (keyP s a) with|true=>rfl|false=>exact absurd (Or.inr e) hbad
 obtain⟨d1,d2,d3,d4,d5⟩:=(zcL d).1 hv
 obtain⟨p,hpp,rfl,rfl,hfd⟩:=zrw hv hf
 have e:aboR d p.name p.ar=(⟨d.next,d.procs.take (lbD d.procs (keyP p.name p.ar))++d.procs.drop (lbD d.procs (keyP p.name p.ar)+1)⟩,true):=by simp only[aboR,if_neg hbad]
 rw[e]
 have d5':=d5
 rw[zjT hpp] at d5'
 obtain⟨g1,g2,g3,g4,g5,g6,g7⟩:=(zpR ..).1 d5'
 have ht:totD d.procs=totD (d.procs.take (lbD d.procs (keyP p.name p.ar))++p::d.procs.drop (lbD d.procs (keyP p.name p.ar)+1)):=by rw[<-zjT hpp]
 rw[zl8,zjU] at ht
 have ht2:totD (d.procs.take (lbD d.procs (keyP p.name p.ar))++d.procs.drop (lbD d.procs (keyP p.name p.ar)+1))+p.cls.length=totD d.procs:=by rw[zl8];omega
 have hok:okD ⟨d.next,d.procs.take (lbD d.procs (keyP p.name p.ar))++d.procs.drop (lbD d.procs (keyP p.name p.ar)+1)⟩=true:=by
  refine(zcL _).2 ⟨d1,d2,?_,?_,g1⟩
  ·simp
   omega
  ·show totD (_++_)<=500
   omega
 refine⟨p,hfd,hv,hok,(znv hok ..).2 fun q hq hk=> ?_,ht2,rfl,ztF hok fun q hq hk=> ?_⟩
 ·rcases List.mem_append.1 hq with hq|hq
  ·have:=g3 q hq
   rw[ordP_zero.2 hk] at this
   omega
  ·have:=g4 q hq
   rw[ordP_zero.2 ⟨hk.1.symm,hk.2.symm⟩] at this
   omega
 ·rcases(zlb hpp q).1 hq with rfl|hq
  ·exact absurd ⟨rfl,rfl⟩ hk
  ·exact hq
theorem zrx(d:Dbs)(s:List UInt8)(a:Int):BndD (aboR d s a).1:=by
 cases h:(aboR d s a).2 with
 |true=>
  obtain⟨p,_,_,h2,_⟩:=zgz h
  exact zeW h2
 |false=>
  have e:(aboR d s a).1=zDb:=by
   unfold aboR at h ⊢
   split
   ·rfl
   ·rename_i h1
    rw[if_neg h1] at h
    cases h
  rw[e]
  exact ztE
theorem zny{d:Dbs}{s:List UInt8}{a:Int}(hv:okD d=true)(h:zcg d s a=none):(aboR d s a).2=false:=by
 cases e:(aboR d s a).2 with
 |false=>rfl
 |true=>
  obtain⟨p,h1,_⟩:=zgz e
  rw[h] at h1
  cases h1
theorem zl6(l:List Prc):totD l=(ids l).length:=by
 induction l with
 |nil=>rfl
 |cons p r ih=>rw[zjU,zch,List.length_append,List.length_map,ih]
def rmP(id:Int)(p:Prc):Prc:=⟨p.name,p.ar,p.dyn,p.cls.filter fun s=>decide (s.id≠id)⟩
theorem zrs{id:Int}{p:Prc}(h:∀s∈p.cls,s.id≠id):rmP id p=p:=by
 unfold rmP
 rw[List.filter_eq_self.2 fun s hs=>decide_eq_true (h s hs)]
theorem zjR{id:Int}{l:List Prc}(h:id ∉ ids l):l.map (rmP id)=l:=by
 have e:∀p∈l,rmP id p=p:=fun p hp=>zrs fun s hs e=>h (mem_ids.2 ⟨p,hp,s,hs,e⟩)
 rw[List.map_congr_left (g:=fun p=>p) e]
 simp
theorem zpT(id:Int)(l:List Prc):ids (l.map (rmP id))=(ids l).filter fun x=>decide (x≠id):=by
 induction l with
 |nil=>rfl
 |cons p r ih=>
  rw[List.map_cons,zch,zch,ih,List.filter_append]
  congr 1
  show((p.cls.filter _).map _)=_
  rw[List.filter_map]
  rfl
theorem zk9(l:List Prc)(id:Int):whR l id=none↔id ∉ ids l:=by
 constructor
 ·intro h hm
  obtain⟨p,hp,s,hs,e⟩:=mem_ids.1 hm
  induction l with
  |nil=>cases hp
  |cons x r ih=>
   rw[whR] at h
   split at h
   ·cases h
   ·rename_i hk
    split at h
    ·cases h
    ·rename_i hr
     rcases List.mem_cons.1 hp with rfl|hp
     ·unfold idS at hk
      rw[List.findIdx?_eq_none_iff] at hk
      have:=hk s hs
      rw[decide_eq_true e] at this
      cases this
     ·exact ih hr (mem_ids.2 ⟨p,hp,s,hs,e⟩) hp
 ·intro h
  exact zih fun j q hq=>zlZ fun k u hu e=>h (mem_ids.2 ⟨q,List.mem_of_getElem? hq,u,List.mem_of_getElem? hu,e⟩)
theorem znw{l:List Sto}{k:Nat}{s:Sto}(h:l[k]? =some s)(hn:(l.map (·.id)).Nodup):l.take k++l.drop (k+1)=l.filter fun x=>decide (x.id≠s.id):=by
 have e:=zjT h
 obtain⟨A,hA⟩:∃A,A=l.take k:=⟨_,rfl⟩
 obtain⟨B,hB⟩:∃B,B=l.drop (k+1):=⟨_,rfl⟩
 rw[<-hA,<-hB] at e ⊢
 rw[e,List.map_append,List.map_cons,List.nodup_append,List.nodup_cons] at hn
 obtain⟨n1,⟨n2,n3⟩,n4⟩:=hn
 rw[e,List.filter_append,List.filter_cons_of_neg (by simp),List.filter_eq_self.2,List.filter_eq_self.2]
 ·intro x hx
  refine decide_eq_true fun e2=>n2 (List.mem_map.2 ⟨x,hx,e2⟩)
 ·intro x hx
  exact decide_eq_true fun e2=>n4 x.id (List.mem_map.2 ⟨x,hx,rfl⟩) s.id List.mem_cons_self e2
theorem zl7{d:Dbs}{id:Int}(hv:okD d=true)(h:id∈ids d.procs):eraR d id=(⟨d.next,d.procs.map (rmP id)⟩,true):=by
 cases hw:whR d.procs id with
 |none=>exact absurd h ((zk9 ..).1 hw)
 |some x=>
  obtain⟨i,k⟩:=x
  obtain⟨p,s,hpp,hs,hsi⟩:=zij hw
  have d5:=((zcL d).1 hv).2.2.2.2
  have d5':=d5
  rw[zjT hpp] at d5'
  obtain⟨g1,g2,g3,g4,g5,g6,g7⟩:=(zpR ..).1 d5'
  have hsm:=List.mem_of_getElem? hs
  have hout:=g6 s hsm
  rw[hsi,zk7,List.mem_append,not_or] at hout
  have e1:cutC p k=rmP id p:=by
   unfold cutC rmP
   rw[znw hs g5,hsi]
  have e2:d.procs.modify i (fun p=>cutC p k)=d.procs.map (rmP id):=by
   rw[zio hpp,zrX hpp,e1]
   have e3:d.procs.map (rmP id)=(d.procs.take i++p::d.procs.drop (i+1)).map (rmP id):=by rw[<-zjT hpp]
   rw[e3,List.map_append,List.map_cons,zjR hout.1,zjR hout.2]
  simp only[eraR,hv,hw,e2]
  rfl
theorem eraR_iff{d:Dbs}{id:Int}:(eraR d id).2=true↔okD d=true/\id∈ids d.procs:=by
 constructor
 ·intro h
  by_cases hv:okD d=true
  ·refine⟨hv,Classical.byContradiction fun hm=> ?_⟩
   have hw:=(zk9 d.procs id).2 hm
   simp only[eraR,hv,hw] at h
   cases h
  ·have hv':okD d=false:=by simpa using hv
   simp only[eraR,if_pos hv'] at h
   cases h
 ·rintro⟨hv,hm⟩
  rw[zl7 hv hm]
theorem zrW{x:Int}:∀{l:List Int},l.Nodup->x∈l->(l.filter fun y=>decide (y≠x)).length+1=l.length
 |[],_,h=>by cases h
 |y::r,hn,h=>by
  obtain⟨n1,n2⟩:=List.nodup_cons.1 hn
  by_cases e:y=x
  ·subst e
   rw[List.filter_cons_of_neg (by simp),List.filter_eq_self.2]
   ·rfl
   ·exact fun z hz=>decide_eq_true fun e=>n1 (e▸hz)
  ·rw[List.filter_cons_of_pos (by simpa using e)]
   rcases List.mem_cons.1 h with h|h
   ·exact absurd h.symm e
   ·have:=zrW n2 h
    simp only[List.length_cons]
    omega
theorem zt5{n:Int}{l:List Prc}(id:Int)(h:OkP n l):OkP n (l.map (rmP id)):=by
 refine⟨fun p hp=> ?_,?_,?_,fun p hp s hs=> ?_⟩
 ·obtain⟨q,hq,rfl⟩:=List.mem_map.1 hp
  exact h.1 q hq
 ·rw[List.pairwise_map]
  exact h.2.1
 ·rw[zpT]
  exact h.2.2.1.filter _
 ·obtain⟨q,hq,rfl⟩:=List.mem_map.1 hp
  exact zsU (h.2.2.2 q hq s (List.mem_filter.1 hs).1) rfl rfl
theorem zjS{d:Dbs}{id:Int}(h:(eraR d id).2=true):okD d=true/\id∈ids d.procs/\(eraR d id).1=⟨d.next,d.procs.map (rmP id)⟩/\okD (eraR d id).1=true/\totD (eraR d id).1.procs+1=totD d.procs/\id ∉ ids (eraR d id).1.procs:=by
 obtain⟨hv,hm⟩:=eraR_iff.1 h
 obtain⟨d1,d2,d3,d4,d5⟩:=(zcL d).1 hv
 have e:=zl7 hv hm
 rw[e]
 have ht:totD (d.procs.map (rmP id))+1=totD d.procs:=by
  rw[zl6,zl6,zpT]
  exact zrW d5.2.2.1 hm
 refine⟨hv,hm,rfl,(zcL _).2 ⟨d1,d2,by simpa using d3,by show totD (d.procs.map (rmP id))<=500;omega,zt5 id d5⟩,ht,?_⟩
 show id ∉ ids (d.procs.map (rmP id))
 rw[zpT]
 intro hm2
 have:=(List.mem_filter.1 hm2).2
 simp at this
theorem zrt(d:Dbs)(id:Int):BndD (eraR d id).1:=by
 cases h:(eraR d id).2 with
 |true=>exact zeW (zjS h).2.2.2.1
 |false=>
  have e:(eraR d id).1=zDb:=by
   unfold eraR at h ⊢
   split
   ·rfl
   ·rename_i h1
    rw[if_neg h1] at h
    split
    ·rfl
    ·rename_i x hx
     rw[hx] at h
     cases h
  rw[e]
  exact ztE
theorem zru{d:Dbs}{id:Int}(h:id ∉ ids d.procs):getR d id=none:=by
 unfold getR
 rw[(zk9 ..).2 h]
 simp
def zt4:List UInt8:=[116,114,117,101]
def zcK(n:List UInt8):Cz:=⟨⟨2,0,n,[]⟩,⟨2,0,zt4,[]⟩⟩
theorem zsS(n:List UInt8)(hp:Heap):S 10 [.pv none (.str n)] hp=some (.ret (zcK n).av,hp):=by
 refine zal rfl rfl rfl (zad [(none,.str n)]) rfl ?_
 have b1:zaQ [(none,.pv none (.int .i64 0)),(none,.pv none (.int .i64 0)),(none,.pv none (.str [])),(none,.tsl (some 4) [])] [0,2] [.pv none (.int .i64 2),.pv none (.str n)]=some (.agg [(none,.pv none (.int .i64 2)),(none,.pv none (.int .i64 0)),(none,.pv none (.str n)),(none,.tsl (some 4) [])]):=rfl
 have b2:zaQ [(none,.pv none (.int .i64 0)),(none,.pv none (.int .i64 0)),(none,.pv none (.str [])),(none,.tsl (some 4) [])] [0,2] [.pv none (.int .i64 2),.pv none (.str [116,114,117,101])]=some (.agg [(none,.pv none (.int .i64 2)),(none,.pv none (.int .i64 0)),(none,.pv none (.str [116,114,117,101])),(none,.tsl (some 4) [])]):=rfl
 have b3:zaQ [(some 4,.agg [(none,.pv none (.int .i64 0)),(none,.pv none (.int .i64 0)),(none,.pv none (.str [])),(none,.tsl (some 4) [])]),(some 4,.agg [(none,.pv none (.int .i64 0)),(none,.pv none (.int .i64 0)),(none,.pv none (.str [])),(none,.tsl (some 4) [])])] [0,1] [.agg [(none,.pv none (.int .i64 2)),(none,.pv none (.int .i64 0)),(none,.pv none (.str n)),(none,.tsl (some 4) [])],.agg [(none,.pv none (.int .i64 2)),(none,.pv none (.int .i64 0)),(none,.pv none (.str [116,114,117,101])),(none,.tsl (some 4) [])]]=some (.agg [(some 4,.agg [(none,.pv none (.int .i64 2)),(none,.pv none (.int .i64 0)),(none,.pv none (.str n)),(none,.tsl (some 4) [])]),(some 4,.agg [(none,.pv none (.int .i64 2)),(none,.pv none (.int .i64 0)),(none,.pv none (.str [116,114,117,101])),(none,.tsl (some 4) [])])]):=rfl
 simp -dsimp -implicitDefEqProofs only[go_sem,seval,↓reduceIte,b1,b2,b3,zac (Nat.zero_le _),List.append_assoc,zae,zaa,zaf,zab,Nat.add_assoc,List.length_append]
 try exact⟨_,rfl⟩
def aN:List UInt8:=[97]
def d1E:Dbs:=⟨2,[⟨aN,0,false,[⟨1,zcK aN⟩]⟩]⟩
def d2E:Dbs:=⟨3,[⟨aN,0,false,[⟨2,zcK aN⟩,⟨1,zcK aN⟩]⟩]⟩
def d3E:Dbs:=⟨3,[⟨aN,0,false,[⟨2,zcK aN⟩]⟩]⟩
theorem k1:okD nilD=true:=by decide+kernel
theorem k2:okD d1E=true:=by decide+kernel
theorem k3:okD d2E=true:=by decide+kernel
theorem a1E:addR nilD (zcK aN) false false=(d1E,0):=by kernel_rfl
theorem a2E:addR d1E (zcK aN) true true=(d2E,0):=by kernel_rfl
theorem f2E:zcg d2E aN 0=some ⟨aN,0,false,[⟨2,zcK aN⟩,⟨1,zcK aN⟩]⟩:=by kernel_rfl
theorem e2E:eraR d2E 1=(d3E,true):=by kernel_rfl
theorem k4:okD d3E=true:=by decide+kernel
theorem zns(s s':Sh)(p q:PV)(H:Heap):(AV.tuple [.pv s p,.pv s' q]).alone H=some (.tuple [.pv s p,.pv s' q]):=rfl
set_option maxRecDepth 20000 in
theorem zjP:S 9 [] []=some (.ret (.pv none (.bool true)),[]):=by
 refine zal (ps:=[]) rfl rfl rfl rfl rfl ?_
 have z1:(zcK aN).head.size<100000000:=by decide+kernel
 have z2:(zcK aN).body.size<100000000:=by decide+kernel
 have h1:=fun hp=>zty hp
 have h2:=fun hp=>zsS aN hp
 have h3:=fun hp=>zrE nilD (zeW k1) (zcK aN) z1 z2 false false hp
 rw[a1E] at h3
 have h4:=fun hp=>zrE d1E (zeW k2) (zcK aN) z1 z2 true true hp
 rw[a2E] at h4
 have h5:=fun hp=>zig d2E (zeW k3) aN 0 hp
 rw[f2E] at h5
 have h6:=fun hp=>zho d2E (zeW k3) 1 hp
 rw[e2E] at h6
 have h7:=fun hp=>zif d2E (zeW k3) hp
 have h8:=fun hp=>zif d3E (zeW k4) hp
 rw[k3] at h7
 rw[k4] at h8
 have t2:((totD d2E.procs:Nat):Int)=2:=rfl
 have t3:((totD d3E.procs:Nat):Int)=1:=rfl
 rw[if_pos rfl,t2] at h7
 rw[if_pos rfl,t3] at h8
 obtain⟨P,hP⟩:∃P:Prc,P=⟨aN,0,false,[⟨2,zcK aN⟩,⟨1,zcK aN⟩]⟩:=⟨_,rfl⟩
 rw[<-hP] at h5
 have p1:PV.part deep P.pv 2 none=some (.bool false):=by rw[hP];rfl
 have p2:PV.part deep P.pv 3 none=some (.sl (some 9) [(Sto.mk 2 (zcK aN)).pv,(Sto.mk 1 (zcK aN)).pv]):=by rw[hP];rfl
 have p3:PV.part deep d3E.pv 0 none=some (.int .i64 3):=rfl
 have hnil:∀H:Heap,zaj [(none,.nilv (some 4))] H=([(none,.nilv (some 4))],H):=fun _=>rfl
 have hi0:zba (some 9) [.pv none (.sl (some 9) [(Sto.mk 2 (zcK aN)).pv,(Sto.mk 1 (zcK aN)).pv]),.pv none (.int .i64 0)]=some (.iptr (some 9) (Sto.mk 2 (zcK aN)).pv 0):=rfl
 have p4:PV.part deep (Sto.mk 2 (zcK aN)).pv 0 none=some (.int .i64 2):=rfl
 simp only[Dbs.av,Cz.av,Prc.av,aN,Option.getD_some,Option.isSome_some] at h1 h2 h3 h4 h5 h6 h7 h8
 simp only[aN] at p2 hi0 p4
 simp -dsimp -implicitDefEqProofs only[go_sem,seval,↓reduceIte,h1,h2,h3,h4,h5,h6,h7,h8,p1,p2,p3,p4,hi0,hnil,zns,zac (Nat.zero_le _),List.append_assoc,zae,zaa,zaf,zab,Nat.add_assoc,List.length_append]
 try rfl
theorem znt(hp:Heap):S 9 [] hp=some (.ret (.pv none (.bool true)),hp):=zpq (F:=find tab) (prim:=prim) (f:=9) (args:=[]) (ps:=[]) (hp:=hp) (hp1:=hp) rfl rfl rfl rfl zjP
theorem zl9{d:Dbs}(hv:okD d=true)(hp:Heap):S 13 [d.av] hp=some (.ret (.pv none (.int .i64 (totD d.procs:Int))),hp):=by
 have h:=zif d (zeW hv) hp
 rw[if_pos hv] at h
 exact h
theorem ztG{d n:Dbs}(hv:okD d=true)(hbn:BndD n){s:List UInt8}{a:Int}(h:ApR d n s a)(hp:Heap):S 18 [d.av,n.av,.pv none (.str s),.pv none (.int .i64 a)] hp=some (.ret (.pv none (.bool true)),hp):=by
 obtain⟨_,_,d3,d4,_⟩:=(zcL d).1 hv
 exact zro d n hbn s a (by omega) (fun p hp=>⟨by have:=zb0 hp;omega,zfE hv p hp⟩) h hp
set_option maxRecDepth 20000 in
theorem zlc(d:Dbs)(hb:BndD d)(s:List UInt8)(a id:Int):S 6 [d.av,.pv none (.str s),.pv none (.int .i64 a),.pv none (.int .i64 id)] []=some (.ret (.pv none (.bool true)),[]):=by
 refine zal rfl rfl rfl (zad [(some 2,d.pv),(none,.str s),(none,.int .i64 a),(none,.int .i64 id)]) rfl ?_
 have hex:=fun hp=>znt hp
 have hnil:∀H:Heap,zaj [(none,.nilv (some 4))] H=([(none,.nilv (some 4))],H):=fun _=>rfl
 have h1:=fun hp=>zho d hb id hp
 have h2:=fun hp=>zgH d hb s a hp
 have sE:=zjS (d:=d) (id:=id)
 have sA:=zgz (d:=d) (s:=s) (a:=a)
 have bE:=zrt d id
 have bA:=zrx d s a
 have aA:=fun hv hf=>zny (d:=(aboR d s a).1) (s:=s) (a:=a) hv hf
 generalize hE:eraR d id=E at*
 generalize hA:aboR d s a=A at*
 obtain⟨n,e⟩:=E
 obtain⟨m,b⟩:=A
 dsimp only at h1 h2 sE sA bE bA aA
 have hR2:(b=true->∀hp,S 14 [d.av,.pv none (.str s),.pv none (.int .i64 a)] hp=some (.ret (.tuple [((zcg d s a).getD zP).av,.pv none (.bool true)]),hp)/\S 14 [m.av,.pv none (.str s),.pv none (.int .i64 a)] hp=some (.ret (.tuple [zP.av,.pv none (.bool false)]),hp)/\S 20 [m.av,.pv none (.str s),.pv none (.int .i64 a)] hp=some (.ret (.tuple [(aboR m s a).1.av,.pv none (.bool false)]),hp)/\S 13 [m.av] hp=some (.ret (.pv none (.int .i64 (totD m.procs:Int))),hp)/\S 13 [d.av] hp=some (.ret (.pv none (.int .i64 (totD d.procs:Int))),hp)/\S 18 [d.av,m.av,.pv none (.str s),.pv none (.int .i64 a)] hp=some (.ret (.pv none (.bool true)),hp)):=fun hbt hp=>by
  obtain⟨p,q1,q2,q3,q4,q5,q6,q7⟩:=sA hbt
  have f1:=zig d hb s a hp
  have f2:=zig m bA s a hp
  have f3:=zgH m bA s a hp
  rw[aA q3 q4] at f3
  rw[q4] at f2
  rw[q1] at f1 ⊢
  exact⟨f1,f2,f3,zl9 q3 hp,zl9 q2 hp,ztG q2 bA q7 hp⟩
 have hW2:b=true->IntKind.i64.wrap ((totD d.procs:Int) - (((zcg d s a).getD zP).cls.length:Int))=(totD m.procs:Int):=fun hbt=>by
  obtain⟨p,q1,q2,q3,q4,q5,q6,q7⟩:=sA hbt
  obtain⟨_,_,_,d4,_⟩:=(zcL d).1 q2
  rw[q1]
  show IntKind.i64.wrap ((totD d.procs:Int) - (p.cls.length:Int))=_
  rw[zaK (by omega) (by omega)]
  omega
 have hR1:(e=true->∀hp,S 17 [n.av,.pv none (.int .i64 id)] hp=some (.ret (.tuple [zSt.av,.pv none (.bool false)]),hp)/\S 12 [n.av,.pv none (.int .i64 id)] hp=some (.ret (.tuple [(eraR n id).1.av,.pv none (.bool false)]),hp)/\S 13 [n.av] hp=some (.ret (.pv none (.int .i64 (totD n.procs:Int))),hp)/\S 13 [d.av] hp=some (.ret (.pv none (.int .i64 (totD d.procs:Int))),hp)):=fun het hp=>by
  obtain⟨q1,q2,q3,q4,q5,q6⟩:=sE het
  have f1:=ztx n bE id hp
  have f2:=zho n bE id hp
  have f3:(eraR n id).2=false:=by
   cases e2:(eraR n id).2 with
   |false=>rfl
   |true=>exact absurd (eraR_iff.1 e2).2 q6
  rw[zru q6] at f1
  rw[f3] at f2
  exact⟨f1,f2,zl9 q4 hp,zl9 q1 hp⟩
 have hW1:e=true->IntKind.i64.wrap ((totD d.procs:Int) - 1)=(totD n.procs:Int)/\n.procs.length=d.procs.length:=fun het=>by
  obtain⟨q1,q2,q3,q4,q5,q6⟩:=sE het
  obtain⟨_,_,_,d4,_⟩:=(zcL d).1 q1
  refine⟨?_,by rw[q3];simp⟩
  rw[zaK (by omega) (by omega)]
  omega
 clear sE sA aA hE hA
 generalize (zcg d s a).getD zP=p at hR2 hW2
 simp only[Dbs.av,Prc.av,Sto.av] at h1 h2 hR1 hR2
 cases e with
 |false=>
  cases b with
  |false=>
   simp -dsimp -implicitDefEqProofs only[go_sem,seval,↓reduceIte,Dbs.av,h1,h2,hex,hnil,zac (Nat.zero_le _),List.append_assoc,zae,zaa,zaf,zab,Nat.add_assoc,List.length_append]
   try rfl
  |true=>
   have u1:=fun hp=>(hR2 rfl hp).1
   have u2:=fun hp=>(hR2 rfl hp).2.1
   have u3:=fun hp=>(hR2 rfl hp).2.2.1
   have u4:=fun hp=>(hR2 rfl hp).2.2.2.1
   have u5:=fun hp=>(hR2 rfl hp).2.2.2.2.1
   have u6:=fun hp=>(hR2 rfl hp).2.2.2.2.2
   have w2:=hW2 rfl
   simp -dsimp -implicitDefEqProofs only[go_sem,seval,↓reduceIte,Dbs.av,h1,h2,hex,u1,u2,u3,u4,u5,u6,w2,zbV,Sto.pvs_len,hnil,zac (Nat.zero_le _),List.append_assoc,zae,zaa,zaf,zab,Nat.add_assoc,List.length_append]
   try rfl
 |true=>
  have k1:=fun hp=>(hR1 rfl hp).1
  have k2:=fun hp=>(hR1 rfl hp).2.1
  have k3:=fun hp=>(hR1 rfl hp).2.2.1
  have k4:=fun hp=>(hR1 rfl hp).2.2.2
  have w1:=(hW1 rfl).1
  have hl:=(hW1 rfl).2
  cases b with
  |false=>
   simp -dsimp -implicitDefEqProofs only[go_sem,seval,↓reduceIte,Dbs.av,h1,h2,hex,k1,k2,k3,k4,w1,hl,zat,Prc.pvs_len,hnil,zac (Nat.zero_le _),List.append_assoc,zae,zaa,zaf,zab,Nat.add_assoc,List.length_append]
   try rfl
  |true=>
   have u1:=fun hp=>(hR2 rfl hp).1
   have u2:=fun hp=>(hR2 rfl hp).2.1
   have u3:=fun hp=>(hR2 rfl hp).2.2.1
   have u4:=fun hp=>(hR2 rfl hp).2.2.2.1
   have u5:=fun hp=>(hR2 rfl hp).2.2.2.2.1
   have u6:=fun hp=>(hR2 rfl hp).2.2.2.2.2
   have w2:=hW2 rfl
   simp -dsimp -implicitDefEqProofs only[go_sem,seval,↓reduceIte,Dbs.av,h1,h2,hex,k1,k2,k3,k4,w1,hl,zat,Prc.pvs_len,u1,u2,u3,u4,u5,u6,w2,zbV,Sto.pvs_len,hnil,zac (Nat.zero_le _),List.append_assoc,zae,zaa,zaf,zab,Nat.add_assoc,List.length_append]
   try rfl
end Go.Proofs.Ytligpohiokpnhaa
namespace Go.Proofs.Ytligpohiokpnhaa
open Go.Am Go.ChangeShapes Go.WideShapes Go.ChangeAt Go.RowKit
theorem zpA(H:Type):BulkLaws (H:=H) Rows.uptoBulk Rows.uptoBulkAll where
 nil:=by simp[Rows.uptoBulkAll]
 cons d r:=by simp[Rows.uptoBulkAll]
 slice e s:=by simp[Rows.uptoBulk]
 agg l:=by simp[Rows.uptoBulk]
 string l:=by simp[Rows.uptoBulk]
theorem zno{H:Type}{l:List (DataW H)}(hk:Rows.uptoSmall H l=true):Rows.uptoBulkAll l<=1048576:=of_decide_eq_true hk
def zlQ(P:Program)(tA tT:TypeId):Bool:=
 (match P.underlying tA with|some (.slice t)=>t == tT|_=>false) &&
 (match P.underlying tT with
  |some (.struct fs)=>match fs.toList.map (·.type) with
   |[a,b,c,d]=>d == tA && (match P.underlying a with|some (.int .i64)=>true|_=>false) && (match P.underlying b with|some (.int .i64)=>true|_=>false) && (match P.underlying c with|some .string=>true|_=>false) && decide (shOf P a=none) && decide (shOf P b=none) && decide (shOf P c=none)
   |_=>false
  |_=>false) && decide (shOf P tT=some 4) && decide (shOf P tA=none)
theorem zk2{P:Program}{tA tT:TypeId}(h:zlQ P tA tT=true):TermTy P tA tT:=by
 unfold zlQ at h
 simp only[Bool.and_eq_true,decide_eq_true_eq] at h
 obtain⟨⟨⟨h1,h2⟩,h3⟩,h4⟩:=h
 refine⟨?_,?_⟩
 ·split at h1
  ·rename_i t ht;rw[ht];simp at h1;rw[h1]
  ·cases h1
 ·split at h2
  ·rename_i fs hfs
   split at h2
   ·rename_i a b c d hl
    simp only[Bool.and_eq_true,decide_eq_true_eq,beq_iff_eq] at h2
    obtain⟨⟨⟨⟨⟨⟨k1,k2⟩,k3⟩,k4⟩,k5⟩,k6⟩,k7⟩:=h2
    subst k1
    refine⟨fs,a,b,c,hfs,hl,?_,?_,?_,h3,h4,k5,k6,k7⟩
    ·split at k2
     ·assumption
     ·cases k2
    ·split at k3
     ·assumption
     ·cases k3
    ·split at k4
     ·assumption
     ·cases k4
   ·cases h2
  ·cases h2
theorem zrR:TermTy Try.prog 22 24:=zk2 (by kernel_rfl)
def zpB:List TypeId:=[2,3,4,5,9,22,24,26,37,32,34,29,31,62,57]
theorem closed:zlJ Try.prog zpB=true:=by kernel_rfl
end Go.Proofs.Ytligpohiokpnhaa
namespace Go.Proofs.Ytligpohiokpnhaa
open Go.Am Go.ChangeShapes Go.WideShapes Go.ChangeAt Go.RowKit
theorem znp(H:Type):BulkLaws2 (H:=H) Rows.uptoBulk Rows.uptoBulkAll:=
 ⟨zpA H,fun d=>by
  cases d with
  |lit l=>cases l <;> simp[Rows.uptoBulk]
  |_=>simp[Rows.uptoBulk]⟩
set_option maxRecDepth 100000 in
theorem zfR{H:Type}{enc:TypeId × Value->H}{W:World}{base:Nat}{v:Value}{d:DataW H}{ps:List MemPlace}{t:TypeId}(ht:t∈zpB)(hok:okT Try.prog t=true)(h:DataW.Trod enc Try.prog W 0 (fun _=>true) true t v d ps)(hv:Value.okWide Try.prog W .any base t v):
  ∃n p,AR W (noX (P:=Try.prog)) noμ [] (.pv (shOf Try.prog t) p) v/\wt Try.prog n t p/\p.sz<=Rows.uptoBulk d:=by
 obtain⟨fuel,h0⟩:=h
 obtain⟨p,hp⟩:=zpr closed fuel _ _ _ _ ht h0
 obtain⟨h1,h2⟩:=zps (znp H) fuel _ _ _ hp
 exact⟨fuel,p,ztq ⟨fuel,h0⟩ hok hp (znm hv),h1,h2⟩
end Go.Proofs.Ytligpohiokpnhaa
namespace Go.Proofs.Ytligpohiokpnhaa
open Go.Am Go.ChangeShapes Go.WideShapes Go.ChangeAt Go.RowKit
theorem zpC{n:Nat}{p:PV}(h:wt Try.prog n 26 p):∃x:Cz,p=x.pv:=by
 obtain⟨m,l,rfl,h'⟩:=zeQ (ts:=[24,24]) (by kernel_rfl) h
 obtain⟨a,l,rfl,ha,h⟩:=za0 h'
 obtain⟨b,l,rfl,hb,h⟩:=za0 h
 obtain rfl:=zdY h
 obtain⟨x,rfl,_⟩:=(zk0 zrR m).1 a ha
 obtain⟨y,rfl,_⟩:=(zk0 zrR m).1 b hb
 refine⟨⟨x,y⟩,?_⟩
 rw[show shOf Try.prog 24=some 4 from by kernel_rfl]
 rfl
theorem zpD{n:Nat}{p:PV}(h:wt Try.prog n 37 p):∃x:Sto,p=x.pv:=by
 obtain⟨m,l,rfl,h'⟩:=zeQ (ts:=[2,26]) (by kernel_rfl) h
 obtain⟨a,l,rfl,ha,h⟩:=za0 h'
 obtain⟨b,l,rfl,hb,h⟩:=za0 h
 obtain rfl:=zdY h
 obtain⟨x,rfl,_⟩:=zjI (by kernel_rfl) ha
 obtain⟨y,rfl⟩:=zpC hb
 refine⟨⟨x,y⟩,?_⟩
 rw[show shOf Try.prog 2=none from by kernel_rfl,show shOf Try.prog 26=some 8 from by kernel_rfl]
 rfl
theorem zsK{n:Nat}{p:PV}(h:wt Try.prog n 34 p):∃x:Prc,p=x.pv:=by
 obtain⟨m,l,rfl,h'⟩:=zeQ (ts:=[9,3,4,32]) (by kernel_rfl) h
 obtain⟨a,l,rfl,ha,h⟩:=za0 h'
 obtain⟨b,l,rfl,hb,h⟩:=za0 h
 obtain⟨c,l,rfl,hc,h⟩:=za0 h
 obtain⟨d,l,rfl,hd,h⟩:=za0 h
 obtain rfl:=zdY h
 obtain⟨x,rfl⟩:=zrQ (by kernel_rfl) ha
 obtain⟨y,rfl,_⟩:=zjI (by kernel_rfl) hb
 obtain⟨z,rfl⟩:=zsF (by kernel_rfl) hc
 obtain⟨k,es,rfl,he⟩:=zlN (e:=37) (by kernel_rfl) hd
 obtain⟨gs,rfl,_⟩:=zk1 (f:=Sto.pv) (Q:=fun _=>True) es fun x hx=>by
  obtain⟨g,rfl⟩:=zpD (he x hx)
  exact⟨g,rfl,trivial⟩
 refine⟨⟨x,y,z,gs⟩,?_⟩
 rw[show shOf Try.prog 9=none from by kernel_rfl,show shOf Try.prog 3=none from by kernel_rfl,show shOf Try.prog 4=none from by kernel_rfl,show shOf Try.prog 32=none from by kernel_rfl,show shOf Try.prog 37=some 9 from by kernel_rfl]
 rfl
theorem zt1{n:Nat}{p:PV}(h:wt Try.prog n 31 p):∃x:Dbs,p=x.pv:=by
 obtain⟨m,l,rfl,h'⟩:=zeQ (ts:=[2,29]) (by kernel_rfl) h
 obtain⟨a,l,rfl,ha,h⟩:=za0 h'
 obtain⟨b,l,rfl,hb,h⟩:=za0 h
 obtain rfl:=zdY h
 obtain⟨x,rfl,_⟩:=zjI (by kernel_rfl) ha
 obtain⟨k,es,rfl,he⟩:=zlN (e:=34) (by kernel_rfl) hb
 obtain⟨gs,rfl,_⟩:=zk1 (f:=Prc.pv) (Q:=fun _=>True) es fun x hx=>by
  obtain⟨g,rfl⟩:=zsK (he x hx)
  exact⟨g,rfl,trivial⟩
 refine⟨⟨x,gs⟩,?_⟩
 rw[show shOf Try.prog 2=none from by kernel_rfl,show shOf Try.prog 29=none from by kernel_rfl,show shOf Try.prog 34=some 4 from by kernel_rfl]
 rfl
theorem zt2(c:Cz):c.head.size<=c.pv.sz/\c.body.size<=c.pv.sz:=by
 have h1:=Tm.zun c.head
 have h2:=Tm.zun c.body
 simp[Cz.pv,PV.sz,PV.szc]
 omega
theorem ztv(s:Sto):s.cl.pv.sz<=s.pv.sz:=by
 simp[Sto.pv,PV.sz,PV.szc]
 omega
theorem zk3:∀l:List Sto,l.length<=PV.szs (Sto.pvs l)/\∀s∈l,s.pv.sz<=PV.szs (Sto.pvs l)
 |[]=>⟨Nat.zero_le _,fun b hb=>by cases hb⟩
 |x::r=>by
  obtain⟨h1,h2⟩:=zk3 r
  have h4:PV.szs (Sto.pvs (x::r))=x.pv.sz+PV.szs (Sto.pvs r):=by simp[Sto.pvs,PV.szs]
  have h5:1<=x.pv.sz:=by simp[Sto.pv,PV.sz];try omega
  refine⟨by simp only[List.length_cons];omega,fun b hb=> ?_⟩
  rcases List.mem_cons.1 hb with rfl|hb
  ·omega
  ·have:=h2 b hb;omega
theorem zrS(p:Prc):PV.szs (Sto.pvs p.cls)+1<=p.pv.sz:=by
 simp[Prc.pv,PV.sz,PV.szc]
 omega
theorem zpE:∀l:List Prc,l.length<=PV.szs (Prc.pvs l)/\totD l<=PV.szs (Prc.pvs l)/\∀p∈l,p.pv.sz<=PV.szs (Prc.pvs l)
 |[]=>⟨Nat.zero_le _,Nat.zero_le _,fun b hb=>by cases hb⟩
 |x::r=>by
  obtain⟨h1,h2,h3⟩:=zpE r
  have h4:PV.szs (Prc.pvs (x::r))=x.pv.sz+PV.szs (Prc.pvs r):=by simp[Prc.pvs,PV.szs]
  have h5:=zrS x
  have h6:=(zk3 x.cls).1
  have h7:totD (x::r)=x.cls.length+totD r:=by simp[totD]
  refine⟨by simp only[List.length_cons];omega,by omega,fun b hb=> ?_⟩
  rcases List.mem_cons.1 hb with rfl|hb
  ·omega
  ·have:=h3 b hb;omega
theorem ztw{d:Dbs}(h:d.pv.sz<=1048576):BndD d:=by
 have h0:PV.szs (Prc.pvs d.procs)<=d.pv.sz:=by
  simp[Dbs.pv,PV.sz,PV.szc]
  omega
 obtain⟨h1,h2,h3⟩:=zpE d.procs
 refine⟨by omega,by omega,fun p hp s hs=> ?_⟩
 have g1:=h3 p hp
 have g2:=zrS p
 have g3:=(zk3 p.cls).2 s hs
 have g4:=ztv s
 have g5:=zt2 s.cl
 omega
set_option maxRecDepth 100000 in
theorem zsL{H:Type}{enc:TypeId × Value->H}{W:World}{base:Nat}{v:Value}{d:DataW H}{ps:List MemPlace}(h:DataW.Trod enc Try.prog W 0 (fun _=>true) true 31 v d ps)(hv:Value.okWide Try.prog W .any base 31 v):
  ∃f:Dbs,AR W (noX (P:=Try.prog)) noμ [] f.av v/\f.pv.sz<=Rows.uptoBulk d:=by
 obtain⟨n,p,h1,h2,h3⟩:=zfR (by decide) (by kernel_rfl) h hv
 obtain⟨f,rfl⟩:=zt1 h2
 rw[show shOf Try.prog 31=some 2 from by kernel_rfl] at h1
 exact⟨f,h1,h3⟩
set_option maxRecDepth 100000 in
theorem zrg{H:Type}{enc:TypeId × Value->H}{W:World}{base:Nat}{v:Value}{d:DataW H}{ps:List MemPlace}(h:DataW.Trod enc Try.prog W 0 (fun _=>true) true 2 v d ps)(hv:Value.okWide Try.prog W .any base 2 v):
  ∃x:Int,AR W (noX (P:=Try.prog)) noμ [] (.pv none (.int .i64 x)) v/\zjG x:=by
 obtain⟨n,p,h1,h2,h3⟩:=zfR (by decide) (by kernel_rfl) h hv
 obtain⟨x,rfl,hx⟩:=zjI (by kernel_rfl) h2
 rw[show shOf Try.prog 2=none from by kernel_rfl] at h1
 exact⟨x,h1,hx⟩
set_option maxRecDepth 100000 in
theorem zrh{H:Type}{enc:TypeId × Value->H}{W:World}{base:Nat}{v:Value}{d:DataW H}{ps:List MemPlace}(h:DataW.Trod enc Try.prog W 0 (fun _=>true) true 3 v d ps)(hv:Value.okWide Try.prog W .any base 3 v):
  ∃x:Int,AR W (noX (P:=Try.prog)) noμ [] (.pv none (.int .i64 x)) v/\zjG x:=by
 obtain⟨n,p,h1,h2,h3⟩:=zfR (by decide) (by kernel_rfl) h hv
 obtain⟨x,rfl,hx⟩:=zjI (by kernel_rfl) h2
 rw[show shOf Try.prog 3=none from by kernel_rfl] at h1
 exact⟨x,h1,hx⟩
set_option maxRecDepth 100000 in
theorem zri{H:Type}{enc:TypeId × Value->H}{W:World}{base:Nat}{v:Value}{d:DataW H}{ps:List MemPlace}(h:DataW.Trod enc Try.prog W 0 (fun _=>true) true 9 v d ps)(hv:Value.okWide Try.prog W .any base 9 v):
  ∃x:List UInt8,AR W (noX (P:=Try.prog)) noμ [] (.pv none (.str x)) v/\True:=by
 obtain⟨n,p,h1,h2,h3⟩:=zfR (by decide) (by kernel_rfl) h hv
 obtain⟨x,rfl⟩:=zrQ (by kernel_rfl) h2
 rw[show shOf Try.prog 9=none from by kernel_rfl] at h1
 exact⟨x,h1,trivial⟩
end Go.Proofs.Ytligpohiokpnhaa
