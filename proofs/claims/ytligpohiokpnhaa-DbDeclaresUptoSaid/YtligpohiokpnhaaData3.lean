/- db.Add where the procedure is new. -/
import Derived.Test.YtligpohiokpnhaaAdt
import Derived.Test.YtligpohiokpnhaaCp
import Derived.Test.YtligpohiokpnhaaAm5
import Derived.Test.YtligpohiokpnhaaDb5
set_option linter.unusedSimpArgs false
set_option linter.unusedVariables false
namespace Go.Proofs.Ytligpohiokpnhaa
open Go.Am
set_option maxRecDepth 20000 in
theorem zrW(d:Dbs)(hb:BndD d)(c:Cz)(z1:c.head.size<100000000)(z2:c.body.size<100000000)(fr dy:Bool)(hv:okD d=true)(hn:okC c=true)(ht:totD d.procs≠500)(hx:d.next≠4294967296)(hl:d.procs.length≠500)(s:List UInt8)(a:Int)(hs:s=c.head.name)(ha:a=c.head.args.length)(hf:fnD d.procs (keyP s a)=false)(i:Nat)(hi:i=lbD d.procs (keyP s a))(hp:Heap):S 11 [d.av,c.av,.pv none (.bool fr),.pv none (.bool dy)] hp=some (.ret (.tuple [(⟨d.next+1,d.procs.take i++(⟨s,a,dy,[⟨d.next,c⟩]⟩:Prc)::d.procs.drop i⟩:Dbs).av,.pv none (.int .i64 0)]),hp):=by
 refine zal rfl rfl rfl (zac [(some 2,d.pv),(some 8,c.pv),(none,.bool fr),(none,.bool dy)]) rfl ?_
 have h1:=fun hp=>za0 d hb.1 hb.2.1 hb.2.2 hp
 have h2:=fun hp=>zb7 c z1 z2 hp
 have h3:∀hp,S 31 [d.av,.pv none (.str s),.pv none (.int .i64 a)] hp=some (.ret (.tuple [.pv none (.int .i64 (lbD d.procs (keyP s a):Int)),.pv none (.bool (fnD d.procs (keyP s a)))]),hp):=fun hp=>zci d s a hb.1 (zdl hv) hp
 have hl5:1<=d.next/\d.next<=4294967296/\d.procs.length<=500/\totD d.procs<=500:=by
  simp only[okD,Bool.and_eq_true,decide_eq_true_eq] at hv
  exact⟨hv.1,hv.2.1,hv.2.2.1,hv.2.2.2.1⟩
 have h4:=fun hp=>zdk d (by omega) (by omega) hp
 have h6:∀x0 x1 x2:AObj,S 33 [d.av] [x0,x1,x2]=some (.ret (dA d 5),x0::x1::x2::.box (some 2) (dA d 5)::.box (some 2) (dA d 5)::.arv (some 4) (elsA d.procs 11 d.procs.length)::cEs d.procs 11):=fun x0 x1 x2=>zdK d (by omega) (fun q hq=>⟨by have:=zby hq;omega,zeW hv q hq⟩) [x0,x1,x2]
 have hnil:∀H:Heap,zai [(none,.nilv (some 4))] H=([(none,.nilv (some 4))],H):=fun _=>rfl
 have hst:∀(x0 x1:AObj) (v:AV) (X:Heap),zap (some 2) 0 (x0::x1::.box (some 2) v::X) [.ptr 2 0,dA d 5]=some (.undef,x0::x1::.box (some 2) (dA d 5)::X):=fun x0 x1 v X=>by
  simp[zap,astore,dA,AV.plain,AV.shp,AV.own,zai,za3,total,Sh.size]
 obtain⟨vh,vb⟩:=zk6 hn
 have h7:=fun hp=>zgA ⟨d.next,c⟩ vh vb hp
 have hbs:zaQ [(none,.pv none (.int .i64 0)),(some 8,.agg [(some 4,.agg [(none,.pv none (.int .i64 0)),(none,.pv none (.int .i64 0)),(none,.pv none (.str [])),(none,.tsl (some 4) [])]),(some 4,.agg [(none,.pv none (.int .i64 0)),(none,.pv none (.int .i64 0)),(none,.pv none (.str [])),(none,.tsl (some 4) [])])])] [0,1] [.pv none (.int .i64 d.next),.pv (some 8) c.pv]=some (.pv (some 9) (Sto.mk d.next c).pv):=rfl
 rw[hf,<-hi] at h3
 simp only[Dbs.av] at h1 h3 h4 h6
 simp only[Cz.av] at h2
 simp only[Sto.av] at h7
 rw[hv] at h1
 rw[hn] at h2
 have ht':((totD d.procs:Int)=500)=False:=eq_false (by omega)
 have hx':(d.next=4294967296)=False:=eq_false hx
 have hl':((d.procs.length:Int)=500)=False:=eq_false (by omega)
 have hpt:AV.part deep (dA d 5) 1 none=some (.slv (some 4) 5 d.procs.length 0 d.procs.length):=rfl
 have hil:i<=d.procs.length:=by rw[hi];exact zlW _ _
 obtain⟨nv,hnv⟩:∃nv:AV->AV,nv=fun sv=>.agg [(none,.pv none (.str s)),(none,.pv none (.int .i64 a)),(none,.pv none (.bool dy)),(none,sv)]:=⟨_,rfl⟩
 have hbu:zaQ [(none,.pv none (.str [])),(none,.pv none (.int .i64 0)),(none,.pv none (.bool false)),(none,.tsl (some 9) [])] [0,1,2] [.pv none (.str s),.pv none (.int .i64 a),.pv none (.bool dy)]=some (nv (.tsl (some 9) [])):=by rw[hnv];rfl
 obtain⟨el,hel⟩:∃el:AV->List AV,el=fun v=>(elsA d.procs 11 d.procs.length).take i++v::(elsA d.procs 11 d.procs.length).drop i:=⟨_,rfl⟩
 have hell:∀v,(el v).length=d.procs.length+1:=fun v=>by rw[hel];simp[zaL];omega
 have hli:((elsA d.procs 11 d.procs.length).take i).length=i:=by rw[List.length_take,zaL];omega
 have heli:∀v,(el v)[i]? =some v:=fun v=>by
  rw[hel]
  show(_++_)[i]? =_
  rw[List.getElem?_append_right (by omega),hli,Nat.sub_self]
  rfl
 have hels:∀v v',(el v).set i v'=el v':=fun v v'=>by
  rw[hel]
  show List.set (_++_) i v'=_
  rw[List.set_append_right _ _ (by omega),hli,Nat.sub_self]
  rfl
 obtain⟨m,hm⟩:∃m,m=(cEs d.procs 11).length+6:=⟨_,rfl⟩
 have op_bslov:∀{vs:List AV} {H:Heap} {K:AV->Heap->Prop} {Kp:PV->Heap->Prop},opK (aOp (sem (find tab) prim) 0 (.bslov (some 4)) vs H) K Kp=zbO (zcM (some 4) H vs) K:=fun{vs H K Kp}=>by
  show opK (match zcM (some 4) H vs with|some (v,hp')=>some (OpRes.val v hp')|none=>none) K Kp=_
  cases zcM (some 4) H vs with
  |none=>rfl
  |some r=>cases r;rfl
 have hbv:∀x0 x1 x2 x3 x4 x5:AObj,zcM (some 4) (x0::x1::x2::x3::x4::x5::cEs d.procs 11) [nv (.tsl (some 9) [])]=some (.slv (some 4) m 1 0 1,x0::x1::x2::x3::x4::x5::(cEs d.procs 11++[.arv (some 4) [nv (.tsl (some 9) [])]])):=fun x0 x1 x2 x3 x4 x5=>by
  have e1:(nv (.tsl (some 9) [])).plain=true:=by rw[hnv];rfl
  have e2:(nv (.tsl (some 9) [])).shp=some 4:=by rw[hnv];rfl
  simp[zcM,e1,e2,zcT,hm]
 have hpr:∀x0 x1 x2 x3 x4:AObj,S 34 [.slv (some 4) 5 d.procs.length 0 d.procs.length,.pv none (.int .i64 i),.slv (some 4) m 1 0 1] (x0::x1::x2::x3::x4::.arv (some 4) (elsA d.procs 11 d.procs.length)::(cEs d.procs 11++[.arv (some 4) [nv (.tsl (some 9) [])]]))=some (.ret (.slv (some 4) 5 (d.procs.length+1) 0 (d.procs.length+1)),x0::x1::x2::x3::x4::.arv (some 4) (el (nv (.tsl (some 9) [])))::(cEs d.procs 11++[.arv (some 4) [nv (.tsl (some 9) [])]])):=fun x0 x1 x2 x3 x4=>by
  rw[S,zfT (F:=find tab) (prim:=prim) (p:=zcG (some 4)) rfl]
  have hg:(x0::x1::x2::x3::x4::AObj.arv (some 4) (elsA d.procs 11 d.procs.length)::(cEs d.procs 11++[.arv (some 4) [nv (.tsl (some 9) [])]]))[m]? =some (.arv (some 4) [nv (.tsl (some 9) [])]):=by
   rw[hm]
   show(cEs d.procs 11++[.arv (some 4) [nv (.tsl (some 9) [])]])[(cEs d.procs 11).length]? =_
   simp
  have hne:5≠m:=by omega
  have hrf:∀n,zfo n 5 (elsA d.procs 11 d.procs.length) [nv (.tsl (some 9) [])]=true:=fun n=>by
   rw[hnv]
   simp[zfo,AV.refsIn.gol,AV.refsIn,AV.refsIn.go]
  have hlm:d.procs.length+1<=lim:=by unfold lim;omega
  have hii:(i:Int)<=(d.procs.length:Int):=by omega
  rw[hel]
  simp[zcG,hg,zaL,hne,hrf,hlm,hii]
 have hcn:∀(x0 x1 x2 x3 x4 x5:AObj),S 35 [.tsl (some 9) [],.pv none (.int .i64 0),.tsl (some 9) [(Sto.mk d.next c).pv]] (x0::x1::x2::x3::x4::x5::(cEs d.procs 11++[.arv (some 4) [nv (.tsl (some 9) [])]]))=some (.ret (.sl (some 9) (m+1) 1 0 1),x0::x1::x2::x3::x4::x5::(cEs d.procs 11++[.arv (some 4) [nv (.tsl (some 9) [])],.arr (some 9) [(Sto.mk d.next c).pv] false])):=fun x0 x1 x2 x3 x4 x5=>by
  rw[zrU]
  have e:(x0::x1::x2::x3::x4::x5::(cEs d.procs 11++[AObj.arv (some 4) [nv (.tsl (some 9) [])]])).length=m+1:=by
   simp[hm]
  rw[e]
  simp
 obtain⟨d0,hd0⟩:∃d0:AV,d0=.agg [(none,.pv none (.int .i64 d.next)),(none,.slv (some 4) 5 (d.procs.length+1) 0 (d.procs.length+1))]:=⟨_,rfl⟩
 obtain⟨dN,hdN⟩:∃dN:AV,dN=.agg [(none,.pv none (.int .i64 (d.next+1))),(none,.slv (some 4) 5 (d.procs.length+1) 0 (d.procs.length+1))]:=⟨_,rfl⟩
 have hsf:∀(x0 x1:AObj) (X:Heap),zap none 0 (x0::x1::.box (some 2) (dA d 5)::X) [.ptr 2 1,.slv (some 4) 5 (d.procs.length+1) 0 (d.procs.length+1)]=some (.undef,x0::x1::.box (some 2) d0::X):=fun x0 x1 X=>by
  have e:AV.upd deep (dA d 5) 1 none (.slv (some 4) 5 (d.procs.length+1) 0 (d.procs.length+1))=some d0:=by rw[hd0];rfl
  simp[zap,astore,e,AV.plain,AV.shp,AV.own]
 have hpt1:AV.part deep d0 1 none=some (.slv (some 4) 5 (d.procs.length+1) 0 (d.procs.length+1)):=by rw[hd0];rfl
 have hpt0:AV.part deep d0 0 none=some (.pv none (.int .i64 d.next)):=by rw[hd0];rfl
 have hia:zaW (some 4) [.slv (some 4) 5 (d.procs.length+1) 0 (d.procs.length+1),.pv none (.int .i64 i)]=some (.epv (some 4) 5 (d.procs.length+1) i 0):=by
  have:(i:Int)<(d.procs.length:Int)+1:=by omega
  simp[zaW,aindex,this]
 have hfa:zcL 3 [.epv (some 4) 5 (d.procs.length+1) i 0]=some (.epv (some 4) 5 (d.procs.length+1) i 3):=rfl
 have hnc:zb1 [.epv (some 4) 5 (d.procs.length+1) i 0]=some (.epv (some 4) 5 (d.procs.length+1) i 0):=rfl
 have hld:∀(x0 x1 x2 x3 x4:AObj) (X:Heap),aload none (x0::x1::x2::x3::x4::.arv (some 4) (el (nv (.tsl (some 9) [])))::X) (.epv (some 4) 5 (d.procs.length+1) i 3)=some (.tsl (some 9) []):=fun x0 x1 x2 x3 x4 X=>by
  have e:AV.part deep (nv (.tsl (some 9) [])) 3 none=some (.tsl (some 9) []):=by rw[hnv];rfl
  simp[aload,hell,heli,e]
 have hse:∀(x0 x1 x2 x3 x4:AObj) (X:Heap),zap none 0 (x0::x1::x2::x3::x4::.arv (some 4) (el (nv (.tsl (some 9) [])))::X) [.epv (some 4) 5 (d.procs.length+1) i 3,.sl (some 9) (m+1) 1 0 1]=some (.undef,x0::x1::x2::x3::x4::.arv (some 4) (el (nv (.sl (some 9) (m+1) 1 0 1)))::X):=fun x0 x1 x2 x3 x4 X=>by
  have e:AV.upd deep (nv (.tsl (some 9) [])) 3 none (.sl (some 9) (m+1) 1 0 1)=some (nv (.sl (some 9) (m+1) 1 0 1)):=by rw[hnv];rfl
  simp[zap,astore,hell,heli,e,hels,AV.plain,AV.shp]
 have hw1:IntKind.i64.wrap (d.next+1)=d.next+1:=by
  rw[zaN (by omega) (by omega)]
 have hsg:∀(x0 x1:AObj) (X:Heap),zap none 0 (x0::x1::.box (some 2) d0::X) [.ptr 2 0,.pv none (.int .i64 (d.next+1))]=some (.undef,x0::x1::.box (some 2) dN::X):=fun x0 x1 X=>by
  have e:AV.upd deep d0 0 none (.pv none (.int .i64 (d.next+1)))=some dN:=by rw[hdN,hd0];rfl
  simp[zap,astore,e,AV.plain,AV.shp,AV.own]
 have hs2:∀(x0 x1:AObj) (X:Heap),zap (some 2) 0 (x0::x1::.box (some 2) dN::X) [.ptr 2 0,dN]=some (.undef,x0::x1::.box (some 2) dN::X):=fun x0 x1 X=>by
  rw[hdN]
  simp[zap,astore,AV.plain,AV.shp,AV.own,zai,za3,total,Sh.size]
 have hr:∀(x0 x1:AObj) (X:Heap),zaO ⟨[(8,.ptr 2 0),(9,.pv none (.int .i64 0))],x0::x1::.box (some 2) dN::X⟩ (8,some (some 2))=some dN:=fun x0 x1 X=>by
  simp[zaO,Fr.look,aload]
 have fin:∀(x0 x1 x2 x3 x4:AObj),DbA ⟨d.next+1,d.procs.take i++(⟨s,a,dy,[⟨d.next,c⟩]⟩:Prc)::d.procs.drop i⟩ dN (x0::x1::x2::x3::x4::.arv (some 4) (el (nv (.sl (some 9) (m+1) 1 0 1)))::(cEs d.procs 11++[.arv (some 4) [nv (.tsl (some 9) [])],.arr (some 9) [(Sto.mk d.next c).pv] false])):=fun x0 x1 x2 x3 x4=>by
  have hpl:(d.procs.take i++(⟨s,a,dy,[⟨d.next,c⟩]⟩:Prc)::d.procs.drop i).length=d.procs.length+1:=by simp;omega
  refine⟨5,d.procs.length+1,el (nv (.sl (some 9) (m+1) 1 0 1)),d.procs.take i++(⟨s,a,dy,[⟨d.next,c⟩]⟩:Prc)::d.procs.drop i,?_,rfl,hell _,by rw[hpl];omega,hpl,List.take_length,fun j q v hq hv2=> ?_⟩
  ·rw[hdN,hpl]
  ·have hE:∀(k:Nat) (x:Prc),d.procs[k]? =some x->ElP x (pA x (11+6*k)) (x0::x1::x2::x3::x4::AObj.arv (some 4) (el (nv (.sl (some 9) (m+1) 1 0 1)))::(cEs d.procs 11++[.arv (some 4) [nv (.tsl (some 9) [])],.arr (some 9) [(Sto.mk d.next c).pv] false])):=fun k x hx=>by
    refine .inr ⟨_,rfl,.inr ⟨11+6*k,x.cls.length,Sto.pvs x.cls,false,rfl,?_,Sto.pvs_len _,Nat.le_refl _,List.take_of_length_le (by rw[Sto.pvs_len];exact Nat.le_refl _)⟩⟩
    rw[show 11+6*k=(6*k+5)+1+1+1+1+1+1 by omega]
    simp only[List.getElem?_cons_succ]
    have hg:=zdL d.procs 11 k x hx
    rw[List.getElem?_append_left (List.getElem?_eq_some_iff.1 hg).1,hg]
   have hlp:(d.procs.take i).length=i:=by rw[List.length_take];omega
   have hv3:((elsA d.procs 11 d.procs.length).take i++nv (.sl (some 9) (m+1) 1 0 1)::(elsA d.procs 11 d.procs.length).drop i)[j]? =some v:=by
    rw[hel] at hv2
    exact hv2
   rcases Nat.lt_trichotomy j i with k|k|k
   ·rw[List.getElem?_append_left (by omega),List.getElem?_take,if_pos k] at hq hv3
    rw[zbZ hq] at hv3
    cases hv3
    exact hE j q hq
   ·subst k
    rw[List.getElem?_append_right (by omega),hlp,Nat.sub_self] at hq
    rw[List.getElem?_append_right (by omega),hli,Nat.sub_self] at hv3
    cases hq
    cases hv3
    rw[hnv]
    refine .inr ⟨.sl (some 9) (m+1) 1 0 1,rfl,.inr ⟨m+1,1,[(Sto.mk d.next c).pv],false,rfl,?_,rfl,Nat.le_refl _,rfl⟩⟩
    rw[hm,show(cEs d.procs 11).length+6+1=((cEs d.procs 11).length+1)+1+1+1+1+1+1 by omega]
    simp only[List.getElem?_cons_succ]
    rw[List.getElem?_append_right (by omega),Nat.add_sub_cancel_left]
    rfl
   ·rw[List.getElem?_append_right (by omega),hlp,show j - i=(j - i - 1)+1 by omega,List.getElem?_cons_succ,List.getElem?_drop] at hq
    rw[List.getElem?_append_right (by omega),hli,show j - i=(j - i - 1)+1 by omega,List.getElem?_cons_succ,List.getElem?_drop] at hv3
    rw[zbZ hq] at hv3
    cases hv3
    exact hE _ q hq
 have hfr:∀(d':Dbs) (H:Heap),DbA d' dN H->Am.frozen (.tuple [d'.av,.pv none (.int .i64 0)]) (.tuple [dN,.pv none (.int .i64 0)]) H:=fun d' H hD=>by
  obtain⟨H',hz⟩:=hD.frz
  have e3:∀X,AV.freeze deep (.pv none (.int .i64 0)) X=some (.int .i64 0,X):=fun _=>rfl
  have hsh:dN.shp=some 2:=by rw[hdN];rfl
  refine⟨H',?_⟩
  simp only[AV.freezeRes,zaq,hz,e3,hsh]
  rfl
 clear hm
 obtain⟨⟨hk,hi',hna,has⟩,bd⟩:=c
 have hpn:PV.part deep (Cz.pv ⟨⟨hk,hi',hna,has⟩,bd⟩) 2 none=some (.str hna):=rfl
 have hpa:PV.part deep (Cz.pv ⟨⟨hk,hi',hna,has⟩,bd⟩) 3 none=some (.sl (some 4) (Tm.pvs has)):=rfl
 have ea:(Tm.mk hk hi' hna has).args=has:=rfl
 have en:(Tm.mk hk hi' hna has).name=hna:=rfl
 rw[en] at hs
 rw[ea] at ha
 subst hs
 subst ha
 have hz:((([]:List PV).length:Nat):Int)=0:=rfl
 cases fr with
 |true=>
  simp -dsimp -implicitDefEqProofs only[hpn,hpa,Tm.pvs_len,g11,c11r0,c11r1,c11r2,c11k3,c11r4,c11r5,c11r6,c11k7,c11r8,c11r9,c11r10,c11k11,c11r12,c11r13,c11r14,c11r15,c11k16,c11r17,c11r18,c11r19,c11,go_sem,seval,↓reduceIte,Dbs.av,Cz.av,zaB,zat,Prc.pvs_len,h1,h2,h3,h4,h6,h7,hbs,ht',hx',hl',hnil,hst,hpt,hpt0,hpt1,hbu,op_bslov,hbv,hpr,hsf,hia,hfa,hnc,hld,hz,hcn,hse,hw1,hsg,hs2,hr,List.append_assoc,zae,zaa,zaf,zab,Nat.add_assoc,List.length_append]
  have hF:=hfr _ _ (fin (.box (some 2) (.pv (some 2) d.pv)) (.box (some 8) (.pv (some 8) (Cz.pv ⟨⟨hk,hi',s,has⟩,bd⟩))) (.box (some 2) dN) (.box (some 2) (dA d 5)) (.box (some 2) (dA d 5)))
  simp only[zaZ,Dbs.av] at hF
  exact hF
 |false=>
  simp -dsimp -implicitDefEqProofs only[hpn,hpa,Tm.pvs_len,g11,c11r0,c11r1,c11r2,c11k3,c11r4,c11r5,c11r6,c11k7,c11r8,c11r9,c11r10,c11k11,c11r12,c11r13,c11r14,c11r15,c11k16,c11r17,c11r18,c11r19,c11,go_sem,seval,↓reduceIte,Dbs.av,Cz.av,zaB,zat,Prc.pvs_len,h1,h2,h3,h4,h6,h7,hbs,ht',hx',hl',hnil,hst,hpt,hpt0,hpt1,hbu,op_bslov,hbv,hpr,hsf,hia,hfa,hnc,hld,hz,hcn,hse,hw1,hsg,hs2,hr,List.append_assoc,zae,zaa,zaf,zab,Nat.add_assoc,List.length_append]
  have hF:=hfr _ _ (fin (.box (some 2) (.pv (some 2) d.pv)) (.box (some 8) (.pv (some 8) (Cz.pv ⟨⟨hk,hi',s,has⟩,bd⟩))) (.box (some 2) dN) (.box (some 2) (dA d 5)) (.box (some 2) (dA d 5)))
  simp only[zaZ,Dbs.av] at hF
  exact hF
def addR(d:Dbs)(c:Cz)(fr dy:Bool):Dbs × Int:=
 if okD d=false\/okC c=false then(zDb,1)
 else if totD d.procs=500\/d.next=4294967296 then(zDb,13)
 else match fnD d.procs (keyP c.head.name c.head.args.length),d.procs[lbD d.procs (keyP c.head.name c.head.args.length)]? with
 |true,some p=>(⟨d.next+1,d.procs.set (lbD d.procs (keyP c.head.name c.head.args.length)) ⟨p.name,p.ar,p.dyn,insC fr ⟨d.next,c⟩ p.cls⟩⟩,0)
 |_,_=>if d.procs.length=500 then(zDb,13)
  else(⟨d.next+1,d.procs.take (lbD d.procs (keyP c.head.name c.head.args.length))++(⟨c.head.name,c.head.args.length,dy,[⟨d.next,c⟩]⟩:Prc)::d.procs.drop (lbD d.procs (keyP c.head.name c.head.args.length))⟩,0)
theorem zrA(d:Dbs)(hb:BndD d)(c:Cz)(z1:c.head.size<100000000)(z2:c.body.size<100000000)(fr dy:Bool)(hp:Heap):S 11 [d.av,c.av,.pv none (.bool fr),.pv none (.bool dy)] hp=some (.ret (.tuple [(addR d c fr dy).1.av,.pv none (.int .i64 (addR d c fr dy).2)]),hp):=by
 by_cases h:okD d=false\/okC c=false
 ·rw[zrS d hb c z1 z2 fr dy h hp]
  simp only[addR,if_pos h]
 ·have hv:okD d=true:=by cases e:okD d with|true=>rfl|false=>exact absurd (Or.inl e) h
  have hn:okC c=true:=by cases e:okC c with|true=>rfl|false=>exact absurd (Or.inr e) h
  by_cases ht:totD d.procs=500
  ·rw[zp0 d hb c z1 z2 fr dy hv hn ht hp]
   simp only[addR,if_neg h,if_pos (Or.inl ht:totD d.procs=500\/d.next=4294967296)]
  ·by_cases hx:d.next=4294967296
   ·rw[zrV d hb c z1 z2 fr dy hv hn ht hx hp]
    simp only[addR,if_neg h,if_pos (Or.inr hx:totD d.procs=500\/d.next=4294967296)]
   ·have h0:¬(totD d.procs=500\/d.next=4294967296):=by
     rintro(k|k)
     ·exact ht k
     ·exact hx k
    cases hf:fnD d.procs (keyP c.head.name c.head.args.length) with
    |true=>
     obtain⟨p,hpp⟩:=zeX hf
     rw[znt d hb c z1 z2 fr dy hv hn ht hx hf p _ rfl hpp hp]
     simp only[addR,if_neg h,if_neg h0,hf,hpp]
    |false=>
     by_cases hl:d.procs.length=500
     ·rw[zpZ d hb c z1 z2 fr dy hv hn ht hx hf hl hp]
      simp only[addR,if_neg h,if_neg h0,hf,if_pos hl]
     ·rw[zrW d hb c z1 z2 fr dy hv hn ht hx hl _ _ rfl rfl hf _ rfl hp]
      simp only[addR,if_neg h,if_neg h0,hf,if_neg hl]
def cutC(p:Prc)(k:Nat):Prc:=⟨p.name,p.ar,p.dyn,p.cls.take k++p.cls.drop (k+1)⟩
def eraR(d:Dbs)(id:Int):Dbs × Bool:=
 if okD d=false then(zDb,false)
 else match whR d.procs id with
 |none=>(zDb,false)
 |some x=>(⟨d.next,d.procs.modify x.1 fun p=>cutC p x.2⟩,true)
theorem zns{α:Type}{l:List α}{i:Nat}{x:α}(h:l[i]? =some x)(f:α->α):l.modify i f=l.set i (f x):=by
 refine List.ext_getElem? fun j=> ?_
 rw[List.getElem?_modify,List.getElem?_set]
 by_cases e:i=j
 ·subst e
  obtain⟨h1,h2⟩:=List.getElem?_eq_some_iff.1 h
  simp[h1,h2]
 ·simp[e]
theorem zp1(d:Dbs)(hb:BndD d)(id:Int)(hp:Heap):S 12 [d.av,.pv none (.int .i64 id)] hp=some (.ret (.tuple [(eraR d id).1.av,.pv none (.bool (eraR d id).2)]),hp):=by
 cases hv:okD d with
 |false=>
  rw[zl7 d hb id (.inl hv) hp]
  simp only[eraR,if_pos hv]
 |true=>
  cases hw:whR d.procs id with
  |none=>
   rw[zl7 d hb id (.inr hw) hp]
   simp[eraR,hw]
  |some x=>
   obtain⟨i,k⟩:=x
   obtain⟨p,s,hpp,hs,_⟩:=zpL hw
   rw[zrq d hb id hv i k hw p hpp (List.getElem?_eq_some_iff.1 hs).1 hp]
   have e:eraR d id=(⟨d.next,d.procs.set i (cutC p k)⟩,true):=by
    simp only[eraR,hv,hw]
    rw[zns hpp]
    rfl
   rw[e]
   rfl
def ids(l:List Prc):List Int:=l.flatMap fun p=>p.cls.map (·.id)
theorem zpO(A B:List Prc):ids (A++B)=ids A++ids B:=by simp[ids]
theorem zd2(p:Prc)(B:List Prc):ids (p::B)=p.cls.map (·.id)++ids B:=by simp[ids]
theorem mem_ids{l:List Prc}{x:Int}:x∈ids l↔∃p∈l,∃s∈p.cls,s.id=x:=by simp[ids]
def okS(next:Int)(p:Prc)(s:Sto):Prop:=1<=s.id/\s.id<next/\okC s.cl=true/\s.cl.head.name=p.name/\(s.cl.head.args.length:Int)=p.ar
theorem zl8(next:Int)(p:Prc)(seen:List Int)(s:Sto):okSt next p seen s=true↔s.id ∉ seen/\okS next p s:=by
 unfold okSt okS
 simp only[Bool.and_eq_true,decide_eq_true_eq]
 constructor
 ·rintro⟨a,b,c,d,e,f⟩
  exact⟨c,a,b,d,e,f⟩
 ·rintro⟨c,a,b,d,e,f⟩
  exact⟨a,b,c,d,e,f⟩
theorem zin(next:Int)(p:Prc):∀(l:List Sto) (seen s':List Int),okSs next p seen l=some s'↔s'=seen++l.map (·.id)/\(l.map (·.id)).Nodup/\(∀x∈l,x.id ∉ seen)/\∀s∈l,okS next p s
 |[],seen,s'=>by simp[okSs,eq_comm]
 |s::r,seen,s'=>by
  rw[okSs]
  by_cases h:okSt next p seen s=true
  ·rw[if_pos h,zin next p r]
   obtain⟨h1,h2⟩:=(zl8 ..).1 h
   constructor
   ·rintro⟨rfl,g1,g2,g3⟩
    refine⟨by simp,List.nodup_cons.2 ⟨fun hm=> ?_,g1⟩,fun x hx=> ?_,fun x hx=> ?_⟩
    ·obtain⟨u,hu,e⟩:=List.mem_map.1 hm
     exact g2 u hu (by rw[e];simp)
    ·rcases List.mem_cons.1 hx with rfl|hx
     ·exact h1
     ·exact fun hm=>g2 x hx (by simp[hm])
    ·rcases List.mem_cons.1 hx with rfl|hx
     ·exact h2
     ·exact g3 x hx
   ·rintro⟨rfl,g1,g2,g3⟩
    obtain⟨k1,k2⟩:=List.nodup_cons.1 g1
    refine⟨by simp,k2,fun x hx hm=> ?_,fun x hx=>g3 x (List.mem_cons_of_mem _ hx)⟩
    rcases List.mem_append.1 hm with hm|hm
    ·exact g2 x (List.mem_cons_of_mem _ hx) hm
    ·exact k1 (List.mem_map.2 ⟨x,hx,by simpa using hm⟩)
  ·rw[if_neg h]
   constructor
   ·intro hh
    cases hh
   ·rintro⟨_,_,g2,g3⟩
    exact absurd ((zl8 ..).2 ⟨g2 s List.mem_cons_self,g3 s List.mem_cons_self⟩) h
def OkP(next:Int)(l:List Prc):Prop:=(∀p∈l,namB p=true)/\l.Pairwise (fun a b=>ordP a b<0)/\(ids l).Nodup/\∀p∈l,∀s∈p.cls,okS next p s
theorem zpP(next:Int):∀(l:List Prc) (q:Option Prc) (seen:List Int),okPs next q seen l=true->OkP next l/\(∀p,l.head? =some p->preB q p=true)/\∀x∈ids l,x ∉ seen
 |[],q,seen,_=>⟨⟨fun p h=>(by cases h),List.Pairwise.nil,List.nodup_nil,fun p h=>(by cases h)⟩,fun p h=>(by cases h),fun x h=>(by cases h)⟩
 |x::r,q,seen,h=>by
  rw[okPs,Bool.and_eq_true,Bool.and_eq_true] at h
  obtain⟨h1,h2,h3⟩:=h
  split at h3
  ·cases h3
  ·rename_i s' hs
   obtain⟨rfl,e2,e3,e4⟩:=(zin ..).1 hs
   obtain⟨⟨g1,g2,g3,g4⟩,g5,g6⟩:=zpP next r (some x) _ h3
   have hx:∀b∈r,ordP x b<0:=by
    intro b hb
    cases r with
    |nil=>cases hb
    |cons y r'=>
     have h0:ordP x y<0:=of_decide_eq_true (g5 y rfl)
     rcases List.mem_cons.1 hb with rfl|hb
     ·exact h0
     ·exact zfm h0 ((List.pairwise_cons.1 g2).1 b hb)
   refine⟨⟨fun p hp=> ?_,List.pairwise_cons.2 ⟨hx,g2⟩,?_,fun p hp=> ?_⟩,fun p hp=>by cases hp;exact h2,fun y hy=> ?_⟩
   ·rcases List.mem_cons.1 hp with rfl|hp
    ·exact h1
    ·exact g1 p hp
   ·rw[zd2,List.nodup_append]
    refine⟨e2,g3,fun a ha b hb e=> ?_⟩
    subst e
    exact g6 a hb (List.mem_append_right _ ha)
   ·rcases List.mem_cons.1 hp with rfl|hp
    ·exact e4
    ·exact g4 p hp
   ·rw[zd2] at hy
    rcases List.mem_append.1 hy with hy|hy
    ·obtain⟨u,hu,rfl⟩:=List.mem_map.1 hy
     exact e3 u hu
    ·exact fun hm=>g6 y hy (List.mem_append_left _ hm)
theorem zl9(next:Int):∀(l:List Prc) (q:Option Prc) (seen:List Int),OkP next l->(∀p,l.head? =some p->preB q p=true)->(∀x∈ids l,x ∉ seen)->okPs next q seen l=true
 |[],q,seen,_,_,_=>rfl
 |x::r,q,seen,⟨h1,h2,h3,h4⟩,h5,h6=>by
  rw[okPs,h1 x List.mem_cons_self,h5 x rfl]
  rw[zd2,List.nodup_append] at h3
  obtain⟨k1,k2⟩:=List.pairwise_cons.1 h2
  have hs:okSs next x seen x.cls=some (seen++x.cls.map (·.id)):=(zin ..).2 ⟨rfl,h3.1,fun u hu=>h6 u.id (by rw[zd2];exact List.mem_append_left _ (List.mem_map.2 ⟨u,hu,rfl⟩)),h4 x List.mem_cons_self⟩
  rw[hs]
  simp only[Bool.true_and]
  refine zl9 next r (some x) _ ⟨fun p hp=>h1 p (List.mem_cons_of_mem _ hp),k2,h3.2.1,fun p hp=>h4 p (List.mem_cons_of_mem _ hp)⟩ (fun p hp=> ?_) fun y hy hm=> ?_
  ·exact decide_eq_true (k1 p (List.mem_of_mem_head? (by rw[hp];rfl)))
  ·rcases List.mem_append.1 hm with hm|hm
   ·exact h6 y (by rw[zd2];exact List.mem_append_right _ hy) hm
   ·exact h3.2.2 y hm y hy rfl
theorem zej(d:Dbs):okD d=true↔1<=d.next/\d.next<=4294967296/\d.procs.length<=500/\totD d.procs<=500/\OkP d.next d.procs:=by
 simp only[okD,Bool.and_eq_true,decide_eq_true_eq]
 constructor
 ·rintro⟨a,b,c,e,f⟩
  exact⟨a,b,c,e,(zpP _ _ _ _ f).1⟩
 ·rintro⟨a,b,c,e,f⟩
  exact⟨a,b,c,e,zl9 _ _ _ _ f (fun _ _=>rfl) fun _ _ h=>by cases h⟩
theorem OkP.mono{n n':Int}{l:List Prc}(h:OkP n l)(hn:n<=n'):OkP n' l:=⟨h.1,h.2.1,h.2.2.1,fun p hp s hs=>by
 obtain⟨a,b,c⟩:=h.2.2.2 p hp s hs
 exact⟨a,by omega,c⟩⟩
theorem zio(next:Int)(A B:List Prc)(q:Prc):OkP next (A++q::B)↔OkP next (A++B)/\namB q=true/\(∀a∈A,ordP a q<0)/\(∀b∈B,ordP q b<0)/\(q.cls.map (·.id)).Nodup/\(∀s∈q.cls,s.id ∉ ids (A++B))/\∀s∈q.cls,okS next q s:=by
 have hperm:(ids (A++q::B)).Perm (q.cls.map (·.id)++ids (A++B)):=by
  rw[zpO,zd2,zpO,<-List.append_assoc,<-List.append_assoc]
  exact List.Perm.append_right _ List.perm_append_comm
 unfold OkP
 rw[hperm.nodup_iff,List.nodup_append,List.pairwise_append,List.pairwise_append,List.pairwise_cons]
 constructor
 ·rintro⟨h1,⟨h2,⟨h3,h4⟩,h5⟩,⟨h6,h7,h8⟩,h9⟩
  have hs:∀p,p∈A++B->p∈A++q::B:=fun p hp=>by
   rcases List.mem_append.1 hp with hp|hp
   ·exact List.mem_append_left _ hp
   ·exact List.mem_append_right _ (List.mem_cons_of_mem _ hp)
  have hq:q∈A++q::B:=List.mem_append_right _ List.mem_cons_self
  exact⟨⟨fun p hp=>h1 p (hs p hp),⟨h2,h4,fun a ha b hb=>h5 a ha b (List.mem_cons_of_mem _ hb)⟩,h7,fun p hp=>h9 p (hs p hp)⟩,h1 q hq,fun a ha=>h5 a ha q List.mem_cons_self,h3,h6,fun s hs' hm=>h8 s.id (List.mem_map.2 ⟨s,hs',rfl⟩) s.id hm rfl,h9 q hq⟩
 ·rintro⟨⟨h1,⟨h2,h4,h5⟩,h7,h9⟩,g1,g2,g3,g4,g5,g6⟩
  have hc:∀p,p∈A++q::B->p=q\/p∈A++B:=fun p hp=>by
   rcases List.mem_append.1 hp with hp|hp
   ·exact .inr (List.mem_append_left _ hp)
   ·rcases List.mem_cons.1 hp with hp|hp
    ·exact .inl hp
    ·exact .inr (List.mem_append_right _ hp)
  refine⟨fun p hp=> ?_,⟨h2,⟨g3,h4⟩,fun a ha b hb=> ?_⟩,⟨g4,h7,fun a ha b hb e=> ?_⟩,fun p hp=> ?_⟩
  ·rcases hc p hp with rfl|hp
   ·exact g1
   ·exact h1 p hp
  ·rcases List.mem_cons.1 hb with rfl|hb
   ·exact g2 a ha
   ·exact h5 a ha b hb
  ·subst e
   obtain⟨u,hu,rfl⟩:=List.mem_map.1 ha
   exact g5 u hu hb
  ·rcases hc p hp with rfl|hp
   ·exact g6
   ·exact h9 p hp
theorem zeZ{p q p' q':Prc}(h1:p.name=p'.name)(h2:p.ar=p'.ar)(h3:q.name=q'.name)(h4:q.ar=q'.ar):ordP p q=ordP p' q':=by
 unfold ordP
 rw[h1,h2,h3,h4]
theorem zrQ:∀a b:List UInt8,Op.bytesLess a b=false->a≠b->Op.bytesLess b a=true
 |[],[],_,h=>absurd rfl h
 |[],_::_,h,_=>by simp[Op.bytesLess] at h
 |_::_,[],_,_=>rfl
 |x::a,y::b,h,hne=>by
  simp only[Op.bytesLess,Bool.or_eq_false_iff,Bool.and_eq_false_iff,Bool.or_eq_true,Bool.and_eq_true,decide_eq_true_eq,decide_eq_false_iff_not,beq_iff_eq,beq_eq_false_iff_ne] at h ⊢
  obtain⟨h1,h2⟩:=h
  by_cases e:x=y
  ·subst e
   rcases h2 with h2|h2
   ·exact absurd rfl h2
   ·exact .inr ⟨rfl,zrQ a b h2 fun e=>hne (by rw[e])⟩
  ·left
   rw[UInt8.lt_iff_toNat_lt] at*
   have:x.toNat≠y.toNat:=fun h=>e (UInt8.toNat_inj.1 h)
   omega
theorem zpQ{p q:Prc}(h1:¬ordP p q<0)(h2:ordP p q≠0):ordP q p<0:=by
 rw[zlV] at h1 ⊢
 rw[Ne,ordP_zero] at h2
 by_cases e:p.name=q.name
 ·right
  refine⟨e.symm,?_⟩
  have a:¬p.ar<q.ar:=fun h=>h1 (.inr ⟨e,h⟩)
  have b:p.ar≠q.ar:=fun h=>h2 ⟨e,h⟩
  omega
 ·left
  refine zrQ _ _ ?_ e
  cases h:Op.bytesLess p.name q.name with
  |false=>rfl
  |true=>exact absurd (.inl h) h1
theorem zpR{l:List Prc}(h:l.Pairwise (fun a b=>ordP a b<0)):IncP l:=fun i j a b hij ha hb=>by
 obtain⟨h1,e1⟩:=List.getElem?_eq_some_iff.1 ha
 obtain⟨h2,e2⟩:=List.getElem?_eq_some_iff.1 hb
 rw[<-e1,<-e2]
 exact List.pairwise_iff_getElem.1 h i j h1 h2 hij
theorem zsL{l:List Prc}(k:Prc)(h:l.Pairwise (fun a b=>ordP a b<0)):(∀a∈l.take (lbD l k),ordP a k<0)/\∀b∈l.drop (lbD l k),¬ordP b k<0:=by
 have hi:=zpR h
 constructor
 ·intro a ha
  obtain⟨j,hj⟩:=List.mem_iff_getElem?.1 ha
  rw[List.getElem?_take] at hj
  split at hj
  ·rename_i hlt
   exact(zd1 hi hj).2 hlt
  ·cases hj
 ·intro b hb
  obtain⟨j,hj⟩:=List.mem_iff_getElem?.1 hb
  rw[List.getElem?_drop] at hj
  intro hlt
  have:=(zd1 hi hj).1 hlt
  omega
theorem zla{l:List Prc}(k:Prc)(h:l.Pairwise (fun a b=>ordP a b<0)):fnD l k=true↔∃p∈l,ordP p k=0:=by
 have hi:=zpR h
 constructor
 ·intro hf
  obtain⟨p,hp⟩:=zeX hf
  refine⟨p,List.mem_of_getElem? hp,?_⟩
  unfold fnD at hf
  rw[hp] at hf
  exact of_decide_eq_true hf
 ·rintro⟨p,hp,e⟩
  obtain⟨j,hj⟩:=List.mem_iff_getElem?.1 hp
  have h1:¬j<lbD l k:=fun hlt=>by
   have:=(zd1 hi hj).2 hlt
   omega
  have h2:¬lbD l k<j:=fun hlt=>by
   have hl:lbD l k<l.length:=by
    have:=(List.getElem?_eq_some_iff.1 hj).1
    omega
   have hx:=hi _ j _ p hlt (List.getElem?_eq_getElem hl) hj
   have hz:=ordP_zero.1 e
   have hx':ordP l[lbD l k] k<0:=by
    rw[<-zeZ rfl rfl hz.1 hz.2]
    exact hx
   have:=(zd1 hi (List.getElem?_eq_getElem hl)).1 hx'
   omega
  have e3:j=lbD l k:=by omega
  subst e3
  unfold fnD
  rw[hj]
  exact decide_eq_true e
theorem zlb{l:List Prc}{k p:Prc}(h:l.Pairwise (fun a b=>ordP a b<0))(hp:p∈l)(e:ordP p k=0):l[lbD l k]? =some p:=by
 have hi:=zpR h
 have hf:=(zla k h).2 ⟨p,hp,e⟩
 obtain⟨q,hq⟩:=zeX hf
 have e2:ordP q k=0:=by
  unfold fnD at hf
  rw[hq] at hf
  exact of_decide_eq_true hf
 obtain⟨j,hj⟩:=List.mem_iff_getElem?.1 hp
 have z1:=ordP_zero.1 e
 have z2:=ordP_zero.1 e2
 have e0:ordP p q=0:=ordP_zero.2 ⟨z1.1.trans z2.1.symm,z1.2.trans z2.2.symm⟩
 have e1:ordP q p=0:=ordP_zero.2 ⟨z2.1.trans z1.1.symm,z2.2.trans z1.2.symm⟩
 rcases Nat.lt_trichotomy j (lbD l k) with hlt|hlt|hlt
 ·have:=hi _ _ _ _ hlt hj hq
  omega
 ·rw[<-hlt,hj]
 ·have:=hi _ _ _ _ hlt hq hj
  omega
theorem zcY{d:Dbs}(hv:okD d=true)(s:List UInt8)(a:Int)(p:Prc):zb6 d s a=some p↔p∈d.procs/\p.name=s/\p.ar=a:=by
 have hpw:=((zej d).1 hv).2.2.2.2.2.1
 unfold zb6
 rw[if_pos hv]
 constructor
 ·intro h
  split at h
  ·rename_i hf
   refine⟨List.mem_of_getElem? h,?_⟩
   unfold fnD at hf
   rw[h] at hf
   exact ordP_zero.1 (of_decide_eq_true hf)
  ·cases h
 ·rintro⟨h1,h2,h3⟩
  have e:ordP p (keyP s a)=0:=ordP_zero.2 ⟨h2,h3⟩
  rw[if_pos ((zla _ hpw).2 ⟨p,h1,e⟩)]
  exact zlb hpw h1 e
theorem zgD{d:Dbs}(hv:okD d=true):BndD d:=by
 have h:=(zej d).1 hv
 refine⟨by omega,by omega,fun p hp s hs=> ?_⟩
 obtain⟨vh,vb⟩:=zeW hv p hp s hs
 have h1:=zbG vh
 have h2:=zbG vb
 omega
theorem ztY:BndD zDb:=⟨by decide,by decide,fun p hp=>by cases hp⟩
theorem zpS{α:Type}{l:List α}{i:Nat}{x:α}(h:l[i]? =some x):l=l.take i++x::l.drop (i+1):=by
 rw[<-zfV h,List.take_append_drop]
theorem zpT{α:Type}{l:List α}{i:Nat}{x:α}(h:l[i]? =some x)(y:α):l.set i y=l.take i++y::l.drop (i+1):=by
 have hi:=(List.getElem?_eq_some_iff.1 h).1
 rw[List.set_eq_take_append_cons_drop,if_pos hi]
theorem zfW(A B:List Prc):totD (A++B)=totD A+totD B:=by simp[totD]
theorem zgE(p:Prc)(B:List Prc):totD (p::B)=p.cls.length+totD B:=by simp[totD]
theorem zrs{l:List Prc}{i:Nat}{p:Prc}(h:l[i]? =some p)(q:Prc):totD (l.set i q)+p.cls.length=totD l+q.cls.length:=by
 have e:totD l=totD (l.take i++p::l.drop (i+1)):=by rw[<-zpS h]
 rw[zpT h,e,zfW,zfW,zgE,zgE]
 omega
theorem zek{l:List Prc}{i:Nat}{p:Prc}(h:l[i]? =some p)(q x:Prc):x∈l.set i q↔x=q\/x∈l.take i++l.drop (i+1):=by
 rw[zpT h]
 simp only[List.mem_append,List.mem_cons]
 constructor
 ·rintro(h|h|h)
  ·exact .inr (.inl h)
  ·exact .inl h
  ·exact .inr (.inr h)
 ·rintro(h|h|h)
  ·exact .inr (.inl h)
  ·exact .inl h
  ·exact .inr (.inr h)
theorem zgF{l:List Prc}{i:Nat}{p:Prc}(h:l[i]? =some p)(x:Prc):x∈l↔x=p\/x∈l.take i++l.drop (i+1):=by
 have e:=zek h p x
 rw[zl1 h] at e
 exact e
theorem zsM{l m:List Prc}(h:∀x∈l,x∈m){y:Int}(hy:y∈ids l):y∈ids m:=by
 obtain⟨p,hp,s,hs,e⟩:=mem_ids.1 hy
 exact mem_ids.2 ⟨p,h p hp,s,hs,e⟩
theorem zsN{n:Int}{p q:Prc}{s:Sto}(h:okS n p s)(h1:p.name=q.name)(h2:p.ar=q.ar):okS n q s:=by
 obtain⟨a,b,c,d,e⟩:=h
 exact⟨a,b,c,by rw[d,h1],by rw[e,h2]⟩
theorem ztw{n n':Int}{l:List Prc}{i:Nat}{p q:Prc}(h:OkP n l)(hp:l[i]? =some p)(hn:q.name=p.name)(ha:q.ar=p.ar)(hle:n<=n')(hnd:(q.cls.map (·.id)).Nodup)(hfr:∀s∈q.cls,s∈p.cls\/s.id ∉ ids l)(hok:∀s∈q.cls,okS n' q s):OkP n' (l.set i q):=by
 rw[zpT hp]
 rw[zpS hp] at h
 obtain⟨g1,g2,g3,g4,g5,g6,g7⟩:=(zio ..).1 h
 refine(zio ..).2 ⟨g1.mono hle,?_,fun a ha'=> ?_,fun b hb=> ?_,hnd,fun s hs=> ?_,hok⟩
 ·unfold namB at g2 ⊢
  rw[hn,ha]
  exact g2
 ·rw[zeZ rfl rfl hn ha]
  exact g3 a ha'
 ·rw[zeZ hn ha rfl rfl]
  exact g4 b hb
 ·rcases hfr s hs with hc|hc
  ·exact g6 s hc
  ·exact fun hm=>hc (zsM (fun x hx=>(zgF hp x).2 (.inr hx)) hm)
theorem ztx{n n':Int}{l:List Prc}{q:Prc}(h:OkP n l)(hf:fnD l (keyP q.name q.ar)=false)(hnm:namB q=true)(hle:n<=n')(hnd:(q.cls.map (·.id)).Nodup)(hfr:∀s∈q.cls,s.id ∉ ids l)(hok:∀s∈q.cls,okS n' q s):OkP n' (l.take (lbD l (keyP q.name q.ar))++q::l.drop (lbD l (keyP q.name q.ar))):=by
 obtain⟨c1,c2⟩:=zsL (keyP q.name q.ar) h.2.1
 have ht:l.take (lbD l (keyP q.name q.ar))++l.drop (lbD l (keyP q.name q.ar))=l:=List.take_append_drop _ _
 refine(zio ..).2 ⟨by rw[ht];exact h.mono hle,hnm,fun a ha=> ?_,fun b hb=> ?_,hnd,fun s hs=>by rw[ht];exact hfr s hs,hok⟩
 ·rw[zeZ (q:=q) (q':=keyP q.name q.ar) rfl rfl rfl rfl]
  exact c1 a ha
 ·rw[zeZ (p:=q) (p':=keyP q.name q.ar) rfl rfl rfl rfl]
  refine zpQ (c2 b hb) fun e=> ?_
  rw[(zla _ h.2.1).2 ⟨b,List.mem_of_mem_drop hb,e⟩] at hf
  cases hf
def ApR(d n:Dbs)(s:List UInt8)(a:Int):Prop:=∀p∈d.procs,¬(p.name=s/\p.ar=a)->zb6 n p.name p.ar=some p
theorem zrR{d n:Dbs}{s:List UInt8}{a:Int}(hn:okD n=true)(h:∀p∈d.procs,¬(p.name=s/\p.ar=a)->p∈n.procs):ApR d n s a:=fun p hp hk=>(zcY hn _ _ _).2 ⟨h p hp hk,rfl,rfl⟩
theorem zrt{d:Dbs}(hv:okD d=true){s:List UInt8}{a:Int}(hf:fnD d.procs (keyP s a)=true):∃p,d.procs[lbD d.procs (keyP s a)]? =some p/\p.name=s/\p.ar=a/\zb6 d s a=some p:=by
 obtain⟨p,hpp⟩:=zeX hf
 have e:zb6 d s a=some p:=by
  unfold zb6
  rw[if_pos hv,if_pos hf,hpp]
 exact⟨p,hpp,((zcY hv ..).1 e).2.1,((zcY hv ..).1 e).2.2,e⟩
theorem zty{d:Dbs}{s:List UInt8}{a:Int}(hf:fnD d.procs (keyP s a)=false):zb6 d s a=none:=by
 unfold zb6
 rw[hf]
 simp
theorem zht{d:Dbs}{s:List UInt8}{a:Int}{b:Bool}(h:(zcc d s a b).2=0):okD d=true/\okD (zcc d s a b).1=true/\(zcc d s a b).1.next=d.next/\zb6 (zcc d s a b).1 s a=some ⟨s,a,((zb6 d s a).getD zP).dyn || b,((zb6 d s a).getD zP).cls⟩/\ApR d (zcc d s a b).1 s a:=by
 by_cases hbad:okD d=false\/namB (keyP s a)=false
 ·simp only[zcc,if_pos hbad] at h
  cases h
 have hv:okD d=true:=by cases e:okD d with|true=>rfl|false=>exact absurd (Or.inl e) hbad
 have hnm:namB (keyP s a)=true:=by cases e:namB (keyP s a) with|true=>rfl|false=>exact absurd (Or.inr e) hbad
 obtain⟨d1,d2,d3,d4,d5⟩:=(zej d).1 hv
 cases hf:fnD d.procs (keyP s a) with
 |true=>
  obtain⟨p,hpp,rfl,rfl,hfd⟩:=zrt hv hf
  have e:zcc d p.name p.ar b=(⟨d.next,d.procs.set (lbD d.procs (keyP p.name p.ar)) (dynP p b)⟩,0):=by simp only[zcc,if_neg hbad,hf,hpp]
  rw[e,hfd]
  have hok:okD ⟨d.next,d.procs.set (lbD d.procs (keyP p.name p.ar)) (dynP p b)⟩=true:=by
   have ht:=zrs hpp (dynP p b)
   have hq:(dynP p b).cls=p.cls:=rfl
   rw[hq] at ht
   have hpm:=List.mem_of_getElem? hpp
   have d5':=d5
   rw[zpS hpp] at d5'
   refine(zej _).2 ⟨d1,d2,by simpa using d3,by show totD (d.procs.set _ _)<=500;omega,ztw d5 hpp rfl rfl (Int.le_refl _) ((zio ..).1 d5').2.2.2.2.1 (fun s hs=>.inl hs) fun s hs=>zsN (d5.2.2.2 p hpm s hs) rfl rfl⟩
  refine⟨hv,hok,rfl,(zcY hok ..).2 ⟨(zek hpp _ _).2 (.inl rfl),rfl,rfl⟩,zrR hok fun q hq hk=> ?_⟩
  refine(zek hpp _ _).2 (.inr ?_)
  rcases(zgF hpp q).1 hq with rfl|hq
  ·exact absurd ⟨rfl,rfl⟩ hk
  ·exact hq
 |false=>
  by_cases hl:d.procs.length=500
  ·simp only[zcc,if_neg hbad,hf,if_pos hl] at h
   cases h
  have e:zcc d s a b=(⟨d.next,d.procs.take (lbD d.procs (keyP s a))++(⟨s,a,b,[]⟩:Prc)::d.procs.drop (lbD d.procs (keyP s a))⟩,0):=by simp only[zcc,if_neg hbad,hf,if_neg hl]
  rw[e,zty hf]
  have hok:okD ⟨d.next,d.procs.take (lbD d.procs (keyP s a))++(⟨s,a,b,[]⟩:Prc)::d.procs.drop (lbD d.procs (keyP s a))⟩=true:=by
   have hlb:=zlW d.procs (keyP s a)
   refine(zej _).2 ⟨d1,d2,?_,?_,ztx (q:=⟨s,a,b,[]⟩) d5 hf hnm (Int.le_refl _) List.nodup_nil (fun s hs=>by cases hs) fun s hs=>by cases hs⟩
   ·simp
    omega
   ·have ht:totD d.procs=totD (d.procs.take (lbD d.procs (keyP s a))++d.procs.drop (lbD d.procs (keyP s a))):=by rw[List.take_append_drop]
    rw[zfW] at ht
    show totD (_++_::_)<=500
    rw[zfW,zgE]
    simp
    omega
  refine⟨hv,hok,rfl,(zcY hok ..).2 ⟨List.mem_append_right _ List.mem_cons_self,rfl,rfl⟩,zrR hok fun q hq hk=> ?_⟩
  show q∈_++_::_
  rw[<-List.take_append_drop (lbD d.procs (keyP s a)) d.procs] at hq
  rcases List.mem_append.1 hq with hq|hq
  ·exact List.mem_append_left _ hq
  ·exact List.mem_append_right _ (List.mem_cons_of_mem _ hq)
theorem zjT(d:Dbs)(s:List UInt8)(a:Int)(b:Bool):(zcc d s a b).2=0\/(zcc d s a b).2=1\/(zcc d s a b).2=13:=by
 unfold zcc
 split
 ·exact .inr (.inl rfl)
 ·split
  ·exact .inl rfl
  ·split
   ·exact .inr (.inr rfl)
   ·exact .inl rfl
theorem zpU(d:Dbs)(s:List UInt8)(a:Int)(b:Bool):BndD (zcc d s a b).1:=by
 rcases zjT d s a b with h|h
 ·exact zgD (zht h).2.1
 ·have e:(zcc d s a b).1=zDb:=by
   unfold zcc at h ⊢
   split
   ·rfl
   ·split
    ·rename_i h1 _ _ _ h2 h3
     rw[if_neg h1] at h
     simp only[h2,h3] at h
     rcases h with h|h <;> cases h
    ·split
     ·rfl
     ·rename_i h1 _ _ h2 h3
      rw[if_neg h1] at h
      exfalso
      split at h
      ·rcases h with h|h <;> cases h
      ·rw[if_neg h3] at h
       rcases h with h|h <;> cases h
  rw[e]
  exact ztY
def ztX:List UInt8:=[116,114,117,101]
def zcK(n:List UInt8):Cz:=⟨⟨2,0,n,[]⟩,⟨2,0,ztX,[]⟩⟩
theorem zsK(n:List UInt8)(hp:Heap):S 10 [.pv none (.str n)] hp=some (.ret (zcK n).av,hp):=by
 refine zal rfl rfl rfl (zac [(none,.str n)]) rfl ?_
 have b1:zaQ [(none,.pv none (.int .i64 0)),(none,.pv none (.int .i64 0)),(none,.pv none (.str [])),(none,.tsl (some 4) [])] [0,2] [.pv none (.int .i64 2),.pv none (.str n)]=some (.agg [(none,.pv none (.int .i64 2)),(none,.pv none (.int .i64 0)),(none,.pv none (.str n)),(none,.tsl (some 4) [])]):=rfl
 have b2:zaQ [(none,.pv none (.int .i64 0)),(none,.pv none (.int .i64 0)),(none,.pv none (.str [])),(none,.tsl (some 4) [])] [0,2] [.pv none (.int .i64 2),.pv none (.str [116,114,117,101])]=some (.agg [(none,.pv none (.int .i64 2)),(none,.pv none (.int .i64 0)),(none,.pv none (.str [116,114,117,101])),(none,.tsl (some 4) [])]):=rfl
 have b3:zaQ [(some 4,.agg [(none,.pv none (.int .i64 0)),(none,.pv none (.int .i64 0)),(none,.pv none (.str [])),(none,.tsl (some 4) [])]),(some 4,.agg [(none,.pv none (.int .i64 0)),(none,.pv none (.int .i64 0)),(none,.pv none (.str [])),(none,.tsl (some 4) [])])] [0,1] [.agg [(none,.pv none (.int .i64 2)),(none,.pv none (.int .i64 0)),(none,.pv none (.str n)),(none,.tsl (some 4) [])],.agg [(none,.pv none (.int .i64 2)),(none,.pv none (.int .i64 0)),(none,.pv none (.str [116,114,117,101])),(none,.tsl (some 4) [])]]=some (.agg [(some 4,.agg [(none,.pv none (.int .i64 2)),(none,.pv none (.int .i64 0)),(none,.pv none (.str n)),(none,.tsl (some 4) [])]),(some 4,.agg [(none,.pv none (.int .i64 2)),(none,.pv none (.int .i64 0)),(none,.pv none (.str [116,114,117,101])),(none,.tsl (some 4) [])])]):=rfl
 simp -dsimp -implicitDefEqProofs only[go_sem,seval,↓reduceIte,b1,b2,b3,zad (Nat.zero_le _),List.append_assoc,zae,zaa,zaf,zab,Nat.add_assoc,List.length_append]
 try exact⟨_,rfl⟩
def aN:List UInt8:=[97]
def d1E:Dbs:=⟨2,[⟨aN,0,false,[⟨1,zcK aN⟩]⟩]⟩
def d2E:Dbs:=⟨3,[⟨aN,0,false,[⟨2,zcK aN⟩,⟨1,zcK aN⟩]⟩]⟩
def d3E:Dbs:=⟨3,[⟨aN,0,false,[⟨2,zcK aN⟩]⟩]⟩
theorem k1:okD nilD=true:=by decide+kernel
theorem k2:okD d1E=true:=by decide+kernel
theorem k3:okD d2E=true:=by decide+kernel
theorem a1E:addR nilD (zcK aN) false false=(d1E,0):=by kernel_rfl
theorem a2E:addR d1E (zcK aN) true true=(d2E,0):=by kernel_rfl
theorem f2E:zb6 d2E aN 0=some ⟨aN,0,false,[⟨2,zcK aN⟩,⟨1,zcK aN⟩]⟩:=by kernel_rfl
theorem e2E:eraR d2E 1=(d3E,true):=by kernel_rfl
theorem k4:okD d3E=true:=by decide+kernel
theorem znp(s s':Sh)(p q:PV)(H:Heap):(AV.tuple [.pv s p,.pv s' q]).alone H=some (.tuple [.pv s p,.pv s' q]):=rfl
set_option maxRecDepth 20000 in
theorem zjR:S 9 [] []=some (.ret (.pv none (.bool true)),[]):=by
 refine zal (ps:=[]) rfl rfl rfl rfl rfl ?_
 have z1:(zcK aN).head.size<100000000:=by decide+kernel
 have z2:(zcK aN).body.size<100000000:=by decide+kernel
 have h1:=fun hp=>ztq hp
 have h2:=fun hp=>zsK aN hp
 have h3:=fun hp=>zrA nilD (zgD k1) (zcK aN) z1 z2 false false hp
 rw[a1E] at h3
 have h4:=fun hp=>zrA d1E (zgD k2) (zcK aN) z1 z2 true true hp
 rw[a2E] at h4
 have h5:=fun hp=>zik d2E (zgD k3) aN 0 hp
 rw[f2E] at h5
 have h6:=fun hp=>zp1 d2E (zgD k3) 1 hp
 rw[e2E] at h6
 have h7:=fun hp=>zlY d2E (zgD k3) hp
 have h8:=fun hp=>zlY d3E (zgD k4) hp
 rw[k3] at h7
 rw[k4] at h8
 have t2:((totD d2E.procs:Nat):Int)=2:=rfl
 have t3:((totD d3E.procs:Nat):Int)=1:=rfl
 rw[if_pos rfl,t2] at h7
 rw[if_pos rfl,t3] at h8
 obtain⟨P,hP⟩:∃P:Prc,P=⟨aN,0,false,[⟨2,zcK aN⟩,⟨1,zcK aN⟩]⟩:=⟨_,rfl⟩
 rw[<-hP] at h5
 have p1:PV.part deep P.pv 2 none=some (.bool false):=by rw[hP];rfl
 have p2:PV.part deep P.pv 3 none=some (.sl (some 9) [(Sto.mk 2 (zcK aN)).pv,(Sto.mk 1 (zcK aN)).pv]):=by rw[hP];rfl
 have p3:PV.part deep d3E.pv 0 none=some (.int .i64 3):=rfl
 have hnil:∀H:Heap,zai [(none,.nilv (some 4))] H=([(none,.nilv (some 4))],H):=fun _=>rfl
 have hi0:zaW (some 9) [.pv none (.sl (some 9) [(Sto.mk 2 (zcK aN)).pv,(Sto.mk 1 (zcK aN)).pv]),.pv none (.int .i64 0)]=some (.iptr (some 9) (Sto.mk 2 (zcK aN)).pv 0):=rfl
 have p4:PV.part deep (Sto.mk 2 (zcK aN)).pv 0 none=some (.int .i64 2):=rfl
 simp only[Dbs.av,Cz.av,Prc.av,aN,Option.getD_some,Option.isSome_some] at h1 h2 h3 h4 h5 h6 h7 h8
 simp only[aN] at p2 hi0 p4
 simp -dsimp -implicitDefEqProofs only[go_sem,seval,↓reduceIte,h1,h2,h3,h4,h5,h6,h7,h8,p1,p2,p3,p4,hi0,hnil,znp,zad (Nat.zero_le _),List.append_assoc,zae,zaa,zaf,zab,Nat.add_assoc,List.length_append]
 try rfl
theorem znq(hp:Heap):S 9 [] hp=some (.ret (.pv none (.bool true)),hp):=zpk (F:=find tab) (prim:=prim) (f:=9) (args:=[]) (ps:=[]) (hp:=hp) (hp1:=hp) rfl rfl rfl rfl zjR
theorem ztz{d n:Dbs}(hv:okD d=true)(hbn:BndD n){s:List UInt8}{a:Int}(h:ApR d n s a)(hp:Heap):S 18 [d.av,n.av,.pv none (.str s),.pv none (.int .i64 a)] hp=some (.ret (.pv none (.bool true)),hp):=by
 obtain⟨_,_,d3,d4,_⟩:=(zej d).1 hv
 exact zro d n hbn s a (by omega) (fun p hp=>⟨by have:=zby hp;omega,zeW hv p hp⟩) h hp
theorem zrp{d:Dbs}(hv:okD d=true)(s:List UInt8)(a:Int):okCl ((zb6 d s a).getD zP)/\((zb6 d s a).getD zP).cls.length<=500:=by
 cases e:zb6 d s a with
 |none=>exact⟨fun x hx=>(by cases hx),Nat.zero_le _⟩
 |some p=>
  have hp:=((zcY hv ..).1 e).1
  refine⟨zeW hv p hp,?_⟩
  have h1:=zby hp
  have h2:=((zej d).1 hv).2.2.2.1
  show p.cls.length<=500
  omega
set_option maxRecDepth 20000 in
theorem zjP(d:Dbs)(hb:BndD d)(s:List UInt8)(a:Int)(b:Bool):S 5 [d.av,.pv none (.str s),.pv none (.int .i64 a),.pv none (.bool b)] []=some (.ret (.pv none (.bool true)),[]):=by
 refine zal rfl rfl rfl (zac [(some 2,d.pv),(none,.str s),(none,.int .i64 a),(none,.bool b)]) rfl ?_
 have hex:=fun hp=>znq hp
 have hnil:∀H:Heap,zai [(none,.nilv (some 4))] H=([(none,.nilv (some 4))],H):=fun _=>rfl
 have h1:=fun hp=>zno d hb s a b hp
 have hsp:=zht (d:=d) (s:=s) (a:=a) (b:=b)
 have hbn:=zpU d s a b
 have her:=zjT d s a b
 generalize zcc d s a b=R at*
 obtain⟨n,e⟩:=R
 dsimp only at h1 hsp hbn her
 rcases her with rfl|rfl|rfl
 rotate_left
 ·simp only[Dbs.av] at h1
  simp -dsimp -implicitDefEqProofs only[go_sem,seval,↓reduceIte,Dbs.av,h1,hex,hnil,zad (Nat.zero_le _),List.append_assoc,zae,zaa,zaf,zab,Nat.add_assoc,List.length_append]
  try rfl
 ·simp only[Dbs.av] at h1
  simp -dsimp -implicitDefEqProofs only[go_sem,seval,↓reduceIte,Dbs.av,h1,hex,hnil,zad (Nat.zero_le _),List.append_assoc,zae,zaa,zaf,zab,Nat.add_assoc,List.length_append]
  try rfl
 obtain⟨hv,hok,hnx,hfn,hap⟩:=hsp rfl
 obtain⟨hwc,hwl⟩:=zrp hv s a
 have f1:=fun hp=>zik d hb s a hp
 have f2:=fun hp=>zik n hbn s a hp
 have f3:=fun hp=>ztz hv hbn hap hp
 rw[hfn] at f2
 generalize (zb6 d s a).isSome=z at f1
 generalize (zb6 d s a).getD zP=w at hwc hwl f1 f2
 clear hfn hap hsp
 simp only[Option.getD_some,Option.isSome_some] at f2
 obtain⟨N,hN⟩:∃N:Prc,N=⟨s,a,w.dyn || b,w.cls⟩:=⟨_,rfl⟩
 rw[<-hN] at f2
 have p1:PV.part deep N.pv 2 none=some (.bool (w.dyn || b)):=by rw[hN];rfl
 have p2:PV.part deep N.pv 3 none=some (.sl (some 9) (Sto.pvs w.cls)):=by rw[hN];rfl
 have p3:=zpB w
 have p4:PV.part deep n.pv 0 none=some (.int .i64 d.next):=by rw[zaB,hnx]
 clear hN hnx
 simp only[Dbs.av,Prc.av] at h1 f1 f2 f3
 have hd:w.dyn=true\/w.dyn=false:=by cases w.dyn <;> simp
 rcases hd with hd|hd <;> cases b
 all_goals rw[hd] at p1 p3
 all_goals simp -dsimp -implicitDefEqProofs only[go_sem,seval,↓reduceIte,Dbs.av,h1,f1,f2,p1,p2,p3,p4,zbU,zaB,Sto.pvs_len,Bool.true_or,Bool.false_or,beq_self_eq_true,hnil,zad (Nat.zero_le _),List.append_assoc,zae,zaa,zaf,zab,Nat.add_assoc,List.length_append]
 all_goals
  refine zdG (α:=Unit) w.cls.length (fun _ _=>True) (fun i _=>⟨[(1,.pv none (.str s)),(2,.pv none (.int .i64 a)),(4,.ptr 0 0),(9,.ptr 1 0),(11,.ptr 2 0),(13,.ptr 4 0),(15,.pv none (.int .i64 i))],[.box (some 2) (.pv (some 2) d.pv),.box (some 2) (.pv (some 2) n.pv),.box (some 4) (.pv (some 4) w.pv),.arr (some 9) [] false,.box (some 4) (.pv (some 4) N.pv),.arr (some 9) [] false]⟩) () ⟨trivial,rfl⟩ ?_ ?_
  ·rintro i - h -
   have hcc:(i:Int)<(w.cls.length:Int):=by omega
   have w1:IntKind.i64.wrap ((i:Int)+1)=((i+1:Nat):Int):=by rw[zaN (by omega) (by omega)];omega
   obtain⟨x,hx⟩:∃x,w.cls[i]? =some x:=⟨_,List.getElem?_eq_getElem h⟩
   obtain⟨vh,vb⟩:=hwc x (List.mem_of_getElem? hx)
   have h3:=fun hp=>zhr x vh vb hp
   simp only[Sto.av] at h3
   simp -dsimp -implicitDefEqProofs only[go_sem,seval,↓reduceIte,hcc,w1,p2,zbU,Sto.pvs_len,zaj (Sto.pvs_get hx),h3,List.append_assoc,zae,zaa,zaf,zab,Nat.add_assoc,List.length_append]
   exact⟨(),rfl⟩
  ·rintro - -
   have hcc:¬(w.cls.length:Int)<(w.cls.length:Int):=by omega
   simp -dsimp -implicitDefEqProofs only[go_sem,seval,↓reduceIte,hcc,zbU,Sto.pvs_len,f3,hex,List.append_assoc,zae,zaa,zaf,zab,Nat.add_assoc,List.length_append]
   try rfl
end Go.Proofs.Ytligpohiokpnhaa
namespace Go.Proofs.Ytligpohiokpnhaa
open Go.Am Go.ChangeShapes Go.WideShapes Go.ChangeAt Go.RowKit
theorem zpv(H:Type):BulkLaws (H:=H) Rows.uptoBulk Rows.uptoBulkAll where
 nil:=by simp[Rows.uptoBulkAll]
 cons d r:=by simp[Rows.uptoBulkAll]
 slice e s:=by simp[Rows.uptoBulk]
 agg l:=by simp[Rows.uptoBulk]
 string l:=by simp[Rows.uptoBulk]
theorem znl{H:Type}{l:List (DataW H)}(hk:Rows.uptoSmall H l=true):Rows.uptoBulkAll l<=1048576:=of_decide_eq_true hk
def zlQ(P:Program)(tA tT:TypeId):Bool:=
 (match P.underlying tA with|some (.slice t)=>t == tT|_=>false) &&
 (match P.underlying tT with
  |some (.struct fs)=>match fs.toList.map (·.type) with
   |[a,b,c,d]=>d == tA && (match P.underlying a with|some (.int .i64)=>true|_=>false) && (match P.underlying b with|some (.int .i64)=>true|_=>false) && (match P.underlying c with|some .string=>true|_=>false) && decide (shOf P a=none) && decide (shOf P b=none) && decide (shOf P c=none)
   |_=>false
  |_=>false) && decide (shOf P tT=some 4) && decide (shOf P tA=none)
theorem zk3{P:Program}{tA tT:TypeId}(h:zlQ P tA tT=true):TermTy P tA tT:=by
 unfold zlQ at h
 simp only[Bool.and_eq_true,decide_eq_true_eq] at h
 obtain⟨⟨⟨h1,h2⟩,h3⟩,h4⟩:=h
 refine⟨?_,?_⟩
 ·split at h1
  ·rename_i t ht;rw[ht];simp at h1;rw[h1]
  ·cases h1
 ·split at h2
  ·rename_i fs hfs
   split at h2
   ·rename_i a b c d hl
    simp only[Bool.and_eq_true,decide_eq_true_eq,beq_iff_eq] at h2
    obtain⟨⟨⟨⟨⟨⟨k1,k2⟩,k3⟩,k4⟩,k5⟩,k6⟩,k7⟩:=h2
    subst k1
    refine⟨fs,a,b,c,hfs,hl,?_,?_,?_,h3,h4,k5,k6,k7⟩
    ·split at k2
     ·assumption
     ·cases k2
    ·split at k3
     ·assumption
     ·cases k3
    ·split at k4
     ·assumption
     ·cases k4
   ·cases h2
  ·cases h2
theorem zrN:TermTy Try.prog 22 24:=zk3 (by kernel_rfl)
def zpw:List TypeId:=[2,3,4,5,9,22,24,26,37,32,34,29,31,62,57]
theorem closed:zlI Try.prog zpw=true:=by kernel_rfl
end Go.Proofs.Ytligpohiokpnhaa
namespace Go.Proofs.Ytligpohiokpnhaa
open Go.Am Go.ChangeShapes Go.WideShapes Go.ChangeAt Go.RowKit
theorem znm(H:Type):BulkLaws2 (H:=H) Rows.uptoBulk Rows.uptoBulkAll:=
 ⟨zpv H,fun d=>by
  cases d with
  |lit l=>cases l <;> simp[Rows.uptoBulk]
  |_=>simp[Rows.uptoBulk]⟩
set_option maxRecDepth 100000 in
theorem zfU{H:Type}{enc:TypeId × Value->H}{W:World}{base:Nat}{v:Value}{d:DataW H}{ps:List MemPlace}{t:TypeId}(ht:t∈zpw)(hok:okT Try.prog t=true)(h:DataW.Trod enc Try.prog W 0 (fun _=>true) true t v d ps)(hv:Value.okWide Try.prog W .any base t v):
  ∃n p,AR W (noX (P:=Try.prog)) noμ [] (.pv (shOf Try.prog t) p) v/\wt Try.prog n t p/\p.sz<=Rows.uptoBulk d:=by
 obtain⟨fuel,h0⟩:=h
 obtain⟨p,hp⟩:=zpl closed fuel _ _ _ _ ht h0
 obtain⟨h1,h2⟩:=zpm (znm H) fuel _ _ _ hp
 exact⟨fuel,p,ztj ⟨fuel,h0⟩ hok hp (znj hv),h1,h2⟩
end Go.Proofs.Ytligpohiokpnhaa
namespace Go.Proofs.Ytligpohiokpnhaa
open Go.Am Go.ChangeShapes Go.WideShapes Go.ChangeAt Go.RowKit
theorem zpx{n:Nat}{p:PV}(h:wt Try.prog n 26 p):∃x:Cz,p=x.pv:=by
 obtain⟨m,l,rfl,h'⟩:=zeT (ts:=[24,24]) (by kernel_rfl) h
 obtain⟨a,l,rfl,ha,h⟩:=za4 h'
 obtain⟨b,l,rfl,hb,h⟩:=za4 h
 obtain rfl:=zd0 h
 obtain⟨x,rfl,_⟩:=(zk1 zrN m).1 a ha
 obtain⟨y,rfl,_⟩:=(zk1 zrN m).1 b hb
 refine⟨⟨x,y⟩,?_⟩
 rw[show shOf Try.prog 24=some 4 from by kernel_rfl]
 rfl
theorem zpy{n:Nat}{p:PV}(h:wt Try.prog n 37 p):∃x:Sto,p=x.pv:=by
 obtain⟨m,l,rfl,h'⟩:=zeT (ts:=[2,26]) (by kernel_rfl) h
 obtain⟨a,l,rfl,ha,h⟩:=za4 h'
 obtain⟨b,l,rfl,hb,h⟩:=za4 h
 obtain rfl:=zd0 h
 obtain⟨x,rfl,_⟩:=zlM (by kernel_rfl) ha
 obtain⟨y,rfl⟩:=zpx hb
 refine⟨⟨x,y⟩,?_⟩
 rw[show shOf Try.prog 2=none from by kernel_rfl,show shOf Try.prog 26=some 8 from by kernel_rfl]
 rfl
theorem zsD{n:Nat}{p:PV}(h:wt Try.prog n 34 p):∃x:Prc,p=x.pv:=by
 obtain⟨m,l,rfl,h'⟩:=zeT (ts:=[9,3,4,32]) (by kernel_rfl) h
 obtain⟨a,l,rfl,ha,h⟩:=za4 h'
 obtain⟨b,l,rfl,hb,h⟩:=za4 h
 obtain⟨c,l,rfl,hc,h⟩:=za4 h
 obtain⟨d,l,rfl,hd,h⟩:=za4 h
 obtain rfl:=zd0 h
 obtain⟨x,rfl⟩:=zrM (by kernel_rfl) ha
 obtain⟨y,rfl,_⟩:=zlM (by kernel_rfl) hb
 obtain⟨z,rfl⟩:=zpo (by kernel_rfl) hc
 obtain⟨k,es,rfl,he⟩:=zlN (e:=37) (by kernel_rfl) hd
 obtain⟨gs,rfl,_⟩:=zk2 (f:=Sto.pv) (Q:=fun _=>True) es fun x hx=>by
  obtain⟨g,rfl⟩:=zpy (he x hx)
  exact⟨g,rfl,trivial⟩
 refine⟨⟨x,y,z,gs⟩,?_⟩
 rw[show shOf Try.prog 9=none from by kernel_rfl,show shOf Try.prog 3=none from by kernel_rfl,show shOf Try.prog 4=none from by kernel_rfl,show shOf Try.prog 32=none from by kernel_rfl,show shOf Try.prog 37=some 9 from by kernel_rfl]
 rfl
theorem ztU{n:Nat}{p:PV}(h:wt Try.prog n 31 p):∃x:Dbs,p=x.pv:=by
 obtain⟨m,l,rfl,h'⟩:=zeT (ts:=[2,29]) (by kernel_rfl) h
 obtain⟨a,l,rfl,ha,h⟩:=za4 h'
 obtain⟨b,l,rfl,hb,h⟩:=za4 h
 obtain rfl:=zd0 h
 obtain⟨x,rfl,_⟩:=zlM (by kernel_rfl) ha
 obtain⟨k,es,rfl,he⟩:=zlN (e:=34) (by kernel_rfl) hb
 obtain⟨gs,rfl,_⟩:=zk2 (f:=Prc.pv) (Q:=fun _=>True) es fun x hx=>by
  obtain⟨g,rfl⟩:=zsD (he x hx)
  exact⟨g,rfl,trivial⟩
 refine⟨⟨x,gs⟩,?_⟩
 rw[show shOf Try.prog 2=none from by kernel_rfl,show shOf Try.prog 29=none from by kernel_rfl,show shOf Try.prog 34=some 4 from by kernel_rfl]
 rfl
theorem ztV(c:Cz):c.head.size<=c.pv.sz/\c.body.size<=c.pv.sz:=by
 have h1:=Tm.zug c.head
 have h2:=Tm.zug c.body
 simp[Cz.pv,PV.sz,PV.szc]
 omega
theorem zto(s:Sto):s.cl.pv.sz<=s.pv.sz:=by
 simp[Sto.pv,PV.sz,PV.szc]
 omega
theorem zk4:∀l:List Sto,l.length<=PV.szs (Sto.pvs l)/\∀s∈l,s.pv.sz<=PV.szs (Sto.pvs l)
 |[]=>⟨Nat.zero_le _,fun b hb=>by cases hb⟩
 |x::r=>by
  obtain⟨h1,h2⟩:=zk4 r
  have h4:PV.szs (Sto.pvs (x::r))=x.pv.sz+PV.szs (Sto.pvs r):=by simp[Sto.pvs,PV.szs]
  have h5:1<=x.pv.sz:=by simp[Sto.pv,PV.sz];try omega
  refine⟨by simp only[List.length_cons];omega,fun b hb=> ?_⟩
  rcases List.mem_cons.1 hb with rfl|hb
  ·omega
  ·have:=h2 b hb;omega
theorem zrO(p:Prc):PV.szs (Sto.pvs p.cls)+1<=p.pv.sz:=by
 simp[Prc.pv,PV.sz,PV.szc]
 omega
theorem zpz:∀l:List Prc,l.length<=PV.szs (Prc.pvs l)/\totD l<=PV.szs (Prc.pvs l)/\∀p∈l,p.pv.sz<=PV.szs (Prc.pvs l)
 |[]=>⟨Nat.zero_le _,Nat.zero_le _,fun b hb=>by cases hb⟩
 |x::r=>by
  obtain⟨h1,h2,h3⟩:=zpz r
  have h4:PV.szs (Prc.pvs (x::r))=x.pv.sz+PV.szs (Prc.pvs r):=by simp[Prc.pvs,PV.szs]
  have h5:=zrO x
  have h6:=(zk4 x.cls).1
  have h7:totD (x::r)=x.cls.length+totD r:=by simp[totD]
  refine⟨by simp only[List.length_cons];omega,by omega,fun b hb=> ?_⟩
  rcases List.mem_cons.1 hb with rfl|hb
  ·omega
  ·have:=h3 b hb;omega
theorem ztp{d:Dbs}(h:d.pv.sz<=1048576):BndD d:=by
 have h0:PV.szs (Prc.pvs d.procs)<=d.pv.sz:=by
  simp[Dbs.pv,PV.sz,PV.szc]
  omega
 obtain⟨h1,h2,h3⟩:=zpz d.procs
 refine⟨by omega,by omega,fun p hp s hs=> ?_⟩
 have g1:=h3 p hp
 have g2:=zrO p
 have g3:=(zk4 p.cls).2 s hs
 have g4:=zto s
 have g5:=ztV s.cl
 omega
set_option maxRecDepth 100000 in
theorem zsE{H:Type}{enc:TypeId × Value->H}{W:World}{base:Nat}{v:Value}{d:DataW H}{ps:List MemPlace}(h:DataW.Trod enc Try.prog W 0 (fun _=>true) true 31 v d ps)(hv:Value.okWide Try.prog W .any base 31 v):
  ∃f:Dbs,AR W (noX (P:=Try.prog)) noμ [] f.av v/\f.pv.sz<=Rows.uptoBulk d:=by
 obtain⟨n,p,h1,h2,h3⟩:=zfU (by decide) (by kernel_rfl) h hv
 obtain⟨f,rfl⟩:=ztU h2
 rw[show shOf Try.prog 31=some 2 from by kernel_rfl] at h1
 exact⟨f,h1,h3⟩
set_option maxRecDepth 100000 in
theorem zri{H:Type}{enc:TypeId × Value->H}{W:World}{base:Nat}{v:Value}{d:DataW H}{ps:List MemPlace}(h:DataW.Trod enc Try.prog W 0 (fun _=>true) true 3 v d ps)(hv:Value.okWide Try.prog W .any base 3 v):
  ∃x:Int,AR W (noX (P:=Try.prog)) noμ [] (.pv none (.int .i64 x)) v/\zk0 x:=by
 obtain⟨n,p,h1,h2,h3⟩:=zfU (by decide) (by kernel_rfl) h hv
 obtain⟨x,rfl,hx⟩:=zlM (by kernel_rfl) h2
 rw[show shOf Try.prog 3=none from by kernel_rfl] at h1
 exact⟨x,h1,hx⟩
set_option maxRecDepth 100000 in
theorem zrj{H:Type}{enc:TypeId × Value->H}{W:World}{base:Nat}{v:Value}{d:DataW H}{ps:List MemPlace}(h:DataW.Trod enc Try.prog W 0 (fun _=>true) true 9 v d ps)(hv:Value.okWide Try.prog W .any base 9 v):
  ∃x:List UInt8,AR W (noX (P:=Try.prog)) noμ [] (.pv none (.str x)) v/\True:=by
 obtain⟨n,p,h1,h2,h3⟩:=zfU (by decide) (by kernel_rfl) h hv
 obtain⟨x,rfl⟩:=zrM (by kernel_rfl) h2
 rw[show shOf Try.prog 9=none from by kernel_rfl] at h1
 exact⟨x,h1,trivial⟩
set_option maxRecDepth 100000 in
theorem zpA{H:Type}{enc:TypeId × Value->H}{W:World}{base:Nat}{v:Value}{d:DataW H}{ps:List MemPlace}(h:DataW.Trod enc Try.prog W 0 (fun _=>true) true 4 v d ps)(hv:Value.okWide Try.prog W .any base 4 v):
  ∃x:Bool,AR W (noX (P:=Try.prog)) noμ [] (.pv none (.bool x)) v/\True:=by
 obtain⟨n,p,h1,h2,h3⟩:=zfU (by decide) (by kernel_rfl) h hv
 obtain⟨x,rfl⟩:=zpo (by kernel_rfl) h2
 rw[show shOf Try.prog 4=none from by kernel_rfl] at h1
 exact⟨x,h1,trivial⟩
end Go.Proofs.Ytligpohiokpnhaa
