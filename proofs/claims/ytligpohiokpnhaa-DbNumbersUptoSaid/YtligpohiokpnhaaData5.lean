/- db.Add where the procedure exists. -/
import Derived.Test.YtligpohiokpnhaaAdc
import Derived.Test.YtligpohiokpnhaaCp
import Derived.Test.YtligpohiokpnhaaAm5
import Derived.Test.YtligpohiokpnhaaDb5
set_option linter.unusedSimpArgs false
set_option linter.unusedVariables false
namespace Go.Proofs.Ytligpohiokpnhaa
open Go.Am
def insC(fr:Bool)(s:Sto)(l:List Sto):List Sto:=if fr=true then s::l else l++[s]
theorem zlk(fr:Bool)(s:Sto)(l:List Sto):(insC fr s l).length=l.length+1:=by
 unfold insC
 split <;> simp
theorem insC_pvs(fr:Bool)(s:Sto)(l:List Sto):Sto.pvs (insC fr s l)=(Sto.pvs l).take (if fr=true then 0 else l.length)++s.pv::(Sto.pvs l).drop (if fr=true then 0 else l.length):=by
 unfold insC
 split
 ·simp[Sto.pvs]
 ·have h1:(Sto.pvs l).take l.length=Sto.pvs l:=List.take_of_length_le (by rw[Sto.pvs_len];exact Nat.le_refl _)
  have h2:(Sto.pvs l).drop l.length=[]:=List.drop_eq_nil_of_le (by rw[Sto.pvs_len];exact Nat.le_refl _)
  rw[h1,h2]
  simp[Sto.pvs]
set_option maxRecDepth 20000 in
theorem znK(d:Dbs)(hb:BndD d)(c:Cz)(z1:c.head.size<100000000)(z2:c.body.size<100000000)(fr dy:Bool)(hv:okD d=true)(hn:okC c=true)(ht:totD d.procs≠500)(hx:d.next≠4294967296)(hf:fnD d.procs (keyP c.head.name c.head.args.length)=true)(p:Prc)(i:Nat)(hi:i=lbD d.procs (keyP c.head.name c.head.args.length))(hpp:d.procs[i]? =some p)(hp:Heap):S 11 [d.av,c.av,.pv none (.bool fr),.pv none (.bool dy)] hp=some (.ret (.tuple [(⟨d.next+1,d.procs.set i ⟨p.name,p.ar,p.dyn,insC fr ⟨d.next,c⟩ p.cls⟩⟩:Dbs).av,.pv none (.int .i64 0)]),hp):=by
 refine zam rfl rfl rfl (zaf [(some 2,d.pv),(some 8,c.pv),(none,.bool fr),(none,.bool dy)]) rfl ?_
 have h1:=fun hp=>zaM d hb.1 hb.2.1 hb.2.2 hp
 have h2:=fun hp=>zb8 c z1 z2 hp
 have h3:∀hp,S 31 [d.av,.pv none (.str c.head.name),.pv none (.int .i64 c.head.args.length)] hp=some (.ret (.tuple [.pv none (.int .i64 (lbD d.procs (keyP c.head.name c.head.args.length):Int)),.pv none (.bool (fnD d.procs (keyP c.head.name c.head.args.length)))]),hp):=fun hp=>zbS d _ _ hb.1 (zcx hv) hp
 have hl5:1<=d.next/\d.next<=4294967296/\d.procs.length<=500/\totD d.procs<=500:=by
  simp only[okD,Bool.and_eq_true,decide_eq_true_eq] at hv
  exact⟨hv.1,hv.2.1,hv.2.2.1,hv.2.2.2.1⟩
 have h4:=fun hp=>zdq d (by omega) (by omega) hp
 have h6:∀x0 x1 x2:AObj,S 33 [d.av] [x0,x1,x2]=some (.ret (dA d 5),x0::x1::x2::.box (some 2) (dA d 5)::.box (some 2) (dA d 5)::.arv (some 4) (elsA d.procs 11 d.procs.length)::cEs d.procs 11):=fun x0 x1 x2=>zc0 d (by omega) (fun q hq=>⟨by have:=zbR hq;omega,ze4 hv q hq⟩) [x0,x1,x2]
 have hnil:∀H:Heap,zah [(none,.nilv (some 4))] H=([(none,.nilv (some 4))],H):=fun _=>rfl
 have hst:∀(x0 x1:AObj) (v:AV) (X:Heap),zan (some 2) 0 (x0::x1::.box (some 2) v::X) [.ptr 2 0,dA d 5]=some (.undef,x0::x1::.box (some 2) (dA d 5)::X):=fun x0 x1 v X=>by
  simp[zan,astore,dA,AV.plain,AV.shp,AV.own,zah,zaS,total,Sh.size]
 obtain⟨vh,vb⟩:=zij hn
 have h7:=fun hp=>ze3 ⟨d.next,c⟩ vh vb hp
 have hbs:zaN [(none,.pv none (.int .i64 0)),(some 8,.agg [(some 4,.agg [(none,.pv none (.int .i64 0)),(none,.pv none (.int .i64 0)),(none,.pv none (.str [])),(none,.tsl (some 4) [])]),(some 4,.agg [(none,.pv none (.int .i64 0)),(none,.pv none (.int .i64 0)),(none,.pv none (.str [])),(none,.tsl (some 4) [])])])] [0,1] [.pv none (.int .i64 d.next),.pv (some 8) c.pv]=some (.pv (some 9) (Sto.mk d.next c).pv):=rfl
 rw[hf,<-hi] at h3
 simp only[Dbs.av] at h1 h3 h4 h6
 simp only[Cz.av] at h2
 simp only[Sto.av] at h7
 rw[hv] at h1
 rw[hn] at h2
 have ht':((totD d.procs:Int)=500)=False:=eq_false (by omega)
 have hx':(d.next=4294967296)=False:=eq_false hx
 have hpm:=List.mem_of_getElem? hpp
 have hc5:p.cls.length<=500:=by have:=zbR hpm;omega
 have hil:=(List.getElem?_eq_some_iff.1 hpp).1
 have hge:=zbA (b:=11) hpp
 have hpt:AV.part deep (dA d 5) 1 none=some (.slv (some 4) 5 d.procs.length 0 d.procs.length):=rfl
 have hpt0:AV.part deep (dA d 5) 0 none=some (.pv none (.int .i64 d.next)):=rfl
 have hia:zaW (some 4) [.slv (some 4) 5 d.procs.length 0 d.procs.length,.pv none (.int .i64 i)]=some (.epv (some 4) 5 d.procs.length i 0):=by
  simp[zaW,aindex,hil]
 have hfa:zcQ 3 [.epv (some 4) 5 d.procs.length i 0]=some (.epv (some 4) 5 d.procs.length i 3):=rfl
 have hnc:zb3 [.epv (some 4) 5 d.procs.length i 0]=some (.epv (some 4) 5 d.procs.length i 0):=rfl
 obtain⟨q,hq⟩:∃q,q=11+6*i:=⟨_,rfl⟩
 rw[<-hq] at hge
 have hld:∀(x0 x1 x2 x3 x4:AObj) (X:Heap),aload none (x0::x1::x2::x3::x4::.arv (some 4) (elsA d.procs 11 d.procs.length)::X) (.epv (some 4) 5 d.procs.length i 3)=some (.sl (some 9) q p.cls.length 0 p.cls.length):=fun x0 x1 x2 x3 x4 X=>by
  have e:AV.part deep (pA p q) 3 none=some (.sl (some 9) q p.cls.length 0 p.cls.length):=rfl
  simp[aload,zaE,hge,e]
 obtain⟨ns,hns⟩:∃ns,ns=insC fr ⟨d.next,c⟩ p.cls:=⟨_,rfl⟩
 have hnl:ns.length=p.cls.length+1:=by rw[hns,zlk]
 have hnp:=insC_pvs fr ⟨d.next,c⟩ p.cls
 rw[<-hns] at hnp ⊢
 obtain⟨E,hE⟩:∃E,E=(cEs d.procs 11).set (6*i+5) (.arr (some 9) (Sto.pvs ns) false):=⟨_,rfl⟩
 have hcg:=zdr d.procs 11 i p hpp
 have h5:∀(a:Int),a=((if fr=true then 0 else p.cls.length:Nat):Int)->∀(x0 x1 x2 x3 x4 x5:AObj),S 35 [.sl (some 9) q p.cls.length 0 p.cls.length,.pv none (.int .i64 a),.tsl (some 9) [(Sto.mk d.next c).pv]] (x0::x1::x2::x3::x4::x5::cEs d.procs 11)=some (.ret (.sl (some 9) q (p.cls.length+1) 0 (p.cls.length+1)),x0::x1::x2::x3::x4::x5::E):=fun a ha x0 x1 x2 x3 x4 x5=>by
  rw[ha]
  have:=zr2 (x0::x1::x2::x3::x4::x5::cEs d.procs 11) q (Sto.pvs p.cls) (if fr=true then 0 else p.cls.length) p.cls.length (Sto.mk d.next c).pv (by split <;> omega) (Sto.pvs_len _) hc5 (by
   rw[hq,show 11+6*i=(6*i+5)+1+1+1+1+1+1 by omega]
   simp only[List.getElem?_cons_succ]
   exact hcg)
  rw[this,hE,hnp,hq,show 11+6*i=(6*i+5)+1+1+1+1+1+1 by omega]
  rfl
 obtain⟨pN,hpN⟩:∃pN:AV,pN=.agg [(none,.pv none (.str p.name)),(none,.pv none (.int .i64 p.ar)),(none,.pv none (.bool p.dyn)),(none,.sl (some 9) q (p.cls.length+1) 0 (p.cls.length+1))]:=⟨_,rfl⟩
 have hse:∀(x0 x1 x2 x3 x4:AObj) (X:Heap),zan none 0 (x0::x1::x2::x3::x4::.arv (some 4) (elsA d.procs 11 d.procs.length)::X) [.epv (some 4) 5 d.procs.length i 3,.sl (some 9) q (p.cls.length+1) 0 (p.cls.length+1)]=some (.undef,x0::x1::x2::x3::x4::.arv (some 4) ((elsA d.procs 11 d.procs.length).set i pN)::X):=fun x0 x1 x2 x3 x4 X=>by
  have e:AV.upd deep (pA p q) 3 none (.sl (some 9) q (p.cls.length+1) 0 (p.cls.length+1))=some pN:=by rw[hpN];rfl
  simp[zan,astore,zaE,hge,e,AV.plain,AV.shp]
 obtain⟨dN,hdN⟩:∃dN:AV,dN=.agg [(none,.pv none (.int .i64 (d.next+1))),(none,.slv (some 4) 5 d.procs.length 0 d.procs.length)]:=⟨_,rfl⟩
 have hw1:IntKind.i64.wrap (d.next+1)=d.next+1:=by
  rw[zaZ (by omega) (by omega)]
 have hsf:∀(x0 x1:AObj) (X:Heap),zan none 0 (x0::x1::.box (some 2) (dA d 5)::X) [.ptr 2 0,.pv none (.int .i64 (d.next+1))]=some (.undef,x0::x1::.box (some 2) dN::X):=fun x0 x1 X=>by
  have e:AV.upd deep (dA d 5) 0 none (.pv none (.int .i64 (d.next+1)))=some dN:=by rw[hdN];rfl
  simp[zan,astore,e,AV.plain,AV.shp,AV.own]
 have hs2:∀(x0 x1:AObj) (X:Heap),zan (some 2) 0 (x0::x1::.box (some 2) dN::X) [.ptr 2 0,dN]=some (.undef,x0::x1::.box (some 2) dN::X):=fun x0 x1 X=>by
  rw[hdN]
  simp[zan,astore,AV.plain,AV.shp,AV.own,zah,zaS,total,Sh.size]
 have hr:∀(x0 x1:AObj) (X:Heap),zaJ ⟨[(8,.ptr 2 0),(9,.pv none (.int .i64 0))],x0::x1::.box (some 2) dN::X⟩ (8,some (some 2))=some dN:=fun x0 x1 X=>by
  simp[zaJ,Fr.look,aload]
 have fin:∀(x0 x1 x2 x3 x4:AObj),DbA ⟨d.next+1,d.procs.set i ⟨p.name,p.ar,p.dyn,ns⟩⟩ dN (x0::x1::x2::x3::x4::.arv (some 4) ((elsA d.procs 11 d.procs.length).set i pN)::E):=fun x0 x1 x2 x3 x4=>by
  refine⟨5,d.procs.length,_,d.procs.set i ⟨p.name,p.ar,p.dyn,ns⟩,?_,rfl,by rw[List.length_set,zaE],by simp,by simp,by simp[List.take_of_length_le],fun j r v hr hv2=> ?_⟩
  ·rw[hdN]
   simp
  ·by_cases hji:i=j
   ·subst hji
    rw[List.getElem?_set_self hil] at hr
    cases hr
    rw[List.getElem?_set_self (by rw[zaE];exact hil)] at hv2
    cases hv2
    rw[hpN]
    refine .inr ⟨.sl (some 9) q (p.cls.length+1) 0 (p.cls.length+1),rfl,.inr ⟨q,p.cls.length+1,Sto.pvs ns,false,by rw[hnl],?_,by rw[Sto.pvs_len,hnl],by rw[hnl];omega,List.take_of_length_le (by rw[Sto.pvs_len];exact Nat.le_refl _)⟩⟩
    rw[hq,show 11+6*i=(6*i+5)+1+1+1+1+1+1 by omega]
    simp only[List.getElem?_cons_succ]
    rw[hE,List.getElem?_set_self (List.getElem?_eq_some_iff.1 hcg).1]
   ·rw[List.getElem?_set_ne hji] at hr hv2
    rw[zbA hr] at hv2
    cases hv2
    refine .inr ⟨_,rfl,.inr ⟨11+6*j,r.cls.length,Sto.pvs r.cls,false,rfl,?_,Sto.pvs_len _,Nat.le_refl _,List.take_of_length_le (by rw[Sto.pvs_len];exact Nat.le_refl _)⟩⟩
    rw[show 11+6*j=(6*j+5)+1+1+1+1+1+1 by omega]
    simp only[List.getElem?_cons_succ]
    rw[hE,List.getElem?_set_ne (by omega)]
    exact zdr _ _ _ _ hr
 have hfr:∀(d':Dbs) (H:Heap),DbA d' dN H->Am.frozen (.tuple [d'.av,.pv none (.int .i64 0)]) (.tuple [dN,.pv none (.int .i64 0)]) H:=fun d' H hD=>by
  obtain⟨H',hz⟩:=hD.frz
  have e3:∀X,AV.freeze deep (.pv none (.int .i64 0)) X=some (.int .i64 0,X):=fun _=>rfl
  have hsh:dN.shp=some 2:=by rw[hdN];rfl
  refine⟨H',?_⟩
  simp only[AV.freezeRes,zap,hz,e3,hsh]
  rfl
 clear hnp hns hE hpN
 obtain⟨⟨hk,hi',hna,has⟩,bd⟩:=c
 have hpn:PV.part deep (Cz.pv ⟨⟨hk,hi',hna,has⟩,bd⟩) 2 none=some (.str hna):=rfl
 have hpa:PV.part deep (Cz.pv ⟨⟨hk,hi',hna,has⟩,bd⟩) 3 none=some (.sl (some 4) (Tm.pvs has)):=rfl
 have ea:(Tm.mk hk hi' hna has).args=has:=rfl
 have en:(Tm.mk hk hi' hna has).name=hna:=rfl
 simp only[ea,en] at h3
 cases fr with
 |true=>
  have h8:=h5 0 rfl
  simp -dsimp -implicitDefEqProofs only[hpn,hpa,Tm.pvs_len,g11,c11r0,c11r1,c11r2,c11k3,c11r4,c11r5,c11r6,c11k7,c11r8,c11r9,c11r10,c11k11,c11r12,c11r13,c11r14,c11r15,c11k16,c11r17,c11r18,c11r19,c11,go_sem,seval,↓reduceIte,Dbs.av,Cz.av,zaz,zav,Prc.pvs_len,h1,h2,h3,h4,h6,h7,h8,hbs,ht',hx',hnil,hst,hpt,hpt0,hia,hfa,hnc,hld,hse,hw1,hsf,hs2,hr,List.append_assoc,zad,zaa,zae,zab,Nat.add_assoc,List.length_append]
  have hF:=hfr _ _ (fin (.box (some 2) (.pv (some 2) d.pv)) (.box (some 8) (.pv (some 8) (Cz.pv ⟨⟨hk,hi',hna,has⟩,bd⟩))) (.box (some 2) dN) (.box (some 2) (dA d 5)) (.box (some 2) (dA d 5)))
  simp only[zaQ,Dbs.av] at hF
  exact hF
 |false=>
  have h8:=h5 p.cls.length rfl
  simp -dsimp -implicitDefEqProofs only[hpn,hpa,Tm.pvs_len,g11,c11r0,c11r1,c11r2,c11k3,c11r4,c11r5,c11r6,c11k7,c11r8,c11r9,c11r10,c11k11,c11r12,c11r13,c11r14,c11r15,c11k16,c11r17,c11r18,c11r19,c11,go_sem,seval,↓reduceIte,Dbs.av,Cz.av,zaz,zav,Prc.pvs_len,h1,h2,h3,h4,h6,h7,h8,hbs,ht',hx',hnil,hst,hpt,hpt0,hia,hfa,hnc,hld,hse,hw1,hsf,hs2,hr,List.append_assoc,zad,zaa,zae,zab,Nat.add_assoc,List.length_append]
  have hF:=hfr _ _ (fin (.box (some 2) (.pv (some 2) d.pv)) (.box (some 8) (.pv (some 8) (Cz.pv ⟨⟨hk,hi',hna,has⟩,bd⟩))) (.box (some 2) dN) (.box (some 2) (dA d 5)) (.box (some 2) (dA d 5)))
  simp only[zaQ,Dbs.av] at hF
  exact hF
set_option maxRecDepth 20000 in
theorem zr5(d:Dbs)(hb:BndD d)(c:Cz)(z1:c.head.size<100000000)(z2:c.body.size<100000000)(fr dy:Bool)(hv:okD d=true)(hn:okC c=true)(ht:totD d.procs≠500)(hx:d.next≠4294967296)(hl:d.procs.length≠500)(s:List UInt8)(a:Int)(hs:s=c.head.name)(ha:a=c.head.args.length)(hf:fnD d.procs (keyP s a)=false)(i:Nat)(hi:i=lbD d.procs (keyP s a))(hp:Heap):S 11 [d.av,c.av,.pv none (.bool fr),.pv none (.bool dy)] hp=some (.ret (.tuple [(⟨d.next+1,d.procs.take i++(⟨s,a,dy,[⟨d.next,c⟩]⟩:Prc)::d.procs.drop i⟩:Dbs).av,.pv none (.int .i64 0)]),hp):=by
 refine zam rfl rfl rfl (zaf [(some 2,d.pv),(some 8,c.pv),(none,.bool fr),(none,.bool dy)]) rfl ?_
 have h1:=fun hp=>zaM d hb.1 hb.2.1 hb.2.2 hp
 have h2:=fun hp=>zb8 c z1 z2 hp
 have h3:∀hp,S 31 [d.av,.pv none (.str s),.pv none (.int .i64 a)] hp=some (.ret (.tuple [.pv none (.int .i64 (lbD d.procs (keyP s a):Int)),.pv none (.bool (fnD d.procs (keyP s a)))]),hp):=fun hp=>zbS d s a hb.1 (zcx hv) hp
 have hl5:1<=d.next/\d.next<=4294967296/\d.procs.length<=500/\totD d.procs<=500:=by
  simp only[okD,Bool.and_eq_true,decide_eq_true_eq] at hv
  exact⟨hv.1,hv.2.1,hv.2.2.1,hv.2.2.2.1⟩
 have h4:=fun hp=>zdq d (by omega) (by omega) hp
 have h6:∀x0 x1 x2:AObj,S 33 [d.av] [x0,x1,x2]=some (.ret (dA d 5),x0::x1::x2::.box (some 2) (dA d 5)::.box (some 2) (dA d 5)::.arv (some 4) (elsA d.procs 11 d.procs.length)::cEs d.procs 11):=fun x0 x1 x2=>zc0 d (by omega) (fun q hq=>⟨by have:=zbR hq;omega,ze4 hv q hq⟩) [x0,x1,x2]
 have hnil:∀H:Heap,zah [(none,.nilv (some 4))] H=([(none,.nilv (some 4))],H):=fun _=>rfl
 have hst:∀(x0 x1:AObj) (v:AV) (X:Heap),zan (some 2) 0 (x0::x1::.box (some 2) v::X) [.ptr 2 0,dA d 5]=some (.undef,x0::x1::.box (some 2) (dA d 5)::X):=fun x0 x1 v X=>by
  simp[zan,astore,dA,AV.plain,AV.shp,AV.own,zah,zaS,total,Sh.size]
 obtain⟨vh,vb⟩:=zij hn
 have h7:=fun hp=>ze3 ⟨d.next,c⟩ vh vb hp
 have hbs:zaN [(none,.pv none (.int .i64 0)),(some 8,.agg [(some 4,.agg [(none,.pv none (.int .i64 0)),(none,.pv none (.int .i64 0)),(none,.pv none (.str [])),(none,.tsl (some 4) [])]),(some 4,.agg [(none,.pv none (.int .i64 0)),(none,.pv none (.int .i64 0)),(none,.pv none (.str [])),(none,.tsl (some 4) [])])])] [0,1] [.pv none (.int .i64 d.next),.pv (some 8) c.pv]=some (.pv (some 9) (Sto.mk d.next c).pv):=rfl
 rw[hf,<-hi] at h3
 simp only[Dbs.av] at h1 h3 h4 h6
 simp only[Cz.av] at h2
 simp only[Sto.av] at h7
 rw[hv] at h1
 rw[hn] at h2
 have ht':((totD d.procs:Int)=500)=False:=eq_false (by omega)
 have hx':(d.next=4294967296)=False:=eq_false hx
 have hl':((d.procs.length:Int)=500)=False:=eq_false (by omega)
 have hpt:AV.part deep (dA d 5) 1 none=some (.slv (some 4) 5 d.procs.length 0 d.procs.length):=rfl
 have hil:i<=d.procs.length:=by rw[hi];exact zjU _ _
 obtain⟨nv,hnv⟩:∃nv:AV->AV,nv=fun sv=>.agg [(none,.pv none (.str s)),(none,.pv none (.int .i64 a)),(none,.pv none (.bool dy)),(none,sv)]:=⟨_,rfl⟩
 have hbu:zaN [(none,.pv none (.str [])),(none,.pv none (.int .i64 0)),(none,.pv none (.bool false)),(none,.tsl (some 9) [])] [0,1,2] [.pv none (.str s),.pv none (.int .i64 a),.pv none (.bool dy)]=some (nv (.tsl (some 9) [])):=by rw[hnv];rfl
 obtain⟨el,hel⟩:∃el:AV->List AV,el=fun v=>(elsA d.procs 11 d.procs.length).take i++v::(elsA d.procs 11 d.procs.length).drop i:=⟨_,rfl⟩
 have hell:∀v,(el v).length=d.procs.length+1:=fun v=>by rw[hel];simp[zaE];omega
 have hli:((elsA d.procs 11 d.procs.length).take i).length=i:=by rw[List.length_take,zaE];omega
 have heli:∀v,(el v)[i]? =some v:=fun v=>by
  rw[hel]
  show(_++_)[i]? =_
  rw[List.getElem?_append_right (by omega),hli,Nat.sub_self]
  rfl
 have hels:∀v v',(el v).set i v'=el v':=fun v v'=>by
  rw[hel]
  show List.set (_++_) i v'=_
  rw[List.set_append_right _ _ (by omega),hli,Nat.sub_self]
  rfl
 obtain⟨m,hm⟩:∃m,m=(cEs d.procs 11).length+6:=⟨_,rfl⟩
 have op_bslov:∀{vs:List AV} {H:Heap} {K:AV->Heap->Prop} {Kp:PV->Heap->Prop},opK (aOp (sem (find tab) prim) 0 (.bslov (some 4)) vs H) K Kp=zbQ (zcR (some 4) H vs) K:=fun{vs H K Kp}=>by
  show opK (match zcR (some 4) H vs with|some (v,hp')=>some (OpRes.val v hp')|none=>none) K Kp=_
  cases zcR (some 4) H vs with
  |none=>rfl
  |some r=>cases r;rfl
 have hbv:∀x0 x1 x2 x3 x4 x5:AObj,zcR (some 4) (x0::x1::x2::x3::x4::x5::cEs d.procs 11) [nv (.tsl (some 9) [])]=some (.slv (some 4) m 1 0 1,x0::x1::x2::x3::x4::x5::(cEs d.procs 11++[.arv (some 4) [nv (.tsl (some 9) [])]])):=fun x0 x1 x2 x3 x4 x5=>by
  have e1:(nv (.tsl (some 9) [])).plain=true:=by rw[hnv];rfl
  have e2:(nv (.tsl (some 9) [])).shp=some 4:=by rw[hnv];rfl
  simp[zcR,e1,e2,zcY,hm]
 have hpr:∀x0 x1 x2 x3 x4:AObj,S 34 [.slv (some 4) 5 d.procs.length 0 d.procs.length,.pv none (.int .i64 i),.slv (some 4) m 1 0 1] (x0::x1::x2::x3::x4::.arv (some 4) (elsA d.procs 11 d.procs.length)::(cEs d.procs 11++[.arv (some 4) [nv (.tsl (some 9) [])]]))=some (.ret (.slv (some 4) 5 (d.procs.length+1) 0 (d.procs.length+1)),x0::x1::x2::x3::x4::.arv (some 4) (el (nv (.tsl (some 9) [])))::(cEs d.procs 11++[.arv (some 4) [nv (.tsl (some 9) [])]])):=fun x0 x1 x2 x3 x4=>by
  rw[S,zfZ (F:=find tab) (prim:=prim) (p:=zcK (some 4)) rfl]
  have hg:(x0::x1::x2::x3::x4::AObj.arv (some 4) (elsA d.procs 11 d.procs.length)::(cEs d.procs 11++[.arv (some 4) [nv (.tsl (some 9) [])]]))[m]? =some (.arv (some 4) [nv (.tsl (some 9) [])]):=by
   rw[hm]
   show(cEs d.procs 11++[.arv (some 4) [nv (.tsl (some 9) [])]])[(cEs d.procs 11).length]? =_
   simp
  have hne:5≠m:=by omega
  have hrf:∀n,zd8 n 5 (elsA d.procs 11 d.procs.length) [nv (.tsl (some 9) [])]=true:=fun n=>by
   rw[hnv]
   simp[zd8,AV.refsIn.gol,AV.refsIn,AV.refsIn.go]
  have hlm:d.procs.length+1<=lim:=by unfold lim;omega
  have hii:(i:Int)<=(d.procs.length:Int):=by omega
  rw[hel]
  simp[zcK,hg,zaE,hne,hrf,hlm,hii]
 have hcn:∀(x0 x1 x2 x3 x4 x5:AObj),S 35 [.tsl (some 9) [],.pv none (.int .i64 0),.tsl (some 9) [(Sto.mk d.next c).pv]] (x0::x1::x2::x3::x4::x5::(cEs d.procs 11++[.arv (some 4) [nv (.tsl (some 9) [])]]))=some (.ret (.sl (some 9) (m+1) 1 0 1),x0::x1::x2::x3::x4::x5::(cEs d.procs 11++[.arv (some 4) [nv (.tsl (some 9) [])],.arr (some 9) [(Sto.mk d.next c).pv] false])):=fun x0 x1 x2 x3 x4 x5=>by
  rw[zr3]
  have e:(x0::x1::x2::x3::x4::x5::(cEs d.procs 11++[AObj.arv (some 4) [nv (.tsl (some 9) [])]])).length=m+1:=by
   simp[hm]
  rw[e]
  simp
 obtain⟨d0,hd0⟩:∃d0:AV,d0=.agg [(none,.pv none (.int .i64 d.next)),(none,.slv (some 4) 5 (d.procs.length+1) 0 (d.procs.length+1))]:=⟨_,rfl⟩
 obtain⟨dN,hdN⟩:∃dN:AV,dN=.agg [(none,.pv none (.int .i64 (d.next+1))),(none,.slv (some 4) 5 (d.procs.length+1) 0 (d.procs.length+1))]:=⟨_,rfl⟩
 have hsf:∀(x0 x1:AObj) (X:Heap),zan none 0 (x0::x1::.box (some 2) (dA d 5)::X) [.ptr 2 1,.slv (some 4) 5 (d.procs.length+1) 0 (d.procs.length+1)]=some (.undef,x0::x1::.box (some 2) d0::X):=fun x0 x1 X=>by
  have e:AV.upd deep (dA d 5) 1 none (.slv (some 4) 5 (d.procs.length+1) 0 (d.procs.length+1))=some d0:=by rw[hd0];rfl
  simp[zan,astore,e,AV.plain,AV.shp,AV.own]
 have hpt1:AV.part deep d0 1 none=some (.slv (some 4) 5 (d.procs.length+1) 0 (d.procs.length+1)):=by rw[hd0];rfl
 have hpt0:AV.part deep d0 0 none=some (.pv none (.int .i64 d.next)):=by rw[hd0];rfl
 have hia:zaW (some 4) [.slv (some 4) 5 (d.procs.length+1) 0 (d.procs.length+1),.pv none (.int .i64 i)]=some (.epv (some 4) 5 (d.procs.length+1) i 0):=by
  have:(i:Int)<(d.procs.length:Int)+1:=by omega
  simp[zaW,aindex,this]
 have hfa:zcQ 3 [.epv (some 4) 5 (d.procs.length+1) i 0]=some (.epv (some 4) 5 (d.procs.length+1) i 3):=rfl
 have hnc:zb3 [.epv (some 4) 5 (d.procs.length+1) i 0]=some (.epv (some 4) 5 (d.procs.length+1) i 0):=rfl
 have hld:∀(x0 x1 x2 x3 x4:AObj) (X:Heap),aload none (x0::x1::x2::x3::x4::.arv (some 4) (el (nv (.tsl (some 9) [])))::X) (.epv (some 4) 5 (d.procs.length+1) i 3)=some (.tsl (some 9) []):=fun x0 x1 x2 x3 x4 X=>by
  have e:AV.part deep (nv (.tsl (some 9) [])) 3 none=some (.tsl (some 9) []):=by rw[hnv];rfl
  simp[aload,hell,heli,e]
 have hse:∀(x0 x1 x2 x3 x4:AObj) (X:Heap),zan none 0 (x0::x1::x2::x3::x4::.arv (some 4) (el (nv (.tsl (some 9) [])))::X) [.epv (some 4) 5 (d.procs.length+1) i 3,.sl (some 9) (m+1) 1 0 1]=some (.undef,x0::x1::x2::x3::x4::.arv (some 4) (el (nv (.sl (some 9) (m+1) 1 0 1)))::X):=fun x0 x1 x2 x3 x4 X=>by
  have e:AV.upd deep (nv (.tsl (some 9) [])) 3 none (.sl (some 9) (m+1) 1 0 1)=some (nv (.sl (some 9) (m+1) 1 0 1)):=by rw[hnv];rfl
  simp[zan,astore,hell,heli,e,hels,AV.plain,AV.shp]
 have hw1:IntKind.i64.wrap (d.next+1)=d.next+1:=by
  rw[zaZ (by omega) (by omega)]
 have hsg:∀(x0 x1:AObj) (X:Heap),zan none 0 (x0::x1::.box (some 2) d0::X) [.ptr 2 0,.pv none (.int .i64 (d.next+1))]=some (.undef,x0::x1::.box (some 2) dN::X):=fun x0 x1 X=>by
  have e:AV.upd deep d0 0 none (.pv none (.int .i64 (d.next+1)))=some dN:=by rw[hdN,hd0];rfl
  simp[zan,astore,e,AV.plain,AV.shp,AV.own]
 have hs2:∀(x0 x1:AObj) (X:Heap),zan (some 2) 0 (x0::x1::.box (some 2) dN::X) [.ptr 2 0,dN]=some (.undef,x0::x1::.box (some 2) dN::X):=fun x0 x1 X=>by
  rw[hdN]
  simp[zan,astore,AV.plain,AV.shp,AV.own,zah,zaS,total,Sh.size]
 have hr:∀(x0 x1:AObj) (X:Heap),zaJ ⟨[(8,.ptr 2 0),(9,.pv none (.int .i64 0))],x0::x1::.box (some 2) dN::X⟩ (8,some (some 2))=some dN:=fun x0 x1 X=>by
  simp[zaJ,Fr.look,aload]
 have fin:∀(x0 x1 x2 x3 x4:AObj),DbA ⟨d.next+1,d.procs.take i++(⟨s,a,dy,[⟨d.next,c⟩]⟩:Prc)::d.procs.drop i⟩ dN (x0::x1::x2::x3::x4::.arv (some 4) (el (nv (.sl (some 9) (m+1) 1 0 1)))::(cEs d.procs 11++[.arv (some 4) [nv (.tsl (some 9) [])],.arr (some 9) [(Sto.mk d.next c).pv] false])):=fun x0 x1 x2 x3 x4=>by
  have hpl:(d.procs.take i++(⟨s,a,dy,[⟨d.next,c⟩]⟩:Prc)::d.procs.drop i).length=d.procs.length+1:=by simp;omega
  refine⟨5,d.procs.length+1,el (nv (.sl (some 9) (m+1) 1 0 1)),d.procs.take i++(⟨s,a,dy,[⟨d.next,c⟩]⟩:Prc)::d.procs.drop i,?_,rfl,hell _,by rw[hpl];omega,hpl,List.take_length,fun j q v hq hv2=> ?_⟩
  ·rw[hdN,hpl]
  ·have hE:∀(k:Nat) (x:Prc),d.procs[k]? =some x->ElP x (pA x (11+6*k)) (x0::x1::x2::x3::x4::AObj.arv (some 4) (el (nv (.sl (some 9) (m+1) 1 0 1)))::(cEs d.procs 11++[.arv (some 4) [nv (.tsl (some 9) [])],.arr (some 9) [(Sto.mk d.next c).pv] false])):=fun k x hx=>by
    refine .inr ⟨_,rfl,.inr ⟨11+6*k,x.cls.length,Sto.pvs x.cls,false,rfl,?_,Sto.pvs_len _,Nat.le_refl _,List.take_of_length_le (by rw[Sto.pvs_len];exact Nat.le_refl _)⟩⟩
    rw[show 11+6*k=(6*k+5)+1+1+1+1+1+1 by omega]
    simp only[List.getElem?_cons_succ]
    have hg:=zdr d.procs 11 k x hx
    rw[List.getElem?_append_left (List.getElem?_eq_some_iff.1 hg).1,hg]
   have hlp:(d.procs.take i).length=i:=by rw[List.length_take];omega
   have hv3:((elsA d.procs 11 d.procs.length).take i++nv (.sl (some 9) (m+1) 1 0 1)::(elsA d.procs 11 d.procs.length).drop i)[j]? =some v:=by
    rw[hel] at hv2
    exact hv2
   rcases Nat.lt_trichotomy j i with k|k|k
   ·rw[List.getElem?_append_left (by omega),List.getElem?_take,if_pos k] at hq hv3
    rw[zbA hq] at hv3
    cases hv3
    exact hE j q hq
   ·subst k
    rw[List.getElem?_append_right (by omega),hlp,Nat.sub_self] at hq
    rw[List.getElem?_append_right (by omega),hli,Nat.sub_self] at hv3
    cases hq
    cases hv3
    rw[hnv]
    refine .inr ⟨.sl (some 9) (m+1) 1 0 1,rfl,.inr ⟨m+1,1,[(Sto.mk d.next c).pv],false,rfl,?_,rfl,Nat.le_refl _,rfl⟩⟩
    rw[hm,show(cEs d.procs 11).length+6+1=((cEs d.procs 11).length+1)+1+1+1+1+1+1 by omega]
    simp only[List.getElem?_cons_succ]
    rw[List.getElem?_append_right (by omega),Nat.add_sub_cancel_left]
    rfl
   ·rw[List.getElem?_append_right (by omega),hlp,show j - i=(j - i - 1)+1 by omega,List.getElem?_cons_succ,List.getElem?_drop] at hq
    rw[List.getElem?_append_right (by omega),hli,show j - i=(j - i - 1)+1 by omega,List.getElem?_cons_succ,List.getElem?_drop] at hv3
    rw[zbA hq] at hv3
    cases hv3
    exact hE _ q hq
 have hfr:∀(d':Dbs) (H:Heap),DbA d' dN H->Am.frozen (.tuple [d'.av,.pv none (.int .i64 0)]) (.tuple [dN,.pv none (.int .i64 0)]) H:=fun d' H hD=>by
  obtain⟨H',hz⟩:=hD.frz
  have e3:∀X,AV.freeze deep (.pv none (.int .i64 0)) X=some (.int .i64 0,X):=fun _=>rfl
  have hsh:dN.shp=some 2:=by rw[hdN];rfl
  refine⟨H',?_⟩
  simp only[AV.freezeRes,zap,hz,e3,hsh]
  rfl
 clear hm
 obtain⟨⟨hk,hi',hna,has⟩,bd⟩:=c
 have hpn:PV.part deep (Cz.pv ⟨⟨hk,hi',hna,has⟩,bd⟩) 2 none=some (.str hna):=rfl
 have hpa:PV.part deep (Cz.pv ⟨⟨hk,hi',hna,has⟩,bd⟩) 3 none=some (.sl (some 4) (Tm.pvs has)):=rfl
 have ea:(Tm.mk hk hi' hna has).args=has:=rfl
 have en:(Tm.mk hk hi' hna has).name=hna:=rfl
 rw[en] at hs
 rw[ea] at ha
 subst hs
 subst ha
 have hz:((([]:List PV).length:Nat):Int)=0:=rfl
 cases fr with
 |true=>
  simp -dsimp -implicitDefEqProofs only[hpn,hpa,Tm.pvs_len,g11,c11r0,c11r1,c11r2,c11k3,c11r4,c11r5,c11r6,c11k7,c11r8,c11r9,c11r10,c11k11,c11r12,c11r13,c11r14,c11r15,c11k16,c11r17,c11r18,c11r19,c11,go_sem,seval,↓reduceIte,Dbs.av,Cz.av,zaz,zav,Prc.pvs_len,h1,h2,h3,h4,h6,h7,hbs,ht',hx',hl',hnil,hst,hpt,hpt0,hpt1,hbu,op_bslov,hbv,hpr,hsf,hia,hfa,hnc,hld,hz,hcn,hse,hw1,hsg,hs2,hr,List.append_assoc,zad,zaa,zae,zab,Nat.add_assoc,List.length_append]
  have hF:=hfr _ _ (fin (.box (some 2) (.pv (some 2) d.pv)) (.box (some 8) (.pv (some 8) (Cz.pv ⟨⟨hk,hi',s,has⟩,bd⟩))) (.box (some 2) dN) (.box (some 2) (dA d 5)) (.box (some 2) (dA d 5)))
  simp only[zaQ,Dbs.av] at hF
  exact hF
 |false=>
  simp -dsimp -implicitDefEqProofs only[hpn,hpa,Tm.pvs_len,g11,c11r0,c11r1,c11r2,c11k3,c11r4,c11r5,c11r6,c11k7,c11r8,c11r9,c11r10,c11k11,c11r12,c11r13,c11r14,c11r15,c11k16,c11r17,c11r18,c11r19,c11,go_sem,seval,↓reduceIte,Dbs.av,Cz.av,zaz,zav,Prc.pvs_len,h1,h2,h3,h4,h6,h7,hbs,ht',hx',hl',hnil,hst,hpt,hpt0,hpt1,hbu,op_bslov,hbv,hpr,hsf,hia,hfa,hnc,hld,hz,hcn,hse,hw1,hsg,hs2,hr,List.append_assoc,zad,zaa,zae,zab,Nat.add_assoc,List.length_append]
  have hF:=hfr _ _ (fin (.box (some 2) (.pv (some 2) d.pv)) (.box (some 8) (.pv (some 8) (Cz.pv ⟨⟨hk,hi',s,has⟩,bd⟩))) (.box (some 2) dN) (.box (some 2) (dA d 5)) (.box (some 2) (dA d 5)))
  simp only[zaQ,Dbs.av] at hF
  exact hF
def addR(d:Dbs)(c:Cz)(fr dy:Bool):Dbs × Int:=
 if okD d=false\/okC c=false then(zDb,1)
 else if totD d.procs=500\/d.next=4294967296 then(zDb,13)
 else match fnD d.procs (keyP c.head.name c.head.args.length),d.procs[lbD d.procs (keyP c.head.name c.head.args.length)]? with
 |true,some p=>(⟨d.next+1,d.procs.set (lbD d.procs (keyP c.head.name c.head.args.length)) ⟨p.name,p.ar,p.dyn,insC fr ⟨d.next,c⟩ p.cls⟩⟩,0)
 |_,_=>if d.procs.length=500 then(zDb,13)
  else(⟨d.next+1,d.procs.take (lbD d.procs (keyP c.head.name c.head.args.length))++(⟨c.head.name,c.head.args.length,dy,[⟨d.next,c⟩]⟩:Prc)::d.procs.drop (lbD d.procs (keyP c.head.name c.head.args.length))⟩,0)
theorem znJ(d:Dbs)(hb:BndD d)(c:Cz)(z1:c.head.size<100000000)(z2:c.body.size<100000000)(fr dy:Bool)(hp:Heap):S 11 [d.av,c.av,.pv none (.bool fr),.pv none (.bool dy)] hp=some (.ret (.tuple [(addR d c fr dy).1.av,.pv none (.int .i64 (addR d c fr dy).2)]),hp):=by
 by_cases h:okD d=false\/okC c=false
 ·rw[zr1 d hb c z1 z2 fr dy h hp]
  simp only[addR,if_pos h]
 ·have hv:okD d=true:=by cases e:okD d with|true=>rfl|false=>exact absurd (Or.inl e) h
  have hn:okC c=true:=by cases e:okC c with|true=>rfl|false=>exact absurd (Or.inr e) h
  by_cases ht:totD d.procs=500
  ·rw[zqd d hb c z1 z2 fr dy hv hn ht hp]
   simp only[addR,if_neg h,if_pos (Or.inl ht:totD d.procs=500\/d.next=4294967296)]
  ·by_cases hx:d.next=4294967296
   ·rw[zr4 d hb c z1 z2 fr dy hv hn ht hx hp]
    simp only[addR,if_neg h,if_pos (Or.inr hx:totD d.procs=500\/d.next=4294967296)]
   ·have h0:¬(totD d.procs=500\/d.next=4294967296):=by
     rintro(k|k)
     ·exact ht k
     ·exact hx k
    cases hf:fnD d.procs (keyP c.head.name c.head.args.length) with
    |true=>
     obtain⟨p,hpp⟩:=zd6 hf
     rw[znK d hb c z1 z2 fr dy hv hn ht hx hf p _ rfl hpp hp]
     simp only[addR,if_neg h,if_neg h0,hf,hpp]
    |false=>
     by_cases hl:d.procs.length=500
     ·rw[zqc d hb c z1 z2 fr dy hv hn ht hx hf hl hp]
      simp only[addR,if_neg h,if_neg h0,hf,if_pos hl]
     ·rw[zr5 d hb c z1 z2 fr dy hv hn ht hx hl _ _ rfl rfl hf _ rfl hp]
      simp only[addR,if_neg h,if_neg h0,hf,if_neg hl]
def cutC(p:Prc)(k:Nat):Prc:=⟨p.name,p.ar,p.dyn,p.cls.take k++p.cls.drop (k+1)⟩
def eraR(d:Dbs)(id:Int):Dbs × Bool:=
 if okD d=false then(zDb,false)
 else match whR d.procs id with
 |none=>(zDb,false)
 |some x=>(⟨d.next,d.procs.modify x.1 fun p=>cutC p x.2⟩,true)
theorem ziy{α:Type}{l:List α}{i:Nat}{x:α}(h:l[i]? =some x)(f:α->α):l.modify i f=l.set i (f x):=by
 refine List.ext_getElem? fun j=> ?_
 rw[List.getElem?_modify,List.getElem?_set]
 by_cases e:i=j
 ·subst e
  obtain⟨h1,h2⟩:=List.getElem?_eq_some_iff.1 h
  simp[h1,h2]
 ·simp[e]
theorem zlj(d:Dbs)(hb:BndD d)(id:Int)(hp:Heap):S 12 [d.av,.pv none (.int .i64 id)] hp=some (.ret (.tuple [(eraR d id).1.av,.pv none (.bool (eraR d id).2)]),hp):=by
 cases hv:okD d with
 |false=>
  rw[zma d hb id (.inl hv) hp]
  simp only[eraR,if_pos hv]
 |true=>
  cases hw:whR d.procs id with
  |none=>
   rw[zma d hb id (.inr hw) hp]
   simp[eraR,hw]
  |some x=>
   obtain⟨i,k⟩:=x
   obtain⟨p,s,hpp,hs,_⟩:=zgE hw
   rw[zrA d hb id hv i k hw p hpp (List.getElem?_eq_some_iff.1 hs).1 hp]
   have e:eraR d id=(⟨d.next,d.procs.set i (cutC p k)⟩,true):=by
    simp only[eraR,hv,hw]
    rw[ziy hpp]
    rfl
   rw[e]
   rfl
def ids(l:List Prc):List Int:=l.flatMap fun p=>p.cls.map (·.id)
theorem zle(A B:List Prc):ids (A++B)=ids A++ids B:=by simp[ids]
theorem zcj(p:Prc)(B:List Prc):ids (p::B)=p.cls.map (·.id)++ids B:=by simp[ids]
theorem mem_ids{l:List Prc}{x:Int}:x∈ids l↔∃p∈l,∃s∈p.cls,s.id=x:=by simp[ids]
def okS(next:Int)(p:Prc)(s:Sto):Prop:=1<=s.id/\s.id<next/\okC s.cl=true/\s.cl.head.name=p.name/\(s.cl.head.args.length:Int)=p.ar
theorem zmb(next:Int)(p:Prc)(seen:List Int)(s:Sto):okSt next p seen s=true↔s.id ∉ seen/\okS next p s:=by
 unfold okSt okS
 simp only[Bool.and_eq_true,decide_eq_true_eq]
 constructor
 ·rintro⟨a,b,c,d,e,f⟩
  exact⟨c,a,b,d,e,f⟩
 ·rintro⟨c,a,b,d,e,f⟩
  exact⟨a,b,c,d,e,f⟩
theorem zio(next:Int)(p:Prc):∀(l:List Sto) (seen s':List Int),okSs next p seen l=some s'↔s'=seen++l.map (·.id)/\(l.map (·.id)).Nodup/\(∀x∈l,x.id ∉ seen)/\∀s∈l,okS next p s
 |[],seen,s'=>by simp[okSs,eq_comm]
 |s::r,seen,s'=>by
  rw[okSs]
  by_cases h:okSt next p seen s=true
  ·rw[if_pos h,zio next p r]
   obtain⟨h1,h2⟩:=(zmb ..).1 h
   constructor
   ·rintro⟨rfl,g1,g2,g3⟩
    refine⟨by simp,List.nodup_cons.2 ⟨fun hm=> ?_,g1⟩,fun x hx=> ?_,fun x hx=> ?_⟩
    ·obtain⟨u,hu,e⟩:=List.mem_map.1 hm
     exact g2 u hu (by rw[e];simp)
    ·rcases List.mem_cons.1 hx with rfl|hx
     ·exact h1
     ·exact fun hm=>g2 x hx (by simp[hm])
    ·rcases List.mem_cons.1 hx with rfl|hx
     ·exact h2
     ·exact g3 x hx
   ·rintro⟨rfl,g1,g2,g3⟩
    obtain⟨k1,k2⟩:=List.nodup_cons.1 g1
    refine⟨by simp,k2,fun x hx hm=> ?_,fun x hx=>g3 x (List.mem_cons_of_mem _ hx)⟩
    rcases List.mem_append.1 hm with hm|hm
    ·exact g2 x (List.mem_cons_of_mem _ hx) hm
    ·exact k1 (List.mem_map.2 ⟨x,hx,by simpa using hm⟩)
  ·rw[if_neg h]
   constructor
   ·intro hh
    cases hh
   ·rintro⟨_,_,g2,g3⟩
    exact absurd ((zmb ..).2 ⟨g2 s List.mem_cons_self,g3 s List.mem_cons_self⟩) h
def OkP(next:Int)(l:List Prc):Prop:=(∀p∈l,namB p=true)/\l.Pairwise (fun a b=>ordP a b<0)/\(ids l).Nodup/\∀p∈l,∀s∈p.cls,okS next p s
theorem zp4(next:Int):∀(l:List Prc) (q:Option Prc) (seen:List Int),okPs next q seen l=true->OkP next l/\(∀p,l.head? =some p->preB q p=true)/\∀x∈ids l,x ∉ seen
 |[],q,seen,_=>⟨⟨fun p h=>(by cases h),List.Pairwise.nil,List.nodup_nil,fun p h=>(by cases h)⟩,fun p h=>(by cases h),fun x h=>(by cases h)⟩
 |x::r,q,seen,h=>by
  rw[okPs,Bool.and_eq_true,Bool.and_eq_true] at h
  obtain⟨h1,h2,h3⟩:=h
  split at h3
  ·cases h3
  ·rename_i s' hs
   obtain⟨rfl,e2,e3,e4⟩:=(zio ..).1 hs
   obtain⟨⟨g1,g2,g3,g4⟩,g5,g6⟩:=zp4 next r (some x) _ h3
   have hx:∀b∈r,ordP x b<0:=by
    intro b hb
    cases r with
    |nil=>cases hb
    |cons y r'=>
     have h0:ordP x y<0:=of_decide_eq_true (g5 y rfl)
     rcases List.mem_cons.1 hb with rfl|hb
     ·exact h0
     ·exact zft h0 ((List.pairwise_cons.1 g2).1 b hb)
   refine⟨⟨fun p hp=> ?_,List.pairwise_cons.2 ⟨hx,g2⟩,?_,fun p hp=> ?_⟩,fun p hp=>by cases hp;exact h2,fun y hy=> ?_⟩
   ·rcases List.mem_cons.1 hp with rfl|hp
    ·exact h1
    ·exact g1 p hp
   ·rw[zcj,List.nodup_append]
    refine⟨e2,g3,fun a ha b hb e=> ?_⟩
    subst e
    exact g6 a hb (List.mem_append_right _ ha)
   ·rcases List.mem_cons.1 hp with rfl|hp
    ·exact e4
    ·exact g4 p hp
   ·rw[zcj] at hy
    rcases List.mem_append.1 hy with hy|hy
    ·obtain⟨u,hu,rfl⟩:=List.mem_map.1 hy
     exact e3 u hu
    ·exact fun hm=>g6 y hy (List.mem_append_left _ hm)
theorem zmc(next:Int):∀(l:List Prc) (q:Option Prc) (seen:List Int),OkP next l->(∀p,l.head? =some p->preB q p=true)->(∀x∈ids l,x ∉ seen)->okPs next q seen l=true
 |[],q,seen,_,_,_=>rfl
 |x::r,q,seen,⟨h1,h2,h3,h4⟩,h5,h6=>by
  rw[okPs,h1 x List.mem_cons_self,h5 x rfl]
  rw[zcj,List.nodup_append] at h3
  obtain⟨k1,k2⟩:=List.pairwise_cons.1 h2
  have hs:okSs next x seen x.cls=some (seen++x.cls.map (·.id)):=(zio ..).2 ⟨rfl,h3.1,fun u hu=>h6 u.id (by rw[zcj];exact List.mem_append_left _ (List.mem_map.2 ⟨u,hu,rfl⟩)),h4 x List.mem_cons_self⟩
  rw[hs]
  simp only[Bool.true_and]
  refine zmc next r (some x) _ ⟨fun p hp=>h1 p (List.mem_cons_of_mem _ hp),k2,h3.2.1,fun p hp=>h4 p (List.mem_cons_of_mem _ hp)⟩ (fun p hp=> ?_) fun y hy hm=> ?_
  ·exact decide_eq_true (k1 p (List.mem_of_mem_head? (by rw[hp];rfl)))
  ·rcases List.mem_append.1 hm with hm|hm
   ·exact h6 y (by rw[zcj];exact List.mem_append_right _ hy) hm
   ·exact h3.2.2 y hm y hy rfl
theorem zbo(d:Dbs):okD d=true↔1<=d.next/\d.next<=4294967296/\d.procs.length<=500/\totD d.procs<=500/\OkP d.next d.procs:=by
 simp only[okD,Bool.and_eq_true,decide_eq_true_eq]
 constructor
 ·rintro⟨a,b,c,e,f⟩
  exact⟨a,b,c,e,(zp4 _ _ _ _ f).1⟩
 ·rintro⟨a,b,c,e,f⟩
  exact⟨a,b,c,e,zmc _ _ _ _ f (fun _ _=>rfl) fun _ _ h=>by cases h⟩
theorem OkP.mono{n n':Int}{l:List Prc}(h:OkP n l)(hn:n<=n'):OkP n' l:=⟨h.1,h.2.1,h.2.2.1,fun p hp s hs=>by
 obtain⟨a,b,c⟩:=h.2.2.2 p hp s hs
 exact⟨a,by omega,c⟩⟩
theorem zeq(next:Int)(A B:List Prc)(q:Prc):OkP next (A++q::B)↔OkP next (A++B)/\namB q=true/\(∀a∈A,ordP a q<0)/\(∀b∈B,ordP q b<0)/\(q.cls.map (·.id)).Nodup/\(∀s∈q.cls,s.id ∉ ids (A++B))/\∀s∈q.cls,okS next q s:=by
 have hperm:(ids (A++q::B)).Perm (q.cls.map (·.id)++ids (A++B)):=by
  rw[zle,zcj,zle,<-List.append_assoc,<-List.append_assoc]
  exact List.Perm.append_right _ List.perm_append_comm
 unfold OkP
 rw[hperm.nodup_iff,List.nodup_append,List.pairwise_append,List.pairwise_append,List.pairwise_cons]
 constructor
 ·rintro⟨h1,⟨h2,⟨h3,h4⟩,h5⟩,⟨h6,h7,h8⟩,h9⟩
  have hs:∀p,p∈A++B->p∈A++q::B:=fun p hp=>by
   rcases List.mem_append.1 hp with hp|hp
   ·exact List.mem_append_left _ hp
   ·exact List.mem_append_right _ (List.mem_cons_of_mem _ hp)
  have hq:q∈A++q::B:=List.mem_append_right _ List.mem_cons_self
  exact⟨⟨fun p hp=>h1 p (hs p hp),⟨h2,h4,fun a ha b hb=>h5 a ha b (List.mem_cons_of_mem _ hb)⟩,h7,fun p hp=>h9 p (hs p hp)⟩,h1 q hq,fun a ha=>h5 a ha q List.mem_cons_self,h3,h6,fun s hs' hm=>h8 s.id (List.mem_map.2 ⟨s,hs',rfl⟩) s.id hm rfl,h9 q hq⟩
 ·rintro⟨⟨h1,⟨h2,h4,h5⟩,h7,h9⟩,g1,g2,g3,g4,g5,g6⟩
  have hc:∀p,p∈A++q::B->p=q\/p∈A++B:=fun p hp=>by
   rcases List.mem_append.1 hp with hp|hp
   ·exact .inr (List.mem_append_left _ hp)
   ·rcases List.mem_cons.1 hp with hp|hp
    ·exact .inl hp
    ·exact .inr (List.mem_append_right _ hp)
  refine⟨fun p hp=> ?_,⟨h2,⟨g3,h4⟩,fun a ha b hb=> ?_⟩,⟨g4,h7,fun a ha b hb e=> ?_⟩,fun p hp=> ?_⟩
  ·rcases hc p hp with rfl|hp
   ·exact g1
   ·exact h1 p hp
  ·rcases List.mem_cons.1 hb with rfl|hb
   ·exact g2 a ha
   ·exact h5 a ha b hb
  ·subst e
   obtain⟨u,hu,rfl⟩:=List.mem_map.1 ha
   exact g5 u hu hb
  ·rcases hc p hp with rfl|hp
   ·exact g6
   ·exact h9 p hp
theorem ze6{p q p' q':Prc}(h1:p.name=p'.name)(h2:p.ar=p'.ar)(h3:q.name=q'.name)(h4:q.ar=q'.ar):ordP p q=ordP p' q':=by
 unfold ordP
 rw[h1,h2,h3,h4]
theorem zrW:∀a b:List UInt8,Op.bytesLess a b=false->a≠b->Op.bytesLess b a=true
 |[],[],_,h=>absurd rfl h
 |[],_::_,h,_=>by simp[Op.bytesLess] at h
 |_::_,[],_,_=>rfl
 |x::a,y::b,h,hne=>by
  simp only[Op.bytesLess,Bool.or_eq_false_iff,Bool.and_eq_false_iff,Bool.or_eq_true,Bool.and_eq_true,decide_eq_true_eq,decide_eq_false_iff_not,beq_iff_eq,beq_eq_false_iff_ne] at h ⊢
  obtain⟨h1,h2⟩:=h
  by_cases e:x=y
  ·subst e
   rcases h2 with h2|h2
   ·exact absurd rfl h2
   ·exact .inr ⟨rfl,zrW a b h2 fun e=>hne (by rw[e])⟩
  ·left
   rw[UInt8.lt_iff_toNat_lt] at*
   have:x.toNat≠y.toNat:=fun h=>e (UInt8.toNat_inj.1 h)
   omega
theorem zp5{p q:Prc}(h1:¬ordP p q<0)(h2:ordP p q≠0):ordP q p<0:=by
 rw[zl2] at h1 ⊢
 rw[Ne,ordP_zero] at h2
 by_cases e:p.name=q.name
 ·right
  refine⟨e.symm,?_⟩
  have a:¬p.ar<q.ar:=fun h=>h1 (.inr ⟨e,h⟩)
  have b:p.ar≠q.ar:=fun h=>h2 ⟨e,h⟩
  omega
 ·left
  refine zrW _ _ ?_ e
  cases h:Op.bytesLess p.name q.name with
  |false=>rfl
  |true=>exact absurd (.inl h) h1
theorem zp6{l:List Prc}(h:l.Pairwise (fun a b=>ordP a b<0)):IncP l:=fun i j a b hij ha hb=>by
 obtain⟨h1,e1⟩:=List.getElem?_eq_some_iff.1 ha
 obtain⟨h2,e2⟩:=List.getElem?_eq_some_iff.1 hb
 rw[<-e1,<-e2]
 exact List.pairwise_iff_getElem.1 h i j h1 h2 hij
theorem zsS{l:List Prc}(k:Prc)(h:l.Pairwise (fun a b=>ordP a b<0)):(∀a∈l.take (lbD l k),ordP a k<0)/\∀b∈l.drop (lbD l k),¬ordP b k<0:=by
 have hi:=zp6 h
 constructor
 ·intro a ha
  obtain⟨j,hj⟩:=List.mem_iff_getElem?.1 ha
  rw[List.getElem?_take] at hj
  split at hj
  ·rename_i hlt
   exact(zd5 hi hj).2 hlt
  ·cases hj
 ·intro b hb
  obtain⟨j,hj⟩:=List.mem_iff_getElem?.1 hb
  rw[List.getElem?_drop] at hj
  intro hlt
  have:=(zd5 hi hj).1 hlt
  omega
theorem zlf{l:List Prc}(k:Prc)(h:l.Pairwise (fun a b=>ordP a b<0)):fnD l k=true↔∃p∈l,ordP p k=0:=by
 have hi:=zp6 h
 constructor
 ·intro hf
  obtain⟨p,hp⟩:=zd6 hf
  refine⟨p,List.mem_of_getElem? hp,?_⟩
  unfold fnD at hf
  rw[hp] at hf
  exact of_decide_eq_true hf
 ·rintro⟨p,hp,e⟩
  obtain⟨j,hj⟩:=List.mem_iff_getElem?.1 hp
  have h1:¬j<lbD l k:=fun hlt=>by
   have:=(zd5 hi hj).2 hlt
   omega
  have h2:¬lbD l k<j:=fun hlt=>by
   have hl:lbD l k<l.length:=by
    have:=(List.getElem?_eq_some_iff.1 hj).1
    omega
   have hx:=hi _ j _ p hlt (List.getElem?_eq_getElem hl) hj
   have hz:=ordP_zero.1 e
   have hx':ordP l[lbD l k] k<0:=by
    rw[<-ze6 rfl rfl hz.1 hz.2]
    exact hx
   have:=(zd5 hi (List.getElem?_eq_getElem hl)).1 hx'
   omega
  have e3:j=lbD l k:=by omega
  subst e3
  unfold fnD
  rw[hj]
  exact decide_eq_true e
theorem zlg{l:List Prc}{k p:Prc}(h:l.Pairwise (fun a b=>ordP a b<0))(hp:p∈l)(e:ordP p k=0):l[lbD l k]? =some p:=by
 have hi:=zp6 h
 have hf:=(zlf k h).2 ⟨p,hp,e⟩
 obtain⟨q,hq⟩:=zd6 hf
 have e2:ordP q k=0:=by
  unfold fnD at hf
  rw[hq] at hf
  exact of_decide_eq_true hf
 obtain⟨j,hj⟩:=List.mem_iff_getElem?.1 hp
 have z1:=ordP_zero.1 e
 have z2:=ordP_zero.1 e2
 have e0:ordP p q=0:=ordP_zero.2 ⟨z1.1.trans z2.1.symm,z1.2.trans z2.2.symm⟩
 have e1:ordP q p=0:=ordP_zero.2 ⟨z2.1.trans z1.1.symm,z2.2.trans z1.2.symm⟩
 rcases Nat.lt_trichotomy j (lbD l k) with hlt|hlt|hlt
 ·have:=hi _ _ _ _ hlt hj hq
  omega
 ·rw[<-hlt,hj]
 ·have:=hi _ _ _ _ hlt hq hj
  omega
theorem za7{d:Dbs}(hv:okD d=true)(s:List UInt8)(a:Int)(p:Prc):zbF d s a=some p↔p∈d.procs/\p.name=s/\p.ar=a:=by
 have hpw:=((zbo d).1 hv).2.2.2.2.2.1
 unfold zbF
 rw[if_pos hv]
 constructor
 ·intro h
  split at h
  ·rename_i hf
   refine⟨List.mem_of_getElem? h,?_⟩
   unfold fnD at hf
   rw[h] at hf
   exact ordP_zero.1 (of_decide_eq_true hf)
  ·cases h
 ·rintro⟨h1,h2,h3⟩
  have e:ordP p (keyP s a)=0:=ordP_zero.2 ⟨h2,h3⟩
  rw[if_pos ((zlf _ hpw).2 ⟨p,h1,e⟩)]
  exact zlg hpw h1 e
theorem znE{d:Dbs}(hv:okD d=true)(s:List UInt8)(a:Int):zbF d s a=none↔∀p∈d.procs,¬(p.name=s/\p.ar=a):=by
 constructor
 ·intro h p hp hk
  rw[(za7 hv s a p).2 ⟨hp,hk⟩] at h
  cases h
 ·intro h
  cases e:zbF d s a with
  |none=>rfl
  |some p=>
   have:=(za7 hv s a p).1 e
   exact absurd this.2 (h p this.1)
theorem zfN{d:Dbs}(hv:okD d=true):BndD d:=by
 have h:=(zbo d).1 hv
 refine⟨by omega,by omega,fun p hp s hs=> ?_⟩
 obtain⟨vh,vb⟩:=ze4 hv p hp s hs
 have h1:=zcn vh
 have h2:=zcn vb
 omega
theorem ze7{α:Type}{l:List α}{i:Nat}{x:α}(h:l[i]? =some x):l=l.take i++x::l.drop (i+1):=by
 rw[<-zf0 h,List.take_append_drop]
theorem zmg{α:Type}{l:List α}{i:Nat}{x:α}(h:l[i]? =some x)(y:α):l.set i y=l.take i++y::l.drop (i+1):=by
 have hi:=(List.getElem?_eq_some_iff.1 h).1
 rw[List.set_eq_take_append_cons_drop,if_pos hi]
theorem zcL(A B:List Prc):totD (A++B)=totD A+totD B:=by simp[totD]
theorem zc3(p:Prc)(B:List Prc):totD (p::B)=p.cls.length+totD B:=by simp[totD]
theorem zmh{l:List Prc}{i:Nat}{p:Prc}(h:l[i]? =some p)(q:Prc):totD (l.set i q)+p.cls.length=totD l+q.cls.length:=by
 have e:totD l=totD (l.take i++p::l.drop (i+1)):=by rw[<-ze7 h]
 rw[zmg h,e,zcL,zcL,zc3,zc3]
 omega
theorem zcy{l:List Prc}{i:Nat}{p:Prc}(h:l[i]? =some p)(q x:Prc):x∈l.set i q↔x=q\/x∈l.take i++l.drop (i+1):=by
 rw[zmg h]
 simp only[List.mem_append,List.mem_cons]
 constructor
 ·rintro(h|h|h)
  ·exact .inr (.inl h)
  ·exact .inl h
  ·exact .inr (.inr h)
 ·rintro(h|h|h)
  ·exact .inr (.inl h)
  ·exact .inl h
  ·exact .inr (.inr h)
theorem zdt{l:List Prc}{i:Nat}{p:Prc}(h:l[i]? =some p)(x:Prc):x∈l↔x=p\/x∈l.take i++l.drop (i+1):=by
 have e:=zcy h p x
 rw[zl5 h] at e
 exact e
theorem zsW{l m:List Prc}(h:∀x∈l,x∈m){y:Int}(hy:y∈ids l):y∈ids m:=by
 obtain⟨p,hp,s,hs,e⟩:=mem_ids.1 hy
 exact mem_ids.2 ⟨p,h p hp,s,hs,e⟩
theorem zli{n:Int}{p q:Prc}{s:Sto}(h:okS n p s)(h1:p.name=q.name)(h2:p.ar=q.ar):okS n q s:=by
 obtain⟨a,b,c,d,e⟩:=h
 exact⟨a,b,c,by rw[d,h1],by rw[e,h2]⟩
theorem zrY{n n':Int}{l:List Prc}{i:Nat}{p q:Prc}(h:OkP n l)(hp:l[i]? =some p)(hn:q.name=p.name)(ha:q.ar=p.ar)(hle:n<=n')(hnd:(q.cls.map (·.id)).Nodup)(hfr:∀s∈q.cls,s∈p.cls\/s.id ∉ ids l)(hok:∀s∈q.cls,okS n' q s):OkP n' (l.set i q):=by
 rw[zmg hp]
 rw[ze7 hp] at h
 obtain⟨g1,g2,g3,g4,g5,g6,g7⟩:=(zeq ..).1 h
 refine(zeq ..).2 ⟨g1.mono hle,?_,fun a ha'=> ?_,fun b hb=> ?_,hnd,fun s hs=> ?_,hok⟩
 ·unfold namB at g2 ⊢
  rw[hn,ha]
  exact g2
 ·rw[ze6 rfl rfl hn ha]
  exact g3 a ha'
 ·rw[ze6 hn ha rfl rfl]
  exact g4 b hb
 ·rcases hfr s hs with hc|hc
  ·exact g6 s hc
  ·exact fun hm=>hc (zsW (fun x hx=>(zdt hp x).2 (.inr hx)) hm)
theorem zrZ{n n':Int}{l:List Prc}{q:Prc}(h:OkP n l)(hf:fnD l (keyP q.name q.ar)=false)(hnm:namB q=true)(hle:n<=n')(hnd:(q.cls.map (·.id)).Nodup)(hfr:∀s∈q.cls,s.id ∉ ids l)(hok:∀s∈q.cls,okS n' q s):OkP n' (l.take (lbD l (keyP q.name q.ar))++q::l.drop (lbD l (keyP q.name q.ar))):=by
 obtain⟨c1,c2⟩:=zsS (keyP q.name q.ar) h.2.1
 have ht:l.take (lbD l (keyP q.name q.ar))++l.drop (lbD l (keyP q.name q.ar))=l:=List.take_append_drop _ _
 refine(zeq ..).2 ⟨by rw[ht];exact h.mono hle,hnm,fun a ha=> ?_,fun b hb=> ?_,hnd,fun s hs=>by rw[ht];exact hfr s hs,hok⟩
 ·rw[ze6 (q:=q) (q':=keyP q.name q.ar) rfl rfl rfl rfl]
  exact c1 a ha
 ·rw[ze6 (p:=q) (p':=keyP q.name q.ar) rfl rfl rfl rfl]
  refine zp5 (c2 b hb) fun e=> ?_
  rw[(zlf _ h.2.1).2 ⟨b,List.mem_of_mem_drop hb,e⟩] at hf
  cases hf
def ApR(d n:Dbs)(s:List UInt8)(a:Int):Prop:=∀p∈d.procs,¬(p.name=s/\p.ar=a)->zbF n p.name p.ar=some p
theorem zht{d n:Dbs}{s:List UInt8}{a:Int}(hn:okD n=true)(h:∀p∈d.procs,¬(p.name=s/\p.ar=a)->p∈n.procs):ApR d n s a:=fun p hp hk=>(za7 hn _ _ _).2 ⟨h p hp hk,rfl,rfl⟩
theorem ziq{d:Dbs}(hv:okD d=true){s:List UInt8}{a:Int}(hf:fnD d.procs (keyP s a)=true):∃p,d.procs[lbD d.procs (keyP s a)]? =some p/\p.name=s/\p.ar=a/\zbF d s a=some p:=by
 obtain⟨p,hpp⟩:=zd6 hf
 have e:zbF d s a=some p:=by
  unfold zbF
  rw[if_pos hv,if_pos hf,hpp]
 exact⟨p,hpp,((za7 hv ..).1 e).2.1,((za7 hv ..).1 e).2.2,e⟩
theorem zr0{d:Dbs}{s:List UInt8}{a:Int}(hf:fnD d.procs (keyP s a)=false):zbF d s a=none:=by
 unfold zbF
 rw[hf]
 simp
theorem znH{d:Dbs}{s:List UInt8}{a:Int}{b:Bool}(h:(zc2 d s a b).2=0):okD d=true/\okD (zc2 d s a b).1=true/\(zc2 d s a b).1.next=d.next/\zbF (zc2 d s a b).1 s a=some ⟨s,a,((zbF d s a).getD zP).dyn || b,((zbF d s a).getD zP).cls⟩/\ApR d (zc2 d s a b).1 s a:=by
 by_cases hbad:okD d=false\/namB (keyP s a)=false
 ·simp only[zc2,if_pos hbad] at h
  cases h
 have hv:okD d=true:=by cases e:okD d with|true=>rfl|false=>exact absurd (Or.inl e) hbad
 have hnm:namB (keyP s a)=true:=by cases e:namB (keyP s a) with|true=>rfl|false=>exact absurd (Or.inr e) hbad
 obtain⟨d1,d2,d3,d4,d5⟩:=(zbo d).1 hv
 cases hf:fnD d.procs (keyP s a) with
 |true=>
  obtain⟨p,hpp,rfl,rfl,hfd⟩:=ziq hv hf
  have e:zc2 d p.name p.ar b=(⟨d.next,d.procs.set (lbD d.procs (keyP p.name p.ar)) (dynP p b)⟩,0):=by simp only[zc2,if_neg hbad,hf,hpp]
  rw[e,hfd]
  have hok:okD ⟨d.next,d.procs.set (lbD d.procs (keyP p.name p.ar)) (dynP p b)⟩=true:=by
   have ht:=zmh hpp (dynP p b)
   have hq:(dynP p b).cls=p.cls:=rfl
   rw[hq] at ht
   have hpm:=List.mem_of_getElem? hpp
   have d5':=d5
   rw[ze7 hpp] at d5'
   refine(zbo _).2 ⟨d1,d2,by simpa using d3,by show totD (d.procs.set _ _)<=500;omega,zrY d5 hpp rfl rfl (Int.le_refl _) ((zeq ..).1 d5').2.2.2.2.1 (fun s hs=>.inl hs) fun s hs=>zli (d5.2.2.2 p hpm s hs) rfl rfl⟩
  refine⟨hv,hok,rfl,(za7 hok ..).2 ⟨(zcy hpp _ _).2 (.inl rfl),rfl,rfl⟩,zht hok fun q hq hk=> ?_⟩
  refine(zcy hpp _ _).2 (.inr ?_)
  rcases(zdt hpp q).1 hq with rfl|hq
  ·exact absurd ⟨rfl,rfl⟩ hk
  ·exact hq
 |false=>
  by_cases hl:d.procs.length=500
  ·simp only[zc2,if_neg hbad,hf,if_pos hl] at h
   cases h
  have e:zc2 d s a b=(⟨d.next,d.procs.take (lbD d.procs (keyP s a))++(⟨s,a,b,[]⟩:Prc)::d.procs.drop (lbD d.procs (keyP s a))⟩,0):=by simp only[zc2,if_neg hbad,hf,if_neg hl]
  rw[e,zr0 hf]
  have hok:okD ⟨d.next,d.procs.take (lbD d.procs (keyP s a))++(⟨s,a,b,[]⟩:Prc)::d.procs.drop (lbD d.procs (keyP s a))⟩=true:=by
   have hlb:=zjU d.procs (keyP s a)
   refine(zbo _).2 ⟨d1,d2,?_,?_,zrZ (q:=⟨s,a,b,[]⟩) d5 hf hnm (Int.le_refl _) List.nodup_nil (fun s hs=>by cases hs) fun s hs=>by cases hs⟩
   ·simp
    omega
   ·have ht:totD d.procs=totD (d.procs.take (lbD d.procs (keyP s a))++d.procs.drop (lbD d.procs (keyP s a))):=by rw[List.take_append_drop]
    rw[zcL] at ht
    show totD (_++_::_)<=500
    rw[zcL,zc3]
    simp
    omega
  refine⟨hv,hok,rfl,(za7 hok ..).2 ⟨List.mem_append_right _ List.mem_cons_self,rfl,rfl⟩,zht hok fun q hq hk=> ?_⟩
  show q∈_++_::_
  rw[<-List.take_append_drop (lbD d.procs (keyP s a)) d.procs] at hq
  rcases List.mem_append.1 hq with hq|hq
  ·exact List.mem_append_left _ hq
  ·exact List.mem_append_right _ (List.mem_cons_of_mem _ hq)
theorem zqa{d:Dbs}{s:List UInt8}{a:Int}(h:(aboR d s a).2=true):∃p,zbF d s a=some p/\okD d=true/\okD (aboR d s a).1=true/\zbF (aboR d s a).1 s a=none/\totD (aboR d s a).1.procs+p.cls.length=totD d.procs/\(aboR d s a).1.next=d.next/\ApR d (aboR d s a).1 s a:=by
 by_cases hbad:okD d=false\/fnD d.procs (keyP s a)=false
 ·simp only[aboR,if_pos hbad] at h
  cases h
 have hv:okD d=true:=by cases e:okD d with|true=>rfl|false=>exact absurd (Or.inl e) hbad
 have hf:fnD d.procs (keyP s a)=true:=by cases e:fnD d.procs (keyP s a) with|true=>rfl|false=>exact absurd (Or.inr e) hbad
 obtain⟨d1,d2,d3,d4,d5⟩:=(zbo d).1 hv
 obtain⟨p,hpp,rfl,rfl,hfd⟩:=ziq hv hf
 have e:aboR d p.name p.ar=(⟨d.next,d.procs.take (lbD d.procs (keyP p.name p.ar))++d.procs.drop (lbD d.procs (keyP p.name p.ar)+1)⟩,true):=by simp only[aboR,if_neg hbad]
 rw[e]
 have d5':=d5
 rw[ze7 hpp] at d5'
 obtain⟨g1,g2,g3,g4,g5,g6,g7⟩:=(zeq ..).1 d5'
 have ht:totD d.procs=totD (d.procs.take (lbD d.procs (keyP p.name p.ar))++p::d.procs.drop (lbD d.procs (keyP p.name p.ar)+1)):=by rw[<-ze7 hpp]
 rw[zcL,zc3] at ht
 have ht2:totD (d.procs.take (lbD d.procs (keyP p.name p.ar))++d.procs.drop (lbD d.procs (keyP p.name p.ar)+1))+p.cls.length=totD d.procs:=by rw[zcL];omega
 have hok:okD ⟨d.next,d.procs.take (lbD d.procs (keyP p.name p.ar))++d.procs.drop (lbD d.procs (keyP p.name p.ar)+1)⟩=true:=by
  refine(zbo _).2 ⟨d1,d2,?_,?_,g1⟩
  ·simp
   omega
  ·show totD (_++_)<=500
   omega
 refine⟨p,hfd,hv,hok,(znE hok ..).2 fun q hq hk=> ?_,ht2,rfl,zht hok fun q hq hk=> ?_⟩
 ·rcases List.mem_append.1 hq with hq|hq
  ·have:=g3 q hq
   rw[ordP_zero.2 hk] at this
   omega
  ·have:=g4 q hq
   rw[ordP_zero.2 ⟨hk.1.symm,hk.2.symm⟩] at this
   omega
 ·rcases(zdt hpp q).1 hq with rfl|hq
  ·exact absurd ⟨rfl,rfl⟩ hk
  ·exact hq
theorem zmd(l:List Prc):totD l=(ids l).length:=by
 induction l with
 |nil=>rfl
 |cons p r ih=>rw[zc3,zcj,List.length_append,List.length_map,ih]
theorem zsT{c:Cz}(h:okC c=true):namB (keyP c.head.name c.head.args.length)=true:=by
 have hv:=(zij h).1
 simp only[okC,Bool.and_eq_true,Bool.or_eq_true,decide_eq_true_eq] at h
 have hk:=h.2.1
 simp only[Tm.valid,Bool.and_eq_true] at hv
 have hf:=hv.2
 rw[Tm.zuc,Bool.and_eq_true] at hf
 have hn:=hf.1
 unfold Tm.node at hn
 unfold namB keyP
 rcases hk with hk|hk
 ·rw[hk] at hn
  simp at hn
  simp[hn.2]
  omega
 ·rw[hk] at hn
  simp at hn
  simp
  omega
theorem insC_mem{fr:Bool}{s x:Sto}{l:List Sto}:x∈insC fr s l↔x=s\/x∈l:=by
 unfold insC
 split
 ·simp
 ·simp[or_comm]
theorem zrC(fr:Bool)(s:Sto)(l:List Sto):((insC fr s l).map (·.id)).Perm (s.id::l.map (·.id)):=by
 unfold insC
 split
 ·exact List.Perm.refl _
 ·rw[List.map_append]
  exact List.perm_append_comm
theorem zjZ{d:Dbs}{c:Cz}{fr dy:Bool}(h:(addR d c fr dy).2=0):okD d=true/\okC c=true/\okD (addR d c fr dy).1=true/\(addR d c fr dy).1.next=d.next+1/\totD (addR d c fr dy).1.procs=totD d.procs+1/\(∃dyn,zbF (addR d c fr dy).1 c.head.name c.head.args.length=some ⟨c.head.name,c.head.args.length,dyn,insC fr ⟨d.next,c⟩ ((zbF d c.head.name c.head.args.length).getD zP).cls⟩)/\ApR d (addR d c fr dy).1 c.head.name c.head.args.length:=by
 by_cases hbad:okD d=false\/okC c=false
 ·simp only[addR,if_pos hbad] at h
  cases h
 have hv:okD d=true:=by cases e:okD d with|true=>rfl|false=>exact absurd (Or.inl e) hbad
 have hc:okC c=true:=by cases e:okC c with|true=>rfl|false=>exact absurd (Or.inr e) hbad
 by_cases hfull:totD d.procs=500\/d.next=4294967296
 ·simp only[addR,if_neg hbad,if_pos hfull] at h
  cases h
 obtain⟨d1,d2,d3,d4,d5⟩:=(zbo d).1 hv
 have n1:totD d.procs≠500:=fun e=>hfull (.inl e)
 have n2:d.next≠4294967296:=fun e=>hfull (.inr e)
 have hfresh:d.next ∉ ids d.procs:=fun hm=>by
  obtain⟨p,hp,s,hs,e⟩:=mem_ids.1 hm
  have:=d5.2.2.2 p hp s hs
  have:=this.2.1
  omega
 obtain⟨s,hs⟩:∃s,s=c.head.name:=⟨_,rfl⟩
 obtain⟨a,ha⟩:∃a:Int,a=c.head.args.length:=⟨_,rfl⟩
 have hoks:∀q:Prc,q.name=s->q.ar=a->okS (d.next+1) q ⟨d.next,c⟩:=fun q h1 h2=>⟨d1,by show d.next<d.next+1;omega,hc,by rw[h1,hs],by rw[h2,ha]⟩
 cases hf:fnD d.procs (keyP c.head.name c.head.args.length) with
 |true=>
  obtain⟨p,hpp,hpn,hpa,hfd⟩:=ziq hv hf
  have e:addR d c fr dy=(⟨d.next+1,d.procs.set (lbD d.procs (keyP c.head.name c.head.args.length)) ⟨p.name,p.ar,p.dyn,insC fr ⟨d.next,c⟩ p.cls⟩⟩,0):=by simp only[addR,if_neg hbad,if_neg hfull,hf,hpp]
  rw[e,hfd]
  have hpm:=List.mem_of_getElem? hpp
  have ht:=zmh hpp ⟨p.name,p.ar,p.dyn,insC fr ⟨d.next,c⟩ p.cls⟩
  have hil:=zlk fr ⟨d.next,c⟩ p.cls
  have ht':totD (d.procs.set (lbD d.procs (keyP c.head.name c.head.args.length)) ⟨p.name,p.ar,p.dyn,insC fr ⟨d.next,c⟩ p.cls⟩)=totD d.procs+1:=by
   show _=_
   have:(Prc.mk p.name p.ar p.dyn (insC fr ⟨d.next,c⟩ p.cls)).cls.length=p.cls.length+1:=hil
   omega
  have hnd:(p.cls.map (·.id)).Nodup:=by
   have d5':=d5
   rw[ze7 hpp] at d5'
   exact((zeq ..).1 d5').2.2.2.2.1
  have hok:okD ⟨d.next+1,d.procs.set (lbD d.procs (keyP c.head.name c.head.args.length)) ⟨p.name,p.ar,p.dyn,insC fr ⟨d.next,c⟩ p.cls⟩⟩=true:=by
   refine(zbo _).2 ⟨by show 1<=d.next+1;omega,by show d.next+1<=4294967296;omega,by simpa using d3,by rw[show(Dbs.mk (d.next+1) _).procs=_ from rfl,ht'];omega,zrY d5 hpp rfl rfl (by show d.next<=d.next+1;omega) ?_ (fun x hx=> ?_) fun x hx=> ?_⟩
   ·rw[(zrC _ _ _).nodup_iff,List.nodup_cons]
    refine⟨fun hm=> ?_,hnd⟩
    obtain⟨u,hu,e2⟩:=List.mem_map.1 hm
    exact hfresh (mem_ids.2 ⟨p,hpm,u,hu,e2⟩)
   ·rcases insC_mem.1 hx with rfl|hx
    ·exact .inr hfresh
    ·exact .inl hx
   ·rcases insC_mem.1 hx with rfl|hx
    ·exact hoks _ (by rw[hs];exact hpn) (by rw[ha];exact hpa)
    ·have:=zli (q:=⟨p.name,p.ar,p.dyn,insC fr ⟨d.next,c⟩ p.cls⟩) (d5.2.2.2 p hpm x hx) rfl rfl
     exact⟨this.1,by have:=this.2.1;show x.id<d.next+1;omega,this.2.2⟩
  refine⟨hv,hc,hok,rfl,ht',⟨p.dyn,(za7 hok ..).2 ⟨(zcy hpp _ _).2 (.inl ?_),rfl,rfl⟩⟩,zht hok fun q hq hk=>(zcy hpp _ _).2 (.inr ?_)⟩
  ·rw[hpn,hpa]
   rfl
  ·rcases(zdt hpp q).1 hq with rfl|hq
   ·exact absurd ⟨hpn,hpa⟩ hk
   ·exact hq
 |false=>
  by_cases hl:d.procs.length=500
  ·simp only[addR,if_neg hbad,if_neg hfull,hf,if_pos hl] at h
   cases h
  have e:addR d c fr dy=(⟨d.next+1,d.procs.take (lbD d.procs (keyP c.head.name c.head.args.length))++(⟨c.head.name,c.head.args.length,dy,[⟨d.next,c⟩]⟩:Prc)::d.procs.drop (lbD d.procs (keyP c.head.name c.head.args.length))⟩,0):=by simp only[addR,if_neg hbad,if_neg hfull,hf,if_neg hl]
  rw[e,zr0 hf]
  have ht:totD d.procs=totD (d.procs.take (lbD d.procs (keyP c.head.name c.head.args.length))++d.procs.drop (lbD d.procs (keyP c.head.name c.head.args.length))):=by rw[List.take_append_drop]
  rw[zcL] at ht
  have ht':totD (d.procs.take (lbD d.procs (keyP c.head.name c.head.args.length))++(⟨c.head.name,c.head.args.length,dy,[⟨d.next,c⟩]⟩:Prc)::d.procs.drop (lbD d.procs (keyP c.head.name c.head.args.length)))=totD d.procs+1:=by
   rw[zcL,zc3,ht]
   show _+(1+_)=_
   omega
  have hok:okD ⟨d.next+1,d.procs.take (lbD d.procs (keyP c.head.name c.head.args.length))++(⟨c.head.name,c.head.args.length,dy,[⟨d.next,c⟩]⟩:Prc)::d.procs.drop (lbD d.procs (keyP c.head.name c.head.args.length))⟩=true:=by
   have hlb:=zjU d.procs (keyP c.head.name c.head.args.length)
   refine(zbo _).2 ⟨by show 1<=d.next+1;omega,by show d.next+1<=4294967296;omega,?_,by rw[show(Dbs.mk (d.next+1) _).procs=_ from rfl,ht'];omega,zrZ (q:=⟨c.head.name,c.head.args.length,dy,[⟨d.next,c⟩]⟩) d5 hf (zsT hc) (by show d.next<=d.next+1;omega) (List.nodup_cons.2 ⟨by simp,List.nodup_nil⟩) (fun x hx=> ?_) fun x hx=> ?_⟩
   ·simp
    omega
   ·rcases List.mem_singleton.1 hx with rfl
    exact hfresh
   ·rcases List.mem_singleton.1 hx with rfl
    exact hoks _ hs.symm ha.symm
  refine⟨hv,hc,hok,rfl,ht',⟨dy,(za7 hok ..).2 ⟨List.mem_append_right _ (List.mem_cons.2 (.inl ?_)),rfl,rfl⟩⟩,zht hok fun q hq hk=> ?_⟩
  ·unfold insC
   split <;> rfl
  ·show q∈_++_::_
   rw[<-List.take_append_drop (lbD d.procs (keyP c.head.name c.head.args.length)) d.procs] at hq
   rcases List.mem_append.1 hq with hq|hq
   ·exact List.mem_append_left _ hq
   ·exact List.mem_append_right _ (List.mem_cons_of_mem _ hq)
def rmP(id:Int)(p:Prc):Prc:=⟨p.name,p.ar,p.dyn,p.cls.filter fun s=>decide (s.id≠id)⟩
theorem zme{id:Int}{p:Prc}(h:∀s∈p.cls,s.id≠id):rmP id p=p:=by
 unfold rmP
 rw[List.filter_eq_self.2 fun s hs=>decide_eq_true (h s hs)]
theorem zj0{id:Int}{l:List Prc}(h:id ∉ ids l):l.map (rmP id)=l:=by
 have e:∀p∈l,rmP id p=p:=fun p hp=>zme fun s hs e=>h (mem_ids.2 ⟨p,hp,s,hs,e⟩)
 rw[List.map_congr_left (g:=fun p=>p) e]
 simp
theorem zp7(id:Int)(l:List Prc):ids (l.map (rmP id))=(ids l).filter fun x=>decide (x≠id):=by
 induction l with
 |nil=>rfl
 |cons p r ih=>
  rw[List.map_cons,zcj,zcj,ih,List.filter_append]
  congr 1
  show((p.cls.filter _).map _)=_
  rw[List.filter_map]
  rfl
theorem zlh(l:List Prc)(id:Int):whR l id=none↔id ∉ ids l:=by
 constructor
 ·intro h hm
  obtain⟨p,hp,s,hs,e⟩:=mem_ids.1 hm
  induction l with
  |nil=>cases hp
  |cons x r ih=>
   rw[whR] at h
   split at h
   ·cases h
   ·rename_i hk
    split at h
    ·cases h
    ·rename_i hr
     rcases List.mem_cons.1 hp with rfl|hp
     ·unfold idS at hk
      rw[List.findIdx?_eq_none_iff] at hk
      have:=hk s hs
      rw[decide_eq_true e] at this
      cases this
     ·exact ih hr (mem_ids.2 ⟨p,hp,s,hs,e⟩) hp
 ·intro h
  exact zik fun j q hq=>zl6 fun k u hu e=>h (mem_ids.2 ⟨q,List.mem_of_getElem? hq,u,List.mem_of_getElem? hu,e⟩)
theorem znF{l:List Sto}{k:Nat}{s:Sto}(h:l[k]? =some s)(hn:(l.map (·.id)).Nodup):l.take k++l.drop (k+1)=l.filter fun x=>decide (x.id≠s.id):=by
 have e:=ze7 h
 obtain⟨A,hA⟩:∃A,A=l.take k:=⟨_,rfl⟩
 obtain⟨B,hB⟩:∃B,B=l.drop (k+1):=⟨_,rfl⟩
 rw[<-hA,<-hB] at e ⊢
 rw[e,List.map_append,List.map_cons,List.nodup_append,List.nodup_cons] at hn
 obtain⟨n1,⟨n2,n3⟩,n4⟩:=hn
 rw[e,List.filter_append,List.filter_cons_of_neg (by simp),List.filter_eq_self.2,List.filter_eq_self.2]
 ·intro x hx
  refine decide_eq_true fun e2=>n2 (List.mem_map.2 ⟨x,hx,e2⟩)
 ·intro x hx
  exact decide_eq_true fun e2=>n4 x.id (List.mem_map.2 ⟨x,hx,rfl⟩) s.id List.mem_cons_self e2
theorem zmf{d:Dbs}{id:Int}(hv:okD d=true)(h:id∈ids d.procs):eraR d id=(⟨d.next,d.procs.map (rmP id)⟩,true):=by
 cases hw:whR d.procs id with
 |none=>exact absurd h ((zlh ..).1 hw)
 |some x=>
  obtain⟨i,k⟩:=x
  obtain⟨p,s,hpp,hs,hsi⟩:=zgE hw
  have d5:=((zbo d).1 hv).2.2.2.2
  have d5':=d5
  rw[ze7 hpp] at d5'
  obtain⟨g1,g2,g3,g4,g5,g6,g7⟩:=(zeq ..).1 d5'
  have hsm:=List.mem_of_getElem? hs
  have hout:=g6 s hsm
  rw[hsi,zle,List.mem_append,not_or] at hout
  have e1:cutC p k=rmP id p:=by
   unfold cutC rmP
   rw[znF hs g5,hsi]
  have e2:d.procs.modify i (fun p=>cutC p k)=d.procs.map (rmP id):=by
   rw[ziy hpp,zmg hpp,e1]
   have e3:d.procs.map (rmP id)=(d.procs.take i++p::d.procs.drop (i+1)).map (rmP id):=by rw[<-ze7 hpp]
   rw[e3,List.map_append,List.map_cons,zj0 hout.1,zj0 hout.2]
  simp only[eraR,hv,hw,e2]
  rfl
theorem eraR_iff{d:Dbs}{id:Int}:(eraR d id).2=true↔okD d=true/\id∈ids d.procs:=by
 constructor
 ·intro h
  by_cases hv:okD d=true
  ·refine⟨hv,Classical.byContradiction fun hm=> ?_⟩
   have hw:=(zlh d.procs id).2 hm
   simp only[eraR,hv,hw] at h
   cases h
  ·have hv':okD d=false:=by simpa using hv
   simp only[eraR,if_pos hv'] at h
   cases h
 ·rintro⟨hv,hm⟩
  rw[zmf hv hm]
theorem zrX{x:Int}:∀{l:List Int},l.Nodup->x∈l->(l.filter fun y=>decide (y≠x)).length+1=l.length
 |[],_,h=>by cases h
 |y::r,hn,h=>by
  obtain⟨n1,n2⟩:=List.nodup_cons.1 hn
  by_cases e:y=x
  ·subst e
   rw[List.filter_cons_of_neg (by simp),List.filter_eq_self.2]
   ·rfl
   ·exact fun z hz=>decide_eq_true fun e=>n1 (e▸hz)
  ·rw[List.filter_cons_of_pos (by simpa using e)]
   rcases List.mem_cons.1 h with h|h
   ·exact absurd h.symm e
   ·have:=zrX n2 h
    simp only[List.length_cons]
    omega
theorem zt4{n:Int}{l:List Prc}(id:Int)(h:OkP n l):OkP n (l.map (rmP id)):=by
 refine⟨fun p hp=> ?_,?_,?_,fun p hp s hs=> ?_⟩
 ·obtain⟨q,hq,rfl⟩:=List.mem_map.1 hp
  exact h.1 q hq
 ·rw[List.pairwise_map]
  exact h.2.1
 ·rw[zp7]
  exact h.2.2.1.filter _
 ·obtain⟨q,hq,rfl⟩:=List.mem_map.1 hp
  exact zli (h.2.2.2 q hq s (List.mem_filter.1 hs).1) rfl rfl
theorem zj1{d:Dbs}{id:Int}(h:(eraR d id).2=true):okD d=true/\id∈ids d.procs/\(eraR d id).1=⟨d.next,d.procs.map (rmP id)⟩/\okD (eraR d id).1=true/\totD (eraR d id).1.procs+1=totD d.procs/\id ∉ ids (eraR d id).1.procs:=by
 obtain⟨hv,hm⟩:=eraR_iff.1 h
 obtain⟨d1,d2,d3,d4,d5⟩:=(zbo d).1 hv
 have e:=zmf hv hm
 rw[e]
 have ht:totD (d.procs.map (rmP id))+1=totD d.procs:=by
  rw[zmd,zmd,zp7]
  exact zrX d5.2.2.1 hm
 refine⟨hv,hm,rfl,(zbo _).2 ⟨d1,d2,by simpa using d3,by show totD (d.procs.map (rmP id))<=500;omega,zt4 id d5⟩,ht,?_⟩
 show id ∉ ids (d.procs.map (rmP id))
 rw[zp7]
 intro hm2
 have:=(List.mem_filter.1 hm2).2
 simp at this
theorem zp8{α:Type}{f:α->Int}:∀{l:List α},(l.map f).Nodup->∀{a b:α},a∈l->b∈l->f a=f b->a=b
 |[],_,_,_,h,_,_=>by cases h
 |x::r,hn,a,b,ha,hb,e=>by
  rw[List.map_cons,List.nodup_cons] at hn
  rcases List.mem_cons.1 ha with ha'|ha'
  ·rcases List.mem_cons.1 hb with hb'|hb'
   ·rw[ha',hb']
   ·exact absurd (List.mem_map.2 ⟨b,hb',by rw[<-e,ha']⟩) hn.1
  ·rcases List.mem_cons.1 hb with hb'|hb'
   ·exact absurd (List.mem_map.2 ⟨a,ha',by rw[e,hb']⟩) hn.1
   ·exact zp8 hn.2 ha' hb' e
theorem zsU{d:Dbs}(hv:okD d=true){p:Prc}{s:Sto}(hp:p∈d.procs)(hs:s∈p.cls):getR d s.id=some s:=by
 have hm:s.id∈ids d.procs:=mem_ids.2 ⟨p,hp,s,hs,rfl⟩
 cases hw:whR d.procs s.id with
 |none=>exact absurd hm ((zlh ..).1 hw)
 |some x=>
  obtain⟨i,k⟩:=x
  obtain⟨q,u,hqq,hu,e⟩:=zgE hw
  have d5:=((zbo d).1 hv).2.2.2.2
  have hn:((d.procs.flatMap (·.cls)).map (·.id)).Nodup:=by
   rw[List.map_flatMap]
   exact d5.2.2.1
  have hus:u=s:=zp8 hn (List.mem_flatMap.2 ⟨q,List.mem_of_getElem? hqq,List.mem_of_getElem? hu⟩) (List.mem_flatMap.2 ⟨p,hp,hs⟩) e
  unfold getR
  rw[if_pos hv,hw]
  simp[hqq,hu,hus]
theorem zp9{d:Dbs}{c:Cz}{fr dy:Bool}(h:(addR d c fr dy).2=0):getR (addR d c fr dy).1 d.next=some ⟨d.next,c⟩/\(eraR (addR d c fr dy).1 d.next).2=true/\(eraR (addR d c fr dy).1 d.next).1.next=d.next+1/\(∃dyn,zbF (eraR (addR d c fr dy).1 d.next).1 c.head.name c.head.args.length=some ⟨c.head.name,c.head.args.length,dyn,((zbF d c.head.name c.head.args.length).getD zP).cls⟩)/\ApR d (eraR (addR d c fr dy).1 d.next).1 c.head.name c.head.args.length:=by
 obtain⟨hv,hc,hok,hnx,_,⟨dyn,hf⟩,hap⟩:=zjZ h
 obtain⟨n,hn⟩:∃n,n=(addR d c fr dy).1:=⟨_,rfl⟩
 rw[<-hn] at hok hnx hf hap ⊢
 obtain⟨hm,_,_⟩:=(za7 hok ..).1 hf
 have hsm:(⟨d.next,c⟩:Sto)∈insC fr ⟨d.next,c⟩ ((zbF d c.head.name c.head.args.length).getD zP).cls:=insC_mem.2 (.inl rfl)
 have hid:d.next∈ids n.procs:=mem_ids.2 ⟨_,hm,_,hsm,rfl⟩
 have hera:(eraR n d.next).2=true:=eraR_iff.2 ⟨hok,hid⟩
 obtain⟨_,_,e,hok2,_,_⟩:=zj1 hera
 have hold:∀p∈d.procs,∀s∈p.cls,s.id≠d.next:=fun p hp s hs=>by
  have:=((zbo d).1 hv).2.2.2.2.2.2.2 p hp s hs
  have:=this.2.1
  omega
 have hwas:∀s∈((zbF d c.head.name c.head.args.length).getD zP).cls,s.id≠d.next:=fun s hs=>by
  cases e2:zbF d c.head.name c.head.args.length with
  |none=>
   rw[e2] at hs
   cases hs
  |some p=>
   rw[e2] at hs
   exact hold p ((za7 hv ..).1 e2).1 s hs
 refine⟨zsU hok hm hsm,hera,by rw[e];exact hnx,⟨dyn,(za7 hok2 ..).2 ⟨?_,rfl,rfl⟩⟩,zht hok2 fun q hq hk=> ?_⟩
 ·rw[e]
  refine List.mem_map.2 ⟨_,hm,?_⟩
  unfold rmP
  congr 1
  unfold insC
  split
  ·show(List.filter _ (_::_))=_
   rw[List.filter_cons_of_neg (by simp),List.filter_eq_self.2 fun s hs=>decide_eq_true (hwas s hs)]
  ·show(List.filter _ (_++_))=_
   rw[List.filter_append,List.filter_eq_self.2 fun s hs=>decide_eq_true (hwas s hs),List.filter_cons_of_neg (by simp)]
   simp
 ·rw[e]
  have:=hap q hq hk
  exact List.mem_map.2 ⟨q,((za7 hok ..).1 this).1,zme fun s hs=>hold q hq s hs⟩
def zt3:List UInt8:=[116,114,117,101]
def zcP(n:List UInt8):Cz:=⟨⟨2,0,n,[]⟩,⟨2,0,zt3,[]⟩⟩
theorem zsR(n:List UInt8)(hp:Heap):S 10 [.pv none (.str n)] hp=some (.ret (zcP n).av,hp):=by
 refine zam rfl rfl rfl (zaf [(none,.str n)]) rfl ?_
 have b1:zaN [(none,.pv none (.int .i64 0)),(none,.pv none (.int .i64 0)),(none,.pv none (.str [])),(none,.tsl (some 4) [])] [0,2] [.pv none (.int .i64 2),.pv none (.str n)]=some (.agg [(none,.pv none (.int .i64 2)),(none,.pv none (.int .i64 0)),(none,.pv none (.str n)),(none,.tsl (some 4) [])]):=rfl
 have b2:zaN [(none,.pv none (.int .i64 0)),(none,.pv none (.int .i64 0)),(none,.pv none (.str [])),(none,.tsl (some 4) [])] [0,2] [.pv none (.int .i64 2),.pv none (.str [116,114,117,101])]=some (.agg [(none,.pv none (.int .i64 2)),(none,.pv none (.int .i64 0)),(none,.pv none (.str [116,114,117,101])),(none,.tsl (some 4) [])]):=rfl
 have b3:zaN [(some 4,.agg [(none,.pv none (.int .i64 0)),(none,.pv none (.int .i64 0)),(none,.pv none (.str [])),(none,.tsl (some 4) [])]),(some 4,.agg [(none,.pv none (.int .i64 0)),(none,.pv none (.int .i64 0)),(none,.pv none (.str [])),(none,.tsl (some 4) [])])] [0,1] [.agg [(none,.pv none (.int .i64 2)),(none,.pv none (.int .i64 0)),(none,.pv none (.str n)),(none,.tsl (some 4) [])],.agg [(none,.pv none (.int .i64 2)),(none,.pv none (.int .i64 0)),(none,.pv none (.str [116,114,117,101])),(none,.tsl (some 4) [])]]=some (.agg [(some 4,.agg [(none,.pv none (.int .i64 2)),(none,.pv none (.int .i64 0)),(none,.pv none (.str n)),(none,.tsl (some 4) [])]),(some 4,.agg [(none,.pv none (.int .i64 2)),(none,.pv none (.int .i64 0)),(none,.pv none (.str [116,114,117,101])),(none,.tsl (some 4) [])])]):=rfl
 simp -dsimp -implicitDefEqProofs only[go_sem,seval,↓reduceIte,b1,b2,b3,zac (Nat.zero_le _),List.append_assoc,zad,zaa,zae,zab,Nat.add_assoc,List.length_append]
 try exact⟨_,rfl⟩
def aN:List UInt8:=[97]
def d1E:Dbs:=⟨2,[⟨aN,0,false,[⟨1,zcP aN⟩]⟩]⟩
def d2E:Dbs:=⟨3,[⟨aN,0,false,[⟨2,zcP aN⟩,⟨1,zcP aN⟩]⟩]⟩
def d3E:Dbs:=⟨3,[⟨aN,0,false,[⟨2,zcP aN⟩]⟩]⟩
theorem k1:okD nilD=true:=by decide+kernel
theorem k2:okD d1E=true:=by decide+kernel
theorem k3:okD d2E=true:=by decide+kernel
theorem a1E:addR nilD (zcP aN) false false=(d1E,0):=by kernel_rfl
theorem a2E:addR d1E (zcP aN) true true=(d2E,0):=by kernel_rfl
theorem f2E:zbF d2E aN 0=some ⟨aN,0,false,[⟨2,zcP aN⟩,⟨1,zcP aN⟩]⟩:=by kernel_rfl
theorem e2E:eraR d2E 1=(d3E,true):=by kernel_rfl
theorem k4:okD d3E=true:=by decide+kernel
theorem znB(s s':Sh)(p q:PV)(H:Heap):(AV.tuple [.pv s p,.pv s' q]).alone H=some (.tuple [.pv s p,.pv s' q]):=rfl
set_option maxRecDepth 20000 in
theorem zjX:S 9 [] []=some (.ret (.pv none (.bool true)),[]):=by
 refine zam (ps:=[]) rfl rfl rfl rfl rfl ?_
 have z1:(zcP aN).head.size<100000000:=by decide+kernel
 have z2:(zcP aN).body.size<100000000:=by decide+kernel
 have h1:=fun hp=>zrV hp
 have h2:=fun hp=>zsR aN hp
 have h3:=fun hp=>znJ nilD (zfN k1) (zcP aN) z1 z2 false false hp
 rw[a1E] at h3
 have h4:=fun hp=>znJ d1E (zfN k2) (zcP aN) z1 z2 true true hp
 rw[a2E] at h4
 have h5:=fun hp=>zsP d2E (zfN k3) aN 0 hp
 rw[f2E] at h5
 have h6:=fun hp=>zlj d2E (zfN k3) 1 hp
 rw[e2E] at h6
 have h7:=fun hp=>zl4 d2E (zfN k3) hp
 have h8:=fun hp=>zl4 d3E (zfN k4) hp
 rw[k3] at h7
 rw[k4] at h8
 have t2:((totD d2E.procs:Nat):Int)=2:=rfl
 have t3:((totD d3E.procs:Nat):Int)=1:=rfl
 rw[if_pos rfl,t2] at h7
 rw[if_pos rfl,t3] at h8
 obtain⟨P,hP⟩:∃P:Prc,P=⟨aN,0,false,[⟨2,zcP aN⟩,⟨1,zcP aN⟩]⟩:=⟨_,rfl⟩
 rw[<-hP] at h5
 have p1:PV.part deep P.pv 2 none=some (.bool false):=by rw[hP];rfl
 have p2:PV.part deep P.pv 3 none=some (.sl (some 9) [(Sto.mk 2 (zcP aN)).pv,(Sto.mk 1 (zcP aN)).pv]):=by rw[hP];rfl
 have p3:PV.part deep d3E.pv 0 none=some (.int .i64 3):=rfl
 have hnil:∀H:Heap,zah [(none,.nilv (some 4))] H=([(none,.nilv (some 4))],H):=fun _=>rfl
 have hi0:zaW (some 9) [.pv none (.sl (some 9) [(Sto.mk 2 (zcP aN)).pv,(Sto.mk 1 (zcP aN)).pv]),.pv none (.int .i64 0)]=some (.iptr (some 9) (Sto.mk 2 (zcP aN)).pv 0):=rfl
 have p4:PV.part deep (Sto.mk 2 (zcP aN)).pv 0 none=some (.int .i64 2):=rfl
 simp only[Dbs.av,Cz.av,Prc.av,aN,Option.getD_some,Option.isSome_some] at h1 h2 h3 h4 h5 h6 h7 h8
 simp only[aN] at p2 hi0 p4
 simp -dsimp -implicitDefEqProofs only[go_sem,seval,↓reduceIte,h1,h2,h3,h4,h5,h6,h7,h8,p1,p2,p3,p4,hi0,hnil,znB,zac (Nat.zero_le _),List.append_assoc,zad,zaa,zae,zab,Nat.add_assoc,List.length_append]
 try rfl
theorem znC(hp:Heap):S 9 [] hp=some (.ret (.pv none (.bool true)),hp):=zpB (F:=find tab) (prim:=prim) (f:=9) (args:=[]) (ps:=[]) (hp:=hp) (hp1:=hp) rfl rfl rfl rfl zjX
structure Acx where
 what:Int
 name:List UInt8
 ar:Int
 id:Int
 cl:Cz
 fr:Bool
 dy:Bool
def Acx.pv(x:Acx):PV:=.agg [(none,.int .i64 x.what),(none,.str x.name),(none,.int .i64 x.ar),(none,.int .i64 x.id),(some 8,x.cl.pv),(none,.bool x.fr),(none,.bool x.dy)]
def Acx.av(x:Acx):AV:=.pv (some 14) x.pv
def Acx.pvs(l:List Acx):List PV:=l.map Acx.pv
theorem Acx.pvs_len(l:List Acx):(Acx.pvs l).length=l.length:=by simp[Acx.pvs]
theorem Acx.pvs_get{l:List Acx}{i:Nat}{s:Acx}(h:l[i]? =some s):(Acx.pvs l)[i]? =some s.pv:=by simp[Acx.pvs,h]
theorem zc4(x:Acx):PV.part deep x.pv 0 none=some (.int .i64 x.what):=rfl
theorem zer(x:Acx):PV.part deep x.pv 1 none=some (.str x.name):=rfl
theorem zit(x:Acx):PV.part deep x.pv 2 none=some (.int .i64 x.ar):=rfl
theorem ziu(x:Acx):PV.part deep x.pv 3 none=some (.int .i64 x.id):=rfl
theorem ziv(x:Acx):PV.part deep x.pv 4 (some 8)=some x.cl.pv:=by
 obtain⟨_,_,_,_,⟨⟨_,_,_,_⟩,⟨_,_,_,_⟩⟩,_,_⟩:=x
 rfl
theorem ziw(x:Acx):PV.part deep x.pv 12 none=some (.bool x.fr):=by
 obtain⟨_,_,_,_,⟨⟨_,_,_,_⟩,⟨_,_,_,_⟩⟩,_,_⟩:=x
 rfl
theorem zix(x:Acx):PV.part deep x.pv 13 none=some (.bool x.dy):=by
 obtain⟨_,_,_,_,⟨⟨_,_,_,_⟩,⟨_,_,_,_⟩⟩,_,_⟩:=x
 rfl
def actR(d:Dbs)(x:Acx):Dbs × Bool × Int:=
 if x.what=0 then((zc2 d x.name x.ar x.dy).1,decide ((zc2 d x.name x.ar x.dy).2=0),(zc2 d x.name x.ar x.dy).2)
 else if x.what=1 then((addR d x.cl x.fr x.dy).1,decide ((addR d x.cl x.fr x.dy).2=0),(addR d x.cl x.fr x.dy).2)
 else if x.what=2 then((eraR d x.id).1,(eraR d x.id).2,0)
 else if x.what=3 then((aboR d x.name x.ar).1,(aboR d x.name x.ar).2,0)
 else(d,true,0)
set_option maxRecDepth 20000 in
theorem zsY(d:Dbs)(hb:BndD d)(x:Acx)(z1:x.cl.head.size<100000000)(z2:x.cl.body.size<100000000)(hp:Heap):S 22 [d.av,x.av] hp=some (.ret (.tuple [(actR d x).1.av,.pv none (.bool (actR d x).2.1),.pv none (.int .i64 (actR d x).2.2)]),hp):=by
 refine zam rfl rfl rfl (zaf [(some 2,d.pv),(some 14,x.pv)]) rfl ?_
 have hnil:∀H:Heap,zah [(none,.nilv (some 4))] H=([(none,.nilv (some 4))],H):=fun _=>rfl
 have h0:=fun hp=>znA d hb x.name x.ar x.dy hp
 have h1:=fun hp=>znJ d hb x.cl z1 z2 x.fr x.dy hp
 have h2:=fun hp=>zlj d hb x.id hp
 have h3:=fun hp=>zmm d hb x.name x.ar hp
 simp only[Dbs.av,Cz.av] at h0 h1 h2 h3
 unfold actR
 by_cases k0:x.what=0
 ·rw[if_pos k0]
  have k0':=eq_true k0
  simp -dsimp -implicitDefEqProofs only[go_sem,seval,↓reduceIte,Dbs.av,Acx.av,zc4,zer,zit,ziu,ziv,ziw,zix,k0',h0,hnil,zac (Nat.zero_le _),List.append_assoc,zad,zaa,zae,zab,Nat.add_assoc,List.length_append]
  try exact⟨_,rfl⟩
 have k0':=eq_false k0
 by_cases k1:x.what=1
 ·rw[if_neg k0,if_pos k1]
  have k1':=eq_true k1
  simp -dsimp -implicitDefEqProofs only[go_sem,seval,↓reduceIte,Dbs.av,Acx.av,zc4,zer,zit,ziu,ziv,ziw,zix,k0',k1',h1,hnil,zac (Nat.zero_le _),List.append_assoc,zad,zaa,zae,zab,Nat.add_assoc,List.length_append]
  try exact⟨_,rfl⟩
 have k1':=eq_false k1
 by_cases k2:x.what=2
 ·rw[if_neg k0,if_neg k1,if_pos k2]
  have k2':=eq_true k2
  simp -dsimp -implicitDefEqProofs only[go_sem,seval,↓reduceIte,Dbs.av,Acx.av,zc4,zer,zit,ziu,ziv,ziw,zix,k0',k1',k2',h2,hnil,zac (Nat.zero_le _),List.append_assoc,zad,zaa,zae,zab,Nat.add_assoc,List.length_append]
  try exact⟨_,rfl⟩
 have k2':=eq_false k2
 by_cases k3:x.what=3
 ·rw[if_neg k0,if_neg k1,if_neg k2,if_pos k3]
  have k3':=eq_true k3
  simp -dsimp -implicitDefEqProofs only[go_sem,seval,↓reduceIte,Dbs.av,Acx.av,zc4,zer,zit,ziu,ziv,ziw,zix,k0',k1',k2',k3',h3,hnil,zac (Nat.zero_le _),List.append_assoc,zad,zaa,zae,zab,Nat.add_assoc,List.length_append]
  try exact⟨_,rfl⟩
 have k3':=eq_false k3
 rw[if_neg k0,if_neg k1,if_neg k2,if_neg k3]
 simp -dsimp -implicitDefEqProofs only[go_sem,seval,↓reduceIte,Dbs.av,Acx.av,zc4,zer,zit,ziu,ziv,ziw,zix,k0',k1',k2',k3',hnil,zac (Nat.zero_le _),List.append_assoc,zad,zaa,zae,zab,Nat.add_assoc,List.length_append]
 try exact⟨_,rfl⟩
theorem znI{d:Dbs}{x:Acx}(hv:okD d=true)(h:(actR d x).2.1=true):okD (actR d x).1=true/\(x.what=1->(actR d x).1.next=d.next+1/\getR (actR d x).1 d.next=some ⟨d.next,x.cl⟩)/\(x.what≠1->(actR d x).1.next=d.next):=by
 unfold actR at h ⊢
 by_cases k0:x.what=0
 ·rw[if_pos k0] at h ⊢
  obtain⟨_,a,b,_⟩:=znH (of_decide_eq_true h)
  exact⟨a,fun k=>by omega,fun _=>b⟩
 by_cases k1:x.what=1
 ·rw[if_neg k0,if_pos k1] at h ⊢
  have h':=of_decide_eq_true h
  obtain⟨_,_,a,b,_⟩:=zjZ h'
  exact⟨a,fun _=>⟨b,(zp9 h').1⟩,fun k=>absurd k1 k⟩
 by_cases k2:x.what=2
 ·rw[if_neg k0,if_neg k1,if_pos k2] at h ⊢
  obtain⟨_,_,a,b,_⟩:=zj1 h
  exact⟨b,fun k=>by omega,fun _=>by rw[a]⟩
 by_cases k3:x.what=3
 ·rw[if_neg k0,if_neg k1,if_neg k2,if_pos k3] at h ⊢
  obtain⟨p,_,_,a,_,_,b,_⟩:=zqa h
  exact⟨a,fun k=>by omega,fun _=>b⟩
 rw[if_neg k0,if_neg k1,if_neg k2,if_neg k3]
 exact⟨hv,fun k=>absurd k k1,fun _=>rfl⟩
set_option maxRecDepth 20000 in
theorem zld(l:List Acx)(hl:l.length<1000000000)(hz:∀x∈l,x.cl.head.size<100000000/\x.cl.body.size<100000000):S 7 [.pv none (.sl (some 14) (Acx.pvs l))] []=some (.ret (.pv none (.bool true)),[]):=by
 refine zam rfl rfl rfl (zaf [(none,.sl (some 14) (Acx.pvs l))]) rfl ?_
 have hex:=fun hp=>znC hp
 have hnw:=fun hp=>zrV hp
 have hnil:∀H:Heap,zah [(none,.nilv (some 4))] H=([(none,.nilv (some 4))],H):=fun _=>rfl
 simp only[Dbs.av] at hnw
 simp -dsimp -implicitDefEqProofs only[go_sem,seval,↓reduceIte,hnw,hnil,zac (Nat.zero_le _),List.append_assoc,zad,zaa,zae,zab,Nat.add_assoc,List.length_append]
 refine zeo (α:=Dbs × Int) (min l.length 40) (fun _ s=>okD s.1=true/\0<=s.2/\s.2<s.1.next) (fun i s=>⟨[(0,.pv none (.sl (some 14) (Acx.pvs l))),(3,.ptr 0 0),(4,.pv none (.int .i64 s.2)),(5,.pv none (.int .i64 i))],[.box (some 2) (.pv (some 2) s.1.pv)]⟩) (nilD,0) ⟨⟨k1,by decide,by decide⟩,rfl⟩ ?_ ?_
 ·rintro i ⟨d,last⟩ h ⟨hv,hl0,hl1⟩
  dsimp only at hv hl0 hl1 ⊢
  have hi1:i<l.length:=by omega
  have hc1:(i:Int)<(l.length:Int):=by omega
  have hc2:(i:Int)<40:=by omega
  have w1:IntKind.i64.wrap ((i:Int)+1)=((i+1:Nat):Int):=by rw[zaZ (by omega) (by omega)];omega
  obtain⟨x,hx⟩:∃x,l[i]? =some x:=⟨_,List.getElem?_eq_getElem hi1⟩
  obtain⟨z1,z2⟩:=hz x (List.mem_of_getElem? hx)
  have h1:=fun hp=>zsY d (zfN hv) x z1 z2 hp
  have hsp:=znI (x:=x) hv
  have d5:=(zbo d).1 hv
  generalize actR d x=R at*
  obtain⟨n,ok,e⟩:=R
  dsimp only at h1 hsp
  simp only[Dbs.av,Acx.av] at h1
  cases ok with
  |false=>
   simp -dsimp -implicitDefEqProofs only[go_sem,seval,↓reduceIte,Acx.pvs_len,hc1,hc2,w1,zak (Acx.pvs_get hx),h1,hnil,zac (Nat.zero_le _),List.append_assoc,zad,zaa,zae,zab,Nat.add_assoc,List.length_append]
   exact⟨(d,last),⟨hv,hl0,hl1⟩,rfl⟩
  |true=>
   obtain⟨hok,ha,hb⟩:=hsp rfl
   have n5:=(zbo n).1 hok
   by_cases hw:x.what=1
   ·have hw':=eq_true hw
    obtain⟨hnx,hgt⟩:=ha hw
    have p1:PV.part deep n.pv 0 none=some (.int .i64 (d.next+1)):=by rw[zaz,hnx]
    have w2:IntKind.i64.wrap (d.next+1 - 1)=d.next:=by rw[zaZ (by omega) (by omega)];omega
    have hle:¬d.next<=last:=by omega
    have h2:=fun hp=>ztB n (zfN hok) d.next hp
    rw[hgt] at h2
    simp only[Dbs.av,Sto.av,Option.getD_some,Option.isSome_some] at h2
    simp -dsimp -implicitDefEqProofs only[go_sem,seval,↓reduceIte,Acx.pvs_len,hc1,hc2,w1,zak (Acx.pvs_get hx),zc4,hw',p1,w2,hle,h1,h2,hnil,zac (Nat.zero_le _),List.append_assoc,zad,zaa,zae,zab,Nat.add_assoc,List.length_append]
    exact⟨(n,d.next),⟨hok,by show 0<=d.next;omega,by show d.next<n.next;omega⟩,rfl⟩
   ·have hw':=eq_false hw
    have hnx:=hb hw
    have p1:PV.part deep n.pv 0 none=some (.int .i64 d.next):=by rw[zaz,hnx]
    simp -dsimp -implicitDefEqProofs only[go_sem,seval,↓reduceIte,Acx.pvs_len,hc1,hc2,w1,zak (Acx.pvs_get hx),zc4,hw',p1,zaz,h1,hnil,zac (Nat.zero_le _),List.append_assoc,zad,zaa,zae,zab,Nat.add_assoc,List.length_append]
    exact⟨(n,last),⟨hok,hl0,by show last<n.next;omega⟩,rfl⟩
 ·rintro⟨d,last⟩ -
  by_cases hc:l.length<=40
  ·have hm:((min l.length 40:Nat):Int)=(l.length:Int):=by omega
   have hc1:¬(l.length:Int)<(l.length:Int):=by omega
   simp -dsimp -implicitDefEqProofs only[go_sem,seval,↓reduceIte,Acx.pvs_len,hm,hc1,hex,List.append_assoc,zad,zaa,zae,zab,Nat.add_assoc,List.length_append]
   try rfl
  ·have hm:((min l.length 40:Nat):Int)=40:=by omega
   have hc1:(40:Int)<(l.length:Int):=by omega
   have hc2:¬(40:Int)<40:=by omega
   simp -dsimp -implicitDefEqProofs only[go_sem,seval,↓reduceIte,Acx.pvs_len,hm,hc1,hc2,hex,List.append_assoc,zad,zaa,zae,zab,Nat.add_assoc,List.length_append]
   try rfl
end Go.Proofs.Ytligpohiokpnhaa
namespace Go.Proofs.Ytligpohiokpnhaa
open Go.Am Go.ChangeShapes Go.WideShapes Go.ChangeAt Go.RowKit
theorem zpO(H:Type):BulkLaws (H:=H) Rows.uptoBulk Rows.uptoBulkAll where
 nil:=by simp[Rows.uptoBulkAll]
 cons d r:=by simp[Rows.uptoBulkAll]
 slice e s:=by simp[Rows.uptoBulk]
 agg l:=by simp[Rows.uptoBulk]
 string l:=by simp[Rows.uptoBulk]
theorem znx{H:Type}{l:List (DataW H)}(hk:Rows.uptoSmall H l=true):Rows.uptoBulkAll l<=1048576:=of_decide_eq_true hk
def zlX(P:Program)(tA tT:TypeId):Bool:=
 (match P.underlying tA with|some (.slice t)=>t == tT|_=>false) &&
 (match P.underlying tT with
  |some (.struct fs)=>match fs.toList.map (·.type) with
   |[a,b,c,d]=>d == tA && (match P.underlying a with|some (.int .i64)=>true|_=>false) && (match P.underlying b with|some (.int .i64)=>true|_=>false) && (match P.underlying c with|some .string=>true|_=>false) && decide (shOf P a=none) && decide (shOf P b=none) && decide (shOf P c=none)
   |_=>false
  |_=>false) && decide (shOf P tT=some 4) && decide (shOf P tA=none)
theorem zk8{P:Program}{tA tT:TypeId}(h:zlX P tA tT=true):TermTy P tA tT:=by
 unfold zlX at h
 simp only[Bool.and_eq_true,decide_eq_true_eq] at h
 obtain⟨⟨⟨h1,h2⟩,h3⟩,h4⟩:=h
 refine⟨?_,?_⟩
 ·split at h1
  ·rename_i t ht;rw[ht];simp at h1;rw[h1]
  ·cases h1
 ·split at h2
  ·rename_i fs hfs
   split at h2
   ·rename_i a b c d hl
    simp only[Bool.and_eq_true,decide_eq_true_eq,beq_iff_eq] at h2
    obtain⟨⟨⟨⟨⟨⟨k1,k2⟩,k3⟩,k4⟩,k5⟩,k6⟩,k7⟩:=h2
    subst k1
    refine⟨fs,a,b,c,hfs,hl,?_,?_,?_,h3,h4,k5,k6,k7⟩
    ·split at k2
     ·assumption
     ·cases k2
    ·split at k3
     ·assumption
     ·cases k3
    ·split at k4
     ·assumption
     ·cases k4
   ·cases h2
  ·cases h2
theorem zrT:TermTy Try.prog 22 24:=zk8 (by kernel_rfl)
def zpP:List TypeId:=[2,3,4,5,9,22,24,26,37,32,34,29,31,62,57]
theorem closed:zlR Try.prog zpP=true:=by kernel_rfl
end Go.Proofs.Ytligpohiokpnhaa
namespace Go.Proofs.Ytligpohiokpnhaa
open Go.Am Go.ChangeShapes Go.WideShapes Go.ChangeAt Go.RowKit
theorem zny(H:Type):BulkLaws2 (H:=H) Rows.uptoBulk Rows.uptoBulkAll:=
 ⟨zpO H,fun d=>by
  cases d with
  |lit l=>cases l <;> simp[Rows.uptoBulk]
  |_=>simp[Rows.uptoBulk]⟩
set_option maxRecDepth 100000 in
theorem zru{H:Type}{enc:TypeId × Value->H}{W:World}{base:Nat}{v:Value}{d:DataW H}{ps:List MemPlace}{t:TypeId}(ht:t∈zpP)(hok:okT Try.prog t=true)(h:DataW.Trod enc Try.prog W 0 (fun _=>true) true t v d ps)(hv:Value.okWide Try.prog W .any base t v):
  ∃n p,AR W (noX (P:=Try.prog)) noμ [] (.pv (shOf Try.prog t) p) v/\wt Try.prog n t p/\p.sz<=Rows.uptoBulk d:=by
 obtain⟨fuel,h0⟩:=h
 obtain⟨p,hp⟩:=zpC closed fuel _ _ _ _ ht h0
 obtain⟨h1,h2⟩:=zpD (zny H) fuel _ _ _ hp
 exact⟨fuel,p,ztt ⟨fuel,h0⟩ hok hp (znu hv),h1,h2⟩
theorem zt0{n:Nat}{t e:TypeId}{p:PV}(hk:Try.prog.underlying t=some (.slice e))(h:wt Try.prog n t p):∃es m,p=.sl (shOf Try.prog e) es/\∀x∈es,wt Try.prog m e x:=by
 cases n with
 |zero=>exact h.elim
 |succ n=>unfold wt at h;rw[hk] at h;obtain⟨es,h1,h2⟩:=h;exact⟨es,n,h1,h2⟩
end Go.Proofs.Ytligpohiokpnhaa
namespace Go.Proofs.Ytligpohiokpnhaa
open Go.Am Go.ChangeShapes Go.WideShapes Go.ChangeAt Go.RowKit
theorem zpQ{n:Nat}{p:PV}(h:wt Try.prog n 26 p):∃x:Cz,p=x.pv:=by
 obtain⟨m,l,rfl,h'⟩:=zjP (ts:=[24,24]) (by kernel_rfl) h
 obtain⟨a,l,rfl,ha,h⟩:=zba h'
 obtain⟨b,l,rfl,hb,h⟩:=zba h
 obtain rfl:=zhp h
 obtain⟨x,rfl,_⟩:=(zk7 zrT m).1 a ha
 obtain⟨y,rfl,_⟩:=(zk7 zrT m).1 b hb
 refine⟨⟨x,y⟩,?_⟩
 rw[show shOf Try.prog 24=some 4 from by kernel_rfl]
 rfl
theorem zt1(c:Cz):c.head.size<=c.pv.sz/\c.body.size<=c.pv.sz:=by
 have h1:=Tm.zul c.head
 have h2:=Tm.zul c.body
 simp[Cz.pv,PV.sz,PV.szc]
 omega
end Go.Proofs.Ytligpohiokpnhaa
namespace Go.Proofs.Ytligpohiokpnhaa
open Go.Am Go.ChangeShapes Go.WideShapes Go.ChangeAt Go.RowKit
theorem ztz{n:Nat}{p:PV}(h:wt Try.prog n 62 p):∃x:Acx,p=x.pv:=by
 obtain⟨m,l,rfl,h'⟩:=zjP (ts:=[3,9,3,2,26,4,4]) (by kernel_rfl) h
 obtain⟨a,l,rfl,ha,h⟩:=zba h'
 obtain⟨b,l,rfl,hb,h⟩:=zba h
 obtain⟨c,l,rfl,hc,h⟩:=zba h
 obtain⟨d,l,rfl,hd,h⟩:=zba h
 obtain⟨e,l,rfl,he,h⟩:=zba h
 obtain⟨f,l,rfl,hf,h⟩:=zba h
 obtain⟨g,l,rfl,hg,h⟩:=zba h
 obtain rfl:=zhp h
 obtain⟨a,rfl,_⟩:=zpF (by kernel_rfl) ha
 obtain⟨b,rfl⟩:=ztw (by kernel_rfl) hb
 obtain⟨c,rfl,_⟩:=zpF (by kernel_rfl) hc
 obtain⟨d,rfl,_⟩:=zpF (by kernel_rfl) hd
 obtain⟨e,rfl⟩:=zpQ he
 obtain⟨f,rfl⟩:=zpG (by kernel_rfl) hf
 obtain⟨g,rfl⟩:=zpG (by kernel_rfl) hg
 refine⟨⟨a,b,c,d,e,f,g⟩,?_⟩
 rw[show shOf Try.prog 9=none from by kernel_rfl,show shOf Try.prog 3=none from by kernel_rfl,show shOf Try.prog 4=none from by kernel_rfl,show shOf Try.prog 2=none from by kernel_rfl,show shOf Try.prog 26=some 8 from by kernel_rfl]
 rfl
theorem ztA(x:Acx):x.cl.pv.sz<=x.pv.sz:=by
 simp[Acx.pv,PV.sz,PV.szc]
 omega
theorem zpR:∀l:List Acx,l.length<=PV.szs (Acx.pvs l)/\∀x∈l,x.cl.head.size<=PV.szs (Acx.pvs l)/\x.cl.body.size<=PV.szs (Acx.pvs l)
 |[]=>⟨Nat.zero_le _,fun b hb=>by cases hb⟩
 |x::r=>by
  obtain⟨h1,h2⟩:=zpR r
  have h4:PV.szs (Acx.pvs (x::r))=x.pv.sz+PV.szs (Acx.pvs r):=by simp[Acx.pvs,PV.szs]
  have h5:1<=x.pv.sz:=by simp[Acx.pv,PV.sz];try omega
  have h6:=ztA x
  have h7:=zt1 x.cl
  refine⟨by simp only[List.length_cons];omega,fun b hb=> ?_⟩
  rcases List.mem_cons.1 hb with rfl|hb
  ·omega
  ·have:=h2 b hb;omega
set_option maxRecDepth 100000 in
theorem zpS{H:Type}{enc:TypeId × Value->H}{W:World}{base:Nat}{v:Value}{d:DataW H}{ps:List MemPlace}(h:DataW.Trod enc Try.prog W 0 (fun _=>true) true 57 v d ps)(hv:Value.okWide Try.prog W .any base 57 v):
  ∃l:List Acx,AR W (noX (P:=Try.prog)) noμ [] (.pv none (.sl (some 14) (Acx.pvs l))) v/\PV.szs (Acx.pvs l)<=Rows.uptoBulk d:=by
 obtain⟨n,p,h1,h2,h3⟩:=zru (by decide) (by kernel_rfl) h hv
 obtain⟨es,m,rfl,he⟩:=zt0 (e:=62) (by kernel_rfl) h2
 obtain⟨gs,rfl,_⟩:=zpH (f:=Acx.pv) (Q:=fun _=>True) es fun x hx=>by
  obtain⟨g,rfl⟩:=ztz (he x hx)
  exact⟨g,rfl,trivial⟩
 rw[show shOf Try.prog 57=none from by kernel_rfl,show shOf Try.prog 62=some 14 from by kernel_rfl] at h1
 have h5:PV.szs (Acx.pvs gs)<=(PV.sl (shOf Try.prog 62) (gs.map Acx.pv)).sz:=by simp only[PV.sz,Acx.pvs];omega
 exact⟨gs,h1,by omega⟩
end Go.Proofs.Ytligpohiokpnhaa
