/- What is proved: db.Find. -/
import Derived.Test.YtligpohiokpnhaaDb5
set_option linter.unusedSimpArgs false
set_option linter.unusedVariables false
namespace Go.Proofs.Ytligpohiokpnhaa
open Go.Am
theorem zij{c:Cz}(h:okC c=true):c.head.valid=true/\c.body.valid=true:=by
 simp only[okC,Bool.and_eq_true] at h
 obtain⟨h1,_,_,h4,_⟩:=h
 refine⟨h1,?_⟩
 split at h4
 ·rename_i g hg
  exact(zhu hg).1
 ·cases h4
theorem zpY(next:Int)(p:Prc):∀(l:List Sto) (seen s':List Int),okSs next p seen l=some s'->∀s∈l,okC s.cl=true
 |[],_,_,_,s,hs=>by cases hs
 |x::r,seen,s',h,s,hs=>by
  rw[okSs] at h
  split at h
  ·rename_i hx
   rcases List.mem_cons.1 hs with rfl|hs
   ·simp only[okSt,Bool.and_eq_true] at hx
    exact hx.2.2.2.1
   ·exact zpY next p r _ s' h s hs
  ·cases h
theorem zpZ(next:Int):∀(l:List Prc) (q:Option Prc) (seen:List Int),okPs next q seen l=true->∀p∈l,okCl p
 |[],_,_,_,p,hp=>by cases hp
 |x::r,q,seen,h,p,hp=>by
  rw[okPs,Bool.and_eq_true,Bool.and_eq_true] at h
  obtain⟨_,_,h3⟩:=h
  split at h3
  ·cases h3
  ·rename_i s' hs
   rcases List.mem_cons.1 hp with rfl|hp
   ·exact fun s hs'=>zij (zpY next _ _ _ _ hs s hs')
   ·exact zpZ next r (some x) s' h3 p hp
theorem ze4{d:Dbs}(h:okD d=true):∀p∈d.procs,okCl p:=by
 simp only[okD,Bool.and_eq_true] at h
 exact zpZ _ _ _ _ h.2.2.2.2
def zP:Prc:=⟨[],0,false,[]⟩
def keyP(s:List UInt8)(a:Int):Prc:=⟨s,a,false,[]⟩
def zbF(d:Dbs)(s:List UInt8)(a:Int):Option Prc:=if okD d=true then(if fnD d.procs (keyP s a)=true then d.procs[lbD d.procs (keyP s a)]? else none) else none
theorem zp0(p:Prc)(q:Nat)(H:Heap)(z:Bool)(h:H[q]? =some (.arr (some 9) (Sto.pvs p.cls) z)):AV.freeze deep (pA p q) H=some (p.pv,H.set q (.arr (some 9) (Sto.pvs p.cls) true)):=by
 have e:∀n l hp,AV.freeze (n+1) (.agg l) hp=match AV.freeze.go n l hp with|some (ps,hp')=>some (.agg ps,hp')|none=>none:=fun _ _ _=>rfl
 show AV.freeze (7+1) (.agg _) _=_
 simp[e,AV.freeze.go,AV.freeze,h,Sto.pvs_len,Prc.pv]
set_option maxRecDepth 20000 in
theorem zsP(d:Dbs)(hb:BndD d)(s:List UInt8)(a:Int)(hp:Heap):S 14 [d.av,.pv none (.str s),.pv none (.int .i64 a)] hp=some (.ret (.tuple [((zbF d s a).getD zP).av,.pv none (.bool (zbF d s a).isSome)]),hp):=by
 refine zam rfl rfl rfl (zaf [(some 2,d.pv),(none,.str s),(none,.int .i64 a)]) rfl ?_
 have h1:=fun hp=>zaM d hb.1 hb.2.1 hb.2.2 hp
 have hz0:zaN [(none,.pv none (.str [])),(none,.pv none (.int .i64 0)),(none,.pv none (.bool false)),(none,.tsl (some 9) [])] [] []=some (.agg [(none,.pv none (.str [])),(none,.pv none (.int .i64 0)),(none,.pv none (.bool false)),(none,.tsl (some 9) [])]):=rfl
 simp only[Dbs.av] at h1
 by_cases hv:okD d=true
 rotate_left
 ·have hv':okD d=false:=by simpa using hv
  have e:zbF d s a=none:=by unfold zbF;rw[if_neg hv]
  rw[hv'] at h1
  rw[e]
  simp -dsimp -implicitDefEqProofs only[go_sem,seval,↓reduceIte,Dbs.av,h1,hz0,zac (Nat.zero_le _),List.append_assoc,zad,zaa,zae,zab,Nat.add_assoc,List.length_append]
  exact⟨_,rfl⟩
 have hi:=zcx hv
 have h2:=fun hp=>zbS d s a hb.1 hi hp
 have ek:(⟨s,a,false,[]⟩:Prc)=keyP s a:=rfl
 rw[ek] at h2
 rw[hv] at h1
 simp only[Dbs.av] at h2
 by_cases hf:fnD d.procs (keyP s a)=true
 rotate_left
 ·have hf':fnD d.procs (keyP s a)=false:=by simpa using hf
  have e:zbF d s a=none:=by unfold zbF;rw[if_pos hv,if_neg hf]
  rw[hf'] at h2
  rw[e]
  simp -dsimp -implicitDefEqProofs only[go_sem,seval,↓reduceIte,Dbs.av,h1,h2,hz0,zac (Nat.zero_le _),List.append_assoc,zad,zaa,zae,zab,Nat.add_assoc,List.length_append]
  exact⟨_,rfl⟩
 rw[hf] at h2
 obtain⟨p,hpp⟩:∃p,d.procs[lbD d.procs (keyP s a)]? =some p:=by
  unfold fnD at hf
  split at hf
  ·rename_i p h;exact⟨p,h⟩
  ·cases hf
 have e:zbF d s a=some p:=by unfold zbF;rw[if_pos hv,if_pos hf,hpp]
 rw[e]
 have hpm:=List.mem_of_getElem? hpp
 have hcl:=zbR hpm
 have htd:totD d.procs<=500:=by
  simp only[okD,Bool.and_eq_true,decide_eq_true_eq] at hv
  exact hv.2.2.2.1
 have h3:=fun hp=>zfL p (by omega) (ze4 hv p hpm) hp
 simp only[Prc.av] at h3
 have hst:∀(x0 x2:AObj) (v:AV) (X:Heap),zan (some 4) 0 (x0::.box (some 4) v::x2::X) [.ptr 1 0,pA p 6]=some (.undef,x0::.box (some 4) (pA p 6)::x2::X):=fun x0 x2 v X=>by
  simp[zan,astore,pA,AV.plain,AV.shp,AV.own,zah,zaS,total,Sh.size]
 simp -dsimp -implicitDefEqProofs only[go_sem,seval,↓reduceIte,Dbs.av,h1,h2,h3,hz0,hst,zav,zak (Prc.pvs_get hpp),List.append_assoc,zad,zaa,zae,zab,Nat.add_assoc,List.length_append]
 obtain⟨H,hH⟩:∃H:Heap,H=[.box (some 2) (.pv (some 2) d.pv),.box (some 4) (pA p 6),.arr (some 9) [] false,.box (some 4) (pA p 6),.box (some 4) (pA p 6),.arr (some 9) [] false,.arr (some 9) (Sto.pvs p.cls) false]:=⟨_,rfl⟩
 have hfz:=zp0 p 6 H false (by rw[hH];rfl)
 have e3:∀X,AV.freeze deep (.pv none (.bool true)) X=some (.bool true,X):=fun _=>rfl
 have hsh:(pA p 6).shp=some 4:=rfl
 have hr:zaJ ⟨[(6,.ptr 1 0),(7,.pv none (.bool true))],H⟩ (6,some (some 4))=some (pA p 6):=by
  rw[hH]
  simp[zaJ,Fr.look,aload]
 rw[<-hH,hr]
 show Am.frozen (.tuple [.pv (some 4) p.pv,.pv none (.bool true)]) (.tuple [pA p 6,.pv none (.bool true)]) H
 refine⟨H.set 6 (.arr (some 9) (Sto.pvs p.cls) true),?_⟩
 simp only[AV.freezeRes,zap,hfz,e3,hsh]
 rfl
theorem zp1(s:Sto)(id:Int)(hp:Heap)(r:Nat)(hr:hp[r]? =some (.box none (.pv none (.int .i64 id)))):S 65 [s.av,.ptr r 0] hp=some (.ret (.pv none (.bool (decide (s.id=id)))),hp):=by
 refine zbz rfl rfl rfl rfl ?_
 have hr':∀X,(hp++X)[r]? =some (.box none (.pv none (.int .i64 id))):=fun X=>by rw[zif (zeR hr),hr]
 simp -dsimp -implicitDefEqProofs only[go_sem,seval,↓reduceIte,Sto.av,zce,hr',List.append_assoc,zad,zaa,zae,zab,Nat.add_assoc,List.length_append]
 simp[AV.refsIn]
def idS(l:List Sto)(id:Int):Option Nat:=l.findIdx? fun s=>decide (s.id=id)
theorem zry{l:List Sto}{id:Int}{i:Nat}{s:Sto}(h:l[i]? =some s)(hs:s.id=id)(hb:∀(j:Nat) (u:Sto),j<i->l[j]? =some u->u.id≠id):idS l id=some i:=by
 unfold idS
 rw[List.findIdx?_eq_some_iff_getElem]
 obtain⟨hi,he⟩:=List.getElem?_eq_some_iff.1 h
 refine⟨hi,by rw[he];exact decide_eq_true hs,fun j hj=> ?_⟩
 have hjl:j<l.length:=by omega
 simpa using hb j l[j] hj (List.getElem?_eq_getElem hjl)
theorem zl6{l:List Sto}{id:Int}(hb:∀(j:Nat) (u:Sto),l[j]? =some u->u.id≠id):idS l id=none:=by
 unfold idS
 rw[List.findIdx?_eq_none_iff]
 intro x hx
 obtain⟨j,hj⟩:=List.mem_iff_getElem?.1 hx
 simpa using hb j x hj
def idI:Option Nat->Int
 |some i=>i
 |none=> -1
theorem zrz(l:List Sto)(id:Int)(hl:l.length<1000000000)(hp:Heap)(r:Nat)(hr:hp[r]? =some (.box none (.pv none (.int .i64 id)))):S 64 [.pv none (.sl (some 9) (Sto.pvs l)),.func (.func 65) [] [.ptr r 0]] hp=some (.ret (.pv none (.int .i64 (idI (idS l id)))),hp):=by
 refine zbz rfl rfl rfl rfl ?_
 have hw:=fun s=>zp1 s id hp r hr
 simp only[Sto.av] at hw
 simp -dsimp -implicitDefEqProofs only[go_sem,seval,↓reduceIte,Sto.pvs_len,List.append_assoc,zad,zaa,zae,zab,Nat.add_assoc,List.length_append]
 refine zeo (α:=Unit) l.length (fun i _=>∀(j:Nat) (u:Sto),j<i->l[j]? =some u->u.id≠id) (fun i _=>⟨[(0,.pv none (.sl (some 9) (Sto.pvs l))),(1,.func (.func 65) [] [.ptr r 0]),(7,.pv none (.int .i64 l.length)),(8,.pv none (.int .i64 i))],hp⟩) () ⟨fun j u h=>by omega,rfl⟩ ?_ ?_
 ·rintro i - h hinv
  have hc:(i:Int)<(l.length:Int):=by omega
  have w1:IntKind.i64.wrap ((i:Int)+1)=((i+1:Nat):Int):=by rw[zaZ (by omega) (by omega)];omega
  obtain⟨s,hs⟩:∃s,l[i]? =some s:=⟨_,List.getElem?_eq_getElem h⟩
  have hws:=hw s
  by_cases he:s.id=id
  ·rw[decide_eq_true he] at hws
   rw[zry hs he hinv]
   simp -dsimp -implicitDefEqProofs only[go_sem,seval,↓reduceIte,hc,w1,zak (Sto.pvs_get hs),hws,List.append_assoc,zad,zaa,zae,zab,Nat.add_assoc,List.length_append]
   exact⟨rfl,by simp[AV.refsIn]⟩
  ·rw[decide_eq_false he] at hws
   simp -dsimp -implicitDefEqProofs only[go_sem,seval,↓reduceIte,hc,w1,zak (Sto.pvs_get hs),hws,List.append_assoc,zad,zaa,zae,zab,Nat.add_assoc,List.length_append]
   refine⟨(),fun j u hj hu=> ?_,?_⟩
   ·rcases Nat.lt_or_ge j i with k|k
    ·exact hinv j u k hu
    ·have:j=i:=by omega
     subst this
     rw[hs] at hu
     cases hu
     exact he
   ·rw[zk6 rfl]
 ·rintro - hinv
  have hc:¬(l.length:Int)<(l.length:Int):=by omega
  rw[zl6 fun j u hj=>hinv j u (List.getElem?_eq_some_iff.1 hj).1 hj]
  simp -dsimp -implicitDefEqProofs only[go_sem,seval,↓reduceIte,hc,List.append_assoc,zad,zaa,zae,zab,Nat.add_assoc,List.length_append]
  exact⟨rfl,by simp[AV.refsIn]⟩
def whR:List Prc->Int->Option (Nat × Nat)
 |[],_=>none
 |p::r,id=>match idS p.cls id with
  |some k=>some (0,k)
  |none=>match whR r id with
   |some x=>some (x.1+1,x.2)
   |none=>none
theorem zl7{id:Int}{k:Nat}{p:Prc}:∀{l:List Prc} {i:Nat},l[i]? =some p->idS p.cls id=some k->(∀(j:Nat) (q:Prc),j<i->l[j]? =some q->idS q.cls id=none)->whR l id=some (i,k)
 |[],i,h,_,_=>by simp at h
 |x::r,0,h,hk,_=>by
  simp at h
  subst h
  rw[whR,hk]
 |x::r,i+1,h,hk,hb=>by
  have h0:=hb 0 x (by omega) rfl
  have ih:=zl7 (l:=r) (i:=i) (by simpa using h) hk fun j q hj hq=>hb (j+1) q (by omega) (by simpa using hq)
  rw[whR,h0,ih]
theorem zik{id:Int}:∀{l:List Prc},(∀(j:Nat) (q:Prc),l[j]? =some q->idS q.cls id=none)->whR l id=none
 |[],_=>rfl
 |x::r,hb=>by
  have h0:=hb 0 x rfl
  have ih:=zik (l:=r) fun j q hq=>hb (j+1) q (by simpa using hq)
  rw[whR,h0,ih]
theorem zil(d:Dbs)(id:Int)(hl:d.procs.length<1000000000)(ht:totD d.procs<1000000000)(hp:Heap):S 37 [d.av,.pv none (.int .i64 id)] hp=some (.ret (match whR d.procs id with|some x=>.tuple [.pv none (.int .i64 x.1),.pv none (.int .i64 x.2),.pv none (.bool true)]|none=>.tuple [.pv none (.int .i64 0),.pv none (.int .i64 0),.pv none (.bool false)]),hp):=by
 refine zam rfl rfl rfl (zaf [(some 2,d.pv),(none,.int .i64 id)]) rfl ?_
 simp -dsimp -implicitDefEqProofs only[go_sem,seval,↓reduceIte,Dbs.av,zav,Prc.pvs_len,List.append_assoc,zad,zaa,zae,zab,Nat.add_assoc,List.length_append]
 refine zeo (α:=Unit) d.procs.length (fun i _=>∀(j:Nat) (q:Prc),j<i->d.procs[j]? =some q->idS q.cls id=none) (fun i _=>⟨[(3,.ptr 1 0),(11,.pv none (.sl (some 4) (Prc.pvs d.procs))),(12,.pv none (.int .i64 d.procs.length)),(13,.pv none (.int .i64 i))],[.box (some 2) (.pv (some 2) d.pv),.box none (.pv none (.int .i64 id))]⟩) () ⟨fun j u h=>by omega,rfl⟩ ?_ ?_
 ·rintro i - h hinv
  have hc:(i:Int)<(d.procs.length:Int):=by omega
  have w1:IntKind.i64.wrap ((i:Int)+1)=((i+1:Nat):Int):=by rw[zaZ (by omega) (by omega)];omega
  obtain⟨p,hpp⟩:∃p,d.procs[i]? =some p:=⟨_,List.getElem?_eq_getElem h⟩
  have hpl:=zbR (List.mem_of_getElem? hpp)
  have hix:∀(x0:AObj) (X:Heap),S 64 [.pv none (.sl (some 9) (Sto.pvs p.cls)),.func (.func 65) [] [.ptr 1 0]] (x0::.box none (.pv none (.int .i64 id))::X)=some (.ret (.pv none (.int .i64 (idI (idS p.cls id)))),x0::.box none (.pv none (.int .i64 id))::X):=fun x0 X=>zrz p.cls id (by omega) _ 1 rfl
  cases hk:idS p.cls id with
  |some k=>
   rw[hk] at hix
   have hk0:(0:Int)<=idI (some k):=by show(0:Int)<=(k:Int);omega
   rw[zl7 hpp hk hinv]
   simp -dsimp -implicitDefEqProofs only[go_sem,seval,↓reduceIte,hc,w1,zak (Prc.pvs_get hpp),zdP,hix,hk0,zac (Nat.zero_le _),List.append_assoc,zad,zaa,zae,zab,Nat.add_assoc,List.length_append]
   rfl
  |none=>
   rw[hk] at hix
   have hk0:¬(0:Int)<=idI none:=by decide
   simp -dsimp -implicitDefEqProofs only[go_sem,seval,↓reduceIte,hc,w1,zak (Prc.pvs_get hpp),zdP,hix,hk0,zac (Nat.zero_le _),List.append_assoc,zad,zaa,zae,zab,Nat.add_assoc,List.length_append]
   refine⟨(),fun j q hj hq=> ?_,rfl⟩
   rcases Nat.lt_or_ge j i with k|k
   ·exact hinv j q k hq
   ·have:j=i:=by omega
    subst this
    rw[hpp] at hq
    cases hq
    exact hk
 ·rintro - hinv
  have hc:¬(d.procs.length:Int)<(d.procs.length:Int):=by omega
  rw[zik fun j u hj=>hinv j u (List.getElem?_eq_some_iff.1 hj).1 hj]
  simp -dsimp -implicitDefEqProofs only[go_sem,seval,↓reduceIte,hc,List.append_assoc,zad,zaa,zae,zab,Nat.add_assoc,List.length_append]
  done
theorem zsQ{l:List Sto}{id:Int}{k:Nat}(h:idS l id=some k):∃s,l[k]? =some s/\s.id=id:=by
 unfold idS at h
 rw[List.findIdx?_eq_some_iff_getElem] at h
 obtain⟨hk,h1,_⟩:=h
 exact⟨l[k],List.getElem?_eq_getElem hk,of_decide_eq_true h1⟩
theorem zgE{id:Int}:∀{l:List Prc} {i k:Nat},whR l id=some (i,k)->∃p s,l[i]? =some p/\p.cls[k]? =some s/\s.id=id
 |[],i,k,h=>by cases h
 |x::r,i,k,h=>by
  rw[whR] at h
  split at h
  ·rename_i k' hk
   cases h
   obtain⟨s,h1,h2⟩:=zsQ hk
   exact⟨x,s,rfl,h1,h2⟩
  ·split at h
   ·rename_i y hy
    cases h
    obtain⟨p,s,h1,h2,h3⟩:=zgE (i:=y.1) (k:=y.2) hy
    exact⟨p,s,by simpa using h1,h2,h3⟩
   ·cases h
def zSt:Sto:=⟨0,⟨zt,zt⟩⟩
def getR(d:Dbs)(id:Int):Option Sto:=if okD d=true then(match whR d.procs id with
 |some x=>(d.procs[x.1]?).bind fun p=>p.cls[x.2]?
 |none=>none) else none
set_option maxRecDepth 20000 in
theorem ztB(d:Dbs)(hb:BndD d)(id:Int)(hp:Heap):S 17 [d.av,.pv none (.int .i64 id)] hp=some (.ret (.tuple [((getR d id).getD zSt).av,.pv none (.bool (getR d id).isSome)]),hp):=by
 refine zam rfl rfl rfl (zaf [(some 2,d.pv),(none,.int .i64 id)]) rfl ?_
 have h1:=fun hp=>zaM d hb.1 hb.2.1 hb.2.2 hp
 have h2:=fun hp=>zil d id hb.1 hb.2.1 hp
 have hz0:zaN [(none,.pv none (.int .i64 0)),(some 8,.agg [(some 4,.agg [(none,.pv none (.int .i64 0)),(none,.pv none (.int .i64 0)),(none,.pv none (.str [])),(none,.tsl (some 4) [])]),(some 4,.agg [(none,.pv none (.int .i64 0)),(none,.pv none (.int .i64 0)),(none,.pv none (.str [])),(none,.tsl (some 4) [])])])] [] []=some (.agg [(none,.pv none (.int .i64 0)),(some 8,.agg [(some 4,.agg [(none,.pv none (.int .i64 0)),(none,.pv none (.int .i64 0)),(none,.pv none (.str [])),(none,.tsl (some 4) [])]),(some 4,.agg [(none,.pv none (.int .i64 0)),(none,.pv none (.int .i64 0)),(none,.pv none (.str [])),(none,.tsl (some 4) [])])])]):=rfl
 simp only[Dbs.av] at h1 h2
 by_cases hv:okD d=true
 rotate_left
 ·have hv':okD d=false:=by simpa using hv
  have e:getR d id=none:=by unfold getR;rw[if_neg hv]
  rw[hv'] at h1
  rw[e]
  simp -dsimp -implicitDefEqProofs only[go_sem,seval,↓reduceIte,Dbs.av,h1,hz0,zac (Nat.zero_le _),List.append_assoc,zad,zaa,zae,zab,Nat.add_assoc,List.length_append]
  exact⟨_,rfl⟩
 rw[hv] at h1
 cases hw:whR d.procs id with
 |none=>
  have e:getR d id=none:=by unfold getR;rw[if_pos hv,hw]
  rw[hw] at h2
  rw[e]
  simp only[] at h2
  simp -dsimp -implicitDefEqProofs only[go_sem,seval,↓reduceIte,Dbs.av,h1,h2,hz0,zac (Nat.zero_le _),List.append_assoc,zad,zaa,zae,zab,Nat.add_assoc,List.length_append]
  exact⟨_,rfl⟩
 |some x=>
  obtain⟨i,k⟩:=x
  obtain⟨p,s,hpp,hs,hsi⟩:=zgE hw
  have e:getR d id=some s:=by unfold getR;rw[if_pos hv,hw];simp[hpp,hs]
  obtain⟨vh,vb⟩:=ze4 hv p (List.mem_of_getElem? hpp) s (List.mem_of_getElem? hs)
  have h3:=fun hp=>ze3 s vh vb hp
  rw[hw] at h2
  simp only[Sto.av] at h2 h3
  rw[e]
  simp -dsimp -implicitDefEqProofs only[go_sem,seval,↓reduceIte,Dbs.av,h1,h2,h3,hz0,zav,zdP,zak (Prc.pvs_get hpp),zak (Sto.pvs_get hs),zac (Nat.zero_le _),List.append_assoc,zad,zaa,zae,zab,Nat.add_assoc,List.length_append]
  exact⟨_,rfl⟩
def nilD:Dbs:=⟨1,[]⟩
theorem zrV(hp:Heap):S 21 [] hp=some (.ret nilD.av,hp):=by
 refine zam (ps:=[]) rfl rfl rfl rfl rfl ?_
 have hbu:zaN [(none,.pv none (.int .i64 0)),(none,.nilv (some 4))] [0] [.pv none (.int .i64 1)]=some (.agg [(none,.pv none (.int .i64 1)),(none,.nilv (some 4))]):=rfl
 have hnil:∀H:Heap,zah [(none,.nilv (some 4))] H=([(none,.nilv (some 4))],H):=fun _=>rfl
 simp -dsimp -implicitDefEqProofs only[go_sem,seval,↓reduceIte,hbu,hnil,zac (Nat.zero_le _),List.append_assoc,zad,zaa,zae,zab,Nat.add_assoc,List.length_append]
 exact⟨_,rfl⟩
def zPA:AV:=.agg [(none,.pv none (.str [])),(none,.pv none (.int .i64 0)),(none,.pv none (.bool false)),(none,.tsl (some 9) [])]
def elsA(l:List Prc)(b i:Nat):List AV:=l.mapIdx fun j p=>if j<i then pA p (b+6*j) else zPA
theorem zaE(l:List Prc)(b i:Nat):(elsA l b i).length=l.length:=by simp[elsA]
theorem zpU(l:List Prc)(b:Nat):elsA l b 0=List.replicate l.length zPA:=by
 refine List.ext_getElem? fun j=> ?_
 simp[elsA,List.getElem?_mapIdx,List.getElem?_replicate]
 by_cases h:j<l.length
 ·simp[h]
 ·simp[h]
theorem zlZ{l:List Prc}{b i:Nat}{p:Prc}(h:l[i]? =some p):(elsA l b i).set i (pA p (b+6*i))=elsA l b (i+1):=by
 refine List.ext_getElem? fun j=> ?_
 have hi:=(List.getElem?_eq_some_iff.1 h).1
 rw[List.getElem?_set]
 by_cases hj:i=j
 ·subst hj
  have he:l[i]=p:=(List.getElem?_eq_some_iff.1 h).2
  simp[elsA,List.getElem?_mapIdx,h,hi,he]
 ·simp only[if_neg hj]
  simp only[elsA,List.getElem?_mapIdx]
  cases l[j]? with
  |none=>rfl
  |some x=>
   have e:(j<i)=(j<i+1):=propext ⟨fun _=>by omega,fun _=>by omega⟩
   simp[e]
def cE(p:Prc)(b:Nat):Heap:=[.box (some 4) (.pv (some 4) p.pv),.arr (some 9) [] false,.box (some 4) (pA p b),.box (some 4) (pA p b),.arr (some 9) [] false,.arr (some 9) (Sto.pvs p.cls) false]
def cEs:List Prc->Nat->Heap
 |[],_=>[]
 |p::r,b=>cE p b++cEs r (b+6)
theorem zpV:∀(l:List Prc) (b:Nat),(cEs l b).length=6*l.length
 |[],_=>rfl
 |p::r,b=>by rw[cEs,List.length_append,zpV r,List.length_cons];show 6+_=_;omega
theorem zl0:∀(l:List Prc) (p:Prc) (b:Nat),cEs (l++[p]) b=cEs l b++cE p (b+6*l.length)
 |[],p,b=>by simp[cEs]
 |x::r,p,b=>by
  rw[List.cons_append,cEs,zl0 r p (b+6),cEs,List.append_assoc,List.length_cons]
  congr 2
  congr 1
  omega
theorem zjT{n b:Nat}{fr:Fr}{hp:Heap}{k:Nat}{o:AObj}(hk:b<=k)(hn:k<n)(ho:hp[k]? =some o)(hr:o.refs.all (fun q=>decide (q<n))=false):collect n b fr hp=hp:=by
 unfold collect
 rw[if_neg]
 intro h
 rw[Bool.and_eq_true] at h
 have h2:=List.all_eq_true.1 h.2 o (by
  refine List.mem_iff_getElem?.2 ⟨k - b,?_⟩
  rw[List.getElem?_drop,List.getElem?_take,if_pos (by omega),show b+(k - b)=k by omega]
  exact ho)
 rw[hr] at h2
 cases h2
def dA(d:Dbs)(q:Nat):AV:=.agg [(none,.pv none (.int .i64 d.next)),(none,.slv (some 4) q d.procs.length 0 d.procs.length)]
theorem zk9{Γ:Oracle}{b:Nat}{vs:List AV}{hp:Heap}{K:AV->Heap->Prop}{Kp:PV->Heap->Prop}(sh:Sh)(z:AV):opK (aOp Γ b (.mkslicev sh z) vs hp) K Kp=zbQ (zb4 sh z hp vs) K:=by
 show opK (match zb4 sh z hp vs with|some (v,hp')=>some (OpRes.val v hp')|none=>none) K Kp=_
 cases zb4 sh z hp vs with
 |none=>rfl
 |some r=>cases r;rfl
theorem zc0(d:Dbs)(hl:d.procs.length<1000000)(hcl:∀p∈d.procs,p.cls.length<1000000/\okCl p)(hp:Heap):S 33 [d.av] hp=some (.ret (dA d (hp.length+2)),hp++([.box (some 2) (dA d (hp.length+2)),.box (some 2) (dA d (hp.length+2)),.arv (some 4) (elsA d.procs (hp.length+8) d.procs.length)]++cEs d.procs (hp.length+8))):=by
 refine zbz rfl rfl rfl rfl ?_
 have hpl:=Prc.pvs_len d.procs
 have hlim:d.procs.length<=lim:=by unfold lim;omega
 have hnil:∀H:Heap,zah [(none,.nilv (some 4))] H=([(none,.nilv (some 4))],H):=fun _=>rfl
 have hmk:∀H:Heap,zb4 (some 4) zPA H [.pv none (.int .i64 d.procs.length),.pv none (.int .i64 d.procs.length)]=some (.slv (some 4) H.length d.procs.length 0 d.procs.length,H++[.arv (some 4) (List.replicate d.procs.length zPA)]):=fun H=>by
  simp[zb4,hlim,zcY]
 simp only[zPA] at hmk
 simp -dsimp -implicitDefEqProofs only[go_sem,seval,↓reduceIte,Dbs.av,zav,hpl,hnil,hmk,zk9,zac (Nat.le_add_right _ _),List.append_assoc,zad,zaa,zae,zab,Nat.add_assoc,List.length_append]
 obtain⟨x1,hx1⟩:∃x1:AObj,x1=.box (some 2) (.agg [(none,.pv none (.int .i64 0)),(none,.nilv (some 4))]):=⟨_,rfl⟩
 rw[<-hx1]
 obtain⟨b0,hb0⟩:∃b0,b0=hp.length+8:=⟨_,rfl⟩
 rw[<-hb0]
 obtain⟨PP,hPP⟩:∃PP:Nat->Heap->Heap,PP=fun j e=>hp++([.box (some 2) (.pv (some 2) d.pv),x1,.arv (some 4) (elsA d.procs b0 j)]++e):=⟨_,rfl⟩
 have hPa:∀j e X,PP j e++X=PP j (e++X):=fun j e X=>by rw[hPP];simp
 have hPl:∀j e,(PP j e).length=hp.length+3+e.length:=fun j e=>by rw[hPP];simp;omega
 have hP2:∀j e,(PP j e)[hp.length+2]? =some (.arv (some 4) (elsA d.procs b0 j)):=fun j e=>by rw[hPP];exact getN rfl 2
 refine zeo (α:=Unit) d.procs.length (fun _ _=>True) (fun i _=>⟨[(1,.ptr hp.length 0),(2,.ptr (hp.length+1) 0),(3,.slv (some 4) (hp.length+2) d.procs.length 0 d.procs.length),(11,.pv none (.sl (some 4) (Prc.pvs d.procs))),(12,.pv none (.int .i64 d.procs.length)),(13,.pv none (.int .i64 i))],PP i (cEs (d.procs.take i) b0)⟩) () ⟨trivial,by rw[hPP];simp only[zpU];rfl⟩ ?_ ?_
 ·rintro i - h -
  have hcc:(i:Int)<(d.procs.length:Int):=by omega
  have w1:IntKind.i64.wrap ((i:Int)+1)=((i+1:Nat):Int):=by rw[zaZ (by omega) (by omega)];omega
  obtain⟨p,hpp⟩:∃p,d.procs[i]? =some p:=⟨_,List.getElem?_eq_getElem h⟩
  obtain⟨c1,c2⟩:=hcl p (List.mem_of_getElem? hpp)
  obtain⟨e,he⟩:∃e,e=cEs (d.procs.take i) b0:=⟨_,rfl⟩
  have hel:e.length=6*i:=by rw[he,zpV,List.length_take];omega
  obtain⟨n,hn⟩:∃n,n=hp.length+3+6*i:=⟨_,rfl⟩
  have hpn:∀j,(PP j e).length=n:=fun j=>by rw[hPl,hel,hn]
  have hbn:hp.length<=n:=by omega
  have hpr:S 39 [.pv (some 4) p.pv] (PP i e++[.box (some 4) (.pv (some 4) p.pv),.arr (some 9) [] false])=some (.ret (pA p (n+5)),PP i e++[.box (some 4) (.pv (some 4) p.pv),.arr (some 9) [] false,.box (some 4) (pA p (n+5)),.box (some 4) (pA p (n+5)),.arr (some 9) [] false,.arr (some 9) (Sto.pvs p.cls) false]):=by
   have h3:=zfL p c1 c2 (PP i e++[.box (some 4) (.pv (some 4) p.pv),.arr (some 9) [] false])
   rw[List.length_append,hpn,List.append_assoc] at h3
   exact h3
  have hia:zaW (some 4) [.slv (some 4) (hp.length+2) d.procs.length 0 d.procs.length,.pv none (.int .i64 i)]=some (.epv (some 4) (hp.length+2) d.procs.length i 0):=by
   simp[zaW,aindex,h]
  have hst:∀X,zan (some 4) hp.length (PP i e++X) [.epv (some 4) (hp.length+2) d.procs.length i 0,pA p (n+5)]=some (.undef,PP (i+1) e++X):=fun X=>by
   have hq:n+5=b0+6*i:=by omega
   have hs:=zlZ (b:=b0) hpp
   have hg:(PP i e++X)[hp.length+2]? =some (.arv (some 4) (elsA d.procs b0 i)):=by rw[hPa];exact hP2 _ _
   have hset:(PP i e++X).set (hp.length+2) (.arv (some 4) (elsA d.procs b0 (i+1)))=PP (i+1) e++X:=by
    rw[hPa,hPa,hPP]
    exact setN rfl 2 _
   have hlt:i<(elsA d.procs b0 i).length:=by rw[zaE];exact h
   obtain⟨old,ho⟩:∃old,(elsA d.procs b0 i)[i]? =some old:=⟨_,List.getElem?_eq_getElem hlt⟩
   have hpln:(pA p (b0+6*i)).plain=true:=rfl
   have hsh:(pA p (b0+6*i)).shp=some 4:=rfl
   rw[hq]
   simp[zan,astore,hg,zaE,ho,hpln,hsh,hs,hset]
  rw[<-he]
  simp -dsimp -implicitDefEqProofs only[go_sem,seval,↓reduceIte,hcc,w1,zak (Prc.pvs_get hpp),hpr,hia,hst,zac (Nat.le_trans hbn (Nat.le_add_right _ _)),List.append_assoc,zad,zaa,zae,zab,Nat.add_assoc,List.length_append,hpn,getN (hpn _),zeT (hpn _),setN (hpn _),zeU (hpn _)]
  refine⟨(),?_⟩
  have hgi:(elsA d.procs b0 (i+1))[i]? =some (pA p (b0+6*i)):=by
   rw[<-zlZ hpp]
   simp[zaE,h]
  have hrf:(AObj.arv (some 4) (elsA d.procs b0 (i+1))).refs.all (fun q=>decide (q<hp.length+3))=false:=by
   rw[List.all_eq_false]
   refine⟨b0+6*i,(zaP _ _).2 ⟨_,List.mem_of_getElem? hgi,by simp[pA,AV.refsIn,AV.refsIn.go]⟩,by simp;omega⟩
  rw[zjT (k:=hp.length+2) (by omega) (by omega) (by rw[hPa];exact hP2 _ _) hrf]
  have htk:d.procs.take (i+1)=d.procs.take i++[p]:=by rw[List.take_add_one,hpp];rfl
  have hli:(d.procs.take i).length=i:=by rw[List.length_take];omega
  rw[hPa,htk,zl0,hli,<-he]
  have hq:n+5=b0+6*i:=by omega
  rw[hq]
  rfl
 ·rintro - -
  have hcc:¬(d.procs.length:Int)<(d.procs.length:Int):=by omega
  have hup:∀(q:Nat),AV.upd deep (.pv (some 2) d.pv) 1 none (.slv (some 4) q d.procs.length 0 d.procs.length)=some (dA d q):=fun q=>rfl
  have hs1:∀(x1 x2:AObj) (X:Heap),zan none hp.length (hp++.box (some 2) (.pv (some 2) d.pv)::x1::x2::X) [.ptr hp.length 1,.slv (some 4) (hp.length+2) d.procs.length 0 d.procs.length]=some (.undef,hp++.box (some 2) (dA d (hp.length+2))::x1::x2::X):=fun x1 x2 X=>by
   simp[zan,astore,zeT rfl,zeU rfl,AV.plain,AV.shp,AV.own,hup]
  have hs2:∀(x0 x2:AObj) (v:AV) (X:Heap),zan (some 2) hp.length (hp++x0::.box (some 2) v::x2::X) [.ptr (hp.length+1) 0,dA d (hp.length+2)]=some (.undef,hp++x0::.box (some 2) (dA d (hp.length+2))::x2::X):=fun x0 x2 v X=>by
   simp[zan,astore,getN rfl,setN rfl,dA,AV.plain,AV.shp,AV.own,zah,zaS,total,Sh.size]
  rw[List.take_length,hPP,hx1]
  simp -dsimp -implicitDefEqProofs only[go_sem,seval,↓reduceIte,hcc,hs1,hs2,List.append_assoc,zad,zaa,zae,zab,Nat.add_assoc,List.length_append]
  rw[if_neg (by simp[dA,AV.refsIn,AV.refsIn.go])]
def Fz(H H':Heap):Prop:=∀k:Nat,(∀(s:Sh) (es:List PV) (z:Bool),H[k]? =some (AObj.arr s es z)->∃z':Bool,H'[k]? =some (AObj.arr s es z'))/\(∀(s:Sh) (es:List AV),H[k]? =some (AObj.arv s es)->H'[k]? =some (AObj.arv s es))
theorem Fz.refl(H:Heap):Fz H H:=fun _=>⟨fun _ _ z h=>⟨z,h⟩,fun _ _ h=>h⟩
theorem Fz.trans{A B C:Heap}(h1:Fz A B)(h2:Fz B C):Fz A C:=fun k=>⟨fun s es z h=>by
  obtain⟨z',h'⟩:=(h1 k).1 s es z h
  exact(h2 k).1 s es z' h',fun s es h=>(h2 k).2 s es ((h1 k).2 s es h)⟩
theorem Fz.set{H:Heap}{q:Nat}{s:Sh}{es:List PV}{z:Bool}(h:H[q]? =some (.arr s es z)):Fz H (H.set q (.arr s es true)):=fun k=>by
 by_cases hk:q=k
 ·subst hk
  have hlt:=zeR h
  refine⟨fun s' es' z' h'=> ?_,fun s' es' h'=> ?_⟩
  ·rw[h] at h'
   cases h'
   exact⟨true,by simp[hlt]⟩
  ·rw[h] at h'
   cases h'
 ·rw[List.getElem?_set_ne hk]
  exact⟨fun _ _ z h=>⟨z,h⟩,fun _ _ h=>h⟩
def SvP(sv:AV)(l:List Sto)(H:Heap):Prop:=sv=.tsl (some 9) (Sto.pvs l)\/∃(q ver:Nat) (es:List PV) (z:Bool),sv=.sl (some 9) q ver 0 l.length/\H[q]? =some (.arr (some 9) es z)/\es.length=ver/\l.length<=ver/\es.take l.length=Sto.pvs l
def pAg(p:Prc)(sv:AV):AV:=.agg [(none,.pv none (.str p.name)),(none,.pv none (.int .i64 p.ar)),(none,.pv none (.bool p.dyn)),(none,sv)]
def ElP(p:Prc)(v:AV)(H:Heap):Prop:=v=p.av\/∃sv,v=pAg p sv/\SvP sv p.cls H
theorem SvP.fz{sv:AV}{l:List Sto}{H H':Heap}(h:SvP sv l H)(f:Fz H H'):SvP sv l H':=by
 rcases h with h|⟨q,ver,es,z,h1,h2,h3⟩
 ·exact .inl h
 ·obtain⟨z',h'⟩:=(f q).1 _ _ _ h2
  exact .inr ⟨q,ver,es,z',h1,h',h3⟩
theorem ElP.fz{p:Prc}{v:AV}{H H':Heap}(h:ElP p v H)(f:Fz H H'):ElP p v H':=by
 rcases h with h|⟨sv,h1,h2⟩
 ·exact .inl h
 ·exact .inr ⟨sv,h1,h2.fz f⟩
theorem SvP.frz{sv:AV}{l:List Sto}{H:Heap}(h:SvP sv l H)(n:Nat):∃H',AV.freeze0 (n+1) sv H=some (.sl (some 9) (Sto.pvs l),H')/\Fz H H':=by
 rcases h with rfl|⟨q,ver,es,z,rfl,h2,h3,h4,h5⟩
 ·exact⟨H,rfl,Fz.refl H⟩
 ·refine⟨H.set q (.arr (some 9) es true),?_,Fz.set h2⟩
  simp only[AV.freeze0,h2]
  by_cases he:l.length=es.length
  ·rw[if_pos ⟨h3.symm,trivial,he⟩]
   rw[<-h5,List.take_of_length_le (by omega)]
  ·rw[if_neg (fun hh=>he hh.2.2),if_pos ⟨h3.symm,by omega⟩,List.drop_zero,h5]
theorem ElP.frz{p:Prc}{v:AV}{H:Heap}(h:ElP p v H):∃H',AV.freeze0 6 v H=some (p.pv,H')/\Fz H H':=by
 rcases h with rfl|⟨sv,rfl,h2⟩
 ·exact⟨H,rfl,Fz.refl H⟩
 ·obtain⟨H',h3,h4⟩:=h2.frz 4
  refine⟨H',?_,h4⟩
  have e:∀n l hp,AV.freeze0 (n+1) (.agg l) hp=match AV.freeze0.go n l hp with|some (ps,hp')=>some (.agg ps,hp')|none=>none:=fun _ _ _=>rfl
  have e0:∀(x:PV) (s:Sh) (X:Heap),AV.freeze0 5 (.pv s x) X=some (x,X):=fun _ _ _=>rfl
  show AV.freeze0 (5+1) (.agg _) H=_
  simp only[e,AV.freeze0.go,e0,h3]
  rfl
theorem zrU:∀(ps:List Prc) (els:List AV) (H:Heap),els.length=ps.length->(∀(j:Nat) (p:Prc) (v:AV),ps[j]? =some p->els[j]? =some v->ElP p v H)->∃H',AV.freeze0.go 6 (els.map fun e=>(some 4,e)) H=some (ps.map (fun p=>(some 4,p.pv)),H')/\Fz H H'
 |[],[],H,_,_=>⟨H,rfl,Fz.refl H⟩
 |[],_::_,_,h,_=>by simp at h
 |_::_,[],_,h,_=>by simp at h
 |p::r,v::w,H,hl,he=>by
  obtain⟨H1,h1,f1⟩:=(he 0 p v rfl rfl).frz
  obtain⟨H2,h2,f2⟩:=zrU r w H1 (by simpa using hl) fun j p' v' hp hv=>(he (j+1) p' v' (by simpa using hp) (by simpa using hv)).fz f1
  refine⟨H2,?_,f1.trans f2⟩
  simp only[List.map_cons,AV.freeze0.go,h1,h2]
def DbA(d:Dbs)(v:AV)(H:Heap):Prop:=∃(q ver:Nat) (els:List AV) (ps:List Prc),v=.agg [(none,.pv none (.int .i64 d.next)),(none,.slv (some 4) q ver 0 d.procs.length)]/\H[q]? =some (.arv (some 4) els)/\els.length=ver/\d.procs.length<=ver/\ps.length=ver/\ps.take d.procs.length=d.procs/\∀(j:Nat) (p:Prc) (v:AV),ps[j]? =some p->els[j]? =some v->ElP p v H
theorem DbA.frz{d:Dbs}{v:AV}{H:Heap}(h:DbA d v H):∃H',AV.freeze deep v H=some (d.pv,H'):=by
 obtain⟨q,ver,els,ps,rfl,h1,h2,h3,h4,h5,h6⟩:=h
 obtain⟨H1,g1,g2⟩:=zrU ps els H (by omega) h6
 have h1':=(g2 q).2 _ _ h1
 refine⟨H1.set q (.arr (some 4) (Prc.pvs ps) true),?_⟩
 have e:∀n l hp,AV.freeze (n+1) (.agg l) hp=match AV.freeze.go n l hp with|some (ps,hp')=>some (.agg ps,hp')|none=>none:=fun _ _ _=>rfl
 have e0:∀(x:PV) (s:Sh) (X:Heap),AV.freeze 7 (.pv s x) X=some (x,X):=fun _ _ _=>rfl
 have em:(ps.map (fun p=>((some 4:Sh),p.pv))).map (·.2)=Prc.pvs ps:=by simp[Prc.pvs]
 have et:(Prc.pvs ps).take d.procs.length=Prc.pvs d.procs:=by
  rw[Prc.pvs,<-List.map_take,h5]
  rfl
 have hlen:els.length=els.length:=rfl
 have hfs:AV.freeze 7 (.slv (some 4) q ver 0 d.procs.length) H=some (.sl (some 4) (Prc.pvs d.procs),H1.set q (.arr (some 4) (Prc.pvs ps) true)):=by
  show AV.freeze (6+1) _ H=_
  simp only[AV.freeze,h1,g1,h1',em,List.drop_zero,et]
  rw[if_pos ⟨h2.symm,by omega⟩]
  simp
 show AV.freeze (7+1) (.agg _) H=_
 simp only[e,AV.freeze.go,e0,hfs]
 rfl
theorem zdr:∀(l:List Prc) (b j:Nat) (p:Prc),l[j]? =some p->(cEs l b)[6*j+5]? =some (.arr (some 9) (Sto.pvs p.cls) false)
 |[],_,_,_,h=>by simp at h
 |x::r,b,0,p,h=>by
  simp at h
  subst h
  rfl
 |x::r,b,j+1,p,h=>by
  have ih:=zdr r (b+6) j p (by simpa using h)
  rw[cEs,List.getElem?_append_right (by show 6<=_;omega)]
  show(cEs r (b+6))[6*(j+1)+5 - 6]? =_
  rw[show 6*(j+1)+5 - 6=6*j+5 by omega]
  exact ih
theorem zbA{l:List Prc}{b j:Nat}{p:Prc}(h:l[j]? =some p):(elsA l b l.length)[j]? =some (pA p (b+6*j)):=by
 have hj:=(List.getElem?_eq_some_iff.1 h).1
 have he:l[j]=p:=(List.getElem?_eq_some_iff.1 h).2
 simp[elsA,List.getElem?_mapIdx,hj,he]
def zDb:Dbs:=⟨0,[]⟩
def dynP(p:Prc)(b:Bool):Prc:=⟨p.name,p.ar,p.dyn || b,p.cls⟩
theorem zla(d:Dbs)(hb:BndD d)(s:List UInt8)(a:Int)(b:Bool)(h:okD d=false\/namB (keyP s a)=false)(hp:Heap):S 19 [d.av,.pv none (.str s),.pv none (.int .i64 a),.pv none (.bool b)] hp=some (.ret (.tuple [zDb.av,.pv none (.int .i64 1)]),hp):=by
 refine zam rfl rfl rfl (zaf [(some 2,d.pv),(none,.str s),(none,.int .i64 a),(none,.bool b)]) rfl ?_
 have h1:=fun hp=>zaM d hb.1 hb.2.1 hb.2.2 hp
 have h2:∀hp,S 40 [.pv none (.str s),.pv none (.int .i64 a)] hp=some (.ret (.pv none (.bool (namB (keyP s a)))),hp):=fun hp=>ze2 s a hp
 have hz0:zaN [(none,.pv none (.int .i64 0)),(none,.nilv (some 4))] [] []=some (.agg [(none,.pv none (.int .i64 0)),(none,.nilv (some 4))]):=rfl
 have hnil:∀H:Heap,zah [(none,.nilv (some 4))] H=([(none,.nilv (some 4))],H):=fun _=>rfl
 simp only[Dbs.av] at h1
 cases hv:okD d with
 |false=>
  rw[hv] at h1
  simp -dsimp -implicitDefEqProofs only[go_sem,seval,↓reduceIte,Dbs.av,h1,hz0,hnil,zac (Nat.zero_le _),List.append_assoc,zad,zaa,zae,zab,Nat.add_assoc,List.length_append]
  exact⟨_,rfl⟩
 |true=>
  have hn:namB (keyP s a)=false:=by
   rcases h with h|h
   ·rw[hv] at h;cases h
   ·exact h
  rw[hv] at h1
  rw[hn] at h2
  simp -dsimp -implicitDefEqProofs only[go_sem,seval,↓reduceIte,Dbs.av,h1,h2,hz0,hnil,zac (Nat.zero_le _),List.append_assoc,zad,zaa,zae,zab,Nat.add_assoc,List.length_append]
  exact⟨_,rfl⟩
theorem zjV(d:Dbs)(hb:BndD d)(s:List UInt8)(a:Int)(b:Bool)(hv:okD d=true)(hn:namB (keyP s a)=true)(hf:fnD d.procs (keyP s a)=false)(hl:d.procs.length=500)(hp:Heap):S 19 [d.av,.pv none (.str s),.pv none (.int .i64 a),.pv none (.bool b)] hp=some (.ret (.tuple [zDb.av,.pv none (.int .i64 13)]),hp):=by
 refine zam rfl rfl rfl (zaf [(some 2,d.pv),(none,.str s),(none,.int .i64 a),(none,.bool b)]) rfl ?_
 have h1:=fun hp=>zaM d hb.1 hb.2.1 hb.2.2 hp
 have h2:∀hp,S 40 [.pv none (.str s),.pv none (.int .i64 a)] hp=some (.ret (.pv none (.bool (namB (keyP s a)))),hp):=fun hp=>ze2 s a hp
 have h3:∀hp,S 31 [d.av,.pv none (.str s),.pv none (.int .i64 a)] hp=some (.ret (.tuple [.pv none (.int .i64 (lbD d.procs (keyP s a):Int)),.pv none (.bool (fnD d.procs (keyP s a)))]),hp):=fun hp=>zbS d s a hb.1 (zcx hv) hp
 have hz0:zaN [(none,.pv none (.int .i64 0)),(none,.nilv (some 4))] [] []=some (.agg [(none,.pv none (.int .i64 0)),(none,.nilv (some 4))]):=rfl
 have hnil:∀H:Heap,zah [(none,.nilv (some 4))] H=([(none,.nilv (some 4))],H):=fun _=>rfl
 have hl':((d.procs.length:Int)=500)=True:=eq_true (by omega)
 simp only[Dbs.av] at h1 h3
 rw[hv] at h1
 rw[hn] at h2
 rw[hf] at h3
 simp -dsimp -implicitDefEqProofs only[go_sem,seval,↓reduceIte,Dbs.av,zav,Prc.pvs_len,h1,h2,h3,hz0,hl',hnil,zac (Nat.zero_le _),List.append_assoc,zad,zaa,zae,zab,Nat.add_assoc,List.length_append]
 exact⟨_,rfl⟩
set_option maxRecDepth 20000 in
theorem zim(d:Dbs)(hb:BndD d)(s:List UInt8)(a:Int)(b:Bool)(hv:okD d=true)(hn:namB (keyP s a)=true)(hf:fnD d.procs (keyP s a)=true)(p:Prc)(i:Nat)(hi:i=lbD d.procs (keyP s a))(hpp:d.procs[i]? =some p)(hp:Heap):S 19 [d.av,.pv none (.str s),.pv none (.int .i64 a),.pv none (.bool b)] hp=some (.ret (.tuple [(⟨d.next,d.procs.set i (dynP p b)⟩:Dbs).av,.pv none (.int .i64 0)]),hp):=by
 refine zam rfl rfl rfl (zaf [(some 2,d.pv),(none,.str s),(none,.int .i64 a),(none,.bool b)]) rfl ?_
 have h1:=fun hp=>zaM d hb.1 hb.2.1 hb.2.2 hp
 have h2:∀hp,S 40 [.pv none (.str s),.pv none (.int .i64 a)] hp=some (.ret (.pv none (.bool (namB (keyP s a)))),hp):=fun hp=>ze2 s a hp
 have h3:∀hp,S 31 [d.av,.pv none (.str s),.pv none (.int .i64 a)] hp=some (.ret (.tuple [.pv none (.int .i64 (lbD d.procs (keyP s a):Int)),.pv none (.bool (fnD d.procs (keyP s a)))]),hp):=fun hp=>zbS d s a hb.1 (zcx hv) hp
 have hl5:d.procs.length<=500/\totD d.procs<=500:=by
  simp only[okD,Bool.and_eq_true,decide_eq_true_eq] at hv
  exact⟨hv.2.2.1,hv.2.2.2.1⟩
 have h4:∀x0 x1:AObj,S 33 [d.av] [x0,x1]=some (.ret (dA d 4),x0::x1::.box (some 2) (dA d 4)::.box (some 2) (dA d 4)::.arv (some 4) (elsA d.procs 10 d.procs.length)::cEs d.procs 10):=fun x0 x1=>zc0 d (by omega) (fun q hq=>⟨by have:=zbR hq;omega,ze4 hv q hq⟩) [x0,x1]
 have hnil:∀H:Heap,zah [(none,.nilv (some 4))] H=([(none,.nilv (some 4))],H):=fun _=>rfl
 have hst:∀(x0:AObj) (v:AV) (X:Heap),zan (some 2) 0 (x0::.box (some 2) v::X) [.ptr 1 0,dA d 4]=some (.undef,x0::.box (some 2) (dA d 4)::X):=fun x0 v X=>by
  simp[zan,astore,dA,AV.plain,AV.shp,AV.own,zah,zaS,total,Sh.size]
 simp only[Dbs.av] at h1 h3 h4
 rw[hv] at h1
 rw[hn] at h2
 rw[hf,<-hi] at h3
 have hil:=(List.getElem?_eq_some_iff.1 hpp).1
 have hge:=zbA (b:=10) hpp
 have hpt:AV.part deep (dA d 4) 1 none=some (.slv (some 4) 4 d.procs.length 0 d.procs.length):=rfl
 have hia:zaW (some 4) [.slv (some 4) 4 d.procs.length 0 d.procs.length,.pv none (.int .i64 i)]=some (.epv (some 4) 4 d.procs.length i 0):=by
  simp[zaW,aindex,hil]
 have hld:∀(x0 x1 x2 x3:AObj) (X:Heap),aload none (x0::x1::x2::x3::.arv (some 4) (elsA d.procs 10 d.procs.length)::X) (.epv (some 4) 4 d.procs.length i 2)=some (.pv none (.bool p.dyn)):=fun x0 x1 x2 x3 X=>by
  have e:AV.part deep (pA p (10+6*i)) 2 none=some (.pv none (.bool p.dyn)):=rfl
  simp[aload,zaE,hge,e]
 have hse:∀(x0 x1 x2 x3:AObj) (X:Heap) (c:Bool),zan none 0 (x0::x1::x2::x3::.arv (some 4) (elsA d.procs 10 d.procs.length)::X) [.epv (some 4) 4 d.procs.length i 2,.pv none (.bool c)]=some (.undef,x0::x1::x2::x3::.arv (some 4) ((elsA d.procs 10 d.procs.length).set i (pA ⟨p.name,p.ar,c,p.cls⟩ (10+6*i)))::X):=fun x0 x1 x2 x3 X c=>by
  have e:AV.upd deep (pA p (10+6*i)) 2 none (.pv none (.bool c))=some (pA ⟨p.name,p.ar,c,p.cls⟩ (10+6*i)):=rfl
  simp[zan,astore,zaE,hge,e,AV.plain,AV.shp]
 have fin:∀(x0 x1 x2 x3:AObj) (c:Bool),c=(p.dyn || b)->DbA ⟨d.next,d.procs.set i (dynP p b)⟩ (dA d 4) (x0::x1::x2::x3::.arv (some 4) ((elsA d.procs 10 d.procs.length).set i (pA ⟨p.name,p.ar,c,p.cls⟩ (10+6*i)))::cEs d.procs 10):=fun x0 x1 x2 x3 c hc=>by
  refine⟨4,d.procs.length,_,d.procs.set i (dynP p b),?_,rfl,by rw[List.length_set,zaE],by simp,by simp,by simp[List.take_of_length_le],fun j q v hq hv2=> ?_⟩
  ·simp[dA]
  ·have hcl5:∀(k:Nat) (x:Prc),d.procs[k]? =some x->(x0::x1::x2::x3::AObj.arv (some 4) ((elsA d.procs 10 d.procs.length).set i (pA ⟨p.name,p.ar,c,p.cls⟩ (10+6*i)))::cEs d.procs 10)[10+6*k]? =some (.arr (some 9) (Sto.pvs x.cls) false):=fun k x hx=>by
    rw[show 10+6*k=(6*k+5)+1+1+1+1+1 by omega]
    simp only[List.getElem?_cons_succ]
    exact zdr _ _ _ _ hx
   have htake:∀l:List Sto,(Sto.pvs l).take l.length=Sto.pvs l:=fun l=>List.take_of_length_le (by rw[Sto.pvs_len];exact Nat.le_refl _)
   by_cases hji:i=j
   ·subst hji
    rw[List.getElem?_set_self hil] at hq
    cases hq
    rw[List.getElem?_set_self (by rw[zaE];exact hil)] at hv2
    cases hv2
    subst hc
    exact .inr ⟨_,rfl,.inr ⟨10+6*i,p.cls.length,Sto.pvs p.cls,false,rfl,hcl5 i p hpp,Sto.pvs_len _,Nat.le_refl _,htake _⟩⟩
   ·rw[List.getElem?_set_ne hji] at hq hv2
    rw[zbA hq] at hv2
    cases hv2
    exact .inr ⟨_,rfl,.inr ⟨10+6*j,q.cls.length,Sto.pvs q.cls,false,rfl,hcl5 j q hq,Sto.pvs_len _,Nat.le_refl _,htake _⟩⟩
 have hfr:∀(d':Dbs) (H:Heap),DbA d' (dA d 4) H->Am.frozen (.tuple [d'.av,.pv none (.int .i64 0)]) (.tuple [dA d 4,.pv none (.int .i64 0)]) H:=fun d' H hD=>by
  obtain⟨H',hz⟩:=hD.frz
  have e3:∀X,AV.freeze deep (.pv none (.int .i64 0)) X=some (.int .i64 0,X):=fun _=>rfl
  have hsh:(dA d 4).shp=some 2:=rfl
  refine⟨H',?_⟩
  simp only[AV.freezeRes,zap,hz,e3,hsh]
  rfl
 have hr:∀(x0:AObj) (X:Heap),zaJ ⟨[(8,.ptr 1 0),(9,.pv none (.int .i64 0))],x0::.box (some 2) (dA d 4)::X⟩ (8,some (some 2))=some (dA d 4):=fun x0 X=>by
  simp[zaJ,Fr.look,aload]
 have hfa:zcQ 2 [.epv (some 4) 4 d.procs.length i 0]=some (.epv (some 4) 4 d.procs.length i 2):=rfl
 cases hd:p.dyn with
 |true=>
  rw[hd] at hld
  simp -dsimp -implicitDefEqProofs only[go_sem,seval,↓reduceIte,Dbs.av,zav,Prc.pvs_len,h1,h2,h3,h4,hst,hnil,hpt,hia,hfa,hld,hse,hr,List.append_assoc,zad,zaa,zae,zab,Nat.add_assoc,List.length_append]
  have hF:=hfr _ _ (fin (.box (some 2) (.pv (some 2) d.pv)) (.box (some 2) (dA d 4)) (.box (some 2) (dA d 4)) (.box (some 2) (dA d 4)) true (by rw[hd];rfl))
  simp only[zaQ,Dbs.av] at hF
  exact hF
 |false=>
  rw[hd] at hld
  simp -dsimp -implicitDefEqProofs only[go_sem,seval,↓reduceIte,Dbs.av,zav,Prc.pvs_len,h1,h2,h3,h4,hst,hnil,hpt,hia,hfa,hld,hse,hr,List.append_assoc,zad,zaa,zae,zab,Nat.add_assoc,List.length_append]
  have hF:=hfr _ _ (fin (.box (some 2) (.pv (some 2) d.pv)) (.box (some 2) (dA d 4)) (.box (some 2) (dA d 4)) (.box (some 2) (dA d 4)) b (by rw[hd];rfl))
  simp only[zaQ,Dbs.av] at hF
  exact hF
set_option maxRecDepth 20000 in
theorem zlb(d:Dbs)(hb:BndD d)(s:List UInt8)(a:Int)(b:Bool)(hv:okD d=true)(hn:namB (keyP s a)=true)(hf:fnD d.procs (keyP s a)=false)(i:Nat)(hi:i=lbD d.procs (keyP s a))(hl:d.procs.length≠500)(hp:Heap):S 19 [d.av,.pv none (.str s),.pv none (.int .i64 a),.pv none (.bool b)] hp=some (.ret (.tuple [(⟨d.next,d.procs.take i++(⟨s,a,b,[]⟩:Prc)::d.procs.drop i⟩:Dbs).av,.pv none (.int .i64 0)]),hp):=by
 refine zam rfl rfl rfl (zaf [(some 2,d.pv),(none,.str s),(none,.int .i64 a),(none,.bool b)]) rfl ?_
 have h1:=fun hp=>zaM d hb.1 hb.2.1 hb.2.2 hp
 have h2:∀hp,S 40 [.pv none (.str s),.pv none (.int .i64 a)] hp=some (.ret (.pv none (.bool (namB (keyP s a)))),hp):=fun hp=>ze2 s a hp
 have h3:∀hp,S 31 [d.av,.pv none (.str s),.pv none (.int .i64 a)] hp=some (.ret (.tuple [.pv none (.int .i64 (lbD d.procs (keyP s a):Int)),.pv none (.bool (fnD d.procs (keyP s a)))]),hp):=fun hp=>zbS d s a hb.1 (zcx hv) hp
 have hl5:d.procs.length<=500/\totD d.procs<=500:=by
  simp only[okD,Bool.and_eq_true,decide_eq_true_eq] at hv
  exact⟨hv.2.2.1,hv.2.2.2.1⟩
 have h4:∀x0 x1:AObj,S 33 [d.av] [x0,x1]=some (.ret (dA d 4),x0::x1::.box (some 2) (dA d 4)::.box (some 2) (dA d 4)::.arv (some 4) (elsA d.procs 10 d.procs.length)::cEs d.procs 10):=fun x0 x1=>zc0 d (by omega) (fun q hq=>⟨by have:=zbR hq;omega,ze4 hv q hq⟩) [x0,x1]
 have hnil:∀H:Heap,zah [(none,.nilv (some 4))] H=([(none,.nilv (some 4))],H):=fun _=>rfl
 have hst:∀(x0:AObj) (v:AV) (X:Heap),zan (some 2) 0 (x0::.box (some 2) v::X) [.ptr 1 0,dA d 4]=some (.undef,x0::.box (some 2) (dA d 4)::X):=fun x0 v X=>by
  simp[zan,astore,dA,AV.plain,AV.shp,AV.own,zah,zaS,total,Sh.size]
 simp only[Dbs.av] at h1 h3 h4
 rw[hv] at h1
 rw[hn] at h2
 rw[hf,<-hi] at h3
 have hl':((d.procs.length:Int)=500)=False:=eq_false (by omega)
 have hpt:AV.part deep (dA d 4) 1 none=some (.slv (some 4) 4 d.procs.length 0 d.procs.length):=rfl
 have hbu:zaN [(none,.pv none (.str [])),(none,.pv none (.int .i64 0)),(none,.pv none (.bool false)),(none,.tsl (some 9) [])] [0,1] [.pv none (.str s),.pv none (.int .i64 a)]=some (.agg [(none,.pv none (.str s)),(none,.pv none (.int .i64 a)),(none,.pv none (.bool false)),(none,.tsl (some 9) [])]):=rfl
 have hil:i<=d.procs.length:=by rw[hi];exact zjU _ _
 obtain⟨nv,hnv⟩:∃nv:Bool->AV,nv=fun c=>.agg [(none,.pv none (.str s)),(none,.pv none (.int .i64 a)),(none,.pv none (.bool c)),(none,.tsl (some 9) [])]:=⟨_,rfl⟩
 obtain⟨el,hel⟩:∃el:AV->List AV,el=fun v=>(elsA d.procs 10 d.procs.length).take i++v::(elsA d.procs 10 d.procs.length).drop i:=⟨_,rfl⟩
 have hell:∀v,(el v).length=d.procs.length+1:=fun v=>by rw[hel];simp[zaE];omega
 have hli:((elsA d.procs 10 d.procs.length).take i).length=i:=by rw[List.length_take,zaE];omega
 have heli:∀v,(el v)[i]? =some v:=fun v=>by
  rw[hel]
  show(_++_)[i]? =_
  rw[List.getElem?_append_right (by omega),hli,Nat.sub_self]
  rfl
 have hels:∀v v',(el v).set i v'=el v':=fun v v'=>by
  rw[hel]
  show List.set (_++_) i v'=_
  rw[List.set_append_right _ _ (by omega),hli,Nat.sub_self]
  rfl
 obtain⟨m,hm⟩:∃m,m=(cEs d.procs 10).length+5:=⟨_,rfl⟩
 have op_bslov:∀{vs:List AV} {H:Heap} {K:AV->Heap->Prop} {Kp:PV->Heap->Prop},opK (aOp (sem (find tab) prim) 0 (.bslov (some 4)) vs H) K Kp=zbQ (zcR (some 4) H vs) K:=fun{vs H K Kp}=>by
  show opK (match zcR (some 4) H vs with|some (v,hp')=>some (OpRes.val v hp')|none=>none) K Kp=_
  cases zcR (some 4) H vs with
  |none=>rfl
  |some r=>cases r;rfl
 have hbs:∀x0 x1 x2 x3 x4:AObj,zcR (some 4) (x0::x1::x2::x3::x4::cEs d.procs 10) [nv false]=some (.slv (some 4) m 1 0 1,x0::x1::x2::x3::x4::(cEs d.procs 10++[.arv (some 4) [nv false]])):=fun x0 x1 x2 x3 x4=>by
  have e1:(nv false).plain=true:=by rw[hnv];rfl
  have e2:(nv false).shp=some 4:=by rw[hnv];rfl
  simp[zcR,e1,e2,zcY,hm]
 have hpr:∀x0 x1 x2 x3:AObj,S 34 [.slv (some 4) 4 d.procs.length 0 d.procs.length,.pv none (.int .i64 i),.slv (some 4) m 1 0 1] (x0::x1::x2::x3::.arv (some 4) (elsA d.procs 10 d.procs.length)::(cEs d.procs 10++[.arv (some 4) [nv false]]))=some (.ret (.slv (some 4) 4 (d.procs.length+1) 0 (d.procs.length+1)),x0::x1::x2::x3::.arv (some 4) (el (nv false))::(cEs d.procs 10++[.arv (some 4) [nv false]])):=fun x0 x1 x2 x3=>by
  rw[S,zfZ (F:=find tab) (prim:=prim) (p:=zcK (some 4)) rfl]
  have hg:(x0::x1::x2::x3::AObj.arv (some 4) (elsA d.procs 10 d.procs.length)::(cEs d.procs 10++[.arv (some 4) [nv false]]))[m]? =some (.arv (some 4) [nv false]):=by
   rw[hm]
   show(cEs d.procs 10++[.arv (some 4) [nv false]])[(cEs d.procs 10).length]? =_
   simp
  have hne:4≠m:=by omega
  have hrf:∀n,zd8 n 4 (elsA d.procs 10 d.procs.length) [nv false]=true:=fun n=>by
   rw[hnv]
   simp[zd8,AV.refsIn.gol,AV.refsIn,AV.refsIn.go]
  have hlm:d.procs.length+1<=lim:=by unfold lim;omega
  have hii:(i:Int)<=(d.procs.length:Int):=by omega
  rw[hel]
  simp[zcK,hg,zaE,hne,hrf,hlm,hii]
 have hnv0:(.agg [(none,.pv none (.str s)),(none,.pv none (.int .i64 a)),(none,.pv none (.bool false)),(none,.tsl (some 9) [])]:AV)=nv false:=by rw[hnv]
 rw[hnv0] at hbu
 obtain⟨dN,hdN⟩:∃dN:AV,dN=.agg [(none,.pv none (.int .i64 d.next)),(none,.slv (some 4) 4 (d.procs.length+1) 0 (d.procs.length+1))]:=⟨_,rfl⟩
 have hsf:∀(x0:AObj) (X:Heap),zan none 0 (x0::.box (some 2) (dA d 4)::X) [.ptr 1 1,.slv (some 4) 4 (d.procs.length+1) 0 (d.procs.length+1)]=some (.undef,x0::.box (some 2) dN::X):=fun x0 X=>by
  have e:AV.upd deep (dA d 4) 1 none (.slv (some 4) 4 (d.procs.length+1) 0 (d.procs.length+1))=some dN:=by rw[hdN];rfl
  simp[zan,astore,e,AV.plain,AV.shp,AV.own]
 have hpt2:AV.part deep dN 1 none=some (.slv (some 4) 4 (d.procs.length+1) 0 (d.procs.length+1)):=by rw[hdN];rfl
 have hi1:i<d.procs.length+1:=by omega
 have hia:zaW (some 4) [.slv (some 4) 4 (d.procs.length+1) 0 (d.procs.length+1),.pv none (.int .i64 i)]=some (.epv (some 4) 4 (d.procs.length+1) i 0):=by
  have:(i:Int)<(d.procs.length:Int)+1:=by omega
  simp[zaW,aindex,this]
 have hfa:zcQ 2 [.epv (some 4) 4 (d.procs.length+1) i 0]=some (.epv (some 4) 4 (d.procs.length+1) i 2):=rfl
 have hld:∀(x0 x1 x2 x3:AObj) (X:Heap),aload none (x0::x1::x2::x3::.arv (some 4) (el (nv false))::X) (.epv (some 4) 4 (d.procs.length+1) i 2)=some (.pv none (.bool false)):=fun x0 x1 x2 x3 X=>by
  have e:AV.part deep (nv false) 2 none=some (.pv none (.bool false)):=by rw[hnv];rfl
  simp[aload,hell,heli,e]
 have hse:∀(x0 x1 x2 x3:AObj) (X:Heap),zan none 0 (x0::x1::x2::x3::.arv (some 4) (el (nv false))::X) [.epv (some 4) 4 (d.procs.length+1) i 2,.pv none (.bool b)]=some (.undef,x0::x1::x2::x3::.arv (some 4) (el (nv b))::X):=fun x0 x1 x2 x3 X=>by
  have e:AV.upd deep (nv false) 2 none (.pv none (.bool b))=some (nv b):=by rw[hnv];rfl
  simp[zan,astore,hell,heli,e,hels,AV.plain,AV.shp]
 have hs2:∀(x0:AObj) (X:Heap),zan (some 2) 0 (x0::.box (some 2) dN::X) [.ptr 1 0,dN]=some (.undef,x0::.box (some 2) dN::X):=fun x0 X=>by
  rw[hdN]
  simp[zan,astore,AV.plain,AV.shp,AV.own,zah,zaS,total,Sh.size]
 have hr:∀(x0:AObj) (X:Heap),zaJ ⟨[(8,.ptr 1 0),(9,.pv none (.int .i64 0))],x0::.box (some 2) dN::X⟩ (8,some (some 2))=some dN:=fun x0 X=>by
  simp[zaJ,Fr.look,aload]
 have fin:∀(x0 x1 x2 x3:AObj),DbA ⟨d.next,d.procs.take i++(⟨s,a,b,[]⟩:Prc)::d.procs.drop i⟩ dN (x0::x1::x2::x3::.arv (some 4) (el (nv b))::(cEs d.procs 10++[.arv (some 4) [nv false]])):=fun x0 x1 x2 x3=>by
  have hpl:(d.procs.take i++(⟨s,a,b,[]⟩:Prc)::d.procs.drop i).length=d.procs.length+1:=by simp;omega
  refine⟨4,d.procs.length+1,el (nv b),d.procs.take i++(⟨s,a,b,[]⟩:Prc)::d.procs.drop i,?_,rfl,hell _,by rw[hpl];omega,hpl,List.take_length,fun j q v hq hv2=> ?_⟩
  ·rw[hdN,hpl]
  ·have hE:∀(k:Nat) (x:Prc),d.procs[k]? =some x->ElP x (pA x (10+6*k)) (x0::x1::x2::x3::AObj.arv (some 4) (el (nv b))::(cEs d.procs 10++[.arv (some 4) [nv false]])):=fun k x hx=>by
    refine .inr ⟨_,rfl,.inr ⟨10+6*k,x.cls.length,Sto.pvs x.cls,false,rfl,?_,Sto.pvs_len _,Nat.le_refl _,List.take_of_length_le (by rw[Sto.pvs_len];exact Nat.le_refl _)⟩⟩
    rw[show 10+6*k=(6*k+5)+1+1+1+1+1 by omega]
    simp only[List.getElem?_cons_succ]
    have hg:=zdr d.procs 10 k x hx
    rw[List.getElem?_append_left (List.getElem?_eq_some_iff.1 hg).1,hg]
   have hlp:(d.procs.take i).length=i:=by rw[List.length_take];omega
   rw[hel] at hv2
   have hv3:((elsA d.procs 10 d.procs.length).take i++nv b::(elsA d.procs 10 d.procs.length).drop i)[j]? =some v:=hv2
   rcases Nat.lt_trichotomy j i with k|k|k
   ·rw[List.getElem?_append_left (by omega),List.getElem?_take,if_pos k] at hq hv3
    rw[zbA hq] at hv3
    cases hv3
    exact hE j q hq
   ·subst k
    rw[List.getElem?_append_right (by omega),hlp,Nat.sub_self] at hq
    rw[List.getElem?_append_right (by omega),hli,Nat.sub_self] at hv3
    cases hq
    cases hv3
    rw[hnv]
    exact .inr ⟨.tsl (some 9) [],rfl,.inl rfl⟩
   ·rw[List.getElem?_append_right (by omega),hlp,show j - i=(j - i - 1)+1 by omega,List.getElem?_cons_succ,List.getElem?_drop] at hq
    rw[List.getElem?_append_right (by omega),hli,show j - i=(j - i - 1)+1 by omega,List.getElem?_cons_succ,List.getElem?_drop] at hv3
    rw[zbA hq] at hv3
    cases hv3
    exact hE _ q hq
 have hfr:∀(d':Dbs) (H:Heap),DbA d' dN H->Am.frozen (.tuple [d'.av,.pv none (.int .i64 0)]) (.tuple [dN,.pv none (.int .i64 0)]) H:=fun d' H hD=>by
  obtain⟨H',hz⟩:=hD.frz
  have e3:∀X,AV.freeze deep (.pv none (.int .i64 0)) X=some (.int .i64 0,X):=fun _=>rfl
  have hsh:dN.shp=some 2:=by rw[hdN];rfl
  refine⟨H',?_⟩
  simp only[AV.freezeRes,zap,hz,e3,hsh]
  rfl
 simp -dsimp -implicitDefEqProofs only[go_sem,seval,↓reduceIte,Dbs.av,zav,Prc.pvs_len,h1,h2,h3,h4,hl',hpt,hbu,op_bslov,hbs,hpr,hsf,hs2,hst,hnil,hpt2,hia,hfa,hld,hse,hr,List.append_assoc,zad,zaa,zae,zab,Nat.add_assoc,List.length_append]
 have hF:=hfr _ _ (fin (.box (some 2) (.pv (some 2) d.pv)) (.box (some 2) dN) (.box (some 2) (dA d 4)) (.box (some 2) (dA d 4)))
 simp only[zaQ,Dbs.av] at hF
 exact hF
def zc2(d:Dbs)(s:List UInt8)(a:Int)(b:Bool):Dbs × Int:=
 if okD d=false\/namB (keyP s a)=false then(zDb,1)
 else match fnD d.procs (keyP s a),d.procs[lbD d.procs (keyP s a)]? with
 |true,some p=>(⟨d.next,d.procs.set (lbD d.procs (keyP s a)) (dynP p b)⟩,0)
 |_,_=>if d.procs.length=500 then(zDb,13)
  else(⟨d.next,d.procs.take (lbD d.procs (keyP s a))++(⟨s,a,b,[]⟩:Prc)::d.procs.drop (lbD d.procs (keyP s a))⟩,0)
theorem zd6{ps:List Prc}{k:Prc}(h:fnD ps k=true):∃p,ps[lbD ps k]? =some p:=by
 cases e:ps[lbD ps k]? with
 |some p=>exact⟨p,rfl⟩
 |none=>simp[fnD,e] at h
theorem znA(d:Dbs)(hb:BndD d)(s:List UInt8)(a:Int)(b:Bool)(hp:Heap):S 19 [d.av,.pv none (.str s),.pv none (.int .i64 a),.pv none (.bool b)] hp=some (.ret (.tuple [(zc2 d s a b).1.av,.pv none (.int .i64 (zc2 d s a b).2)]),hp):=by
 by_cases h:okD d=false\/namB (keyP s a)=false
 ·rw[zla d hb s a b h hp]
  simp only[zc2,if_pos h]
 ·have hv:okD d=true:=by cases e:okD d with|true=>rfl|false=>exact absurd (Or.inl e) h
  have hn:namB (keyP s a)=true:=by cases e:namB (keyP s a) with|true=>rfl|false=>exact absurd (Or.inr e) h
  cases hf:fnD d.procs (keyP s a) with
  |true=>
   obtain⟨p,hpp⟩:=zd6 hf
   rw[zim d hb s a b hv hn hf p _ rfl hpp hp]
   simp only[zc2,if_neg h,hf,hpp]
  |false=>
   by_cases hl:d.procs.length=500
   ·rw[zjV d hb s a b hv hn hf hl hp]
    simp only[zc2,if_neg h,hf,if_pos hl]
   ·rw[zlb d hb s a b hv hn hf _ rfl hl hp]
    simp only[zc2,if_neg h,hf,if_neg hl]
theorem zml(d:Dbs)(hb:BndD d)(s:List UInt8)(a:Int)(h:okD d=false\/fnD d.procs (keyP s a)=false)(hp:Heap):S 20 [d.av,.pv none (.str s),.pv none (.int .i64 a)] hp=some (.ret (.tuple [zDb.av,.pv none (.bool false)]),hp):=by
 refine zam rfl rfl rfl (zaf [(some 2,d.pv),(none,.str s),(none,.int .i64 a)]) rfl ?_
 have h1:=fun hp=>zaM d hb.1 hb.2.1 hb.2.2 hp
 have hz0:zaN [(none,.pv none (.int .i64 0)),(none,.nilv (some 4))] [] []=some (.agg [(none,.pv none (.int .i64 0)),(none,.nilv (some 4))]):=rfl
 have hnil:∀H:Heap,zah [(none,.nilv (some 4))] H=([(none,.nilv (some 4))],H):=fun _=>rfl
 simp only[Dbs.av] at h1
 cases hv:okD d with
 |false=>
  rw[hv] at h1
  simp -dsimp -implicitDefEqProofs only[go_sem,seval,↓reduceIte,Dbs.av,h1,hz0,hnil,zac (Nat.zero_le _),List.append_assoc,zad,zaa,zae,zab,Nat.add_assoc,List.length_append]
  exact⟨_,rfl⟩
 |true=>
  have hf:fnD d.procs (keyP s a)=false:=by
   rcases h with h|h
   ·rw[hv] at h;cases h
   ·exact h
  have h3:∀hp,S 31 [d.av,.pv none (.str s),.pv none (.int .i64 a)] hp=some (.ret (.tuple [.pv none (.int .i64 (lbD d.procs (keyP s a):Int)),.pv none (.bool (fnD d.procs (keyP s a)))]),hp):=fun hp=>zbS d s a hb.1 (zcx hv) hp
  simp only[Dbs.av] at h3
  rw[hv] at h1
  rw[hf] at h3
  simp -dsimp -implicitDefEqProofs only[go_sem,seval,↓reduceIte,Dbs.av,h1,h3,hz0,hnil,zac (Nat.zero_le _),List.append_assoc,zad,zaa,zae,zab,Nat.add_assoc,List.length_append]
  exact⟨_,rfl⟩
theorem zma(d:Dbs)(hb:BndD d)(id:Int)(h:okD d=false\/whR d.procs id=none)(hp:Heap):S 12 [d.av,.pv none (.int .i64 id)] hp=some (.ret (.tuple [zDb.av,.pv none (.bool false)]),hp):=by
 refine zam rfl rfl rfl (zaf [(some 2,d.pv),(none,.int .i64 id)]) rfl ?_
 have h1:=fun hp=>zaM d hb.1 hb.2.1 hb.2.2 hp
 have hz0:zaN [(none,.pv none (.int .i64 0)),(none,.nilv (some 4))] [] []=some (.agg [(none,.pv none (.int .i64 0)),(none,.nilv (some 4))]):=rfl
 have hnil:∀H:Heap,zah [(none,.nilv (some 4))] H=([(none,.nilv (some 4))],H):=fun _=>rfl
 simp only[Dbs.av] at h1
 cases hv:okD d with
 |false=>
  rw[hv] at h1
  simp -dsimp -implicitDefEqProofs only[go_sem,seval,↓reduceIte,Dbs.av,h1,hz0,hnil,zac (Nat.zero_le _),List.append_assoc,zad,zaa,zae,zab,Nat.add_assoc,List.length_append]
  exact⟨_,rfl⟩
 |true=>
  have hf:whR d.procs id=none:=by
   rcases h with h|h
   ·rw[hv] at h;cases h
   ·exact h
  have hl5:d.procs.length<=500/\totD d.procs<=500:=by
   simp only[okD,Bool.and_eq_true,decide_eq_true_eq] at hv
   exact⟨hv.2.2.1,hv.2.2.2.1⟩
  have h3:=fun hp=>zil d id (by omega) (by omega) hp
  simp only[Dbs.av] at h3
  rw[hv] at h1
  rw[hf] at h3
  simp -dsimp -implicitDefEqProofs only[go_sem,seval,↓reduceIte,Dbs.av,h1,h3,hz0,hnil,zac (Nat.zero_le _),List.append_assoc,zad,zaa,zae,zab,Nat.add_assoc,List.length_append]
  exact⟨_,rfl⟩
theorem zr1(d:Dbs)(hb:BndD d)(c:Cz)(z1:c.head.size<100000000)(z2:c.body.size<100000000)(fr dy:Bool)(h:okD d=false\/okC c=false)(hp:Heap):S 11 [d.av,c.av,.pv none (.bool fr),.pv none (.bool dy)] hp=some (.ret (.tuple [zDb.av,.pv none (.int .i64 1)]),hp):=by
 refine zam rfl rfl rfl (zaf [(some 2,d.pv),(some 8,c.pv),(none,.bool fr),(none,.bool dy)]) rfl ?_
 have h1:=fun hp=>zaM d hb.1 hb.2.1 hb.2.2 hp
 have h2:=fun hp=>zb8 c z1 z2 hp
 have hz0:zaN [(none,.pv none (.int .i64 0)),(none,.nilv (some 4))] [] []=some (.agg [(none,.pv none (.int .i64 0)),(none,.nilv (some 4))]):=rfl
 have hnil:∀H:Heap,zah [(none,.nilv (some 4))] H=([(none,.nilv (some 4))],H):=fun _=>rfl
 simp only[Dbs.av] at h1
 simp only[Cz.av] at h2
 cases hv:okD d with
 |false=>
  rw[hv] at h1
  simp -dsimp -implicitDefEqProofs only[go_sem,seval,↓reduceIte,Dbs.av,Cz.av,h1,hz0,hnil,zac (Nat.zero_le _),List.append_assoc,zad,zaa,zae,zab,Nat.add_assoc,List.length_append]
  exact⟨_,rfl⟩
 |true=>
  have hn:okC c=false:=by
   rcases h with h|h
   ·rw[hv] at h;cases h
   ·exact h
  rw[hv] at h1
  rw[hn] at h2
  simp -dsimp -implicitDefEqProofs only[go_sem,seval,↓reduceIte,Dbs.av,Cz.av,h1,h2,hz0,hnil,zac (Nat.zero_le _),List.append_assoc,zad,zaa,zae,zab,Nat.add_assoc,List.length_append]
  exact⟨_,rfl⟩
set_option maxRecDepth 20000 in
theorem zqd(d:Dbs)(hb:BndD d)(c:Cz)(z1:c.head.size<100000000)(z2:c.body.size<100000000)(fr dy:Bool)(hv:okD d=true)(hn:okC c=true)(h:totD d.procs=500)(hp:Heap):S 11 [d.av,c.av,.pv none (.bool fr),.pv none (.bool dy)] hp=some (.ret (.tuple [zDb.av,.pv none (.int .i64 13)]),hp):=by
 refine zam rfl rfl rfl (zaf [(some 2,d.pv),(some 8,c.pv),(none,.bool fr),(none,.bool dy)]) rfl ?_
 have h1:=fun hp=>zaM d hb.1 hb.2.1 hb.2.2 hp
 have h2:=fun hp=>zb8 c z1 z2 hp
 have h3:∀(s:List UInt8) (a:Int) hp,S 31 [d.av,.pv none (.str s),.pv none (.int .i64 a)] hp=some (.ret (.tuple [.pv none (.int .i64 (lbD d.procs (keyP s a):Int)),.pv none (.bool (fnD d.procs (keyP s a)))]),hp):=fun s a hp=>zbS d s a hb.1 (zcx hv) hp
 have hl5:d.procs.length<=500/\totD d.procs<=500:=by
  simp only[okD,Bool.and_eq_true,decide_eq_true_eq] at hv
  exact⟨hv.2.2.1,hv.2.2.2.1⟩
 have h4:=fun hp=>zdq d (by omega) (by omega) hp
 have hz0:zaN [(none,.pv none (.int .i64 0)),(none,.nilv (some 4))] [] []=some (.agg [(none,.pv none (.int .i64 0)),(none,.nilv (some 4))]):=rfl
 have hnil:∀H:Heap,zah [(none,.nilv (some 4))] H=([(none,.nilv (some 4))],H):=fun _=>rfl
 simp only[Dbs.av] at h1 h3 h4
 simp only[Cz.av] at h2
 rw[hv] at h1
 rw[hn] at h2
 rw[h] at h4
 obtain⟨⟨hk,hi,hna,has⟩,bd⟩:=c
 have hpn:PV.part deep (Cz.pv ⟨⟨hk,hi,hna,has⟩,bd⟩) 2 none=some (.str hna):=rfl
 have hpa:PV.part deep (Cz.pv ⟨⟨hk,hi,hna,has⟩,bd⟩) 3 none=some (.sl (some 4) (Tm.pvs has)):=rfl
 simp -dsimp -implicitDefEqProofs only[hpn,hpa,Tm.pvs_len,g11,c11r0,c11r1,c11r2,c11k3,c11r4,c11r5,c11r6,c11k7,c11r8,c11r9,c11r10,c11k11,c11r12,c11r13,c11r14,c11r15,c11k16,c11r17,c11r18,c11r19,c11,go_sem,seval,↓reduceIte,Dbs.av,Cz.av,h1,h2,h3,h4,hz0,hnil,zac (Nat.zero_le _),List.append_assoc,zad,zaa,zae,zab,Nat.add_assoc,List.length_append]
 exact⟨_,rfl⟩
theorem znG{Γ:Oracle}{b:Nat}{vs:List AV}{hp:Heap}{K:AV->Heap->Prop}{Kp:PV->Heap->Prop}[Tag K][Tag Kp](sh:Sh):opK (aOp Γ b (.appendv sh) vs hp) K Kp=zbQ (zcB sh b hp vs) K:=by
 show opK (match(zcB sh b hp vs) with|some (v,hp')=>some (OpRes.val v hp')|none=>none) K Kp=_
 cases (zcB sh b hp vs) with
 |none=>rfl
 |some r=>cases r;rfl
theorem zrD(es:List AV)(k q:Nat)(h:q∈AV.refsIn.gol (es.drop k)):q∈AV.refsIn.gol es:=by
 induction es generalizing k with
 |nil=>simpa using h
 |cons e r ih=>
  cases k with
  |zero=>exact h
  |succ k=>exact List.mem_append_right _ (ih k h)
set_option maxRecDepth 20000 in
theorem zsV(es:List AV)(i:Nat)(n:Nat)(hi:i<n)(he:es.length=n)(hn:n<=500)(x0 x1 x2 x3:AObj)(X:Heap):S 43 [.slv (some 4) 4 n 0 n,.pv none (.int .i64 (i:Int)),.pv none (.int .i64 ((i:Int)+1))] (x0::x1::x2::x3::.arv (some 4) es::X)=some (.ret (.slv (some 4) 4 n 0 (n - 1)),x0::x1::x2::x3::.arv (some 4) (es.take i++es.drop (i+1)++[.pv (some 4) (.agg [(none,.str []),(none,.int .i64 0),(none,.bool false),(none,.sl (some 9) [])])])::X):=by
 refine zbz rfl rfl rfl rfl ?_
 have h0:((i:Int)=(i:Int)+1)=False:=by simp;omega
 have hL:∀m:Nat,sLen [.slv (some 4) 4 n 0 m]=some (.pv none (.int .i64 (m:Int))):=fun m=>rfl
 have h3:zbV (some 4) true [.slv (some 4) 4 n 0 n,.pv none (.int .i64 (i:Int)),.pv none (.int .i64 ((i:Int)+1)),.pv none (.int .i64 (n:Int))]=some .undef:=by
  simp only[zbV]
  rw[if_pos (by omega)]
 have s1:zbk (some 4) false true [.slv (some 4) 4 n 0 n,.pv none (.int .i64 (i:Int))]=some (.slv (some 4) 4 n 0 i):=by
  simp[zbk,aslice];omega
 have s2:zbk (some 4) true false [.slv (some 4) 4 n 0 n,.pv none (.int .i64 ((i:Int)+1))]=some (.slv (some 4) 4 n (i+1) (n - (i+1))):=by
  simp[zbk,aslice];omega
 have s3:zbk (some 4) true true [.slv (some 4) 4 n 0 (n - 1),.pv none (.int .i64 ((n - 1:Nat):Int)),.pv none (.int .i64 (n:Int))]=some (.slv (some 4) 4 n (n - 1) 1):=by
  simp[zbk,aslice];omega
 have hel:elemsv (x0::x1::x2::x3::.arv (some 4) es::X) (.slv (some 4) 4 n (i+1) (n - (i+1)))=some (some 4,es.drop (i+1)):=by
  simp[elemsv,he]
  refine⟨by omega,List.take_of_length_le (by simp[he])⟩
 have hro:∀b,zd8 b 4 es (es.drop (i+1))=true:=fun b=>by
  simp only[zd8,Bool.or_eq_true,List.all_eq_true,List.contains_iff_mem]
  exact .inr fun q hq=>zrD es _ q hq
 have hap:∀b,zcB (some 4) b (x0::x1::x2::x3::.arv (some 4) es::X) [.slv (some 4) 4 n 0 i,.slv (some 4) 4 n (i+1) (n - (i+1))]=some (.slv (some 4) 4 n 0 (n - 1),x0::x1::x2::x3::.arv (some 4) (es.take i++es.drop (i+1)++es.drop (n - 1))::X):=fun b=>by
  have e1:i+(n - (i+1))=n - 1:=by omega
  have e2:n - 1<=n:=by omega
  have e3:n - 1<=lim:=by simp[lim];omega
  have e4:i≠n:=by omega
  simp[zcB,aappendv,hel,hro,he,e1,e2,e3,e4]
  decide
 have hcl:zd9 (some 4) (.agg [(none,.str []),(none,.int .i64 0),(none,.bool false),(none,.sl (some 9) [])]) (x0::x1::x2::x3::.arv (some 4) (es.take i++es.drop (i+1)++es.drop (n - 1))::X) [.slv (some 4) 4 n (n - 1) 1]=some (.undef,x0::x1::x2::x3::.arv (some 4) (es.take i++es.drop (i+1)++[.pv (some 4) (.agg [(none,.str []),(none,.int .i64 0),(none,.bool false),(none,.sl (some 9) [])])])::X):=by
  have l1:(es.take i++es.drop (i+1)).length=n - 1:=by simp[he];omega
  have l2:(es.take i++es.drop (i+1)++es.drop (n - 1)).length=n:=by rw[List.length_append,l1];simp[he] <;> omega
  have l3:(es.take i++es.drop (i+1)++es.drop (n - 1)).take (n - 1)=es.take i++es.drop (i+1):=by rw[<-l1];exact List.take_left
  have l4:n - 1+1=n:=by omega
  have l5:(es.take i++es.drop (i+1)++es.drop (n - 1)).drop n=[]:=List.drop_eq_nil_of_le (by omega)
  simp only[zd9,List.getElem?_cons_succ,List.getElem?_cons_zero,l2,l3,l4,l5]
  simp
 simp only[List.append_assoc] at hap hcl
 simp -dsimp -implicitDefEqProofs only[go_sem,seval,↓reduceIte,List.append_assoc,zad,zaa,zae,zab,Nat.add_assoc,List.length_append,h0,hL,h3,s1,s2,s3,znG,hap,hcl]
 simp[AV.refsIn]
set_option maxRecDepth 20000 in
theorem zsJ(H:Heap)(q:Nat)(es:List PV)(k n:Nat)(hk:k<n)(he:es.length=n)(hn:n<=500)(hg:H[q]? =some (.arr (some 9) es false)):S 38 [.sl (some 9) q n 0 n,.pv none (.int .i64 (k:Int)),.pv none (.int .i64 ((k:Int)+1))] H=some (.ret (.sl (some 9) q n 0 (n - 1)),H.set q (.arr (some 9) (es.take k++(es.drop (k+1)++[zS])) false)):=by
 refine zbz rfl rfl rfl rfl ?_
 have hq:=zeR hg
 have h0:((k:Int)=(k:Int)+1)=False:=by simp;omega
 have hL:∀m:Nat,sLen [.sl (some 9) q n 0 m]=some (.pv none (.int .i64 (m:Int))):=fun m=>rfl
 have h3:zbV (some 9) true [.sl (some 9) q n 0 n,.pv none (.int .i64 (k:Int)),.pv none (.int .i64 ((k:Int)+1)),.pv none (.int .i64 (n:Int))]=some .undef:=by
  simp only[zbV]
  rw[if_pos (by omega)]
 have s1:zbk (some 9) false true [.sl (some 9) q n 0 n,.pv none (.int .i64 (k:Int))]=some (.sl (some 9) q n 0 k):=by
  simp[zbk,aslice];omega
 have s2:zbk (some 9) true false [.sl (some 9) q n 0 n,.pv none (.int .i64 ((k:Int)+1))]=some (.sl (some 9) q n (k+1) (n - (k+1))):=by
  simp[zbk,aslice];omega
 have s3:zbk (some 9) true true [.sl (some 9) q n 0 (n - 1),.pv none (.int .i64 ((n - 1:Nat):Int)),.pv none (.int .i64 (n:Int))]=some (.sl (some 9) q n (n - 1) 1):=by
  simp[zbk,aslice];omega
 have hset:∀o:AObj,(H++[AObj.arr (some 9) [] false]).set q o=H.set q o++[.arr (some 9) [] false]:=fun o=>List.set_append_left _ _ hq
 have hg0:(H++[AObj.arr (some 9) [] false])[q]? =some (.arr (some 9) es false):=by rw[List.getElem?_append_left hq,hg]
 have hel:elems (H++[.arr (some 9) [] false]) (.sl (some 9) q n (k+1) (n - (k+1)))=some (some 9,es.drop (k+1)):=by
  simp[elems,hg0,he]
  refine⟨by omega,List.take_of_length_le (by simp[he])⟩
 have hap:zbu (some 9) (H++[.arr (some 9) [] false]) [.sl (some 9) q n 0 k,.sl (some 9) q n (k+1) (n - (k+1))]=some (.sl (some 9) q n 0 (n - 1),H.set q (.arr (some 9) (es.take k++(es.drop (k+1)++es.drop (n - 1))) false)++[.arr (some 9) [] false]):=by
  have e1:k+(n - (k+1))=n - 1:=by omega
  have e2:n - 1<=n:=by omega
  have e3:n - 1<=lim:=by simp[lim];omega
  have e4:k≠n:=by omega
  simp[zbu,aappend,hel,hg0,he,e1,e2,e3,e4,hset]
 have hcl:zd9 (some 9) zS (H.set q (.arr (some 9) (es.take k++(es.drop (k+1)++es.drop (n - 1))) false)++[.arr (some 9) [] false]) [.sl (some 9) q n (n - 1) 1]=some (.undef,H.set q (.arr (some 9) (es.take k++(es.drop (k+1)++[zS])) false)++[.arr (some 9) [] false]):=by
  have hg1:(H.set q (.arr (some 9) (es.take k++(es.drop (k+1)++es.drop (n - 1))) false)++[AObj.arr (some 9) [] false])[q]? =some (.arr (some 9) (es.take k++(es.drop (k+1)++es.drop (n - 1))) false):=by
   rw[List.getElem?_append_left (by simpa using hq)]
   simp[hq]
  have l1:(es.take k++es.drop (k+1)).length=n - 1:=by simp[he];omega
  have l2:(es.take k++(es.drop (k+1)++es.drop (n - 1))).length=n:=by rw[<-List.append_assoc,List.length_append,l1];simp[he] <;> omega
  have l3:(es.take k++(es.drop (k+1)++es.drop (n - 1))).take (n - 1)=es.take k++es.drop (k+1):=by rw[<-List.append_assoc,<-l1];exact List.take_left
  have l4:n - 1+1=n:=by omega
  have l5:(es.take k++(es.drop (k+1)++es.drop (n - 1))).drop n=[]:=List.drop_eq_nil_of_le (by omega)
  have l6:n - 1+1<=n:=by omega
  simp only[zd9,hg1,l2,l3,l4,l5]
  rw[if_pos ⟨trivial,trivial,by omega⟩,List.set_append_left _ _ (by simpa using hq)]
  simp
 simp only[zS] at hcl
 have hni:zea (some 9) H=some (.sl (some 9) H.length 0 0 0,H++[.arr (some 9) [] false]):=by simp[zea,zcY]
 simp -dsimp -implicitDefEqProofs only[go_sem,seval,↓reduceIte,List.append_assoc,zad,zaa,zae,zab,Nat.add_assoc,List.length_append,hni,h0,hL,h3,s1,s2,s3,hap,hcl]
 simp[AV.refsIn,zS,hq]
set_option maxRecDepth 20000 in
theorem zmk(d:Dbs)(hb:BndD d)(s:List UInt8)(a:Int)(hv:okD d=true)(hf:fnD d.procs (keyP s a)=true)(i:Nat)(hi:i=lbD d.procs (keyP s a))(hil:i<d.procs.length)(hp:Heap):S 20 [d.av,.pv none (.str s),.pv none (.int .i64 a)] hp=some (.ret (.tuple [(⟨d.next,d.procs.take i++d.procs.drop (i+1)⟩:Dbs).av,.pv none (.bool true)]),hp):=by
 refine zam rfl rfl rfl (zaf [(some 2,d.pv),(none,.str s),(none,.int .i64 a)]) rfl ?_
 have h1:=fun hp=>zaM d hb.1 hb.2.1 hb.2.2 hp
 have h3:∀hp,S 31 [d.av,.pv none (.str s),.pv none (.int .i64 a)] hp=some (.ret (.tuple [.pv none (.int .i64 (lbD d.procs (keyP s a):Int)),.pv none (.bool (fnD d.procs (keyP s a)))]),hp):=fun hp=>zbS d s a hb.1 (zcx hv) hp
 have hl5:d.procs.length<=500/\totD d.procs<=500:=by
  simp only[okD,Bool.and_eq_true,decide_eq_true_eq] at hv
  exact⟨hv.2.2.1,hv.2.2.2.1⟩
 have h4:∀x0:AObj,∀x1:AObj,S 33 [d.av] [x0,x1]=some (.ret (dA d 4),x0::x1::.box (some 2) (dA d 4)::.box (some 2) (dA d 4)::.arv (some 4) (elsA d.procs 10 d.procs.length)::cEs d.procs 10):=fun x0 x1=>zc0 d (by omega) (fun q hq=>⟨by have:=zbR hq;omega,ze4 hv q hq⟩) [x0,x1]
 have hnil:∀H:Heap,zah [(none,.nilv (some 4))] H=([(none,.nilv (some 4))],H):=fun _=>rfl
 have hst:∀(x0:AObj) (v:AV) (X:Heap),zan (some 2) 0 (x0::.box (some 2) v::X) [.ptr 1 0,dA d 4]=some (.undef,x0::.box (some 2) (dA d 4)::X):=fun x0 v X=>by
  simp[zan,astore,dA,AV.plain,AV.shp,AV.own,zah,zaS,total,Sh.size]
 simp only[Dbs.av] at h1 h3 h4
 rw[hv] at h1
 rw[hf,<-hi] at h3
 have hpt:AV.part deep (dA d 4) 1 none=some (.slv (some 4) 4 d.procs.length 0 d.procs.length):=rfl
 have hw:IntKind.i64.wrap ((i:Int)+1)=(i:Int)+1:=by
  rw[zaZ (by omega) (by omega)]
 have h5:=fun x0 x1 x2 x3 X=>zsV (elsA d.procs 10 d.procs.length) i d.procs.length hil (zaE _ _ _) (by omega) x0 x1 x2 x3 X
 obtain⟨dN,hdN⟩:∃dN:AV,dN=.agg [(none,.pv none (.int .i64 d.next)),(none,.slv (some 4) 4 d.procs.length 0 (d.procs.length - 1))]:=⟨_,rfl⟩
 have hsf:∀(x0:AObj) (X:Heap),zan none 0 (x0::.box (some 2) (dA d 4)::X) [.ptr 1 1,.slv (some 4) 4 d.procs.length 0 (d.procs.length - 1)]=some (.undef,x0::.box (some 2) dN::X):=fun x0 X=>by
  have e:AV.upd deep (dA d 4) 1 none (.slv (some 4) 4 d.procs.length 0 (d.procs.length - 1))=some dN:=by rw[hdN];rfl
  simp[zan,astore,e,AV.plain,AV.shp,AV.own]
 have hs2:∀(x0:AObj) (X:Heap),zan (some 2) 0 (x0::.box (some 2) dN::X) [.ptr 1 0,dN]=some (.undef,x0::.box (some 2) dN::X):=fun x0 X=>by
  rw[hdN]
  simp[zan,astore,AV.plain,AV.shp,AV.own,zah,zaS,total,Sh.size]
 have hr:∀(x0:AObj) (X:Heap),zaJ ⟨[(6,.ptr 1 0),(7,.pv none (.bool true))],x0::.box (some 2) dN::X⟩ (6,some (some 2))=some dN:=fun x0 X=>by
  simp[zaJ,Fr.look,aload]
 have hlp:(d.procs.take i).length=i:=by rw[List.length_take];omega
 have hle:((elsA d.procs 10 d.procs.length).take i).length=i:=by rw[List.length_take,zaE];omega
 have hpl:(d.procs.take i++d.procs.drop (i+1)).length=d.procs.length - 1:=by simp;omega
 have fin:∀(x0 x1 x2 x3:AObj),DbA ⟨d.next,d.procs.take i++d.procs.drop (i+1)⟩ dN (x0::x1::x2::x3::.arv (some 4) ((elsA d.procs 10 d.procs.length).take i++((elsA d.procs 10 d.procs.length).drop (i+1)++[.pv (some 4) (.agg [(none,.str []),(none,.int .i64 0),(none,.bool false),(none,.sl (some 9) [])])]))::cEs d.procs 10):=fun x0 x1 x2 x3=>by
  refine⟨4,d.procs.length,_,d.procs.take i++(d.procs.drop (i+1)++[⟨[],0,false,[]⟩]),?_,rfl,by simp[zaE];omega,by rw[hpl];omega,by simp;omega,?_,fun j q v hq hv2=> ?_⟩
  ·rw[hdN,hpl]
  ·rw[<-List.append_assoc]
   exact List.take_left
  ·have hE:∀(k:Nat) (x:Prc),d.procs[k]? =some x->ElP x (pA x (10+6*k)) (x0::x1::x2::x3::AObj.arv (some 4) ((elsA d.procs 10 d.procs.length).take i++((elsA d.procs 10 d.procs.length).drop (i+1)++[.pv (some 4) (.agg [(none,.str []),(none,.int .i64 0),(none,.bool false),(none,.sl (some 9) [])])]))::cEs d.procs 10):=fun k x hx=>by
    refine .inr ⟨_,rfl,.inr ⟨10+6*k,x.cls.length,Sto.pvs x.cls,false,rfl,?_,Sto.pvs_len _,Nat.le_refl _,List.take_of_length_le (by rw[Sto.pvs_len];exact Nat.le_refl _)⟩⟩
    rw[show 10+6*k=(6*k+5)+1+1+1+1+1 by omega]
    simp only[List.getElem?_cons_succ]
    exact zdr _ _ _ _ hx
   by_cases k:j<i
   ·rw[List.getElem?_append_left (by omega),List.getElem?_take,if_pos k] at hq hv2
    rw[zbA hq] at hv2
    cases hv2
    exact hE j q hq
   ·rw[List.getElem?_append_right (by omega),hlp] at hq
    rw[List.getElem?_append_right (by omega),hle] at hv2
    by_cases k2:j - i<d.procs.length - (i+1)
    ·rw[List.getElem?_append_left (by simp;omega),List.getElem?_drop] at hq
     rw[List.getElem?_append_left (by simp[zaE];omega),List.getElem?_drop] at hv2
     rw[zbA hq] at hv2
     cases hv2
     exact hE _ q hq
    ·rw[List.getElem?_append_right (by simp;omega)] at hq
     rw[List.getElem?_append_right (by simp[zaE];omega)] at hv2
     have hz:=List.mem_of_getElem? hq
     have hz2:=List.mem_of_getElem? hv2
     rw[List.mem_singleton] at hz hz2
     subst hz;subst hz2
     exact .inl rfl
 have hfr:∀(d':Dbs) (H:Heap),DbA d' dN H->Am.frozen (.tuple [d'.av,.pv none (.bool true)]) (.tuple [dN,.pv none (.bool true)]) H:=fun d' H hD=>by
  obtain⟨H',hz⟩:=hD.frz
  have e3:∀X,AV.freeze deep (.pv none (.bool true)) X=some (.bool true,X):=fun _=>rfl
  have hsh:dN.shp=some 2:=by rw[hdN];rfl
  refine⟨H',?_⟩
  simp only[AV.freezeRes,zap,hz,e3,hsh]
  rfl
 simp -dsimp -implicitDefEqProofs only[go_sem,seval,↓reduceIte,Dbs.av,zav,Prc.pvs_len,h1,h3,h4,hst,hnil,hpt,h5,hw,hsf,hs2,hr,List.append_assoc,zad,zaa,zae,zab,Nat.add_assoc,List.length_append]
 have hF:=hfr _ _ (fin (.box (some 2) (.pv (some 2) d.pv)) (.box (some 2) dN) (.box (some 2) (dA d 4)) (.box (some 2) (dA d 4)))
 simp only[zaQ,Dbs.av] at hF
 exact hF
def aboR(d:Dbs)(s:List UInt8)(a:Int):Dbs × Bool:=
 if okD d=false\/fnD d.procs (keyP s a)=false then(zDb,false)
 else(⟨d.next,d.procs.take (lbD d.procs (keyP s a))++d.procs.drop (lbD d.procs (keyP s a)+1)⟩,true)
theorem zmm(d:Dbs)(hb:BndD d)(s:List UInt8)(a:Int)(hp:Heap):S 20 [d.av,.pv none (.str s),.pv none (.int .i64 a)] hp=some (.ret (.tuple [(aboR d s a).1.av,.pv none (.bool (aboR d s a).2)]),hp):=by
 by_cases h:okD d=false\/fnD d.procs (keyP s a)=false
 ·rw[zml d hb s a h hp]
  simp only[aboR,if_pos h]
 ·have hv:okD d=true:=by cases e:okD d with|true=>rfl|false=>exact absurd (Or.inl e) h
  have hf:fnD d.procs (keyP s a)=true:=by cases e:fnD d.procs (keyP s a) with|true=>rfl|false=>exact absurd (Or.inr e) h
  obtain⟨p,hpp⟩:=zd6 hf
  rw[zmk d hb s a hv hf _ rfl (List.getElem?_eq_some_iff.1 hpp).1 hp]
  simp only[aboR,if_neg h]
set_option maxRecDepth 20000 in
theorem zrA(d:Dbs)(hb:BndD d)(id:Int)(hv:okD d=true)(i k:Nat)(hw:whR d.procs id=some (i,k))(p:Prc)(hpp:d.procs[i]? =some p)(hkl:k<p.cls.length)(hp:Heap):S 12 [d.av,.pv none (.int .i64 id)] hp=some (.ret (.tuple [(⟨d.next,d.procs.set i ⟨p.name,p.ar,p.dyn,p.cls.take k++p.cls.drop (k+1)⟩⟩:Dbs).av,.pv none (.bool true)]),hp):=by
 refine zam rfl rfl rfl (zaf [(some 2,d.pv),(none,.int .i64 id)]) rfl ?_
 have h1:=fun hp=>zaM d hb.1 hb.2.1 hb.2.2 hp
 have hl5:d.procs.length<=500/\totD d.procs<=500:=by
  simp only[okD,Bool.and_eq_true,decide_eq_true_eq] at hv
  exact⟨hv.2.2.1,hv.2.2.2.1⟩
 have h3:=fun hp=>zil d id (by omega) (by omega) hp
 have h4:∀x0 x1:AObj,S 33 [d.av] [x0,x1]=some (.ret (dA d 4),x0::x1::.box (some 2) (dA d 4)::.box (some 2) (dA d 4)::.arv (some 4) (elsA d.procs 10 d.procs.length)::cEs d.procs 10):=fun x0 x1=>zc0 d (by omega) (fun q hq=>⟨by have:=zbR hq;omega,ze4 hv q hq⟩) [x0,x1]
 have hnil:∀H:Heap,zah [(none,.nilv (some 4))] H=([(none,.nilv (some 4))],H):=fun _=>rfl
 have hst:∀(x0:AObj) (v:AV) (X:Heap),zan (some 2) 0 (x0::.box (some 2) v::X) [.ptr 1 0,dA d 4]=some (.undef,x0::.box (some 2) (dA d 4)::X):=fun x0 v X=>by
  simp[zan,astore,dA,AV.plain,AV.shp,AV.own,zah,zaS,total,Sh.size]
 simp only[Dbs.av] at h1 h3 h4
 rw[hv] at h1
 rw[hw] at h3
 have hpm:=List.mem_of_getElem? hpp
 have hc5:p.cls.length<=500:=by have:=zbR hpm;omega
 have hil:=(List.getElem?_eq_some_iff.1 hpp).1
 have hge:=zbA (b:=10) hpp
 have hpt:AV.part deep (dA d 4) 1 none=some (.slv (some 4) 4 d.procs.length 0 d.procs.length):=rfl
 have hia:zaW (some 4) [.slv (some 4) 4 d.procs.length 0 d.procs.length,.pv none (.int .i64 i)]=some (.epv (some 4) 4 d.procs.length i 0):=by
  simp[zaW,aindex,hil]
 have hfa:zcQ 3 [.epv (some 4) 4 d.procs.length i 0]=some (.epv (some 4) 4 d.procs.length i 3):=rfl
 obtain⟨q,hq⟩:∃q,q=10+6*i:=⟨_,rfl⟩
 rw[<-hq] at hge
 have hld:∀(x0 x1 x2 x3:AObj) (X:Heap),aload none (x0::x1::x2::x3::.arv (some 4) (elsA d.procs 10 d.procs.length)::X) (.epv (some 4) 4 d.procs.length i 3)=some (.sl (some 9) q p.cls.length 0 p.cls.length):=fun x0 x1 x2 x3 X=>by
  have e:AV.part deep (pA p q) 3 none=some (.sl (some 9) q p.cls.length 0 p.cls.length):=rfl
  simp[aload,zaE,hge,e]
 have hw1:IntKind.i64.wrap ((k:Int)+1)=(k:Int)+1:=by
  rw[zaZ (by omega) (by omega)]
 obtain⟨E,hE⟩:∃E,E=(cEs d.procs 10).set (6*i+5) (.arr (some 9) ((Sto.pvs p.cls).take k++((Sto.pvs p.cls).drop (k+1)++[zS])) false):=⟨_,rfl⟩
 have hcg:=zdr d.procs 10 i p hpp
 have h5:∀(x0 x1 x2 x3 x4:AObj),S 38 [.sl (some 9) q p.cls.length 0 p.cls.length,.pv none (.int .i64 (k:Int)),.pv none (.int .i64 ((k:Int)+1))] (x0::x1::x2::x3::x4::cEs d.procs 10)=some (.ret (.sl (some 9) q p.cls.length 0 (p.cls.length - 1)),x0::x1::x2::x3::x4::E):=fun x0 x1 x2 x3 x4=>by
  have:=zsJ (x0::x1::x2::x3::x4::cEs d.procs 10) q (Sto.pvs p.cls) k p.cls.length hkl (Sto.pvs_len _) hc5 (by
   rw[hq,show 10+6*i=(6*i+5)+1+1+1+1+1 by omega]
   simp only[List.getElem?_cons_succ]
   exact hcg)
  rw[this,hE,hq,show 10+6*i=(6*i+5)+1+1+1+1+1 by omega]
  rfl
 obtain⟨pN,hpN⟩:∃pN:AV,pN=.agg [(none,.pv none (.str p.name)),(none,.pv none (.int .i64 p.ar)),(none,.pv none (.bool p.dyn)),(none,.sl (some 9) q p.cls.length 0 (p.cls.length - 1))]:=⟨_,rfl⟩
 have hse:∀(x0 x1 x2 x3:AObj) (X:Heap),zan none 0 (x0::x1::x2::x3::.arv (some 4) (elsA d.procs 10 d.procs.length)::X) [.epv (some 4) 4 d.procs.length i 3,.sl (some 9) q p.cls.length 0 (p.cls.length - 1)]=some (.undef,x0::x1::x2::x3::.arv (some 4) ((elsA d.procs 10 d.procs.length).set i pN)::X):=fun x0 x1 x2 x3 X=>by
  have e:AV.upd deep (pA p q) 3 none (.sl (some 9) q p.cls.length 0 (p.cls.length - 1))=some pN:=by rw[hpN];rfl
  simp[zan,astore,zaE,hge,e,AV.plain,AV.shp]
 have fin:∀(x0 x1 x2 x3:AObj),DbA ⟨d.next,d.procs.set i ⟨p.name,p.ar,p.dyn,p.cls.take k++p.cls.drop (k+1)⟩⟩ (dA d 4) (x0::x1::x2::x3::.arv (some 4) ((elsA d.procs 10 d.procs.length).set i pN)::E):=fun x0 x1 x2 x3=>by
  refine⟨4,d.procs.length,_,d.procs.set i ⟨p.name,p.ar,p.dyn,p.cls.take k++p.cls.drop (k+1)⟩,?_,rfl,by rw[List.length_set,zaE],by simp,by simp,by simp[List.take_of_length_le],fun j r v hr hv2=> ?_⟩
  ·simp[dA]
  ·by_cases hji:i=j
   ·subst hji
    rw[List.getElem?_set_self hil] at hr
    cases hr
    rw[List.getElem?_set_self (by rw[zaE];exact hil)] at hv2
    cases hv2
    rw[hpN]
    have hl:(p.cls.take k++p.cls.drop (k+1)).length=p.cls.length - 1:=by simp;omega
    have hpvs:Sto.pvs (p.cls.take k++p.cls.drop (k+1))=(Sto.pvs p.cls).take k++(Sto.pvs p.cls).drop (k+1):=by simp[Sto.pvs]
    refine .inr ⟨.sl (some 9) q p.cls.length 0 (p.cls.length - 1),rfl,.inr ⟨q,p.cls.length,(Sto.pvs p.cls).take k++((Sto.pvs p.cls).drop (k+1)++[zS]),false,by rw[hl],?_,?_,by rw[hl];omega,?_⟩⟩
    ·rw[hq,show 10+6*i=(6*i+5)+1+1+1+1+1 by omega]
     simp only[List.getElem?_cons_succ]
     rw[hE,List.getElem?_set_self (List.getElem?_eq_some_iff.1 hcg).1]
    ·simp[Sto.pvs_len]
     omega
    ·rw[hl,hpvs,<-List.append_assoc]
     exact List.take_left' (by simp[Sto.pvs_len];omega)
   ·rw[List.getElem?_set_ne hji] at hr hv2
    rw[zbA hr] at hv2
    cases hv2
    refine .inr ⟨_,rfl,.inr ⟨10+6*j,r.cls.length,Sto.pvs r.cls,false,rfl,?_,Sto.pvs_len _,Nat.le_refl _,List.take_of_length_le (by rw[Sto.pvs_len];exact Nat.le_refl _)⟩⟩
    rw[show 10+6*j=(6*j+5)+1+1+1+1+1 by omega]
    simp only[List.getElem?_cons_succ]
    rw[hE,List.getElem?_set_ne (by omega)]
    exact zdr _ _ _ _ hr
 have hfr:∀(d':Dbs) (H:Heap),DbA d' (dA d 4) H->Am.frozen (.tuple [d'.av,.pv none (.bool true)]) (.tuple [dA d 4,.pv none (.bool true)]) H:=fun d' H hD=>by
  obtain⟨H',hz⟩:=hD.frz
  have e3:∀X,AV.freeze deep (.pv none (.bool true)) X=some (.bool true,X):=fun _=>rfl
  have hsh:(dA d 4).shp=some 2:=rfl
  refine⟨H',?_⟩
  simp only[AV.freezeRes,zap,hz,e3,hsh]
  rfl
 have hr:∀(x0:AObj) (X:Heap),zaJ ⟨[(4,.ptr 1 0),(5,.pv none (.bool true))],x0::.box (some 2) (dA d 4)::X⟩ (4,some (some 2))=some (dA d 4):=fun x0 X=>by
  simp[zaJ,Fr.look,aload]
 have hs1:∀(x0:AObj) (X X':Heap),zb9 (x0::.box (some 2) (dA d 4)::X) (x0::.box (some 2) (dA d 4)::X') (.ptr 1 1)=true:=fun x0 X X'=>by
  simp[zb9,AObj.beq,dA,AV.beq,AV.beqc,PV.beq]
 simp -dsimp -implicitDefEqProofs only[go_sem,seval,↓reduceIte,List.take_succ_cons,List.drop_succ_cons,List.all_cons,List.all_nil,hs1,Dbs.av,zav,Prc.pvs_len,h1,h3,h4,hst,hnil,hpt,hia,hfa,hld,hw1,h5,hse,hr,List.append_assoc,zad,zaa,zae,zab,Nat.add_assoc,List.length_append]
 have hF:=hfr _ _ (fin (.box (some 2) (.pv (some 2) d.pv)) (.box (some 2) (dA d 4)) (.box (some 2) (dA d 4)) (.box (some 2) (dA d 4)))
 simp only[zaQ,Dbs.av] at hF
 exact hF
theorem zr2(H:Heap)(q:Nat)(es:List PV)(k n:Nat)(v:PV)(hk:k<=n)(he:es.length=n)(hn:n<=500)(hg:H[q]? =some (.arr (some 9) es false)):S 35 [.sl (some 9) q n 0 n,.pv none (.int .i64 (k:Int)),.tsl (some 9) [v]] H=some (.ret (.sl (some 9) q (n+1) 0 (n+1)),H.set q (.arr (some 9) (es.take k++v::es.drop k) false)):=by
 rw[S,zfZ (F:=find tab) (prim:=prim) (p:=zdn (some 9)) rfl]
 have hl:n<=lim:=by unfold lim;omega
 have hl1:n+1<=lim:=by unfold lim;omega
 by_cases e:k=n
 ·subst e
  have h1:es.take k=es:=List.take_of_length_le (by omega)
  have h2:es.drop k=[]:=List.drop_eq_nil_of_le (by omega)
  simp[zdn,zbu,aappend,elems,hg,he,hl,hl1,h1,h2]
 ·have e':¬(k:Int)=(n:Int):=by omega
  have hlt:(k:Int)<(n:Int):=by omega
  have hlt':k<n:=by omega
  simp[zdn,hg,he,hl1,e,hlt']
  intro h
  omega
theorem zr3(H:Heap)(v:PV):S 35 [.tsl (some 9) [],.pv none (.int .i64 0),.tsl (some 9) [v]] H=some (.ret (.sl (some 9) H.length 1 0 1),H++[.arr (some 9) [v] false]):=by
 rw[S,zfZ (F:=find tab) (prim:=prim) (p:=zdn (some 9)) rfl]
 have hl:0<=lim:=by unfold lim;omega
 have hl1:1<=lim:=by unfold lim;omega
 simp[zdn,zbu,aappend,elems,hl,hl1]
set_option maxRecDepth 20000 in
theorem zr4(d:Dbs)(hb:BndD d)(c:Cz)(z1:c.head.size<100000000)(z2:c.body.size<100000000)(fr dy:Bool)(hv:okD d=true)(hn:okC c=true)(ht:totD d.procs≠500)(h:d.next=4294967296)(hp:Heap):S 11 [d.av,c.av,.pv none (.bool fr),.pv none (.bool dy)] hp=some (.ret (.tuple [zDb.av,.pv none (.int .i64 13)]),hp):=by
 refine zam rfl rfl rfl (zaf [(some 2,d.pv),(some 8,c.pv),(none,.bool fr),(none,.bool dy)]) rfl ?_
 have h1:=fun hp=>zaM d hb.1 hb.2.1 hb.2.2 hp
 have h2:=fun hp=>zb8 c z1 z2 hp
 have h3:∀(s:List UInt8) (a:Int) hp,S 31 [d.av,.pv none (.str s),.pv none (.int .i64 a)] hp=some (.ret (.tuple [.pv none (.int .i64 (lbD d.procs (keyP s a):Int)),.pv none (.bool (fnD d.procs (keyP s a)))]),hp):=fun s a hp=>zbS d s a hb.1 (zcx hv) hp
 have hl5:d.procs.length<=500/\totD d.procs<=500:=by
  simp only[okD,Bool.and_eq_true,decide_eq_true_eq] at hv
  exact⟨hv.2.2.1,hv.2.2.2.1⟩
 have h4:=fun hp=>zdq d (by omega) (by omega) hp
 have hz0:zaN [(none,.pv none (.int .i64 0)),(none,.nilv (some 4))] [] []=some (.agg [(none,.pv none (.int .i64 0)),(none,.nilv (some 4))]):=rfl
 have hnil:∀H:Heap,zah [(none,.nilv (some 4))] H=([(none,.nilv (some 4))],H):=fun _=>rfl
 simp only[Dbs.av] at h1 h3 h4
 simp only[Cz.av] at h2
 rw[hv] at h1
 rw[hn] at h2
 have ht':((totD d.procs:Int)=500)=False:=eq_false (by omega)
 have hx:PV.part deep d.pv 0 none=some (.int .i64 4294967296):=by rw[zaz,h]
 obtain⟨⟨hk,hi,hna,has⟩,bd⟩:=c
 have hpn:PV.part deep (Cz.pv ⟨⟨hk,hi,hna,has⟩,bd⟩) 2 none=some (.str hna):=rfl
 have hpa:PV.part deep (Cz.pv ⟨⟨hk,hi,hna,has⟩,bd⟩) 3 none=some (.sl (some 4) (Tm.pvs has)):=rfl
 simp -dsimp -implicitDefEqProofs only[hpn,hpa,Tm.pvs_len,g11,c11r0,c11r1,c11r2,c11k3,c11r4,c11r5,c11r6,c11k7,c11r8,c11r9,c11r10,c11k11,c11r12,c11r13,c11r14,c11r15,c11k16,c11r17,c11r18,c11r19,c11,go_sem,seval,↓reduceIte,Dbs.av,Cz.av,h1,h2,h3,h4,ht',hx,hz0,hnil,zac (Nat.zero_le _),List.append_assoc,zad,zaa,zae,zab,Nat.add_assoc,List.length_append]
 exact⟨_,rfl⟩
set_option maxRecDepth 20000 in
theorem zqc(d:Dbs)(hb:BndD d)(c:Cz)(z1:c.head.size<100000000)(z2:c.body.size<100000000)(fr dy:Bool)(hv:okD d=true)(hn:okC c=true)(ht:totD d.procs≠500)(hx:d.next≠4294967296)(hf:fnD d.procs (keyP c.head.name c.head.args.length)=false)(h:d.procs.length=500)(hp:Heap):S 11 [d.av,c.av,.pv none (.bool fr),.pv none (.bool dy)] hp=some (.ret (.tuple [zDb.av,.pv none (.int .i64 13)]),hp):=by
 refine zam rfl rfl rfl (zaf [(some 2,d.pv),(some 8,c.pv),(none,.bool fr),(none,.bool dy)]) rfl ?_
 have h1:=fun hp=>zaM d hb.1 hb.2.1 hb.2.2 hp
 have h2:=fun hp=>zb8 c z1 z2 hp
 have h3:∀hp,S 31 [d.av,.pv none (.str c.head.name),.pv none (.int .i64 c.head.args.length)] hp=some (.ret (.tuple [.pv none (.int .i64 (lbD d.procs (keyP c.head.name c.head.args.length):Int)),.pv none (.bool (fnD d.procs (keyP c.head.name c.head.args.length)))]),hp):=fun hp=>zbS d _ _ hb.1 (zcx hv) hp
 have hl5:d.procs.length<=500/\totD d.procs<=500:=by
  simp only[okD,Bool.and_eq_true,decide_eq_true_eq] at hv
  exact⟨hv.2.2.1,hv.2.2.2.1⟩
 have h4:=fun hp=>zdq d (by omega) (by omega) hp
 have hz0:zaN [(none,.pv none (.int .i64 0)),(none,.nilv (some 4))] [] []=some (.agg [(none,.pv none (.int .i64 0)),(none,.nilv (some 4))]):=rfl
 have hnil:∀H:Heap,zah [(none,.nilv (some 4))] H=([(none,.nilv (some 4))],H):=fun _=>rfl
 rw[hf] at h3
 simp only[Dbs.av] at h1 h3 h4
 simp only[Cz.av] at h2
 rw[hv] at h1
 rw[hn] at h2
 have ht':((totD d.procs:Int)=500)=False:=eq_false (by omega)
 have hx':(d.next=4294967296)=False:=eq_false hx
 have hl':((d.procs.length:Int)=500)=True:=eq_true (by omega)
 obtain⟨⟨hk,hi,hna,has⟩,bd⟩:=c
 have hpn:PV.part deep (Cz.pv ⟨⟨hk,hi,hna,has⟩,bd⟩) 2 none=some (.str hna):=rfl
 have hpa:PV.part deep (Cz.pv ⟨⟨hk,hi,hna,has⟩,bd⟩) 3 none=some (.sl (some 4) (Tm.pvs has)):=rfl
 have ea:(Tm.mk hk hi hna has).args=has:=rfl
 have en:(Tm.mk hk hi hna has).name=hna:=rfl
 simp only[ea,en] at h3
 simp -dsimp -implicitDefEqProofs only[hpn,hpa,Tm.pvs_len,g11,c11r0,c11r1,c11r2,c11k3,c11r4,c11r5,c11r6,c11k7,c11r8,c11r9,c11r10,c11k11,c11r12,c11r13,c11r14,c11r15,c11k16,c11r17,c11r18,c11r19,c11,go_sem,seval,↓reduceIte,Dbs.av,Cz.av,zaz,zav,Prc.pvs_len,h1,h2,h3,h4,ht',hx',hl',hz0,hnil,zac (Nat.zero_le _),List.append_assoc,zad,zaa,zae,zab,Nat.add_assoc,List.length_append]
 exact⟨_,rfl⟩
end Go.Proofs.Ytligpohiokpnhaa
