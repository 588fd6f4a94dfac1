/- What is proved: the order of procedures; db.place. -/
import Derived.Test.YtligpohiokpnhaaDb2
set_option linter.unusedSimpArgs false
set_option linter.unusedVariables false
namespace Go.Proofs.Ytligpohiokpnhaa
open Go.Am
theorem zrZ:∀a:List UInt8,Op.bytesLess a a=false
 |[]=>rfl
 |x::r=>by
  have:=zrZ r
  simp[Op.bytesLess,this]
theorem zlZ:∀a b c:List UInt8,Op.bytesLess a b=true->Op.bytesLess b c=true->Op.bytesLess a c=true
 |_,[],_,h,_=>by simp[Op.bytesLess] at h
 |_,_::_,[],_,h=>by simp[Op.bytesLess] at h
 |[],_::_,_::_,_,_=>rfl
 |x::a,y::b,z::c,h1,h2=>by
  simp only[Op.bytesLess,Bool.or_eq_true,Bool.and_eq_true,decide_eq_true_eq,beq_iff_eq] at h1 h2 ⊢
  rcases h1 with h1|⟨rfl,h1⟩
  ·rcases h2 with h2|⟨rfl,h2⟩
   ·left
    rw[UInt8.lt_iff_toNat_lt] at*
    omega
   ·exact .inl h1
  ·rcases h2 with h2|⟨rfl,h2⟩
   ·exact .inl h2
   ·exact .inr ⟨rfl,zlZ a b c h1 h2⟩
theorem zrs{p q:Prc}:ordP p q<0↔Op.bytesLess p.name q.name=true\/(p.name=q.name/\p.ar<q.ar):=by
 unfold ordP strC intC
 cases h:Op.bytesLess p.name q.name with
 |true=>simp
 |false=>
  by_cases hn:p.name=q.name
  ·simp only[hn,zrZ]
   by_cases ha:p.ar<q.ar
   ·simp[ha]
   ·by_cases hb:q.ar<p.ar
    ·simp[ha,hb]
    ·simp[ha,hb]
  ·simp[hn]
theorem zfi{p q r:Prc}(h1:ordP p q<0)(h2:ordP q r<0):ordP p r<0:=by
 rw[zrs] at h1 h2 ⊢
 rcases h1 with h1|⟨e1,h1⟩
 ·rcases h2 with h2|⟨e2,h2⟩
  ·exact .inl (zlZ _ _ _ h1 h2)
  ·exact .inl (e2▸h1)
 ·rcases h2 with h2|⟨e2,h2⟩
  ·exact .inl (e1▸h2)
  ·exact .inr ⟨e1.trans e2,by omega⟩
def lbD(l:List Prc)(q:Prc):Nat:=(l.takeWhile fun p=>decide (ordP p q<0)).length
def fnD(l:List Prc)(q:Prc):Bool:=match l[lbD l q]? with
 |some p=>decide (ordP p q=0)
 |none=>false
def IncP(l:List Prc):Prop:=∀(i j:Nat) (a b:Prc),i<j->l[i]? =some a->l[j]? =some b->ordP a b<0
theorem zr0(l:List Prc)(q:Prc):lbD l q<=l.length:=by
 unfold lbD
 exact(List.takeWhile_prefix _).length_le
theorem zl0{q:Prc}:∀{l:List Prc} {k:Nat} {x:Prc},IncP l->l[k]? =some x->(ordP x q<0↔k<lbD l q)
 |[],k,x,_,h=>by simp at h
 |y::r,k,x,hi,h=>by
  have hr:IncP r:=fun i j a b hij ha hb=>hi (i+1) (j+1) a b (by omega) (by simpa using ha) (by simpa using hb)
  unfold lbD
  rw[List.takeWhile_cons]
  by_cases hy:ordP y q<0
  ·rw[if_pos (decide_eq_true hy),List.length_cons]
   cases k with
   |zero=>
    simp at h
    subst h
    exact⟨fun _=>by omega,fun _=>hy⟩
   |succ k=>
    have:=zl0 (q:=q) hr (k:=k) (x:=x) (by simpa using h)
    rw[this]
    unfold lbD
    omega
  ·rw[if_neg (by simpa using hy)]
   constructor
   ·intro hx
    exfalso
    cases k with
    |zero=>
     simp at h
     subst h
     exact hy hx
    |succ k=>exact hy (zfi (hi 0 (k+1) y x (by omega) rfl h) hx)
   ·intro h0
    simp at h0
theorem zpH(p q:Prc)(hp:Heap):S 58 [p.av,q.av] hp=some (.ret (.pv none (.int .i64 (ordP p q))),hp):=by
 refine zaj rfl rfl rfl (zaa [(some 4,p.pv),(some 4,q.pv)]) rfl ?_
 have h1:=fun hp=>zlW p q hp
 simp only[Prc.av] at h1
 simp -dsimp -implicitDefEqProofs only[go_sem,seval,↓reduceIte,Prc.av,h1,List.append_assoc,zae,zac,zaf,zad,Nat.add_assoc,List.length_append]
 done
theorem zno(l:List Prc)(t:Prc)(hl:l.length<1000000000)(hi:IncP l)(hp:Heap):
  S 57 [.pv none (.sl (some 4) (Prc.pvs l)),.pv (some 4) t.pv,.pv none (.func (.func 58))] hp=some (.ret (.tuple [.pv none (.int .i64 (lbD l t:Int)),.pv none (.bool (fnD l t))]),hp):=by
 refine zaj rfl rfl rfl (zaa [(none,.sl (some 4) (Prc.pvs l)),(some 4,t.pv),(none,.func (.func 58))]) rfl ?_
 have hlb:=zr0 l t
 have hcmp:∀(x:Prc) hp,S 58 [.pv (some 4) x.pv,.pv (some 4) t.pv] hp=some (.ret (.pv none (.int .i64 (ordP x t))),hp):=fun x hp=>zpH x t hp
 simp -dsimp -implicitDefEqProofs only[go_sem,seval,↓reduceIte,Prc.pvs_len]
 refine zgo (fun n st=>∃i j:Nat,n=j - i/\i<=lbD l t/\lbD l t<=j/\j<=l.length/\st=⟨[(0,.pv none (.sl (some 4) (Prc.pvs l))),(2,.pv none (.func (.func 58))),(4,.ptr 0 0),(8,.pv none (.int .i64 (l.length:Int))),(9,.pv none (.int .i64 i)),(10,.pv none (.int .i64 j))],[.box (some 4) (.pv (some 4) t.pv)]⟩) (n:=l.length) ⟨0,l.length,by omega,by omega,hlb,by omega,?_⟩ ?_
 ·simp -dsimp -implicitDefEqProofs only[go_sem,seval,↓reduceIte]
  try rfl
 ·rintro n st ⟨i,j,hn,h1,h2,h3,rfl⟩
  by_cases hij:i<j
  ·have hc:(i:Int)<(j:Int):=by omega
   obtain⟨x,hx⟩:∃x,l[(i+j) / 2]? =some x:=⟨_,List.getElem?_eq_getElem (by omega)⟩
   have hcall:=hcmp x
   have hs:=zl0 (q:=t) hi hx
   have w1:IntKind.i64.wrap ((i:Int)+(j:Int))=((i+j:Nat):Int):=by rw[zaF (by omega) (by omega)];omega
   have w2:IntKind.u64.wrap ((i+j:Nat):Int)=((i+j:Nat):Int):=zrf (by omega) (by omega)
   have w3:IntKind.i64.wrap (((i+j:Nat):Int) / 2)=(((i+j) / 2:Nat):Int):=by rw[zaF (by omega) (by omega)];omega
   have w4:IntKind.i64.wrap ((((i+j) / 2:Nat):Int)+1)=(((i+j) / 2+1:Nat):Int):=by rw[zaF (by omega) (by omega)];omega
   by_cases h0:ordP x t<0
   ·simp -dsimp -implicitDefEqProofs only[go_sem,seval,↓reduceIte,Prc.pvs_len,hc,zrU (show 0<IntKind.bits .u64 by decide),w1,w2,w3,w4,zai (Prc.pvs_get hx),hcall,h0]
    refine⟨j - ((i+j) / 2+1),by omega,(i+j) / 2+1,j,rfl,?_,h2,h3,rfl⟩
    have:=hs.1 h0
    omega
   ·simp -dsimp -implicitDefEqProofs only[go_sem,seval,↓reduceIte,Prc.pvs_len,hc,zrU (show 0<IntKind.bits .u64 by decide),w1,w2,w3,w4,zai (Prc.pvs_get hx),hcall,h0]
    refine⟨(i+j) / 2 - i,by omega,i,(i+j) / 2,rfl,h1,?_,by omega,rfl⟩
    have:¬(i+j) / 2<lbD l t:=fun h=>h0 (hs.2 h)
    omega
  ·have hc:¬(i:Int)<(j:Int):=by omega
   obtain rfl:i=lbD l t:=by omega
   by_cases hll:lbD l t<l.length
   ·have hc2:((lbD l t:Nat):Int)<(l.length:Int):=by omega
    obtain⟨x,hx⟩:∃x,l[lbD l t]? =some x:=⟨_,List.getElem?_eq_getElem hll⟩
    have hcall:=hcmp x
    have hf:fnD l t=decide (ordP x t=0):=by unfold fnD;rw[hx]
    simp -dsimp -implicitDefEqProofs only[go_sem,seval,↓reduceIte,Prc.pvs_len,hc,hc2,zai (Prc.pvs_get hx),hcall,hf]
   ·have hc2:¬((lbD l t:Nat):Int)<(l.length:Int):=by omega
    have hf:fnD l t=false:=by unfold fnD;rw[List.getElem?_eq_none (by omega)]
    simp -dsimp -implicitDefEqProofs only[go_sem,seval,↓reduceIte,Prc.pvs_len,hc,hc2,hf]
theorem zd0(d:Dbs)(s:List UInt8)(a:Int)(hl:d.procs.length<1000000000)(hi:IncP d.procs)(hp:Heap):S 31 [d.av,.pv none (.str s),.pv none (.int .i64 a)] hp=some (.ret (.tuple [.pv none (.int .i64 (lbD d.procs ⟨s,a,false,[]⟩:Int)),.pv none (.bool (fnD d.procs ⟨s,a,false,[]⟩))]),hp):=by
 refine zaj rfl rfl rfl (zaa [(some 2,d.pv),(none,.str s),(none,.int .i64 a)]) rfl ?_
 have hbu:zaJ [(none,.pv none (.str [])),(none,.pv none (.int .i64 0)),(none,.pv none (.bool false)),(none,.tsl (some 9) [])] [0,1] [.pv none (.str s),.pv none (.int .i64 a)]=some (.agg [(none,.pv none (.str s)),(none,.pv none (.int .i64 a)),(none,.pv none (.bool false)),(none,.tsl (some 9) [])]):=rfl
 have h1:∀hp,S 57 [.pv none (.sl (some 4) (Prc.pvs d.procs)),.agg [(none,.pv none (.str s)),(none,.pv none (.int .i64 a)),(none,.pv none (.bool false)),(none,.tsl (some 9) [])],.pv none (.func (.func 58))] hp=some (.ret (.tuple [.pv none (.int .i64 (lbD d.procs ⟨s,a,false,[]⟩:Int)),.pv none (.bool (fnD d.procs ⟨s,a,false,[]⟩))]),hp):=fun hp=>
  zcL (F:=find tab) (prim:=prim) (ps:=[(none,.sl (some 4) (Prc.pvs d.procs)),(some 4,(Prc.mk s a false []).pv),(none,.func (.func 58))]) (hp1:=hp) rfl rfl rfl rfl (zno d.procs ⟨s,a,false,[]⟩ hl hi [])
 simp -dsimp -implicitDefEqProofs only[go_sem,seval,↓reduceIte,Dbs.av,zaH,hbu,h1,List.append_assoc,zae,zac,zaf,zad,Nat.add_assoc,List.length_append]
 done
theorem zl1(next:Int):∀(l:List Prc) (q:Option Prc) (seen:List Int),okPs next q seen l=true->(∀p,l.head? =some p->preB q p=true)/\IncP l
 |[],q,seen,_=>⟨fun p h=>(by cases h),fun i j a b _ h=>(by simp at h)⟩
 |x::r,q,seen,h=>by
  rw[okPs,Bool.and_eq_true,Bool.and_eq_true] at h
  obtain⟨_,h2,h3⟩:=h
  split at h3
  ·cases h3
  ·rename_i s' hs
   obtain⟨g1,g2⟩:=zl1 next r (some x) s' h3
   have hx:∀(j:Nat) (b:Prc),r[j]? =some b->ordP x b<0:=by
    intro j b hb
    cases r with
    |nil=>simp at hb
    |cons y r'=>
     have h0:=g1 y rfl
     have h0':ordP x y<0:=of_decide_eq_true h0
     cases j with
     |zero=>
      simp at hb
      subst hb
      exact h0'
     |succ j=>exact zfi h0' (g2 0 (j+1) y b (by omega) rfl hb)
   refine⟨fun p hp=>(by cases hp;exact h2),fun i j a b hij ha hb=> ?_⟩
   cases j with
   |zero=>omega
   |succ j=>
    cases i with
    |zero=>
     simp at ha
     subst ha
     exact hx j b (by simpa using hb)
    |succ i=>exact g2 i j a b (by omega) (by simpa using ha) (by simpa using hb)
def BndD(d:Dbs):Prop:=d.procs.length<1000000000/\totD d.procs<1000000000/\∀p∈d.procs,∀s∈p.cls,s.cl.head.size<100000000/\s.cl.body.size<100000000
theorem zfj{d:Dbs}(h:okD d=true):IncP d.procs:=by
 simp only[okD,Bool.and_eq_true] at h
 exact(zl1 _ _ _ _ h.2.2.2.2).2
theorem zih(d:Dbs)(hb:BndD d)(hp:Heap):S 13 [d.av] hp=some (.ret (.pv none (.int .i64 (if okD d=true then(totD d.procs:Int) else 0))),hp):=by
 refine zaj rfl rfl rfl (zaa [(some 2,d.pv)]) rfl ?_
 have h1:=fun hp=>zby d hb.1 hb.2.1 hb.2.2 hp
 have h2:=fun hp=>zdk d hb.1 hb.2.1 hp
 simp only[Dbs.av] at h1 h2
 by_cases h:okD d=true
 ·rw[h] at h1
  rw[if_pos h]
  simp -dsimp -implicitDefEqProofs only[go_sem,seval,↓reduceIte,Dbs.av,h1,h2,List.append_assoc,zae,zac,zaf,zad,Nat.add_assoc,List.length_append]
 ·have h':okD d=false:=by simpa using h
  rw[h'] at h1
  rw[if_neg h]
  simp -dsimp -implicitDefEqProofs only[go_sem,seval,↓reduceIte,Dbs.av,h1,h2,List.append_assoc,zae,zac,zaf,zad,Nat.add_assoc,List.length_append]
def Sto.av(s:Sto):AV:=.pv (some 9) s.pv
theorem zrt(s:Sto):PV.part deep s.pv 1 (some 4)=some s.cl.head.pv:=by
 cases s with|mk i c=>cases c with|mk h b=>cases h;rfl
theorem zru(s:Sto):PV.part deep s.pv 5 (some 4)=some s.cl.body.pv:=by
 cases s with|mk i c=>cases c with|mk h b=>cases h;cases b;rfl
theorem zgv(s:Sto)(vh:s.cl.head.valid=true)(vb:s.cl.body.valid=true)(hp:Heap):S 36 [s.av] hp=some (.ret s.av,hp):=by
 refine zaj rfl rfl rfl (zaa [(some 9,s.pv)]) rfl ?_
 have zh:=zbd vh
 have zb:=zbd vb
 have h1:=fun hp=>zie s.cl.head hp vh (by omega)
 have h2:=fun hp=>zie s.cl.body hp vb (by omega)
 have b1:zaJ [(some 4,.agg [(none,.pv none (.int .i64 0)),(none,.pv none (.int .i64 0)),(none,.pv none (.str [])),(none,.tsl (some 4) [])]),(some 4,.agg [(none,.pv none (.int .i64 0)),(none,.pv none (.int .i64 0)),(none,.pv none (.str [])),(none,.tsl (some 4) [])])] [0,1] [.pv (some 4) s.cl.head.pv,.pv (some 4) s.cl.body.pv]=some (.pv (some 8) s.cl.pv):=rfl
 have b2:zaJ [(none,.pv none (.int .i64 0)),(some 8,.agg [(some 4,.agg [(none,.pv none (.int .i64 0)),(none,.pv none (.int .i64 0)),(none,.pv none (.str [])),(none,.tsl (some 4) [])]),(some 4,.agg [(none,.pv none (.int .i64 0)),(none,.pv none (.int .i64 0)),(none,.pv none (.str [])),(none,.tsl (some 4) [])])])] [0,1] [.pv none (.int .i64 s.id),.pv (some 8) s.cl.pv]=some (.pv (some 9) s.pv):=rfl
 simp only[Tm.av] at h1 h2
 simp -dsimp -implicitDefEqProofs only[b1,b2,g36,c36r0,c36r1,c36,go_sem,seval,↓reduceIte,Sto.av,zcf,zcW,zrt,zru,h1,h2,zab (Nat.zero_le _),List.append_assoc,zae,zac,zaf,zad,Nat.add_assoc,List.length_append]
 done
def okCl(p:Prc):Prop:=∀s∈p.cls,s.cl.head.valid=true/\s.cl.body.valid=true
def pA(p:Prc)(q:Nat):AV:=.agg [(none,.pv none (.str p.name)),(none,.pv none (.int .i64 p.ar)),(none,.pv none (.bool p.dyn)),(none,.sl (some 9) q p.cls.length 0 p.cls.length)]
def zS:PV:=.agg [(none,.int .i64 0),(some 8,.agg [(some 4,.agg [(none,.int .i64 0),(none,.int .i64 0),(none,.str []),(none,.sl (some 4) [])]),(some 4,.agg [(none,.int .i64 0),(none,.int .i64 0),(none,.str []),(none,.sl (some 4) [])])])]
theorem zsO{Γ:Oracle}{b:Nat}{vs:List AV}{hp:Heap}{K:AV->Heap->Prop}{Kp:PV->Heap->Prop}(sh:Sh):opK (aOp Γ b (.copy sh) vs hp) K Kp=zbP (ziv sh hp vs) K:=by
 show opK (match ziv sh hp vs with|some (v,hp')=>some (OpRes.val v hp')|none=>none) K Kp=_
 cases ziv sh hp vs with
 |none=>rfl
 |some r=>cases r;rfl
theorem zrv{α:Type}{l:List α}{i:Nat}{x:α}(h:l[i]? =some x):l.set i x=l:=by
 have hi:=(List.getElem?_eq_some_iff.1 h)
 obtain⟨h1,h2⟩:=hi
 rw[<-h2,List.set_getElem_self]
theorem zfC(p:Prc)(hl:p.cls.length<1000000)(hc:okCl p)(hp:Heap):S 39 [p.av] hp=some (.ret (pA p (hp.length+3)),hp++[.box (some 4) (pA p (hp.length+3)),.box (some 4) (pA p (hp.length+3)),.arr (some 9) [] false,.arr (some 9) (Sto.pvs p.cls) false]):=by
 refine zbO rfl rfl rfl rfl ?_
 have hpl:=Sto.pvs_len p.cls
 have hlim:p.cls.length<=lim:=by unfold lim;omega
 have hmk:∀H:Heap,zcA (some 9) zS H [.pv none (.int .i64 p.cls.length),.pv none (.int .i64 p.cls.length)]=some (.sl (some 9) H.length p.cls.length 0 p.cls.length,H++[.arr (some 9) (List.replicate p.cls.length zS) false]):=fun H=>by
  simp[zcA,hlim,zcT]
 have hcp:∀x0 x1 x2:AObj,ziv (some 9) (hp++[x0,x1,x2,.arr (some 9) (List.replicate p.cls.length zS) false]) [.sl (some 9) (hp.length+3) p.cls.length 0 p.cls.length,.pv none (.sl (some 9) (Sto.pvs p.cls))]=some (.pv none (.int .i64 p.cls.length),hp++[x0,x1,x2,.arr (some 9) (Sto.pvs p.cls) false]):=fun x0 x1 x2=>by
  have e:Nat.min p.cls.length p.cls.length=p.cls.length:=Nat.min_self _
  have e2:List.take p.cls.length (Sto.pvs p.cls)=Sto.pvs p.cls:=List.take_of_length_le (by omega)
  simp[ziv,elems,getN rfl,setN rfl,hpl,e,e2]
 simp only[zS] at hmk
 simp -dsimp -implicitDefEqProofs only[go_sem,seval,↓reduceIte,Prc.av,zei,hpl,hmk,zab (Nat.le_add_right _ _),List.append_assoc,zae,zac,zaf,zad,Nat.add_assoc,List.length_append]
 simp only[zS] at hcp
 simp -dsimp -implicitDefEqProofs only[go_sem,seval,↓reduceIte,Prc.av,zei,hpl,zsO,hcp,zab (Nat.le_add_right _ _),List.append_assoc,zae,zac,zaf,zad,Nat.add_assoc,List.length_append]
 obtain⟨x1,hx1⟩:∃x1:AObj,x1=.box (some 4) (.agg [(none,.pv none (.str [])),(none,.pv none (.int .i64 0)),(none,.pv none (.bool false)),(none,.sl (some 9) (hp.length+2) 0 0 0)]):=⟨_,rfl⟩
 rw[<-hx1]
 refine zcj (α:=Unit) p.cls.length (fun _ _=>True) (fun i _=>⟨[(1,.ptr hp.length 0),(2,.ptr (hp.length+1) 0),(3,.sl (some 9) (hp.length+3) p.cls.length 0 p.cls.length),(14,.sl (some 9) (hp.length+3) p.cls.length 0 p.cls.length),(15,.pv none (.int .i64 p.cls.length)),(16,.pv none (.int .i64 i))],hp++[.box (some 4) (.pv (some 4) p.pv),x1,.arr (some 9) [] false,.arr (some 9) (Sto.pvs p.cls) false]⟩) () ⟨trivial,rfl⟩ ?_ ?_
 ·rintro i - h -
  have hcc:(i:Int)<(p.cls.length:Int):=by omega
  have w1:IntKind.i64.wrap ((i:Int)+1)=((i+1:Nat):Int):=by rw[zaF (by omega) (by omega)];omega
  obtain⟨s,hs⟩:∃s,p.cls[i]? =some s:=⟨_,List.getElem?_eq_getElem h⟩
  obtain⟨vh,vb⟩:=hc s (List.mem_of_getElem? hs)
  have h3:=fun hp=>zgv s vh vb hp
  simp only[Sto.av] at h3
  have hia:zaR (some 9) [.sl (some 9) (hp.length+3) p.cls.length 0 p.cls.length,.pv none (.int .i64 i)]=some (.eptr (some 9) (hp.length+3) p.cls.length i 0):=by
   have:=zmZ (sh:=some 9) (s':=none) (k:=.i64) (r:=hp.length+3) (v:=p.cls.length) (o:=0) h
   rw[Nat.zero_add] at this
   exact this
  have hld:∀(x0 x1 x2:AObj) (X:Heap),aload (some 9) (hp++x0::x1::x2::.arr (some 9) (Sto.pvs p.cls) false::X) (.eptr (some 9) (hp.length+3) p.cls.length i 0)=some (.pv (some 9) s.pv):=fun x0 x1 x2 X=>by
   simp[aload,getN rfl,hpl,Sto.pvs_get hs]
  have hst:∀(x0 x1 x2:AObj) (X:Heap),zar (some 9) hp.length (hp++x0::x1::x2::.arr (some 9) (Sto.pvs p.cls) false::X) [.eptr (some 9) (hp.length+3) p.cls.length i 0,.pv (some 9) s.pv]=some (.undef,hp++x0::x1::x2::.arr (some 9) (Sto.pvs p.cls) false::X):=fun x0 x1 x2 X=>by
   have e:∀H,AV.freeze deep (.pv (some 9) s.pv) H=some (s.pv,H):=fun _=>rfl
   have e2:=zrv (Sto.pvs_get hs)
   have hi:i<(Sto.pvs p.cls).length:=by omega
   simp[zar,astore,AV.shp,e,getN rfl,setN rfl,hpl,hi,h,e2]
  simp -dsimp -implicitDefEqProofs only[go_sem,seval,↓reduceIte,hcc,w1,hia,hld,hst,h3,zab (Nat.le_add_right _ _),List.append_assoc,zae,zac,zaf,zad,Nat.add_assoc,List.length_append]
  refine⟨(),?_⟩
  rw[zeg 4 rfl rfl (by simp[hx1,AObj.refs,AV.refsIn,AV.refsIn.go]) (by simp[AV.refsIn])]
  rfl
 ·rintro - -
  have hcc:¬(p.cls.length:Int)<(p.cls.length:Int):=by omega
  have hup:∀(q:Nat),AV.upd deep (.pv (some 4) p.pv) 3 none (.sl (some 9) q p.cls.length 0 p.cls.length)=some (pA p q):=fun q=>rfl
  have hs1:∀x1 x2 x3:AObj,zar none hp.length (hp++[.box (some 4) (.pv (some 4) p.pv),x1,x2,x3]) [.ptr hp.length 3,.sl (some 9) (hp.length+3) p.cls.length 0 p.cls.length]=some (.undef,hp++[.box (some 4) (pA p (hp.length+3)),x1,x2,x3]):=fun x1 x2 x3=>by
   simp[zar,astore,zeI rfl,zeJ rfl,AV.plain,AV.shp,AV.own,hup]
  have hs2:∀(x0 x2 x3:AObj) (v:AV),zar (some 4) hp.length (hp++[x0,.box (some 4) v,x2,x3]) [.ptr (hp.length+1) 0,pA p (hp.length+3)]=some (.undef,hp++[x0,.box (some 4) (pA p (hp.length+3)),x2,x3]):=fun x0 x2 x3 v=>by
   simp[zar,astore,getN rfl,setN rfl,pA,AV.plain,AV.shp,AV.own,zal,zbh,total,Sh.size]
  rw[hx1]
  simp -dsimp -implicitDefEqProofs only[go_sem,seval,↓reduceIte,hcc,hs1,hs2,List.append_assoc,zae,zac,zaf,zad,Nat.add_assoc,List.length_append]
  rw[if_neg (by simp[pA,AV.refsIn,AV.refsIn.go])]
theorem zk8{c:Cz}(h:okC c=true):c.head.valid=true/\c.body.valid=true:=by
 simp only[okC,Bool.and_eq_true] at h
 obtain⟨h1,_,_,h4,_⟩:=h
 refine⟨h1,?_⟩
 split at h4
 ·rename_i g hg
  exact(zho hg).1
 ·cases h4
theorem zpI(next:Int)(p:Prc):∀(l:List Sto) (seen s':List Int),okSs next p seen l=some s'->∀s∈l,okC s.cl=true
 |[],_,_,_,s,hs=>by cases hs
 |x::r,seen,s',h,s,hs=>by
  rw[okSs] at h
  split at h
  ·rename_i hx
   rcases List.mem_cons.1 hs with rfl|hs
   ·simp only[okSt,Bool.and_eq_true] at hx
    exact hx.2.2.2.1
   ·exact zpI next p r _ s' h s hs
  ·cases h
theorem zpJ(next:Int):∀(l:List Prc) (q:Option Prc) (seen:List Int),okPs next q seen l=true->∀p∈l,okCl p
 |[],_,_,_,p,hp=>by cases hp
 |x::r,q,seen,h,p,hp=>by
  rw[okPs,Bool.and_eq_true,Bool.and_eq_true] at h
  obtain⟨_,_,h3⟩:=h
  split at h3
  ·cases h3
  ·rename_i s' hs
   rcases List.mem_cons.1 hp with rfl|hp
   ·exact fun s hs'=>zk8 (zpI next _ _ _ _ hs s hs')
   ·exact zpJ next r (some x) s' h3 p hp
theorem zjQ{d:Dbs}(h:okD d=true):∀p∈d.procs,okCl p:=by
 simp only[okD,Bool.and_eq_true] at h
 exact zpJ _ _ _ _ h.2.2.2.2
def zP:Prc:=⟨[],0,false,[]⟩
def keyP(s:List UInt8)(a:Int):Prc:=⟨s,a,false,[]⟩
def zii(d:Dbs)(s:List UInt8)(a:Int):Option Prc:=if okD d=true then(if fnD d.procs (keyP s a)=true then d.procs[lbD d.procs (keyP s a)]? else none) else none
theorem zpK(p:Prc)(q:Nat)(H:Heap)(z:Bool)(h:H[q]? =some (.arr (some 9) (Sto.pvs p.cls) z)):AV.freeze deep (pA p q) H=some (p.pv,H.set q (.arr (some 9) (Sto.pvs p.cls) true)):=by
 have e:∀n l hp,AV.freeze (n+1) (.agg l) hp=match AV.freeze.go n l hp with|some (ps,hp')=>some (.agg ps,hp')|none=>none:=fun _ _ _=>rfl
 show AV.freeze (7+1) (.agg _) _=_
 simp[e,AV.freeze.go,AV.freeze,h,Sto.pvs_len,Prc.pv]
set_option maxRecDepth 20000 in
theorem zsP(d:Dbs)(hb:BndD d)(s:List UInt8)(a:Int)(hp:Heap):S 14 [d.av,.pv none (.str s),.pv none (.int .i64 a)] hp=some (.ret (.tuple [((zii d s a).getD zP).av,.pv none (.bool (zii d s a).isSome)]),hp):=by
 refine zaj rfl rfl rfl (zaa [(some 2,d.pv),(none,.str s),(none,.int .i64 a)]) rfl ?_
 have h1:=fun hp=>zby d hb.1 hb.2.1 hb.2.2 hp
 have hz0:zaJ [(none,.pv none (.str [])),(none,.pv none (.int .i64 0)),(none,.pv none (.bool false)),(none,.tsl (some 9) [])] [] []=some (.agg [(none,.pv none (.str [])),(none,.pv none (.int .i64 0)),(none,.pv none (.bool false)),(none,.tsl (some 9) [])]):=rfl
 simp only[Dbs.av] at h1
 by_cases hv:okD d=true
 rotate_left
 ·have hv':okD d=false:=by simpa using hv
  have e:zii d s a=none:=by unfold zii;rw[if_neg hv]
  rw[hv'] at h1
  rw[e]
  simp -dsimp -implicitDefEqProofs only[go_sem,seval,↓reduceIte,Dbs.av,h1,hz0,zab (Nat.zero_le _),List.append_assoc,zae,zac,zaf,zad,Nat.add_assoc,List.length_append]
  exact⟨_,rfl⟩
 have hi:=zfj hv
 have h2:=fun hp=>zd0 d s a hb.1 hi hp
 have ek:(⟨s,a,false,[]⟩:Prc)=keyP s a:=rfl
 rw[ek] at h2
 rw[hv] at h1
 simp only[Dbs.av] at h2
 by_cases hf:fnD d.procs (keyP s a)=true
 rotate_left
 ·have hf':fnD d.procs (keyP s a)=false:=by simpa using hf
  have e:zii d s a=none:=by unfold zii;rw[if_pos hv,if_neg hf]
  rw[hf'] at h2
  rw[e]
  simp -dsimp -implicitDefEqProofs only[go_sem,seval,↓reduceIte,Dbs.av,h1,h2,hz0,zab (Nat.zero_le _),List.append_assoc,zae,zac,zaf,zad,Nat.add_assoc,List.length_append]
  exact⟨_,rfl⟩
 rw[hf] at h2
 obtain⟨p,hpp⟩:∃p,d.procs[lbD d.procs (keyP s a)]? =some p:=by
  unfold fnD at hf
  split at hf
  ·rename_i p h;exact⟨p,h⟩
  ·cases hf
 have e:zii d s a=some p:=by unfold zii;rw[if_pos hv,if_pos hf,hpp]
 rw[e]
 have hpm:=List.mem_of_getElem? hpp
 have hcl:=zcJ hpm
 have htd:totD d.procs<=500:=by
  simp only[okD,Bool.and_eq_true,decide_eq_true_eq] at hv
  exact hv.2.2.2.1
 have h3:=fun hp=>zfC p (by omega) (zjQ hv p hpm) hp
 simp only[Prc.av] at h3
 have hst:∀(x0 x2:AObj) (v:AV) (X:Heap),zar (some 4) 0 (x0::.box (some 4) v::x2::X) [.ptr 1 0,pA p 6]=some (.undef,x0::.box (some 4) (pA p 6)::x2::X):=fun x0 x2 v X=>by
  simp[zar,astore,pA,AV.plain,AV.shp,AV.own,zal,zbh,total,Sh.size]
 simp -dsimp -implicitDefEqProofs only[go_sem,seval,↓reduceIte,Dbs.av,h1,h2,h3,hz0,hst,zaH,zai (Prc.pvs_get hpp),List.append_assoc,zae,zac,zaf,zad,Nat.add_assoc,List.length_append]
 obtain⟨H,hH⟩:∃H:Heap,H=[.box (some 2) (.pv (some 2) d.pv),.box (some 4) (pA p 6),.arr (some 9) [] false,.box (some 4) (pA p 6),.box (some 4) (pA p 6),.arr (some 9) [] false,.arr (some 9) (Sto.pvs p.cls) false]:=⟨_,rfl⟩
 have hfz:=zpK p 6 H false (by rw[hH];rfl)
 have e3:∀X,AV.freeze deep (.pv none (.bool true)) X=some (.bool true,X):=fun _=>rfl
 have hsh:(pA p 6).shp=some 4:=rfl
 have hr:za9 ⟨[(6,.ptr 1 0),(7,.pv none (.bool true))],H⟩ (6,some (some 4))=some (pA p 6):=by
  rw[hH]
  simp[za9,Fr.look,aload]
 rw[<-hH,hr]
 show Am.frozen (.tuple [.pv (some 4) p.pv,.pv none (.bool true)]) (.tuple [pA p 6,.pv none (.bool true)]) H
 refine⟨H.set 6 (.arr (some 9) (Sto.pvs p.cls) true),?_⟩
 simp only[AV.freezeRes,zaq,hfz,e3,hsh]
 rfl
theorem zpL(s:Sto)(id:Int)(hp:Heap)(r:Nat)(hr:hp[r]? =some (.box none (.pv none (.int .i64 id)))):S 65 [s.av,.ptr r 0] hp=some (.ret (.pv none (.bool (decide (s.id=id)))),hp):=by
 refine zbO rfl rfl rfl rfl ?_
 have hr':∀X,(hp++X)[r]? =some (.box none (.pv none (.int .i64 id))):=fun X=>by rw[zib (zdF hr),hr]
 simp -dsimp -implicitDefEqProofs only[go_sem,seval,↓reduceIte,Sto.av,zcf,hr',List.append_assoc,zae,zac,zaf,zad,Nat.add_assoc,List.length_append]
 simp[AV.refsIn]
def idS(l:List Sto)(id:Int):Option Nat:=l.findIdx? fun s=>decide (s.id=id)
theorem zrw{l:List Sto}{id:Int}{i:Nat}{s:Sto}(h:l[i]? =some s)(hs:s.id=id)(hb:∀(j:Nat) (u:Sto),j<i->l[j]? =some u->u.id≠id):idS l id=some i:=by
 unfold idS
 rw[List.findIdx?_eq_some_iff_getElem]
 obtain⟨hi,he⟩:=List.getElem?_eq_some_iff.1 h
 refine⟨hi,by rw[he];exact decide_eq_true hs,fun j hj=> ?_⟩
 have hjl:j<l.length:=by omega
 simpa using hb j l[j] hj (List.getElem?_eq_getElem hjl)
theorem zl2{l:List Sto}{id:Int}(hb:∀(j:Nat) (u:Sto),l[j]? =some u->u.id≠id):idS l id=none:=by
 unfold idS
 rw[List.findIdx?_eq_none_iff]
 intro x hx
 obtain⟨j,hj⟩:=List.mem_iff_getElem?.1 hx
 simpa using hb j x hj
def idI:Option Nat->Int
 |some i=>i
 |none=> -1
theorem zrx(l:List Sto)(id:Int)(hl:l.length<1000000000)(hp:Heap)(r:Nat)(hr:hp[r]? =some (.box none (.pv none (.int .i64 id)))):S 64 [.pv none (.sl (some 9) (Sto.pvs l)),.func (.func 65) [] [.ptr r 0]] hp=some (.ret (.pv none (.int .i64 (idI (idS l id)))),hp):=by
 refine zbO rfl rfl rfl rfl ?_
 have hw:=fun s=>zpL s id hp r hr
 simp only[Sto.av] at hw
 simp -dsimp -implicitDefEqProofs only[go_sem,seval,↓reduceIte,Sto.pvs_len,List.append_assoc,zae,zac,zaf,zad,Nat.add_assoc,List.length_append]
 refine zcj (α:=Unit) l.length (fun i _=>∀(j:Nat) (u:Sto),j<i->l[j]? =some u->u.id≠id) (fun i _=>⟨[(0,.pv none (.sl (some 9) (Sto.pvs l))),(1,.func (.func 65) [] [.ptr r 0]),(7,.pv none (.int .i64 l.length)),(8,.pv none (.int .i64 i))],hp⟩) () ⟨fun j u h=>by omega,rfl⟩ ?_ ?_
 ·rintro i - h hinv
  have hc:(i:Int)<(l.length:Int):=by omega
  have w1:IntKind.i64.wrap ((i:Int)+1)=((i+1:Nat):Int):=by rw[zaF (by omega) (by omega)];omega
  obtain⟨s,hs⟩:∃s,l[i]? =some s:=⟨_,List.getElem?_eq_getElem h⟩
  have hws:=hw s
  by_cases he:s.id=id
  ·rw[decide_eq_true he] at hws
   rw[zrw hs he hinv]
   simp -dsimp -implicitDefEqProofs only[go_sem,seval,↓reduceIte,hc,w1,zai (Sto.pvs_get hs),hws,List.append_assoc,zae,zac,zaf,zad,Nat.add_assoc,List.length_append]
   exact⟨rfl,by simp[AV.refsIn]⟩
  ·rw[decide_eq_false he] at hws
   simp -dsimp -implicitDefEqProofs only[go_sem,seval,↓reduceIte,hc,w1,zai (Sto.pvs_get hs),hws,List.append_assoc,zae,zac,zaf,zad,Nat.add_assoc,List.length_append]
   refine⟨(),fun j u hj hu=> ?_,?_⟩
   ·rcases Nat.lt_or_ge j i with k|k
    ·exact hinv j u k hu
    ·have:j=i:=by omega
     subst this
     rw[hs] at hu
     cases hu
     exact he
   ·rw[zk1 rfl]
 ·rintro - hinv
  have hc:¬(l.length:Int)<(l.length:Int):=by omega
  rw[zl2 fun j u hj=>hinv j u (List.getElem?_eq_some_iff.1 hj).1 hj]
  simp -dsimp -implicitDefEqProofs only[go_sem,seval,↓reduceIte,hc,List.append_assoc,zae,zac,zaf,zad,Nat.add_assoc,List.length_append]
  exact⟨rfl,by simp[AV.refsIn]⟩
def whR:List Prc->Int->Option (Nat × Nat)
 |[],_=>none
 |p::r,id=>match idS p.cls id with
  |some k=>some (0,k)
  |none=>match whR r id with
   |some x=>some (x.1+1,x.2)
   |none=>none
theorem zl3{id:Int}{k:Nat}{p:Prc}:∀{l:List Prc} {i:Nat},l[i]? =some p->idS p.cls id=some k->(∀(j:Nat) (q:Prc),j<i->l[j]? =some q->idS q.cls id=none)->whR l id=some (i,k)
 |[],i,h,_,_=>by simp at h
 |x::r,0,h,hk,_=>by
  simp at h
  subst h
  rw[whR,hk]
 |x::r,i+1,h,hk,hb=>by
  have h0:=hb 0 x (by omega) rfl
  have ih:=zl3 (l:=r) (i:=i) (by simpa using h) hk fun j q hj hq=>hb (j+1) q (by omega) (by simpa using hq)
  rw[whR,h0,ih]
theorem zij{id:Int}:∀{l:List Prc},(∀(j:Nat) (q:Prc),l[j]? =some q->idS q.cls id=none)->whR l id=none
 |[],_=>rfl
 |x::r,hb=>by
  have h0:=hb 0 x rfl
  have ih:=zij (l:=r) fun j q hq=>hb (j+1) q (by simpa using hq)
  rw[whR,h0,ih]
theorem zl4(d:Dbs)(id:Int)(hl:d.procs.length<1000000000)(ht:totD d.procs<1000000000)(hp:Heap):S 37 [d.av,.pv none (.int .i64 id)] hp=some (.ret (match whR d.procs id with|some x=>.tuple [.pv none (.int .i64 x.1),.pv none (.int .i64 x.2),.pv none (.bool true)]|none=>.tuple [.pv none (.int .i64 0),.pv none (.int .i64 0),.pv none (.bool false)]),hp):=by
 refine zaj rfl rfl rfl (zaa [(some 2,d.pv),(none,.int .i64 id)]) rfl ?_
 simp -dsimp -implicitDefEqProofs only[go_sem,seval,↓reduceIte,Dbs.av,zaH,Prc.pvs_len,List.append_assoc,zae,zac,zaf,zad,Nat.add_assoc,List.length_append]
 refine zcj (α:=Unit) d.procs.length (fun i _=>∀(j:Nat) (q:Prc),j<i->d.procs[j]? =some q->idS q.cls id=none) (fun i _=>⟨[(3,.ptr 1 0),(11,.pv none (.sl (some 4) (Prc.pvs d.procs))),(12,.pv none (.int .i64 d.procs.length)),(13,.pv none (.int .i64 i))],[.box (some 2) (.pv (some 2) d.pv),.box none (.pv none (.int .i64 id))]⟩) () ⟨fun j u h=>by omega,rfl⟩ ?_ ?_
 ·rintro i - h hinv
  have hc:(i:Int)<(d.procs.length:Int):=by omega
  have w1:IntKind.i64.wrap ((i:Int)+1)=((i+1:Nat):Int):=by rw[zaF (by omega) (by omega)];omega
  obtain⟨p,hpp⟩:∃p,d.procs[i]? =some p:=⟨_,List.getElem?_eq_getElem h⟩
  have hpl:=zcJ (List.mem_of_getElem? hpp)
  have hix:∀(x0:AObj) (X:Heap),S 64 [.pv none (.sl (some 9) (Sto.pvs p.cls)),.func (.func 65) [] [.ptr 1 0]] (x0::.box none (.pv none (.int .i64 id))::X)=some (.ret (.pv none (.int .i64 (idI (idS p.cls id)))),x0::.box none (.pv none (.int .i64 id))::X):=fun x0 X=>zrx p.cls id (by omega) _ 1 rfl
  cases hk:idS p.cls id with
  |some k=>
   rw[hk] at hix
   have hk0:(0:Int)<=idI (some k):=by show(0:Int)<=(k:Int);omega
   rw[zl3 hpp hk hinv]
   simp -dsimp -implicitDefEqProofs only[go_sem,seval,↓reduceIte,hc,w1,zai (Prc.pvs_get hpp),zei,hix,hk0,zab (Nat.zero_le _),List.append_assoc,zae,zac,zaf,zad,Nat.add_assoc,List.length_append]
   rfl
  |none=>
   rw[hk] at hix
   have hk0:¬(0:Int)<=idI none:=by decide
   simp -dsimp -implicitDefEqProofs only[go_sem,seval,↓reduceIte,hc,w1,zai (Prc.pvs_get hpp),zei,hix,hk0,zab (Nat.zero_le _),List.append_assoc,zae,zac,zaf,zad,Nat.add_assoc,List.length_append]
   refine⟨(),fun j q hj hq=> ?_,rfl⟩
   rcases Nat.lt_or_ge j i with k|k
   ·exact hinv j q k hq
   ·have:j=i:=by omega
    subst this
    rw[hpp] at hq
    cases hq
    exact hk
 ·rintro - hinv
  have hc:¬(d.procs.length:Int)<(d.procs.length:Int):=by omega
  rw[zij fun j u hj=>hinv j u (List.getElem?_eq_some_iff.1 hj).1 hj]
  simp -dsimp -implicitDefEqProofs only[go_sem,seval,↓reduceIte,hc,List.append_assoc,zae,zac,zaf,zad,Nat.add_assoc,List.length_append]
  done
theorem zsQ{l:List Sto}{id:Int}{k:Nat}(h:idS l id=some k):∃s,l[k]? =some s/\s.id=id:=by
 unfold idS at h
 rw[List.findIdx?_eq_some_iff_getElem] at h
 obtain⟨hk,h1,_⟩:=h
 exact⟨l[k],List.getElem?_eq_getElem hk,of_decide_eq_true h1⟩
theorem zk9{id:Int}:∀{l:List Prc} {i k:Nat},whR l id=some (i,k)->∃p s,l[i]? =some p/\p.cls[k]? =some s/\s.id=id
 |[],i,k,h=>by cases h
 |x::r,i,k,h=>by
  rw[whR] at h
  split at h
  ·rename_i k' hk
   cases h
   obtain⟨s,h1,h2⟩:=zsQ hk
   exact⟨x,s,rfl,h1,h2⟩
  ·split at h
   ·rename_i y hy
    cases h
    obtain⟨p,s,h1,h2,h3⟩:=zk9 (i:=y.1) (k:=y.2) hy
    exact⟨p,s,by simpa using h1,h2,h3⟩
   ·cases h
def nilD:Dbs:=⟨1,[]⟩
theorem ztu(hp:Heap):S 21 [] hp=some (.ret nilD.av,hp):=by
 refine zaj (ps:=[]) rfl rfl rfl rfl rfl ?_
 have hbu:zaJ [(none,.pv none (.int .i64 0)),(none,.nilv (some 4))] [0] [.pv none (.int .i64 1)]=some (.agg [(none,.pv none (.int .i64 1)),(none,.nilv (some 4))]):=rfl
 have hnil:∀H:Heap,zal [(none,.nilv (some 4))] H=([(none,.nilv (some 4))],H):=fun _=>rfl
 simp -dsimp -implicitDefEqProofs only[go_sem,seval,↓reduceIte,hbu,hnil,zab (Nat.zero_le _),List.append_assoc,zae,zac,zaf,zad,Nat.add_assoc,List.length_append]
 exact⟨_,rfl⟩
def zPA:AV:=.agg [(none,.pv none (.str [])),(none,.pv none (.int .i64 0)),(none,.pv none (.bool false)),(none,.tsl (some 9) [])]
def elsA(l:List Prc)(b i:Nat):List AV:=l.mapIdx fun j p=>if j<i then pA p (b+6*j) else zPA
theorem zbm(l:List Prc)(b i:Nat):(elsA l b i).length=l.length:=by simp[elsA]
theorem zpF(l:List Prc)(b:Nat):elsA l b 0=List.replicate l.length zPA:=by
 refine List.ext_getElem? fun j=> ?_
 simp[elsA,List.getElem?_mapIdx,List.getElem?_replicate]
 by_cases h:j<l.length
 ·simp[h]
 ·simp[h]
theorem zlX{l:List Prc}{b i:Nat}{p:Prc}(h:l[i]? =some p):(elsA l b i).set i (pA p (b+6*i))=elsA l b (i+1):=by
 refine List.ext_getElem? fun j=> ?_
 have hi:=(List.getElem?_eq_some_iff.1 h).1
 rw[List.getElem?_set]
 by_cases hj:i=j
 ·subst hj
  have he:l[i]=p:=(List.getElem?_eq_some_iff.1 h).2
  simp[elsA,List.getElem?_mapIdx,h,hi,he]
 ·simp only[if_neg hj]
  simp only[elsA,List.getElem?_mapIdx]
  cases l[j]? with
  |none=>rfl
  |some x=>
   have e:(j<i)=(j<i+1):=propext ⟨fun _=>by omega,fun _=>by omega⟩
   simp[e]
def cE(p:Prc)(b:Nat):Heap:=[.box (some 4) (.pv (some 4) p.pv),.arr (some 9) [] false,.box (some 4) (pA p b),.box (some 4) (pA p b),.arr (some 9) [] false,.arr (some 9) (Sto.pvs p.cls) false]
def cEs:List Prc->Nat->Heap
 |[],_=>[]
 |p::r,b=>cE p b++cEs r (b+6)
theorem zpG:∀(l:List Prc) (b:Nat),(cEs l b).length=6*l.length
 |[],_=>rfl
 |p::r,b=>by rw[cEs,List.length_append,zpG r,List.length_cons];show 6+_=_;omega
theorem zlY:∀(l:List Prc) (p:Prc) (b:Nat),cEs (l++[p]) b=cEs l b++cE p (b+6*l.length)
 |[],p,b=>by simp[cEs]
 |x::r,p,b=>by
  rw[List.cons_append,cEs,zlY r p (b+6),cEs,List.append_assoc,List.length_cons]
  congr 2
  congr 1
  omega
theorem zjP{n b:Nat}{fr:Fr}{hp:Heap}{k:Nat}{o:AObj}(hk:b<=k)(hn:k<n)(ho:hp[k]? =some o)(hr:o.refs.all (fun q=>decide (q<n))=false):collect n b fr hp=hp:=by
 unfold collect
 rw[if_neg]
 intro h
 rw[Bool.and_eq_true] at h
 have h2:=List.all_eq_true.1 h.2 o (by
  refine List.mem_iff_getElem?.2 ⟨k - b,?_⟩
  rw[List.getElem?_drop,List.getElem?_take,if_pos (by omega),show b+(k - b)=k by omega]
  exact ho)
 rw[hr] at h2
 cases h2
def dA(d:Dbs)(q:Nat):AV:=.agg [(none,.pv none (.int .i64 d.next)),(none,.slv (some 4) q d.procs.length 0 d.procs.length)]
theorem zk7{Γ:Oracle}{b:Nat}{vs:List AV}{hp:Heap}{K:AV->Heap->Prop}{Kp:PV->Heap->Prop}(sh:Sh)(z:AV):opK (aOp Γ b (.mkslicev sh z) vs hp) K Kp=zbP (zb5 sh z hp vs) K:=by
 show opK (match zb5 sh z hp vs with|some (v,hp')=>some (OpRes.val v hp')|none=>none) K Kp=_
 cases zb5 sh z hp vs with
 |none=>rfl
 |some r=>cases r;rfl
theorem zgt(d:Dbs)(hl:d.procs.length<1000000)(hcl:∀p∈d.procs,p.cls.length<1000000/\okCl p)(hp:Heap):S 33 [d.av] hp=some (.ret (dA d (hp.length+2)),hp++([.box (some 2) (dA d (hp.length+2)),.box (some 2) (dA d (hp.length+2)),.arv (some 4) (elsA d.procs (hp.length+8) d.procs.length)]++cEs d.procs (hp.length+8))):=by
 refine zbO rfl rfl rfl rfl ?_
 have hpl:=Prc.pvs_len d.procs
 have hlim:d.procs.length<=lim:=by unfold lim;omega
 have hnil:∀H:Heap,zal [(none,.nilv (some 4))] H=([(none,.nilv (some 4))],H):=fun _=>rfl
 have hmk:∀H:Heap,zb5 (some 4) zPA H [.pv none (.int .i64 d.procs.length),.pv none (.int .i64 d.procs.length)]=some (.slv (some 4) H.length d.procs.length 0 d.procs.length,H++[.arv (some 4) (List.replicate d.procs.length zPA)]):=fun H=>by
  simp[zb5,hlim,zcT]
 simp only[zPA] at hmk
 simp -dsimp -implicitDefEqProofs only[go_sem,seval,↓reduceIte,Dbs.av,zaH,hpl,hnil,hmk,zk7,zab (Nat.le_add_right _ _),List.append_assoc,zae,zac,zaf,zad,Nat.add_assoc,List.length_append]
 obtain⟨x1,hx1⟩:∃x1:AObj,x1=.box (some 2) (.agg [(none,.pv none (.int .i64 0)),(none,.nilv (some 4))]):=⟨_,rfl⟩
 rw[<-hx1]
 obtain⟨b0,hb0⟩:∃b0,b0=hp.length+8:=⟨_,rfl⟩
 rw[<-hb0]
 obtain⟨PP,hPP⟩:∃PP:Nat->Heap->Heap,PP=fun j e=>hp++([.box (some 2) (.pv (some 2) d.pv),x1,.arv (some 4) (elsA d.procs b0 j)]++e):=⟨_,rfl⟩
 have hPa:∀j e X,PP j e++X=PP j (e++X):=fun j e X=>by rw[hPP];simp
 have hPl:∀j e,(PP j e).length=hp.length+3+e.length:=fun j e=>by rw[hPP];simp;omega
 have hP2:∀j e,(PP j e)[hp.length+2]? =some (.arv (some 4) (elsA d.procs b0 j)):=fun j e=>by rw[hPP];exact getN rfl 2
 refine zcj (α:=Unit) d.procs.length (fun _ _=>True) (fun i _=>⟨[(1,.ptr hp.length 0),(2,.ptr (hp.length+1) 0),(3,.slv (some 4) (hp.length+2) d.procs.length 0 d.procs.length),(11,.pv none (.sl (some 4) (Prc.pvs d.procs))),(12,.pv none (.int .i64 d.procs.length)),(13,.pv none (.int .i64 i))],PP i (cEs (d.procs.take i) b0)⟩) () ⟨trivial,by rw[hPP];simp only[zpF];rfl⟩ ?_ ?_
 ·rintro i - h -
  have hcc:(i:Int)<(d.procs.length:Int):=by omega
  have w1:IntKind.i64.wrap ((i:Int)+1)=((i+1:Nat):Int):=by rw[zaF (by omega) (by omega)];omega
  obtain⟨p,hpp⟩:∃p,d.procs[i]? =some p:=⟨_,List.getElem?_eq_getElem h⟩
  obtain⟨c1,c2⟩:=hcl p (List.mem_of_getElem? hpp)
  obtain⟨e,he⟩:∃e,e=cEs (d.procs.take i) b0:=⟨_,rfl⟩
  have hel:e.length=6*i:=by rw[he,zpG,List.length_take];omega
  obtain⟨n,hn⟩:∃n,n=hp.length+3+6*i:=⟨_,rfl⟩
  have hpn:∀j,(PP j e).length=n:=fun j=>by rw[hPl,hel,hn]
  have hbn:hp.length<=n:=by omega
  have hpr:S 39 [.pv (some 4) p.pv] (PP i e++[.box (some 4) (.pv (some 4) p.pv),.arr (some 9) [] false])=some (.ret (pA p (n+5)),PP i e++[.box (some 4) (.pv (some 4) p.pv),.arr (some 9) [] false,.box (some 4) (pA p (n+5)),.box (some 4) (pA p (n+5)),.arr (some 9) [] false,.arr (some 9) (Sto.pvs p.cls) false]):=by
   have h3:=zfC p c1 c2 (PP i e++[.box (some 4) (.pv (some 4) p.pv),.arr (some 9) [] false])
   rw[List.length_append,hpn,List.append_assoc] at h3
   exact h3
  have hia:zaR (some 4) [.slv (some 4) (hp.length+2) d.procs.length 0 d.procs.length,.pv none (.int .i64 i)]=some (.epv (some 4) (hp.length+2) d.procs.length i 0):=by
   simp[zaR,aindex,h]
  have hst:∀X,zar (some 4) hp.length (PP i e++X) [.epv (some 4) (hp.length+2) d.procs.length i 0,pA p (n+5)]=some (.undef,PP (i+1) e++X):=fun X=>by
   have hq:n+5=b0+6*i:=by omega
   have hs:=zlX (b:=b0) hpp
   have hg:(PP i e++X)[hp.length+2]? =some (.arv (some 4) (elsA d.procs b0 i)):=by rw[hPa];exact hP2 _ _
   have hset:(PP i e++X).set (hp.length+2) (.arv (some 4) (elsA d.procs b0 (i+1)))=PP (i+1) e++X:=by
    rw[hPa,hPa,hPP]
    exact setN rfl 2 _
   have hlt:i<(elsA d.procs b0 i).length:=by rw[zbm];exact h
   obtain⟨old,ho⟩:∃old,(elsA d.procs b0 i)[i]? =some old:=⟨_,List.getElem?_eq_getElem hlt⟩
   have hpln:(pA p (b0+6*i)).plain=true:=rfl
   have hsh:(pA p (b0+6*i)).shp=some 4:=rfl
   rw[hq]
   simp[zar,astore,hg,zbm,ho,hpln,hsh,hs,hset]
  rw[<-he]
  simp -dsimp -implicitDefEqProofs only[go_sem,seval,↓reduceIte,hcc,w1,zai (Prc.pvs_get hpp),hpr,hia,hst,zab (Nat.le_trans hbn (Nat.le_add_right _ _)),List.append_assoc,zae,zac,zaf,zad,Nat.add_assoc,List.length_append,hpn,getN (hpn _),zeI (hpn _),setN (hpn _),zeJ (hpn _)]
  refine⟨(),?_⟩
  have hgi:(elsA d.procs b0 (i+1))[i]? =some (pA p (b0+6*i)):=by
   rw[<-zlX hpp]
   simp[zbm,h]
  have hrf:(AObj.arv (some 4) (elsA d.procs b0 (i+1))).refs.all (fun q=>decide (q<hp.length+3))=false:=by
   rw[List.all_eq_false]
   refine⟨b0+6*i,(zaP _ _).2 ⟨_,List.mem_of_getElem? hgi,by simp[pA,AV.refsIn,AV.refsIn.go]⟩,by simp;omega⟩
  rw[zjP (k:=hp.length+2) (by omega) (by omega) (by rw[hPa];exact hP2 _ _) hrf]
  have htk:d.procs.take (i+1)=d.procs.take i++[p]:=by rw[List.take_add_one,hpp];rfl
  have hli:(d.procs.take i).length=i:=by rw[List.length_take];omega
  rw[hPa,htk,zlY,hli,<-he]
  have hq:n+5=b0+6*i:=by omega
  rw[hq]
  rfl
 ·rintro - -
  have hcc:¬(d.procs.length:Int)<(d.procs.length:Int):=by omega
  have hup:∀(q:Nat),AV.upd deep (.pv (some 2) d.pv) 1 none (.slv (some 4) q d.procs.length 0 d.procs.length)=some (dA d q):=fun q=>rfl
  have hs1:∀(x1 x2:AObj) (X:Heap),zar none hp.length (hp++.box (some 2) (.pv (some 2) d.pv)::x1::x2::X) [.ptr hp.length 1,.slv (some 4) (hp.length+2) d.procs.length 0 d.procs.length]=some (.undef,hp++.box (some 2) (dA d (hp.length+2))::x1::x2::X):=fun x1 x2 X=>by
   simp[zar,astore,zeI rfl,zeJ rfl,AV.plain,AV.shp,AV.own,hup]
  have hs2:∀(x0 x2:AObj) (v:AV) (X:Heap),zar (some 2) hp.length (hp++x0::.box (some 2) v::x2::X) [.ptr (hp.length+1) 0,dA d (hp.length+2)]=some (.undef,hp++x0::.box (some 2) (dA d (hp.length+2))::x2::X):=fun x0 x2 v X=>by
   simp[zar,astore,getN rfl,setN rfl,dA,AV.plain,AV.shp,AV.own,zal,zbh,total,Sh.size]
  rw[List.take_length,hPP,hx1]
  simp -dsimp -implicitDefEqProofs only[go_sem,seval,↓reduceIte,hcc,hs1,hs2,List.append_assoc,zae,zac,zaf,zad,Nat.add_assoc,List.length_append]
  rw[if_neg (by simp[dA,AV.refsIn,AV.refsIn.go])]
def Fz(H H':Heap):Prop:=∀k:Nat,(∀(s:Sh) (es:List PV) (z:Bool),H[k]? =some (AObj.arr s es z)->∃z':Bool,H'[k]? =some (AObj.arr s es z'))/\(∀(s:Sh) (es:List AV),H[k]? =some (AObj.arv s es)->H'[k]? =some (AObj.arv s es))
theorem Fz.refl(H:Heap):Fz H H:=fun _=>⟨fun _ _ z h=>⟨z,h⟩,fun _ _ h=>h⟩
theorem Fz.trans{A B C:Heap}(h1:Fz A B)(h2:Fz B C):Fz A C:=fun k=>⟨fun s es z h=>by
  obtain⟨z',h'⟩:=(h1 k).1 s es z h
  exact(h2 k).1 s es z' h',fun s es h=>(h2 k).2 s es ((h1 k).2 s es h)⟩
theorem Fz.set{H:Heap}{q:Nat}{s:Sh}{es:List PV}{z:Bool}(h:H[q]? =some (.arr s es z)):Fz H (H.set q (.arr s es true)):=fun k=>by
 by_cases hk:q=k
 ·subst hk
  have hlt:=zdF h
  refine⟨fun s' es' z' h'=> ?_,fun s' es' h'=> ?_⟩
  ·rw[h] at h'
   cases h'
   exact⟨true,by simp[hlt]⟩
  ·rw[h] at h'
   cases h'
 ·rw[List.getElem?_set_ne hk]
  exact⟨fun _ _ z h=>⟨z,h⟩,fun _ _ h=>h⟩
def SvP(sv:AV)(l:List Sto)(H:Heap):Prop:=sv=.tsl (some 9) (Sto.pvs l)\/∃(q ver:Nat) (es:List PV) (z:Bool),sv=.sl (some 9) q ver 0 l.length/\H[q]? =some (.arr (some 9) es z)/\es.length=ver/\l.length<=ver/\es.take l.length=Sto.pvs l
def pAg(p:Prc)(sv:AV):AV:=.agg [(none,.pv none (.str p.name)),(none,.pv none (.int .i64 p.ar)),(none,.pv none (.bool p.dyn)),(none,sv)]
def ElP(p:Prc)(v:AV)(H:Heap):Prop:=v=p.av\/∃sv,v=pAg p sv/\SvP sv p.cls H
theorem SvP.fz{sv:AV}{l:List Sto}{H H':Heap}(h:SvP sv l H)(f:Fz H H'):SvP sv l H':=by
 rcases h with h|⟨q,ver,es,z,h1,h2,h3⟩
 ·exact .inl h
 ·obtain⟨z',h'⟩:=(f q).1 _ _ _ h2
  exact .inr ⟨q,ver,es,z',h1,h',h3⟩
theorem ElP.fz{p:Prc}{v:AV}{H H':Heap}(h:ElP p v H)(f:Fz H H'):ElP p v H':=by
 rcases h with h|⟨sv,h1,h2⟩
 ·exact .inl h
 ·exact .inr ⟨sv,h1,h2.fz f⟩
theorem SvP.frz{sv:AV}{l:List Sto}{H:Heap}(h:SvP sv l H)(n:Nat):∃H',AV.freeze0 (n+1) sv H=some (.sl (some 9) (Sto.pvs l),H')/\Fz H H':=by
 rcases h with rfl|⟨q,ver,es,z,rfl,h2,h3,h4,h5⟩
 ·exact⟨H,rfl,Fz.refl H⟩
 ·refine⟨H.set q (.arr (some 9) es true),?_,Fz.set h2⟩
  simp only[AV.freeze0,h2]
  by_cases he:l.length=es.length
  ·rw[if_pos ⟨h3.symm,trivial,he⟩]
   rw[<-h5,List.take_of_length_le (by omega)]
  ·rw[if_neg (fun hh=>he hh.2.2),if_pos ⟨h3.symm,by omega⟩,List.drop_zero,h5]
theorem ElP.frz{p:Prc}{v:AV}{H:Heap}(h:ElP p v H):∃H',AV.freeze0 6 v H=some (p.pv,H')/\Fz H H':=by
 rcases h with rfl|⟨sv,rfl,h2⟩
 ·exact⟨H,rfl,Fz.refl H⟩
 ·obtain⟨H',h3,h4⟩:=h2.frz 4
  refine⟨H',?_,h4⟩
  have e:∀n l hp,AV.freeze0 (n+1) (.agg l) hp=match AV.freeze0.go n l hp with|some (ps,hp')=>some (.agg ps,hp')|none=>none:=fun _ _ _=>rfl
  have e0:∀(x:PV) (s:Sh) (X:Heap),AV.freeze0 5 (.pv s x) X=some (x,X):=fun _ _ _=>rfl
  show AV.freeze0 (5+1) (.agg _) H=_
  simp only[e,AV.freeze0.go,e0,h3]
  rfl
theorem zrY:∀(ps:List Prc) (els:List AV) (H:Heap),els.length=ps.length->(∀(j:Nat) (p:Prc) (v:AV),ps[j]? =some p->els[j]? =some v->ElP p v H)->∃H',AV.freeze0.go 6 (els.map fun e=>(some 4,e)) H=some (ps.map (fun p=>(some 4,p.pv)),H')/\Fz H H'
 |[],[],H,_,_=>⟨H,rfl,Fz.refl H⟩
 |[],_::_,_,h,_=>by simp at h
 |_::_,[],_,h,_=>by simp at h
 |p::r,v::w,H,hl,he=>by
  obtain⟨H1,h1,f1⟩:=(he 0 p v rfl rfl).frz
  obtain⟨H2,h2,f2⟩:=zrY r w H1 (by simpa using hl) fun j p' v' hp hv=>(he (j+1) p' v' (by simpa using hp) (by simpa using hv)).fz f1
  refine⟨H2,?_,f1.trans f2⟩
  simp only[List.map_cons,AV.freeze0.go,h1,h2]
def DbA(d:Dbs)(v:AV)(H:Heap):Prop:=∃(q ver:Nat) (els:List AV) (ps:List Prc),v=.agg [(none,.pv none (.int .i64 d.next)),(none,.slv (some 4) q ver 0 d.procs.length)]/\H[q]? =some (.arv (some 4) els)/\els.length=ver/\d.procs.length<=ver/\ps.length=ver/\ps.take d.procs.length=d.procs/\∀(j:Nat) (p:Prc) (v:AV),ps[j]? =some p->els[j]? =some v->ElP p v H
theorem DbA.frz{d:Dbs}{v:AV}{H:Heap}(h:DbA d v H):∃H',AV.freeze deep v H=some (d.pv,H'):=by
 obtain⟨q,ver,els,ps,rfl,h1,h2,h3,h4,h5,h6⟩:=h
 obtain⟨H1,g1,g2⟩:=zrY ps els H (by omega) h6
 have h1':=(g2 q).2 _ _ h1
 refine⟨H1.set q (.arr (some 4) (Prc.pvs ps) true),?_⟩
 have e:∀n l hp,AV.freeze (n+1) (.agg l) hp=match AV.freeze.go n l hp with|some (ps,hp')=>some (.agg ps,hp')|none=>none:=fun _ _ _=>rfl
 have e0:∀(x:PV) (s:Sh) (X:Heap),AV.freeze 7 (.pv s x) X=some (x,X):=fun _ _ _=>rfl
 have em:(ps.map (fun p=>((some 4:Sh),p.pv))).map (·.2)=Prc.pvs ps:=by simp[Prc.pvs]
 have et:(Prc.pvs ps).take d.procs.length=Prc.pvs d.procs:=by
  rw[Prc.pvs,<-List.map_take,h5]
  rfl
 have hlen:els.length=els.length:=rfl
 have hfs:AV.freeze 7 (.slv (some 4) q ver 0 d.procs.length) H=some (.sl (some 4) (Prc.pvs d.procs),H1.set q (.arr (some 4) (Prc.pvs ps) true)):=by
  show AV.freeze (6+1) _ H=_
  simp only[AV.freeze,h1,g1,h1',em,List.drop_zero,et]
  rw[if_pos ⟨h2.symm,by omega⟩]
  simp
 show AV.freeze (7+1) (.agg _) H=_
 simp only[e,AV.freeze.go,e0,hfs]
 rfl
theorem zfh:∀(l:List Prc) (b j:Nat) (p:Prc),l[j]? =some p->(cEs l b)[6*j+5]? =some (.arr (some 9) (Sto.pvs p.cls) false)
 |[],_,_,_,h=>by simp at h
 |x::r,b,0,p,h=>by
  simp at h
  subst h
  rfl
 |x::r,b,j+1,p,h=>by
  have ih:=zfh r (b+6) j p (by simpa using h)
  rw[cEs,List.getElem?_append_right (by show 6<=_;omega)]
  show(cEs r (b+6))[6*(j+1)+5 - 6]? =_
  rw[show 6*(j+1)+5 - 6=6*j+5 by omega]
  exact ih
theorem zdZ{l:List Prc}{b j:Nat}{p:Prc}(h:l[j]? =some p):(elsA l b l.length)[j]? =some (pA p (b+6*j)):=by
 have hj:=(List.getElem?_eq_some_iff.1 h).1
 have he:l[j]=p:=(List.getElem?_eq_some_iff.1 h).2
 simp[elsA,List.getElem?_mapIdx,hj,he]
def zDb:Dbs:=⟨0,[]⟩
theorem zry{ps:List Prc}{k:Prc}(h:fnD ps k=true):∃p,ps[lbD ps k]? =some p:=by
 cases e:ps[lbD ps k]? with
 |some p=>exact⟨p,rfl⟩
 |none=>simp[fnD,e] at h
theorem zl7(d:Dbs)(hb:BndD d)(id:Int)(h:okD d=false\/whR d.procs id=none)(hp:Heap):S 12 [d.av,.pv none (.int .i64 id)] hp=some (.ret (.tuple [zDb.av,.pv none (.bool false)]),hp):=by
 refine zaj rfl rfl rfl (zaa [(some 2,d.pv),(none,.int .i64 id)]) rfl ?_
 have h1:=fun hp=>zby d hb.1 hb.2.1 hb.2.2 hp
 have hz0:zaJ [(none,.pv none (.int .i64 0)),(none,.nilv (some 4))] [] []=some (.agg [(none,.pv none (.int .i64 0)),(none,.nilv (some 4))]):=rfl
 have hnil:∀H:Heap,zal [(none,.nilv (some 4))] H=([(none,.nilv (some 4))],H):=fun _=>rfl
 simp only[Dbs.av] at h1
 cases hv:okD d with
 |false=>
  rw[hv] at h1
  simp -dsimp -implicitDefEqProofs only[go_sem,seval,↓reduceIte,Dbs.av,h1,hz0,hnil,zab (Nat.zero_le _),List.append_assoc,zae,zac,zaf,zad,Nat.add_assoc,List.length_append]
  exact⟨_,rfl⟩
 |true=>
  have hf:whR d.procs id=none:=by
   rcases h with h|h
   ·rw[hv] at h;cases h
   ·exact h
  have hl5:d.procs.length<=500/\totD d.procs<=500:=by
   simp only[okD,Bool.and_eq_true,decide_eq_true_eq] at hv
   exact⟨hv.2.2.1,hv.2.2.2.1⟩
  have h3:=fun hp=>zl4 d id (by omega) (by omega) hp
  simp only[Dbs.av] at h3
  rw[hv] at h1
  rw[hf] at h3
  simp -dsimp -implicitDefEqProofs only[go_sem,seval,↓reduceIte,Dbs.av,h1,h3,hz0,hnil,zab (Nat.zero_le _),List.append_assoc,zae,zac,zaf,zad,Nat.add_assoc,List.length_append]
  exact⟨_,rfl⟩
theorem zr2(d:Dbs)(hb:BndD d)(c:Cz)(z1:c.head.size<100000000)(z2:c.body.size<100000000)(fr dy:Bool)(h:okD d=false\/okC c=false)(hp:Heap):S 11 [d.av,c.av,.pv none (.bool fr),.pv none (.bool dy)] hp=some (.ret (.tuple [zDb.av,.pv none (.int .i64 1)]),hp):=by
 refine zaj rfl rfl rfl (zaa [(some 2,d.pv),(some 8,c.pv),(none,.bool fr),(none,.bool dy)]) rfl ?_
 have h1:=fun hp=>zby d hb.1 hb.2.1 hb.2.2 hp
 have h2:=fun hp=>zb9 c z1 z2 hp
 have hz0:zaJ [(none,.pv none (.int .i64 0)),(none,.nilv (some 4))] [] []=some (.agg [(none,.pv none (.int .i64 0)),(none,.nilv (some 4))]):=rfl
 have hnil:∀H:Heap,zal [(none,.nilv (some 4))] H=([(none,.nilv (some 4))],H):=fun _=>rfl
 simp only[Dbs.av] at h1
 simp only[Cz.av] at h2
 cases hv:okD d with
 |false=>
  rw[hv] at h1
  simp -dsimp -implicitDefEqProofs only[go_sem,seval,↓reduceIte,Dbs.av,Cz.av,h1,hz0,hnil,zab (Nat.zero_le _),List.append_assoc,zae,zac,zaf,zad,Nat.add_assoc,List.length_append]
  exact⟨_,rfl⟩
 |true=>
  have hn:okC c=false:=by
   rcases h with h|h
   ·rw[hv] at h;cases h
   ·exact h
  rw[hv] at h1
  rw[hn] at h2
  simp -dsimp -implicitDefEqProofs only[go_sem,seval,↓reduceIte,Dbs.av,Cz.av,h1,h2,hz0,hnil,zab (Nat.zero_le _),List.append_assoc,zae,zac,zaf,zad,Nat.add_assoc,List.length_append]
  exact⟨_,rfl⟩
set_option maxRecDepth 20000 in
theorem zp7(d:Dbs)(hb:BndD d)(c:Cz)(z1:c.head.size<100000000)(z2:c.body.size<100000000)(fr dy:Bool)(hv:okD d=true)(hn:okC c=true)(h:totD d.procs=500)(hp:Heap):S 11 [d.av,c.av,.pv none (.bool fr),.pv none (.bool dy)] hp=some (.ret (.tuple [zDb.av,.pv none (.int .i64 13)]),hp):=by
 refine zaj rfl rfl rfl (zaa [(some 2,d.pv),(some 8,c.pv),(none,.bool fr),(none,.bool dy)]) rfl ?_
 have h1:=fun hp=>zby d hb.1 hb.2.1 hb.2.2 hp
 have h2:=fun hp=>zb9 c z1 z2 hp
 have h3:∀(s:List UInt8) (a:Int) hp,S 31 [d.av,.pv none (.str s),.pv none (.int .i64 a)] hp=some (.ret (.tuple [.pv none (.int .i64 (lbD d.procs (keyP s a):Int)),.pv none (.bool (fnD d.procs (keyP s a)))]),hp):=fun s a hp=>zd0 d s a hb.1 (zfj hv) hp
 have hl5:d.procs.length<=500/\totD d.procs<=500:=by
  simp only[okD,Bool.and_eq_true,decide_eq_true_eq] at hv
  exact⟨hv.2.2.1,hv.2.2.2.1⟩
 have h4:=fun hp=>zdk d (by omega) (by omega) hp
 have hz0:zaJ [(none,.pv none (.int .i64 0)),(none,.nilv (some 4))] [] []=some (.agg [(none,.pv none (.int .i64 0)),(none,.nilv (some 4))]):=rfl
 have hnil:∀H:Heap,zal [(none,.nilv (some 4))] H=([(none,.nilv (some 4))],H):=fun _=>rfl
 simp only[Dbs.av] at h1 h3 h4
 simp only[Cz.av] at h2
 rw[hv] at h1
 rw[hn] at h2
 rw[h] at h4
 obtain⟨⟨hk,hi,hna,has⟩,bd⟩:=c
 have hpn:PV.part deep (Cz.pv ⟨⟨hk,hi,hna,has⟩,bd⟩) 2 none=some (.str hna):=rfl
 have hpa:PV.part deep (Cz.pv ⟨⟨hk,hi,hna,has⟩,bd⟩) 3 none=some (.sl (some 4) (Tm.pvs has)):=rfl
 simp -dsimp -implicitDefEqProofs only[hpn,hpa,Tm.pvs_len,g11,c11r0,c11r1,c11r2,c11k3,c11r4,c11r5,c11r6,c11k7,c11r8,c11r9,c11r10,c11k11,c11r12,c11r13,c11r14,c11r15,c11k16,c11r17,c11r18,c11r19,c11,go_sem,seval,↓reduceIte,Dbs.av,Cz.av,h1,h2,h3,h4,hz0,hnil,zab (Nat.zero_le _),List.append_assoc,zae,zac,zaf,zad,Nat.add_assoc,List.length_append]
 exact⟨_,rfl⟩
set_option maxRecDepth 20000 in
theorem zsJ(H:Heap)(q:Nat)(es:List PV)(k n:Nat)(hk:k<n)(he:es.length=n)(hn:n<=500)(hg:H[q]? =some (.arr (some 9) es false)):S 38 [.sl (some 9) q n 0 n,.pv none (.int .i64 (k:Int)),.pv none (.int .i64 ((k:Int)+1))] H=some (.ret (.sl (some 9) q n 0 (n - 1)),H.set q (.arr (some 9) (es.take k++(es.drop (k+1)++[zS])) false)):=by
 refine zbO rfl rfl rfl rfl ?_
 have hq:=zdF hg
 have h0:((k:Int)=(k:Int)+1)=False:=by simp;omega
 have hL:∀m:Nat,sLen [.sl (some 9) q n 0 m]=some (.pv none (.int .i64 (m:Int))):=fun m=>rfl
 have h3:zcp (some 9) true [.sl (some 9) q n 0 n,.pv none (.int .i64 (k:Int)),.pv none (.int .i64 ((k:Int)+1)),.pv none (.int .i64 (n:Int))]=some .undef:=by
  simp only[zcp]
  rw[if_pos (by omega)]
 have s1:zb3 (some 9) false true [.sl (some 9) q n 0 n,.pv none (.int .i64 (k:Int))]=some (.sl (some 9) q n 0 k):=by
  simp[zb3,aslice];omega
 have s2:zb3 (some 9) true false [.sl (some 9) q n 0 n,.pv none (.int .i64 ((k:Int)+1))]=some (.sl (some 9) q n (k+1) (n - (k+1))):=by
  simp[zb3,aslice];omega
 have s3:zb3 (some 9) true true [.sl (some 9) q n 0 (n - 1),.pv none (.int .i64 ((n - 1:Nat):Int)),.pv none (.int .i64 (n:Int))]=some (.sl (some 9) q n (n - 1) 1):=by
  simp[zb3,aslice];omega
 have hset:∀o:AObj,(H++[AObj.arr (some 9) [] false]).set q o=H.set q o++[.arr (some 9) [] false]:=fun o=>List.set_append_left _ _ hq
 have hg0:(H++[AObj.arr (some 9) [] false])[q]? =some (.arr (some 9) es false):=by rw[List.getElem?_append_left hq,hg]
 have hel:elems (H++[.arr (some 9) [] false]) (.sl (some 9) q n (k+1) (n - (k+1)))=some (some 9,es.drop (k+1)):=by
  simp[elems,hg0,he]
  refine⟨by omega,List.take_of_length_le (by simp[he])⟩
 have hap:zbe (some 9) (H++[.arr (some 9) [] false]) [.sl (some 9) q n 0 k,.sl (some 9) q n (k+1) (n - (k+1))]=some (.sl (some 9) q n 0 (n - 1),H.set q (.arr (some 9) (es.take k++(es.drop (k+1)++es.drop (n - 1))) false)++[.arr (some 9) [] false]):=by
  have e1:k+(n - (k+1))=n - 1:=by omega
  have e2:n - 1<=n:=by omega
  have e3:n - 1<=lim:=by simp[lim];omega
  have e4:k≠n:=by omega
  simp[zbe,aappend,hel,hg0,he,e1,e2,e3,e4,hset]
 have hcl:zfm (some 9) zS (H.set q (.arr (some 9) (es.take k++(es.drop (k+1)++es.drop (n - 1))) false)++[.arr (some 9) [] false]) [.sl (some 9) q n (n - 1) 1]=some (.undef,H.set q (.arr (some 9) (es.take k++(es.drop (k+1)++[zS])) false)++[.arr (some 9) [] false]):=by
  have hg1:(H.set q (.arr (some 9) (es.take k++(es.drop (k+1)++es.drop (n - 1))) false)++[AObj.arr (some 9) [] false])[q]? =some (.arr (some 9) (es.take k++(es.drop (k+1)++es.drop (n - 1))) false):=by
   rw[List.getElem?_append_left (by simpa using hq)]
   simp[hq]
  have l1:(es.take k++es.drop (k+1)).length=n - 1:=by simp[he];omega
  have l2:(es.take k++(es.drop (k+1)++es.drop (n - 1))).length=n:=by rw[<-List.append_assoc,List.length_append,l1];simp[he] <;> omega
  have l3:(es.take k++(es.drop (k+1)++es.drop (n - 1))).take (n - 1)=es.take k++es.drop (k+1):=by rw[<-List.append_assoc,<-l1];exact List.take_left
  have l4:n - 1+1=n:=by omega
  have l5:(es.take k++(es.drop (k+1)++es.drop (n - 1))).drop n=[]:=List.drop_eq_nil_of_le (by omega)
  have l6:n - 1+1<=n:=by omega
  simp only[zfm,hg1,l2,l3,l4,l5]
  rw[if_pos ⟨trivial,trivial,by omega⟩,List.set_append_left _ _ (by simpa using hq)]
  simp
 simp only[zS] at hcl
 have hni:zcr (some 9) H=some (.sl (some 9) H.length 0 0 0,H++[.arr (some 9) [] false]):=by simp[zcr,zcT]
 simp -dsimp -implicitDefEqProofs only[go_sem,seval,↓reduceIte,List.append_assoc,zae,zac,zaf,zad,Nat.add_assoc,List.length_append,hni,h0,hL,h3,s1,s2,s3,hap,hcl]
 simp[AV.refsIn,zS,hq]
set_option maxRecDepth 20000 in
theorem zrz(d:Dbs)(hb:BndD d)(id:Int)(hv:okD d=true)(i k:Nat)(hw:whR d.procs id=some (i,k))(p:Prc)(hpp:d.procs[i]? =some p)(hkl:k<p.cls.length)(hp:Heap):S 12 [d.av,.pv none (.int .i64 id)] hp=some (.ret (.tuple [(⟨d.next,d.procs.set i ⟨p.name,p.ar,p.dyn,p.cls.take k++p.cls.drop (k+1)⟩⟩:Dbs).av,.pv none (.bool true)]),hp):=by
 refine zaj rfl rfl rfl (zaa [(some 2,d.pv),(none,.int .i64 id)]) rfl ?_
 have h1:=fun hp=>zby d hb.1 hb.2.1 hb.2.2 hp
 have hl5:d.procs.length<=500/\totD d.procs<=500:=by
  simp only[okD,Bool.and_eq_true,decide_eq_true_eq] at hv
  exact⟨hv.2.2.1,hv.2.2.2.1⟩
 have h3:=fun hp=>zl4 d id (by omega) (by omega) hp
 have h4:∀x0 x1:AObj,S 33 [d.av] [x0,x1]=some (.ret (dA d 4),x0::x1::.box (some 2) (dA d 4)::.box (some 2) (dA d 4)::.arv (some 4) (elsA d.procs 10 d.procs.length)::cEs d.procs 10):=fun x0 x1=>zgt d (by omega) (fun q hq=>⟨by have:=zcJ hq;omega,zjQ hv q hq⟩) [x0,x1]
 have hnil:∀H:Heap,zal [(none,.nilv (some 4))] H=([(none,.nilv (some 4))],H):=fun _=>rfl
 have hst:∀(x0:AObj) (v:AV) (X:Heap),zar (some 2) 0 (x0::.box (some 2) v::X) [.ptr 1 0,dA d 4]=some (.undef,x0::.box (some 2) (dA d 4)::X):=fun x0 v X=>by
  simp[zar,astore,dA,AV.plain,AV.shp,AV.own,zal,zbh,total,Sh.size]
 simp only[Dbs.av] at h1 h3 h4
 rw[hv] at h1
 rw[hw] at h3
 have hpm:=List.mem_of_getElem? hpp
 have hc5:p.cls.length<=500:=by have:=zcJ hpm;omega
 have hil:=(List.getElem?_eq_some_iff.1 hpp).1
 have hge:=zdZ (b:=10) hpp
 have hpt:AV.part deep (dA d 4) 1 none=some (.slv (some 4) 4 d.procs.length 0 d.procs.length):=rfl
 have hia:zaR (some 4) [.slv (some 4) 4 d.procs.length 0 d.procs.length,.pv none (.int .i64 i)]=some (.epv (some 4) 4 d.procs.length i 0):=by
  simp[zaR,aindex,hil]
 have hfa:zdq 3 [.epv (some 4) 4 d.procs.length i 0]=some (.epv (some 4) 4 d.procs.length i 3):=rfl
 obtain⟨q,hq⟩:∃q,q=10+6*i:=⟨_,rfl⟩
 rw[<-hq] at hge
 have hld:∀(x0 x1 x2 x3:AObj) (X:Heap),aload none (x0::x1::x2::x3::.arv (some 4) (elsA d.procs 10 d.procs.length)::X) (.epv (some 4) 4 d.procs.length i 3)=some (.sl (some 9) q p.cls.length 0 p.cls.length):=fun x0 x1 x2 x3 X=>by
  have e:AV.part deep (pA p q) 3 none=some (.sl (some 9) q p.cls.length 0 p.cls.length):=rfl
  simp[aload,zbm,hge,e]
 have hw1:IntKind.i64.wrap ((k:Int)+1)=(k:Int)+1:=by
  rw[zaF (by omega) (by omega)]
 obtain⟨E,hE⟩:∃E,E=(cEs d.procs 10).set (6*i+5) (.arr (some 9) ((Sto.pvs p.cls).take k++((Sto.pvs p.cls).drop (k+1)++[zS])) false):=⟨_,rfl⟩
 have hcg:=zfh d.procs 10 i p hpp
 have h5:∀(x0 x1 x2 x3 x4:AObj),S 38 [.sl (some 9) q p.cls.length 0 p.cls.length,.pv none (.int .i64 (k:Int)),.pv none (.int .i64 ((k:Int)+1))] (x0::x1::x2::x3::x4::cEs d.procs 10)=some (.ret (.sl (some 9) q p.cls.length 0 (p.cls.length - 1)),x0::x1::x2::x3::x4::E):=fun x0 x1 x2 x3 x4=>by
  have:=zsJ (x0::x1::x2::x3::x4::cEs d.procs 10) q (Sto.pvs p.cls) k p.cls.length hkl (Sto.pvs_len _) hc5 (by
   rw[hq,show 10+6*i=(6*i+5)+1+1+1+1+1 by omega]
   simp only[List.getElem?_cons_succ]
   exact hcg)
  rw[this,hE,hq,show 10+6*i=(6*i+5)+1+1+1+1+1 by omega]
  rfl
 obtain⟨pN,hpN⟩:∃pN:AV,pN=.agg [(none,.pv none (.str p.name)),(none,.pv none (.int .i64 p.ar)),(none,.pv none (.bool p.dyn)),(none,.sl (some 9) q p.cls.length 0 (p.cls.length - 1))]:=⟨_,rfl⟩
 have hse:∀(x0 x1 x2 x3:AObj) (X:Heap),zar none 0 (x0::x1::x2::x3::.arv (some 4) (elsA d.procs 10 d.procs.length)::X) [.epv (some 4) 4 d.procs.length i 3,.sl (some 9) q p.cls.length 0 (p.cls.length - 1)]=some (.undef,x0::x1::x2::x3::.arv (some 4) ((elsA d.procs 10 d.procs.length).set i pN)::X):=fun x0 x1 x2 x3 X=>by
  have e:AV.upd deep (pA p q) 3 none (.sl (some 9) q p.cls.length 0 (p.cls.length - 1))=some pN:=by rw[hpN];rfl
  simp[zar,astore,zbm,hge,e,AV.plain,AV.shp]
 have fin:∀(x0 x1 x2 x3:AObj),DbA ⟨d.next,d.procs.set i ⟨p.name,p.ar,p.dyn,p.cls.take k++p.cls.drop (k+1)⟩⟩ (dA d 4) (x0::x1::x2::x3::.arv (some 4) ((elsA d.procs 10 d.procs.length).set i pN)::E):=fun x0 x1 x2 x3=>by
  refine⟨4,d.procs.length,_,d.procs.set i ⟨p.name,p.ar,p.dyn,p.cls.take k++p.cls.drop (k+1)⟩,?_,rfl,by rw[List.length_set,zbm],by simp,by simp,by simp[List.take_of_length_le],fun j r v hr hv2=> ?_⟩
  ·simp[dA]
  ·by_cases hji:i=j
   ·subst hji
    rw[List.getElem?_set_self hil] at hr
    cases hr
    rw[List.getElem?_set_self (by rw[zbm];exact hil)] at hv2
    cases hv2
    rw[hpN]
    have hl:(p.cls.take k++p.cls.drop (k+1)).length=p.cls.length - 1:=by simp;omega
    have hpvs:Sto.pvs (p.cls.take k++p.cls.drop (k+1))=(Sto.pvs p.cls).take k++(Sto.pvs p.cls).drop (k+1):=by simp[Sto.pvs]
    refine .inr ⟨.sl (some 9) q p.cls.length 0 (p.cls.length - 1),rfl,.inr ⟨q,p.cls.length,(Sto.pvs p.cls).take k++((Sto.pvs p.cls).drop (k+1)++[zS]),false,by rw[hl],?_,?_,by rw[hl];omega,?_⟩⟩
    ·rw[hq,show 10+6*i=(6*i+5)+1+1+1+1+1 by omega]
     simp only[List.getElem?_cons_succ]
     rw[hE,List.getElem?_set_self (List.getElem?_eq_some_iff.1 hcg).1]
    ·simp[Sto.pvs_len]
     omega
    ·rw[hl,hpvs,<-List.append_assoc]
     exact List.take_left' (by simp[Sto.pvs_len];omega)
   ·rw[List.getElem?_set_ne hji] at hr hv2
    rw[zdZ hr] at hv2
    cases hv2
    refine .inr ⟨_,rfl,.inr ⟨10+6*j,r.cls.length,Sto.pvs r.cls,false,rfl,?_,Sto.pvs_len _,Nat.le_refl _,List.take_of_length_le (by rw[Sto.pvs_len];exact Nat.le_refl _)⟩⟩
    rw[show 10+6*j=(6*j+5)+1+1+1+1+1 by omega]
    simp only[List.getElem?_cons_succ]
    rw[hE,List.getElem?_set_ne (by omega)]
    exact zfh _ _ _ _ hr
 have hfr:∀(d':Dbs) (H:Heap),DbA d' (dA d 4) H->Am.frozen (.tuple [d'.av,.pv none (.bool true)]) (.tuple [dA d 4,.pv none (.bool true)]) H:=fun d' H hD=>by
  obtain⟨H',hz⟩:=hD.frz
  have e3:∀X,AV.freeze deep (.pv none (.bool true)) X=some (.bool true,X):=fun _=>rfl
  have hsh:(dA d 4).shp=some 2:=rfl
  refine⟨H',?_⟩
  simp only[AV.freezeRes,zaq,hz,e3,hsh]
  rfl
 have hr:∀(x0:AObj) (X:Heap),za9 ⟨[(4,.ptr 1 0),(5,.pv none (.bool true))],x0::.box (some 2) (dA d 4)::X⟩ (4,some (some 2))=some (dA d 4):=fun x0 X=>by
  simp[za9,Fr.look,aload]
 have hs1:∀(x0:AObj) (X X':Heap),zca (x0::.box (some 2) (dA d 4)::X) (x0::.box (some 2) (dA d 4)::X') (.ptr 1 1)=true:=fun x0 X X'=>by
  simp[zca,AObj.beq,dA,AV.beq,AV.beqc,PV.beq]
 simp -dsimp -implicitDefEqProofs only[go_sem,seval,↓reduceIte,List.take_succ_cons,List.drop_succ_cons,List.all_cons,List.all_nil,hs1,Dbs.av,zaH,Prc.pvs_len,h1,h3,h4,hst,hnil,hpt,hia,hfa,hld,hw1,h5,hse,hr,List.append_assoc,zae,zac,zaf,zad,Nat.add_assoc,List.length_append]
 have hF:=hfr _ _ (fin (.box (some 2) (.pv (some 2) d.pv)) (.box (some 2) (dA d 4)) (.box (some 2) (dA d 4)) (.box (some 2) (dA d 4)))
 simp only[zbH,Dbs.av] at hF
 exact hF
theorem zr3(H:Heap)(q:Nat)(es:List PV)(k n:Nat)(v:PV)(hk:k<=n)(he:es.length=n)(hn:n<=500)(hg:H[q]? =some (.arr (some 9) es false)):S 35 [.sl (some 9) q n 0 n,.pv none (.int .i64 (k:Int)),.tsl (some 9) [v]] H=some (.ret (.sl (some 9) q (n+1) 0 (n+1)),H.set q (.arr (some 9) (es.take k++v::es.drop k) false)):=by
 rw[S,zic (F:=find tab) (prim:=prim) (p:=zdg (some 9)) rfl]
 have hl:n<=lim:=by unfold lim;omega
 have hl1:n+1<=lim:=by unfold lim;omega
 by_cases e:k=n
 ·subst e
  have h1:es.take k=es:=List.take_of_length_le (by omega)
  have h2:es.drop k=[]:=List.drop_eq_nil_of_le (by omega)
  simp[zdg,zbe,aappend,elems,hg,he,hl,hl1,h1,h2]
 ·have e':¬(k:Int)=(n:Int):=by omega
  have hlt:(k:Int)<(n:Int):=by omega
  have hlt':k<n:=by omega
  simp[zdg,hg,he,hl1,e,hlt']
  intro h
  omega
theorem zr4(H:Heap)(v:PV):S 35 [.tsl (some 9) [],.pv none (.int .i64 0),.tsl (some 9) [v]] H=some (.ret (.sl (some 9) H.length 1 0 1),H++[.arr (some 9) [v] false]):=by
 rw[S,zic (F:=find tab) (prim:=prim) (p:=zdg (some 9)) rfl]
 have hl:0<=lim:=by unfold lim;omega
 have hl1:1<=lim:=by unfold lim;omega
 simp[zdg,zbe,aappend,elems,hl,hl1]
set_option maxRecDepth 20000 in
theorem zr5(d:Dbs)(hb:BndD d)(c:Cz)(z1:c.head.size<100000000)(z2:c.body.size<100000000)(fr dy:Bool)(hv:okD d=true)(hn:okC c=true)(ht:totD d.procs≠500)(h:d.next=4294967296)(hp:Heap):S 11 [d.av,c.av,.pv none (.bool fr),.pv none (.bool dy)] hp=some (.ret (.tuple [zDb.av,.pv none (.int .i64 13)]),hp):=by
 refine zaj rfl rfl rfl (zaa [(some 2,d.pv),(some 8,c.pv),(none,.bool fr),(none,.bool dy)]) rfl ?_
 have h1:=fun hp=>zby d hb.1 hb.2.1 hb.2.2 hp
 have h2:=fun hp=>zb9 c z1 z2 hp
 have h3:∀(s:List UInt8) (a:Int) hp,S 31 [d.av,.pv none (.str s),.pv none (.int .i64 a)] hp=some (.ret (.tuple [.pv none (.int .i64 (lbD d.procs (keyP s a):Int)),.pv none (.bool (fnD d.procs (keyP s a)))]),hp):=fun s a hp=>zd0 d s a hb.1 (zfj hv) hp
 have hl5:d.procs.length<=500/\totD d.procs<=500:=by
  simp only[okD,Bool.and_eq_true,decide_eq_true_eq] at hv
  exact⟨hv.2.2.1,hv.2.2.2.1⟩
 have h4:=fun hp=>zdk d (by omega) (by omega) hp
 have hz0:zaJ [(none,.pv none (.int .i64 0)),(none,.nilv (some 4))] [] []=some (.agg [(none,.pv none (.int .i64 0)),(none,.nilv (some 4))]):=rfl
 have hnil:∀H:Heap,zal [(none,.nilv (some 4))] H=([(none,.nilv (some 4))],H):=fun _=>rfl
 simp only[Dbs.av] at h1 h3 h4
 simp only[Cz.av] at h2
 rw[hv] at h1
 rw[hn] at h2
 have ht':((totD d.procs:Int)=500)=False:=eq_false (by omega)
 have hx:PV.part deep d.pv 0 none=some (.int .i64 4294967296):=by rw[zaE,h]
 obtain⟨⟨hk,hi,hna,has⟩,bd⟩:=c
 have hpn:PV.part deep (Cz.pv ⟨⟨hk,hi,hna,has⟩,bd⟩) 2 none=some (.str hna):=rfl
 have hpa:PV.part deep (Cz.pv ⟨⟨hk,hi,hna,has⟩,bd⟩) 3 none=some (.sl (some 4) (Tm.pvs has)):=rfl
 simp -dsimp -implicitDefEqProofs only[hpn,hpa,Tm.pvs_len,g11,c11r0,c11r1,c11r2,c11k3,c11r4,c11r5,c11r6,c11k7,c11r8,c11r9,c11r10,c11k11,c11r12,c11r13,c11r14,c11r15,c11k16,c11r17,c11r18,c11r19,c11,go_sem,seval,↓reduceIte,Dbs.av,Cz.av,h1,h2,h3,h4,ht',hx,hz0,hnil,zab (Nat.zero_le _),List.append_assoc,zae,zac,zaf,zad,Nat.add_assoc,List.length_append]
 exact⟨_,rfl⟩
set_option maxRecDepth 20000 in
theorem zp6(d:Dbs)(hb:BndD d)(c:Cz)(z1:c.head.size<100000000)(z2:c.body.size<100000000)(fr dy:Bool)(hv:okD d=true)(hn:okC c=true)(ht:totD d.procs≠500)(hx:d.next≠4294967296)(hf:fnD d.procs (keyP c.head.name c.head.args.length)=false)(h:d.procs.length=500)(hp:Heap):S 11 [d.av,c.av,.pv none (.bool fr),.pv none (.bool dy)] hp=some (.ret (.tuple [zDb.av,.pv none (.int .i64 13)]),hp):=by
 refine zaj rfl rfl rfl (zaa [(some 2,d.pv),(some 8,c.pv),(none,.bool fr),(none,.bool dy)]) rfl ?_
 have h1:=fun hp=>zby d hb.1 hb.2.1 hb.2.2 hp
 have h2:=fun hp=>zb9 c z1 z2 hp
 have h3:∀hp,S 31 [d.av,.pv none (.str c.head.name),.pv none (.int .i64 c.head.args.length)] hp=some (.ret (.tuple [.pv none (.int .i64 (lbD d.procs (keyP c.head.name c.head.args.length):Int)),.pv none (.bool (fnD d.procs (keyP c.head.name c.head.args.length)))]),hp):=fun hp=>zd0 d _ _ hb.1 (zfj hv) hp
 have hl5:d.procs.length<=500/\totD d.procs<=500:=by
  simp only[okD,Bool.and_eq_true,decide_eq_true_eq] at hv
  exact⟨hv.2.2.1,hv.2.2.2.1⟩
 have h4:=fun hp=>zdk d (by omega) (by omega) hp
 have hz0:zaJ [(none,.pv none (.int .i64 0)),(none,.nilv (some 4))] [] []=some (.agg [(none,.pv none (.int .i64 0)),(none,.nilv (some 4))]):=rfl
 have hnil:∀H:Heap,zal [(none,.nilv (some 4))] H=([(none,.nilv (some 4))],H):=fun _=>rfl
 rw[hf] at h3
 simp only[Dbs.av] at h1 h3 h4
 simp only[Cz.av] at h2
 rw[hv] at h1
 rw[hn] at h2
 have ht':((totD d.procs:Int)=500)=False:=eq_false (by omega)
 have hx':(d.next=4294967296)=False:=eq_false hx
 have hl':((d.procs.length:Int)=500)=True:=eq_true (by omega)
 obtain⟨⟨hk,hi,hna,has⟩,bd⟩:=c
 have hpn:PV.part deep (Cz.pv ⟨⟨hk,hi,hna,has⟩,bd⟩) 2 none=some (.str hna):=rfl
 have hpa:PV.part deep (Cz.pv ⟨⟨hk,hi,hna,has⟩,bd⟩) 3 none=some (.sl (some 4) (Tm.pvs has)):=rfl
 have ea:(Tm.mk hk hi hna has).args=has:=rfl
 have en:(Tm.mk hk hi hna has).name=hna:=rfl
 simp only[ea,en] at h3
 simp -dsimp -implicitDefEqProofs only[hpn,hpa,Tm.pvs_len,g11,c11r0,c11r1,c11r2,c11k3,c11r4,c11r5,c11r6,c11k7,c11r8,c11r9,c11r10,c11k11,c11r12,c11r13,c11r14,c11r15,c11k16,c11r17,c11r18,c11r19,c11,go_sem,seval,↓reduceIte,Dbs.av,Cz.av,zaE,zaH,Prc.pvs_len,h1,h2,h3,h4,ht',hx',hl',hz0,hnil,zab (Nat.zero_le _),List.append_assoc,zae,zac,zaf,zad,Nat.add_assoc,List.length_append]
 exact⟨_,rfl⟩
def insC(fr:Bool)(s:Sto)(l:List Sto):List Sto:=if fr=true then s::l else l++[s]
theorem zp8(fr:Bool)(s:Sto)(l:List Sto):(insC fr s l).length=l.length+1:=by
 unfold insC
 split <;> simp
theorem insC_pvs(fr:Bool)(s:Sto)(l:List Sto):Sto.pvs (insC fr s l)=(Sto.pvs l).take (if fr=true then 0 else l.length)++s.pv::(Sto.pvs l).drop (if fr=true then 0 else l.length):=by
 unfold insC
 split
 ·simp[Sto.pvs]
 ·have h1:(Sto.pvs l).take l.length=Sto.pvs l:=List.take_of_length_le (by rw[Sto.pvs_len];exact Nat.le_refl _)
  have h2:(Sto.pvs l).drop l.length=[]:=List.drop_eq_nil_of_le (by rw[Sto.pvs_len];exact Nat.le_refl _)
  rw[h1,h2]
  simp[Sto.pvs]
set_option maxRecDepth 20000 in
theorem znx(d:Dbs)(hb:BndD d)(c:Cz)(z1:c.head.size<100000000)(z2:c.body.size<100000000)(fr dy:Bool)(hv:okD d=true)(hn:okC c=true)(ht:totD d.procs≠500)(hx:d.next≠4294967296)(hf:fnD d.procs (keyP c.head.name c.head.args.length)=true)(p:Prc)(i:Nat)(hi:i=lbD d.procs (keyP c.head.name c.head.args.length))(hpp:d.procs[i]? =some p)(hp:Heap):S 11 [d.av,c.av,.pv none (.bool fr),.pv none (.bool dy)] hp=some (.ret (.tuple [(⟨d.next+1,d.procs.set i ⟨p.name,p.ar,p.dyn,insC fr ⟨d.next,c⟩ p.cls⟩⟩:Dbs).av,.pv none (.int .i64 0)]),hp):=by
 refine zaj rfl rfl rfl (zaa [(some 2,d.pv),(some 8,c.pv),(none,.bool fr),(none,.bool dy)]) rfl ?_
 have h1:=fun hp=>zby d hb.1 hb.2.1 hb.2.2 hp
 have h2:=fun hp=>zb9 c z1 z2 hp
 have h3:∀hp,S 31 [d.av,.pv none (.str c.head.name),.pv none (.int .i64 c.head.args.length)] hp=some (.ret (.tuple [.pv none (.int .i64 (lbD d.procs (keyP c.head.name c.head.args.length):Int)),.pv none (.bool (fnD d.procs (keyP c.head.name c.head.args.length)))]),hp):=fun hp=>zd0 d _ _ hb.1 (zfj hv) hp
 have hl5:1<=d.next/\d.next<=4294967296/\d.procs.length<=500/\totD d.procs<=500:=by
  simp only[okD,Bool.and_eq_true,decide_eq_true_eq] at hv
  exact⟨hv.1,hv.2.1,hv.2.2.1,hv.2.2.2.1⟩
 have h4:=fun hp=>zdk d (by omega) (by omega) hp
 have h6:∀x0 x1 x2:AObj,S 33 [d.av] [x0,x1,x2]=some (.ret (dA d 5),x0::x1::x2::.box (some 2) (dA d 5)::.box (some 2) (dA d 5)::.arv (some 4) (elsA d.procs 11 d.procs.length)::cEs d.procs 11):=fun x0 x1 x2=>zgt d (by omega) (fun q hq=>⟨by have:=zcJ hq;omega,zjQ hv q hq⟩) [x0,x1,x2]
 have hnil:∀H:Heap,zal [(none,.nilv (some 4))] H=([(none,.nilv (some 4))],H):=fun _=>rfl
 have hst:∀(x0 x1:AObj) (v:AV) (X:Heap),zar (some 2) 0 (x0::x1::.box (some 2) v::X) [.ptr 2 0,dA d 5]=some (.undef,x0::x1::.box (some 2) (dA d 5)::X):=fun x0 x1 v X=>by
  simp[zar,astore,dA,AV.plain,AV.shp,AV.own,zal,zbh,total,Sh.size]
 obtain⟨vh,vb⟩:=zk8 hn
 have h7:=fun hp=>zgv ⟨d.next,c⟩ vh vb hp
 have hbs:zaJ [(none,.pv none (.int .i64 0)),(some 8,.agg [(some 4,.agg [(none,.pv none (.int .i64 0)),(none,.pv none (.int .i64 0)),(none,.pv none (.str [])),(none,.tsl (some 4) [])]),(some 4,.agg [(none,.pv none (.int .i64 0)),(none,.pv none (.int .i64 0)),(none,.pv none (.str [])),(none,.tsl (some 4) [])])])] [0,1] [.pv none (.int .i64 d.next),.pv (some 8) c.pv]=some (.pv (some 9) (Sto.mk d.next c).pv):=rfl
 rw[hf,<-hi] at h3
 simp only[Dbs.av] at h1 h3 h4 h6
 simp only[Cz.av] at h2
 simp only[Sto.av] at h7
 rw[hv] at h1
 rw[hn] at h2
 have ht':((totD d.procs:Int)=500)=False:=eq_false (by omega)
 have hx':(d.next=4294967296)=False:=eq_false hx
 have hpm:=List.mem_of_getElem? hpp
 have hc5:p.cls.length<=500:=by have:=zcJ hpm;omega
 have hil:=(List.getElem?_eq_some_iff.1 hpp).1
 have hge:=zdZ (b:=11) hpp
 have hpt:AV.part deep (dA d 5) 1 none=some (.slv (some 4) 5 d.procs.length 0 d.procs.length):=rfl
 have hpt0:AV.part deep (dA d 5) 0 none=some (.pv none (.int .i64 d.next)):=rfl
 have hia:zaR (some 4) [.slv (some 4) 5 d.procs.length 0 d.procs.length,.pv none (.int .i64 i)]=some (.epv (some 4) 5 d.procs.length i 0):=by
  simp[zaR,aindex,hil]
 have hfa:zdq 3 [.epv (some 4) 5 d.procs.length i 0]=some (.epv (some 4) 5 d.procs.length i 3):=rfl
 have hnc:zb4 [.epv (some 4) 5 d.procs.length i 0]=some (.epv (some 4) 5 d.procs.length i 0):=rfl
 obtain⟨q,hq⟩:∃q,q=11+6*i:=⟨_,rfl⟩
 rw[<-hq] at hge
 have hld:∀(x0 x1 x2 x3 x4:AObj) (X:Heap),aload none (x0::x1::x2::x3::x4::.arv (some 4) (elsA d.procs 11 d.procs.length)::X) (.epv (some 4) 5 d.procs.length i 3)=some (.sl (some 9) q p.cls.length 0 p.cls.length):=fun x0 x1 x2 x3 x4 X=>by
  have e:AV.part deep (pA p q) 3 none=some (.sl (some 9) q p.cls.length 0 p.cls.length):=rfl
  simp[aload,zbm,hge,e]
 obtain⟨ns,hns⟩:∃ns,ns=insC fr ⟨d.next,c⟩ p.cls:=⟨_,rfl⟩
 have hnl:ns.length=p.cls.length+1:=by rw[hns,zp8]
 have hnp:=insC_pvs fr ⟨d.next,c⟩ p.cls
 rw[<-hns] at hnp ⊢
 obtain⟨E,hE⟩:∃E,E=(cEs d.procs 11).set (6*i+5) (.arr (some 9) (Sto.pvs ns) false):=⟨_,rfl⟩
 have hcg:=zfh d.procs 11 i p hpp
 have h5:∀(a:Int),a=((if fr=true then 0 else p.cls.length:Nat):Int)->∀(x0 x1 x2 x3 x4 x5:AObj),S 35 [.sl (some 9) q p.cls.length 0 p.cls.length,.pv none (.int .i64 a),.tsl (some 9) [(Sto.mk d.next c).pv]] (x0::x1::x2::x3::x4::x5::cEs d.procs 11)=some (.ret (.sl (some 9) q (p.cls.length+1) 0 (p.cls.length+1)),x0::x1::x2::x3::x4::x5::E):=fun a ha x0 x1 x2 x3 x4 x5=>by
  rw[ha]
  have:=zr3 (x0::x1::x2::x3::x4::x5::cEs d.procs 11) q (Sto.pvs p.cls) (if fr=true then 0 else p.cls.length) p.cls.length (Sto.mk d.next c).pv (by split <;> omega) (Sto.pvs_len _) hc5 (by
   rw[hq,show 11+6*i=(6*i+5)+1+1+1+1+1+1 by omega]
   simp only[List.getElem?_cons_succ]
   exact hcg)
  rw[this,hE,hnp,hq,show 11+6*i=(6*i+5)+1+1+1+1+1+1 by omega]
  rfl
 obtain⟨pN,hpN⟩:∃pN:AV,pN=.agg [(none,.pv none (.str p.name)),(none,.pv none (.int .i64 p.ar)),(none,.pv none (.bool p.dyn)),(none,.sl (some 9) q (p.cls.length+1) 0 (p.cls.length+1))]:=⟨_,rfl⟩
 have hse:∀(x0 x1 x2 x3 x4:AObj) (X:Heap),zar none 0 (x0::x1::x2::x3::x4::.arv (some 4) (elsA d.procs 11 d.procs.length)::X) [.epv (some 4) 5 d.procs.length i 3,.sl (some 9) q (p.cls.length+1) 0 (p.cls.length+1)]=some (.undef,x0::x1::x2::x3::x4::.arv (some 4) ((elsA d.procs 11 d.procs.length).set i pN)::X):=fun x0 x1 x2 x3 x4 X=>by
  have e:AV.upd deep (pA p q) 3 none (.sl (some 9) q (p.cls.length+1) 0 (p.cls.length+1))=some pN:=by rw[hpN];rfl
  simp[zar,astore,zbm,hge,e,AV.plain,AV.shp]
 obtain⟨dN,hdN⟩:∃dN:AV,dN=.agg [(none,.pv none (.int .i64 (d.next+1))),(none,.slv (some 4) 5 d.procs.length 0 d.procs.length)]:=⟨_,rfl⟩
 have hw1:IntKind.i64.wrap (d.next+1)=d.next+1:=by
  rw[zaF (by omega) (by omega)]
 have hsf:∀(x0 x1:AObj) (X:Heap),zar none 0 (x0::x1::.box (some 2) (dA d 5)::X) [.ptr 2 0,.pv none (.int .i64 (d.next+1))]=some (.undef,x0::x1::.box (some 2) dN::X):=fun x0 x1 X=>by
  have e:AV.upd deep (dA d 5) 0 none (.pv none (.int .i64 (d.next+1)))=some dN:=by rw[hdN];rfl
  simp[zar,astore,e,AV.plain,AV.shp,AV.own]
 have hs2:∀(x0 x1:AObj) (X:Heap),zar (some 2) 0 (x0::x1::.box (some 2) dN::X) [.ptr 2 0,dN]=some (.undef,x0::x1::.box (some 2) dN::X):=fun x0 x1 X=>by
  rw[hdN]
  simp[zar,astore,AV.plain,AV.shp,AV.own,zal,zbh,total,Sh.size]
 have hr:∀(x0 x1:AObj) (X:Heap),za9 ⟨[(8,.ptr 2 0),(9,.pv none (.int .i64 0))],x0::x1::.box (some 2) dN::X⟩ (8,some (some 2))=some dN:=fun x0 x1 X=>by
  simp[za9,Fr.look,aload]
 have fin:∀(x0 x1 x2 x3 x4:AObj),DbA ⟨d.next+1,d.procs.set i ⟨p.name,p.ar,p.dyn,ns⟩⟩ dN (x0::x1::x2::x3::x4::.arv (some 4) ((elsA d.procs 11 d.procs.length).set i pN)::E):=fun x0 x1 x2 x3 x4=>by
  refine⟨5,d.procs.length,_,d.procs.set i ⟨p.name,p.ar,p.dyn,ns⟩,?_,rfl,by rw[List.length_set,zbm],by simp,by simp,by simp[List.take_of_length_le],fun j r v hr hv2=> ?_⟩
  ·rw[hdN]
   simp
  ·by_cases hji:i=j
   ·subst hji
    rw[List.getElem?_set_self hil] at hr
    cases hr
    rw[List.getElem?_set_self (by rw[zbm];exact hil)] at hv2
    cases hv2
    rw[hpN]
    refine .inr ⟨.sl (some 9) q (p.cls.length+1) 0 (p.cls.length+1),rfl,.inr ⟨q,p.cls.length+1,Sto.pvs ns,false,by rw[hnl],?_,by rw[Sto.pvs_len,hnl],by rw[hnl];omega,List.take_of_length_le (by rw[Sto.pvs_len];exact Nat.le_refl _)⟩⟩
    rw[hq,show 11+6*i=(6*i+5)+1+1+1+1+1+1 by omega]
    simp only[List.getElem?_cons_succ]
    rw[hE,List.getElem?_set_self (List.getElem?_eq_some_iff.1 hcg).1]
   ·rw[List.getElem?_set_ne hji] at hr hv2
    rw[zdZ hr] at hv2
    cases hv2
    refine .inr ⟨_,rfl,.inr ⟨11+6*j,r.cls.length,Sto.pvs r.cls,false,rfl,?_,Sto.pvs_len _,Nat.le_refl _,List.take_of_length_le (by rw[Sto.pvs_len];exact Nat.le_refl _)⟩⟩
    rw[show 11+6*j=(6*j+5)+1+1+1+1+1+1 by omega]
    simp only[List.getElem?_cons_succ]
    rw[hE,List.getElem?_set_ne (by omega)]
    exact zfh _ _ _ _ hr
 have hfr:∀(d':Dbs) (H:Heap),DbA d' dN H->Am.frozen (.tuple [d'.av,.pv none (.int .i64 0)]) (.tuple [dN,.pv none (.int .i64 0)]) H:=fun d' H hD=>by
  obtain⟨H',hz⟩:=hD.frz
  have e3:∀X,AV.freeze deep (.pv none (.int .i64 0)) X=some (.int .i64 0,X):=fun _=>rfl
  have hsh:dN.shp=some 2:=by rw[hdN];rfl
  refine⟨H',?_⟩
  simp only[AV.freezeRes,zaq,hz,e3,hsh]
  rfl
 clear hnp hns hE hpN
 obtain⟨⟨hk,hi',hna,has⟩,bd⟩:=c
 have hpn:PV.part deep (Cz.pv ⟨⟨hk,hi',hna,has⟩,bd⟩) 2 none=some (.str hna):=rfl
 have hpa:PV.part deep (Cz.pv ⟨⟨hk,hi',hna,has⟩,bd⟩) 3 none=some (.sl (some 4) (Tm.pvs has)):=rfl
 have ea:(Tm.mk hk hi' hna has).args=has:=rfl
 have en:(Tm.mk hk hi' hna has).name=hna:=rfl
 simp only[ea,en] at h3
 cases fr with
 |true=>
  have h8:=h5 0 rfl
  simp -dsimp -implicitDefEqProofs only[hpn,hpa,Tm.pvs_len,g11,c11r0,c11r1,c11r2,c11k3,c11r4,c11r5,c11r6,c11k7,c11r8,c11r9,c11r10,c11k11,c11r12,c11r13,c11r14,c11r15,c11k16,c11r17,c11r18,c11r19,c11,go_sem,seval,↓reduceIte,Dbs.av,Cz.av,zaE,zaH,Prc.pvs_len,h1,h2,h3,h4,h6,h7,h8,hbs,ht',hx',hnil,hst,hpt,hpt0,hia,hfa,hnc,hld,hse,hw1,hsf,hs2,hr,List.append_assoc,zae,zac,zaf,zad,Nat.add_assoc,List.length_append]
  have hF:=hfr _ _ (fin (.box (some 2) (.pv (some 2) d.pv)) (.box (some 8) (.pv (some 8) (Cz.pv ⟨⟨hk,hi',hna,has⟩,bd⟩))) (.box (some 2) dN) (.box (some 2) (dA d 5)) (.box (some 2) (dA d 5)))
  simp only[zbH,Dbs.av] at hF
  exact hF
 |false=>
  have h8:=h5 p.cls.length rfl
  simp -dsimp -implicitDefEqProofs only[hpn,hpa,Tm.pvs_len,g11,c11r0,c11r1,c11r2,c11k3,c11r4,c11r5,c11r6,c11k7,c11r8,c11r9,c11r10,c11k11,c11r12,c11r13,c11r14,c11r15,c11k16,c11r17,c11r18,c11r19,c11,go_sem,seval,↓reduceIte,Dbs.av,Cz.av,zaE,zaH,Prc.pvs_len,h1,h2,h3,h4,h6,h7,h8,hbs,ht',hx',hnil,hst,hpt,hpt0,hia,hfa,hnc,hld,hse,hw1,hsf,hs2,hr,List.append_assoc,zae,zac,zaf,zad,Nat.add_assoc,List.length_append]
  have hF:=hfr _ _ (fin (.box (some 2) (.pv (some 2) d.pv)) (.box (some 8) (.pv (some 8) (Cz.pv ⟨⟨hk,hi',hna,has⟩,bd⟩))) (.box (some 2) dN) (.box (some 2) (dA d 5)) (.box (some 2) (dA d 5)))
  simp only[zbH,Dbs.av] at hF
  exact hF
end Go.Proofs.Ytligpohiokpnhaa
