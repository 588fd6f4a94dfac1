/- db.Add and db.Erase: all cases together. -/
import Derived.Test.YtligpohiokpnhaaGreatAdn
import Derived.Test.YtligpohiokpnhaaGreatDb10
set_option linter.unusedSimpArgs false
set_option linter.unusedVariables false
namespace Go.Proofs.YtligpohiokpnhaaGreat
open Go.Am
def addR(d:Dbs)(c:Cz)(fr dy:Bool):Dbs × Int:=
 if okD d=false\/okC c=false then(YB,1)
 else if totD d.procs=500\/d.next=4294967296 then(YB,13)
 else match fnD d.procs (keyP c.head.name c.head.args.length),d.procs[lbD d.procs (keyP c.head.name c.head.args.length)]? with
 |true,some p=>(⟨d.next+1,d.procs.set (lbD d.procs (keyP c.head.name c.head.args.length)) ⟨p.name,p.ar,p.dyn,insC fr ⟨d.next,c⟩ p.cls⟩⟩,0)
 |_,_=>if d.procs.length=500 then(YB,13)
  else(⟨d.next+1,d.procs.take (lbD d.procs (keyP c.head.name c.head.args.length))++(⟨c.head.name,c.head.args.length,dy,[⟨d.next,c⟩]⟩:Prc)::d.procs.drop (lbD d.procs (keyP c.head.name c.head.args.length))⟩,0)
theorem kU(d:Dbs)(hb:BndD d)(c:Cz)(z1:c.head.size<100000000)(z2:c.body.size<100000000)(fr dy:Bool)(hp:Heap):S 21 [d.av,c.av,.pv none (.bool fr),.pv none (.bool dy)] hp=some (.ret (.tuple [(addR d c fr dy).1.av,.pv none (.int .i64 (addR d c fr dy).2)]),hp):=by
 by_cases h:okD d=false\/okC c=false
 ·rw[l9 d hb c z1 z2 fr dy h hp];simp only[addR,Zc h]
 ·have hv:okD d=true:=by cases e:okD d with|true=>rfl|false=>exact absurd (Or.inl e) h
  have hn:okC c=true:=by cases e:okC c with|true=>rfl|false=>exact absurd (Or.inr e) h
  by_cases ht:totD d.procs=500
  ·rw[Ma d hb c z1 z2 fr dy hv hn ht hp];simp only[addR,Za h,Zc (Or.inl ht:totD d.procs=500\/d.next=4294967296)]
  ·by_cases hx:d.next=4294967296
   ·rw[Mj d hb c z1 z2 fr dy hv hn ht hx hp];simp only[addR,Za h,Zc (Or.inr hx:totD d.procs=500\/d.next=4294967296)]
   ·have h0:¬(totD d.procs=500\/d.next=4294967296):=by
     rintro(k|k)
     ·exact ht k
     ·exact hx k
    cases hf:fnD d.procs (keyP c.head.name c.head.args.length) with
    |true=>
     obtain⟨p,hpp⟩:=XN hf;rw[Ml d hb c z1 z2 fr dy hv hn ht hx hf p _ rfl hpp hp];simp only[addR,Za h,Za h0,hf,hpp]
    |false=>
     by_cases hl:d.procs.length=500
     ·rw[Mk d hb c z1 z2 fr dy hv hn ht hx hf hl hp];simp only[addR,Za h,Za h0,hf,Zc hl]
     ·rw[Mm d hb c z1 z2 fr dy hv hn ht hx hl _ _ rfl rfl hf _ rfl hp];simp only[addR,Za h,Za h0,hf,Za hl]
def cutC(p:Prc)(k:Nat):Prc:=⟨p.name,p.ar,p.dyn,p.cls.take k++p.cls.drop (k+1)⟩
def eraR(d:Dbs)(id:Int):Dbs × Bool:=
 if okD d=false then(YB,false)
 else match whR d.procs id with
 |none=>(YB,false)
 |some x=>(⟨d.next,d.procs.modify x.1 fun p=>cutC p x.2⟩,true)
theorem kV{α:Type}{l:List α}{i:Nat}{x:α}(h:l[i]? =some x)(f:α->α):l.modify i f=l.set i (f x):=by
 refine zz fun j=> ?_;rw[List.getElem?_modify,List.getElem?_set];by_cases e:i=j
 ·subst e;obtain⟨h1,h2⟩:=Zb.1 h;simp[h1,h2]
 ·simp[e]
theorem Gm(d:Dbs)(hb:BndD d)(id:Int)(hp:Heap):S 22 [d.av,.pv none (.int .i64 id)] hp=some (.ret (.tuple [(eraR d id).1.av,.pv none (.bool (eraR d id).2)]),hp):=by
 cases hv:okD d with
 |false=>
  rw[Gk d hb id (.inl hv) hp];simp only[eraR,Zc hv]
 |true=>
  cases hw:whR d.procs id with
  |none=>
   rw[Gk d hb id (.inr hw) hp];simp[eraR,hw]
  |some x=>
   obtain⟨i,k⟩:=x;obtain⟨p,s,hpp,hs,_⟩:=qY hw;rw[Mg d hb id hv i k hw p hpp (Zb.1 hs).1 hp];have e:eraR d id=(⟨d.next,d.procs.set i (cutC p k)⟩,true):=by
    simp only[eraR,hv,hw];rw[kV hpp];rfl
   rw[e];rfl
def ids(l:List Prc):List Int:=l.flatMap fun p=>p.cls.map (·.id)
theorem Q8(A B:List Prc):ids (A++B)=ids A++ids B:=by simp[ids]
theorem X1(p:Prc)(B:List Prc):ids (p::B)=p.cls.map (·.id)++ids B:=by simp[ids]
theorem mem_ids{l:List Prc}{x:Int}:x∈ids l↔∃p∈l,∃s∈p.cls,s.id=x:=by simp[ids]
def okS(next:Int)(p:Prc)(s:Sto):Prop:=1<=s.id/\s.id<next/\okC s.cl=true/\s.cl.head.name=p.name/\(s.cl.head.args.length:Int)=p.ar
theorem Gn(next:Int)(p:Prc)(seen:List Int)(s:Sto):okSt next p seen s=true↔s.id ∉ seen/\okS next p s:=by
 unfold okSt okS;simp only[Zg,Zw];constructor
 ·rintro⟨a,b,c,d,e,f⟩;exact⟨c,a,b,d,e,f⟩
 ·rintro⟨c,a,b,d,e,f⟩;exact⟨a,b,c,d,e,f⟩
theorem kW(next:Int)(p:Prc):∀(l:List Sto) (seen s':List Int),okSs next p seen l=some s'↔s'=seen++l.map (·.id)/\(l.map (·.id)).Nodup/\(∀x∈l,x.id ∉ seen)/\∀s∈l,okS next p s
 |[],seen,s'=>by simp[okSs,eq_comm]
 |s::r,seen,s'=>by
  rw[okSs];by_cases h:okSt next p seen s=true
  ·rw[Zc h,kW next p r];obtain⟨h1,h2⟩:=(Gn ..).1 h;constructor
   ·rintro⟨rfl,g1,g2,g3⟩;refine⟨by simp,zM.2 ⟨fun hm=> ?_,g1⟩,fun x hx=> ?_,fun x hx=> ?_⟩
    ·obtain⟨u,hu,e⟩:=ZM.1 hm;exact g2 u hu (by rw[e];simp)
    ·rcases Zu.1 hx with rfl|hx
     ·exact h1
     ·exact fun hm=>g2 x hx (by simp[hm])
    ·rcases Zu.1 hx with rfl|hx
     ·exact h2
     ·exact g3 x hx
   ·rintro⟨rfl,g1,g2,g3⟩;obtain⟨k1,k2⟩:=zM.1 g1;refine⟨by simp,k2,fun x hx hm=> ?_,fun x hx=>g3 x (ZQ _ hx)⟩;rcases ZF.1 hm with hm|hm
    ·exact g2 x (ZQ _ hx) hm
    ·exact k1 (ZM.2 ⟨x,hx,by simpa using hm⟩)
  ·rw[Za h];constructor
   ·intro hh;cases hh
   ·rintro⟨_,_,g2,g3⟩;exact absurd ((Gn ..).2 ⟨g2 s ZV,g3 s ZV⟩) h
def OkP(next:Int)(l:List Prc):Prop:=(∀p∈l,namB p=true)/\l.Pairwise (fun a b=>ordP a b<0)/\(ids l).Nodup/\∀p∈l,∀s∈p.cls,okS next p s
theorem Gp(next:Int):∀(l:List Prc) (q:Option Prc) (seen:List Int),okPs next q seen l=true->OkP next l/\(∀p,l.head? =some p->preB q p=true)/\∀x∈ids l,x ∉ seen
 |[],q,seen,_=>⟨⟨fun p h=>(by cases h),List.Pairwise.nil,List.nodup_nil,fun p h=>(by cases h)⟩,fun p h=>(by cases h),fun x h=>(by cases h)⟩
 |x::r,q,seen,h=>by
  rw[okPs,Zg,Zg] at h;obtain⟨h1,h2,h3⟩:=h;split at h3
  ·cases h3
  ·rename_i s' hs;obtain⟨rfl,e2,e3,e4⟩:=(kW ..).1 hs;obtain⟨⟨g1,g2,g3,g4⟩,g5,g6⟩:=Gp next r (some x) _ h3
   have hx:∀b∈r,ordP x b<0:=by
    intro b hb;cases r with
    |nil=>cases hb
    |cons y r'=>
     have h0:ordP x y<0:=zi (g5 y rfl);rcases Zu.1 hb with rfl|hb
     ·exact h0
     ·exact qW h0 ((List.pairwise_cons.1 g2).1 b hb)
   refine⟨⟨fun p hp=> ?_,List.pairwise_cons.2 ⟨hx,g2⟩,?_,fun p hp=> ?_⟩,fun p hp=>by cases hp;exact h2,fun y hy=> ?_⟩
   ·rcases Zu.1 hp with rfl|hp
    ·exact h1
    ·exact g1 p hp
   ·rw[X1,zC];refine⟨e2,g3,fun a ha b hb e=> ?_⟩;subst e;exact g6 a hb (zB _ ha)
   ·rcases Zu.1 hp with rfl|hp
    ·exact e4
    ·exact g4 p hp
   ·rw[X1] at hy;rcases ZF.1 hy with hy|hy
    ·obtain⟨u,hu,rfl⟩:=ZM.1 hy;exact e3 u hu
    ·exact fun hm=>g6 y hy (zJ _ hm)
theorem Gq(next:Int):∀(l:List Prc) (q:Option Prc) (seen:List Int),OkP next l->(∀p,l.head? =some p->preB q p=true)->(∀x∈ids l,x ∉ seen)->okPs next q seen l=true
 |[],q,seen,_,_,_=>rfl
 |x::r,q,seen,⟨h1,h2,h3,h4⟩,h5,h6=>by
  rw[okPs,h1 x ZV,h5 x rfl];rw[X1,zC] at h3;obtain⟨k1,k2⟩:=List.pairwise_cons.1 h2;have hs:okSs next x seen x.cls=some (seen++x.cls.map (·.id)):=(kW ..).2 ⟨rfl,h3.1,fun u hu=>h6 u.id (by rw[X1];exact zJ _ (ZM.2 ⟨u,hu,rfl⟩)),h4 x ZV⟩
  rw[hs];simp only[Bool.true_and];refine Gq next r (some x) _ ⟨fun p hp=>h1 p (ZQ _ hp),k2,h3.2.1,fun p hp=>h4 p (ZQ _ hp)⟩ (fun p hp=> ?_) fun y hy hm=> ?_
  ·exact Zs (k1 p (List.mem_of_mem_head? (by rw[hp];rfl)))
  ·rcases ZF.1 hm with hm|hm
   ·exact h6 y (by rw[X1];exact zB _ hy) hm
   ·exact h3.2.2 y hm y hy rfl
theorem YG(d:Dbs):okD d=true↔1<=d.next/\d.next<=4294967296/\d.procs.length<=500/\totD d.procs<=500/\OkP d.next d.procs:=by
 simp only[okD,Zg,Zw];constructor
 ·rintro⟨a,b,c,e,f⟩;exact⟨a,b,c,e,(Gp _ _ _ _ f).1⟩
 ·rintro⟨a,b,c,e,f⟩;exact⟨a,b,c,e,Gq _ _ _ _ f (fun _ _=>rfl) fun _ _ h=>by cases h⟩
theorem OkP.mono{n n':Int}{l:List Prc}(h:OkP n l)(hn:n<=n'):OkP n' l:=⟨h.1,h.2.1,h.2.2.1,fun p hp s hs=>by
 obtain⟨a,b,c⟩:=h.2.2.2 p hp s hs;exact⟨a,by omega,c⟩⟩
theorem xo(next:Int)(A B:List Prc)(q:Prc):OkP next (A++q::B)↔OkP next (A++B)/\namB q=true/\(∀a∈A,ordP a q<0)/\(∀b∈B,ordP q b<0)/\(q.cls.map (·.id)).Nodup/\(∀s∈q.cls,s.id ∉ ids (A++B))/\∀s∈q.cls,okS next q s:=by
 have hperm:(ids (A++q::B)).Perm (q.cls.map (·.id)++ids (A++B)):=by
  rw[Q8,X1,Q8,<-ZD,<-ZD];exact List.Perm.append_right _ List.perm_append_comm
 unfold OkP;rw[hperm.nodup_iff,zC,List.pairwise_append,List.pairwise_append,List.pairwise_cons];constructor
 ·rintro⟨h1,⟨h2,⟨h3,h4⟩,h5⟩,⟨h6,h7,h8⟩,h9⟩;have hs:∀p,p∈A++B->p∈A++q::B:=fun p hp=>by
   rcases ZF.1 hp with hp|hp
   ·exact zJ _ hp
   ·exact zB _ (ZQ _ hp)
  have hq:q∈A++q::B:=zB _ ZV;exact⟨⟨fun p hp=>h1 p (hs p hp),⟨h2,h4,fun a ha b hb=>h5 a ha b (ZQ _ hb)⟩,h7,fun p hp=>h9 p (hs p hp)⟩,h1 q hq,fun a ha=>h5 a ha q ZV,h3,h6,fun s hs' hm=>h8 s.id (ZM.2 ⟨s,hs',rfl⟩) s.id hm rfl,h9 q hq⟩
 ·rintro⟨⟨h1,⟨h2,h4,h5⟩,h7,h9⟩,g1,g2,g3,g4,g5,g6⟩;have hc:∀p,p∈A++q::B->p=q\/p∈A++B:=fun p hp=>by
   rcases ZF.1 hp with hp|hp
   ·exact .inr (zJ _ hp)
   ·rcases Zu.1 hp with hp|hp
    ·exact .inl hp
    ·exact .inr (zB _ hp)
  refine⟨fun p hp=> ?_,⟨h2,⟨g3,h4⟩,fun a ha b hb=> ?_⟩,⟨g4,h7,fun a ha b hb e=> ?_⟩,fun p hp=> ?_⟩
  ·rcases hc p hp with rfl|hp
   ·exact g1
   ·exact h1 p hp
  ·rcases Zu.1 hb with rfl|hb
   ·exact g2 a ha
   ·exact h5 a ha b hb
  ·subst e;obtain⟨u,hu,rfl⟩:=ZM.1 ha;exact g5 u hu hb
  ·rcases hc p hp with rfl|hp
   ·exact g6
   ·exact h9 p hp
theorem Q9{p q p' q':Prc}(h1:p.name=p'.name)(h2:p.ar=p'.ar)(h3:q.name=q'.name)(h4:q.ar=q'.ar):ordP p q=ordP p' q':=by
 unfold ordP;rw[h1,h2,h3,h4]
theorem Gr:∀a b:List UInt8,Op.bytesLess a b=false->a≠b->Op.bytesLess b a=true
 |[],[],_,h=>absurd rfl h
 |[],_::_,h,_=>by simp[Op.bytesLess] at h
 |_::_,[],_,_=>rfl
 |x::a,y::b,h,hne=>by
  simp only[Op.bytesLess,Bool.or_eq_false_iff,Bool.and_eq_false_iff,zk,Zg,Zw,decide_eq_false_iff_not,beq_iff_eq,beq_eq_false_iff_ne] at h ⊢;obtain⟨h1,h2⟩:=h;by_cases e:x=y
  ·subst e;rcases h2 with h2|h2
   ·exact absurd rfl h2
   ·exact .inr ⟨rfl,Gr a b h2 fun e=>hne (by rw[e])⟩
  ·left;rw[UInt8.lt_iff_toNat_lt] at*;have:x.toNat≠y.toNat:=fun h=>e (UInt8.toNat_inj.1 h);omega
theorem Gs{p q:Prc}(h1:¬ordP p q<0)(h2:ordP p q≠0):ordP q p<0:=by
 rw[kL] at h1 ⊢;rw[Ne,ordP_zero] at h2;by_cases e:p.name=q.name
 ·right;refine⟨e.symm,?_⟩;have a:¬p.ar<q.ar:=fun h=>h1 (.inr ⟨e,h⟩);have b:p.ar≠q.ar:=fun h=>h2 ⟨e,h⟩;omega
 ·left;refine Gr _ _ ?_ e;cases h:Op.bytesLess p.name q.name with
  |false=>rfl
  |true=>exact absurd (.inl h) h1
theorem Qq{l:List Prc}(h:l.Pairwise (fun a b=>ordP a b<0)):IncP l:=fun i j a b hij ha hb=>by
 obtain⟨h1,e1⟩:=Zb.1 ha;obtain⟨h2,e2⟩:=Zb.1 hb;rw[<-e1,<-e2];exact List.pairwise_iff_getElem.1 h i j h1 h2 hij
theorem kX{l:List Prc}(k:Prc)(h:l.Pairwise (fun a b=>ordP a b<0)):(∀a∈l.take (lbD l k),ordP a k<0)/\∀b∈l.drop (lbD l k),¬ordP b k<0:=by
 have hi:=Qq h;constructor
 ·intro a ha;obtain⟨j,hj⟩:=ZS.1 ha;rw[ZG] at hj;split at hj
  ·rename_i hlt;exact(xl hi hj).2 hlt
  ·cases hj
 ·intro b hb;obtain⟨j,hj⟩:=ZS.1 hb;rw[ZI] at hj;intro hlt;have:=(xl hi hj).1 hlt;omega
theorem q8{l:List Prc}(k:Prc)(h:l.Pairwise (fun a b=>ordP a b<0)):fnD l k=true↔∃p∈l,ordP p k=0:=by
 have hi:=Qq h;constructor
 ·intro hf;obtain⟨p,hp⟩:=XN hf;refine⟨p,Zi hp,?_⟩;unfold fnD at hf;rw[hp] at hf;exact zi hf
 ·rintro⟨p,hp,e⟩;obtain⟨j,hj⟩:=ZS.1 hp;have h1:¬j<lbD l k:=fun hlt=>by
   have:=(xl hi hj).2 hlt;omega
  have h2:¬lbD l k<j:=fun hlt=>by
   have hl:lbD l k<l.length:=by
    have:=(Zb.1 hj).1;omega
   have hx:=hi _ j _ p hlt (Zf hl) hj;have hz:=ordP_zero.1 e;have hx':ordP l[lbD l k] k<0:=by
    rw[<-Q9 rfl rfl hz.1 hz.2];exact hx
   have:=(xl hi (Zf hl)).1 hx';omega
  have e3:j=lbD l k:=by omega
  subst e3;unfold fnD;rw[hj];exact Zs e
theorem Mn{l:List Prc}{k p:Prc}(h:l.Pairwise (fun a b=>ordP a b<0))(hp:p∈l)(e:ordP p k=0):l[lbD l k]? =some p:=by
 have hi:=Qq h;have hf:=(q8 k h).2 ⟨p,hp,e⟩;obtain⟨q,hq⟩:=XN hf;have e2:ordP q k=0:=by
  unfold fnD at hf;rw[hq] at hf;exact zi hf
 obtain⟨j,hj⟩:=ZS.1 hp;have z1:=ordP_zero.1 e;have z2:=ordP_zero.1 e2;have e0:ordP p q=0:=ordP_zero.2 ⟨z1.1.trans z2.1.symm,z1.2.trans z2.2.symm⟩;have e1:ordP q p=0:=ordP_zero.2 ⟨z2.1.trans z1.1.symm,z2.2.trans z1.2.symm⟩;rcases zK j (lbD l k) with hlt|hlt|hlt
 ·have:=hi _ _ _ _ hlt hj hq;omega
 ·rw[<-hlt,hj]
 ·have:=hi _ _ _ _ hlt hq hj;omega
theorem Xo{d:Dbs}(hv:okD d=true)(s:List UInt8)(a:Int)(p:Prc):Ym d s a=some p↔p∈d.procs/\p.name=s/\p.ar=a:=by
 have hpw:=((YG d).1 hv).2.2.2.2.2.1;unfold Ym;rw[Zc hv];constructor
 ·intro h;split at h
  ·rename_i hf;refine⟨Zi h,?_⟩;unfold fnD at hf;rw[h] at hf;exact ordP_zero.1 (zi hf)
  ·cases h
 ·rintro⟨h1,h2,h3⟩;have e:ordP p (keyP s a)=0:=ordP_zero.2 ⟨h2,h3⟩;rw[Zc ((q8 _ hpw).2 ⟨p,h1,e⟩)];exact Mn hpw h1 e
theorem Mo{d:Dbs}(hv:okD d=true)(s:List UInt8)(a:Int):Ym d s a=none↔∀p∈d.procs,¬(p.name=s/\p.ar=a):=by
 constructor
 ·intro h p hp hk;rw[(Xo hv s a p).2 ⟨hp,hk⟩] at h;cases h
 ·intro h;cases e:Ym d s a with
  |none=>rfl
  |some p=>
   have:=(Xo hv s a p).1 e;exact absurd this.2 (h p this.1)
theorem Qr{d:Dbs}(hv:okD d=true):BndD d:=by
 have h:=(YG d).1 hv;refine⟨by omega,by omega,fun p hp s hs=> ?_⟩;obtain⟨vh,vb⟩:=yX hv p hp s hs;have h1:=Xb vh;have h2:=Xb vb;omega
theorem XO{α:Type}{l:List α}{i:Nat}{x:α}(h:l[i]? =some x):l=l.take i++x::l.drop (i+1):=by
 rw[<-js h,Z6]
theorem jx{α:Type}{l:List α}{i:Nat}{x:α}(h:l[i]? =some x)(y:α):l.set i y=l.take i++y::l.drop (i+1):=by
 have hi:=(Zb.1 h).1;rw[List.set_eq_take_append_cons_drop,Zc hi]
theorem xO(A B:List Prc):totD (A++B)=totD A+totD B:=by simp[totD]
theorem qa(p:Prc)(B:List Prc):totD (p::B)=p.cls.length+totD B:=by simp[totD]
theorem Gt{l:List Prc}{i:Nat}{p:Prc}(h:l[i]? =some p)(q:Prc):totD (l.set i q)+p.cls.length=totD l+q.cls.length:=by
 have e:totD l=totD (l.take i++p::l.drop (i+1)):=by rw[<-XO h]
 rw[jx h,e,xO,xO,qa,qa];omega
theorem q9{l:List Prc}{i:Nat}{p:Prc}(h:l[i]? =some p)(q x:Prc):x∈l.set i q↔x=q\/x∈l.take i++l.drop (i+1):=by
 rw[jx h];simp only[ZF,Zu];constructor
 ·rintro(h|h|h)
  ·exact .inr (.inl h)
  ·exact .inl h
  ·exact .inr (.inr h)
 ·rintro(h|h|h)
  ·exact .inr (.inl h)
  ·exact .inl h
  ·exact .inr (.inr h)
theorem jy{l:List Prc}{i:Nat}{p:Prc}(h:l[i]? =some p)(x:Prc):x∈l↔x=p\/x∈l.take i++l.drop (i+1):=by
 have e:=q9 h p x;rw[u9 h] at e;exact e
theorem Mp{l m:List Prc}(h:∀x∈l,x∈m){y:Int}(hy:y∈ids l):y∈ids m:=by
 obtain⟨p,hp,s,hs,e⟩:=mem_ids.1 hy;exact mem_ids.2 ⟨p,h p hp,s,hs,e⟩
theorem kY{n:Int}{p q:Prc}{s:Sto}(h:okS n p s)(h1:p.name=q.name)(h2:p.ar=q.ar):okS n q s:=by
 obtain⟨a,b,c,d,e⟩:=h;exact⟨a,b,c,by rw[d,h1],by rw[e,h2]⟩
theorem Gu{n n':Int}{l:List Prc}{i:Nat}{p q:Prc}(h:OkP n l)(hp:l[i]? =some p)(hn:q.name=p.name)(ha:q.ar=p.ar)(hle:n<=n')(hnd:(q.cls.map (·.id)).Nodup)(hfr:∀s∈q.cls,s∈p.cls\/s.id ∉ ids l)(hok:∀s∈q.cls,okS n' q s):OkP n' (l.set i q):=by
 rw[jx hp];rw[XO hp] at h;obtain⟨g1,g2,g3,g4,g5,g6,g7⟩:=(xo ..).1 h;refine(xo ..).2 ⟨g1.mono hle,?_,fun a ha'=> ?_,fun b hb=> ?_,hnd,fun s hs=> ?_,hok⟩
 ·unfold namB at g2 ⊢;rw[hn,ha];exact g2
 ·rw[Q9 rfl rfl hn ha];exact g3 a ha'
 ·rw[Q9 hn ha rfl rfl];exact g4 b hb
 ·rcases hfr s hs with hc|hc
  ·exact g6 s hc
  ·exact fun hm=>hc (Mp (fun x hx=>(jy hp x).2 (.inr hx)) hm)
theorem Gv{n n':Int}{l:List Prc}{q:Prc}(h:OkP n l)(hf:fnD l (keyP q.name q.ar)=false)(hnm:namB q=true)(hle:n<=n')(hnd:(q.cls.map (·.id)).Nodup)(hfr:∀s∈q.cls,s.id ∉ ids l)(hok:∀s∈q.cls,okS n' q s):OkP n' (l.take (lbD l (keyP q.name q.ar))++q::l.drop (lbD l (keyP q.name q.ar))):=by
 obtain⟨c1,c2⟩:=kX (keyP q.name q.ar) h.2.1;have ht:l.take (lbD l (keyP q.name q.ar))++l.drop (lbD l (keyP q.name q.ar))=l:=Z6 _ _;refine(xo ..).2 ⟨by rw[ht];exact h.mono hle,hnm,fun a ha=> ?_,fun b hb=> ?_,hnd,fun s hs=>by rw[ht];exact hfr s hs,hok⟩
 ·rw[Q9 (q:=q) (q':=keyP q.name q.ar) rfl rfl rfl rfl];exact c1 a ha
 ·rw[Q9 (p:=q) (p':=keyP q.name q.ar) rfl rfl rfl rfl];refine Gs (c2 b hb) fun e=> ?_;rw[(q8 _ h.2.1).2 ⟨b,zO hb,e⟩] at hf;cases hf
def ApR(d n:Dbs)(s:List UInt8)(a:Int):Prop:=∀p∈d.procs,¬(p.name=s/\p.ar=a)->Ym n p.name p.ar=some p
theorem qb{d n:Dbs}{s:List UInt8}{a:Int}(hn:okD n=true)(h:∀p∈d.procs,¬(p.name=s/\p.ar=a)->p∈n.procs):ApR d n s a:=fun p hp hk=>(Xo hn _ _ _).2 ⟨h p hp hk,rfl,rfl⟩
theorem kZ{d:Dbs}(hv:okD d=true){s:List UInt8}{a:Int}(hf:fnD d.procs (keyP s a)=true):∃p,d.procs[lbD d.procs (keyP s a)]? =some p/\p.name=s/\p.ar=a/\Ym d s a=some p:=by
 obtain⟨p,hpp⟩:=XN hf;have e:Ym d s a=some p:=by
  unfold Ym;rw[Zc hv,Zc hf,hpp]
 exact⟨p,hpp,((Xo hv ..).1 e).2.1,((Xo hv ..).1 e).2.2,e⟩
theorem Gw{d:Dbs}{s:List UInt8}{a:Int}(hf:fnD d.procs (keyP s a)=false):Ym d s a=none:=by
 unfold Ym;rw[hf];simp
theorem Mq{d:Dbs}{s:List UInt8}{a:Int}{b:Bool}(h:(YF d s a b).2=0):okD d=true/\okD (YF d s a b).1=true/\(YF d s a b).1.next=d.next/\Ym (YF d s a b).1 s a=some ⟨s,a,((Ym d s a).getD zP).dyn || b,((Ym d s a).getD zP).cls⟩/\ApR d (YF d s a b).1 s a:=by
 by_cases hbad:okD d=false\/namB (keyP s a)=false
 ·simp only[YF,Zc hbad] at h;cases h
 have hv:okD d=true:=by cases e:okD d with|true=>rfl|false=>exact absurd (Or.inl e) hbad
 have hnm:namB (keyP s a)=true:=by cases e:namB (keyP s a) with|true=>rfl|false=>exact absurd (Or.inr e) hbad
 obtain⟨d1,d2,d3,d4,d5⟩:=(YG d).1 hv;cases hf:fnD d.procs (keyP s a) with
 |true=>
  obtain⟨p,hpp,rfl,rfl,hfd⟩:=kZ hv hf;have e:YF d p.name p.ar b=(⟨d.next,d.procs.set (lbD d.procs (keyP p.name p.ar)) (dynP p b)⟩,0):=by simp only[YF,Za hbad,hf,hpp]
  rw[e,hfd];have hok:okD ⟨d.next,d.procs.set (lbD d.procs (keyP p.name p.ar)) (dynP p b)⟩=true:=by
   have ht:=Gt hpp (dynP p b);have hq:(dynP p b).cls=p.cls:=rfl;rw[hq] at ht;have hpm:=Zi hpp;have d5':=d5;rw[XO hpp] at d5';refine(YG _).2 ⟨d1,d2,by simpa using d3,by show totD (d.procs.set _ _)<=500;omega,Gu d5 hpp rfl rfl (Int.le_refl _) ((xo ..).1 d5').2.2.2.2.1 (fun s hs=>.inl hs) fun s hs=>kY (d5.2.2.2 p hpm s hs) rfl rfl⟩
  refine⟨hv,hok,rfl,(Xo hok ..).2 ⟨(q9 hpp _ _).2 (.inl rfl),rfl,rfl⟩,qb hok fun q hq hk=> ?_⟩;refine(q9 hpp _ _).2 (.inr ?_);rcases(jy hpp q).1 hq with rfl|hq
  ·exact absurd ⟨rfl,rfl⟩ hk
  ·exact hq
 |false=>
  by_cases hl:d.procs.length=500
  ·simp only[YF,Za hbad,hf,Zc hl] at h;cases h
  have e:YF d s a b=(⟨d.next,d.procs.take (lbD d.procs (keyP s a))++(⟨s,a,b,[]⟩:Prc)::d.procs.drop (lbD d.procs (keyP s a))⟩,0):=by simp only[YF,Za hbad,hf,Za hl]
  rw[e,Gw hf];have hok:okD ⟨d.next,d.procs.take (lbD d.procs (keyP s a))++(⟨s,a,b,[]⟩:Prc)::d.procs.drop (lbD d.procs (keyP s a))⟩=true:=by
   have hlb:=xL d.procs (keyP s a);refine(YG _).2 ⟨d1,d2,?_,?_,Gv (q:=⟨s,a,b,[]⟩) d5 hf hnm (Int.le_refl _) List.nodup_nil (fun s hs=>by cases hs) fun s hs=>by cases hs⟩
   ·simp;omega
   ·have ht:totD d.procs=totD (d.procs.take (lbD d.procs (keyP s a))++d.procs.drop (lbD d.procs (keyP s a))):=by rw[Z6]
    rw[xO] at ht;show totD (_++_::_)<=500;rw[xO,qa];simp;omega
  refine⟨hv,hok,rfl,(Xo hok ..).2 ⟨zB _ ZV,rfl,rfl⟩,qb hok fun q hq hk=> ?_⟩;show q∈_++_::_;rw[<-Z6 (lbD d.procs (keyP s a)) d.procs] at hq;rcases ZF.1 hq with hq|hq
  ·exact zJ _ hq
  ·exact zB _ (ZQ _ hq)
theorem Mr{d:Dbs}{s:List UInt8}{a:Int}(h:(aboR d s a).2=true):∃p,Ym d s a=some p/\okD d=true/\okD (aboR d s a).1=true/\Ym (aboR d s a).1 s a=none/\totD (aboR d s a).1.procs+p.cls.length=totD d.procs/\(aboR d s a).1.next=d.next/\ApR d (aboR d s a).1 s a:=by
 by_cases hbad:okD d=false\/fnD d.procs (keyP s a)=false
 ·simp only[aboR,Zc hbad] at h;cases h
 have hv:okD d=true:=by cases e:okD d with|true=>rfl|false=>exact absurd (Or.inl e) hbad
 have hf:fnD d.procs (keyP s a)=true:=by cases e:fnD d.procs (keyP s a) with|true=>rfl|false=>exact absurd (Or.inr e) hbad
 obtain⟨d1,d2,d3,d4,d5⟩:=(YG d).1 hv;obtain⟨p,hpp,rfl,rfl,hfd⟩:=kZ hv hf;have e:aboR d p.name p.ar=(⟨d.next,d.procs.take (lbD d.procs (keyP p.name p.ar))++d.procs.drop (lbD d.procs (keyP p.name p.ar)+1)⟩,true):=by simp only[aboR,Za hbad]
 rw[e];have d5':=d5;rw[XO hpp] at d5';obtain⟨g1,g2,g3,g4,g5,g6,g7⟩:=(xo ..).1 d5';have ht:totD d.procs=totD (d.procs.take (lbD d.procs (keyP p.name p.ar))++p::d.procs.drop (lbD d.procs (keyP p.name p.ar)+1)):=by rw[<-XO hpp]
 rw[xO,qa] at ht;have ht2:totD (d.procs.take (lbD d.procs (keyP p.name p.ar))++d.procs.drop (lbD d.procs (keyP p.name p.ar)+1))+p.cls.length=totD d.procs:=by rw[xO];omega
 have hok:okD ⟨d.next,d.procs.take (lbD d.procs (keyP p.name p.ar))++d.procs.drop (lbD d.procs (keyP p.name p.ar)+1)⟩=true:=by
  refine(YG _).2 ⟨d1,d2,?_,?_,g1⟩
  ·simp;omega
  ·show totD (_++_)<=500;omega
 refine⟨p,hfd,hv,hok,(Mo hok ..).2 fun q hq hk=> ?_,ht2,rfl,qb hok fun q hq hk=> ?_⟩
 ·rcases ZF.1 hq with hq|hq
  ·have:=g3 q hq;rw[ordP_zero.2 hk] at this;omega
  ·have:=g4 q hq;rw[ordP_zero.2 ⟨hk.1.symm,hk.2.symm⟩] at this;omega
 ·rcases(jy hpp q).1 hq with rfl|hq
  ·exact absurd ⟨rfl,rfl⟩ hk
  ·exact hq
theorem jz(l:List Prc):totD l=(ids l).length:=by
 induction l with
 |nil=>rfl
 |cons p r ih=>rw[qa,X1,Zj,zx,ih]
theorem Ms{c:Cz}(h:okC c=true):namB (keyP c.head.name c.head.args.length)=true:=by
 have hv:=(Q6 h).1;simp only[okC,Zg,zk,Zw] at h;have hk:=h.2.1;simp only[Tm.valid,Zg] at hv;have hf:=hv.2;rw[Tm.zxf,Zg] at hf;have hn:=hf.1;unfold Tm.node at hn;unfold namB keyP;rcases hk with hk|hk
 ·rw[hk] at hn;simp at hn;simp[hn.2];omega
 ·rw[hk] at hn;simp at hn;simp;omega
theorem insC_mem{fr:Bool}{s x:Sto}{l:List Sto}:x∈insC fr s l↔x=s\/x∈l:=by
 unfold insC;split
 ·simp
 ·simp[or_comm]
theorem Mt(fr:Bool)(s:Sto)(l:List Sto):((insC fr s l).map (·.id)).Perm (s.id::l.map (·.id)):=by
 unfold insC;split
 ·exact List.Perm.refl _
 ·rw[zL];exact List.perm_append_comm
theorem Gx{d:Dbs}{c:Cz}{fr dy:Bool}(h:(addR d c fr dy).2=0):okD d=true/\okC c=true/\okD (addR d c fr dy).1=true/\(addR d c fr dy).1.next=d.next+1/\totD (addR d c fr dy).1.procs=totD d.procs+1/\(∃dyn,Ym (addR d c fr dy).1 c.head.name c.head.args.length=some ⟨c.head.name,c.head.args.length,dyn,insC fr ⟨d.next,c⟩ ((Ym d c.head.name c.head.args.length).getD zP).cls⟩)/\ApR d (addR d c fr dy).1 c.head.name c.head.args.length:=by
 by_cases hbad:okD d=false\/okC c=false
 ·simp only[addR,Zc hbad] at h;cases h
 have hv:okD d=true:=by cases e:okD d with|true=>rfl|false=>exact absurd (Or.inl e) hbad
 have hc:okC c=true:=by cases e:okC c with|true=>rfl|false=>exact absurd (Or.inr e) hbad
 by_cases hfull:totD d.procs=500\/d.next=4294967296
 ·simp only[addR,Za hbad,Zc hfull] at h;cases h
 obtain⟨d1,d2,d3,d4,d5⟩:=(YG d).1 hv;have n1:totD d.procs≠500:=fun e=>hfull (.inl e);have n2:d.next≠4294967296:=fun e=>hfull (.inr e)
 have hfresh:d.next ∉ ids d.procs:=fun hm=>by
  obtain⟨p,hp,s,hs,e⟩:=mem_ids.1 hm;have:=d5.2.2.2 p hp s hs;have:=this.2.1;omega
 obtain⟨s,hs⟩:∃s,s=c.head.name:=⟨_,rfl⟩;obtain⟨a,ha⟩:∃a:Int,a=c.head.args.length:=⟨_,rfl⟩;have hoks:∀q:Prc,q.name=s->q.ar=a->okS (d.next+1) q ⟨d.next,c⟩:=fun q h1 h2=>⟨d1,by show d.next<d.next+1;omega,hc,by rw[h1,hs],by rw[h2,ha]⟩;cases hf:fnD d.procs (keyP c.head.name c.head.args.length) with
 |true=>
  obtain⟨p,hpp,hpn,hpa,hfd⟩:=kZ hv hf;have e:addR d c fr dy=(⟨d.next+1,d.procs.set (lbD d.procs (keyP c.head.name c.head.args.length)) ⟨p.name,p.ar,p.dyn,insC fr ⟨d.next,c⟩ p.cls⟩⟩,0):=by simp only[addR,Za hbad,Za hfull,hf,hpp]
  rw[e,hfd];have hpm:=Zi hpp;have ht:=Gt hpp ⟨p.name,p.ar,p.dyn,insC fr ⟨d.next,c⟩ p.cls⟩;have hil:=kT fr ⟨d.next,c⟩ p.cls;have ht':totD (d.procs.set (lbD d.procs (keyP c.head.name c.head.args.length)) ⟨p.name,p.ar,p.dyn,insC fr ⟨d.next,c⟩ p.cls⟩)=totD d.procs+1:=by
   show _=_;have:(Prc.mk p.name p.ar p.dyn (insC fr ⟨d.next,c⟩ p.cls)).cls.length=p.cls.length+1:=hil;omega
  have hnd:(p.cls.map (·.id)).Nodup:=by
   have d5':=d5;rw[XO hpp] at d5';exact((xo ..).1 d5').2.2.2.2.1
  have hok:okD ⟨d.next+1,d.procs.set (lbD d.procs (keyP c.head.name c.head.args.length)) ⟨p.name,p.ar,p.dyn,insC fr ⟨d.next,c⟩ p.cls⟩⟩=true:=by
   refine(YG _).2 ⟨by show 1<=d.next+1;omega,by show d.next+1<=4294967296;omega,by simpa using d3,by rw[show(Dbs.mk (d.next+1) _).procs=_ from rfl,ht'];omega,Gu d5 hpp rfl rfl (by show d.next<=d.next+1;omega) ?_ (fun x hx=> ?_) fun x hx=> ?_⟩
   ·rw[(Mt _ _ _).nodup_iff,zM];refine⟨fun hm=> ?_,hnd⟩;obtain⟨u,hu,e2⟩:=ZM.1 hm;exact hfresh (mem_ids.2 ⟨p,hpm,u,hu,e2⟩)
   ·rcases insC_mem.1 hx with rfl|hx
    ·exact .inr hfresh
    ·exact .inl hx
   ·rcases insC_mem.1 hx with rfl|hx
    ·exact hoks _ (by rw[hs];exact hpn) (by rw[ha];exact hpa)
    ·have:=kY (q:=⟨p.name,p.ar,p.dyn,insC fr ⟨d.next,c⟩ p.cls⟩) (d5.2.2.2 p hpm x hx) rfl rfl;exact⟨this.1,by have:=this.2.1;show x.id<d.next+1;omega,this.2.2⟩
  refine⟨hv,hc,hok,rfl,ht',⟨p.dyn,(Xo hok ..).2 ⟨(q9 hpp _ _).2 (.inl ?_),rfl,rfl⟩⟩,qb hok fun q hq hk=>(q9 hpp _ _).2 (.inr ?_)⟩
  ·rw[hpn,hpa];rfl
  ·rcases(jy hpp q).1 hq with rfl|hq
   ·exact absurd ⟨hpn,hpa⟩ hk
   ·exact hq
 |false=>
  by_cases hl:d.procs.length=500
  ·simp only[addR,Za hbad,Za hfull,hf,Zc hl] at h;cases h
  have e:addR d c fr dy=(⟨d.next+1,d.procs.take (lbD d.procs (keyP c.head.name c.head.args.length))++(⟨c.head.name,c.head.args.length,dy,[⟨d.next,c⟩]⟩:Prc)::d.procs.drop (lbD d.procs (keyP c.head.name c.head.args.length))⟩,0):=by simp only[addR,Za hbad,Za hfull,hf,Za hl]
  rw[e,Gw hf];have ht:totD d.procs=totD (d.procs.take (lbD d.procs (keyP c.head.name c.head.args.length))++d.procs.drop (lbD d.procs (keyP c.head.name c.head.args.length))):=by rw[Z6]
  rw[xO] at ht;have ht':totD (d.procs.take (lbD d.procs (keyP c.head.name c.head.args.length))++(⟨c.head.name,c.head.args.length,dy,[⟨d.next,c⟩]⟩:Prc)::d.procs.drop (lbD d.procs (keyP c.head.name c.head.args.length)))=totD d.procs+1:=by
   rw[xO,qa,ht];show _+(1+_)=_;omega
  have hok:okD ⟨d.next+1,d.procs.take (lbD d.procs (keyP c.head.name c.head.args.length))++(⟨c.head.name,c.head.args.length,dy,[⟨d.next,c⟩]⟩:Prc)::d.procs.drop (lbD d.procs (keyP c.head.name c.head.args.length))⟩=true:=by
   have hlb:=xL d.procs (keyP c.head.name c.head.args.length);refine(YG _).2 ⟨by show 1<=d.next+1;omega,by show d.next+1<=4294967296;omega,?_,by rw[show(Dbs.mk (d.next+1) _).procs=_ from rfl,ht'];omega,Gv (q:=⟨c.head.name,c.head.args.length,dy,[⟨d.next,c⟩]⟩) d5 hf (Ms hc) (by show d.next<=d.next+1;omega) (zM.2 ⟨by simp,List.nodup_nil⟩) (fun x hx=> ?_) fun x hx=> ?_⟩
   ·simp;omega
   ·rcases List.mem_singleton.1 hx with rfl
    exact hfresh
   ·rcases List.mem_singleton.1 hx with rfl
    exact hoks _ hs.symm ha.symm
  refine⟨hv,hc,hok,rfl,ht',⟨dy,(Xo hok ..).2 ⟨zB _ (Zu.2 (.inl ?_)),rfl,rfl⟩⟩,qb hok fun q hq hk=> ?_⟩
  ·unfold insC;split <;> rfl
  ·show q∈_++_::_;rw[<-Z6 (lbD d.procs (keyP c.head.name c.head.args.length)) d.procs] at hq;rcases ZF.1 hq with hq|hq
   ·exact zJ _ hq
   ·exact zB _ (ZQ _ hq)
def rmP(id:Int)(p:Prc):Prc:=⟨p.name,p.ar,p.dyn,p.cls.filter fun s=>decide (s.id≠id)⟩
theorem Gy{id:Int}{p:Prc}(h:∀s∈p.cls,s.id≠id):rmP id p=p:=by
 unfold rmP;rw[List.filter_eq_self.2 fun s hs=>Zs (h s hs)]
theorem Gz{id:Int}{l:List Prc}(h:id ∉ ids l):l.map (rmP id)=l:=by
 have e:∀p∈l,rmP id p=p:=fun p hp=>Gy fun s hs e=>h (mem_ids.2 ⟨p,hp,s,hs,e⟩);rw[List.map_congr_left (g:=fun p=>p) e];simp
theorem k9(id:Int)(l:List Prc):ids (l.map (rmP id))=(ids l).filter fun x=>decide (x≠id):=by
 induction l with
 |nil=>rfl
 |cons p r ih=>
  rw[Z3,X1,X1,ih,List.filter_append]
  congr 1
  show((p.cls.filter _).map _)=_;rw[List.filter_map];rfl
theorem Va(l:List Prc)(id:Int):whR l id=none↔id ∉ ids l:=by
 constructor
 ·intro h hm;obtain⟨p,hp,s,hs,e⟩:=mem_ids.1 hm
  induction l with
  |nil=>cases hp
  |cons x r ih=>
   rw[whR] at h;split at h
   ·cases h
   ·rename_i hk;split at h
    ·cases h
    ·rename_i hr;rcases Zu.1 hp with rfl|hp
     ·unfold idS at hk;rw[List.findIdx?_eq_none_iff] at hk;have:=hk s hs;rw[Zs e] at this;cases this
     ·exact ih hr (mem_ids.2 ⟨p,hp,s,hs,e⟩) hp
 ·intro h;exact qX fun j q hq=>jv fun k u hu e=>h (mem_ids.2 ⟨q,Zi hq,u,Zi hu,e⟩)
theorem Mu{l:List Sto}{k:Nat}{s:Sto}(h:l[k]? =some s)(hn:(l.map (·.id)).Nodup):l.take k++l.drop (k+1)=l.filter fun x=>decide (x.id≠s.id):=by
 have e:=XO h;obtain⟨A,hA⟩:∃A,A=l.take k:=⟨_,rfl⟩;obtain⟨B,hB⟩:∃B,B=l.drop (k+1):=⟨_,rfl⟩;rw[<-hA,<-hB] at e ⊢;rw[e,zL,Z3,zC,zM] at hn;obtain⟨n1,⟨n2,n3⟩,n4⟩:=hn;rw[e,List.filter_append,List.filter_cons_of_neg (by simp),List.filter_eq_self.2,List.filter_eq_self.2]
 ·intro x hx;refine Zs fun e2=>n2 (ZM.2 ⟨x,hx,e2⟩)
 ·intro x hx;exact Zs fun e2=>n4 x.id (ZM.2 ⟨x,hx,rfl⟩) s.id ZV e2
theorem GA{d:Dbs}{id:Int}(hv:okD d=true)(h:id∈ids d.procs):eraR d id=(⟨d.next,d.procs.map (rmP id)⟩,true):=by
 cases hw:whR d.procs id with
 |none=>exact absurd h ((Va ..).1 hw)
 |some x=>
  obtain⟨i,k⟩:=x;obtain⟨p,s,hpp,hs,hsi⟩:=qY hw;have d5:=((YG d).1 hv).2.2.2.2;have d5':=d5;rw[XO hpp] at d5';obtain⟨g1,g2,g3,g4,g5,g6,g7⟩:=(xo ..).1 d5';have hsm:=Zi hs;have hout:=g6 s hsm;rw[hsi,Q8,ZF,not_or] at hout;have e1:cutC p k=rmP id p:=by
   unfold cutC rmP;rw[Mu hs g5,hsi]
  have e2:d.procs.modify i (fun p=>cutC p k)=d.procs.map (rmP id):=by
   rw[kV hpp,jx hpp,e1];have e3:d.procs.map (rmP id)=(d.procs.take i++p::d.procs.drop (i+1)).map (rmP id):=by rw[<-XO hpp]
   rw[e3,zL,Z3,Gz hout.1,Gz hout.2]
  simp only[eraR,hv,hw,e2];rfl
theorem eraR_iff{d:Dbs}{id:Int}:(eraR d id).2=true↔okD d=true/\id∈ids d.procs:=by
 constructor
 ·intro h;by_cases hv:okD d=true
  ·refine⟨hv,Classical.byContradiction fun hm=> ?_⟩;have hw:=(Va d.procs id).2 hm;simp only[eraR,hv,hw] at h;cases h
  ·have hv':okD d=false:=by simpa using hv
   simp only[eraR,Zc hv'] at h;cases h
 ·rintro⟨hv,hm⟩;rw[GA hv hm]
theorem GB{x:Int}:∀{l:List Int},l.Nodup->x∈l->(l.filter fun y=>decide (y≠x)).length+1=l.length
 |[],_,h=>by cases h
 |y::r,hn,h=>by
  obtain⟨n1,n2⟩:=zM.1 hn;by_cases e:y=x
  ·subst e;rw[List.filter_cons_of_neg (by simp),List.filter_eq_self.2]
   ·rfl
   ·exact fun z hz=>Zs fun e=>n1 (e▸hz)
  ·rw[List.filter_cons_of_pos (by simpa using e)];rcases Zu.1 h with h|h
   ·exact absurd h.symm e
   ·have:=GB n2 h;simp only[ZO];omega
theorem Mv{n:Int}{l:List Prc}(id:Int)(h:OkP n l):OkP n (l.map (rmP id)):=by
 refine⟨fun p hp=> ?_,?_,?_,fun p hp s hs=> ?_⟩
 ·obtain⟨q,hq,rfl⟩:=ZM.1 hp;exact h.1 q hq
 ·rw[List.pairwise_map];exact h.2.1
 ·rw[k9];exact h.2.2.1.filter _
 ·obtain⟨q,hq,rfl⟩:=ZM.1 hp;exact kY (h.2.2.2 q hq s (List.mem_filter.1 hs).1) rfl rfl
theorem GC{d:Dbs}{id:Int}(h:(eraR d id).2=true):okD d=true/\id∈ids d.procs/\(eraR d id).1=⟨d.next,d.procs.map (rmP id)⟩/\okD (eraR d id).1=true/\totD (eraR d id).1.procs+1=totD d.procs/\id ∉ ids (eraR d id).1.procs:=by
 obtain⟨hv,hm⟩:=eraR_iff.1 h;obtain⟨d1,d2,d3,d4,d5⟩:=(YG d).1 hv;have e:=GA hv hm;rw[e];have ht:totD (d.procs.map (rmP id))+1=totD d.procs:=by
  rw[jz,jz,k9];exact GB d5.2.2.1 hm
 refine⟨hv,hm,rfl,(YG _).2 ⟨d1,d2,by simpa using d3,by show totD (d.procs.map (rmP id))<=500;omega,Mv id d5⟩,ht,?_⟩;show id ∉ ids (d.procs.map (rmP id));rw[k9];intro hm2;have:=(List.mem_filter.1 hm2).2;simp at this
theorem GD{α:Type}{f:α->Int}:∀{l:List α},(l.map f).Nodup->∀{a b:α},a∈l->b∈l->f a=f b->a=b
 |[],_,_,_,h,_,_=>by cases h
 |x::r,hn,a,b,ha,hb,e=>by
  rw[Z3,zM] at hn;rcases Zu.1 ha with ha'|ha'
  ·rcases Zu.1 hb with hb'|hb'
   ·rw[ha',hb']
   ·exact absurd (ZM.2 ⟨b,hb',by rw[<-e,ha']⟩) hn.1
  ·rcases Zu.1 hb with hb'|hb'
   ·exact absurd (ZM.2 ⟨a,ha',by rw[e,hb']⟩) hn.1
   ·exact GD hn.2 ha' hb' e
theorem Mw{d:Dbs}(hv:okD d=true){p:Prc}{s:Sto}(hp:p∈d.procs)(hs:s∈p.cls):getR d s.id=some s:=by
 have hm:s.id∈ids d.procs:=mem_ids.2 ⟨p,hp,s,hs,rfl⟩;cases hw:whR d.procs s.id with
 |none=>exact absurd hm ((Va ..).1 hw)
 |some x=>
  obtain⟨i,k⟩:=x;obtain⟨q,u,hqq,hu,e⟩:=qY hw;have d5:=((YG d).1 hv).2.2.2.2;have hn:((d.procs.flatMap (·.cls)).map (·.id)).Nodup:=by
   rw[List.map_flatMap];exact d5.2.2.1
  have hus:u=s:=GD hn (List.mem_flatMap.2 ⟨q,Zi hqq,Zi hu⟩) (List.mem_flatMap.2 ⟨p,hp,hs⟩) e;unfold getR;rw[Zc hv,hw];simp[hqq,hu,hus]
theorem Mx{d:Dbs}{c:Cz}{fr dy:Bool}(h:(addR d c fr dy).2=0):getR (addR d c fr dy).1 d.next=some ⟨d.next,c⟩/\(eraR (addR d c fr dy).1 d.next).2=true/\(eraR (addR d c fr dy).1 d.next).1.next=d.next+1/\(∃dyn,Ym (eraR (addR d c fr dy).1 d.next).1 c.head.name c.head.args.length=some ⟨c.head.name,c.head.args.length,dyn,((Ym d c.head.name c.head.args.length).getD zP).cls⟩)/\ApR d (eraR (addR d c fr dy).1 d.next).1 c.head.name c.head.args.length:=by
 obtain⟨hv,hc,hok,hnx,_,⟨dyn,hf⟩,hap⟩:=Gx h;obtain⟨n,hn⟩:∃n,n=(addR d c fr dy).1:=⟨_,rfl⟩;rw[<-hn] at hok hnx hf hap ⊢;obtain⟨hm,_,_⟩:=(Xo hok ..).1 hf;have hsm:(⟨d.next,c⟩:Sto)∈insC fr ⟨d.next,c⟩ ((Ym d c.head.name c.head.args.length).getD zP).cls:=insC_mem.2 (.inl rfl);have hid:d.next∈ids n.procs:=mem_ids.2 ⟨_,hm,_,hsm,rfl⟩
 have hera:(eraR n d.next).2=true:=eraR_iff.2 ⟨hok,hid⟩;obtain⟨_,_,e,hok2,_,_⟩:=GC hera;have hold:∀p∈d.procs,∀s∈p.cls,s.id≠d.next:=fun p hp s hs=>by
  have:=((YG d).1 hv).2.2.2.2.2.2.2 p hp s hs;have:=this.2.1;omega
 have hwas:∀s∈((Ym d c.head.name c.head.args.length).getD zP).cls,s.id≠d.next:=fun s hs=>by
  cases e2:Ym d c.head.name c.head.args.length with
  |none=>
   rw[e2] at hs;cases hs
  |some p=>
   rw[e2] at hs;exact hold p ((Xo hv ..).1 e2).1 s hs
 refine⟨Mw hok hm hsm,hera,by rw[e];exact hnx,⟨dyn,(Xo hok2 ..).2 ⟨?_,rfl,rfl⟩⟩,qb hok2 fun q hq hk=> ?_⟩
 ·rw[e];refine ZM.2 ⟨_,hm,?_⟩;unfold rmP
  congr 1
  unfold insC;split
  ·show(List.filter _ (_::_))=_;rw[List.filter_cons_of_neg (by simp),List.filter_eq_self.2 fun s hs=>Zs (hwas s hs)]
  ·show(List.filter _ (_++_))=_;rw[List.filter_append,List.filter_eq_self.2 fun s hs=>Zs (hwas s hs),List.filter_cons_of_neg (by simp)];simp
 ·rw[e];have:=hap q hq hk;exact ZM.2 ⟨q,((Xo hok ..).1 this).1,Gy fun s hs=>hold q hq s hs⟩
def My:List UInt8:=[116,114,117,101]
def ya(n:List UInt8):Cz:=⟨⟨2,0,n,[]⟩,⟨2,0,My,[]⟩⟩
theorem Mz(n:List UInt8)(hp:Heap):S 37 [.pv none (.str n)] hp=some (.ret (ya n).av,hp):=by
 refine Ya rfl rfl rfl (z9 [(none,.str n)]) rfl ?_;have b1:Yi A0 [0,2] [.pv none (.int .i64 2),.pv none (.str n)]=some (.agg [(none,.pv none (.int .i64 2)),(none,.pv none (.int .i64 0)),(none,.pv none (.str n)),(none,.tsl (some 4) [])]):=rfl;have b2:Yi A0 [0,2] [.pv none (.int .i64 2),.pv none (.str [116,114,117,101])]=some (.agg A5):=rfl;have b3:Yi [(some 4,.agg A0),(some 4,.agg A0)] [0,1] [.agg [(none,.pv none (.int .i64 2)),(none,.pv none (.int .i64 0)),(none,.pv none (.str n)),(none,.tsl (some 4) [])],.agg A5]=some (.agg [(some 4,.agg [(none,.pv none (.int .i64 2)),(none,.pv none (.int .i64 0)),(none,.pv none (.str n)),(none,.tsl (some 4) [])]),(some 4,.agg A5)]):=rfl;simp -dsimp -implicitDefEqProofs only[go_sem,seval,↓reduceIte,b1,b2,b3,z7 (Zd _)]
 try exact⟨_,rfl⟩
def aN:List UInt8:=[97]
def d1E:Dbs:=⟨2,[⟨aN,0,false,[⟨1,ya aN⟩]⟩]⟩
def d2E:Dbs:=⟨3,[⟨aN,0,false,[⟨2,ya aN⟩,⟨1,ya aN⟩]⟩]⟩
def d3E:Dbs:=⟨3,[⟨aN,0,false,[⟨2,ya aN⟩]⟩]⟩
theorem k1:okD nilD=true:=by decide+kernel
theorem k2:okD d1E=true:=by decide+kernel
theorem k3:okD d2E=true:=by decide+kernel
theorem a1E:addR nilD (ya aN) false false=(d1E,0):=by kernel_rfl
theorem a2E:addR d1E (ya aN) true true=(d2E,0):=by kernel_rfl
theorem f2E:Ym d2E aN 0=some ⟨aN,0,false,[⟨2,ya aN⟩,⟨1,ya aN⟩]⟩:=by kernel_rfl
theorem e2E:eraR d2E 1=(d3E,true):=by kernel_rfl
theorem k4:okD d3E=true:=by decide+kernel
theorem MA(s s':Sh)(p q:PV)(H:Heap):(AV.tuple [.pv s p,.pv s' q]).alone H=some (.tuple [.pv s p,.pv s' q]):=rfl
set_option maxRecDepth 20000 in
theorem MB:S 11 [] []=some (.ret (.pv none (.bool true)),[]):=by
 refine Ya (ps:=[]) rfl rfl rfl rfl rfl ?_;have z1:(ya aN).head.size<100000000:=by decide+kernel
 have z2:(ya aN).body.size<100000000:=by decide+kernel
 have h1:=fun hp=>lS hp;have h2:=fun hp=>Mz aN hp;have h3:=fun hp=>kU nilD (Qr k1) (ya aN) z1 z2 false false hp;rw[a1E] at h3;have h4:=fun hp=>kU d1E (Qr k2) (ya aN) z1 z2 true true hp;rw[a2E] at h4;have h5:=fun hp=>Gd d2E (Qr k3) aN 0 hp;rw[f2E] at h5;have h6:=fun hp=>Gm d2E (Qr k3) 1 hp;rw[e2E] at h6;have h7:=fun hp=>kM d2E (Qr k3) hp;have h8:=fun hp=>kM d3E (Qr k4) hp;rw[k3] at h7;rw[k4] at h8;have t2:((totD d2E.procs:Nat):Int)=2:=rfl;have t3:((totD d3E.procs:Nat):Int)=1:=rfl;rw[Zc rfl,t2] at h7;rw[Zc rfl,t3] at h8;obtain⟨P,hP⟩:∃P:Prc,P=⟨aN,0,false,[⟨2,ya aN⟩,⟨1,ya aN⟩]⟩:=⟨_,rfl⟩;rw[<-hP] at h5;have p1:PV.part deep P.pv 2 none=some (.bool false):=by rw[hP];rfl
 have p2:PV.part deep P.pv 3 none=some (.sl (some 9) [(Sto.mk 2 (ya aN)).pv,(Sto.mk 1 (ya aN)).pv]):=by rw[hP];rfl
 have p3:PV.part deep d3E.pv 0 none=some (.int .i64 3):=rfl;have hnil:∀H:Heap,Yb A3 H=(A3,H):=fun _=>rfl;have hi0:Yl (some 9) [.pv none (.sl (some 9) [(Sto.mk 2 (ya aN)).pv,(Sto.mk 1 (ya aN)).pv]),.pv none (.int .i64 0)]=some (.iptr (some 9) (Sto.mk 2 (ya aN)).pv 0):=rfl;have p4:PV.part deep (Sto.mk 2 (ya aN)).pv 0 none=some (.int .i64 2):=rfl;simp only[Dbs.av,Cz.av,Prc.av,aN,Option.getD_some,Option.isSome_some] at h1 h2 h3 h4 h5 h6 h7 h8;simp only[aN] at p2 hi0 p4;simp -dsimp -implicitDefEqProofs only[go_sem,seval,↓reduceIte,h1,h2,h3,h4,h5,h6,h7,h8,p1,p2,p3,p4,hi0,hnil,MA,z7 (Zd _)]
 try rfl
theorem MC(hp:Heap):S 11 [] hp=some (.ret (.pv none (.bool true)),hp):=Xa (F:=find tab) (prim:=prim) (f:=11) (args:=[]) (ps:=[]) (hp:=hp) (hp1:=hp) rfl rfl rfl rfl MB
structure Acx where
 what:Int
 name:List UInt8
 ar:Int
 id:Int
 cl:Cz
 fr:Bool
 dy:Bool
def Acx.pv(x:Acx):PV:=.agg [(none,.int .i64 x.what),(none,.str x.name),(none,.int .i64 x.ar),(none,.int .i64 x.id),(some 8,x.cl.pv),(none,.bool x.fr),(none,.bool x.dy)]
def Acx.av(x:Acx):AV:=.pv (some 14) x.pv
def Acx.pvs(l:List Acx):List PV:=l.map Acx.pv
theorem Acx.pvs_len(l:List Acx):(Acx.pvs l).length=l.length:=by simp[Acx.pvs]
theorem Acx.pvs_get{l:List Acx}{i:Nat}{s:Acx}(h:l[i]? =some s):(Acx.pvs l)[i]? =some s.pv:=by simp[Acx.pvs,h]
theorem yO(x:Acx):PV.part deep x.pv 0 none=some (.int .i64 x.what):=rfl
theorem yP(x:Acx):PV.part deep x.pv 1 none=some (.str x.name):=rfl
theorem yQ(x:Acx):PV.part deep x.pv 2 none=some (.int .i64 x.ar):=rfl
theorem yR(x:Acx):PV.part deep x.pv 3 none=some (.int .i64 x.id):=rfl
theorem X3(x:Acx):PV.part deep x.pv 4 (some 8)=some x.cl.pv:=by
 obtain⟨_,_,_,_,⟨⟨_,_,_,_⟩,⟨_,_,_,_⟩⟩,_,_⟩:=x;rfl
theorem X4(x:Acx):PV.part deep x.pv 12 none=some (.bool x.fr):=by
 obtain⟨_,_,_,_,⟨⟨_,_,_,_⟩,⟨_,_,_,_⟩⟩,_,_⟩:=x;rfl
theorem X5(x:Acx):PV.part deep x.pv 13 none=some (.bool x.dy):=by
 obtain⟨_,_,_,_,⟨⟨_,_,_,_⟩,⟨_,_,_,_⟩⟩,_,_⟩:=x;rfl
def actR(d:Dbs)(x:Acx):Dbs × Bool × Int:=
 if x.what=0 then((YF d x.name x.ar x.dy).1,decide ((YF d x.name x.ar x.dy).2=0),(YF d x.name x.ar x.dy).2)
 else if x.what=1 then((addR d x.cl x.fr x.dy).1,decide ((addR d x.cl x.fr x.dy).2=0),(addR d x.cl x.fr x.dy).2)
 else if x.what=2 then((eraR d x.id).1,(eraR d x.id).2,0)
 else if x.what=3 then((aboR d x.name x.ar).1,(aboR d x.name x.ar).2,0)
 else(d,true,0)
set_option maxRecDepth 20000 in
theorem MD(d:Dbs)(hb:BndD d)(x:Acx)(z1:x.cl.head.size<100000000)(z2:x.cl.body.size<100000000)(hp:Heap):S 7 [d.av,x.av] hp=some (.ret (.tuple [(actR d x).1.av,.pv none (.bool (actR d x).2.1),.pv none (.int .i64 (actR d x).2.2)]),hp):=by
 refine Ya rfl rfl rfl (z9 [(some 2,d.pv),(some 14,x.pv)]) rfl ?_;have hnil:∀H:Heap,Yb A3 H=(A3,H):=fun _=>rfl;have h0:=fun hp=>lZ d hb x.name x.ar x.dy hp;have h1:=fun hp=>kU d hb x.cl z1 z2 x.fr x.dy hp;have h2:=fun hp=>Gm d hb x.id hp;have h3:=fun hp=>Mf d hb x.name x.ar hp;simp only[Dbs.av,Cz.av] at h0 h1 h2 h3;unfold actR;by_cases k0:x.what=0
 ·rw[Zc k0];have k0':=Zo k0;simp -dsimp -implicitDefEqProofs only[go_sem,seval,↓reduceIte,Dbs.av,Acx.av,yO,yP,yQ,yR,X3,X4,X5,k0',h0,hnil,z7 (Zd _)]
  try exact⟨_,rfl⟩
 have k0':=Zl k0;by_cases k1:x.what=1
 ·rw[Za k0,Zc k1];have k1':=Zo k1;simp -dsimp -implicitDefEqProofs only[go_sem,seval,↓reduceIte,Dbs.av,Acx.av,yO,yP,yQ,yR,X3,X4,X5,k0',k1',h1,hnil,z7 (Zd _)]
  try exact⟨_,rfl⟩
 have k1':=Zl k1;by_cases k2:x.what=2
 ·rw[Za k0,Za k1,Zc k2];have k2':=Zo k2;simp -dsimp -implicitDefEqProofs only[go_sem,seval,↓reduceIte,Dbs.av,Acx.av,yO,yP,yQ,yR,X3,X4,X5,k0',k1',k2',h2,hnil,z7 (Zd _)]
  try exact⟨_,rfl⟩
 have k2':=Zl k2;by_cases k3:x.what=3
 ·rw[Za k0,Za k1,Za k2,Zc k3];have k3':=Zo k3;simp -dsimp -implicitDefEqProofs only[go_sem,seval,↓reduceIte,Dbs.av,Acx.av,yO,yP,yQ,yR,X3,X4,X5,k0',k1',k2',k3',h3,hnil,z7 (Zd _)]
  try exact⟨_,rfl⟩
 have k3':=Zl k3;rw[Za k0,Za k1,Za k2,Za k3];simp -dsimp -implicitDefEqProofs only[go_sem,seval,↓reduceIte,Dbs.av,Acx.av,yO,yP,yQ,yR,X3,X4,X5,k0',k1',k2',k3',hnil,z7 (Zd _)]
 try exact⟨_,rfl⟩
theorem ME{d:Dbs}{x:Acx}(hv:okD d=true)(h:(actR d x).2.1=true):okD (actR d x).1=true/\(x.what=1->(actR d x).1.next=d.next+1/\getR (actR d x).1 d.next=some ⟨d.next,x.cl⟩)/\(x.what≠1->(actR d x).1.next=d.next):=by
 unfold actR at h ⊢;by_cases k0:x.what=0
 ·rw[Zc k0] at h ⊢;obtain⟨_,a,b,_⟩:=Mq (zi h);exact⟨a,fun k=>by omega,fun _=>b⟩
 by_cases k1:x.what=1
 ·rw[Za k0,Zc k1] at h ⊢;have h':=zi h;obtain⟨_,_,a,b,_⟩:=Gx h';exact⟨a,fun _=>⟨b,(Mx h').1⟩,fun k=>absurd k1 k⟩
 by_cases k2:x.what=2
 ·rw[Za k0,Za k1,Zc k2] at h ⊢;obtain⟨_,_,a,b,_⟩:=GC h;exact⟨b,fun k=>by omega,fun _=>by rw[a]⟩
 by_cases k3:x.what=3
 ·rw[Za k0,Za k1,Za k2,Zc k3] at h ⊢;obtain⟨p,_,_,a,_,_,b,_⟩:=Mr h;exact⟨a,fun k=>by omega,fun _=>b⟩
 rw[Za k0,Za k1,Za k2,Za k3];exact⟨hv,fun k=>absurd k k1,fun _=>rfl⟩
theorem MF:∀(n:Nat) (t g:Tm),cvF n t=some g->rcF n t=(g,true):=by
 intro n
 induction n with
 |zero=>intro t g h;cases h
 |succ n ih=>
  intro t g h;rw[cvF] at h;rw[rcF];by_cases k0:t.kind=0
  ·rw[Zc k0] at h;rw[Zc k0];cases h;rfl
  rw[Za k0] at h;rw[Za k0];by_cases hj:jn t
  ·rw[Zc hj] at h;have k1:¬t.kind=1:=by
    have:=hj.1;omega
   rw[Za k1,Zc hj];obtain⟨a,b,hab⟩:=jp hj.2.1;rw[hab] at h ⊢;simp only[] at h ⊢;cases ha:cvF n a with
   |none=>rw[ha] at h;cases h
   |some x=>
    cases hb:cvF n b with
    |none=>rw[ha,hb] at h;cases h
    |some y=>
     rw[ha,hb] at h;cases h;rw[ih a x ha,ih b y hb];rfl
  ·rw[Za hj] at h;by_cases hk:t.kind=2\/t.kind=3
   ·rw[Zc hk] at h;cases h;have k1:¬t.kind=1:=by omega
    rw[Za k1,Za hj]
   ·rw[Za hk] at h;cases h
theorem GE{c:Cz}(h:okC c=true):c.head.valid=true/\c.body.valid=true/\(c.head.kind=2\/c.head.kind=3)/\c.head.size+c.body.size<=2000/\(∃g,cvF c.body.size c.body=some g/\same g c.body=true)/\c.vars.length<=64/\same c.can.head c.head=true/\same c.can.body c.body=true:=by
 have hv:=Q6 h;simp only[okC,Zg,zk,Zw] at h;obtain⟨h1,h2,h3,h4,h5,h6,h7⟩:=h;refine⟨hv.1,hv.2,h2,h3,?_,h5,h6,h7⟩;split at h4
 ·rename_i g hg;unfold yG at hg;rw[Zc hv.2] at hg;split at hg
  ·rename_i g' hg';split at hg
   ·cases hg
   ·cases hg;exact⟨_,hg',h4⟩
  ·cases hg
 ·cases h4
theorem MG(c:Cz)(z1:c.head.size<100000000)(z2:c.body.size<100000000)(h:okC c=true)(hp:Heap):S 19 [c.av] hp=some (.ret (.pv none (.bool true)),hp):=by
 obtain⟨v1,v2,hk,hsz,⟨g,hg,sm⟩,hvl,s1,s2⟩:=GE h;have h1:=fun hp=>xI c.head hp (by omega);have h2:=fun hp=>xI c.body hp (by omega);simp only[Tm.av] at h1 h2;rw[v1] at h1;rw[v2] at h2;have hs1:=Xb v1;have hs2:=Xb v2;have h3:=fun hp=>uU c.body.size c.body (Ze _) v2 hp;have hcs:=uV c.body.size c.body;rw[MF _ _ _ hg] at h3 hcs;dsimp only at h3 hcs;have h4:=fun hp=>Q1 g c.body hp (by omega) (by omega);have h5:=fun hp=>qR c.head hp (by omega);have h6:=fun hp=>qR c.body hp (by omega);have w1:IntKind.i64.wrap (((min c.head.size 2001:Nat):Int)+((min c.body.size 2001:Nat):Int))=((c.head.size+c.body.size:Nat):Int):=by rw[Yf (by omega) (by omega)];omega
 rw[sm] at h4;simp only[Tm.av] at h3 h4 h5 h6;have hfl:∀t∈[c.head,c.body],t.fits=true:=fun t ht=>by
  rcases Zu.1 ht with rfl|ht
  ·exact valid_fits v1
  ·rcases Zu.1 ht with rfl|ht
   ·exact valid_fits v2
   ·cases ht
 have hzz:Tm.sizes [c.head,c.body]<50000000:=by
  show c.head.size+(c.body.size+0)<_;omega
 have eoc:Tm.occs [c.head,c.body]=c.head.occ++c.body.occ:=by
  show c.head.occ++(c.body.occ++[])=_;rw[ZC]
 have h7:∀hp,S 47 [.tsl (some 4) [c.head.pv,c.body.pv]] hp=some (.ret (.pv none (.sl none (ints c.vars))),hp):=fun hp=>by
  have:=Xa (F:=find tab) (prim:=prim) (f:=47) (args:=[.tsl (some 4) [c.head.pv,c.body.pv]]) (ps:=[(none,.sl (some 4) [c.head.pv,c.body.pv])]) (hp:=hp) (hp1:=hp) rfl rfl rfl rfl (kH [c.head,c.body] hfl hzz []);rw[eoc] at this;exact this
 have h8:∀hp,S 49 [.tsl (some 4) [c.head.pv,c.body.pv]] hp=some (.ret (.pv none (.sl (some 4) [c.can.head.pv,c.can.body.pv])),hp):=fun hp=>by
  have:=Xa (F:=find tab) (prim:=prim) (f:=49) (args:=[.tsl (some 4) [c.head.pv,c.body.pv]]) (ps:=[(none,.sl (some 4) [c.head.pv,c.body.pv])]) (hp:=hp) (hp1:=hp) rfl rfl rfl rfl (uW [c.head,c.body] hfl hzz []);rw[eoc] at this;exact this
 have q1:c.can.head.size=c.head.size:=Q4 _ (valid_fits v1);have q2:c.can.body.size=c.body.size:=Q4 _ (valid_fits v2);have h9:∀hp,S 48 [.pv none (.sl (some 4) [c.can.head.pv,c.can.body.pv]),.tsl (some 4) [c.head.pv,c.body.pv]] hp=some (.ret (.pv none (.bool (same c.can.head c.head && same c.can.body c.body))),hp):=fun hp=>by
  have:=Xa (F:=find tab) (prim:=prim) (f:=48) (args:=[.pv none (.sl (some 4) [c.can.head.pv,c.can.body.pv]),.tsl (some 4) [c.head.pv,c.body.pv]]) (ps:=[(none,.sl (some 4) [c.can.head.pv,c.can.body.pv]),(none,.sl (some 4) [c.head.pv,c.body.pv])]) (hp:=hp) (hp1:=hp) rfl rfl rfl rfl (uX c.head c.can.head c.body c.can.body (by omega) (by omega) (by omega) (by omega) []);exact this
 rw[s1,s2] at h9;have hgt:¬(2000:Int)<((c.head.size+c.body.size:Nat):Int):=by omega
 have hv':((c.vars.length:Nat):Int)<=64:=by omega
 refine Ya rfl rfl rfl (z9 [(some 8,c.pv)]) rfl ?_;rcases hk with hk|hk
 ·have k2:=Zo hk;simp -dsimp -implicitDefEqProofs only[go_sem,seval,↓reduceIte,Cz.av,YX,YY,yV,h1,h2,h3,h4,h5,h6,h7,h8,h9,w1,hgt,hv',yu,k2,Bool.and_self,z7 (Zd _)]
 ·have k3:=Zo hk;have k2:(c.head.kind=2)=False:=Zl (by omega);simp -dsimp -implicitDefEqProofs only[go_sem,seval,↓reduceIte,Cz.av,YX,YY,yV,h1,h2,h3,h4,h5,h6,h7,h8,h9,w1,hgt,hv',yu,k2,k3,Bool.and_self,z7 (Zd _)]
theorem Ja(c:Cz)(z1:c.head.size<100000000)(z2:c.body.size<100000000)(hp:Heap):S 19 [c.av] hp=some (.ret (.pv none (.bool (okC c))),hp):=by
 cases h:okC c with
 |true=>exact MG c z1 z2 h hp
 |false=>
  obtain⟨r,h1,h2⟩:=lG c z1 z2 hp;cases r with
  |false=>exact h1
  |true=>rw[h2 rfl] at h;cases h
theorem Jb(s:List UInt8)(a:Int)(hp:Heap):S 17 [.pv none (.str s),.pv none (.int .i64 a)] hp=some (.ret (.pv none (.bool (namB (keyP s a)))),hp):=by
 refine Ya rfl rfl rfl (z9 [(none,.str s),(none,.int .i64 a)]) rfl ?_;unfold namB keyP;by_cases h1:s.length<=100
 ·have h1':(s.length:Int)<=100:=by omega
  by_cases h2:0<=a
  ·simp -dsimp -implicitDefEqProofs only[go_sem,seval,↓reduceIte,h1,h1',h2]
  ·simp -dsimp -implicitDefEqProofs only[go_sem,seval,↓reduceIte,h1,h1',h2]
 ·have h1':¬(s.length:Int)<=100:=by omega
  simp -dsimp -implicitDefEqProofs only[go_sem,seval,↓reduceIte,h1,h1']
theorem Vb(p q:Prc)(hp:Heap):S 18 [p.av,q.av] hp=some (.ret (.pv none (.bool (decide (ordP p q<0)))),hp):=by
 refine Ya rfl rfl rfl (z9 [(some 4,p.pv),(some 4,q.pv)]) rfl ?_;have e:= @kL p q;cases h1:Op.bytesLess p.name q.name with
 |true=>
  rw[Zs (e.2 (.inl h1))];simp -dsimp -implicitDefEqProofs only[go_sem,seval,↓reduceIte,Prc.av,YA,YE,h1]
 |false=>
  by_cases h2:p.name=q.name
  ·have h2':=Zo h2;by_cases h3:p.ar<q.ar
   ·rw[Zs (e.2 (.inr ⟨h2,h3⟩))];simp -dsimp -implicitDefEqProofs only[go_sem,seval,↓reduceIte,Prc.av,YA,YE,h1,h2',h3]
   ·rw[ZL fun h=>by
     rcases e.1 h with k|k
     ·rw[h1] at k;cases k
     ·exact h3 k.2]
    simp -dsimp -implicitDefEqProofs only[go_sem,seval,↓reduceIte,Prc.av,YA,YE,h1,h2',h3]
  ·have h2':=Zl h2;rw[ZL fun h=>by
    rcases e.1 h with k|k
    ·rw[h1] at k;cases k
    ·exact h2 k.1]
   simp -dsimp -implicitDefEqProofs only[go_sem,seval,↓reduceIte,Prc.av,YA,YE,h1,h2']
def atR(l:List Prc)(s:List UInt8)(a:Int):Int:=match l.findIdx? (fun p=>decide (p.name=s/\p.ar=a)) with
 |some i=>(i:Int)
 |none=> -1
theorem Qs(d:Dbs)(hl:d.procs.length<1000000000)(s:List UInt8)(a:Int)(hp:Heap):S 58 [d.av,.pv none (.str s),.pv none (.int .i64 a)] hp=some (.ret (.pv none (.int .i64 (atR d.procs s a))),hp):=by
 refine Ya rfl rfl rfl (z9 [(some 2,d.pv),(none,.str s),(none,.int .i64 a)]) rfl ?_;simp -dsimp -implicitDefEqProofs only[go_sem,seval,↓reduceIte,Dbs.av,Ye,Prc.pvs_len];refine Yv (α:=Unit) d.procs.length (fun i _=>∀(j:Nat) (q:Prc),j<i->d.procs[j]? =some q->¬(q.name=s/\q.ar=a)) (fun i _=>⟨[(1,.pv none (.str s)),(2,.pv none (.int .i64 a)),(3,.ptr 0 0),(7,.pv none (.int .i64 i))],[.box (some 2) (.pv (some 2) d.pv)]⟩) () ⟨fun j q h=>by omega,rfl⟩ ?_ ?_
 ·rintro i - h hinv;have hcc:(i:Int)<(d.procs.length:Int):=by omega
  have w1:IntKind.i64.wrap ((i:Int)+1)=((i+1:Nat):Int):=by rw[Yf (by omega) (by omega)];omega
  obtain⟨p,hpp⟩:∃p,d.procs[i]? =some p:=⟨_,Zf h⟩;have hgo:¬(p.name=s/\p.ar=a)->∀(j:Nat) (q:Prc),j<i+1->d.procs[j]? =some q->¬(q.name=s/\q.ar=a):=fun hn j q hj hq=>by
   rcases Zv j i with k|k
   ·exact hinv j q k hq
   ·have:j=i:=by omega
    subst this;rw[hpp] at hq;cases hq;exact hn
  by_cases en:p.name=s
  ·have en':=Zo en;by_cases ea:p.ar=a
   ·have ea':=Zo ea;have e:atR d.procs s a=(i:Int):=by
     unfold atR;have:d.procs.findIdx? (fun p=>decide (p.name=s/\p.ar=a))=some i:=by
      rw[z6];refine⟨h,?_,fun j hj=> ?_⟩
      ·have:=(Zb.1 hpp).2;rw[this];exact Zs ⟨en,ea⟩
      ·have hjl:j<d.procs.length:=by omega
       simpa using hinv j _ hj (Zf hjl)
     rw[this]
    rw[e];simp -dsimp -implicitDefEqProofs only[go_sem,seval,↓reduceIte,hcc,w1,Ye,Prc.pvs_len,YA,YE,en',ea',Yd (Prc.pvs_get hpp)]
    try exact⟨_,rfl⟩
   ·have ea':=Zl ea;simp -dsimp -implicitDefEqProofs only[go_sem,seval,↓reduceIte,hcc,w1,Ye,Prc.pvs_len,YA,YE,en',ea',Yd (Prc.pvs_get hpp)];exact⟨(),hgo fun k=>ea k.2⟩
  ·have en':=Zl en;simp -dsimp -implicitDefEqProofs only[go_sem,seval,↓reduceIte,hcc,w1,Ye,Prc.pvs_len,YA,YE,en',Yd (Prc.pvs_get hpp)];exact⟨(),hgo fun k=>en k.1⟩
 ·rintro - hinv;have hcc:¬(d.procs.length:Int)<(d.procs.length:Int):=by omega
  have e:atR d.procs s a= -1:=by
   unfold atR;have:d.procs.findIdx? (fun p=>decide (p.name=s/\p.ar=a))=none:=by
    rw[List.findIdx?_eq_none_iff];intro x hx;obtain⟨j,hj⟩:=ZS.1 hx;simpa using hinv j x (Zb.1 hj).1 hj
   rw[this]
  rw[e];simp -dsimp -implicitDefEqProofs only[go_sem,seval,↓reduceIte,hcc,Ye,Prc.pvs_len]
  try exact⟨_,rfl⟩
theorem GF(d:Dbs)(h1:d.procs.length<1000000000)(h2:totD d.procs<1000000000):∃r:Int,(∀hp,S 16 [d.av] hp=some (.ret (.pv none (.int .i64 r)),hp))/\(totD d.procs<=500->r=totD d.procs)/\(500<totD d.procs->500<r):=by
 have key:∃r:Int,S 16 [d.av] []=some (.ret (.pv none (.int .i64 r)),[])/\(totD d.procs<=500->r=totD d.procs)/\(500<totD d.procs->500<r):=by
  by_cases hbig:∃i p,d.procs[i]? =some p/\(500<p.cls.length\/500<totD (d.procs.take i))
  ·refine⟨501,Ya rfl rfl rfl (z9 [(some 2,d.pv)]) rfl ?_,fun h=> ?_,fun _=>by decide⟩
   ·simp -dsimp -implicitDefEqProofs only[go_sem,seval,↓reduceIte,Dbs.av,Ye,Prc.pvs_len];refine Yv (α:=Unit) d.procs.length (fun i _=>∀(j:Nat) (q:Prc),j<i->d.procs[j]? =some q->¬(500<q.cls.length\/500<totD (d.procs.take j))) (fun i _=>⟨[(1,.ptr 0 0),(3,.pv none (.int .i64 (totD (d.procs.take i):Int))),(4,.pv none (.int .i64 i))],[.box (some 2) (.pv (some 2) d.pv)]⟩) () ⟨fun j q h=>by omega,rfl⟩ ?_ ?_
    ·rintro i - h hinv;have hcc:(i:Int)<(d.procs.length:Int):=by omega
     have w1:IntKind.i64.wrap ((i:Int)+1)=((i+1:Nat):Int):=by rw[Yf (by omega) (by omega)];omega
     obtain⟨p,hpp⟩:∃p,d.procs[i]? =some p:=⟨_,Zf h⟩;have ht:=kI hpp;have hle:=Q5 (l:=d.procs) (i+1);have w2:IntKind.i64.wrap ((totD (d.procs.take i):Int)+(p.cls.length:Int))=(totD (d.procs.take (i+1)):Int):=by rw[Yf (by omega) (by omega)];omega
     by_cases g1:500<p.cls.length
     ·have g1':(500:Int)<(p.cls.length:Int):=by omega
      simp -dsimp -implicitDefEqProofs only[go_sem,seval,↓reduceIte,hcc,w1,w2,g1',Ye,YU,Prc.pvs_len,Sto.pvs_len,Yd (Prc.pvs_get hpp)]
      try exact⟨_,rfl⟩
     ·have g1':¬(500:Int)<(p.cls.length:Int):=by omega
      by_cases g2:500<totD (d.procs.take i)
      ·have g2':(500:Int)<(totD (d.procs.take i):Int):=by omega
       simp -dsimp -implicitDefEqProofs only[go_sem,seval,↓reduceIte,hcc,w1,w2,g1',g2',Ye,YU,Prc.pvs_len,Sto.pvs_len,Yd (Prc.pvs_get hpp)]
       try exact⟨_,rfl⟩
      ·have g2':¬(500:Int)<(totD (d.procs.take i):Int):=by omega
       simp -dsimp -implicitDefEqProofs only[go_sem,seval,↓reduceIte,hcc,w1,w2,g1',g2',Ye,YU,Prc.pvs_len,Sto.pvs_len,Yd (Prc.pvs_get hpp)];refine⟨(),fun j q hj hq=> ?_⟩;rcases Zv j i with k|k
       ·exact hinv j q k hq
       ·have:j=i:=by omega
        subst this;rw[hpp] at hq;cases hq;rintro(k|k)
        ·exact g1 k
        ·exact g2 k
    ·rintro - hinv;obtain⟨i,p,hpp,h3⟩:=hbig;exact absurd h3 (hinv i p (Zb.1 hpp).1 hpp)
   ·obtain⟨i,p,hpp,h3⟩:=hbig;have k1:=ye (Zi hpp);have k2:=Q5 (l:=d.procs) i;omega
  ·refine⟨totD d.procs,Ya rfl rfl rfl (z9 [(some 2,d.pv)]) rfl ?_,fun _=>rfl,fun h=>by omega⟩;simp -dsimp -implicitDefEqProofs only[go_sem,seval,↓reduceIte,Dbs.av,Ye,Prc.pvs_len];refine Yv (α:=Unit) d.procs.length (fun _ _=>True) (fun i _=>⟨[(1,.ptr 0 0),(3,.pv none (.int .i64 (totD (d.procs.take i):Int))),(4,.pv none (.int .i64 i))],[.box (some 2) (.pv (some 2) d.pv)]⟩) () ⟨trivial,rfl⟩ ?_ ?_
   ·rintro i - h hinv;have hcc:(i:Int)<(d.procs.length:Int):=by omega
    have w1:IntKind.i64.wrap ((i:Int)+1)=((i+1:Nat):Int):=by rw[Yf (by omega) (by omega)];omega
    obtain⟨p,hpp⟩:∃p,d.procs[i]? =some p:=⟨_,Zf h⟩;have ht:=kI hpp;have hle:=Q5 (l:=d.procs) (i+1);have w2:IntKind.i64.wrap ((totD (d.procs.take i):Int)+(p.cls.length:Int))=(totD (d.procs.take (i+1)):Int):=by rw[Yf (by omega) (by omega)];omega
    have g1':¬(500:Int)<(p.cls.length:Int):=fun k=>hbig ⟨i,p,hpp,.inl (by omega)⟩;have g2':¬(500:Int)<(totD (d.procs.take i):Int):=fun k=>hbig ⟨i,p,hpp,.inr (by omega)⟩;simp -dsimp -implicitDefEqProofs only[go_sem,seval,↓reduceIte,hcc,w1,w2,g1',g2',Ye,YU,Prc.pvs_len,Sto.pvs_len,Yd (Prc.pvs_get hpp)];exact⟨(),trivial⟩
   ·rintro - -;have hcc:¬(d.procs.length:Int)<(d.procs.length:Int):=by omega
    simp -dsimp -implicitDefEqProofs only[go_sem,seval,↓reduceIte,hcc,Ye,Prc.pvs_len,ZP]
    try exact⟨_,rfl⟩
 obtain⟨r,k1,k2⟩:=key;exact⟨r,fun hp=>Xa (F:=find tab) (prim:=prim) (f:=16) (args:=[d.av]) (ps:=[(some 2,d.pv)]) (hp:=hp) (hp1:=hp) rfl rfl rfl rfl k1,k2⟩
theorem Vc(n:Int)(A:List Prc)(q:Prc):OkP n (A++[q])↔OkP n A/\namB q=true/\(∀a∈A,ordP a q<0)/\(ids A++q.cls.map (·.id)).Nodup/\∀s∈q.cls,okS n q s:=by
 have h:=xo n A [] q;rw[ZC] at h;rw[h];constructor
 ·rintro⟨a,b,c,_,e,f,g⟩;refine⟨a,b,c,?_,g⟩;rw[zC];refine⟨a.2.2.1,e,fun x hx y hy exy=> ?_⟩;subst exy;obtain⟨s,hs,rfl⟩:=ZM.1 hy;exact f s hs hx
 ·rintro⟨a,b,c,e,g⟩;rw[zC] at e;exact⟨a,b,c,fun x hx=>(by cases hx),e.2.1,fun s hs hm=>e.2.2 s.id hm s.id (ZM.2 ⟨s,hs,rfl⟩) rfl,g⟩
theorem MH{n:Int}{l:List Prc}{i:Nat}{p:Prc}(hp:l[i]? =some p)(h:OkP n l):OkP n (l.take i++[p]):=by
 rw[XO hp] at h;obtain⟨g1,g2,g3,g4,g5,g6,g7⟩:=(xo ..).1 h;have gA:OkP n (l.take i):=by
  refine⟨fun q hq=>g1.1 q (zJ _ hq),(List.pairwise_append.1 g1.2.1).1,?_,fun q hq=>g1.2.2.2 q (zJ _ hq)⟩;have:=g1.2.2.1;rw[Q8,zC] at this;exact this.1
 refine(Vc ..).2 ⟨gA,g2,g3,?_,g7⟩;rw[zC];refine⟨gA.2.2.1,g5,fun x hx y hy e=> ?_⟩;subst e;obtain⟨s,hs,rfl⟩:=ZM.1 hy;exact g6 s hs (by rw[Q8];exact zJ _ hx)
theorem X6{α:Type}{l:List α}{i:Nat}{x:α}(h:l[i]? =some x):l.take (i+1)=l.take i++[x]:=by
 rw[zV,h];rfl
set_option maxRecDepth 20000 in
set_option maxHeartbeats 4000000 in
theorem yH(d:Dbs)(hb:BndD d)(hp:Heap):S 6 [d.av] hp=some (.ret (.pv none (.bool (okD d))),hp):=by
 refine Ya rfl rfl rfl (z9 [(some 2,d.pv)]) rfl ?_;obtain⟨r,h1,hr1,hr2⟩:=GF d hb.1 hb.2.1;simp only[Dbs.av] at h1;by_cases b1:d.next<1
 ·have e:okD d=false:=by
   have:¬1<=d.next:=by omega
   simp[okD,this]
  rw[e];simp -dsimp -implicitDefEqProofs only[go_sem,seval,↓reduceIte,Dbs.av,Yp,Ye,b1,Prc.pvs_len]
  done
 by_cases b2:4294967296<d.next
 ·have e:okD d=false:=by
   have:¬d.next<=4294967296:=by omega
   simp[okD,this]
  rw[e];simp -dsimp -implicitDefEqProofs only[go_sem,seval,↓reduceIte,Dbs.av,Yp,Ye,b1,b2,Prc.pvs_len]
  done
 by_cases b3:500<d.procs.length
 ·have b3':(500:Int)<(d.procs.length:Int):=by omega
  have e:okD d=false:=by
   have:¬d.procs.length<=500:=by omega
   simp[okD,this]
  rw[e];simp -dsimp -implicitDefEqProofs only[go_sem,seval,↓reduceIte,Dbs.av,Yp,Ye,b1,b2,b3',Prc.pvs_len]
  done
 have b3':¬(500:Int)<(d.procs.length:Int):=by omega
 by_cases b4:500<totD d.procs
 ·have b4':=hr2 b4;have e:okD d=false:=by
   have:¬totD d.procs<=500:=by omega
   simp[okD,this]
  rw[e];simp -dsimp -implicitDefEqProofs only[go_sem,seval,↓reduceIte,Dbs.av,Yp,Ye,b1,b2,b3',h1,b4',Prc.pvs_len]
  done
 have b4':¬500<r:=by
  have:=hr1 (by omega);omega
 have hn0:∀H:Heap,yJ none H=some (.sl none H.length 0 0 0,H++[.arr none [] false]):=fun H=>je (sh:=none) (by decide);simp -dsimp -implicitDefEqProofs only[go_sem,seval,↓reduceIte,Dbs.av,Yp,Ye,b1,b2,b3',h1,b4',hn0,Prc.pvs_len];refine Yv (α:=Unit) d.procs.length (fun i _=>OkP d.next (d.procs.take i)) (fun i _=>⟨[(1,.ptr 0 0),(3,.sl none 1 (ids (d.procs.take i)).length 0 (ids (d.procs.take i)).length),(4,.pv none (.int .i64 i))],[.box (some 2) (.pv (some 2) d.pv),.arr none (ints (ids (d.procs.take i))) false]⟩) () ⟨⟨fun p hp=>(by cases hp),List.Pairwise.nil,List.nodup_nil,fun p hp=>(by cases hp)⟩,rfl⟩ ?_ ?_
 ·rintro i - h hinv;have hcc:(i:Int)<(d.procs.length:Int):=by omega
  have w1:IntKind.i64.wrap ((i:Int)+1)=((i+1:Nat):Int):=by rw[Yf (by omega) (by omega)];omega
  obtain⟨p,hpp⟩:∃p,d.procs[i]? =some p:=⟨_,Zf h⟩;have hpm:=Zi hpp;have hok:okD d=true->namB p=true/\(∀a∈d.procs.take i,ordP a p<0)/\(ids (d.procs.take i)++p.cls.map (·.id)).Nodup/\∀s∈p.cls,okS d.next p s:=fun hv=>((Vc ..).1 (MH hpp ((YG d).1 hv).2.2.2.2)).2
  have hfalse:∀{P:Prop},¬P->(okD d=true->P)->okD d=false:=fun hn hi=>by
   cases e:okD d with
   |false=>rfl
   |true=>exact absurd (hi e) hn
  have h2:=fun hp=>Jb p.name p.ar hp;have enm:namB (keyP p.name p.ar)=namB p:=rfl;rw[enm] at h2;obtain⟨seen0,hs0⟩:∃l,l=ids (d.procs.take i):=⟨_,rfl⟩;rw[<-hs0] at hok ⊢;cases hnm:namB p with
  |false=>
   rw[hfalse (P:=namB p=true) (by rw[hnm];decide) fun k=>(hok k).1];rw[hnm] at h2;simp -dsimp -implicitDefEqProofs only[go_sem,seval,↓reduceIte,hcc,w1,Ye,Prc.pvs_len,Yd (Prc.pvs_get hpp),YA,YE,h2,z7 (Zd _)]
   try exact⟨_,rfl⟩
  |true=>
  rw[hnm] at h2;by_cases hpre:∀a∈d.procs.take i,ordP a p<0
  rotate_left
  ·have i0:0<i:=by
    rcases Nat.eq_zero_or_pos i with k|k
    ·subst k;exact absurd (fun a ha=>by cases ha) hpre
    ·exact k
   obtain⟨q,hq⟩:∃q,d.procs[i - 1]? =some q:=⟨_,Zf (by omega)⟩;have hqt:(d.procs.take i)[i - 1]? =some q:=by rw[ZG,Zc (by omega),hq]
   have hqp:¬ordP q p<0:=fun hlt=>hpre fun a ha=>by
    obtain⟨j,hj⟩:=ZS.1 ha;have hjl:=(Zb.1 hj).1;rw[Zh] at hjl;rcases Zv j (i - 1) with k|k
    ·exact qW (Qq hinv.2.1 j (i - 1) a q k hj hqt) hlt
    ·have:j=i - 1:=by omega
     subst this;rw[hqt] at hj;cases hj;exact hlt
   have h3:=fun hp=>Vb q p hp;rw[ZL hqp] at h3;simp only[Prc.av] at h3;have i0':(0:Int)<(i:Int):=by omega
   have w3:IntKind.i64.wrap ((i:Int) - 1)=((i - 1:Nat):Int):=by rw[Yf (by omega) (by omega)];omega
   rw[hfalse hpre fun k=>(hok k).2.1];simp -dsimp -implicitDefEqProofs only[go_sem,seval,↓reduceIte,hcc,w1,w3,i0',Ye,Prc.pvs_len,Yd (Prc.pvs_get hpp),Yd (Prc.pvs_get hq),YA,YE,h2,h3,z7 (Zd _)]
   try exact⟨_,rfl⟩
  have hsplit:(i=0)\/(0<i/\∃q,d.procs[i - 1]? =some q/\ordP q p<0):=by
   rcases Nat.eq_zero_or_pos i with k|k
   ·exact .inl k
   ·obtain⟨q,hq⟩:∃q,d.procs[i - 1]? =some q:=⟨_,Zf (by omega)⟩;exact .inr ⟨k,q,hq,hpre q (Zi (i:=i - 1) (by rw[ZG,Zc (by omega),hq]))⟩
  have sto_hd:∀x:Sto,PV.part deep x.pv 1 (some 8)=some x.cl.pv:=yw;rcases hsplit with i0|⟨i0,q,hq,hqp⟩
  have i0':¬(0:Int)<(i:Int):=by omega
  simp -dsimp -implicitDefEqProofs only[go_sem,seval,↓reduceIte,hcc,w1,i0',Ye,Prc.pvs_len,Yd (Prc.pvs_get hpp),YA,YE,h2,z7 (Zd _)]
  rotate_left
  have h3:=fun hp=>Vb q p hp;rw[Zs hqp] at h3;simp only[Prc.av] at h3;have i0':(0:Int)<(i:Int):=by omega
  have w3:IntKind.i64.wrap ((i:Int) - 1)=((i - 1:Nat):Int):=by rw[Yf (by omega) (by omega)];omega
  simp -dsimp -implicitDefEqProofs only[go_sem,seval,↓reduceIte,hcc,w1,w3,i0',Ye,Prc.pvs_len,Yd (Prc.pvs_get hpp),Yd (Prc.pvs_get hq),YA,YE,h2,h3,z7 (Zd _)]
  all_goals
   refine Yv (α:=Unit) p.cls.length (fun k _=>(seen0++(p.cls.take k).map (·.id)).Nodup/\∀s∈p.cls.take k,okS d.next p s) (fun k _=>⟨[(1,.ptr 0 0),(3,.sl none 1 (seen0++(p.cls.take k).map (·.id)).length 0 (seen0++(p.cls.take k).map (·.id)).length),(4,.pv none (.int .i64 i)),(5,.ptr 2 0),(6,.pv none (.int .i64 k))],[.box (some 2) (.pv (some 2) d.pv),.arr none (ints (seen0++(p.cls.take k).map (·.id))) false,.box (some 4) (.pv (some 4) p.pv),.arr (some 9) [] false]⟩) () ⟨⟨by rw[zo,List.map_nil,ZC,hs0];exact hinv.2.2.1,fun s hs=>by cases hs⟩,by simp only[zo,List.map_nil,ZC];rfl⟩ ?_ ?_
   ·rintro k - hk ⟨hnd,hoks⟩;have hck:(k:Int)<(p.cls.length:Int):=by omega
    have hpl:=ye hpm;have w4:IntKind.i64.wrap ((k:Int)+1)=((k+1:Nat):Int):=by rw[Yf (by omega) (by omega)];omega
    obtain⟨c,hcs⟩:∃c,p.cls[k]? =some c:=⟨_,Zf hk⟩;have hcm:=Zi hcs;obtain⟨z1,z2⟩:=hb.2.2 p hpm c hcm;have hval:=fun hp=>Ja c.cl z1 z2 hp;simp only[Cz.av] at hval;by_cases c1:c.id<1
    ·rw[hfalse (P:=¬c.id<1) (fun k=>k c1) fun k=>by have:=((hok k).2.2.2 c hcm).1;omega];simp -dsimp -implicitDefEqProofs only[go_sem,seval,↓reduceIte,hck,w4,YU,Sto.pvs_len,Yd (Sto.pvs_get hcs),YO,c1,z7 (Zd _)]
     try exact⟨_,rfl⟩
    by_cases c2:d.next<=c.id
    ·rw[hfalse (P:=¬d.next<=c.id) (fun k=>k c2) fun k=>by have:=((hok k).2.2.2 c hcm).2.1;omega];simp -dsimp -implicitDefEqProofs only[go_sem,seval,↓reduceIte,hck,w4,YU,Sto.pvs_len,Yd (Sto.pvs_get hcs),YO,c1,c2,Yp,z7 (Zd _)]
     try exact⟨_,rfl⟩
    cases c3:okC c.cl with
    |false=>
     rw[c3] at hval;rw[hfalse (P:=okC c.cl=true) (by rw[c3];decide) fun k=>((hok k).2.2.2 c hcm).2.2.1];simp -dsimp -implicitDefEqProofs only[go_sem,seval,↓reduceIte,hck,w4,YU,Sto.pvs_len,Yd (Sto.pvs_get hcs),YO,yw,c1,c2,hval,Yp,z7 (Zd _)]
     try exact⟨_,rfl⟩
    |true=>
    rw[c3] at hval;by_cases c4:c.cl.head.name=p.name
    rotate_left
    ·rw[hfalse (P:=c.cl.head.name=p.name) c4 fun k=>((hok k).2.2.2 c hcm).2.2.2.1];have c4':=Zl c4;simp -dsimp -implicitDefEqProofs only[go_sem,seval,↓reduceIte,hck,w4,YU,YA,Sto.pvs_len,Yd (Sto.pvs_get hcs),YO,yw,yW,c1,c2,c4',hval,Yp,z7 (Zd _)]
     try exact⟨_,rfl⟩
    have c4':=Zo c4;by_cases c5:(c.cl.head.args.length:Int)=p.ar
    rotate_left
    ·rw[hfalse (P:=(c.cl.head.args.length:Int)=p.ar) c5 fun k=>((hok k).2.2.2 c hcm).2.2.2.2];have c5':=Zl c5;simp -dsimp -implicitDefEqProofs only[go_sem,seval,↓reduceIte,hck,w4,YU,YA,YE,Sto.pvs_len,Tm.pvs_len,Yd (Sto.pvs_get hcs),YO,yw,yW,Xg,c1,c2,c4',c5',hval,Yp,z7 (Zd _)]
     try exact⟨_,rfl⟩
    have c5':=Zo c5;have hokc:okS d.next p c:=⟨by omega,by omega,c3,c4,c5⟩
    obtain⟨seen,hse⟩:∃l,l=seen0++(p.cls.take k).map (·.id):=⟨_,rfl⟩;have hse1:seen0++(p.cls.take (k+1)).map (·.id)=seen++[c.id]:=by rw[hse,X6 hcs,zL,ZD];rfl
    rw[hse1,<-hse];rw[<-hse] at hnd;simp -dsimp -implicitDefEqProofs only[go_sem,seval,↓reduceIte,hck,w4,YU,YA,YE,Sto.pvs_len,Tm.pvs_len,Yd (Sto.pvs_get hcs),YO,yw,yW,Xg,c1,c2,c4',c5',hval,Yp,z7 (Zd _)];have hsl:seen.length<=2000000000:=by
     rw[hse,hs0,Zj,zx,Zh,<-jz];have:=Q5 (l:=d.procs) i;omega
    refine Yv (α:=Unit) seen.length (fun j _=>∀(j':Nat) (x:Int),j'<j->seen[j']? =some x->x≠c.id) (fun j _=>⟨[(1,.ptr 0 0),(3,.sl none 1 seen.length 0 seen.length),(4,.pv none (.int .i64 i)),(5,.ptr 2 0),(6,.pv none (.int .i64 k)),(7,.ptr 4 0),(8,.pv none (.int .i64 j))],[.box (some 2) (.pv (some 2) d.pv),.arr none (ints seen) false,.box (some 4) (.pv (some 4) p.pv),.arr (some 9) [] false,.box (some 9) (.pv (some 9) c.pv)]⟩) () ⟨fun j' x h=>by omega,rfl⟩ ?_ ?_
    ·rintro j - hj hinj;have hcj:(j:Int)<(seen.length:Int):=by omega
     have w5:IntKind.i64.wrap ((j:Int)+1)=((j+1:Nat):Int):=by rw[Yf (by omega) (by omega)];omega
     obtain⟨x,hx⟩:∃x,seen[j]? =some x:=⟨_,Zf hj⟩;have hia:Yl none [.sl none 1 seen.length 0 seen.length,.pv none (.int .i64 j)]=some (.eptr none 1 seen.length j 0):=by
      have:=UQ (sh:=none) (s':=none) (k:=.i64) (r:=1) (v:=seen.length) (o:=0) hj;rw[Zy] at this;exact this
     have hld:∀(x0:AObj) (X:Heap),aload none (x0::.arr none (ints seen) false::X) (.eptr none 1 seen.length j 0)=some (.pv none (.int .i64 x)):=fun x0 X=>by
      simp[aload,yu,qT hx]
     by_cases hxc:x=c.id
     ·have hxc':=Zo hxc;rw[hfalse (P:=(seen0++p.cls.map (·.id)).Nodup) (fun hn=>by
       rw[XO hcs,zL,Z3,<-ZD,<-hse,zC] at hn;exact hn.2.2 x (Zi hx) c.id ZV hxc) fun k=>(hok k).2.2.1]
      simp -dsimp -implicitDefEqProofs only[go_sem,seval,↓reduceIte,hcj,w5,hia,hld,YO,hxc']
      try exact⟨_,rfl⟩
     ·have hxc':=Zl hxc;simp -dsimp -implicitDefEqProofs only[go_sem,seval,↓reduceIte,hcj,w5,hia,hld,YO,hxc'];refine⟨(),fun j' y hj' hy=> ?_,rfl⟩;rcases Zv j' j with q|q
      ·exact hinj j' y q hy
      ·have:j'=j:=by omega
       subst this;rw[hx] at hy;cases hy;exact hxc
    ·rintro - hinj;have hcj:¬(seen.length:Int)<(seen.length:Int):=by omega
     have hlim:seen.length+1<=lim:=by
      unfold lim;have e:seen.length=(ids (d.procs.take i)).length+k:=by rw[hse,hs0,Zj,zx,Zh];omega
      rw[e,<-jz];have:=Q5 (l:=d.procs) i;omega
     have hil:(ints seen).length=seen.length:=yu seen;simp -dsimp -implicitDefEqProofs only[go_sem,seval,↓reduceIte,hcj,w4,YO,hil,hlim,L0];refine⟨(),⟨?_,fun s hs=> ?_⟩,?_⟩
     ·rw[zC];refine⟨hnd,zM.2 ⟨by simp,List.nodup_nil⟩,fun a ha b hb' e=> ?_⟩;rcases List.mem_singleton.1 hb' with rfl
      subst e;obtain⟨j',hj'⟩:=ZS.1 ha;exact hinj j' _ (Zb.1 hj').1 hj' rfl
     ·rw[X6 hcs] at hs;rcases ZF.1 hs with hs|hs
      ·exact hoks s hs
      ·rcases List.mem_singleton.1 hs with rfl
       exact hokc
     ·rfl
   ·rintro - ⟨hnd,hoks⟩;have hck:¬(p.cls.length:Int)<(p.cls.length:Int):=by omega
    rw[ZP] at hnd hoks;simp -dsimp -implicitDefEqProofs only[go_sem,seval,↓reduceIte,hck,w1,YU,Sto.pvs_len,ZP];have e:ids (d.procs.take (i+1))=seen0++p.cls.map (·.id):=by
     rw[X6 hpp,Q8,X1,<-hs0];simp[ids]
    refine⟨(),?_,?_⟩
    ·rw[X6 hpp];exact(Vc ..).2 ⟨hinv,hnm,hpre,by rw[<-hs0];exact hnd,hoks⟩
    ·rw[e,Zj];rfl
 ·rintro - hinv;have hcc:¬(d.procs.length:Int)<(d.procs.length:Int):=by omega
  rw[ZP] at hinv;rw[(YG d).2 ⟨by omega,by omega,by omega,by omega,hinv⟩];simp -dsimp -implicitDefEqProofs only[go_sem,seval,↓reduceIte,hcc,Ye,Prc.pvs_len]
  try exact⟨_,rfl⟩
def clT(t:Tm):Tm:=if t.valid=true then t else zt
theorem GG(t:Tm)(ht:t.size<1000000000)(hp:Heap):S 70 [t.av] hp=some (.ret (clT t).av,hp):=by
 unfold clT;cases hv:t.valid with
 |true=>rw[Zc rfl];exact uQ t hp hv ht
 |false=>
  rw[Za (by decide)];refine Ya rfl rfl rfl (z9 [(some 4,t.pv)]) rfl ?_;have h1:=fun hp=>xI t hp ht;rw[hv] at h1;have hb:Yi A0 [] []=some (.agg A0):=rfl;simp only[Tm.av] at h1;simp -dsimp -implicitDefEqProofs only[go_sem,seval,↓reduceIte,Tm.av,h1,hb,z7 (Zd _)]
  try exact⟨_,rfl⟩
def clS(s:Sto):Sto:=⟨s.id,⟨clT s.cl.head,clT s.cl.body⟩⟩
def clP(p:Prc):Prc:=⟨p.name,p.ar,p.dyn,p.cls.map clS⟩
def clD(d:Dbs):Dbs:=⟨d.next,d.procs.map clP⟩
theorem Vd(s:Sto)(z1:s.cl.head.size<100000000)(z2:s.cl.body.size<100000000)(hp:Heap):S 42 [s.av] hp=some (.ret (clS s).av,hp):=by
 refine Ya rfl rfl rfl (z9 [(some 9,s.pv)]) rfl ?_;have h1:=fun hp=>GG s.cl.head (by omega) hp;have h2:=fun hp=>GG s.cl.body (by omega) hp;have b1:Yi [(some 4,.agg A0),(some 4,.agg A0)] [0,1] [.pv (some 4) (clS s).cl.head.pv,.pv (some 4) (clS s).cl.body.pv]=some (.pv (some 8) (clS s).cl.pv):=rfl;have b2:Yi A4 [0,1] [.pv none (.int .i64 s.id),.pv (some 8) (clS s).cl.pv]=some (.pv (some 9) (clS s).pv):=rfl;have e1:clT s.cl.head=(clS s).cl.head:=rfl;have e2:clT s.cl.body=(clS s).cl.body:=rfl;rw[e1] at h1;rw[e2] at h2;simp only[Tm.av] at h1 h2;simp -dsimp -implicitDefEqProofs only[go_sem,seval,↓reduceIte,Sto.av,YO,kN,kO,h1,h2,b1,b2,z7 (Zd _)]
 try exact⟨_,rfl⟩
def agP(p:Prc)(sv:AV):AV:=.agg [(none,.pv none (.str p.name)),(none,.pv none (.int .i64 p.ar)),(none,.pv none (.bool p.dyn)),(none,sv)]
theorem MI{hp hp':Heap}{r o q n:Nat}{p:Prc}(h:hp[r]? =some (.box (some 4) (agP p (.sl (some 9) q n 0 n))))(h':hp'[r]? =some (.box (some 4) (agP p (.sl (some 9) q n 0 n)))):Yr hp hp' (.ptr r o)=true:=by
 simp[Yr,h,h',agP,AObj.beq,AV.beq,AV.beqc,PV.beq]
def cR(p:Prc)(n:Nat):Heap:=[.box (some 4) (.pv (some 4) p.pv),.box (some 4) (agP p (.sl (some 9) (n+5) p.cls.length 0 p.cls.length)),.arr (some 9) [] false,.box (some 4) (agP p (.sl (some 9) (n+5) p.cls.length 0 p.cls.length)),.arr (some 9) [] false,.arr (some 9) (Sto.pvs (clP p).cls) false]
set_option maxRecDepth 20000 in
theorem GH(p:Prc)(hl:p.cls.length<1000000000)(hz:∀s∈p.cls,s.cl.head.size<100000000/\s.cl.body.size<100000000)(hp:Heap):S 15 [p.av] hp=some (.ret (agP p (.sl (some 9) (hp.length+5) p.cls.length 0 p.cls.length)),hp++cR p hp.length):=by
 refine Xn rfl rfl rfl rfl ?_;have hbu:Yi A2 [0,1,2] [.pv none (.str p.name),.pv none (.int .i64 p.ar),.pv none (.bool p.dyn)]=some (.agg [(none,.pv none (.str p.name)),(none,.pv none (.int .i64 p.ar)),(none,.pv none (.bool p.dyn)),(none,.tsl (some 9) [])]):=rfl;simp -dsimp -implicitDefEqProofs only[go_sem,seval,↓reduceIte,Prc.av,YA,YE,uZ,hbu,z7 (ZB _ _)];obtain⟨x1,hx1⟩:∃x1:AObj,x1=.box (some 4) (.agg [(none,.pv none (.str [])),(none,.pv none (.int .i64 0)),(none,.pv none (.bool false)),(none,.sl (some 9) (hp.length+2) 0 0 0)]):=⟨_,rfl⟩;rw[<-hx1];obtain⟨cs,hcs⟩:∃cs,cs=p.cls.map clS:=⟨_,rfl⟩;have hcl:cs.length=p.cls.length:=by rw[hcs,zx]
 have hagp:∀q i,agP p (.sl (some 9) q i 0 i)=.agg [(none,.pv none (.str p.name)),(none,.pv none (.int .i64 p.ar)),(none,.pv none (.bool p.dyn)),(none,.sl (some 9) q i 0 i)]:=fun _ _=>rfl;refine Yv (α:=Unit) p.cls.length (fun _ _=>True) (fun i _=>⟨[(1,.ptr hp.length 0),(2,.ptr (hp.length+1) 0),(3,.ptr (hp.length+3) 0),(4,.pv none (.int .i64 i))],hp++[.box (some 4) (.pv (some 4) p.pv),x1,.arr (some 9) [] false,.box (some 4) (.agg [(none,.pv none (.str p.name)),(none,.pv none (.int .i64 p.ar)),(none,.pv none (.bool p.dyn)),(none,.sl (some 9) (hp.length+5) i 0 i)]),.arr (some 9) [] false,.arr (some 9) (Sto.pvs (cs.take i)) false]⟩) () ⟨trivial,rfl⟩ ?_ ?_
 ·rintro i - h -;have hcc:(i:Int)<(p.cls.length:Int):=by omega
  have w1:IntKind.i64.wrap ((i:Int)+1)=((i+1:Nat):Int):=by rw[Yf (by omega) (by omega)];omega
  obtain⟨s,hs⟩:∃s,p.cls[i]? =some s:=⟨_,Zf h⟩;obtain⟨z1,z2⟩:=hz s (Zi hs);have h3:=fun hp=>Vd s z1 z2 hp;simp only[Sto.av] at h3;have hll:(Sto.pvs (cs.take i)).length=i:=by rw[Sto.pvs_len,Zh];omega
  have hlim:i+1<=lim:=by unfold lim;omega
  have hsn:Sto.pvs (cs.take i)++[(clS s).pv]=Sto.pvs (cs.take (i+1)):=by
   have e:cs[i]? =some (clS s):=by rw[hcs];simp[hs]
   rw[X6 e];simp[Sto.pvs]
  have hs1:∀(X X':Heap) (a b c a' b' c':AObj),Yr (hp++a::b::c::.box (some 4) (.agg [(none,.pv none (.str p.name)),(none,.pv none (.int .i64 p.ar)),(none,.pv none (.bool p.dyn)),(none,.sl (some 9) (hp.length+5) i 0 i)])::X) (hp++a'::b'::c'::.box (some 4) (.agg [(none,.pv none (.str p.name)),(none,.pv none (.int .i64 p.ar)),(none,.pv none (.bool p.dyn)),(none,.sl (some 9) (hp.length+5) i 0 i)])::X') (.ptr (hp.length+3) 3)=true:=fun X X' a b c a' b' c'=>MI (p:=p) (q:=hp.length+5) (n:=i) (by rw[xJ];rfl) (by rw[xJ];rfl);simp -dsimp -implicitDefEqProofs only[go_sem,seval,↓reduceIte,hcc,w1,YU,Sto.pvs_len,Yd (Sto.pvs_get hs),h3,hs1,km,ZN,ze,zj,Z9,hll,hlim,hsn,Xf,z7 (ZB _ _),Xm (ZB _ _)];refine⟨(),?_⟩;rw[jk 6 rfl rfl (by simp[hx1,AObj.refs,AV.ofComps,pures,AV.refsIn,AV.refsIn.go]) (by simp[AV.refsIn])];rfl
 ·rintro - -;have hcc:¬(p.cls.length:Int)<(p.cls.length:Int):=by omega
  have htk:cs.take p.cls.length=cs:=Zq (by omega);rw[hx1];simp -dsimp -implicitDefEqProofs only[go_sem,seval,↓reduceIte,hcc,YU,Sto.pvs_len,htk,Xf,z7 (ZB _ _),Xm (ZB _ _)];rw[Za (by simp[agP,AV.refsIn,AV.refsIn.go])];refine⟨rfl,?_⟩;rw[hcs];rfl
end Go.Proofs.YtligpohiokpnhaaGreat
