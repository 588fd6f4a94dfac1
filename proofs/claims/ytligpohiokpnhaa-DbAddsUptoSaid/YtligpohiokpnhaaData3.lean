/- Databases in plain terms: what a valid database is. -/
import Derived.Test.YtligpohiokpnhaaAdr
import Derived.Test.YtligpohiokpnhaaCp
import Derived.Test.YtligpohiokpnhaaAm5
import Derived.Test.YtligpohiokpnhaaDb5
set_option linter.unusedSimpArgs false
set_option linter.unusedVariables false
namespace Go.Proofs.Ytligpohiokpnhaa
open Go.Am
def ids(l:List Prc):List Int:=l.flatMap fun p=>p.cls.map (·.id)
theorem zld(A B:List Prc):ids (A++B)=ids A++ids B:=by simp[ids]
theorem zci(p:Prc)(B:List Prc):ids (p::B)=p.cls.map (·.id)++ids B:=by simp[ids]
theorem mem_ids{l:List Prc}{x:Int}:x∈ids l↔∃p∈l,∃s∈p.cls,s.id=x:=by simp[ids]
def okS(next:Int)(p:Prc)(s:Sto):Prop:=1<=s.id/\s.id<next/\okC s.cl=true/\s.cl.head.name=p.name/\(s.cl.head.args.length:Int)=p.ar
theorem zma(next:Int)(p:Prc)(seen:List Int)(s:Sto):okSt next p seen s=true↔s.id ∉ seen/\okS next p s:=by
 unfold okSt okS
 simp only[Bool.and_eq_true,decide_eq_true_eq]
 constructor
 ·rintro⟨a,b,c,d,e,f⟩
  exact⟨c,a,b,d,e,f⟩
 ·rintro⟨c,a,b,d,e,f⟩
  exact⟨a,b,c,d,e,f⟩
theorem zit(next:Int)(p:Prc):∀(l:List Sto) (seen s':List Int),okSs next p seen l=some s'↔s'=seen++l.map (·.id)/\(l.map (·.id)).Nodup/\(∀x∈l,x.id ∉ seen)/\∀s∈l,okS next p s
 |[],seen,s'=>by simp[okSs,eq_comm]
 |s::r,seen,s'=>by
  rw[okSs]
  by_cases h:okSt next p seen s=true
  ·rw[if_pos h,zit next p r]
   obtain⟨h1,h2⟩:=(zma ..).1 h
   constructor
   ·rintro⟨rfl,g1,g2,g3⟩
    refine⟨by simp,List.nodup_cons.2 ⟨fun hm=> ?_,g1⟩,fun x hx=> ?_,fun x hx=> ?_⟩
    ·obtain⟨u,hu,e⟩:=List.mem_map.1 hm
     exact g2 u hu (by rw[e];simp)
    ·rcases List.mem_cons.1 hx with rfl|hx
     ·exact h1
     ·exact fun hm=>g2 x hx (by simp[hm])
    ·rcases List.mem_cons.1 hx with rfl|hx
     ·exact h2
     ·exact g3 x hx
   ·rintro⟨rfl,g1,g2,g3⟩
    obtain⟨k1,k2⟩:=List.nodup_cons.1 g1
    refine⟨by simp,k2,fun x hx hm=> ?_,fun x hx=>g3 x (List.mem_cons_of_mem _ hx)⟩
    rcases List.mem_append.1 hm with hm|hm
    ·exact g2 x (List.mem_cons_of_mem _ hx) hm
    ·exact k1 (List.mem_map.2 ⟨x,hx,by simpa using hm⟩)
  ·rw[if_neg h]
   constructor
   ·intro hh
    cases hh
   ·rintro⟨_,_,g2,g3⟩
    exact absurd ((zma ..).2 ⟨g2 s List.mem_cons_self,g3 s List.mem_cons_self⟩) h
def OkP(next:Int)(l:List Prc):Prop:=(∀p∈l,namB p=true)/\l.Pairwise (fun a b=>ordP a b<0)/\(ids l).Nodup/\∀p∈l,∀s∈p.cls,okS next p s
theorem zpT(next:Int):∀(l:List Prc) (q:Option Prc) (seen:List Int),okPs next q seen l=true->OkP next l/\(∀p,l.head? =some p->preB q p=true)/\∀x∈ids l,x ∉ seen
 |[],q,seen,_=>⟨⟨fun p h=>(by cases h),List.Pairwise.nil,List.nodup_nil,fun p h=>(by cases h)⟩,fun p h=>(by cases h),fun x h=>(by cases h)⟩
 |x::r,q,seen,h=>by
  rw[okPs,Bool.and_eq_true,Bool.and_eq_true] at h
  obtain⟨h1,h2,h3⟩:=h
  split at h3
  ·cases h3
  ·rename_i s' hs
   obtain⟨rfl,e2,e3,e4⟩:=(zit ..).1 hs
   obtain⟨⟨g1,g2,g3,g4⟩,g5,g6⟩:=zpT next r (some x) _ h3
   have hx:∀b∈r,ordP x b<0:=by
    intro b hb
    cases r with
    |nil=>cases hb
    |cons y r'=>
     have h0:ordP x y<0:=of_decide_eq_true (g5 y rfl)
     rcases List.mem_cons.1 hb with rfl|hb
     ·exact h0
     ·exact zfi h0 ((List.pairwise_cons.1 g2).1 b hb)
   refine⟨⟨fun p hp=> ?_,List.pairwise_cons.2 ⟨hx,g2⟩,?_,fun p hp=> ?_⟩,fun p hp=>by cases hp;exact h2,fun y hy=> ?_⟩
   ·rcases List.mem_cons.1 hp with rfl|hp
    ·exact h1
    ·exact g1 p hp
   ·rw[zci,List.nodup_append]
    refine⟨e2,g3,fun a ha b hb e=> ?_⟩
    subst e
    exact g6 a hb (List.mem_append_right _ ha)
   ·rcases List.mem_cons.1 hp with rfl|hp
    ·exact e4
    ·exact g4 p hp
   ·rw[zci] at hy
    rcases List.mem_append.1 hy with hy|hy
    ·obtain⟨u,hu,rfl⟩:=List.mem_map.1 hy
     exact e3 u hu
    ·exact fun hm=>g6 y hy (List.mem_append_left _ hm)
theorem zmb(next:Int):∀(l:List Prc) (q:Option Prc) (seen:List Int),OkP next l->(∀p,l.head? =some p->preB q p=true)->(∀x∈ids l,x ∉ seen)->okPs next q seen l=true
 |[],q,seen,_,_,_=>rfl
 |x::r,q,seen,⟨h1,h2,h3,h4⟩,h5,h6=>by
  rw[okPs,h1 x List.mem_cons_self,h5 x rfl]
  rw[zci,List.nodup_append] at h3
  obtain⟨k1,k2⟩:=List.pairwise_cons.1 h2
  have hs:okSs next x seen x.cls=some (seen++x.cls.map (·.id)):=(zit ..).2 ⟨rfl,h3.1,fun u hu=>h6 u.id (by rw[zci];exact List.mem_append_left _ (List.mem_map.2 ⟨u,hu,rfl⟩)),h4 x List.mem_cons_self⟩
  rw[hs]
  simp only[Bool.true_and]
  refine zmb next r (some x) _ ⟨fun p hp=>h1 p (List.mem_cons_of_mem _ hp),k2,h3.2.1,fun p hp=>h4 p (List.mem_cons_of_mem _ hp)⟩ (fun p hp=> ?_) fun y hy hm=> ?_
  ·exact decide_eq_true (k1 p (List.mem_of_mem_head? (by rw[hp];rfl)))
  ·rcases List.mem_append.1 hm with hm|hm
   ·exact h6 y (by rw[zci];exact List.mem_append_right _ hy) hm
   ·exact h3.2.2 y hm y hy rfl
theorem zbW(d:Dbs):okD d=true↔1<=d.next/\d.next<=4294967296/\d.procs.length<=500/\totD d.procs<=500/\OkP d.next d.procs:=by
 simp only[okD,Bool.and_eq_true,decide_eq_true_eq]
 constructor
 ·rintro⟨a,b,c,e,f⟩
  exact⟨a,b,c,e,(zpT _ _ _ _ f).1⟩
 ·rintro⟨a,b,c,e,f⟩
  exact⟨a,b,c,e,zmb _ _ _ _ f (fun _ _=>rfl) fun _ _ h=>by cases h⟩
theorem OkP.mono{n n':Int}{l:List Prc}(h:OkP n l)(hn:n<=n'):OkP n' l:=⟨h.1,h.2.1,h.2.2.1,fun p hp s hs=>by
 obtain⟨a,b,c⟩:=h.2.2.2 p hp s hs
 exact⟨a,by omega,c⟩⟩
theorem zgE(next:Int)(A B:List Prc)(q:Prc):OkP next (A++q::B)↔OkP next (A++B)/\namB q=true/\(∀a∈A,ordP a q<0)/\(∀b∈B,ordP q b<0)/\(q.cls.map (·.id)).Nodup/\(∀s∈q.cls,s.id ∉ ids (A++B))/\∀s∈q.cls,okS next q s:=by
 have hperm:(ids (A++q::B)).Perm (q.cls.map (·.id)++ids (A++B)):=by
  rw[zld,zci,zld,<-List.append_assoc,<-List.append_assoc]
  exact List.Perm.append_right _ List.perm_append_comm
 unfold OkP
 rw[hperm.nodup_iff,List.nodup_append,List.pairwise_append,List.pairwise_append,List.pairwise_cons]
 constructor
 ·rintro⟨h1,⟨h2,⟨h3,h4⟩,h5⟩,⟨h6,h7,h8⟩,h9⟩
  have hs:∀p,p∈A++B->p∈A++q::B:=fun p hp=>by
   rcases List.mem_append.1 hp with hp|hp
   ·exact List.mem_append_left _ hp
   ·exact List.mem_append_right _ (List.mem_cons_of_mem _ hp)
  have hq:q∈A++q::B:=List.mem_append_right _ List.mem_cons_self
  exact⟨⟨fun p hp=>h1 p (hs p hp),⟨h2,h4,fun a ha b hb=>h5 a ha b (List.mem_cons_of_mem _ hb)⟩,h7,fun p hp=>h9 p (hs p hp)⟩,h1 q hq,fun a ha=>h5 a ha q List.mem_cons_self,h3,h6,fun s hs' hm=>h8 s.id (List.mem_map.2 ⟨s,hs',rfl⟩) s.id hm rfl,h9 q hq⟩
 ·rintro⟨⟨h1,⟨h2,h4,h5⟩,h7,h9⟩,g1,g2,g3,g4,g5,g6⟩
  have hc:∀p,p∈A++q::B->p=q\/p∈A++B:=fun p hp=>by
   rcases List.mem_append.1 hp with hp|hp
   ·exact .inr (List.mem_append_left _ hp)
   ·rcases List.mem_cons.1 hp with hp|hp
    ·exact .inl hp
    ·exact .inr (List.mem_append_right _ hp)
  refine⟨fun p hp=> ?_,⟨h2,⟨g3,h4⟩,fun a ha b hb=> ?_⟩,⟨g4,h7,fun a ha b hb e=> ?_⟩,fun p hp=> ?_⟩
  ·rcases hc p hp with rfl|hp
   ·exact g1
   ·exact h1 p hp
  ·rcases List.mem_cons.1 hb with rfl|hb
   ·exact g2 a ha
   ·exact h5 a ha b hb
  ·subst e
   obtain⟨u,hu,rfl⟩:=List.mem_map.1 ha
   exact g5 u hu hb
  ·rcases hc p hp with rfl|hp
   ·exact g6
   ·exact h9 p hp
theorem zeS{p q p' q':Prc}(h1:p.name=p'.name)(h2:p.ar=p'.ar)(h3:q.name=q'.name)(h4:q.ar=q'.ar):ordP p q=ordP p' q':=by
 unfold ordP
 rw[h1,h2,h3,h4]
theorem zrV:∀a b:List UInt8,Op.bytesLess a b=false->a≠b->Op.bytesLess b a=true
 |[],[],_,h=>absurd rfl h
 |[],_::_,h,_=>by simp[Op.bytesLess] at h
 |_::_,[],_,_=>rfl
 |x::a,y::b,h,hne=>by
  simp only[Op.bytesLess,Bool.or_eq_false_iff,Bool.and_eq_false_iff,Bool.or_eq_true,Bool.and_eq_true,decide_eq_true_eq,decide_eq_false_iff_not,beq_iff_eq,beq_eq_false_iff_ne] at h ⊢
  obtain⟨h1,h2⟩:=h
  by_cases e:x=y
  ·subst e
   rcases h2 with h2|h2
   ·exact absurd rfl h2
   ·exact .inr ⟨rfl,zrV a b h2 fun e=>hne (by rw[e])⟩
  ·left
   rw[UInt8.lt_iff_toNat_lt] at*
   have:x.toNat≠y.toNat:=fun h=>e (UInt8.toNat_inj.1 h)
   omega
theorem zpU{p q:Prc}(h1:¬ordP p q<0)(h2:ordP p q≠0):ordP q p<0:=by
 rw[zl0] at h1 ⊢
 rw[Ne,ordP_zero] at h2
 by_cases e:p.name=q.name
 ·right
  refine⟨e.symm,?_⟩
  have a:¬p.ar<q.ar:=fun h=>h1 (.inr ⟨e,h⟩)
  have b:p.ar≠q.ar:=fun h=>h2 ⟨e,h⟩
  omega
 ·left
  refine zrV _ _ ?_ e
  cases h:Op.bytesLess p.name q.name with
  |false=>rfl
  |true=>exact absurd (.inl h) h1
theorem zpV{l:List Prc}(h:l.Pairwise (fun a b=>ordP a b<0)):IncP l:=fun i j a b hij ha hb=>by
 obtain⟨h1,e1⟩:=List.getElem?_eq_some_iff.1 ha
 obtain⟨h2,e2⟩:=List.getElem?_eq_some_iff.1 hb
 rw[<-e1,<-e2]
 exact List.pairwise_iff_getElem.1 h i j h1 h2 hij
theorem zsV{l:List Prc}(k:Prc)(h:l.Pairwise (fun a b=>ordP a b<0)):(∀a∈l.take (lbD l k),ordP a k<0)/\∀b∈l.drop (lbD l k),¬ordP b k<0:=by
 have hi:=zpV h
 constructor
 ·intro a ha
  obtain⟨j,hj⟩:=List.mem_iff_getElem?.1 ha
  rw[List.getElem?_take] at hj
  split at hj
  ·rename_i hlt
   exact(zdX hi hj).2 hlt
  ·cases hj
 ·intro b hb
  obtain⟨j,hj⟩:=List.mem_iff_getElem?.1 hb
  rw[List.getElem?_drop] at hj
  intro hlt
  have:=(zdX hi hj).1 hlt
  omega
theorem zle{l:List Prc}(k:Prc)(h:l.Pairwise (fun a b=>ordP a b<0)):fnD l k=true↔∃p∈l,ordP p k=0:=by
 have hi:=zpV h
 constructor
 ·intro hf
  obtain⟨p,hp⟩:=zfT hf
  refine⟨p,List.mem_of_getElem? hp,?_⟩
  unfold fnD at hf
  rw[hp] at hf
  exact of_decide_eq_true hf
 ·rintro⟨p,hp,e⟩
  obtain⟨j,hj⟩:=List.mem_iff_getElem?.1 hp
  have h1:¬j<lbD l k:=fun hlt=>by
   have:=(zdX hi hj).2 hlt
   omega
  have h2:¬lbD l k<j:=fun hlt=>by
   have hl:lbD l k<l.length:=by
    have:=(List.getElem?_eq_some_iff.1 hj).1
    omega
   have hx:=hi _ j _ p hlt (List.getElem?_eq_getElem hl) hj
   have hz:=ordP_zero.1 e
   have hx':ordP l[lbD l k] k<0:=by
    rw[<-zeS rfl rfl hz.1 hz.2]
    exact hx
   have:=(zdX hi (List.getElem?_eq_getElem hl)).1 hx'
   omega
  have e3:j=lbD l k:=by omega
  subst e3
  unfold fnD
  rw[hj]
  exact decide_eq_true e
theorem zlf{l:List Prc}{k p:Prc}(h:l.Pairwise (fun a b=>ordP a b<0))(hp:p∈l)(e:ordP p k=0):l[lbD l k]? =some p:=by
 have hi:=zpV h
 have hf:=(zle k h).2 ⟨p,hp,e⟩
 obtain⟨q,hq⟩:=zfT hf
 have e2:ordP q k=0:=by
  unfold fnD at hf
  rw[hq] at hf
  exact of_decide_eq_true hf
 obtain⟨j,hj⟩:=List.mem_iff_getElem?.1 hp
 have z1:=ordP_zero.1 e
 have z2:=ordP_zero.1 e2
 have e0:ordP p q=0:=ordP_zero.2 ⟨z1.1.trans z2.1.symm,z1.2.trans z2.2.symm⟩
 have e1:ordP q p=0:=ordP_zero.2 ⟨z2.1.trans z1.1.symm,z2.2.trans z1.2.symm⟩
 rcases Nat.lt_trichotomy j (lbD l k) with hlt|hlt|hlt
 ·have:=hi _ _ _ _ hlt hj hq
  omega
 ·rw[<-hlt,hj]
 ·have:=hi _ _ _ _ hlt hq hj
  omega
theorem zbw{d:Dbs}(hv:okD d=true)(s:List UInt8)(a:Int)(p:Prc):zbI d s a=some p↔p∈d.procs/\p.name=s/\p.ar=a:=by
 have hpw:=((zbW d).1 hv).2.2.2.2.2.1
 unfold zbI
 rw[if_pos hv]
 constructor
 ·intro h
  split at h
  ·rename_i hf
   refine⟨List.mem_of_getElem? h,?_⟩
   unfold fnD at hf
   rw[h] at hf
   exact ordP_zero.1 (of_decide_eq_true hf)
  ·cases h
 ·rintro⟨h1,h2,h3⟩
  have e:ordP p (keyP s a)=0:=ordP_zero.2 ⟨h2,h3⟩
  rw[if_pos ((zle _ hpw).2 ⟨p,h1,e⟩)]
  exact zlf hpw h1 e
theorem zeT{d:Dbs}(hv:okD d=true):BndD d:=by
 have h:=(zbW d).1 hv
 refine⟨by omega,by omega,fun p hp s hs=> ?_⟩
 obtain⟨vh,vb⟩:=zfF hv p hp s hs
 have h1:=zbH vh
 have h2:=zbH vb
 omega
theorem ztJ:BndD zDb:=⟨by decide,by decide,fun p hp=>by cases hp⟩
theorem zhu{α:Type}{l:List α}{i:Nat}{x:α}(h:l[i]? =some x):l=l.take i++x::l.drop (i+1):=by
 rw[<-zfS h,List.take_append_drop]
theorem zmf{α:Type}{l:List α}{i:Nat}{x:α}(h:l[i]? =some x)(y:α):l.set i y=l.take i++y::l.drop (i+1):=by
 have hi:=(List.getElem?_eq_some_iff.1 h).1
 rw[List.set_eq_take_append_cons_drop,if_pos hi]
theorem zfU(A B:List Prc):totD (A++B)=totD A+totD B:=by simp[totD]
theorem zeU(p:Prc)(B:List Prc):totD (p::B)=p.cls.length+totD B:=by simp[totD]
theorem zrz{l:List Prc}{i:Nat}{p:Prc}(h:l[i]? =some p)(q:Prc):totD (l.set i q)+p.cls.length=totD l+q.cls.length:=by
 have e:totD l=totD (l.take i++p::l.drop (i+1)):=by rw[<-zhu h]
 rw[zmf h,e,zfU,zfU,zeU,zeU]
 omega
theorem zef{l:List Prc}{i:Nat}{p:Prc}(h:l[i]? =some p)(q x:Prc):x∈l.set i q↔x=q\/x∈l.take i++l.drop (i+1):=by
 rw[zmf h]
 simp only[List.mem_append,List.mem_cons]
 constructor
 ·rintro(h|h|h)
  ·exact .inr (.inl h)
  ·exact .inl h
  ·exact .inr (.inr h)
 ·rintro(h|h|h)
  ·exact .inr (.inl h)
  ·exact .inl h
  ·exact .inr (.inr h)
theorem zgG{l:List Prc}{i:Nat}{p:Prc}(h:l[i]? =some p)(x:Prc):x∈l↔x=p\/x∈l.take i++l.drop (i+1):=by
 have e:=zef h p x
 rw[zl4 h] at e
 exact e
theorem zsY{l m:List Prc}(h:∀x∈l,x∈m){y:Int}(hy:y∈ids l):y∈ids m:=by
 obtain⟨p,hp,s,hs,e⟩:=mem_ids.1 hy
 exact mem_ids.2 ⟨p,h p hp,s,hs,e⟩
theorem zp0{n:Int}{p q:Prc}{s:Sto}(h:okS n p s)(h1:p.name=q.name)(h2:p.ar=q.ar):okS n q s:=by
 obtain⟨a,b,c,d,e⟩:=h
 exact⟨a,b,c,by rw[d,h1],by rw[e,h2]⟩
theorem ztK{n n':Int}{l:List Prc}{i:Nat}{p q:Prc}(h:OkP n l)(hp:l[i]? =some p)(hn:q.name=p.name)(ha:q.ar=p.ar)(hle:n<=n')(hnd:(q.cls.map (·.id)).Nodup)(hfr:∀s∈q.cls,s∈p.cls\/s.id ∉ ids l)(hok:∀s∈q.cls,okS n' q s):OkP n' (l.set i q):=by
 rw[zmf hp]
 rw[zhu hp] at h
 obtain⟨g1,g2,g3,g4,g5,g6,g7⟩:=(zgE ..).1 h
 refine(zgE ..).2 ⟨g1.mono hle,?_,fun a ha'=> ?_,fun b hb=> ?_,hnd,fun s hs=> ?_,hok⟩
 ·unfold namB at g2 ⊢
  rw[hn,ha]
  exact g2
 ·rw[zeS rfl rfl hn ha]
  exact g3 a ha'
 ·rw[zeS hn ha rfl rfl]
  exact g4 b hb
 ·rcases hfr s hs with hc|hc
  ·exact g6 s hc
  ·exact fun hm=>hc (zsY (fun x hx=>(zgG hp x).2 (.inr hx)) hm)
theorem ztL{n n':Int}{l:List Prc}{q:Prc}(h:OkP n l)(hf:fnD l (keyP q.name q.ar)=false)(hnm:namB q=true)(hle:n<=n')(hnd:(q.cls.map (·.id)).Nodup)(hfr:∀s∈q.cls,s.id ∉ ids l)(hok:∀s∈q.cls,okS n' q s):OkP n' (l.take (lbD l (keyP q.name q.ar))++q::l.drop (lbD l (keyP q.name q.ar))):=by
 obtain⟨c1,c2⟩:=zsV (keyP q.name q.ar) h.2.1
 have ht:l.take (lbD l (keyP q.name q.ar))++l.drop (lbD l (keyP q.name q.ar))=l:=List.take_append_drop _ _
 refine(zgE ..).2 ⟨by rw[ht];exact h.mono hle,hnm,fun a ha=> ?_,fun b hb=> ?_,hnd,fun s hs=>by rw[ht];exact hfr s hs,hok⟩
 ·rw[zeS (q:=q) (q':=keyP q.name q.ar) rfl rfl rfl rfl]
  exact c1 a ha
 ·rw[zeS (p:=q) (p':=keyP q.name q.ar) rfl rfl rfl rfl]
  refine zpU (c2 b hb) fun e=> ?_
  rw[(zle _ h.2.1).2 ⟨b,List.mem_of_mem_drop hb,e⟩] at hf
  cases hf
def ApR(d n:Dbs)(s:List UInt8)(a:Int):Prop:=∀p∈d.procs,¬(p.name=s/\p.ar=a)->zbI n p.name p.ar=some p
theorem zp1{d n:Dbs}{s:List UInt8}{a:Int}(hn:okD n=true)(h:∀p∈d.procs,¬(p.name=s/\p.ar=a)->p∈n.procs):ApR d n s a:=fun p hp hk=>(zbw hn _ _ _).2 ⟨h p hp hk,rfl,rfl⟩
theorem zrA{d:Dbs}(hv:okD d=true){s:List UInt8}{a:Int}(hf:fnD d.procs (keyP s a)=true):∃p,d.procs[lbD d.procs (keyP s a)]? =some p/\p.name=s/\p.ar=a/\zbI d s a=some p:=by
 obtain⟨p,hpp⟩:=zfT hf
 have e:zbI d s a=some p:=by
  unfold zbI
  rw[if_pos hv,if_pos hf,hpp]
 exact⟨p,hpp,((zbw hv ..).1 e).2.1,((zbw hv ..).1 e).2.2,e⟩
theorem ztM{d:Dbs}{s:List UInt8}{a:Int}(hf:fnD d.procs (keyP s a)=false):zbI d s a=none:=by
 unfold zbI
 rw[hf]
 simp
theorem zmc(l:List Prc):totD l=(ids l).length:=by
 induction l with
 |nil=>rfl
 |cons p r ih=>rw[zeU,zci,List.length_append,List.length_map,ih]
theorem zsW{c:Cz}(h:okC c=true):namB (keyP c.head.name c.head.args.length)=true:=by
 have hv:=(zgz h).1
 simp only[okC,Bool.and_eq_true,Bool.or_eq_true,decide_eq_true_eq] at h
 have hk:=h.2.1
 simp only[Tm.valid,Bool.and_eq_true] at hv
 have hf:=hv.2
 rw[Tm.zuf,Bool.and_eq_true] at hf
 have hn:=hf.1
 unfold Tm.node at hn
 unfold namB keyP
 rcases hk with hk|hk
 ·rw[hk] at hn
  simp at hn
  simp[hn.2]
  omega
 ·rw[hk] at hn
  simp at hn
  simp
  omega
theorem insC_mem{fr:Bool}{s x:Sto}{l:List Sto}:x∈insC fr s l↔x=s\/x∈l:=by
 unfold insC
 split
 ·simp
 ·simp[or_comm]
theorem zrw(fr:Bool)(s:Sto)(l:List Sto):((insC fr s l).map (·.id)).Perm (s.id::l.map (·.id)):=by
 unfold insC
 split
 ·exact List.Perm.refl _
 ·rw[List.map_append]
  exact List.perm_append_comm
theorem zgF{d:Dbs}{c:Cz}{fr dy:Bool}(h:(addR d c fr dy).2=0):okD d=true/\okC c=true/\okD (addR d c fr dy).1=true/\(addR d c fr dy).1.next=d.next+1/\totD (addR d c fr dy).1.procs=totD d.procs+1/\(∃dyn,zbI (addR d c fr dy).1 c.head.name c.head.args.length=some ⟨c.head.name,c.head.args.length,dyn,insC fr ⟨d.next,c⟩ ((zbI d c.head.name c.head.args.length).getD zP).cls⟩)/\ApR d (addR d c fr dy).1 c.head.name c.head.args.length:=by
 by_cases hbad:okD d=false\/okC c=false
 ·simp only[addR,if_pos hbad] at h
  cases h
 have hv:okD d=true:=by cases e:okD d with|true=>rfl|false=>exact absurd (Or.inl e) hbad
 have hc:okC c=true:=by cases e:okC c with|true=>rfl|false=>exact absurd (Or.inr e) hbad
 by_cases hfull:totD d.procs=500\/d.next=4294967296
 ·simp only[addR,if_neg hbad,if_pos hfull] at h
  cases h
 obtain⟨d1,d2,d3,d4,d5⟩:=(zbW d).1 hv
 have n1:totD d.procs≠500:=fun e=>hfull (.inl e)
 have n2:d.next≠4294967296:=fun e=>hfull (.inr e)
 have hfresh:d.next ∉ ids d.procs:=fun hm=>by
  obtain⟨p,hp,s,hs,e⟩:=mem_ids.1 hm
  have:=d5.2.2.2 p hp s hs
  have:=this.2.1
  omega
 obtain⟨s,hs⟩:∃s,s=c.head.name:=⟨_,rfl⟩
 obtain⟨a,ha⟩:∃a:Int,a=c.head.args.length:=⟨_,rfl⟩
 have hoks:∀q:Prc,q.name=s->q.ar=a->okS (d.next+1) q ⟨d.next,c⟩:=fun q h1 h2=>⟨d1,by show d.next<d.next+1;omega,hc,by rw[h1,hs],by rw[h2,ha]⟩
 cases hf:fnD d.procs (keyP c.head.name c.head.args.length) with
 |true=>
  obtain⟨p,hpp,hpn,hpa,hfd⟩:=zrA hv hf
  have e:addR d c fr dy=(⟨d.next+1,d.procs.set (lbD d.procs (keyP c.head.name c.head.args.length)) ⟨p.name,p.ar,p.dyn,insC fr ⟨d.next,c⟩ p.cls⟩⟩,0):=by simp only[addR,if_neg hbad,if_neg hfull,hf,hpp]
  rw[e,hfd]
  have hpm:=List.mem_of_getElem? hpp
  have ht:=zrz hpp ⟨p.name,p.ar,p.dyn,insC fr ⟨d.next,c⟩ p.cls⟩
  have hil:=zhw fr ⟨d.next,c⟩ p.cls
  have ht':totD (d.procs.set (lbD d.procs (keyP c.head.name c.head.args.length)) ⟨p.name,p.ar,p.dyn,insC fr ⟨d.next,c⟩ p.cls⟩)=totD d.procs+1:=by
   show _=_
   have:(Prc.mk p.name p.ar p.dyn (insC fr ⟨d.next,c⟩ p.cls)).cls.length=p.cls.length+1:=hil
   omega
  have hnd:(p.cls.map (·.id)).Nodup:=by
   have d5':=d5
   rw[zhu hpp] at d5'
   exact((zgE ..).1 d5').2.2.2.2.1
  have hok:okD ⟨d.next+1,d.procs.set (lbD d.procs (keyP c.head.name c.head.args.length)) ⟨p.name,p.ar,p.dyn,insC fr ⟨d.next,c⟩ p.cls⟩⟩=true:=by
   refine(zbW _).2 ⟨by show 1<=d.next+1;omega,by show d.next+1<=4294967296;omega,by simpa using d3,by rw[show(Dbs.mk (d.next+1) _).procs=_ from rfl,ht'];omega,ztK d5 hpp rfl rfl (by show d.next<=d.next+1;omega) ?_ (fun x hx=> ?_) fun x hx=> ?_⟩
   ·rw[(zrw _ _ _).nodup_iff,List.nodup_cons]
    refine⟨fun hm=> ?_,hnd⟩
    obtain⟨u,hu,e2⟩:=List.mem_map.1 hm
    exact hfresh (mem_ids.2 ⟨p,hpm,u,hu,e2⟩)
   ·rcases insC_mem.1 hx with rfl|hx
    ·exact .inr hfresh
    ·exact .inl hx
   ·rcases insC_mem.1 hx with rfl|hx
    ·exact hoks _ (by rw[hs];exact hpn) (by rw[ha];exact hpa)
    ·have:=zp0 (q:=⟨p.name,p.ar,p.dyn,insC fr ⟨d.next,c⟩ p.cls⟩) (d5.2.2.2 p hpm x hx) rfl rfl
     exact⟨this.1,by have:=this.2.1;show x.id<d.next+1;omega,this.2.2⟩
  refine⟨hv,hc,hok,rfl,ht',⟨p.dyn,(zbw hok ..).2 ⟨(zef hpp _ _).2 (.inl ?_),rfl,rfl⟩⟩,zp1 hok fun q hq hk=>(zef hpp _ _).2 (.inr ?_)⟩
  ·rw[hpn,hpa]
   rfl
  ·rcases(zgG hpp q).1 hq with rfl|hq
   ·exact absurd ⟨hpn,hpa⟩ hk
   ·exact hq
 |false=>
  by_cases hl:d.procs.length=500
  ·simp only[addR,if_neg hbad,if_neg hfull,hf,if_pos hl] at h
   cases h
  have e:addR d c fr dy=(⟨d.next+1,d.procs.take (lbD d.procs (keyP c.head.name c.head.args.length))++(⟨c.head.name,c.head.args.length,dy,[⟨d.next,c⟩]⟩:Prc)::d.procs.drop (lbD d.procs (keyP c.head.name c.head.args.length))⟩,0):=by simp only[addR,if_neg hbad,if_neg hfull,hf,if_neg hl]
  rw[e,ztM hf]
  have ht:totD d.procs=totD (d.procs.take (lbD d.procs (keyP c.head.name c.head.args.length))++d.procs.drop (lbD d.procs (keyP c.head.name c.head.args.length))):=by rw[List.take_append_drop]
  rw[zfU] at ht
  have ht':totD (d.procs.take (lbD d.procs (keyP c.head.name c.head.args.length))++(⟨c.head.name,c.head.args.length,dy,[⟨d.next,c⟩]⟩:Prc)::d.procs.drop (lbD d.procs (keyP c.head.name c.head.args.length)))=totD d.procs+1:=by
   rw[zfU,zeU,ht]
   show _+(1+_)=_
   omega
  have hok:okD ⟨d.next+1,d.procs.take (lbD d.procs (keyP c.head.name c.head.args.length))++(⟨c.head.name,c.head.args.length,dy,[⟨d.next,c⟩]⟩:Prc)::d.procs.drop (lbD d.procs (keyP c.head.name c.head.args.length))⟩=true:=by
   have hlb:=zpL d.procs (keyP c.head.name c.head.args.length)
   refine(zbW _).2 ⟨by show 1<=d.next+1;omega,by show d.next+1<=4294967296;omega,?_,by rw[show(Dbs.mk (d.next+1) _).procs=_ from rfl,ht'];omega,ztL (q:=⟨c.head.name,c.head.args.length,dy,[⟨d.next,c⟩]⟩) d5 hf (zsW hc) (by show d.next<=d.next+1;omega) (List.nodup_cons.2 ⟨by simp,List.nodup_nil⟩) (fun x hx=> ?_) fun x hx=> ?_⟩
   ·simp
    omega
   ·rcases List.mem_singleton.1 hx with rfl
    exact hfresh
   ·rcases List.mem_singleton.1 hx with rfl
    exact hoks _ hs.symm ha.symm
  refine⟨hv,hc,hok,rfl,ht',⟨dy,(zbw hok ..).2 ⟨List.mem_append_right _ (List.mem_cons.2 (.inl ?_)),rfl,rfl⟩⟩,zp1 hok fun q hq hk=> ?_⟩
  ·unfold insC
   split <;> rfl
  ·show q∈_++_::_
   rw[<-List.take_append_drop (lbD d.procs (keyP c.head.name c.head.args.length)) d.procs] at hq
   rcases List.mem_append.1 hq with hq|hq
   ·exact List.mem_append_left _ hq
   ·exact List.mem_append_right _ (List.mem_cons_of_mem _ hq)
theorem zpW(d:Dbs)(c:Cz)(fr dy:Bool):(addR d c fr dy).2=0\/(addR d c fr dy).1=zDb:=by
 unfold addR
 split
 ·exact .inr rfl
 ·split
  ·exact .inr rfl
  ·split
   ·exact .inl rfl
   ·split
    ·exact .inr rfl
    ·exact .inl rfl
theorem zrx(d:Dbs)(c:Cz)(fr dy:Bool):BndD (addR d c fr dy).1:=by
 rcases zpW d c fr dy with h|h
 ·exact zeT (zgF h).2.2.1
 ·rw[h]
  exact ztJ
def rmP(id:Int)(p:Prc):Prc:=⟨p.name,p.ar,p.dyn,p.cls.filter fun s=>decide (s.id≠id)⟩
theorem zmd{id:Int}{p:Prc}(h:∀s∈p.cls,s.id≠id):rmP id p=p:=by
 unfold rmP
 rw[List.filter_eq_self.2 fun s hs=>decide_eq_true (h s hs)]
theorem zjY{id:Int}{l:List Prc}(h:id ∉ ids l):l.map (rmP id)=l:=by
 have e:∀p∈l,rmP id p=p:=fun p hp=>zmd fun s hs e=>h (mem_ids.2 ⟨p,hp,s,hs,e⟩)
 rw[List.map_congr_left (g:=fun p=>p) e]
 simp
theorem zpX(id:Int)(l:List Prc):ids (l.map (rmP id))=(ids l).filter fun x=>decide (x≠id):=by
 induction l with
 |nil=>rfl
 |cons p r ih=>
  rw[List.map_cons,zci,zci,ih,List.filter_append]
  congr 1
  show((p.cls.filter _).map _)=_
  rw[List.filter_map]
  rfl
theorem zlg(l:List Prc)(id:Int):whR l id=none↔id ∉ ids l:=by
 constructor
 ·intro h hm
  obtain⟨p,hp,s,hs,e⟩:=mem_ids.1 hm
  induction l with
  |nil=>cases hp
  |cons x r ih=>
   rw[whR] at h
   split at h
   ·cases h
   ·rename_i hk
    split at h
    ·cases h
    ·rename_i hr
     rcases List.mem_cons.1 hp with rfl|hp
     ·unfold idS at hk
      rw[List.findIdx?_eq_none_iff] at hk
      have:=hk s hs
      rw[decide_eq_true e] at this
      cases this
     ·exact ih hr (mem_ids.2 ⟨p,hp,s,hs,e⟩) hp
 ·intro h
  exact ziq fun j q hq=>zl5 fun k u hu e=>h (mem_ids.2 ⟨q,List.mem_of_getElem? hq,u,List.mem_of_getElem? hu,e⟩)
theorem zny{l:List Sto}{k:Nat}{s:Sto}(h:l[k]? =some s)(hn:(l.map (·.id)).Nodup):l.take k++l.drop (k+1)=l.filter fun x=>decide (x.id≠s.id):=by
 have e:=zhu h
 obtain⟨A,hA⟩:∃A,A=l.take k:=⟨_,rfl⟩
 obtain⟨B,hB⟩:∃B,B=l.drop (k+1):=⟨_,rfl⟩
 rw[<-hA,<-hB] at e ⊢
 rw[e,List.map_append,List.map_cons,List.nodup_append,List.nodup_cons] at hn
 obtain⟨n1,⟨n2,n3⟩,n4⟩:=hn
 rw[e,List.filter_append,List.filter_cons_of_neg (by simp),List.filter_eq_self.2,List.filter_eq_self.2]
 ·intro x hx
  refine decide_eq_true fun e2=>n2 (List.mem_map.2 ⟨x,hx,e2⟩)
 ·intro x hx
  exact decide_eq_true fun e2=>n4 x.id (List.mem_map.2 ⟨x,hx,rfl⟩) s.id List.mem_cons_self e2
theorem zme{d:Dbs}{id:Int}(hv:okD d=true)(h:id∈ids d.procs):eraR d id=(⟨d.next,d.procs.map (rmP id)⟩,true):=by
 cases hw:whR d.procs id with
 |none=>exact absurd h ((zlg ..).1 hw)
 |some x=>
  obtain⟨i,k⟩:=x
  obtain⟨p,s,hpp,hs,hsi⟩:=zgB hw
  have d5:=((zbW d).1 hv).2.2.2.2
  have d5':=d5
  rw[zhu hpp] at d5'
  obtain⟨g1,g2,g3,g4,g5,g6,g7⟩:=(zgE ..).1 d5'
  have hsm:=List.mem_of_getElem? hs
  have hout:=g6 s hsm
  rw[hsi,zld,List.mem_append,not_or] at hout
  have e1:cutC p k=rmP id p:=by
   unfold cutC rmP
   rw[zny hs g5,hsi]
  have e2:d.procs.modify i (fun p=>cutC p k)=d.procs.map (rmP id):=by
   rw[ziw hpp,zmf hpp,e1]
   have e3:d.procs.map (rmP id)=(d.procs.take i++p::d.procs.drop (i+1)).map (rmP id):=by rw[<-zhu hpp]
   rw[e3,List.map_append,List.map_cons,zjY hout.1,zjY hout.2]
  simp only[eraR,hv,hw,e2]
  rfl
theorem eraR_iff{d:Dbs}{id:Int}:(eraR d id).2=true↔okD d=true/\id∈ids d.procs:=by
 constructor
 ·intro h
  by_cases hv:okD d=true
  ·refine⟨hv,Classical.byContradiction fun hm=> ?_⟩
   have hw:=(zlg d.procs id).2 hm
   simp only[eraR,hv,hw] at h
   cases h
  ·have hv':okD d=false:=by simpa using hv
   simp only[eraR,if_pos hv'] at h
   cases h
 ·rintro⟨hv,hm⟩
  rw[zme hv hm]
theorem zrW{x:Int}:∀{l:List Int},l.Nodup->x∈l->(l.filter fun y=>decide (y≠x)).length+1=l.length
 |[],_,h=>by cases h
 |y::r,hn,h=>by
  obtain⟨n1,n2⟩:=List.nodup_cons.1 hn
  by_cases e:y=x
  ·subst e
   rw[List.filter_cons_of_neg (by simp),List.filter_eq_self.2]
   ·rfl
   ·exact fun z hz=>decide_eq_true fun e=>n1 (e▸hz)
  ·rw[List.filter_cons_of_pos (by simpa using e)]
   rcases List.mem_cons.1 h with h|h
   ·exact absurd h.symm e
   ·have:=zrW n2 h
    simp only[List.length_cons]
    omega
theorem zua{n:Int}{l:List Prc}(id:Int)(h:OkP n l):OkP n (l.map (rmP id)):=by
 refine⟨fun p hp=> ?_,?_,?_,fun p hp s hs=> ?_⟩
 ·obtain⟨q,hq,rfl⟩:=List.mem_map.1 hp
  exact h.1 q hq
 ·rw[List.pairwise_map]
  exact h.2.1
 ·rw[zpX]
  exact h.2.2.1.filter _
 ·obtain⟨q,hq,rfl⟩:=List.mem_map.1 hp
  exact zp0 (h.2.2.2 q hq s (List.mem_filter.1 hs).1) rfl rfl
theorem zjZ{d:Dbs}{id:Int}(h:(eraR d id).2=true):okD d=true/\id∈ids d.procs/\(eraR d id).1=⟨d.next,d.procs.map (rmP id)⟩/\okD (eraR d id).1=true/\totD (eraR d id).1.procs+1=totD d.procs/\id ∉ ids (eraR d id).1.procs:=by
 obtain⟨hv,hm⟩:=eraR_iff.1 h
 obtain⟨d1,d2,d3,d4,d5⟩:=(zbW d).1 hv
 have e:=zme hv hm
 rw[e]
 have ht:totD (d.procs.map (rmP id))+1=totD d.procs:=by
  rw[zmc,zmc,zpX]
  exact zrW d5.2.2.1 hm
 refine⟨hv,hm,rfl,(zbW _).2 ⟨d1,d2,by simpa using d3,by show totD (d.procs.map (rmP id))<=500;omega,zua id d5⟩,ht,?_⟩
 show id ∉ ids (d.procs.map (rmP id))
 rw[zpX]
 intro hm2
 have:=(List.mem_filter.1 hm2).2
 simp at this
theorem zry(d:Dbs)(id:Int):BndD (eraR d id).1:=by
 cases h:(eraR d id).2 with
 |true=>exact zeT (zjZ h).2.2.2.1
 |false=>
  have e:(eraR d id).1=zDb:=by
   unfold eraR at h ⊢
   split
   ·rfl
   ·rename_i h1
    rw[if_neg h1] at h
    split
    ·rfl
    ·rename_i x hx
     rw[hx] at h
     cases h
  rw[e]
  exact ztJ
theorem zpY{α:Type}{f:α->Int}:∀{l:List α},(l.map f).Nodup->∀{a b:α},a∈l->b∈l->f a=f b->a=b
 |[],_,_,_,h,_,_=>by cases h
 |x::r,hn,a,b,ha,hb,e=>by
  rw[List.map_cons,List.nodup_cons] at hn
  rcases List.mem_cons.1 ha with ha'|ha'
  ·rcases List.mem_cons.1 hb with hb'|hb'
   ·rw[ha',hb']
   ·exact absurd (List.mem_map.2 ⟨b,hb',by rw[<-e,ha']⟩) hn.1
  ·rcases List.mem_cons.1 hb with hb'|hb'
   ·exact absurd (List.mem_map.2 ⟨a,ha',by rw[e,hb']⟩) hn.1
   ·exact zpY hn.2 ha' hb' e
theorem zsX{d:Dbs}(hv:okD d=true){p:Prc}{s:Sto}(hp:p∈d.procs)(hs:s∈p.cls):getR d s.id=some s:=by
 have hm:s.id∈ids d.procs:=mem_ids.2 ⟨p,hp,s,hs,rfl⟩
 cases hw:whR d.procs s.id with
 |none=>exact absurd hm ((zlg ..).1 hw)
 |some x=>
  obtain⟨i,k⟩:=x
  obtain⟨q,u,hqq,hu,e⟩:=zgB hw
  have d5:=((zbW d).1 hv).2.2.2.2
  have hn:((d.procs.flatMap (·.cls)).map (·.id)).Nodup:=by
   rw[List.map_flatMap]
   exact d5.2.2.1
  have hus:u=s:=zpY hn (List.mem_flatMap.2 ⟨q,List.mem_of_getElem? hqq,List.mem_of_getElem? hu⟩) (List.mem_flatMap.2 ⟨p,hp,hs⟩) e
  unfold getR
  rw[if_pos hv,hw]
  simp[hqq,hu,hus]
theorem zpZ{d:Dbs}{c:Cz}{fr dy:Bool}(h:(addR d c fr dy).2=0):getR (addR d c fr dy).1 d.next=some ⟨d.next,c⟩/\(eraR (addR d c fr dy).1 d.next).2=true/\(eraR (addR d c fr dy).1 d.next).1.next=d.next+1/\(∃dyn,zbI (eraR (addR d c fr dy).1 d.next).1 c.head.name c.head.args.length=some ⟨c.head.name,c.head.args.length,dyn,((zbI d c.head.name c.head.args.length).getD zP).cls⟩)/\ApR d (eraR (addR d c fr dy).1 d.next).1 c.head.name c.head.args.length:=by
 obtain⟨hv,hc,hok,hnx,_,⟨dyn,hf⟩,hap⟩:=zgF h
 obtain⟨n,hn⟩:∃n,n=(addR d c fr dy).1:=⟨_,rfl⟩
 rw[<-hn] at hok hnx hf hap ⊢
 obtain⟨hm,_,_⟩:=(zbw hok ..).1 hf
 have hsm:(⟨d.next,c⟩:Sto)∈insC fr ⟨d.next,c⟩ ((zbI d c.head.name c.head.args.length).getD zP).cls:=insC_mem.2 (.inl rfl)
 have hid:d.next∈ids n.procs:=mem_ids.2 ⟨_,hm,_,hsm,rfl⟩
 have hera:(eraR n d.next).2=true:=eraR_iff.2 ⟨hok,hid⟩
 obtain⟨_,_,e,hok2,_,_⟩:=zjZ hera
 have hold:∀p∈d.procs,∀s∈p.cls,s.id≠d.next:=fun p hp s hs=>by
  have:=((zbW d).1 hv).2.2.2.2.2.2.2 p hp s hs
  have:=this.2.1
  omega
 have hwas:∀s∈((zbI d c.head.name c.head.args.length).getD zP).cls,s.id≠d.next:=fun s hs=>by
  cases e2:zbI d c.head.name c.head.args.length with
  |none=>
   rw[e2] at hs
   cases hs
  |some p=>
   rw[e2] at hs
   exact hold p ((zbw hv ..).1 e2).1 s hs
 refine⟨zsX hok hm hsm,hera,by rw[e];exact hnx,⟨dyn,(zbw hok2 ..).2 ⟨?_,rfl,rfl⟩⟩,zp1 hok2 fun q hq hk=> ?_⟩
 ·rw[e]
  refine List.mem_map.2 ⟨_,hm,?_⟩
  unfold rmP
  congr 1
  unfold insC
  split
  ·show(List.filter _ (_::_))=_
   rw[List.filter_cons_of_neg (by simp),List.filter_eq_self.2 fun s hs=>decide_eq_true (hwas s hs)]
  ·show(List.filter _ (_++_))=_
   rw[List.filter_append,List.filter_eq_self.2 fun s hs=>decide_eq_true (hwas s hs),List.filter_cons_of_neg (by simp)]
   simp
 ·rw[e]
  have:=hap q hq hk
  exact List.mem_map.2 ⟨q,((zbw hok ..).1 this).1,zmd fun s hs=>hold q hq s hs⟩
def zt9:List UInt8:=[116,114,117,101]
def zcJ(n:List UInt8):Cz:=⟨⟨2,0,n,[]⟩,⟨2,0,zt9,[]⟩⟩
theorem zsU(n:List UInt8)(hp:Heap):S 10 [.pv none (.str n)] hp=some (.ret (zcJ n).av,hp):=by
 refine zal rfl rfl rfl (zad [(none,.str n)]) rfl ?_
 have b1:zaP [(none,.pv none (.int .i64 0)),(none,.pv none (.int .i64 0)),(none,.pv none (.str [])),(none,.tsl (some 4) [])] [0,2] [.pv none (.int .i64 2),.pv none (.str n)]=some (.agg [(none,.pv none (.int .i64 2)),(none,.pv none (.int .i64 0)),(none,.pv none (.str n)),(none,.tsl (some 4) [])]):=rfl
 have b2:zaP [(none,.pv none (.int .i64 0)),(none,.pv none (.int .i64 0)),(none,.pv none (.str [])),(none,.tsl (some 4) [])] [0,2] [.pv none (.int .i64 2),.pv none (.str [116,114,117,101])]=some (.agg [(none,.pv none (.int .i64 2)),(none,.pv none (.int .i64 0)),(none,.pv none (.str [116,114,117,101])),(none,.tsl (some 4) [])]):=rfl
 have b3:zaP [(some 4,.agg [(none,.pv none (.int .i64 0)),(none,.pv none (.int .i64 0)),(none,.pv none (.str [])),(none,.tsl (some 4) [])]),(some 4,.agg [(none,.pv none (.int .i64 0)),(none,.pv none (.int .i64 0)),(none,.pv none (.str [])),(none,.tsl (some 4) [])])] [0,1] [.agg [(none,.pv none (.int .i64 2)),(none,.pv none (.int .i64 0)),(none,.pv none (.str n)),(none,.tsl (some 4) [])],.agg [(none,.pv none (.int .i64 2)),(none,.pv none (.int .i64 0)),(none,.pv none (.str [116,114,117,101])),(none,.tsl (some 4) [])]]=some (.agg [(some 4,.agg [(none,.pv none (.int .i64 2)),(none,.pv none (.int .i64 0)),(none,.pv none (.str n)),(none,.tsl (some 4) [])]),(some 4,.agg [(none,.pv none (.int .i64 2)),(none,.pv none (.int .i64 0)),(none,.pv none (.str [116,114,117,101])),(none,.tsl (some 4) [])])]):=rfl
 simp -dsimp -implicitDefEqProofs only[go_sem,seval,↓reduceIte,b1,b2,b3,zac (Nat.zero_le _),List.append_assoc,zae,zaa,zaf,zab,Nat.add_assoc,List.length_append]
 try exact⟨_,rfl⟩
def aN:List UInt8:=[97]
def d1E:Dbs:=⟨2,[⟨aN,0,false,[⟨1,zcJ aN⟩]⟩]⟩
def d2E:Dbs:=⟨3,[⟨aN,0,false,[⟨2,zcJ aN⟩,⟨1,zcJ aN⟩]⟩]⟩
def d3E:Dbs:=⟨3,[⟨aN,0,false,[⟨2,zcJ aN⟩]⟩]⟩
theorem k1:okD nilD=true:=by decide+kernel
theorem k2:okD d1E=true:=by decide+kernel
theorem k3:okD d2E=true:=by decide+kernel
theorem a1E:addR nilD (zcJ aN) false false=(d1E,0):=by kernel_rfl
theorem a2E:addR d1E (zcJ aN) true true=(d2E,0):=by kernel_rfl
theorem f2E:zbI d2E aN 0=some ⟨aN,0,false,[⟨2,zcJ aN⟩,⟨1,zcJ aN⟩]⟩:=by kernel_rfl
theorem e2E:eraR d2E 1=(d3E,true):=by kernel_rfl
theorem k4:okD d3E=true:=by decide+kernel
theorem znv(s s':Sh)(p q:PV)(H:Heap):(AV.tuple [.pv s p,.pv s' q]).alone H=some (.tuple [.pv s p,.pv s' q]):=rfl
set_option maxRecDepth 20000 in
theorem zjW:S 9 [] []=some (.ret (.pv none (.bool true)),[]):=by
 refine zal (ps:=[]) rfl rfl rfl rfl rfl ?_
 have z1:(zcJ aN).head.size<100000000:=by decide+kernel
 have z2:(zcJ aN).body.size<100000000:=by decide+kernel
 have h1:=fun hp=>ztD hp
 have h2:=fun hp=>zsU aN hp
 have h3:=fun hp=>znz nilD (zeT k1) (zcJ aN) z1 z2 false false hp
 rw[a1E] at h3
 have h4:=fun hp=>znz d1E (zeT k2) (zcJ aN) z1 z2 true true hp
 rw[a2E] at h4
 have h5:=fun hp=>zgA d2E (zeT k3) aN 0 hp
 rw[f2E] at h5
 have h6:=fun hp=>zlh d2E (zeT k3) 1 hp
 rw[e2E] at h6
 have h7:=fun hp=>zio d2E (zeT k3) hp
 have h8:=fun hp=>zio d3E (zeT k4) hp
 rw[k3] at h7
 rw[k4] at h8
 have t2:((totD d2E.procs:Nat):Int)=2:=rfl
 have t3:((totD d3E.procs:Nat):Int)=1:=rfl
 rw[if_pos rfl,t2] at h7
 rw[if_pos rfl,t3] at h8
 obtain⟨P,hP⟩:∃P:Prc,P=⟨aN,0,false,[⟨2,zcJ aN⟩,⟨1,zcJ aN⟩]⟩:=⟨_,rfl⟩
 rw[<-hP] at h5
 have p1:PV.part deep P.pv 2 none=some (.bool false):=by rw[hP];rfl
 have p2:PV.part deep P.pv 3 none=some (.sl (some 9) [(Sto.mk 2 (zcJ aN)).pv,(Sto.mk 1 (zcJ aN)).pv]):=by rw[hP];rfl
 have p3:PV.part deep d3E.pv 0 none=some (.int .i64 3):=rfl
 have hnil:∀H:Heap,zaj [(none,.nilv (some 4))] H=([(none,.nilv (some 4))],H):=fun _=>rfl
 have hi0:za3 (some 9) [.pv none (.sl (some 9) [(Sto.mk 2 (zcJ aN)).pv,(Sto.mk 1 (zcJ aN)).pv]),.pv none (.int .i64 0)]=some (.iptr (some 9) (Sto.mk 2 (zcJ aN)).pv 0):=rfl
 have p4:PV.part deep (Sto.mk 2 (zcJ aN)).pv 0 none=some (.int .i64 2):=rfl
 simp only[Dbs.av,Cz.av,Prc.av,aN,Option.getD_some,Option.isSome_some] at h1 h2 h3 h4 h5 h6 h7 h8
 simp only[aN] at p2 hi0 p4
 simp -dsimp -implicitDefEqProofs only[go_sem,seval,↓reduceIte,h1,h2,h3,h4,h5,h6,h7,h8,p1,p2,p3,p4,hi0,hnil,znv,zac (Nat.zero_le _),List.append_assoc,zae,zaa,zaf,zab,Nat.add_assoc,List.length_append]
 try rfl
theorem znw(hp:Heap):S 9 [] hp=some (.ret (.pv none (.bool true)),hp):=zpr (F:=find tab) (prim:=prim) (f:=9) (args:=[]) (ps:=[]) (hp:=hp) (hp1:=hp) rfl rfl rfl rfl zjW
theorem zrX{d:Dbs}(hv:okD d=true)(hp:Heap):S 13 [d.av] hp=some (.ret (.pv none (.int .i64 (totD d.procs:Int))),hp):=by
 have h:=zio d (zeT hv) hp
 rw[if_pos hv] at h
 exact h
theorem zrY{d n:Dbs}(hv:okD d=true)(hbn:BndD n){s:List UInt8}{a:Int}(h:ApR d n s a)(hp:Heap):S 18 [d.av,n.av,.pv none (.str s),.pv none (.int .i64 a)] hp=some (.ret (.pv none (.bool true)),hp):=by
 obtain⟨_,_,d3,d4,_⟩:=(zbW d).1 hv
 exact zrs d n hbn s a (by omega) (fun p hp=>⟨by have:=zb1 hp;omega,zfF hv p hp⟩) h hp
theorem zrt{d:Dbs}(hv:okD d=true)(s:List UInt8)(a:Int):okCl ((zbI d s a).getD zP)/\((zbI d s a).getD zP).cls.length<=500:=by
 cases e:zbI d s a with
 |none=>exact⟨fun x hx=>(by cases hx),Nat.zero_le _⟩
 |some p=>
  have hp:=((zbw hv ..).1 e).1
  refine⟨zfF hv p hp,?_⟩
  have h1:=zb1 hp
  have h2:=((zbW d).1 hv).2.2.2.1
  show p.cls.length<=500
  omega
theorem zr4(fr:Bool)(s:Sto)(l:List Sto):(insC fr s l)[if fr=true then 0 else l.length]? =some s:=by
 unfold insC
 cases fr with
 |true=>rfl
 |false=>simp
set_option maxRecDepth 20000 in
theorem zp8(d:Dbs)(hb:BndD d)(c:Cz)(z1:c.head.size<100000000)(z2:c.body.size<100000000)(fr dy:Bool):S 4 [d.av,c.av,.pv none (.bool fr),.pv none (.bool dy)] []=some (.ret (.pv none (.bool true)),[]):=by
 refine zal rfl rfl rfl (zad [(some 2,d.pv),(some 8,c.pv),(none,.bool fr),(none,.bool dy)]) rfl ?_
 have hex:=fun hp=>znw hp
 have hnil:∀H:Heap,zaj [(none,.nilv (some 4))] H=([(none,.nilv (some 4))],H):=fun _=>rfl
 have h1:=fun hp=>znz d hb c z1 z2 fr dy hp
 have hsp:=zgF (d:=d) (c:=c) (fr:=fr) (dy:=dy)
 have hbk:=zpZ (d:=d) (c:=c) (fr:=fr) (dy:=dy)
 have hbn:=zrx d c fr dy
 generalize addR d c fr dy=R at*
 obtain⟨n,e⟩:=R
 dsimp only at h1 hsp hbk hbn
 by_cases he:e=0
 rotate_left
 ·have he':=eq_false he
  simp only[Dbs.av,Cz.av] at h1
  simp -dsimp -implicitDefEqProofs only[go_sem,seval,↓reduceIte,Dbs.av,Cz.av,h1,he',hex,hnil,zac (Nat.zero_le _),List.append_assoc,zae,zaa,zaf,zab,Nat.add_assoc,List.length_append]
  try rfl
 subst he
 obtain⟨hv,hc,hok,hnx,htot,⟨dn,hfn⟩,hap⟩:=hsp rfl
 obtain⟨hgt,he2,hbx,⟨dm,hfb⟩,hapb⟩:=hbk rfl
 have hbb:=zry n d.next
 have e1:=fun hp=>zlh n hbn d.next hp
 rw[he2] at e1
 generalize (eraR n d.next).1=k at*
 clear hsp hbk he2
 obtain⟨vh,vb⟩:=zgz hc
 have d5:=(zbW d).1 hv
 obtain⟨hwc,hwl⟩:=zrt hv c.head.name c.head.args.length
 have f1:=fun hp=>zgA d hb c.head.name c.head.args.length hp
 have f2:=fun hp=>zgA n hbn c.head.name c.head.args.length hp
 have f3:=fun hp=>zgA k hbb c.head.name c.head.args.length hp
 have f4:=fun hp=>zrY hv hbn hap hp
 have f5:=fun hp=>zrY hv hbb hapb hp
 have f6:=fun hp=>ztC n hbn d.next hp
 have f7:=fun hp=>zba n hbn.1 hbn.2.1 hbn.2.2 hp
 have f8:=fun hp=>zrX hv hp
 have f9:=fun hp=>zrX hok hp
 have f10:=fun hp=>zfk ⟨d.next,c⟩ vh vb hp
 rw[hfn] at f2
 rw[hfb] at f3
 rw[hgt] at f6
 rw[hok] at f7
 rw[htot] at f9
 generalize (zbI d c.head.name c.head.args.length).isSome=z at f1
 generalize (zbI d c.head.name c.head.args.length).getD zP=w at*
 clear hfn hfb hgt hap hapb htot hok
 simp only[Option.getD_some,Option.isSome_some] at f2 f3 f6
 have hat:=zr4 fr ⟨d.next,c⟩ w.cls
 have hln:=zhw fr ⟨d.next,c⟩ w.cls
 obtain⟨N,hN⟩:∃N:Prc,N=⟨c.head.name,c.head.args.length,dn,insC fr ⟨d.next,c⟩ w.cls⟩:=⟨_,rfl⟩
 obtain⟨M,hM⟩:∃M:Prc,M=⟨c.head.name,c.head.args.length,dm,w.cls⟩:=⟨_,rfl⟩
 rw[<-hN] at f2
 rw[<-hM] at f3
 have p1:PV.part deep N.pv 3 none=some (.sl (some 9) (Sto.pvs (insC fr ⟨d.next,c⟩ w.cls))):=by rw[hN];rfl
 have p2:PV.part deep M.pv 3 none=some (.sl (some 9) (Sto.pvs w.cls)):=by rw[hM];rfl
 have p3:PV.part deep n.pv 0 none=some (.int .i64 (d.next+1)):=by rw[zaA,hnx]
 have p4:PV.part deep k.pv 0 none=some (.int .i64 (d.next+1)):=by rw[zaA,hbx]
 clear hN hM
 generalize insC fr ⟨d.next,c⟩ w.cls=L at*
 have hL:((L.length:Nat):Int)=(w.cls.length:Int)+1:=by omega
 have w1:IntKind.i64.wrap ((w.cls.length:Int)+1)=(w.cls.length:Int)+1:=zaJ (by omega) (by omega)
 have w2:IntKind.i64.wrap (d.next+1)=d.next+1:=zaJ (by omega) (by omega)
 have w3:IntKind.i64.wrap ((totD d.procs:Int)+1)=((totD d.procs+1:Nat):Int):=by rw[zaJ (by omega) (by omega)];omega
 have hia:∀x:Int,x=((if fr=true then 0 else w.cls.length:Nat):Int)->za3 (some 9) [.pv none (.sl (some 9) (Sto.pvs L)),.pv none (.int .i64 x)]=some (.iptr (some 9) (Sto.mk d.next c).pv 0):=fun x hx=>by
  subst hx
  exact zai (Sto.pvs_get hat)
 have hbs:zaP [(none,.pv none (.int .i64 0)),(some 8,.agg [(some 4,.agg [(none,.pv none (.int .i64 0)),(none,.pv none (.int .i64 0)),(none,.pv none (.str [])),(none,.tsl (some 4) [])]),(some 4,.agg [(none,.pv none (.int .i64 0)),(none,.pv none (.int .i64 0)),(none,.pv none (.str [])),(none,.tsl (some 4) [])])])] [0,1] [.pv none (.int .i64 d.next),.pv (some 8) c.pv]=some (.pv (some 9) (Sto.mk d.next c).pv):=rfl
 clear hat hln hc vh vb
 simp only[Dbs.av,Prc.av,Cz.av,Sto.av] at h1 e1 f1 f2 f3 f4 f5 f6 f7 f8 f9 f10
 obtain⟨⟨hk,hi',hna,has⟩,bd⟩:=c
 have hpn:PV.part deep (Cz.pv ⟨⟨hk,hi',hna,has⟩,bd⟩) 2 none=some (.str hna):=rfl
 have hpa:PV.part deep (Cz.pv ⟨⟨hk,hi',hna,has⟩,bd⟩) 3 none=some (.sl (some 4) (Tm.pvs has)):=rfl
 have ea:(Tm.mk hk hi' hna has).args=has:=rfl
 have en:(Tm.mk hk hi' hna has).name=hna:=rfl
 simp only[ea,en] at f1 f2 f3 f4 f5
 cases fr
 have h8:=hia w.cls.length rfl
 simp -dsimp -implicitDefEqProofs only[hpn,hpa,Tm.pvs_len,g4,c4r0,c4r1,c4r2,c4r3,c4k4,c4r5,c4r6,c4r7,c4r8,c4r9,c4k10,c4r11,c4r12,c4r13,c4k14,c4r15,c4r16,c4k17,c4r18,c4r19,c4r20,c4k21,c4r22,c4r23,c4r24,c4r25,c4k26,c4r27,c4r28,c4k29,c4r30,c4r31,c4k32,c4k33,c4r34,c4b35,c4k36,c4r37,c4,go_sem,seval,↓reduceIte,Dbs.av,Cz.av,h1,e1,f1,f2,f3,f6,f7,f8,f9,f10,p1,p2,p3,p4,hL,w1,w2,w3,h8,hbs,zbC,zaA,Sto.pvs_len,hnil,zac (Nat.zero_le _),List.append_assoc,zae,zaa,zaf,zab,Nat.add_assoc,List.length_append]
 rotate_left
 have h8:=hia 0 rfl
 simp -dsimp -implicitDefEqProofs only[hpn,hpa,Tm.pvs_len,g4,c4r0,c4r1,c4r2,c4r3,c4k4,c4r5,c4r6,c4r7,c4r8,c4r9,c4k10,c4r11,c4r12,c4r13,c4k14,c4r15,c4r16,c4k17,c4r18,c4r19,c4r20,c4k21,c4r22,c4r23,c4r24,c4r25,c4k26,c4r27,c4r28,c4k29,c4r30,c4r31,c4k32,c4k33,c4r34,c4b35,c4k36,c4r37,c4,go_sem,seval,↓reduceIte,Dbs.av,Cz.av,h1,e1,f1,f2,f3,f6,f7,f8,f9,f10,p1,p2,p3,p4,hL,w1,w2,w3,h8,hbs,zbC,zaA,Sto.pvs_len,hnil,zac (Nat.zero_le _),List.append_assoc,zae,zaa,zaf,zab,Nat.add_assoc,List.length_append]
 all_goals
  refine zdC (α:=Unit) w.cls.length (fun _ _=>True) (fun i _=>⟨[(4,.ptr 0 0),(9,.ptr 2 0),(11,.pv none (.str hna)),(12,.pv none (.int .i64 has.length)),(13,.ptr 3 0),(20,.ptr 8 0),(22,.ptr 9 0),(24,.pv none (.int .i64 i))],[.box (some 2) (.pv (some 2) d.pv),.box (some 8) (.pv (some 8) (Cz.pv ⟨⟨hk,hi',hna,has⟩,bd⟩)),.box (some 2) (.pv (some 2) n.pv),.box (some 4) (.pv (some 4) w.pv),.arr (some 9) [] false,.box (some 4) (.pv (some 4) N.pv),.arr (some 9) [] false,.box (some 9) (.pv (some 9) (Sto.mk d.next ⟨⟨hk,hi',hna,has⟩,bd⟩).pv),.box (some 2) (.pv (some 2) k.pv),.box (some 4) (.pv (some 4) M.pv),.arr (some 9) [] false]⟩) () ⟨trivial,rfl⟩ ?_ ?_
  ·rintro i - h -
   have hcc:(i:Int)<(w.cls.length:Int):=by omega
   have w1:IntKind.i64.wrap ((i:Int)+1)=((i+1:Nat):Int):=by rw[zaJ (by omega) (by omega)];omega
   obtain⟨x,hx⟩:∃x,w.cls[i]? =some x:=⟨_,List.getElem?_eq_getElem h⟩
   obtain⟨vh,vb⟩:=hwc x (List.mem_of_getElem? hx)
   have h3:=fun hp=>zfk x vh vb hp
   simp only[Sto.av] at h3
   simp -dsimp -implicitDefEqProofs only[go_sem,seval,↓reduceIte,hcc,w1,p2,zbC,Sto.pvs_len,zai (Sto.pvs_get hx),h3,List.append_assoc,zae,zaa,zaf,zab,Nat.add_assoc,List.length_append]
   exact⟨(),rfl⟩
  ·rintro - -
   have hcc:¬(w.cls.length:Int)<(w.cls.length:Int):=by omega
   simp -dsimp -implicitDefEqProofs only[go_sem,seval,↓reduceIte,hcc,zbC,Sto.pvs_len,f4,f5,hex,List.append_assoc,zae,zaa,zaf,zab,Nat.add_assoc,List.length_append]
   try rfl
end Go.Proofs.Ytligpohiokpnhaa
namespace Go.Proofs.Ytligpohiokpnhaa
open Go.Am Go.ChangeShapes Go.WideShapes Go.ChangeAt Go.RowKit
theorem zpD(H:Type):BulkLaws (H:=H) Rows.uptoBulk Rows.uptoBulkAll where
 nil:=by simp[Rows.uptoBulkAll]
 cons d r:=by simp[Rows.uptoBulkAll]
 slice e s:=by simp[Rows.uptoBulk]
 agg l:=by simp[Rows.uptoBulk]
 string l:=by simp[Rows.uptoBulk]
theorem zns{H:Type}{l:List (DataW H)}(hk:Rows.uptoSmall H l=true):Rows.uptoBulkAll l<=1048576:=of_decide_eq_true hk
def zlV(P:Program)(tA tT:TypeId):Bool:=
 (match P.underlying tA with|some (.slice t)=>t == tT|_=>false) &&
 (match P.underlying tT with
  |some (.struct fs)=>match fs.toList.map (·.type) with
   |[a,b,c,d]=>d == tA && (match P.underlying a with|some (.int .i64)=>true|_=>false) && (match P.underlying b with|some (.int .i64)=>true|_=>false) && (match P.underlying c with|some .string=>true|_=>false) && decide (shOf P a=none) && decide (shOf P b=none) && decide (shOf P c=none)
   |_=>false
  |_=>false) && decide (shOf P tT=some 4) && decide (shOf P tA=none)
theorem zk8{P:Program}{tA tT:TypeId}(h:zlV P tA tT=true):TermTy P tA tT:=by
 unfold zlV at h
 simp only[Bool.and_eq_true,decide_eq_true_eq] at h
 obtain⟨⟨⟨h1,h2⟩,h3⟩,h4⟩:=h
 refine⟨?_,?_⟩
 ·split at h1
  ·rename_i t ht;rw[ht];simp at h1;rw[h1]
  ·cases h1
 ·split at h2
  ·rename_i fs hfs
   split at h2
   ·rename_i a b c d hl
    simp only[Bool.and_eq_true,decide_eq_true_eq,beq_iff_eq] at h2
    obtain⟨⟨⟨⟨⟨⟨k1,k2⟩,k3⟩,k4⟩,k5⟩,k6⟩,k7⟩:=h2
    subst k1
    refine⟨fs,a,b,c,hfs,hl,?_,?_,?_,h3,h4,k5,k6,k7⟩
    ·split at k2
     ·assumption
     ·cases k2
    ·split at k3
     ·assumption
     ·cases k3
    ·split at k4
     ·assumption
     ·cases k4
   ·cases h2
  ·cases h2
theorem zrS:TermTy Try.prog 22 24:=zk8 (by kernel_rfl)
def zpE:List TypeId:=[2,3,4,5,9,22,24,26,37,32,34,29,31,62,57]
theorem closed:zlO Try.prog zpE=true:=by kernel_rfl
end Go.Proofs.Ytligpohiokpnhaa
namespace Go.Proofs.Ytligpohiokpnhaa
open Go.Am Go.ChangeShapes Go.WideShapes Go.ChangeAt Go.RowKit
theorem znt(H:Type):BulkLaws2 (H:=H) Rows.uptoBulk Rows.uptoBulkAll:=
 ⟨zpD H,fun d=>by
  cases d with
  |lit l=>cases l <;> simp[Rows.uptoBulk]
  |_=>simp[Rows.uptoBulk]⟩
set_option maxRecDepth 100000 in
theorem zin{H:Type}{enc:TypeId × Value->H}{W:World}{base:Nat}{v:Value}{d:DataW H}{ps:List MemPlace}{t:TypeId}(ht:t∈zpE)(hok:okT Try.prog t=true)(h:DataW.Trod enc Try.prog W 0 (fun _=>true) true t v d ps)(hv:Value.okWide Try.prog W .any base t v):
  ∃n p,AR W (noX (P:=Try.prog)) noμ [] (.pv (shOf Try.prog t) p) v/\wt Try.prog n t p/\p.sz<=Rows.uptoBulk d:=by
 obtain⟨fuel,h0⟩:=h
 obtain⟨p,hp⟩:=zps closed fuel _ _ _ _ ht h0
 obtain⟨h1,h2⟩:=zpt (znt H) fuel _ _ _ hp
 exact⟨fuel,p,ztu ⟨fuel,h0⟩ hok hp (znp hv),h1,h2⟩
end Go.Proofs.Ytligpohiokpnhaa
namespace Go.Proofs.Ytligpohiokpnhaa
open Go.Am Go.ChangeShapes Go.WideShapes Go.ChangeAt Go.RowKit
theorem zjR{n:Nat}{p:PV}(h:wt Try.prog n 26 p):∃x:Cz,p=x.pv:=by
 obtain⟨m,l,rfl,h'⟩:=zeO (ts:=[24,24]) (by kernel_rfl) h
 obtain⟨a,l,rfl,ha,h⟩:=zaY h'
 obtain⟨b,l,rfl,hb,h⟩:=zaY h
 obtain rfl:=zdV h
 obtain⟨x,rfl,_⟩:=(zk6 zrS m).1 a ha
 obtain⟨y,rfl,_⟩:=(zk6 zrS m).1 b hb
 refine⟨⟨x,y⟩,?_⟩
 rw[show shOf Try.prog 24=some 4 from by kernel_rfl]
 rfl
theorem zpF{n:Nat}{p:PV}(h:wt Try.prog n 37 p):∃x:Sto,p=x.pv:=by
 obtain⟨m,l,rfl,h'⟩:=zeO (ts:=[2,26]) (by kernel_rfl) h
 obtain⟨a,l,rfl,ha,h⟩:=zaY h'
 obtain⟨b,l,rfl,hb,h⟩:=zaY h
 obtain rfl:=zdV h
 obtain⟨x,rfl,_⟩:=zpv (by kernel_rfl) ha
 obtain⟨y,rfl⟩:=zjR hb
 refine⟨⟨x,y⟩,?_⟩
 rw[show shOf Try.prog 2=none from by kernel_rfl,show shOf Try.prog 26=some 8 from by kernel_rfl]
 rfl
theorem zsL{n:Nat}{p:PV}(h:wt Try.prog n 34 p):∃x:Prc,p=x.pv:=by
 obtain⟨m,l,rfl,h'⟩:=zeO (ts:=[9,3,4,32]) (by kernel_rfl) h
 obtain⟨a,l,rfl,ha,h⟩:=zaY h'
 obtain⟨b,l,rfl,hb,h⟩:=zaY h
 obtain⟨c,l,rfl,hc,h⟩:=zaY h
 obtain⟨d,l,rfl,hd,h⟩:=zaY h
 obtain rfl:=zdV h
 obtain⟨x,rfl⟩:=ztx (by kernel_rfl) ha
 obtain⟨y,rfl,_⟩:=zpv (by kernel_rfl) hb
 obtain⟨z,rfl⟩:=zpw (by kernel_rfl) hc
 obtain⟨k,es,rfl,he⟩:=zlS (e:=37) (by kernel_rfl) hd
 obtain⟨gs,rfl,_⟩:=zk7 (f:=Sto.pv) (Q:=fun _=>True) es fun x hx=>by
  obtain⟨g,rfl⟩:=zpF (he x hx)
  exact⟨g,rfl,trivial⟩
 refine⟨⟨x,y,z,gs⟩,?_⟩
 rw[show shOf Try.prog 9=none from by kernel_rfl,show shOf Try.prog 3=none from by kernel_rfl,show shOf Try.prog 4=none from by kernel_rfl,show shOf Try.prog 32=none from by kernel_rfl,show shOf Try.prog 37=some 9 from by kernel_rfl]
 rfl
theorem zt7{n:Nat}{p:PV}(h:wt Try.prog n 31 p):∃x:Dbs,p=x.pv:=by
 obtain⟨m,l,rfl,h'⟩:=zeO (ts:=[2,29]) (by kernel_rfl) h
 obtain⟨a,l,rfl,ha,h⟩:=zaY h'
 obtain⟨b,l,rfl,hb,h⟩:=zaY h
 obtain rfl:=zdV h
 obtain⟨x,rfl,_⟩:=zpv (by kernel_rfl) ha
 obtain⟨k,es,rfl,he⟩:=zlS (e:=34) (by kernel_rfl) hb
 obtain⟨gs,rfl,_⟩:=zk7 (f:=Prc.pv) (Q:=fun _=>True) es fun x hx=>by
  obtain⟨g,rfl⟩:=zsL (he x hx)
  exact⟨g,rfl,trivial⟩
 refine⟨⟨x,gs⟩,?_⟩
 rw[show shOf Try.prog 2=none from by kernel_rfl,show shOf Try.prog 29=none from by kernel_rfl,show shOf Try.prog 34=some 4 from by kernel_rfl]
 rfl
theorem zsM(c:Cz):c.head.size<=c.pv.sz/\c.body.size<=c.pv.sz:=by
 have h1:=Tm.zus c.head
 have h2:=Tm.zus c.body
 simp[Cz.pv,PV.sz,PV.szc]
 omega
theorem ztA(s:Sto):s.cl.pv.sz<=s.pv.sz:=by
 simp[Sto.pv,PV.sz,PV.szc]
 omega
theorem zk9:∀l:List Sto,l.length<=PV.szs (Sto.pvs l)/\∀s∈l,s.pv.sz<=PV.szs (Sto.pvs l)
 |[]=>⟨Nat.zero_le _,fun b hb=>by cases hb⟩
 |x::r=>by
  obtain⟨h1,h2⟩:=zk9 r
  have h4:PV.szs (Sto.pvs (x::r))=x.pv.sz+PV.szs (Sto.pvs r):=by simp[Sto.pvs,PV.szs]
  have h5:1<=x.pv.sz:=by simp[Sto.pv,PV.sz];try omega
  refine⟨by simp only[List.length_cons];omega,fun b hb=> ?_⟩
  rcases List.mem_cons.1 hb with rfl|hb
  ·omega
  ·have:=h2 b hb;omega
theorem zrT(p:Prc):PV.szs (Sto.pvs p.cls)+1<=p.pv.sz:=by
 simp[Prc.pv,PV.sz,PV.szc]
 omega
theorem zpG:∀l:List Prc,l.length<=PV.szs (Prc.pvs l)/\totD l<=PV.szs (Prc.pvs l)/\∀p∈l,p.pv.sz<=PV.szs (Prc.pvs l)
 |[]=>⟨Nat.zero_le _,Nat.zero_le _,fun b hb=>by cases hb⟩
 |x::r=>by
  obtain⟨h1,h2,h3⟩:=zpG r
  have h4:PV.szs (Prc.pvs (x::r))=x.pv.sz+PV.szs (Prc.pvs r):=by simp[Prc.pvs,PV.szs]
  have h5:=zrT x
  have h6:=(zk9 x.cls).1
  have h7:totD (x::r)=x.cls.length+totD r:=by simp[totD]
  refine⟨by simp only[List.length_cons];omega,by omega,fun b hb=> ?_⟩
  rcases List.mem_cons.1 hb with rfl|hb
  ·omega
  ·have:=h3 b hb;omega
theorem ztB{d:Dbs}(h:d.pv.sz<=1048576):BndD d:=by
 have h0:PV.szs (Prc.pvs d.procs)<=d.pv.sz:=by
  simp[Dbs.pv,PV.sz,PV.szc]
  omega
 obtain⟨h1,h2,h3⟩:=zpG d.procs
 refine⟨by omega,by omega,fun p hp s hs=> ?_⟩
 have g1:=h3 p hp
 have g2:=zrT p
 have g3:=(zk9 p.cls).2 s hs
 have g4:=ztA s
 have g5:=zsM s.cl
 omega
set_option maxRecDepth 100000 in
theorem zsN{H:Type}{enc:TypeId × Value->H}{W:World}{base:Nat}{v:Value}{d:DataW H}{ps:List MemPlace}(h:DataW.Trod enc Try.prog W 0 (fun _=>true) true 31 v d ps)(hv:Value.okWide Try.prog W .any base 31 v):
  ∃f:Dbs,AR W (noX (P:=Try.prog)) noμ [] f.av v/\f.pv.sz<=Rows.uptoBulk d:=by
 obtain⟨n,p,h1,h2,h3⟩:=zin (by decide) (by kernel_rfl) h hv
 obtain⟨f,rfl⟩:=zt7 h2
 rw[show shOf Try.prog 31=some 2 from by kernel_rfl] at h1
 exact⟨f,h1,h3⟩
set_option maxRecDepth 100000 in
theorem zla{H:Type}{enc:TypeId × Value->H}{W:World}{base:Nat}{v:Value}{d:DataW H}{ps:List MemPlace}(h:DataW.Trod enc Try.prog W 0 (fun _=>true) true 26 v d ps)(hv:Value.okWide Try.prog W .any base 26 v):
  ∃f:Cz,AR W (noX (P:=Try.prog)) noμ [] f.av v/\f.pv.sz<=Rows.uptoBulk d:=by
 obtain⟨n,p,h1,h2,h3⟩:=zin (by decide) (by kernel_rfl) h hv
 obtain⟨f,rfl⟩:=zjR h2
 rw[show shOf Try.prog 26=some 8 from by kernel_rfl] at h1
 exact⟨f,h1,h3⟩
set_option maxRecDepth 100000 in
theorem zjS{H:Type}{enc:TypeId × Value->H}{W:World}{base:Nat}{v:Value}{d:DataW H}{ps:List MemPlace}(h:DataW.Trod enc Try.prog W 0 (fun _=>true) true 4 v d ps)(hv:Value.okWide Try.prog W .any base 4 v):
  ∃x:Bool,AR W (noX (P:=Try.prog)) noμ [] (.pv none (.bool x)) v/\True:=by
 obtain⟨n,p,h1,h2,h3⟩:=zin (by decide) (by kernel_rfl) h hv
 obtain⟨x,rfl⟩:=zpw (by kernel_rfl) h2
 rw[show shOf Try.prog 4=none from by kernel_rfl] at h1
 exact⟨x,h1,trivial⟩
end Go.Proofs.Ytligpohiokpnhaa
