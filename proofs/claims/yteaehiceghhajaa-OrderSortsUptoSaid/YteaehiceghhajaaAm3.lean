/- What is proved: the abstract machine says true of the model (part 3). No conditions beside those that each theorem names. -/
import Derived.Test.YteaehiceghhajaaAm2
import Derived.OrdersIn
import Derived.RangeFuncIn
import Derived.RangeFuncRecord
import Derived.RangeFuncLeaves
import Derived.RecoverIn
set_option linter.unusedSimpArgs false
set_option linter.unusedVariables false
/- One operation that calls nothing: all of them. -/
namespace Go.Am
variable{P:Program} {w:World} {X:Xc P} {μ:Nat->Option Nat} {hp:Heap}

def AOp.alike(op' op:AOp):Prop:=op'=op\/(∃sh,op=.bslice sh/\(op'=.bslicep sh\/op'=.bslo sh))\/(op=.call/\(op'=.callp\/op'=.callh))\/(∃sh,op=.append sh/\op'=.appendp sh)\/(∃sh,op=.bslov sh/\op'=.bslicep sh)

section
variable{fr:Fr} {act:Act} {vs:List AV} (hF:FR w X μ hp fr act.tmps)
include hF
theorem arg1{t:TypeId}{x:Operand}{a:AArg}(h:zbt P t x=some a)(ha:fr.argsOf [a]=some vs):LR w X μ hp vs [act.eval x]:=by
 obtain⟨v,rfl,hv⟩:=zdz ha
 exact .cons (zby hF h hv) .nil
theorem argc{t:TypeId}{x:Operand}{a:AArg}{as:List AArg}{l:List Value}(h:zbt P t x=some a)(ha:fr.argsOf (a::as)=some vs)(hr:∀us,fr.argsOf as=some us->LR w X μ hp us l):LR w X μ hp vs (act.eval x::l):=by
 obtain⟨v,us,rfl,hv,hu⟩:=zat ha
 exact .cons (zby hF h hv) (hr us hu)
theorem arg2{t u:TypeId}{x y:Operand}{a b:AArg}(h:zbt P t x=some a)(k:zbt P u y=some b)(ha:fr.argsOf [a,b]=some vs):LR w X μ hp vs [act.eval x,act.eval y]:=
 argc hF h ha fun _ hu=>arg1 hF k hu
theorem arg3{t u q:TypeId}{x y z:Operand}{a b c:AArg}(h:zbt P t x=some a)(k:zbt P u y=some b)(m:zbt P q z=some c)(ha:fr.argsOf [a,b,c]=some vs):LR w X μ hp vs [act.eval x,act.eval y,act.eval z]:=
 argc hF h ha fun _ hu=>arg2 hF k m hu
end

theorem bounds{fr:Fr}{act:Act}{vs:List AV}(hF:FR w X μ hp fr act.tmps){lo hi:Option Operand}{l h:List AArg}(h1:lo.elim (some []) (fun l=>(zbt P 0 l).map fun a=>[a])=some l)(h2:hi.elim (some []) (fun l=>(zbt P 0 l).map fun a=>[a])=some h)
  (ha:fr.argsOf (l++h)=some vs):LR w X μ hp vs ((lo.map act.eval).toList++(hi.map act.eval).toList):=by
 have key:∀{q:Option Operand} {l:List AArg},q.elim (some []) (fun l=>(zbt P 0 l).map fun a=>[a])=some l->(q=none/\l=[])\/∃x a,q=some x/\zbt P 0 x=some a/\l=[a]:=by
  intro q l h
  cases q with
  |none=>cases h;exact .inl ⟨rfl,rfl⟩
  |some x=>
   simp only[Option.elim,Option.map_eq_some_iff] at h
   obtain⟨a,h,rfl⟩:=h
   exact .inr ⟨x,a,rfl,h,rfl⟩
 rcases key h1 with⟨rfl,rfl⟩|⟨x,a,rfl,g1,rfl⟩ <;> rcases key h2 with⟨rfl,rfl⟩|⟨y,c,rfl,g2,rfl⟩
 ·cases zlE ha;exact .nil
 ·exact arg1 hF g2 ha
 ·exact arg1 hF g1 ha
 ·exact arg2 hF g1 g2 ha
theorem zj7(a:Array Operand)(f:Operand->Value):(a.toList.map f).toArray=a.map f:=by
 apply Array.ext'
 simp

theorem zfB{a:Array Operand}{x y:Operand}(h:a.toList=[x,y])(f:Operand->Value):a= #[x,y]/\a.map f= #[f x,f y]:=by
 have:a= #[x,y]:=Array.ext' h
 subst this
 exact⟨rfl,by simp⟩
theorem zk3{a:Array Operand}{x:Operand}(h:a.toList=[x])(f:Operand->Value):a.map f= #[f x]:=by
 have:a= #[x]:=Array.ext' h
 subst this
 simp
theorem ziG{a:Array TypeId}{x y:TypeId}(h:a.toList=[x,y]):a= #[x,y]:=Array.ext' h
theorem ziH{a:Array TypeId}{x:TypeId}(h:a.toList=[x]):a= #[x]:=Array.ext' h

theorem zaH{t:TypeId}{x:Operand}{op op':AOp}{as:List AArg}(h:(match zbt P t x with|some a=>some (op,[a])|none=>none)=some (op',as)):∃a,zbt P t x=some a/\op'=op/\as=[a]:=by
 split at h
 ·cases h;exact⟨_,‹_›,rfl,rfl⟩
 ·cases h

theorem zpp{b:Nat}{o:Oper}{op op':AOp}{as:List AArg}{fr:Fr}{act:Act}{vs:List AV}{v:AV}{hp':Heap}(hb:b<=hp.length)(ht:trOp P o=some (op,as))(hk:op'.alike op)(hF:FR w X μ hp fr act.tmps)(ha:fr.argsOf as=some vs)(hH:HR w X μ hp)
  (hs:astep b op' vs hp=some (v,hp')):Out P b w X μ hp (execOp act.eval o) v hp':=by
 have pureOut:∀{s:Sem Next},zbd hp (some v)=some (v,hp')->Yld P w X μ hp s v->Out P b w X μ hp s v hp':=by
  intro s h hy
  cases h
  exact hy.out hH
 have sp:∀{op:AOp},op.isPure=true->astep b op vs hp=some (v,hp')->spure op vs=some v/\hp'=hp:=by
  intro op ho h
  simp only[astep,ho,cond_true] at h
  cases h':spure op vs with
  |none=>rw[h'] at h;cases h
  |some u=>rw[h'] at h;cases h;exact⟨rfl,rfl⟩
 have sr:∀{op:AOp},op.isPure=false->op.isRead=true->astep b op vs hp=some (v,hp')->sread op vs hp=some v/\hp'=hp:=by
  intro op ho ho' h
  simp only[astep,ho,ho',cond_true,cond_false] at h
  cases h':sread op vs hp with
  |none=>rw[h'] at h;cases h
  |some u=>rw[h'] at h;cases h;exact⟨rfl,rfl⟩
 have sw:∀{op:AOp},op.isPure=false->op.isRead=false->astep b op vs hp=some (v,hp')->swrite b op vs hp=some (v,hp'):=by
  intro op ho ho' h
  simpa only[astep,ho,ho',cond_false] using h
 have same:∀{o:AOp},op=o->(∀sh,o≠.bslice sh)->o≠.call->(h3:∀sh,o≠.append sh:=by simp)->(h4:∀sh,o≠.bslov sh:=by simp)->op'=o:=by
  intro o e h1 h2 h3 h4
  rcases hk with h|⟨sh,h,_⟩|⟨h,_⟩|⟨sh,h,_⟩|⟨sh,h,_⟩
  ·exact h.trans e
  ·exact absurd (e.symm.trans h) (h1 sh)
  ·exact absurd (e.symm.trans h) h2
  ·exact absurd (e.symm.trans h) (h3 sh)
  ·exact absurd (e.symm.trans h) (h4 sh)
 have mv:∀(x:Operand) (t:TypeId),(match zbt P t x with|some a=>some (AOp.mv,[a])|none=>none)=some (op,as)->Out P b w X μ hp (pure (.value (act.eval x))) v hp':=by
  intro x t h
  obtain⟨a,h1,h2,rfl⟩:=zaH h
  cases same h2 (by simp) (by simp)
  obtain⟨h3,rfl⟩:=sp rfl hs
  exact(show Yld P w X μ hp' (pure (.value (act.eval x))) v from⟨_,rfl,zpj (arg1 hF h1 ha) h3⟩).out hH
 have one:∀(x:Operand) (t:TypeId) (o:AOp) {s:Sem Next},(match zbt P t x with|some a=>some (o,[a])|none=>none)=some (op,as)->o.isPure=true->(∀sh,o≠.bslice sh)->o≠.call->(LR w X μ hp vs [act.eval x]->spure o vs=some v->Yld P w X μ hp s v)->(hn3:∀sh,o≠.append sh:=by simp)->(hn4:∀sh,o≠.bslov sh:=by simp)->Out P b w X μ hp s v hp':=by
  intro x t o s h hp1 hn hn2 hy hn3 hn4
  obtain⟨a,h1,h2,rfl⟩:=zaH h
  cases same h2 hn hn2 hn3 hn4
  obtain⟨h3,rfl⟩:=sp hp1 hs
  exact(hy (arg1 hF h1 ha) h3).out hH
 cases hop:o.op <;> simp only[trOp,hop] at ht <;> (try (cases ht;done)) <;> simp only[execOp,hop]
 case move x=>exact mv x _ ht
 case assign x=>
  split at ht
  ·rename_i e hx he
   split at ht
   ·cases ht
    cases same rfl (by simp) (by simp)
    obtain⟨h3,rfl⟩:=sp rfl hs
    cases ha
    cases h3
    exact(show Yld P w X μ hp' (pure (.value (.slice none 0 0))) _ from⟨_,rfl,.nilv _⟩).out hH
   ·split at ht
    ·rename_i hpos
     cases ht
     cases same rfl (by simp) (by simp)
     exact zjU hH (sw rfl rfl hs)
    ·cases ht
  ·exact mv _ _ ht
 case pick c x y=>
  split at ht
  ·rename_i a1 a2 a3 h1 h2 h3
   cases ht
   cases same rfl (by simp) (by simp)
   obtain⟨h4,rfl⟩:=sp rfl hs
   exact(zlF (arg3 hF h1 h2 h3 ha) h4).out hH
  ·cases ht
 case alloc t=>
  split at ht
  ·rename_i z hz
   cases ht
   cases same rfl (by simp) (by simp)
   exact zih hb hH hz (sw rfl rfl hs)
  ·cases ht
 case box t x=>
  obtain⟨a,h1,h2,rfl⟩:=zaH ht
  cases same h2 (by simp) (by simp)
  exact zlJ hb hH (arg1 hF h1 ha) (sw rfl rfl hs)
 case load t x=>
  split at ht
  ·rename_i hok
   obtain⟨a,h1,h2,rfl⟩:=zaH ht
   cases same h2 (by simp) (by simp)
   obtain⟨h3,rfl⟩:=sr rfl rfl hs
   exact(zgJ hH hok (arg1 hF h1 ha) h3).out hH
  ·cases ht
 case store t x y=>
  split at ht
  ·cases ht
  ·rename_i hok
   split at ht
   ·rename_i a1 a2 h1 h2
    cases ht
    cases same rfl (by simp) (by simp)
    exact zin (by simp at hok;exact hok.2) hH (arg2 hF h1 h2 ha) (sw rfl rfl hs)
   ·cases ht
 case build t parts=>
  split at ht
  ·rename_i z fs hz hu
   split at ht
   ·rename_i hok
    split at ht
    ·rename_i l as' hl has
     cases ht
     cases same rfl (by simp) (by simp)
     obtain⟨h3,rfl⟩:=sp rfl hs
     exact(zfZ hz hl (.inl ⟨fs,hu,hok⟩) (zaM hF has ha) h3).out hH
    ·cases ht
   ·cases ht
  ·rename_i z n e hz hu
   split at ht
   ·rename_i hok
    split at ht
    ·rename_i l as' hl has
     cases ht
     cases same rfl (by simp) (by simp)
     obtain⟨h3,rfl⟩:=sp rfl hs
     exact(zfZ hz hl (.inr ⟨n,e,hu,hok⟩) (zaM hF has ha) h3).out hH
    ·cases ht
   ·cases ht
  ·cases ht
 case buildSlice t n parts=>
  split at ht
  ·rename_i e hu
   split at ht
   ·rename_i hc
    obtain⟨c1,c2,c3,c4⟩:=hc
    split at ht
    ·rename_i as' has
     split at ht
     ·cases ht
      rcases hk with rfl|⟨sh,h1,_⟩|⟨h1,_⟩|⟨_,h1,_⟩|⟨sh,h1,rfl⟩
      ·exact zj3 hu c3 c4 c1 c2 hH (zaM hF has ha) (sw rfl rfl hs)
      ·cases h1
      ·cases h1
      ·cases h1
      ·cases h1
       obtain⟨h3,rfl⟩:=sp rfl hs
       exact zek hu c3 c4 c1 c2 hH (zaM hF has ha) h3
     cases ht
     rcases hk with rfl|⟨sh,h1,rfl|rfl⟩|⟨h1,_⟩|⟨_,h1,_⟩|⟨_,h1,_⟩
     ·exact ziz hu c3 c4 c1 c2 hH (zaM hF has ha) (sw rfl rfl hs)
     ·cases h1
      obtain⟨h3,rfl⟩:=sp rfl hs
      exact zek hu c3 c4 c1 c2 hH (zaM hF has ha) h3
     ·cases h1
      exact zlP hu c3 c4 c1 c2 hH (zaM hF has ha) (sw rfl rfl hs)
     ·cases h1
     ·cases h1
     ·cases h1
    ·cases ht
   ·cases ht
  ·cases ht
 case binOp bo t x y ty=>
  split at ht
  ·split at ht
   ·rename_i a1 a2 h1 h2
    cases ht
    cases same rfl (by simp) (by simp)
    obtain⟨h4,rfl⟩:=sp rfl hs
    have hl:=arg2 hF h1 h2 ha
    obtain⟨c1,c2,rfl,k1,k2⟩:=hl.inv2
    simp only[spure,sBin] at h4
    split at h4
    ·rename_i q1 q2 q3 q4 q5
     simp only[List.cons.injEq,and_true] at q5
     obtain⟨rfl,rfl⟩:=q5
     split at h4
     ·rename_i p hp'
      cases h4
      obtain⟨u,u1,u2⟩:=zm4 (P:=P) bo t x y k1 k2 hp'
      exact(zbF u1 u2).out hH
     ·cases h4
    ·cases h4
   ·cases ht
  ·split at ht
   ·rename_i hbool
    split at ht
    ·rename_i a1 a2 h1 h2
     cases ht
     cases same rfl (by simp) (by simp)
     obtain⟨h4,rfl⟩:=sp rfl hs
     have hl:=arg2 hF h1 h2 ha
     obtain⟨c1,c2,rfl,k1,k2⟩:=hl.inv2
     simp only[spure,zrH] at h4
     split at h4
     ·rename_i q1 q2 q3 q4 q5
      simp only[List.cons.injEq,and_true] at q5
      obtain⟨rfl,rfl⟩:=q5
      split at h4
      ·rename_i p hbb
       cases h4
       have hty:=zgD hbool
       obtain⟨u,u1,u2⟩:=zpi (P:=P) (w:=w) (X:=X) (μ:=μ) (hp:=hp') bo t x y _ _ hty hbb
       rw[k1.bool_inv,k2.bool_inv]
       exact(zbF u1 u2).out hH
      ·cases h4
     ·cases h4
    ·cases ht
   ·split at ht
    ·rename_i hif
     split at ht
     ·rename_i hcc
      obtain⟨c1,c2⟩:=hcc
      obtain⟨a,h1,h2,rfl⟩:=zaH ht
      cases same h2 (by simp) (by simp)
      obtain⟨h3,rfl⟩:=sp rfl hs
      have hy:y=.const .nilIface:=by
       unfold zgB at c2
       split at c2
       ·rfl
       ·cases c2
      subst hy
      exact(zj0 (x:=x) c1 hif (arg1 hF h1 ha) h3).out hH
     ·cases ht
    ·split at ht
     ·rename_i hsl
      split at ht
      ·rename_i hcc
       obtain⟨c1,c2⟩:=hcc
       obtain⟨a,h1,h2,rfl⟩:=zaH ht
       cases same h2 (by simp) (by simp)
       obtain⟨h3,rfl⟩:=sp rfl hs
       have hy:y=.const (.slice none 0 0):=by
        unfold zgC at c2
        split at c2
        ·rfl
        ·cases c2
       subst hy
       obtain⟨e,he⟩:∃e,P.underlying t=some (.slice e):=by
        unfold zkZ at hsl
        split at hsl
        ·exact⟨_,‹_›⟩
        ·cases hsl
       exact(zj1 (x:=x) c1 he (arg1 hF h1 ha) h3).out hH
      ·cases ht
     ·split at ht
      ·rename_i hbo
       split at ht
       ·rename_i ds a1 a2 hds h1 h2
        cases ht
        cases same rfl (by simp) (by simp)
        obtain⟨h4,rfl⟩:=sp rfl hs
        have hbo':bo=.eql\/bo=.neq:=by cases bo <;> first|exact .inl rfl|exact .inr rfl|(cases hbo)
        exact(zne hbo' hds (arg2 hF h1 h2 ha) h4).out hH
       ·cases ht
      ·cases ht
 case unOp uo t x=>
  cases uo <;> simp only at ht <;> (try (cases ht;done))
  ·split at ht
   ·obtain⟨a,h1,h2,rfl⟩:=zaH ht
    cases same h2 (by simp) (by simp)
    obtain⟨h3,rfl⟩:=sp rfl hs
    exact(zm6 (arg1 hF h1 ha) h3).out hH
   ·cases ht
  ·obtain⟨a,h1,h2,rfl⟩:=zaH ht
   cases same h2 (by simp) (by simp)
   obtain⟨h3,rfl⟩:=sp rfl hs
   exact(zm5 (arg1 hF h1 ha) h3).out hH
 case convert src dst x=>
  split at ht
  ·rename_i k0 k h1 h2
   obtain⟨a,g1,g2,rfl⟩:=zaH ht
   cases same g2 (by simp) (by simp)
   obtain⟨h3,rfl⟩:=sp rfl hs
   exact(zlG h1 h2 (arg1 hF g1 ha) h3).out hH
  ·cases ht
 case makeInterface t x=>
  split at ht
  ·cases ht
  ·cases ht
  ·rename_i n1 n2
   obtain⟨a,g1,g2,rfl⟩:=zaH ht
   cases same g2 (by simp) (by simp)
   obtain⟨h3,rfl⟩:=sp rfl hs
   have hcon:P.concrete t=true:=by
    unfold Program.concrete
    split
    ·exact absurd ‹_› (n1 _)
    ·exact absurd ‹_› n2
    ·rfl
   exact(zhu hcon (arg1 hF g1 ha) h3).out hH
 case makeFunc fn first captured=>
  split at ht
  ·rename_i as' has
   cases ht
   cases same rfl (by simp) (by simp)
   obtain⟨h3,rfl⟩:=sp rfl hs
   have hl:=zaM hF has ha
   rw[List.map_append] at hl
   have h4:=zif (fn:=fn) (first:=first.toList.map act.eval) hl (by simpa[spure] using h3)
   refine(zbF (s:=Instr.makeFunc fn (first.map act.eval) (captured.map act.eval)) (v':=.func fn (first.map act.eval) (captured.map act.eval)) rfl (by rw[<-zj7,<-zj7];exact h4)).out hH
  ·cases ht
 case makeMap t r=>
  cases r with
  |some r=>cases ht
  |none=>
   simp only[] at ht
   split at ht
   ·rename_i tk te hu
    cases ht
    cases same rfl (by simp) (by simp)
    have h3:=sw rfl rfl hs
    simp only[swrite,Option.some.injEq,Prod.mk.injEq] at h3
    obtain⟨rfl,rfl⟩:=h3
    exact zjV hH
   ·cases ht
 case makeSlice t l c=>
  split at ht
  ·rename_i e hu
   split at ht
   ·rename_i hc
    split at ht
    ·split at ht
     ·rename_i z a1 a2 hz h1 h2
      cases ht
      cases same rfl (by simp) (by simp)
      exact zgu hu hc.2.1 hc.2.2 hc.1 hz hH (arg2 hF h1 h2 ha) (sw rfl rfl hs)
     ·cases ht
    ·split at ht
     ·rename_i z a1 a2 hz h1 h2
      cases ht
      cases same rfl (by simp) (by simp)
      exact zhz hu hc.2.1 hc.2.2 hc.1 hz hH (arg2 hF h1 h2 ha) (sw rfl rfl hs)
     ·cases ht
   ·cases ht
  ·cases ht
 case fieldAddr t x i=>
  split at ht
  ·rename_i fs hu
   split at ht
   ·rename_i f hf
    split at ht
    ·cases ht
    ·rename_i hok
     obtain⟨a,g1,g2,rfl⟩:=zaH ht
     cases same g2 (by simp) (by simp)
     obtain⟨h3,rfl⟩:=sp rfl hs
     exact(zjO hu hf (by simpa using hok) (arg1 hF g1 ha) h3).out hH
   ·cases ht
  ·cases ht
 case field t x i=>
  split at ht
  ·rename_i fs hu
   split at ht
   ·rename_i f hf
    split at ht
    ·cases ht
    ·rename_i hok
     obtain⟨a,g1,g2,rfl⟩:=zaH ht
     cases same g2 (by simp) (by simp)
     obtain⟨h3,rfl⟩:=sp rfl hs
     exact(zjR hu hf (by simpa using hok) (arg1 hF g1 ha) h3).out hH
   ·cases ht
  ·cases ht
 case indexAddr t x i=>
  split at ht
  ·rename_i e hu
   split at ht
   ·cases ht
   ·rename_i hok
    split at ht
    ·rename_i a1 a2 h1 h2
     cases ht
     cases same rfl (by simp) (by simp)
     obtain⟨h3,rfl⟩:=sp rfl hs
     exact(zjQ hu (by simpa using hok) (arg2 hF h1 h2 ha) h3).out hH
    ·cases ht
  ·rename_i n e hu
   split at ht
   ·cases ht
   ·rename_i hok
    split at ht
    ·rename_i a1 a2 h1 h2
     cases ht
     cases same rfl (by simp) (by simp)
     obtain⟨h3,rfl⟩:=sp rfl hs
     exact(zid hu (by simpa using hok) (arg2 hF h1 h2 ha) h3).out hH
    ·cases ht
  ·cases ht
 case index t x i=>
  split at ht
  ·rename_i hu
   split at ht
   ·rename_i a1 a2 h1 h2
    cases ht
    cases same rfl (by simp) (by simp)
    obtain⟨h3,rfl⟩:=sp rfl hs
    exact(zie hu (arg2 hF h1 h2 ha) h3).out hH
   ·cases ht
  ·cases ht
 case lookup t m k ok=>
  split at ht
  ·rename_i tk te hu
   split at ht
   ·rename_i s a1 a2 z hk0 h1 h2 hz
    cases ht
    cases same rfl (by simp) (by simp)
    obtain⟨h3,rfl⟩:=sr rfl rfl hs
    exact(ziv hu hk0 hz hH (arg2 hF h1 h2 ha) h3).out hH
   ·cases ht
  ·cases ht
 case mapUpdate t m k y=>
  split at ht
  ·cases ht
  ·split at ht
   ·rename_i tk te hu
    split at ht
    ·rename_i s a1 a2 a3 hk0 h1 h2 h3
     cases ht
     cases same rfl (by simp) (by simp)
     exact zfb hu hk0 hH (arg3 hF h1 h2 h3 ha) (sw rfl rfl hs)
    ·cases ht
   ·cases ht
 case insert t m k y=>
  split at ht
  ·cases ht
  ·split at ht
   ·rename_i tk te hu
    split at ht
    ·rename_i s a1 a2 a3 hk0 h1 h2 h3
     cases ht
     cases same rfl (by simp) (by simp)
     exact zfb hu hk0 hH (arg3 hF h1 h2 h3 ha) (sw rfl rfl hs)
    ·cases ht
   ·cases ht
 case extract x i=>
  exact one _ _ _ ht rfl (by simp) (by simp) fun hl h=>zht hl h
 case typeAssert x xt t ok=>
  split at ht
  ·cases ht
  ·cases ht
  ·rename_i n1 n2
   split at ht
   ·rename_i z hz
    obtain⟨a,g1,g2,rfl⟩:=zaH ht
    cases same g2 (by simp) (by simp)
    obtain⟨h3,rfl⟩:=sp rfl hs
    cases hu:P.underlying t with
    |none=>exact absurd hu n2
    |some d=>exact(zix hu (fun ms e=>n1 ms (by rw[hu,e])) hz (arg1 hF g1 ha) h3).out hH
   ·cases ht
 case nilCheck x=>
  obtain⟨a,h1,h2,rfl⟩:=zaH ht
  cases same h2 (by simp) (by simp)
  obtain⟨h3,rfl⟩:=sp rfl hs
  obtain⟨⟨ad,h4⟩,h5⟩:=zgt (arg1 hF h1 ha) h3
  rw[h4] at h5 ⊢
  exact(show Yld P w X μ hp' (pure (.value (.pointer (some ad)))) v from⟨_,rfl,h5⟩).out hH
 case slice t x lo hi mx=>
  cases mx with
  |some m=>
   cases hi with
   |none=>cases ht
   |some h0=>
    simp only[] at ht
    split at ht
    ·rename_i e hu
     split at ht
     ·cases ht
     ·rename_i hok
      split at ht
      ·rename_i a l b c g1 g2 g3 g4
       cases ht
       cases same rfl (by simp) (by simp)
       obtain⟨h3,rfl⟩:=sp rfl hs
       have hl2:LR w X μ hp' vs (act.eval x::((lo.map act.eval).toList++[act.eval h0,act.eval m])):=by
        refine argc hF g1 ha fun us hus=> ?_
        cases lo with
        |none=>
         simp only[Option.elim,Option.some.injEq] at g2
         subst g2
         exact arg2 hF g3 g4 hus
        |some l0=>
         simp only[Option.elim,Option.map_eq_some_iff] at g2
         obtain⟨q,g2,rfl⟩:=g2
         exact arg3 hF g2 g3 g4 hus
       have:=ziD (lo:=lo.map act.eval) hu (by simpa using hok) hl2 (by simpa[spure] using h3)
       exact this.out hH
      ·cases ht
    ·cases ht
  |none=>
   simp only[] at ht
   split at ht
   ·rename_i e hu
    split at ht
    ·cases ht
    ·rename_i hok
     split at ht
     ·rename_i a l h g1 g2 g3
      cases ht
      cases same rfl (by simp) (by simp)
      obtain⟨h3,rfl⟩:=sp rfl hs
      have:=zjY (lo:=lo.map act.eval) (hi:=hi.map act.eval) hu (by simpa using hok) (argc hF g1 ha fun us hus=>bounds hF g2 g3 hus) (by simpa[spure] using h3)
      exact this.out hH
     ·cases ht
   ·rename_i hu
    split at ht
    ·rename_i a l h g1 g2 g3
     cases ht
     cases same rfl (by simp) (by simp)
     obtain⟨h3,rfl⟩:=sp rfl hs
     have:=ziw (lo:=lo.map act.eval) (hi:=hi.map act.eval) hu rfl (argc hF g1 ha fun us hus=>bounds hF g2 g3 hus) (by simpa[spure] using h3)
     exact this.out hH
    ·cases ht
   ·cases ht
 case call c=>
  cases hcal:c.callee with
  |invoke r n=>rw[hcal] at ht;cases ht
  |value f=>
   rw[hcal] at ht
   simp only[] at ht
   split at ht
   ·cases ht
    rcases hk with rfl|⟨sh,h1,_⟩|⟨_,rfl|rfl⟩|⟨sh,h1,_⟩|⟨sh,h1,_⟩
    ·cases hs
    ·cases h1
    ·cases hs
    ·cases hs
    ·cases h1
    ·cases h1
   ·cases ht
  |builtin bi=>
   rw[hcal] at ht
   simp only[resolve,hcal]
   have go:∀(s:Sem Next),builtin bi c.argTypes o.type (c.args.map fun| .const _=>true|_=>false) (c.args.map act.eval)=s->Out P b w X μ hp s v hp'->Out P b w X μ hp (do let d <-(pure { target:=.builtin bi c.argTypes o.type (c.args.map fun| .const _=>true|_=>false),args:=c.args.map act.eval }:Sem Deferred);invoke d.target d.args) v hp':=by
    intro s e h
    subst e
    exact h
   cases bi <;> simp only[] at ht <;> (try (cases ht;done))
   case append=>
    split at ht
    ·rename_i x y t u e1 e2
     obtain⟨ae,ae'⟩:=zfB e1 act.eval
     have te:=ziG e2
     split at ht
     ·rename_i e e' hu hu'
      split at ht
      ·rename_i hc
       obtain⟨rfl,c1,c2,c3⟩:=hc
       split at ht
       ·rename_i a1 a2 h1 h2
        split at ht
        ·cases ht
         cases same rfl (by simp) (by simp)
         exact go _ rfl (by rw[te,ae'];exact zhG hu c2 c3 c1 hH (arg2 hF h1 h2 ha) (sw rfl rfl hs))
        cases ht
        rcases hk with rfl|⟨_,h9,_⟩|⟨h9,_⟩|⟨sh9,h9,rfl⟩|⟨_,h9,_⟩
        ·exact go _ rfl (by rw[te,ae'];exact zio hu c2 c3 c1 hH (arg2 hF h1 h2 ha) (sw rfl rfl hs))
        ·cases h9
        ·cases h9
        ·cases h9
         obtain⟨h3,rfl⟩:=sp rfl hs
         exact go _ rfl (by rw[te,ae'];exact zhy hu c2 c3 c1 hH (arg2 hF h1 h2 ha) h3)
        ·cases h9
       ·cases ht
      ·cases ht
     ·cases ht
    ·cases ht
   case copy=>
    split at ht
    ·rename_i x y t u e1 e2
     obtain⟨ae,ae'⟩:=zfB e1 act.eval
     have te:=ziG e2
     split at ht
     ·rename_i e hu
      split at ht
      ·rename_i hc
       obtain⟨rfl,hok⟩:=hc
       split at ht
       ·rename_i a1 a2 h1 h2
        cases ht
        cases same rfl (by simp) (by simp)
        exact go _ rfl (by rw[te,ae'];exact zlU hu hok hH (arg2 hF h1 h2 ha) (sw rfl rfl hs))
       ·cases ht
      ·cases ht
     ·cases ht
    ·cases ht
   case clear=>
    split at ht
    ·rename_i x t e1 e2
     have ae:=zk3 e1 act.eval
     have te:=ziH e2
     split at ht
     ·rename_i e hu
      split at ht
      ·rename_i hc
       split at ht
       ·rename_i z a1 hz h1
        cases ht
        cases same rfl (by simp) (by simp)
        exact go _ rfl (by rw[te,ae];exact zj6 hu hc.1 hc.2 hz hH (arg1 hF h1 ha) (sw rfl rfl hs))
       ·cases ht
      ·cases ht
     ·cases ht
    ·cases ht
   case len=>
    split at ht
    ·rename_i x t e1 e2
     have ae:=zk3 e1 act.eval
     have te:=ziH e2
     split at ht
     ·rename_i e hu
      exact go _ rfl (one _ _ _ ht rfl (by simp) (by simp) fun hl h=>by rw[te,ae];exact zm9 hu hl h)
     ·rename_i hu
      exact go _ rfl (one _ _ _ ht rfl (by simp) (by simp) fun hl h=>by rw[te,ae];exact zlH hu hl h)
     ·rename_i tk tv hu
      obtain⟨a,g1,g2,rfl⟩:=zaH ht
      cases same g2 (by simp) (by simp)
      obtain⟨h3,rfl⟩:=sr rfl rfl hs
      exact go _ rfl (by rw[te,ae];exact(zlI hH hu (arg1 hF g1 ha) h3).out hH)
     ·cases ht
    ·cases ht
   case max=>
    split at ht
    ·rename_i x y t u e1 e2
     obtain⟨ae,ae'⟩:=zfB e1 act.eval
     split at ht
     ·rename_i a1 a2 h1 h2
      cases ht
      cases same rfl (by simp) (by simp)
      obtain⟨h3,rfl⟩:=sp rfl hs
      exact go _ rfl (by rw[ae'];exact(zm8 (arg2 hF h1 h2 ha) h3).out hH)
     ·cases ht
    ·cases ht
   case min=>
    split at ht
    ·rename_i x y t u e1 e2
     obtain⟨ae,ae'⟩:=zfB e1 act.eval
     split at ht
     ·rename_i a1 a2 h1 h2
      cases ht
      cases same rfl (by simp) (by simp)
      obtain⟨h3,rfl⟩:=sp rfl hs
      exact go _ rfl (by rw[ae'];exact(zm7 (arg2 hF h1 h2 ha) h3).out hH)
     ·cases ht
    ·cases ht
 case panic x=>
  obtain⟨a,g1,g2,rfl⟩:=zaH ht
  cases same g2 (by simp) (by simp)
  cases hs
end Go.Am

/- Calls of an oracle; one operation of a region, whatever it is. -/
namespace Go.Am
variable{P:Program} {w:World} {X:Xc P} {μ:Nat->Option Nat} {hp:Heap}

def zbb(b:Nat)(w:World)(X:Xc P)(μ:Nat->Option Nat)(hp:Heap)(r:ARes)(hp':Heap):Ending->World->Prop
 | .returned v',w'=>∃μ' v,r=.ret v/\HR w' X μ' hp'/\Ext b X μ hp w μ' hp' w'/\AR w' X μ' hp' v v'
 | .panicked chain,w'=>∃μ' p v',r=.panic p/\chain=[{ v:=v',recovered:=false }]/\HR w' X μ' hp'/\Ext b X μ hp w μ' hp' w'/\AR w' X μ' hp' (.pv none p) v'
 | .outgrown,_=>False

def Called(P:Program)(f:FuncId)(args:Array Value)(w:World)(R:Ending->World->Prop):Prop:=
 ((callFunc f args).run P w=.ok (.enter f args) w/\Calls P f args w R)\/∃v w',(callFunc f args).run P w=.ok (.value v) w'/\R (.returned v) w'

theorem Called.mono{f:FuncId}{args:Array Value}{R R':Ending->World->Prop}(h:Called P f args w R)(hr:∀e w',R e w'->R' e w'):Called P f args w R':=by
 rcases h with⟨h1,h2⟩|⟨v,w',h1,h2⟩
 ·exact .inl ⟨h1,h2.mono hr⟩
 ·exact .inr ⟨v,w',h1,hr _ _ h2⟩

abbrev Fe(ro:Option Nat):Fence:={ Fence.wide with round:=ro }
theorem zj8{ro:Option Nat}{n:Nat}:(Fe ro).depth.isSome=true->1<=n:=fun h=>by cases h
def zdb(rec:Loop)(vs:List Value):Array Value:=(rec.params.zip vs.toArray).foldl (fun tmps (t,a)=>tmps.setIfInBounds t a) rec.tmps
def Leaving(w:World)(X:Xc P)(μ:Nat->Option Nat)(hp:Heap)(p:PV)(u:FrameMode):Prop:=
 (u=.returning/\p=.niliface)\/∃v,u=.panicking [{ v:=v,recovered:=false }]/\AR w X μ hp (.pv none p) v
structure SoundO(P:Program)(Γ:Oracle):Prop where
 seq:∀f args hp r hp',Γ .seq f args hp=some (r,hp')->∀(w:World) (X:Xc P) (μ:Nat->Option Nat) (vs:List Value),HR w X μ hp->LR w X μ hp args vs->(callFunc f vs.toArray).run P w=.ok (.enter f vs.toArray) w/\Calls P f vs.toArray w (zbb hp.length w X μ hp r hp')
 fn:∀f args hp r hp',Γ .fn f args hp=some (r,hp')->∀(w:World) (X:Xc P) (μ:Nat->Option Nat) (vs:List Value),HR w X μ hp->LR w X μ hp args vs->Called P f vs.toArray w (zbb hp.length w X μ hp r hp')
 rnd:∀f q as hp v hp' ps env,Γ .rnd f (.yield q::as) hp=some (.ret v,hp')->hp[q]? =some (.loop f ps env false)->∀(w:World) (X:Xc P) (μ:Nat->Option Nat) (vs:List Value) (l:Nat) (rec:Loop),HR w X μ hp->LR w X μ hp as vs->μ q=some l->w.heap[l]? =some (.loop rec)->
  vs.length=rec.params.size/\RoundIn Fence.wide 0 P l rec.fn (zdb rec vs) rec.assign rec.body w (zbb hp.length w X μ hp (.ret v) hp')
 dfr:∀g p as hp r hp',Γ .dfr g (.pv none p::as) hp=some (r,hp')->∀(w:World) (X:Xc P) (μ:Nat->Option Nat) (vs:List Value) (u:FrameMode),HR w X μ hp->LR w X μ hp as vs->Leaving w X μ hp p u->
  (callFunc g vs.toArray).run P w=.ok (.enter g vs.toArray) w/\CallsDIn Fence.wide 0 P g vs.toArray u w fun e u' w'=>(∃v,e=.returned v)/\Go.settle u'=.returning/\∃μ',HR w' X μ' hp'/\Ext hp.length X μ hp w μ' hp' w'

theorem Ext.any{b b0:Nat}{μ':Nat->Option Nat}{hp':Heap}{w':World}(h:Ext b0 X μ hp w μ' hp' w'):Ext b X μ hp w μ' hp' w':=
 { h with
  box:=fun i sh v ho=>let ⟨v',h1,h2,h3⟩:=h.box i sh v ho;⟨v',h1,h2,fun hi=>by omega⟩
  arv:=fun i sh es ho=>let ⟨n,h1,h2,h3,h4⟩:=h.arv i sh es ho;⟨n,h1,h2,h3,fun es' he hi=>by omega⟩ }
theorem Ext.mono{b b0:Nat}{μ':Nat->Option Nat}{hp':Heap}{w':World}(h:Ext b0 X μ hp w μ' hp' w')(hb:b<=b0):Ext b X μ hp w μ' hp' w':=
 { h with
  box:=fun i sh v ho=>let ⟨v',h1,h2,h3⟩:=h.box i sh v ho;⟨v',h1,h2,fun hi=>h3 (by omega)⟩
  arv:=fun i sh es ho=>let ⟨n,h1,h2,h3,h4⟩:=h.arv i sh es ho;⟨n,h1,h2,h3,fun es' he hi=>h4 es' he (by omega)⟩ }

theorem CP.lr{ps:List (Sh × PV)}{vs:List Value}(h:CP w (Im X μ hp) ps vs):LR w X μ hp (pvs ps) vs:=
 LR.of (by simp[pvs,h.1]) fun i a v ha hv=>by
  simp only[pvs,List.getElem?_map,Option.map_eq_some_iff] at ha
  obtain⟨x,hx,rfl⟩:=ha
  exact .pv _ _ _ (h.2.1 i x v hx hv) (h.2.2 i x v hx hv)

def held(X:Xc P)(μ:Nat->Option Nat)(hp:Heap):Xc P:=⟨fun b=>X b\/∃i,live hp i=true/\μ i=some b⟩

theorem HR.empty(h:HR w X μ hp):HR w (held X μ hp) μ []:=
 ⟨fun i _ _ hi=>by simp at hi,fun i _ hi=>by simp at hi,fun b hb=>by
  rcases hb with hb|⟨i,hi,e⟩
  ·exact h.xlt b hb
  ·exact(h.out i b (zbv hi) e).2,fun i _ _ h=>by simp at h,fun i _ _ _ h=>by simp at h,fun i _ _ h=>by simp at h,fun i _ _ _ _ h=>by simp at h,fun i _ _ h=>by simp at h⟩

theorem zk4{b:Nat}(h:Im X μ hp b):Im (held X μ hp) μ [] b:=
 ⟨fun hb=>by
  rcases hb with hb|⟨i,hi,e⟩
  ·exact h.1 hb
  ·exact h.2 i hi e,fun i hi=>by simp[live] at hi⟩

theorem zhI{b:Nat}{μ':Nat->Option Nat}{hp':Heap}(h:Im (held X μ hp) μ' hp' b):Im X μ hp b:=
 ⟨fun hb=>h.1 (.inl hb),fun i hi e=>h.1 (.inr ⟨i,hi,e⟩)⟩

theorem CP.empty{ps:List (Sh × PV)}{vs:List Value}(h:CP w (Im X μ hp) ps vs):CP w (Im (held X μ hp) μ []) ps vs:=
 ⟨h.1,h.2.1,fun i x v hx hv=>(h.2.2 i x v hx hv).mono fun _ _ _ _ hI hb=>⟨zk4 hI,hb⟩⟩

theorem back{b0 b:Nat}{X':Xc P}{μ':Nat->Option Nat}{hp':Heap}{w':World}(h:HR w X μ hp)(E:Ext b0 X' μ [] w μ' hp' w'):HR w' X μ hp/\Ext b X μ hp w μ hp w':=by
 have hb:∀k,k<w.heap.size->w'.heap[k]? =w.heap[k]? :=fun k hk=>E.blk k hk fun i hi=>by simp[live] at hi
 have e:∀b,Ext b X μ hp w μ hp w':=fun b=>{ Ext.refl b X μ hp w with
  os:=E.os,tape:=E.tape,output:=E.output,size:=E.size,blk:=fun k hk _=>hb k hk,shape:=E.shape
  new:=fun i h1 h2=>by omega
  mov:=fun i _ k hk=>.inl hk }
 exact⟨h.same (e 0) fun i k hi hk=>hb k (h.out i k hi hk).2,e b⟩

theorem zgP{μ':Nat->Option Nat}{hp':Heap}{v v':AV}{u:Value}(h:v.bare=some v')(ha:AR w (held X μ hp) μ' hp' v u):AR w X μ hp v' u:=by
 have pr:∀{p:PV} {u:Value},PR w (Im (held X μ hp) μ' hp') p u->PR w (Im X μ hp) p u:=fun h=>h.mono fun _ _ _ _ hI hb=>⟨zhI hI,hb⟩
 unfold AV.bare at h
 split at h
 ·cases h
  cases ha with|pv _ _ _ hs hq=>exact .pv _ _ _ hs (pr hq)
 ·rename_i l
  split at h
  ·rename_i ps hps
   cases h
   cases ha with|tuple _ vs hl hx=>
   have hpv:l=pvs ps:=by
    clear hl hx
    induction l generalizing ps with
    |nil=>cases hps;rfl
    |cons a r ih=>
     cases a <;> simp only[zqW] at hps <;> (try (cases hps;done))
     split at hps
     ·rename_i l hl
      cases hps
      simp only[pvs,List.map_cons,List.cons.injEq,true_and]
      exact ih _ hl
     ·cases hps
   subst hpv
   refine .tuple _ vs hl fun i a v hi hv=> ?_
   have:=hx i a v hi hv
   simp only[pvs,List.getElem?_map,Option.map_eq_some_iff] at hi
   obtain⟨x,hx',rfl⟩:=hi
   cases this with|pv _ _ _ hs hq=>exact .pv _ _ _ hs (pr hq)
  ·cases h
 ·cases h

theorem zj9{μ':Nat->Option Nat}{hp':Heap}{v v':AV}{u:Value}(h:v.alone hp'=some v')(hH:HR w (held X μ hp) μ' hp')(ha:AR w (held X μ hp) μ' hp' v u):AR w X μ hp v' u:=by
 unfold AV.alone at h
 split at h
 ·rename_i v1 hb
  cases h
  exact zgP hb ha
 ·split at h
  ·rename_i p hp2 hf
   cases h
   obtain⟨_,_,k3⟩:=zaR 0 w _ μ' _ _ _ _ _ _ hf hH ha
   exact .pv _ _ _ (ha.vshp (zcs hf)) (k3.mono fun _ _ _ _ hI hb=>⟨zhI hI,hb⟩)
  ·cases h
theorem zeL:∀(l q:List AV) (vs:List Value),LR w X μ hp l vs->LR w (held X μ hp) μ [] q vs->LR w (held X μ hp) μ [] (zbs l q) vs
 |[],q,vs,_,hq=>by
  have e:zbs [] q=q:=by cases q <;> rfl
  rw[e];exact hq
 |x::r,[],vs,_,hq=>by
  have e:zbs (x::r) []=[]:=by unfold zbs;split <;> first|rfl|simp_all
  rw[e];exact hq
 |x::r,y::q,vs,hl,hq=>by
  cases hl with|cons h1 hl=>
  cases hq with|cons k1 hq=>
  have ih:=zeL r q _ hl hq
  unfold zbs
  split
  ·rename_i s r' y' q' e1 e2
   cases e1
   cases e2
   cases h1 with|tsl _ _ a h=>
   exact .cons (.tsl _ _ a (h.mono fun _ _ _ _ hI hb=>⟨zk4 hI,hb⟩)) ih
  ·rename_i e1 e2
   cases e1
   cases e2
   exact .cons k1 ih
  ·rename_i n1 n2
   exact absurd rfl (n2 _ _ _ _ rfl)
theorem LR.append{l k:List AV}{vs us:List Value}(h:LR w X μ hp l vs)(h':LR w X μ hp k us):LR w X μ hp (l++k) (vs++us):=by
 induction h with
 |nil=>exact h'
 |cons h _ ih=>exact .cons h ih

theorem zdc{v:AV}{u:Value}{g:FuncId}{first captured:List AV}(h:za4 v=some (g,first,captured))(ha:AR w X μ hp v u):∃fs cs:List Value,u=.func (.func g) fs.toArray cs.toArray/\LR w X μ hp first fs/\LR w X μ hp captured cs:=by
 unfold za4 at h
 split at h
 ·cases h
  cases ha with|pv _ _ _ _ hq=>
  cases hq
  exact⟨[],[],rfl,.nil,.nil⟩
 ·cases h
  cases ha with|func _ _ _ fs cs hf hc h1 h2=>exact⟨fs,cs,rfl,LR.of hf h1,LR.of hc h2⟩
 ·cases h

def After(b:Nat)(w:World)(X:Xc P)(μ:Nat->Option Nat)(hp:Heap)(r:OpRes)(a:Act)(dst:Option Tmp)(K:Act->World->Prop)(Q:Exit->Act->World->Prop):Prop:=
 match r with
 | .val v hp'=>∀v' w' μ',AR w' X μ' hp' v v'->HR w' X μ' hp'->Ext b X μ hp w μ' hp' w'->K (a.put dst v') w'
 | .panic p hp'=>∀v' w' μ',AR w' X μ' hp' (.pv none p) v'->HR w' X μ' hp'->Ext b X μ hp w μ' hp' w'->Q (.panic [{ v:=v',recovered:=false }]) a w'

theorem zpq{b:Nat}{o:Oper}{a:Act}{v:AV}{hp':Heap}{K:Act->World->Prop}{Q:Exit->Act->World->Prop}{ro:Option Nat}(hnd:∀c,o.op≠.defer c)(h:Out P b w X μ hp (execOp a.eval o) v hp')(hA:After b w X μ hp (.val v hp') a o.dst K Q):o.wpIn (Fe ro) 0 P a w K Q:=by
 obtain⟨n,v',w',μ',h1,h2,h3,h4,h5⟩:=h
 refine⟨fun _ _=>trivial,?_⟩
 rw[Oper.semAt_eq _ _ _ hnd,h1]
 rcases h2 with rfl|⟨rfl,rfl⟩
 ·exact hA v' w' μ' h3 h4 h5
 ·exact hA _ w' μ' h3 h4 h5

theorem zdd{o:Oper}{a:Act}{f:FuncId}{args:Array Value}{K:Act->World->Prop}{Q:Exit->Act->World->Prop}{R:Ending->World->Prop}{ro:Option Nat}(hnd:∀c,o.op≠.defer c)(he:(execOp a.eval o).run P w=(callFunc f args).run P w)(h:Called P f args w R)
  (hr:∀v w',R (.returned v) w'->K (a.put o.dst v) w')(hp:∀c w',R (.panicked c) w'->Q (.panic c) a w')(ho:∀w',¬R .outgrown w'):o.wpIn (Fe ro) 0 P a w K Q:=by
 refine⟨fun _ _=>trivial,?_⟩
 rw[Oper.semAt_eq _ _ _ hnd,he]
 rcases h with⟨h1,h2⟩|⟨v,w',h1,h2⟩
 ·rw[h1,Oper.uponIn_enter]
  refine⟨zj8,?_⟩
  have h3:CallsIn (Fe ro) (0 - 1) P f args w R:=callsIn_wide.2 h2
  refine h3.mono fun e w' hR=> ?_
  cases e with
  |returned v=>exact hr v w' hR
  |panicked c=>exact hp c w' hR
  |outgrown=>exact absurd hR (ho w')
 ·rw[h1]
  exact hr v w' h2

theorem zfC{o:Oper}{a:Act}{c:Call}{f:Operand}{g:FuncId}{fs cs:List Value}(hop:o.op=.call c)(hc:c.callee=.value f)(hf:a.eval f=.func (.func g) fs.toArray cs.toArray):
  (execOp a.eval o).run P w=(callFunc g (fs++c.args.toList.map a.eval++cs).toArray).run P w:=by
 have e:fs.toArray++c.args.map a.eval++cs.toArray=(fs++c.args.toList.map a.eval++cs).toArray:=by
  apply Array.ext'
  simp
 simp only[execOp,hop,resolve,hc,hf,Deferred.ofValue,pure_bind,invoke]
 rw[<-e]

theorem zfD{o:Oper}{as:List AArg}(h:trOp P o=some (.call,as)):∃c f a1 as',o.op=.call c/\c.callee=.value f/\zbt P 0 f=some a1/\zdY P c.args.toList c.argTypes.toList=some as'/\as=a1::as':=by
 cases hop:o.op <;> simp only[trOp,hop] at h <;> (try (cases h;done))
 case call c=>
  cases hc:c.callee with
  |value f=>
   rw[hc] at h
   simp only[] at h
   split at h
   ·cases h
    exact⟨c,f,_,_,rfl,hc,‹_›,‹_›,rfl⟩
   ·cases h
  |invoke r n=>rw[hc] at h;cases h
  |builtin bi=>
   rw[hc] at h
   cases bi <;> simp only[] at h <;> (try (cases h;done)) <;> (repeat' split at h) <;> cases h
 all_goals ((repeat' split at h) <;> first|(cases h;done)|(exfalso;simp_all;done))
theorem ziI{o:Oper}{as:List AArg}:¬trOp P o=some (.callp,as):=by
 intro h
 cases hop:o.op <;> simp only[trOp,hop] at h <;> (try (cases h;done))
 case call c=>
  cases hc:c.callee with
  |value f=>rw[hc] at h;(repeat' split at h) <;> cases h
  |invoke r n=>rw[hc] at h;cases h
  |builtin bi=>
   rw[hc] at h
   cases bi <;> simp only[] at h <;> (try (cases h;done)) <;> (repeat' split at h) <;> cases h
 all_goals ((repeat' split at h) <;> first|(cases h;done)|(exfalso;simp_all;done))
theorem znk{o:Oper}{as:List AArg}:¬trOp P o=some (.callh,as):=by
 intro h
 cases hop:o.op <;> simp only[trOp,hop] at h <;> (try (cases h;done))
 case call c=>
  cases hc:c.callee with
  |value f=>rw[hc] at h;(repeat' split at h) <;> cases h
  |invoke r n=>rw[hc] at h;cases h
  |builtin bi=>
   rw[hc] at h
   cases bi <;> simp only[] at h <;> (try (cases h;done)) <;> (repeat' split at h) <;> cases h
 all_goals ((repeat' split at h) <;> first|(cases h;done)|(exfalso;simp_all;done))
theorem ziJ{o:Oper}{as:List AArg}:¬trOp P o=some (.callg,as):=by
 intro h
 cases hop:o.op <;> simp only[trOp,hop] at h <;> (try (cases h;done))
 case call c=>
  cases hc:c.callee with
  |value f=>rw[hc] at h;(repeat' split at h) <;> cases h
  |invoke r n=>rw[hc] at h;cases h
  |builtin bi=>
   rw[hc] at h
   cases bi <;> simp only[] at h <;> (try (cases h;done)) <;> (repeat' split at h) <;> cases h
 all_goals ((repeat' split at h) <;> first|(cases h;done)|(exfalso;simp_all;done))
theorem zlV{o:Oper}{as:List AArg}{n:Nat}:¬trOp P o=some (.calln n,as):=by
 intro h
 cases hop:o.op <;> simp only[trOp,hop] at h <;> (try (cases h;done))
 case call c=>
  cases hc:c.callee with
  |value f=>rw[hc] at h;(repeat' split at h) <;> cases h
  |invoke r n=>rw[hc] at h;cases h
  |builtin bi=>
   rw[hc] at h
   cases bi <;> simp only[] at h <;> (try (cases h;done)) <;> (repeat' split at h) <;> cases h
 all_goals ((repeat' split at h) <;> first|(cases h;done)|(exfalso;simp_all;done))
theorem ziK{o:Oper}{as:List AArg}{sh:Sh}{n:Nat}:¬trOp P o=some (.bslicen sh n,as):=by
 intro h
 cases hop:o.op <;> simp only[trOp,hop] at h <;> (try (cases h;done))
 case call c=>
  cases hc:c.callee with
  |value f=>rw[hc] at h;(repeat' split at h) <;> cases h
  |invoke r n=>rw[hc] at h;cases h
  |builtin bi=>
   rw[hc] at h
   cases bi <;> simp only[] at h <;> (try (cases h;done)) <;> (repeat' split at h) <;> cases h
 all_goals ((repeat' split at h) <;> first|(cases h;done)|(exfalso;simp_all;done))
theorem ziL{o:Oper}{as:List AArg}{sh:Sh}{n:Nat}:¬trOp P o=some (.appendn sh n,as):=by
 intro h
 cases hop:o.op <;> simp only[trOp,hop] at h <;> (try (cases h;done))
 case call c=>
  cases hc:c.callee with
  |value f=>rw[hc] at h;(repeat' split at h) <;> cases h
  |invoke r n=>rw[hc] at h;cases h
  |builtin bi=>
   rw[hc] at h
   cases bi <;> simp only[] at h <;> (try (cases h;done)) <;> (repeat' split at h) <;> cases h
 all_goals ((repeat' split at h) <;> first|(cases h;done)|(exfalso;simp_all;done))
theorem zka{o:Oper}{as:List AArg}{sh:Sh}{n:Nat}:¬trOp P o=some (.bslovn sh n,as):=by
 intro h
 cases hop:o.op <;> simp only[trOp,hop] at h <;> (try (cases h;done))
 case call c=>
  cases hc:c.callee with
  |value f=>rw[hc] at h;(repeat' split at h) <;> cases h
  |invoke r n=>rw[hc] at h;cases h
  |builtin bi=>
   rw[hc] at h
   cases bi <;> simp only[] at h <;> (try (cases h;done)) <;> (repeat' split at h) <;> cases h
 all_goals ((repeat' split at h) <;> first|(cases h;done)|(exfalso;simp_all;done))
theorem znl{o:Oper}{as:List AArg}(h:trOp P o=some (.panic,as)):∃x a1,o.op=.panic x/\zbt P 0 x=some a1/\as=[a1]:=by
 cases hop:o.op <;> simp only[trOp,hop] at h <;> (try (cases h;done))
 case panic x=>
  obtain⟨a,g1,g2,rfl⟩:=zaH h
  exact⟨x,a,rfl,g1,rfl⟩
 case call c=>
  cases hc:c.callee with
  |value f=>rw[hc] at h;(repeat' split at h) <;> cases h
  |invoke r n=>rw[hc] at h;cases h
  |builtin bi=>
   rw[hc] at h
   cases bi <;> simp only[] at h <;> (try (cases h;done)) <;> (repeat' split at h) <;> cases h
 all_goals ((repeat' split at h) <;> first|(cases h;done)|(exfalso;simp_all;done))

theorem zcD{Γ:Oracle}(hΓ:SoundO P Γ){b:Nat}{o:Oper}{op op':AOp}{as:List AArg}{fr:Fr}{a:Act}{vs:List AV}{r:OpRes}{K:Act->World->Prop}{Q:Exit->Act->World->Prop}{ro:Option Nat}(hb:b<=hp.length)(ht:trOp P o=some (op,as))(hk:op'.alike op)
  (hF:FR w X μ hp fr a.tmps)(ha:fr.argsOf as=some vs)(hH:HR w X μ hp)(hs:aOp Γ b op' vs hp=some r)(hA:After b w X μ hp r a o.dst K Q):o.wpIn (Fe ro) 0 P a w K Q:=by
 have plain:(∀op,op'≠.call->op'≠.callp->op'≠.callh->op'≠.callg->(∀n,op'≠.calln n)->(∀sh n,op'≠.bslicen sh n)->(∀sh n,op'≠.appendn sh n)->(∀sh n,op'≠.bslovn sh n)->op'≠.panic->op=op'->aOp Γ b op vs hp=(match astep b op vs hp with|some (v,hp')=>some (.val v hp')|none=>none)):=by
  intro op h1 h2 h2' h2g h2n h2b h2a h2v h3 e
  subst e
  unfold aOp
  split
  ·exact absurd rfl h1
  ·exact absurd rfl h2
  ·exact absurd rfl h2'
  ·exact absurd rfl h2g
  ·exact absurd rfl (h2n _)
  ·exact absurd rfl (h2b _ _)
  ·exact absurd rfl (h2a _ _)
  ·exact absurd rfl (h2v _ _)
  ·exact absurd rfl h3
  ·rfl
 have hnd:∀c,o.op≠.defer c:=by
  intro c e
  simp only[trOp,e] at ht
  cases ht
 by_cases c1:op'=.call
 ·subst c1
  have hop:op=.call:=by
   rcases hk with h|⟨sh,_,h|h⟩|⟨h,_⟩|⟨_,_,h⟩|⟨_,_,h⟩
   ·exact h.symm
   ·cases h
   ·cases h
   ·exact h
   ·cases h
   ·cases h
  subst hop
  obtain⟨c,f,a1,as',hc1,hc2,hc3,hc4,rfl⟩:=zfD ht
  obtain⟨v1,us,rfl,hv1,hus⟩:=zat ha
  have g1:=zby hF hc3 hv1
  have g2:=zaM hF hc4 hus
  simp only[aOp] at hs
  unfold zcz at hs
  split at hs
  ·rename_i q as2 heq
   simp only[List.cons.injEq] at heq
   obtain⟨rfl,rfl⟩:=heq
   split at hs
   ·rename_i f2 hlf
    obtain⟨ps,env,hq⟩:∃ps env,hp[q]? =some (.loop f2 ps env false):=by
     unfold zqD at hlf
     split at hlf
     ·rename_i f3 ps env e3;cases hlf;exact⟨ps,env,e3⟩
     ·cases hlf
    obtain⟨l,rc,l1,l2,l3,l4,l5,l6,l7⟩:=hH.loop q f2 ps env false hq
    have e1:a.eval f=.func (.yield l) #[] #[]:=by
     generalize a.eval f=u at g1
     cases g1 with|yield _ l' _ _ _ _ _ hb'=>
     rw[l1] at hb'
     cases hb'
     rfl
    split at hs
    ·rename_i v hp' hg
     cases hs
     obtain⟨k1,k2⟩:=hΓ.rnd _ _ _ _ _ _ _ _ hg hq w X μ _ l rc hH g2 l1 l2
     have hrun:(execOp a.eval o).run P w=.ok (.round l rc.fn (zdb rc (c.args.toList.map a.eval)) rc.assign rc.body) w:=by
      have e2:(c.args.toList.map a.eval).toArray=c.args.map a.eval:=zj7 _ _
      have:=run_yield (P:=P) (args:=c.args.map a.eval) l2 (by rw[<-k1];simp)
      simp only[execOp,hc1,resolve,hc2,e1,Deferred.ofValue,pure_bind,invoke,zdb,e2]
      simpa using this
     refine⟨fun _ _=>trivial,?_⟩
     rw[Oper.semAt_eq _ _ _ hnd,hrun,Oper.uponIn_round]
     refine⟨zj8,?_⟩
     have h3:RoundIn (Fe ro) (0 - 1) P l rc.fn (zdb rc (c.args.toList.map a.eval)) rc.assign rc.body w _:=k2
     refine h3.mono fun e w' hR=> ?_
     cases e with
     |returned v'=>
      obtain⟨μ',v2,h1,h2,h3,h4⟩:=hR
      cases h1
      exact hA v' w' μ' h4 h2 (h3.mono hb)
     |panicked ch=>
      obtain⟨μ',p,v',h1,_⟩:=hR
      cases h1
     |outgrown=>exact hR.elim
    ·cases hs
   ·cases hs
  ·rename_i f1 as1 _ heq
   simp only[List.cons.injEq] at heq
   obtain⟨rfl,rfl⟩:=heq
   split at hs
   ·rename_i g first captured hcal
    obtain⟨fs,cs,e1,e2,e3⟩:=zdc hcal g1
    have hrun:=zfC (P:=P) (w:=w) hc1 hc2 e1
    have hL:=(e2.append g2).append e3
    split at hs
    ·rename_i v hp' hg
     cases hs
     refine zdd hnd hrun (hΓ.fn _ _ _ _ _ hg w X μ _ hH hL) (fun v' w' hR=> ?_) (fun c w' hR=> ?_) (fun w' hR=>hR)
     ·obtain⟨μ',v2,h1,h2,h3,h4⟩:=hR
      cases h1
      exact hA v' w' μ' h4 h2 (h3.mono hb)
     ·obtain⟨μ',p,v',h1,_⟩:=hR
      cases h1
    ·rename_i v hp' hg
     cases hs
     refine zdd hnd hrun (hΓ.fn _ _ _ _ _ hg w X μ _ hH hL) (fun v' w' hR=> ?_) (fun c w' hR=> ?_) (fun w' hR=>hR)
     ·obtain⟨μ',v2,h1,h2,h3,h4⟩:=hR
      cases h1
     ·obtain⟨μ',p,v',h1,rfl,h2,h3,h4⟩:=hR
      cases h1
      exact hA v' w' μ' h4 h2 (h3.mono hb)
    ·cases hs
   ·cases hs
  ·cases hs
 ·by_cases c2:op'=.callp
  ·subst c2
   have hop:op=.call:=by
    rcases hk with h|⟨sh,_,h|h⟩|⟨h,_⟩|⟨_,_,h⟩|⟨_,_,h⟩
    ·exact absurd ht (by rw[<-h];exact ziI)
    ·cases h
    ·cases h
    ·exact h
    ·cases h
    ·cases h
   subst hop
   obtain⟨c,f,a1,as',hc1,hc2,hc3,hc4,rfl⟩:=zfD ht
   obtain⟨v1,us,rfl,hv1,hus⟩:=zat ha
   have g1:=zby hF hc3 hv1
   have g2:=zaM hF hc4 hus
   simp only[aOp,zeb] at hs
   split at hs
   ·rename_i s0 g as0 heq
    simp only[List.cons.injEq] at heq
    obtain⟨rfl,rfl⟩:=heq
    split at hs
    ·rename_i ps hps
     have hCP:=zbz _ _ _ hps g2
     have hE:=(HR.empty hH)
     have hL:=zeL _ _ _ g2 hCP.empty.lr
     cases g1 with|pv _ _ _ _ hq=>
     have e1:a.eval f=.func (.func g) ([]:List Value).toArray ([]:List Value).toArray:=by
      generalize a.eval f=u at hq
      cases hq
      rfl
     have hrun:=zfC (P:=P) (w:=w) hc1 hc2 e1
     simp only[List.nil_append,List.append_nil] at hrun
     split at hs
     ·rename_i v hp2 hg
      split at hs
      ·rename_i v' hbare
       cases hs
       refine zdd hnd hrun (hΓ.fn _ _ _ _ _ hg w _ μ _ hE hL) (fun v' w' hR=> ?_) (fun c w' hR=> ?_) (fun w' hR=>hR)
       ·obtain⟨μ',v2,h1,h2,h3,h4⟩:=hR
        cases h1
        obtain⟨k1,k2⟩:=back (b:=b) hH h3
        exact hA v' w' μ (zj9 hbare h2 h4) k1 k2
       ·obtain⟨μ',p,v',h1,_⟩:=hR
        cases h1
      ·cases hs
     ·cases hs
    ·cases hs
   ·cases hs
  ·by_cases c4:op'=.callh
   ·subst c4
    have hop:op=.call:=by
     rcases hk with h|⟨sh,_,h|h⟩|⟨h,_⟩|⟨_,_,h⟩|⟨_,_,h⟩
     ·exact absurd ht (by rw[<-h];exact znk)
     ·cases h
     ·cases h
     ·exact h
     ·cases h
     ·cases h
    subst hop
    obtain⟨c,f,a1,as',hc1,hc2,hc3,hc4,rfl⟩:=zfD ht
    obtain⟨v1,us,rfl,hv1,hus⟩:=zat ha
    have g1:=zby hF hc3 hv1
    have g2:=zaM hF hc4 hus
    simp only[aOp,zgy] at hs
    split at hs
    ·rename_i g first captured hcal
     obtain⟨fs,cs,e1,e2,e3⟩:=zdc hcal g1
     have hrun:=zfC (P:=P) (w:=w) hc1 hc2 e1
     have hL:=(e2.append g2).append e3
     split at hs
     ·rename_i v hp' hg
      split at hs
      ·rename_i hsame
       cases hs
       cases zj2 hsame
       refine zdd hnd hrun (hΓ.fn _ _ _ _ _ hg w X μ _ hH hL) (fun v' w' hR=> ?_) (fun c w' hR=> ?_) (fun w' hR=>hR)
       ·obtain⟨μ',v2,h1,h2,h3,h4⟩:=hR
        cases h1
        exact hA v' w' μ' h4 h2 (h3.mono hb)
       ·obtain⟨μ',p,v',h1,_⟩:=hR
        cases h1
      ·cases hs
     ·cases hs
    ·cases hs
   ·by_cases c3:op'=.panic
    ·subst c3
     have hop:op=.panic:=by
      rcases hk with h|⟨sh,_,h|h⟩|⟨_,h|h⟩|⟨_,_,h⟩|⟨_,_,h⟩
      ·exact h.symm
      ·cases h
      ·cases h
      ·cases h
      ·cases h
      ·cases h
      ·cases h
     subst hop
     obtain⟨x,a1,hc1,hc2,rfl⟩:=znl ht
     have g:=arg1 hF hc2 ha
     simp only[aOp,zqE] at hs
     split at hs
     ·rename_i s0 t s p
      cases hs
      obtain⟨y,e1,e2⟩:=g.one
      simp only[List.cons.injEq,and_true] at e1
      refine⟨fun _ _=>trivial,?_⟩
      cases e2 with|pv _ _ _ hs0 hq=>
      cases hq with|iface _ _ _ vv hs1 h2=>
      have hrun:(execOp a.eval o).run P w=.halt (.panic (.iface t vv)) w:=by
       simp only[execOp,hc1,e1]
       simp[Instr.panic,goPanic]
      rw[Oper.semAt_eq _ _ _ hnd,hrun,Oper.uponIn_panic]
      exact hA _ w μ (.pv _ _ _ rfl (.iface _ _ _ _ hs1 h2)) hH (Ext.refl _ _ _ _ _)
     ·cases hs
    ·have c5:∀n,op'≠.calln n:=by
      rintro n rfl
      rcases hk with h|⟨sh,_,h|h⟩|⟨_,h|h⟩|⟨_,_,h⟩|⟨_,_,h⟩
      ·exact zlV (by rw[<-h] at ht;exact ht)
      ·cases h
      ·cases h
      ·cases h
      ·cases h
      ·cases h
      ·cases h
     have c6:∀sh n,op'≠.bslicen sh n:=by
      rintro sh n rfl
      rcases hk with h|⟨sh,_,h|h⟩|⟨_,h|h⟩|⟨_,_,h⟩|⟨_,_,h⟩
      ·exact ziK (by rw[<-h] at ht;exact ht)
      ·cases h
      ·cases h
      ·cases h
      ·cases h
      ·cases h
      ·cases h
     have c8:∀sh n,op'≠.appendn sh n:=by
      rintro sh n rfl
      rcases hk with h|⟨sh,_,h|h⟩|⟨_,h|h⟩|⟨_,_,h⟩|⟨_,_,h⟩
      ·exact ziL (by rw[<-h] at ht;exact ht)
      ·cases h
      ·cases h
      ·cases h
      ·cases h
      ·cases h
      ·cases h
     have c9:∀sh n,op'≠.bslovn sh n:=by
      rintro sh n rfl
      rcases hk with h|⟨sh,_,h|h⟩|⟨_,h|h⟩|⟨_,_,h⟩|⟨_,_,h⟩
      ·exact zka (by rw[<-h] at ht;exact ht)
      ·cases h
      ·cases h
      ·cases h
      ·cases h
      ·cases h
      ·cases h
     have c7:op'≠.callg:=by
      rintro rfl
      rcases hk with h|⟨sh,_,h|h⟩|⟨_,h|h⟩|⟨_,_,h⟩|⟨_,_,h⟩
      ·exact ziJ (by rw[<-h] at ht;exact ht)
      ·cases h
      ·cases h
      ·cases h
      ·cases h
      ·cases h
      ·cases h
     rw[plain op' c1 c2 c4 c7 c5 c6 c8 c9 c3 rfl] at hs
     split at hs
     ·rename_i v hp' hst
      cases hs
      exact zpq hnd (zpp hb ht hk hF ha hH hst) hA
     ·cases hs
end Go.Am

/- Regions in the text's order. -/
namespace Go.Am
variable{P:Program} {w:World} {X:Xc P} {μ:Nat->Option Nat} {hp:Heap}

def zaX(w:World)(X:Xc P)(μ:Nat->Option Nat)(hp:Heap):AExit->Exit->Prop
 | .normal,.normal=>True
 | .exit i,.exit j=>i=j
 | .ret,.ret=>True
 | .panic p,.panic chain=>∃v,chain=[{ v,recovered:=false }]/\AR w X μ hp (.pv none p) v
 |_,_=>False

def Lands(nt:Nat)(b:Nat)(w:World)(X:Xc P)(μ:Nat->Option Nat)(hp:Heap)(ds:List Deferred)(e:AExit)(fr:Fr)(hp':Heap)(e':Exit)(a:Act)(w':World):Prop:=
 a.defers=ds/\a.tmps.size=nt/\∃μ',HR w' X μ' hp'/\FR w' X μ' hp' fr a.tmps/\Ext b X μ hp w μ' hp' w'/\zaX w' X μ' hp' e e'

theorem FR.put{w':World}{μ':Nat->Option Nat}{hp':Heap}{b:Nat}{fr:Fr}{a:Act}{v:AV}{v':Value}{dst:Option Nat}(h:FR w X μ hp fr a.tmps)(E:Ext b X μ hp w μ' hp' w')(hd:∀d,dst=some d->d<a.tmps.size)(hv:AR w' X μ' hp' v v'):FR w' X μ' hp' (fr.dst dst v) (a.put dst v').tmps:=by
 cases dst with
 |none=>exact fun s u hs=>⟨(h s u hs).1,E.ar (h s u hs).2⟩
 |some d=>
  intro s u hs
  have hlt:=hd d rfl
  simp only[Fr.dst,Fr.look] at hs
  simp only[Act.put,Array.size_setIfInBounds]
  split at hs
  ·rename_i e
   subst e
   cases hs
   exact⟨hlt,by simpa[Array.getD,hlt] using hv⟩
  ·rename_i e
   obtain⟨h1,h2⟩:=h s u hs
   refine⟨h1,?_⟩
   have:(a.tmps.setIfInBounds d v').getD s undef=a.tmps.getD s undef:=by
    simp only[Array.getD_eq_getD_getElem?,Array.getElem?_setIfInBounds_ne e]
   rw[this]
   exact E.ar h2

theorem zbg(a:Act)(d:Option Tmp)(v:Value):(a.put d v).tmps.size=a.tmps.size:=by cases d <;> simp[Act.put]
theorem zb7(a:Act)(d:Option Tmp)(v:Value):(a.put d v).defers=a.defers:=by cases d <;> rfl

theorem FR.keep{fr:Fr}{t:Array Value}(h:FR w X μ hp fr t)(ks:List Nat):FR w X μ hp (fr.keep ks) t:=by
 have key:∀(ks:List Nat) s u,(fr.keep ks).look s=some u->fr.look s=some u:=by
  intro ks
  induction ks with
  |nil=>intro s u hs;simp[Fr.keep,Fr.look] at hs
  |cons k r ih=>
   intro s u hs
   simp only[Fr.keep] at hs
   split at hs
   ·rename_i v hv
    simp only[Fr.look] at hs
    split at hs
    ·rename_i e;subst e;cases hs;exact hv
    ·exact ih s u hs
   ·exact ih s u hs
 exact fun s u hs=>h s u (key ks s u hs)

theorem zbl{nt:Nat}{ops:Array Oper}{o:Oper}{ao:AOper}{fr:Fr}{t:Array Value}{x:Bool}(hF:FR w X μ hp fr t)(h:zee P nt ops o=some ao)(hw:wants fr ao.guard=some x):Region.wanted o (yielded ops t)=x:=by
 unfold zee at h
 split at h
 ·split at h
  ·cases h
  ·rename_i op as hop
   split at h
   ·rename_i hg
    cases h
    simp only[wants,Option.some.injEq] at hw
    simp[Region.wanted,hg,<-hw]
   ·rename_i j want hg
    split at h
    ·rename_i s hs
     cases h
     simp only[wants] at hw
     split at hw
     ·rename_i sh b hl
      cases hw
      obtain⟨h1,h2⟩:=hF s _ hl
      have h3:=h2.bool_inv
      have h4:t[s]? =some (.bool b):=by
       rw[<-h3]
       simp[Array.getD,h1]
      simp[Region.wanted,hg,yielded,hs,h4]
     ·rename_i hl
      cases hw
      obtain⟨h1,h2⟩:=hF s _ hl
      cases h2 with|undef _ h2=>
      have h4:t[s]? =some (t.getD s undef):=by simp[Array.getD,h1]
      simp only[Region.wanted,hg,yielded,hs,Option.bind_some,h4]
      cases hv:t.getD s undef with
      |bool b=>exact absurd hv (h2 b)
      |_=>rfl
     ·cases hw
    ·cases h
 ·cases h

theorem zdE{nt:Nat}{ops:Array Oper}{o:Oper}{ao:AOper}(h:zee P nt ops o=some ao):ao.dst=o.dst/\(∀d,o.dst=some d->d<nt)/\trOp P o=some (ao.op,ao.args):=by
 unfold zee at h
 split at h
 ·rename_i hd
  have hd':∀d,o.dst=some d->d<nt:=fun d e=>zpe hd e
  split at h
  ·cases h
  ·rename_i op as hop
   split at h
   ·cases h;exact⟨rfl,hd',hop⟩
   ·split at h
    ·cases h;exact⟨rfl,hd',hop⟩
    ·cases h
 ·cases h

inductive Likes:List AOper->List AOper->Prop
 |nil:Likes [] []
 |cons (a b:AOper) (l k:List AOper) (h1:a.dst=b.dst) (h2:a.guard=b.guard) (h3:a.args=b.args) (h4:a.op.alike b.op) (h:Likes l k):Likes (a::l) (b::k)
theorem Likes.refl:∀l:List AOper,Likes l l
 |[]=>.nil
 |a::l=>.cons a a l l rfl rfl rfl (.inl rfl) (Likes.refl l)
theorem Likes.map{f:AOper->AOper}(hf:∀a,(f a).dst=a.dst/\(f a).guard=a.guard/\(f a).args=a.args/\(f a).op.alike a.op):∀l:List AOper,Likes (l.map f) l
 |[]=>.nil
 |a::l=>.cons _ _ _ _ (hf a).1 (hf a).2.1 (hf a).2.2.1 (hf a).2.2.2 (Likes.map hf l)
theorem znm(k:List AOper)(a:AOper):(ownB k a).dst=a.dst/\(ownB k a).guard=a.guard/\(ownB k a).args=a.args/\(ownB k a).op.alike a.op:=by
 unfold ownB
 split
 ·rename_i sh d hop _
  split
  ·refine⟨rfl,rfl,rfl,?_⟩
   rw[hop]
   exact .inr (.inl ⟨sh,rfl,.inr rfl⟩)
  ·exact⟨rfl,rfl,rfl,.inl rfl⟩
 ·exact⟨rfl,rfl,rfl,.inl rfl⟩

theorem zeM{Γ:Oracle}(hΓ:SoundO P Γ){nt b:Nat}{ops:Array Oper}{e:AExit}{fr':Fr}{hp':Heap}{Q:Exit->Act->World->Prop}{ro:Option Nat}:∀(l0 l:List AOper) (n i:Nat) (w:World) (μ:Nat->Option Nat) (hp:Heap) (fr:Fr) (a:Act),
  i+n<=ops.size->zdT P nt ops ((ops.toList.drop i).take n)=some l0->Likes l l0->aops Γ b l fr hp=some (e,fr',hp')->b<=hp.length->HR w X μ hp->FR w X μ hp fr a.tmps->a.tmps.size=nt->(∀e' a' w',Lands nt b w X μ hp a.defers e fr' hp' e' a' w'->Q e' a' w')->
  wpOpsIn (Fe ro) 0 P ops Q (List.range' i n) a w
 |[],l,n,i,w,μ,hp,fr,a,hn,ht,hlk,hs,hb,hH,hF,hsz,hQ=>by
  cases hlk
  have h0:n=0:=by
   rcases Nat.eq_zero_or_pos n with h|h
   ·exact h
   ·exfalso
    have hlt:i<ops.toList.length:=by rw[Array.length_toList];omega
    obtain⟨m,rfl⟩:∃m,n=m+1:=⟨n - 1,by omega⟩
    rw[List.drop_eq_getElem_cons hlt,List.take_succ_cons] at ht
    simp only[zdT] at ht
    split at ht
    ·cases ht
    ·split at ht <;> cases ht
  subst h0
  simp only[aops,Option.some.injEq,Prod.mk.injEq] at hs
  obtain⟨rfl,rfl,rfl⟩:=hs
  exact hQ _ _ _ ⟨rfl,hsz,μ,hH,hF,Ext.refl _ _ _ _ _,trivial⟩
 |ao0::l0,lx,n,i,w,μ,hp,fr,a,hn,ht,hlk,hs,hb,hH,hF,hsz,hQ=>by
  cases hlk with|cons ao _ l _ k1 k2 k3 k4 hlk=>
  have h0:0<n:=by
   rcases Nat.eq_zero_or_pos n with h|h
   ·subst h;rw[List.take_zero] at ht;cases ht
   ·exact h
  obtain⟨m,rfl⟩:∃m,n=m+1:=⟨n - 1,by omega⟩
  have hlt:i<ops.size:=by omega
  have hlt':i<ops.toList.length:=by simpa using hlt
  rw[List.drop_eq_getElem_cons hlt',List.take_succ_cons] at ht
  simp only[zdT] at ht
  split at ht
  ·cases ht
  ·rename_i ao' hao
   split at ht
   ·rename_i l' hl'
    cases ht
    obtain⟨d1,d2,d3⟩:=zdE hao
    have d1:=k1.trans d1
    have ho:ops[i]? =some ops.toList[i]:=by simp[hlt]
    simp only[List.range'_succ,wpOpsIn,ho]
    simp only[aops] at hs
    have rest:∀(v:AV) (hp2:Heap) (v':Value) (w2:World) (μ2:Nat->Option Nat),aops Γ b l (fr.dst ao.dst v) hp2=some (e,fr',hp')->AR w2 X μ2 hp2 v v'->HR w2 X μ2 hp2->Ext b X μ hp w μ2 hp2 w2->wpOpsIn (Fe ro) 0 P ops Q (List.range' (i+1) m) (a.put ops.toList[i].dst v') w2:=by
     intro v hp2 v' w2 μ2 hr hv hH2 E
     refine zeM hΓ l0 l m (i+1) w2 μ2 hp2 _ _ (by omega) hl' hlk hr (Nat.le_trans hb E.len) hH2 ?_ (by rw[zbg];exact hsz) ?_
     ·rw[d1];exact hF.put E (fun d hd=>by rw[hsz];exact d2 d hd) hv
     ·intro e' a' w' hL
      rw[zb7] at hL
      obtain⟨k1,k2,μ',k3,k4,k5,k6⟩:=hL
      exact hQ e' a' w' ⟨k1,k2,μ',k3,k4,E.trans k5,k6⟩
    split at hs
    ·cases hs
    ·rename_i hw
     rw[zbl hF hao (by rw[<-k2];exact hw)]
     simp only[Bool.false_eq_true,if_false]
     refine⟨fun _ _=>trivial,?_⟩
     exact rest .undef hp undef w μ hs (.undef _ fun b h=>by cases h) hH (Ext.refl _ _ _ _ _)
    ·rename_i hw
     rw[zbl hF hao (by rw[<-k2];exact hw)]
     simp only[if_true]
     split at hs
     ·cases hs
     ·rename_i vs hvs
      split at hs
      ·rename_i v hp2 hop
       exact(zcD hΓ hb d3 k4 hF (by rw[<-k3];exact hvs) hH hop (fun v' w2 μ2 hv hH2 E=>rest v hp2 v' w2 μ2 hs hv hH2 E))
      ·rename_i v hp2 hop
       cases hs
       refine(zcD hΓ hb d3 k4 hF (by rw[<-k3];exact hvs) hH hop (fun v' w2 μ2 hv hH2 E=> ?_))
       exact hQ _ _ _ ⟨rfl,hsz,μ2,hH2,fun s u hs=>⟨(hF s u hs).1,E.ar (hF s u hs).2⟩,E,v',rfl,hv⟩
      ·cases hs
   ·cases ht

theorem zfc{Γ:Oracle}(hΓ:SoundO P Γ){nt b id:Nat}{ops:Array Oper}{e:AExit}{fr fr':Fr}{hp':Heap}{Q:Exit->Act->World->Prop}{l l0:List AOper}{a:Act}{ro:Option Nat}(ht:zdT P nt ops ops.toList=some l0)(hlk:Likes l l0)(hs:aops Γ b l fr hp=some (e,fr',hp'))(hb:b<=hp.length)
  (hH:HR w X μ hp)(hF:FR w X μ hp fr a.tmps)(hsz:a.tmps.size=nt)(hQ:∀e' a' w',Lands nt b w X μ hp a.defers e fr' hp' e' a' w'->Q e' a' w'):(Code.region id ops false).wpIn (Fe ro) 0 P Q a w:=by
 apply wpIn_region
 rw[List.range_eq_range']
 exact zeM hΓ l0 l ops.size 0 w μ hp fr a (by omega) (by rw[List.drop_zero,List.take_of_length_le (by simp)];exact ht) hlk hs hb hH hF hsz hQ
end Go.Am

/- Settling; dropping objects that nothing shows. -/
namespace Go.Am
variable{P:Program} {w:World} {X:Xc P} {μ:Nat->Option Nat} {hp:Heap}

theorem zq4{l:List (Sh × AV)}{q:Nat}(h:q∈AV.refsIn.go l):∃(i:Nat) (x:Sh × AV),l[i]? =some x/\q∈x.2.refsIn:=by
 induction l with
 |nil=>simp[AV.refsIn.go] at h
 |cons x r ih=>
  obtain⟨s,v⟩:=x
  simp only[AV.refsIn.go,List.mem_append] at h
  rcases h with h|h
  ·exact⟨0,_,rfl,h⟩
  ·obtain⟨i,x,hx,hq⟩:=ih h
   exact⟨i+1,x,by simpa using hx,hq⟩
theorem zhJ{l:List AV}{q:Nat}(h:q∈AV.refsIn.gol l):∃(i:Nat) (x:AV),l[i]? =some x/\q∈x.refsIn:=by
 induction l with
 |nil=>simp[AV.refsIn.gol] at h
 |cons x r ih=>
  simp only[AV.refsIn.gol,List.mem_append] at h
  rcases h with h|h
  ·exact⟨0,_,rfl,h⟩
  ·obtain⟨i,x,hx,hq⟩:=ih h
   exact⟨i+1,x,by simpa using hx,hq⟩
theorem zq5{l:List (Sh × AV)}{q i:Nat}{x:Sh × AV}(hx:l[i]? =some x)(h:q∈x.2.refsIn):q∈AV.refsIn.go l:=by
 induction l generalizing i with
 |nil=>simp at hx
 |cons y r ih=>
  obtain⟨s,v⟩:=y
  simp only[AV.refsIn.go,List.mem_append]
  cases i with
  |zero=>simp at hx;subst hx;exact .inl h
  |succ i=>exact .inr (ih (by simpa using hx))
theorem zhK{l:List AV}{q i:Nat}{x:AV}(hx:l[i]? =some x)(h:q∈x.refsIn):q∈AV.refsIn.gol l:=by
 induction l generalizing i with
 |nil=>simp at hx
 |cons y r ih=>
  simp only[AV.refsIn.gol,List.mem_append]
  cases i with
  |zero=>simp at hx;subst hx;exact .inl h
  |succ i=>exact .inr (ih (by simpa using hx))

theorem znn{n i:Nat}(h:live (hp.take n) i=true):live hp i=true:=by
 have hlt:=zbv h
 simp only[List.length_take] at hlt
 unfold live at*
 rw[List.getElem?_take,if_pos (by omega)] at h
 exact h
theorem zno{n b:Nat}(h:Im X μ hp b):Im X μ (hp.take n) b:=⟨h.1,fun i hi=>h.2 i (znn hi)⟩
theorem PR.take{n:Nat}{p:PV}{v:Value}(h:PR w (Im X μ hp) p v):PR w (Im X μ (hp.take n)) p v:=h.mono fun _ _ _ _ hI hb=>⟨zno hI,hb⟩
theorem zbP{n i:Nat}{o:AObj}(h:hp[i]? =some o)(hi:i<n):(hp.take n)[i]? =some o:=by rw[List.getElem?_take,if_pos hi];exact h
theorem zdF{n i:Nat}{o:AObj}(h:(hp.take n)[i]? =some o):i<n/\hp[i]? =some o:=by
 rw[List.getElem?_take] at h
 split at h
 ·exact⟨‹_›,h⟩
 ·cases h

theorem zeN{r n m:Nat}{sh:Sh}(h:zck hp[r]? =some (sh,m))(hr:r<n):zck (hp.take n)[r]? =some (sh,m):=by
 rw[List.getElem?_take_of_lt hr]
 exact h
theorem AR.take{n:Nat}{a:AV}{v:Value}(h:AR w X μ hp a v)(hn:∀q∈a.refsIn,q<n):AR w X μ (hp.take n) a v:=by
 induction h with
 |undef v h=>exact .undef v h
 |pv sh p v hs h=>exact .pv sh p v hs h.take
 |agg l vs hl h _ ih=>exact .agg l vs hl h fun i x v hx hv=>ih i x v hx hv fun q hq=>hn q (zq5 hx hq)
 |tsl sh es a h=>exact .tsl sh es a h.take
 |sl sh r ver off len a cap es fz ho hv hlc ha hc=>exact .sl sh r ver off len a cap es fz (zbP ho (hn r (by simp[AV.refsIn]))) hv hlc ha hc
 |ptr r off b sh v ho hb=>exact .ptr r off b sh v (zbP ho (hn r (by simp[AV.refsIn]))) hb
 |eptr sh r ver i off a es fz ho hv hc=>exact .eptr sh r ver i off a es fz (zbP ho (hn r (by simp[AV.refsIn]))) hv hc
 |iptr sh p off b o cs t fr v hI hb hp hs hc=>exact .iptr sh p off b o cs t fr v (zno hI) hb hp.take hs hc
 |map r b sh es ho hb=>exact .map r b sh es (zbP ho (hn r (by simp[AV.refsIn]))) hb
 |func fn first captured fs cs hf hc _ _ ih ih'=>
  exact .func fn first captured fs cs hf hc (fun i a v hx hv=>ih i a v hx hv fun q hq=>hn q (by simp[AV.refsIn,zhK hx hq])) (fun i a v hx hv=>ih' i a v hx hv fun q hq=>hn q (by simp[AV.refsIn,zhK hx hq]))
 |iface t a v _ ih=>exact .iface t a v (ih fun q hq=>hn q (by simpa[AV.refsIn] using hq))
 |tuple l vs hl _ ih=>exact .tuple l vs hl fun i x v hx hv=>ih i x v hx hv fun q hq=>hn q (by simp[AV.refsIn,zhK hx hq])
 |yield r l f ps env bz ho hb=>exact .yield r l f ps env bz (zbP ho (hn r (by simp[AV.refsIn]))) hb
 |slv sh r ver off len a cap m ho hv hlc ha hc=>exact .slv sh r ver off len a cap m (zeN ho (hn r (by simp[AV.refsIn]))) hv hlc ha hc
 |epv sh r ver i off a m ho hv hc=>exact .epv sh r ver i off a m (zeN ho (hn r (by simp[AV.refsIn]))) hv hc
 |nilv sh=>exact .nilv sh

theorem AR.refs_lt{a:AV}{v:Value}(h:AR w X μ hp a v):∀q∈a.refsIn,q<hp.length:=by
 have lt:∀{i:Nat} {o:AObj},hp[i]? =some o->i<hp.length:=fun h=>(List.getElem?_eq_some_iff.1 h).1
 induction h with
 |undef v=>intro q hq;simp[AV.refsIn] at hq
 |pv sh p v hs h=>intro q hq;simp[AV.refsIn] at hq
 |agg l vs hl h _ ih=>
  intro q hq
  obtain⟨i,x,hx,hq⟩:=zq4 (by simpa[AV.refsIn] using hq)
  have hi:i<vs.length:=by rw[<-hl];exact(List.getElem?_eq_some_iff.1 hx).1
  exact ih i x vs[i] hx (List.getElem?_eq_getElem hi) q hq
 |tsl sh es a h=>intro q hq;simp[AV.refsIn] at hq
 |sl sh r ver off len a cap es fz ho hv hlc ha hc=>intro q hq;simp[AV.refsIn] at hq;subst hq;exact lt ho
 |ptr r off b sh v ho hb=>intro q hq;simp[AV.refsIn] at hq;subst hq;exact lt ho
 |eptr sh r ver i off a es fz ho hv hc=>intro q hq;simp[AV.refsIn] at hq;subst hq;exact lt ho
 |iptr=>intro q hq;simp[AV.refsIn] at hq
 |map r b sh es ho hb=>intro q hq;simp[AV.refsIn] at hq;subst hq;exact lt ho
 |func fn first captured fs cs hf hc _ _ ih ih'=>
  intro q hq
  simp only[AV.refsIn,List.mem_append] at hq
  rcases hq with hq|hq
  ·obtain⟨i,x,hx,hq⟩:=zhJ hq
   have hi:i<fs.length:=by rw[<-hf];exact(List.getElem?_eq_some_iff.1 hx).1
   exact ih i x fs[i] hx (List.getElem?_eq_getElem hi) q hq
  ·obtain⟨i,x,hx,hq⟩:=zhJ hq
   have hi:i<cs.length:=by rw[<-hc];exact(List.getElem?_eq_some_iff.1 hx).1
   exact ih' i x cs[i] hx (List.getElem?_eq_getElem hi) q hq
 |iface t a v _ ih=>intro q hq;exact ih q (by simpa[AV.refsIn] using hq)
 |tuple l vs hl _ ih=>
  intro q hq
  obtain⟨i,x,hx,hq⟩:=zhJ (by simpa[AV.refsIn] using hq)
  have hi:i<vs.length:=by rw[<-hl];exact(List.getElem?_eq_some_iff.1 hx).1
  exact ih i x vs[i] hx (List.getElem?_eq_getElem hi) q hq
 |yield r l f ps env bz ho hb=>intro q hq;simp[AV.refsIn] at hq;subst hq;exact lt ho
 |slv sh r ver off len a cap m ho hv hlc ha hc=>
  intro q hq;simp[AV.refsIn] at hq;subst hq
  rcases zbw ho with⟨es,e,_⟩|⟨es,e,_⟩ <;> exact lt e
 |epv sh r ver i off a m ho hv hc=>
  intro q hq;simp[AV.refsIn] at hq;subst hq
  rcases zbw ho with⟨es,e,_⟩|⟨es,e,_⟩ <;> exact lt e
 |nilv sh=>intro q hq;simp[AV.refsIn] at hq

theorem zpr{fr:Fr}{x:Nat × AV}{q:Nat}(h:x∈fr)(hq:q∈x.2.refsIn):q∈zgx fr:=by
 induction fr with
 |nil=>cases h
 |cons y r ih=>
  simp only[zgx,List.mem_append]
  rcases List.mem_cons.1 h with rfl|h
  ·exact .inl hq
  ·exact .inr (ih h)
theorem znp{fr:Fr}{q:Nat}(h:q∈zgx fr):∃x∈fr,q∈x.2.refsIn:=by
 induction fr with
 |nil=>cases h
 |cons x r ih=>
  obtain⟨k,u⟩:=x
  simp only[zgx,List.mem_append] at h
  rcases h with h|h
  ·exact⟨_,List.mem_cons_self,h⟩
  ·obtain⟨y,hy,hq⟩:=ih h
   exact⟨y,List.mem_cons_of_mem _ hy,hq⟩

theorem HR.take{n:Nat}(h:HR w X μ hp)(hr:∀i o,i<n->hp[i]? =some o->∀q∈o.refs,q<n):HR w X μ (hp.take n):=by
 have hle:∀{i:Nat},i<(hp.take n).length->i<hp.length:=fun h=>by simp at h;omega
 refine⟨fun i j b hi hj=>h.inj i j b (hle hi) (hle hj),fun i b hi=>h.out i b (hle hi),h.xlt,?_,?_,?_,?_,?_⟩
 ·intro i sh v hi
  obtain⟨hi,ho⟩:=zdF hi
  obtain⟨b,val,t,h1,h2,h3,h4,h5⟩:=h.box i sh v ho
  exact⟨b,val,t,h1,h2,h3,h4,h5.take (hr i _ hi ho)⟩
 ·intro i sh es fz hi
  obtain⟨hi,ho⟩:=zdF hi
  obtain⟨h0,h1⟩:=h.arr i sh es fz ho
  refine⟨h0,?_⟩
  rcases h1 with h1|⟨b,cs,t,vals,h1,h2,h3,h4,h5⟩
  ·exact .inl h1
  ·exact .inr ⟨b,cs,t,vals,h1,h2,h3,fun k p v hp hv=>⟨(h4 k p v hp hv).1,(h4 k p v hp hv).2.take⟩,h5⟩
 ·intro i sh es hi
  obtain⟨hi,ho⟩:=zdF hi
  obtain⟨b,ents,clock,h1,h2,h3,h4⟩:=h.map i sh es ho
  exact⟨b,ents,clock,h1,h2,h3,fun k x e hx he=>⟨(h4 k x e hx he).1.take,(h4 k x e hx he).2.1.take,(h4 k x e hx he).2.2⟩⟩
 ·intro i f ps env bz hi
  obtain⟨hi,ho⟩:=zdF hi
  obtain⟨l,rc,h1,h2,h3,h4,h5,h6,h7⟩:=h.loop i f ps env bz ho
  exact⟨l,rc,h1,h2,h3,h4,h5,h6,fun x hx=>⟨(h7 x hx).1,(h7 x hx).2.take fun q hq=>hr i _ hi ho q (zpr hx hq)⟩⟩
 ·intro i sh es hi
  obtain⟨hi,ho⟩:=zdF hi
  obtain⟨h0,b,cs,t,vals,h1,h2,h3,h4,h5⟩:=h.arv i sh es ho
  exact⟨h0,b,cs,t,vals,h1,h2,h3,fun k a v ha hv=>⟨(h4 k a v ha hv).1,(h4 k a v ha hv).2.take fun q hq=>hr i _ hi ho q ((zaL _ _).2 ⟨a,List.mem_of_getElem? ha,hq⟩)⟩,h5⟩

theorem Ext.take{b n:Nat}{μ':Nat->Option Nat}{hp':Heap}{w':World}(E:Ext b X μ hp w μ' hp' w')(hn:hp.length<=n):Ext b X μ hp w μ' (hp'.take n) w':=by
 have lt:∀{i:Nat} {o:AObj},hp[i]? =some o->i<n:=fun h=>Nat.lt_of_lt_of_le (List.getElem?_eq_some_iff.1 h).1 hn
 exact{ E with
  len:=by have:=E.len;simp;omega
  box:=fun i sh v ho=>let ⟨v',h1,h2⟩:=E.box i sh v ho;⟨v',zbP h1 (lt ho),h2⟩
  arr:=fun i sh es fz ho=>let ⟨es',fz',h1,h2⟩:=E.arr i sh es fz ho;⟨es',fz',zbP h1 (lt ho),h2⟩
  map:=fun i sh es ho=>let ⟨es',h1,h2⟩:=E.map i sh es ho;⟨es',zbP h1 (lt ho),h2⟩
  loop:=fun i f ps env bz ho=>let ⟨bz',h1,h2⟩:=E.loop i f ps env bz ho;⟨bz',zbP h1 (lt ho),h2⟩
  arv:=fun i sh es ho=>let ⟨m,h1,h2,h3,h4⟩:=E.arv i sh es ho
   ⟨m,zeN h1 (lt ho),h2,h3,fun es' he=>h4 es' (zdF he).2⟩
  new:=fun i h1 h2=>E.new i h1 (by simp at h2;omega) }

theorem zfd(b:Nat){t:Array Value}:∀(l:List Nat) (st st':St),settle l st=some st'->HR w X μ st.hp->FR w X μ st.hp st.fr t->HR w X μ st'.hp/\FR w X μ st'.hp st'.fr t/\Ext b X μ st.hp w μ st'.hp w
 |[],st,st',h,hH,hF=>by
  simp only[settle,Option.some.injEq] at h
  subst h
  exact⟨hH,hF,Ext.refl _ _ _ _ _⟩
 |s::r,st,st',h,hH,hF=>by
  have again:∀(fr:Fr) (hp1:Heap),settle r ⟨fr,hp1⟩=some st'->HR w X μ hp1->FR w X μ hp1 fr t->Ext b X μ st.hp w μ hp1 w->HR w X μ st'.hp/\FR w X μ st'.hp st'.fr t/\Ext b X μ st.hp w μ st'.hp w:=by
   intro fr hp1 h h1 h2 h3
   obtain⟨k1,k2,k3⟩:=zfd b r _ _ h h1 h2
   exact⟨k1,k2,h3.trans k3⟩
  have mv:∀{hp1:Heap},Ext b X μ st.hp w μ hp1 w->FR w X μ hp1 st.fr t:=fun E s u hs=>⟨(hF s u hs).1,E.ar (hF s u hs).2⟩
  have stay:settle r st=some st'->HR w X μ st'.hp/\FR w X μ st'.hp st'.fr t/\Ext b X μ st.hp w μ st'.hp w:=fun h=>again st.fr st.hp h hH hF (Ext.refl _ _ _ _ _)
  simp only[settle] at h
  split at h
  ·rename_i q off hl
   split at h
   ·rename_i sh v hq
    split at h
    ·rename_i p hp1 hf
     obtain⟨b0,val,t0,g1,g2,g3,g4,g5⟩:=hH.box q sh v hq
     obtain⟨e1,e2,e3⟩:=zaR b w X μ _ _ _ _ _ _ hf hH g5
     obtain⟨v1,f1,f2,f3⟩:=e1.box q sh v hq
     have E:∀b,Ext b X μ hp1 w μ (hp1.set q (.box sh (.pv sh p))) w:=fun b=>Ext.setBox f1 (fun _ x hx=>by simp[AV.refsIn] at hx) g1 rfl rfl rfl rfl (fun _ _=>rfl) fun cs t fr h=>⟨cs,h,rfl⟩
     have H:=e2.setBox f1 g1 (E 0) (fun _ _=>rfl) g2 g3 g4 (.pv sh p val g3 e3)
     exact again _ _ h H (mv (e1.trans (E b))) (e1.trans (E b))
    ·cases h
   ·exact stay h
  ·rename_i s' q ver off len hl
   split at h
   ·rename_i p hp1 hf
    obtain⟨g1,g2⟩:=hF s _ hl
    obtain⟨e1,e2,e3⟩:=zaR b w X μ _ _ _ _ _ _ hf hH g2
    refine again _ _ h e2 (fun k u hk=> ?_) e1
    simp only[Fr.look] at hk
    split at hk
    ·rename_i e
     subst e
     cases hk
     exact⟨g1,.pv _ _ _ (g2.vshp rfl) e3⟩
    ·exact mv e1 k u hk
   ·cases h
  ·rename_i sh es hl
   obtain⟨g1,g2⟩:=hF s _ hl
   refine again _ _ h hH (fun k u hk=> ?_) (Ext.refl _ _ _ _ _)
   simp only[Fr.look] at hk
   split at hk
   ·rename_i e
    subst e
    cases hk
    refine⟨g1,.pv _ _ _ (g2.vshp rfl) ?_⟩
    generalize t.getD s undef=u at g2 ⊢
    cases g2 with|tsl _ _ a hq=>exact hq
   ·exact hF k u hk
  ·rename_i s' q ver off len hl
   split at h
   ·rename_i p hp1 hf
    obtain⟨g1,g2⟩:=hF s _ hl
    obtain⟨e1,e2,e3⟩:=zaR b w X μ _ _ _ _ _ _ hf hH g2
    refine again _ _ h e2 (fun k u hk=> ?_) e1
    simp only[Fr.look] at hk
    split at hk
    ·rename_i e
     subst e
     cases hk
     exact⟨g1,.pv _ _ _ (g2.vshp rfl) e3⟩
    ·exact mv e1 k u hk
   ·cases h
  ·rename_i sh hl
   obtain⟨g1,g2⟩:=hF s _ hl
   refine again _ _ h hH (fun k u hk=> ?_) (Ext.refl _ _ _ _ _)
   simp only[Fr.look] at hk
   split at hk
   ·rename_i e
    subst e
    cases hk
    refine⟨g1,.pv _ _ _ (g2.vshp rfl) ?_⟩
    generalize t.getD s undef=u at g2 ⊢
    cases g2;exact .nilsl _ _ _
   ·exact hF k u hk
  ·rename_i l hl
   split at h
   ·exact stay h
   ·split at h
    ·rename_i p hp1 hf
     obtain⟨g1,g2⟩:=hF s _ hl
     obtain⟨e1,e2,e3⟩:=zaR b w X μ _ _ _ _ _ _ hf hH g2
     refine again _ _ h e2 (fun k u hk=> ?_) e1
     simp only[Fr.look] at hk
     split at hk
     ·rename_i e
      subst e
      cases hk
      exact⟨g1,.pv _ _ _ (g2.vshp rfl) e3⟩
     ·exact mv e1 k u hk
    ·exact stay h
  ·exact stay h
end Go.Am

/- Blocks that are made before the abstract machine knows of them. -/
namespace Go.Am
variable{P:Program} {w:World} {X:Xc P} {μ:Nat->Option Nat} {hp:Heap}

structure Tran(w:World)(X:Xc P)(μ:Nat->Option Nat)(hp:Heap)(w':World)(X':Xc P)(μ':Nat->Option Nat)(hp':Heap):Prop where
 im:∀b,b<w.heap.size->Im X μ hp b->Im X' μ' hp' b/\w'.heap[b]? =w.heap[b]?
 shape:∀(b:Nat) (cs:Array Value) (t:TypeId) (fr:Nat × Nat),w.heap[b]? =some (Obj.cells cs t fr)->∃(cs':Array Value),w'.heap[b]? =some (Obj.cells cs' t fr)/\cs'.size=cs.size
 box:∀i sh v,hp[i]? =some (.box sh v)->∃v',hp'[i]? =some (.box sh v')/\μ' i=μ i
 arr:∀i sh es fz,hp[i]? =some (.arr sh es fz)->∃es' fz',hp'[i]? =some (.arr sh es' fz')/\es.length<=es'.length/\(es'.length=es.length->μ' i=μ i)
 map:∀i sh es,hp[i]? =some (.map sh es)->∃es',hp'[i]? =some (.map sh es')/\μ' i=μ i
 loop:∀i f ps env bz,hp[i]? =some (.loop f ps env bz)->∃bz',hp'[i]? =some (.loop f ps env bz')/\μ' i=μ i
 avl:∀i sh n,zck hp[i]? =some (sh,n)->∃n',zck hp'[i]? =some (sh,n')/\n<=n'/\(n'=n->μ' i=μ i)

theorem Ext.tran{b0:Nat}{Y:Xc P}{μ':Nat->Option Nat}{hp':Heap}{w':World}(h:Ext b0 Y μ hp w μ' hp' w'):Tran w X μ hp w' X μ' hp' where
 im b hb hI:=⟨⟨hI.1,fun i hl e=>by
  have hlt:=zbv hl
  rcases Nat.lt_or_ge i hp.length with hi|hi
  ·rcases h.mov i hi b e with h1|h1
   ·exact hI.2 i (h.live hi hl) h1
   ·omega
  ·have:=h.new i hi hlt b e
   omega⟩,h.blk b hb hI.2⟩
 shape:=h.shape
 box i sh v ho:=let ⟨v',h1,h2,_⟩:=h.box i sh v ho;⟨v',h1,h2⟩
 arr i sh es fz ho:=let ⟨es',fz',h1,h2,_,h4⟩:=h.arr i sh es fz ho;⟨es',fz',h1,h2,h4⟩
 map:=h.map
 loop:=h.loop
 avl i sh n ho:=h.avl ho
theorem Tran.trans{w' w'':World}{X' X'':Xc P}{μ' μ'':Nat->Option Nat}{hp' hp'':Heap}(h:Tran w X μ hp w' X' μ' hp')(k:Tran w' X' μ' hp' w'' X'' μ'' hp'')(hs:w.heap.size<=w'.heap.size):Tran w X μ hp w'' X'' μ'' hp'' where
 im b hb hI:=by
  obtain⟨h1,h2⟩:=h.im b hb hI
  obtain⟨k1,k2⟩:=k.im b (by omega) h1
  exact⟨k1,k2.trans h2⟩
 shape b cs t fr hb:=by
  obtain⟨cs1,h1,h2⟩:=h.shape b cs t fr hb
  obtain⟨cs2,h3,h4⟩:=k.shape b cs1 t fr h1
  exact⟨cs2,h3,by omega⟩
 box i sh v ho:=by
  obtain⟨v1,h1,h2⟩:=h.box i sh v ho
  obtain⟨v2,k1,k2⟩:=k.box i sh v1 h1
  exact⟨v2,k1,k2.trans h2⟩
 arr i sh es fz ho:=by
  obtain⟨es1,fz1,h1,h2,h4⟩:=h.arr i sh es fz ho
  obtain⟨es2,fz2,k1,k2,k4⟩:=k.arr i sh es1 fz1 h1
  exact⟨es2,fz2,k1,by omega,fun e=>by rw[k4 (by omega),h4 (by omega)]⟩
 map i sh es ho:=by
  obtain⟨es1,h1,h2⟩:=h.map i sh es ho
  obtain⟨es2,k1,k2⟩:=k.map i sh es1 h1
  exact⟨es2,k1,k2.trans h2⟩
 loop i f ps env bz ho:=by
  obtain⟨b1,h1,h2⟩:=h.loop i f ps env bz ho
  obtain⟨b2,k1,k2⟩:=k.loop i f ps env b1 h1
  exact⟨b2,k1,k2.trans h2⟩
 avl i sh n ho:=by
  obtain⟨n1,h1,h2,h3⟩:=h.avl i sh n ho
  obtain⟨n2,k1,k2,k3⟩:=k.avl i sh n1 h1
  exact⟨n2,k1,by omega,fun e=>by rw[k3 (by omega),h3 (by omega)]⟩

section
variable{w':World} {X':Xc P} {μ':Nat->Option Nat} {hp':Heap} (h:Tran w X μ hp w' X' μ' hp')
include h
theorem Tran.pr{p:PV}{v:Value}(hq:PR w (Im X μ hp) p v):PR w' (Im X' μ' hp') p v:=
 hq.mono fun b cs t fr hI hb=>let ⟨h1,h2⟩:=h.im b (zaP hb) hI;⟨h1,by rw[h2];exact hb⟩
theorem Tran.ar{a:AV}{v:Value}(ha:AR w X μ hp a v):AR w' X' μ' hp' a v:=by
 induction ha with
 |undef v h=>exact .undef v h
 |pv sh p v hs hp=>exact .pv sh p v hs (h.pr hp)
 |agg l vs hl hs _ ih=>exact .agg l vs hl hs ih
 |tsl sh es a hp=>exact .tsl sh es a (h.pr hp)
 |sl sh r ver off len a cap es fz ho hv hlc ha hc=>
  obtain⟨es',fz',h1,h2,h4⟩:=h.arr r sh es fz ho
  refine .sl sh r ver off len a cap es' fz' h1 (by omega) hlc ha fun e=> ?_
  have e1:es'.length=es.length:=by omega
  obtain⟨c1,c2⟩:=hc (by omega)
  refine⟨by omega,?_⟩
  rcases c2 with⟨c2,c3⟩|⟨b,cs,t,c2,c3,c4,c5⟩
  ·exact .inl ⟨by rw[h4 e1];exact c2,c3⟩
  ·have hm:μ' r=some b:=by rw[h4 e1];exact c2
   obtain⟨cs2,hc2,hsz⟩:=h.shape b cs t _ c3
   exact .inr ⟨b,cs2,t,hm,hc2,by rw[hsz];exact c4,c5⟩
 |ptr r off b sh v ho hb=>
  obtain⟨v',h1,h2⟩:=h.box r sh v ho
  exact .ptr r off b sh v' h1 (by rw[h2];exact hb)
 |eptr sh r ver i off a es fz ho hv hc=>
  obtain⟨es',fz',h1,h2,h4⟩:=h.arr r sh es fz ho
  refine .eptr sh r ver i off a es' fz' h1 (by omega) fun e=> ?_
  have e1:es'.length=es.length:=by omega
  obtain⟨c1,b,c2,c3⟩:=hc (by omega)
  exact⟨by omega,b,by rw[h4 e1];exact c2,c3⟩
 |iptr sh p off b o cs t fr v hI hb hp hs hc=>
  obtain⟨h1,h2⟩:=h.im b (zaP hb) hI
  exact .iptr sh p off b o cs t fr v h1 (by rw[h2];exact hb) (h.pr hp) hs hc
 |map r b sh es ho hb=>
  obtain⟨es',h1,h2⟩:=h.map r sh es ho
  exact .map r b sh es' h1 (by rw[h2];exact hb)
 |func fn first captured fs cs hf hc _ _ ih ih'=>exact .func fn first captured fs cs hf hc ih ih'
 |iface t a v _ ih=>exact .iface t a v ih
 |tuple l vs hl _ ih=>exact .tuple l vs hl ih
 |yield r l f ps env bz ho hb=>
  obtain⟨bz',h1,h2⟩:=h.loop r f ps env bz ho
  exact .yield r l f ps env bz' h1 (by rw[h2];exact hb)
 |slv sh r ver off len a cap n ho hv hlc ha hc=>
  obtain⟨n',h1,h2,h4⟩:=h.avl r sh n ho
  refine .slv sh r ver off len a cap n' h1 (by omega) hlc ha fun e=> ?_
  have e1:n'=n:=by omega
  obtain⟨c1,b,cs,t,c2,c3,c4,c5⟩:=hc (by omega)
  obtain⟨cs2,hc2,hsz⟩:=h.shape b cs t _ c3
  exact⟨by omega,b,cs2,t,by rw[h4 e1];exact c2,hc2,by rw[hsz];exact c4,c5⟩
 |epv sh r ver i off a n ho hv hc=>
  obtain⟨n',h1,h2,h4⟩:=h.avl r sh n ho
  refine .epv sh r ver i off a n' h1 (by omega) fun e=> ?_
  have e1:n'=n:=by omega
  obtain⟨c1,b,c2,c3⟩:=hc (by omega)
  exact⟨by omega,b,by rw[h4 e1];exact c2,c3⟩
 |nilv sh=>exact .nilv sh
end

theorem HR.tran{w':World}{X':Xc P}(h:HR w X μ hp)(e:Tran w X μ hp w' X' μ hp)(hb:∀i b,i<hp.length->μ i=some b->w'.heap[b]? =w.heap[b]?)(ho:∀i b,i<hp.length->μ i=some b->¬X' b/\b<w'.heap.size)(hx:∀b,X' b->b<w'.heap.size):HR w' X' μ hp where
 inj:=h.inj
 out:=ho
 xlt:=hx
 box i sh v ho:=by
  obtain⟨b,val,t,h1,h2,h3,h4,h5⟩:=h.box i sh v ho
  exact⟨b,val,t,h1,by rw[hb i b (List.getElem?_eq_some_iff.1 ho).1 h1];exact h2,h3,h4,e.ar h5⟩
 arr i sh es fz ho:=by
  obtain⟨h0,h1⟩:=h.arr i sh es fz ho
  refine⟨h0,?_⟩
  rcases h1 with h1|⟨b,cs,t,vals,h1,h2,h3,h4,h5⟩
  ·exact .inl h1
  ·exact .inr ⟨b,cs,t,vals,h1,by rw[hb i b (List.getElem?_eq_some_iff.1 ho).1 h1];exact h2,h3,fun k p v hk hv=>⟨(h4 k p v hk hv).1,e.pr (h4 k p v hk hv).2⟩,h5⟩
 map i sh es ho:=by
  obtain⟨b,ents,clock,h1,h2,h3,h4⟩:=h.map i sh es ho
  exact⟨b,ents,clock,h1,by rw[hb i b (List.getElem?_eq_some_iff.1 ho).1 h1];exact h2,h3,fun k x y hk hy=>⟨e.pr (h4 k x y hk hy).1,e.pr (h4 k x y hk hy).2.1,(h4 k x y hk hy).2.2⟩⟩
 loop i f ps env bz ho:=by
  obtain⟨l,rc,h1,h2,h3,h4,h5,h6,h7⟩:=h.loop i f ps env bz ho
  exact⟨l,rc,h1,by rw[hb i l (List.getElem?_eq_some_iff.1 ho).1 h1];exact h2,h3,h4,h5,h6,fun x hx=>⟨(h7 x hx).1,e.ar (h7 x hx).2⟩⟩
 arv i sh es ho:=by
  obtain⟨h0,b,cs,t,vals,h1,h2,h3,h4,h5⟩:=h.arv i sh es ho
  exact⟨h0,b,cs,t,vals,h1,by rw[hb i b (List.getElem?_eq_some_iff.1 ho).1 h1];exact h2,h3,fun k p v hk hv=>⟨(h4 k p v hk hv).1,e.ar (h4 k p v hk hv).2⟩,h5⟩

def Xp(X:Xc P)(pb:Nat->Option Nat):Xc P:=⟨fun b=>X b\/∃k,pb k=some b⟩
theorem zde{pb:Nat->Option Nat}(h:∀k,pb k=none):Xp X pb=X:=by
 unfold Xp
 cases X with
 |mk f=>
  congr 1
  funext b
  simp[h]
theorem ziM{pb:Nat->Option Nat}{k:Nat}(o:Obj)(hk:pb k=none):Tran w (Xp X pb) μ hp (w.alloc o) (Xp X (upd pb k (some w.heap.size))) μ hp where
 im b hb hI:=⟨⟨fun hx=>by
  rcases hx with hx|⟨j,hj⟩
  ·exact hI.1 (.inl hx)
  ·by_cases e:j=k
   ·subst e;rw[zaf] at hj;cases hj;omega
   ·rw[zav e] at hj;exact hI.1 (.inr ⟨j,hj⟩),hI.2⟩,zaJ w o hb⟩
 shape b cs t fr h:=⟨cs,zgH w o h,rfl⟩
 box i sh v h:=⟨v,h,rfl⟩
 arr i sh es fz h:=⟨es,fz,h,Nat.le_refl _,fun _=>rfl⟩
 map i sh es h:=⟨es,h,rfl⟩
 loop i f ps env bz h:=⟨bz,h,rfl⟩
 avl i sh n h:=⟨n,h,Nat.le_refl _,fun _=>rfl⟩
theorem HR.hold{pb:Nat->Option Nat}{k:Nat}(o:Obj)(hk:pb k=none)(h:HR w (Xp X pb) μ hp):HR (w.alloc o) (Xp X (upd pb k (some w.heap.size))) μ hp:=by
 refine h.tran (ziM o hk) (fun i b hi hm=>zaJ w o (h.out i b hi hm).2) (fun i b hi hm=>⟨fun hx=> ?_,by simp;have:=(h.out i b hi hm).2;omega⟩) (fun b hx=> ?_)
 ·rcases hx with hx|⟨j,hj⟩
  ·exact(h.out i b hi hm).1 (.inl hx)
  ·by_cases e:j=k
   ·subst e;rw[zaf] at hj;cases hj;have:=(h.out i _ hi hm).2;omega
   ·rw[zav e] at hj;exact(h.out i b hi hm).1 (.inr ⟨j,hj⟩)
 ·rcases hx with hx|⟨j,hj⟩
  ·have:=h.xlt b (.inl hx);simp;omega
  ·by_cases e:j=k
   ·subst e;rw[zaf] at hj;cases hj;simp
   ·rw[zav e] at hj;have:=h.xlt b (.inr ⟨j,hj⟩);simp;omega

theorem zf1{pb:Nat->Option Nat}{k bk:Nat}(hk:pb k=some bk)(hi:∀k' b,pb k=some b->pb k'=some b->k=k')(hX:¬X bk)(o:AObj):Tran w (Xp X pb) μ hp w (Xp X (upd pb k none)) (upd μ hp.length (some bk)) (hp++[o]) where
 im b _ hI:=by
  refine⟨⟨fun hx=> ?_,fun i hl e=> ?_⟩,rfl⟩
  ·rcases hx with hx|⟨j,hj⟩
   ·exact hI.1 (.inl hx)
   ·by_cases e:j=k
    ·subst e;rw[zaf] at hj;cases hj
    ·rw[zav e] at hj;exact hI.1 (.inr ⟨j,hj⟩)
  ·have hlt:=zbv hl
   simp at hlt
   rcases Nat.lt_or_ge i hp.length with hi|hi
   ·rw[zaD hi] at e
    refine hI.2 i ?_ e
    unfold live at hl ⊢
    rwa [zdw hi] at hl
   ·have:i=hp.length:=by omega
    subst this
    rw[zaf] at e
    cases e
    exact hI.1 (.inr ⟨k,hk⟩)
 shape b cs t fr h:=⟨cs,h,rfl⟩
 box i sh v h:=⟨v,zaF h,zaD (List.getElem?_eq_some_iff.1 h).1⟩
 arr i sh es fz h:=⟨es,fz,zaF h,Nat.le_refl _,fun _=>zaD (List.getElem?_eq_some_iff.1 h).1⟩
 map i sh es h:=⟨es,zaF h,zaD (List.getElem?_eq_some_iff.1 h).1⟩
 loop i f ps env bz h:=⟨bz,zaF h,zaD (List.getElem?_eq_some_iff.1 h).1⟩
 avl i sh n h:=by
  have hl:i<hp.length:=by rcases zbw h with⟨es,e,_⟩|⟨es,e,_⟩ <;> exact(List.getElem?_eq_some_iff.1 e).1
  exact⟨n,by rw[zdw hl];exact h,Nat.le_refl _,fun _=>zaD hl⟩
theorem HR.takeIn{pb:Nat->Option Nat}{k bk:Nat}(h:HR w (Xp X pb) μ hp)(hk:pb k=some bk)(hi:∀k' b,pb k=some b->pb k'=some b->k=k')(hX:¬X bk)(o:AObj)
  (hbox:∀sh v,o=.box sh v->∃val t,w.heap[bk]? =some (.cells val.cells t (0,0))/\vshp val=sh/\Flat val/\∀(X':Xc P) (μ':Nat->Option Nat) (hp':Heap),AR w X' μ' hp' v val)
  (harr:∀sh es fz,o≠.arr sh es fz)(hmap:∀sh es,o=.map sh es->∃clock,w.heap[bk]? =some (.map #[] clock)/\es=[])(hloop:∀f ps env bz,o≠.loop f ps env bz)(harv:∀sh es,o≠.arv sh es):HR w (Xp X (upd pb k none)) (upd μ hp.length (some bk)) (hp++[o]):=by
 have T:=zf1 (w:=w) (μ:=μ) (hp:=hp) hk hi hX o
 have hbk:Xp X pb bk:=.inr ⟨k,hk⟩
 have at_:∀i,i<(hp++[o]).length->i<hp.length\/i=hp.length:=by intro i hi;simp at hi;omega
 have less:∀b,Xp X (upd pb k none) b->Xp X pb b:=by
  rintro b (hx|⟨j,hj⟩)
  ·exact .inl hx
  ·by_cases e:j=k
   ·subst e;rw[zaf] at hj;cases hj
   ·rw[zav e] at hj;exact .inr ⟨j,hj⟩
 have nbk:¬Xp X (upd pb k none) bk:=by
  rintro(hx|⟨j,hj⟩)
  ·exact hX hx
  ·by_cases e:j=k
   ·subst e;rw[zaf] at hj;cases hj
   ·rw[zav e] at hj;exact e (hi j bk hk hj).symm
 refine⟨?_,?_,?_,?_,?_,?_,?_,?_⟩
 ·intro i j b hi' hj h1 h2
  rcases at_ i hi' with hi'|rfl <;> rcases at_ j hj with hj|rfl
  ·rw[zaD hi'] at h1;rw[zaD hj] at h2;exact h.inj i j b hi' hj h1 h2
  ·rw[zaD hi'] at h1;rw[zaf] at h2;cases h2
   exact absurd hbk (h.out i _ hi' h1).1
  ·rw[zaf] at h1;rw[zaD hj] at h2;cases h1
   exact absurd hbk (h.out j _ hj h2).1
  ·rfl
 ·intro i b hi' h1
  rcases at_ i hi' with hi'|rfl
  ·rw[zaD hi'] at h1
   exact⟨fun hx=>(h.out i b hi' h1).1 (less b hx),(h.out i b hi' h1).2⟩
  ·rw[zaf] at h1;cases h1
   exact⟨nbk,h.xlt _ hbk⟩
 ·exact fun b hx=>h.xlt b (less b hx)
 ·intro i sh v ho
  rcases zbM ho with ho|⟨rfl,ho2⟩
  ·have hi':=(List.getElem?_eq_some_iff.1 ho).1
   obtain⟨b,val,t,h1,h2,h3,h4,h5⟩:=h.box i sh v ho
   exact⟨b,val,t,by rw[zaD hi'];exact h1,h2,h3,h4,T.ar h5⟩
  ·obtain⟨val,t,h1,h2,h3,h4⟩:=hbox sh v ho2.symm
   exact⟨bk,val,t,zaf _ _ _,h1,h2,h3,h4 _ _ _⟩
 ·intro i sh es fz ho
  rcases zbM ho with ho|⟨rfl,ho2⟩
  ·have hi':=(List.getElem?_eq_some_iff.1 ho).1
   obtain⟨h0,h1⟩:=h.arr i sh es fz ho
   refine⟨h0,?_⟩
   rcases h1 with h1|⟨b,cs,t,vals,h1,h2,h3,h4,h5⟩
   ·exact .inl ⟨by rw[zaD hi'];exact h1.1,h1.2⟩
   ·exact .inr ⟨b,cs,t,vals,by rw[zaD hi'];exact h1,h2,h3,fun k p v hk hv=>⟨(h4 k p v hk hv).1,T.pr (h4 k p v hk hv).2⟩,h5⟩
  ·exact absurd ho2.symm (harr sh es fz)
 ·intro i sh es ho
  rcases zbM ho with ho|⟨rfl,ho2⟩
  ·have hi':=(List.getElem?_eq_some_iff.1 ho).1
   obtain⟨b,ents,clock,h1,h2,h3,h4⟩:=h.map i sh es ho
   exact⟨b,ents,clock,by rw[zaD hi'];exact h1,h2,h3,fun k x y hk hy=>⟨T.pr (h4 k x y hk hy).1,T.pr (h4 k x y hk hy).2.1,(h4 k x y hk hy).2.2⟩⟩
  ·obtain⟨clock,h1,rfl⟩:=hmap sh es ho2.symm
   exact⟨bk,#[],clock,zaf _ _ _,h1,rfl,by simp⟩
 ·intro i f ps env bz ho
  rcases zbM ho with ho|⟨rfl,ho2⟩
  ·have hi':=(List.getElem?_eq_some_iff.1 ho).1
   obtain⟨l,rc,h1,h2,h3,h4,h5,h6,h7⟩:=h.loop i f ps env bz ho
   exact⟨l,rc,by rw[zaD hi'];exact h1,h2,h3,h4,h5,h6,fun x hx=>⟨(h7 x hx).1,T.ar (h7 x hx).2⟩⟩
  ·exact absurd ho2.symm (hloop f ps env bz)
 ·intro i sh es ho
  rcases zbM ho with ho|⟨rfl,ho2⟩
  ·have hi':=(List.getElem?_eq_some_iff.1 ho).1
   obtain⟨h0,b,cs,t,vals,h1,h2,h3,h4,h5⟩:=h.arv i sh es ho
   exact⟨h0,b,cs,t,vals,by rw[zaD hi'];exact h1,h2,h3,fun k p v hk hv=>⟨(h4 k p v hk hv).1,T.ar (h4 k p v hk hv).2⟩,h5⟩
  ·exact absurd ho2.symm (harv sh es)
theorem Ext.takeIn{b0 bk:Nat}{Y:Xc P}{μ0:Nat->Option Nat}{hp0:Heap}{w0:World}(E:Ext b0 Y μ0 hp0 w0 μ hp w)(hb:w0.heap.size<=bk)(o:AObj):Ext b0 Y μ0 hp0 w0 (upd μ hp.length (some bk)) (hp++[o]) w where
 os:=E.os
 tape:=E.tape
 output:=E.output
 size:=E.size
 blk:=E.blk
 shape:=E.shape
 len:=by have:=E.len;simp;omega
 box i sh v ho:=by
  obtain⟨v',h1,h2,h3⟩:=E.box i sh v ho
  exact⟨v',zaF h1,by rw[zaD (List.getElem?_eq_some_iff.1 h1).1];exact h2,h3⟩
 arr i sh es fz ho:=by
  obtain⟨es',fz',h1,h2,h3,h4⟩:=E.arr i sh es fz ho
  exact⟨es',fz',zaF h1,h2,h3,fun e=>by rw[zaD (List.getElem?_eq_some_iff.1 h1).1];exact h4 e⟩
 map i sh es ho:=by
  obtain⟨es',h1,h2⟩:=E.map i sh es ho
  exact⟨es',zaF h1,by rw[zaD (List.getElem?_eq_some_iff.1 h1).1];exact h2⟩
 loop i f ps env bz ho:=by
  obtain⟨bz',h1,h2⟩:=E.loop i f ps env bz ho
  exact⟨bz',zaF h1,by rw[zaD (List.getElem?_eq_some_iff.1 h1).1];exact h2⟩
 arv i sh es ho:=by
  obtain⟨n,h1,h2,h3,h4⟩:=E.arv i sh es ho
  have hl:i<hp.length:=by rcases zbw h1 with⟨es,e,_⟩|⟨es,e,_⟩ <;> exact(List.getElem?_eq_some_iff.1 e).1
  exact⟨n,by rw[zdw hl];exact h1,h2,fun e=>by rw[zaD hl];exact h3 e,fun es' he=>h4 es' (by rw[zdw hl] at he;exact he)⟩
 new i h1 h2 b hb':=by
  simp at h2
  by_cases e:i=hp.length
  ·subst e;rw[zaf] at hb';cases hb';exact hb
  ·rw[zav e] at hb';exact E.new i h1 (by omega) b hb'
 mov i hi b hb':=by
  by_cases e:i=hp.length
  ·subst e;rw[zaf] at hb';cases hb';exact .inr hb
  ·rw[zav e] at hb';exact E.mov i hi b hb'
theorem Ext.cast{b0:Nat}{Y Z:Xc P}{μ':Nat->Option Nat}{hp':Heap}{w':World}(E:Ext b0 Y μ hp w μ' hp' w'):Ext b0 Z μ hp w μ' hp' w':=⟨E.os,E.tape,E.output,E.size,E.blk,E.shape,E.len,E.box,E.arr,E.map,E.loop,E.arv,E.new,E.mov⟩

theorem zps{sh:Sh}{a:AV}{x:Value}{t:TypeId}{bk:Nat}(hH:HR w X μ (hp++[.box sh a]))(hm:μ hp.length=some bk)(hc:w.heap[bk]? =some (.cells x.cells t (0,0)))(hs:vshp x=sh)(hf:Flat x)(ha:AR w X μ (hp++[.box sh a]) a x):
  ∃μ',AR w X μ' (((a.own (hp++[.box sh a])).2).set hp.length (.box sh (a.own (hp++[.box sh a])).1)) (.ptr hp.length 0) (.pointer (some ⟨bk,0,none⟩))/\
   HR w X μ' (((a.own (hp++[.box sh a])).2).set hp.length (.box sh (a.own (hp++[.box sh a])).1))/\
   ∀b,b<=hp.length->Ext b X μ (hp++[.box sh a]) w μ' (((a.own (hp++[.box sh a])).2).set hp.length (.box sh (a.own (hp++[.box sh a])).1)) w:=by
 obtain⟨μ',k1,k2,k3⟩:=zfT hp.length hH ha
 obtain⟨v0,k4,k5,_⟩:=k2.box hp.length sh a zbx
 have k6:μ' hp.length=some bk:=by rw[k5,hm]
 have E2:∀b0,b0<=hp.length->Ext b0 X μ' (a.own (hp++[.box sh a])).2 w μ' (((a.own (hp++[.box sh a])).2).set hp.length (.box sh (a.own (hp++[.box sh a])).1)) w:=fun b0 hb0=>
  Ext.setBox k4 (fun h=>by omega) k6 rfl rfl rfl rfl (fun _ _=>rfl) (fun cs t fr h=>⟨cs,h,rfl⟩)
 have H2:=k1.setBox k4 k6 (E2 0 (Nat.zero_le _)) (fun _ _=>rfl) hc hs hf k3
 refine⟨μ',?_,H2,fun b hb=>(k2.mono hb).trans (E2 b hb)⟩
 have hl:hp.length<(a.own (hp++[.box sh a])).2.length:=(List.getElem?_eq_some_iff.1 k4).1
 exact .ptr _ 0 _ sh _ (by rw[List.getElem?_set_self hl]) k6
end Go.Am

/- Regions whose order is drawn. -/
namespace Go.Am
variable{P:Program} {w:World} {X:Xc P} {μ:Nat->Option Nat} {hp:Heap}

def aone(Γ:Oracle)(b:Nat)(o:AOper)(fr:Fr)(hp:Heap):Option OpRes:=
 match wants fr o.guard with
 |none=>none
 |some false=>some (.val .undef hp)
 |some true=>match fr.argsOf o.args with
  |none=>none
  |some vs=>aOp Γ b o.op vs hp

theorem zdf(Γ:Oracle)(b:Nat)(o:AOper)(rest:List AOper)(fr:Fr)(hp:Heap):
  aops Γ b (o::rest) fr hp=match aone Γ b o fr hp with
   |some (.val v hp')=>aops Γ b rest (fr.dst o.dst v) hp'
   |some (.panic v hp')=>some (.panic v,fr,hp')
   |none=>none:=by
 simp only[aops,aone]
 cases wants fr o.guard with
 |none=>rfl
 |some x=>
  cases x with
  |false=>rfl
  |true=>
   simp only[]
   cases fr.argsOf o.args with
   |none=>rfl
   |some vs=>
    simp only[]
    cases aOp Γ b o.op vs hp with
    |none=>rfl
    |some r=>cases r <;> rfl

structure Run(Γ:Oracle)(b:Nat)(l:List AOper)(fr:Fr)(hp:Heap)(e:AExit)(fr':Fr)(hp':Heap)(m:Nat)(frs:Nat->Fr)(hps:Nat->Heap)(vals:Nat->AV):Prop where
 f0:frs 0=fr
 h0:hps 0=hp
 le:m<=l.length
 step:∀k o,k<m->l[k]? =some o->aone Γ b o (frs k) (hps k)=some (.val (vals k) (hps (k+1)))/\frs (k+1)=(frs k).dst o.dst (vals k)
 fin:(m=l.length/\e=.normal/\fr'=frs m/\hp'=hps m)\/∃o p,l[m]? =some o/\aone Γ b o (frs m) (hps m)=some (.panic p hp')/\e=.panic p/\fr'=frs m

theorem zk5{Γ:Oracle}{b:Nat}{e:AExit}{fr':Fr}{hp':Heap}:∀(l:List AOper) (fr:Fr) (hp:Heap),aops Γ b l fr hp=some (e,fr',hp')->∃m frs hps vals,Run Γ b l fr hp e fr' hp' m frs hps vals
 |[],fr,hp,h=>by
  simp only[aops,Option.some.injEq,Prod.mk.injEq] at h
  obtain⟨rfl,rfl,rfl⟩:=h
  exact⟨0,fun _=>fr,fun _=>hp,fun _=>.undef,⟨rfl,rfl,Nat.le_refl _,fun k o hk=>by omega,.inl ⟨rfl,rfl,rfl,rfl⟩⟩⟩
 |o::rest,fr,hp,h=>by
  rw[zdf] at h
  split at h
  ·rename_i v hp2 ho
   obtain⟨m,frs,hps,vals,R⟩:=zk5 rest _ _ h
   refine⟨m+1,fun k=>if k=0 then fr else frs (k - 1),fun k=>if k=0 then hp else hps (k - 1),fun k=>if k=0 then v else vals (k - 1),⟨rfl,rfl,by simpa using R.le,?_,?_⟩⟩
   ·intro k o' hk ho'
    cases k with
    |zero=>
     simp at ho'
     subst ho'
     simp only[if_true,Nat.zero_add,Nat.one_ne_zero,if_false,Nat.sub_self,R.f0,R.h0]
     exact⟨ho,trivial⟩
    |succ k=>
     have:=R.step k o' (by omega) (by simpa using ho')
     simpa using this
   ·rcases R.fin with⟨h1,h2,h3,h4⟩|⟨o',p,h1,h2,h3,h4⟩
    ·exact .inl ⟨by simp[h1],h2,by simpa using h3,by simpa using h4⟩
    ·exact .inr ⟨o',p,by simpa using h1,by simpa using h2,h3,by simpa using h4⟩
  ·rename_i v hp2 ho
   cases h
   exact⟨0,fun _=>fr',fun _=>hp,fun _=>.undef,⟨rfl,rfl,Nat.zero_le _,fun k o hk=>by omega,.inr ⟨o,v,rfl,ho,rfl,rfl⟩⟩⟩
  ·cases h

theorem zpt{o:AOper}(h:o.cls=0):o.op=.callp\/o.op.isPure=true:=by
 unfold AOper.cls at h
 split at h <;> (try (cases h;done))
 ·exact .inl ‹_›
 ·rename_i op _ _ _ _ _ _ _ _
  right
  cases hp:o.op.isPure with
  |true=>rfl
  |false=>rw[hp] at h;simp only[cond_false] at h;cases hr:o.op.isRead <;> simp[hr] at h
theorem znq{o:AOper}(h:o.cls=1):o.op=.callh\/(o.op.isPure=false/\o.op.isRead=true):=by
 unfold AOper.cls at h
 split at h <;> (try (cases h;done))
 ·exact .inl ‹_›
 ·right
  cases hp:o.op.isPure with
  |true=>rw[hp] at h;simp only[cond_true] at h;cases h
  |false=>rw[hp] at h;simp only[cond_false] at h;cases hr:o.op.isRead <;> simp[hr] at h ⊢
theorem zbA{o:AOper}(h:o.cls=3):o.args=[]/\o.guard=none/\(∃d,o.dst=some d)/\((∃sh z,o.op=.alloc sh z)\/(∃sh,o.op=.nilsl sh)\/∃sh,o.op=.mkmap sh):=by
 unfold AOper.cls at h
 split at h <;> (try (cases h;done))
 ·exact⟨‹_›,‹_›,⟨_,‹_›⟩,.inl ⟨_,_,‹_›⟩⟩
 ·exact⟨‹_›,‹_›,⟨_,‹_›⟩,.inr (.inl ⟨_,‹_›⟩)⟩
 ·exact⟨‹_›,‹_›,⟨_,‹_›⟩,.inr (.inr ⟨_,‹_›⟩)⟩
 ·cases hp:o.op.isPure <;> cases hr:o.op.isRead <;> simp[hp,hr] at h
theorem zf2(o:AOper):o.cls=0\/o.cls=1\/o.cls=2\/o.cls=3:=by
 unfold AOper.cls
 split <;> (try simp)
 cases o.op.isPure <;> cases o.op.isRead <;> simp
theorem znr{o:AOper}(h:o.risky=true):o.cls=2:=by
 unfold AOper.risky at h
 split at h
 ·rename_i e
  unfold AOper.cls
  simp[e,AOp.isPure,AOp.isRead]
 ·rename_i e
  unfold AOper.cls
  simp[e,AOp.isPure,AOp.isRead]
 ·rename_i e
  unfold AOper.cls
  simp[e,AOp.isPure,AOp.isRead]
 ·cases h

theorem zpu{Γ:Oracle}{b:Nat}{op:AOp}{vs:List AV}{v:AV}{hp1 hp2:Heap}(ho:op=.callp\/op.isPure=true)(h:aOp Γ b op vs hp1=some (.val v hp2)):hp2=hp1/\∀hp3,aOp Γ b op vs hp3=some (.val v hp3):=by
 rcases ho with rfl|hop
 ·simp only[aOp,zeb] at h ⊢
  split at h
  ·split at h
   ·rename_i ps hps
    split at h
    ·rename_i v0 q hg
     split at h
     ·rename_i v' hb
      cases h
      exact⟨rfl,fun hp3=>rfl⟩
     ·cases h
    ·cases h
   ·cases h
  ·cases h
 ·have e:∀hp,aOp Γ b op vs hp=match zbd hp (spure op vs) with|some (v,hp')=>some (.val v hp')|none=>none:=by
   intro hp
   cases op <;> first|(cases hop;done)|rfl
  rw[e] at h
  cases hs:spure op vs with
  |none=>rw[hs] at h;cases h
  |some u=>
   rw[hs] at h
   cases h
   exact⟨rfl,fun hp3=>by rw[e,hs];rfl⟩
theorem zhL{Γ:Oracle}{b:Nat}{op:AOp}{vs:List AV}{hp1:Heap}(hop:op.isPure=false)(hr:op.isRead=true):aOp Γ b op vs hp1=match sread op vs hp1 with|some v=>some (.val v hp1)|none=>none:=by
 have e:aOp Γ b op vs hp1=match zbd hp1 (sread op vs hp1) with|some (v,hp')=>some (.val v hp')|none=>none:=by
  cases op <;> first|(cases hr;done)|rfl
 rw[e]
 cases sread op vs hp1 <;> rfl
theorem zq6{Γ:Oracle}{b:Nat}{op:AOp}{vs:List AV}{v:AV}{hp1 hp2:Heap}(ho:op=.callh\/(op.isPure=false/\op.isRead=true))(h:aOp Γ b op vs hp1=some (.val v hp2)):hp2=hp1:=by
 rcases ho with rfl|⟨hop,hr⟩
 ·simp only[aOp,zgy] at h
  split at h
  ·split at h
   ·split at h
    ·split at h
     ·cases h;rfl
     ·cases h
    ·cases h
   ·cases h
  ·cases h
 ·rw[zhL hop hr] at h
  split at h
  ·cases h;rfl
  ·cases h

theorem zbc{Γ:Oracle}{b:Nat}{o:AOper}{fr:Fr}{v:AV}{hp1 hp2:Heap}(h:aone Γ b o fr hp1=some (.val v hp2)):(o.cls=0->hp2=hp1/\∀hp3,aone Γ b o fr hp3=some (.val v hp3))/\(o.cls=1->hp2=hp1):=by
 unfold aone at*
 cases hw:wants fr o.guard with
 |none=>rw[hw] at h;cases h
 |some x=>
  rw[hw] at h
  cases x with
  |false=>
   cases h
   exact⟨fun _=>⟨rfl,fun _=>rfl⟩,fun _=>rfl⟩
  |true=>
   simp only[] at h ⊢
   cases ha:fr.argsOf o.args with
   |none=>rw[ha] at h;cases h
   |some vs=>
    rw[ha] at h;simp only[] at h ⊢
    exact⟨fun hc=>zpu (zpt hc) h,fun hc=>zq6 (znq hc) h⟩

theorem zcc{fr:Fr}:∀{n:Nat} {as:List AArg} {vs:List AV},fr.argsOf as=some vs->fr.argsOf (as.drop n)=some (vs.drop n)
 |0,as,vs,h=>by simpa using h
 |n+1,[],vs,h=>by simp only[Fr.argsOf,Option.some.injEq] at h;subst h;rfl
 |n+1,a::r,vs,h=>by
  obtain⟨v,us,rfl,_,h2⟩:=zat h
  simpa using zcc h2
theorem zf3{sh:Sh}{b:Nat}{vs:List AV}{v:AV}{hp':Heap}(h:zfL sh b hp vs=some (v,hp')):∃r o s1 r1 v1 i1 o1 s2 p2,∃y,vs=[.ptr r o,y,.eptr s1 r1 v1 i1 o1,.pv s2 p2]/\((∃sh r v o n,y=.sl sh r v o n)\/∃sh p,y=.pv sh p)/\astore sh b hp (.ptr r o) y=some hp'/\v=.undef:=by
 unfold zfL at h
 split at h
 ·split at h
  ·split at h
   ·cases h;exact⟨_,_,_,_,_,_,_,_,_,_,rfl,.inl ⟨_,_,_,_,_,rfl⟩,‹_›,rfl⟩
   ·cases h
  ·split at h
   ·cases h;exact⟨_,_,_,_,_,_,_,_,_,_,rfl,.inr ⟨_,_,rfl⟩,‹_›,rfl⟩
   ·cases h
  ·cases h
 ·cases h
theorem zns{Γ:Oracle}{b:Nat}{o:AOper}{fr:Fr}{hp:Heap}{r:OpRes}(h:aone Γ b o fr hp=some r):aone Γ b o.base fr hp=some r:=by
 unfold AOper.base
 split
 ·rename_i sh p v qs ho ha
  unfold aone at h ⊢
  simp only[] at h ⊢
  split at h
  ·cases h
  ·exact h
  ·rw[ha] at h
   split at h
   ·cases h
   ·rename_i vs hvs
    obtain⟨a1,us,rfl,h1,h2⟩:=zat hvs
    obtain⟨a2,us2,rfl,h3,h4⟩:=zat h2
    have e:fr.argsOf [p,v]=some [a1,a2]:=by simp[Fr.argsOf,h1,h3]
    rw[e]
    simp only[ho] at h
    show aOp Γ b (.store sh) [a1,a2] hp=some r
    simp only[aOp,astep,AOp.isPure,AOp.isRead,cond_false,swrite,zjK,zaB] at h ⊢
    cases a1 <;> simp only[] at h <;> (try (cases h;done))
    rename_i r0 o0
    by_cases hall:us2.all (zkY r0)=true
    ·rw[if_pos hall] at h
     cases hs:astore sh b hp (.ptr r0 o0) a2 with
     |none=>rw[hs] at h;cases h
     |some hq=>rw[hs] at h;exact h
    ·rw[if_neg hall] at h;cases h
 ·rename_i sh p v qs ho ha
  unfold aone at h ⊢
  simp only[] at h ⊢
  split at h
  ·cases h
  ·exact h
  ·rw[ha] at h
   split at h
   ·cases h
   ·rename_i vs hvs
    obtain⟨a1,us,rfl,h1,h2⟩:=zat hvs
    obtain⟨a2,us2,rfl,h3,h4⟩:=zat h2
    have e:fr.argsOf [p,v]=some [a1,a2]:=by simp[Fr.argsOf,h1,h3]
    rw[e]
    simp only[ho] at h
    show aOp Γ b (.store sh) [a1,a2] hp=some r
    simp only[aOp,astep,AOp.isPure,AOp.isRead,cond_false,swrite,zaB] at h ⊢
    cases hw:zfL sh b hp (a1::a2::us2) with
    |none=>rw[hw] at h;cases h
    |some q=>
     obtain⟨v',hq⟩:=q
     rw[hw] at h
     obtain⟨r0,o0,s1,r1,v1,i1,o1,s2,p2,y,hvs',_,hst,rfl⟩:=zf3 hw
     simp only[List.cons.injEq] at hvs'
     obtain⟨rfl,rfl,_⟩:=hvs'
     rw[hst]
     exact h
 ·rename_i n ho
  unfold aone at h ⊢
  simp only[] at h ⊢
  split at h
  ·cases h
  ·exact h
  ·split at h
   ·cases h
   ·rename_i vs hvs
    rw[zcc hvs]
    simp only[ho,aOp] at h ⊢
    unfold zgz at h
    split at h
    ·rename_i v hp' hc
     split at h
     ·rw[hc];exact h
     ·cases h
    ·exact h
 ·rename_i ho
  unfold aone at h ⊢
  simp only[] at h ⊢
  split at h
  ·cases h
  ·exact h
  ·split at h
   ·cases h
   ·rename_i vs hvs
    simp only[ho,aOp] at h ⊢
    unfold zgA at h
    split at h
    ·rename_i v hp' hc
     split at h
     ·rw[hc];exact h
     ·cases h
    ·cases h
 ·rename_i sh n ho
  unfold aone at h ⊢
  simp only[] at h ⊢
  split at h
  ·cases h
  ·exact h
  ·split at h
   ·cases h
   ·rename_i vs hvs
    rw[zcc hvs]
    simp only[ho,aOp,astep,AOp.isPure,AOp.isRead,cond_false,swrite] at h ⊢
    unfold zea at h
    cases hc:zbi sh hp (vs.drop n) with
    |none=>rw[hc] at h;cases h
    |some q=>
     obtain⟨v,hp'⟩:=q
     rw[hc] at h
     simp only[] at h
     split at h
     ·exact h
     ·cases h
 ·rename_i sh n ho
  unfold aone at h ⊢
  simp only[] at h ⊢
  split at h
  ·cases h
  ·exact h
  ·split at h
   ·cases h
   ·rename_i vs hvs
    rw[zcc hvs]
    simp only[ho,aOp,astep,AOp.isPure,AOp.isRead,cond_false,swrite] at h ⊢
    unfold zfz at h
    cases hc:za8 sh hp (vs.drop n) with
    |none=>rw[hc] at h;cases h
    |some q=>
     obtain⟨v,hp'⟩:=q
     rw[hc] at h
     simp only[] at h
     split at h
     ·exact h
     ·cases h
 ·rename_i sh n ho
  unfold aone at h ⊢
  simp only[] at h ⊢
  split at h
  ·cases h
  ·exact h
  ·split at h
   ·cases h
   ·rename_i vs hvs
    rw[zcc hvs]
    simp only[ho,aOp,astep,AOp.isPure,AOp.isRead,cond_false,swrite] at h ⊢
    unfold zhh at h
    cases hc:zdX sh hp (vs.drop n) with
    |none=>rw[hc] at h;cases h
    |some q=>
     obtain⟨v,hp'⟩:=q
     rw[hc] at h
     simp only[] at h
     split at h
     ·exact h
     ·cases h
 ·exact h

theorem zeO{Γ:Oracle}{b:Nat}{o:AOper}{fr:Fr}{p:PV}{hp1 hp2:Heap}(h:aone Γ b o fr hp1=some (.panic p hp2)):o.risky=true:=by
 unfold aone at h
 split at h
 ·cases h
 ·cases h
 ·split at h
  ·cases h
  ·rename_i vs hvs
   unfold AOper.risky
   split
   ·rfl
   ·rfl
   ·rfl
   ·rename_i n1 n3 n2
    exfalso
    unfold aOp at h
    split at h
    ·exact n1 ‹_›
    ·simp only[zeb] at h
     (repeat' split at h) <;> cases h
    ·simp only[zgy] at h
     (repeat' split at h) <;> cases h
    ·simp only[zgA] at h
     (repeat' split at h) <;> cases h
    ·exact n3 _ ‹_›
    ·simp only[zea] at h
     (repeat' split at h) <;> cases h
    ·simp only[zfz] at h
     (repeat' split at h) <;> cases h
    ·simp only[zhh] at h
     (repeat' split at h) <;> cases h
    ·exact n2 ‹_›
    ·split at h <;> cases h

theorem Run.heap{Γ:Oracle}{b:Nat}{l:List AOper}{fr fr':Fr}{hp hp':Heap}{e:AExit}{m:Nat}{frs:Nat->Fr}{hps:Nat->Heap}{vals:Nat->AV}(R:Run Γ b l fr hp e fr' hp' m frs hps vals){i:Nat}:∀(n:Nat),i+n<=m->(∀k o,i<=k->k<i+n->l[k]? =some o->o.cls≠2/\o.cls≠3)->hps (i+n)=hps i
 |0,_,_=>rfl
 |n+1,hm,hc=>by
  rw[<-R.heap n (by omega) (fun k o h1 h2 h3=>hc k o h1 (by omega) h3)]
  have hlt:i+n<l.length:=Nat.lt_of_lt_of_le (by omega) R.le
  have ho:l[i+n]? =some l[i+n]:=List.getElem?_eq_getElem hlt
  obtain⟨h1,_⟩:=R.step (i+n) _ (by omega) ho
  have hcls:=hc (i+n) _ (by omega) (by omega) ho
  rcases zf2 l[i+n] with h|h|h|h
  ·exact((zbc h1).1 h).1
  ·exact(zbc h1).2 h
  ·exact absurd h hcls.1
  ·exact absurd h hcls.2

theorem Run.look{Γ:Oracle}{b:Nat}{l:List AOper}{fr fr':Fr}{hp hp':Heap}{e:AExit}{m:Nat}{frs:Nat->Fr}{hps:Nat->Heap}{vals:Nat->AV}(R:Run Γ b l fr hp e fr' hp' m frs hps vals){s:Nat}{a:AV}:∀(k:Nat),k<=m->(frs k).look s=some a->
  (∃j o,j<k/\l[j]? =some o/\o.dst=some s/\a=vals j)\/((∀j o,j<k->l[j]? =some o->o.dst≠some s)/\fr.look s=some a)
 |0,_,h=>.inr ⟨fun j _ hj=>by omega,by rw[R.f0] at h;exact h⟩
 |k+1,hk,h=>by
  have hlt:k<l.length:=Nat.lt_of_lt_of_le (by omega) R.le
  have ho:l[k]? =some l[k]:=List.getElem?_eq_getElem hlt
  obtain⟨_,h2⟩:=R.step k _ (by omega) ho
  rw[h2] at h
  have old:l[k].dst≠some s->(frs k).look s=some a->(∃j o,j<k+1/\l[j]? =some o/\o.dst=some s/\a=vals j)\/((∀j o,j<k+1->l[j]? =some o->o.dst≠some s)/\fr.look s=some a):=by
   intro hn h
   rcases R.look k (by omega) h with⟨j,o,h1,h2,h3,h4⟩|⟨h1,h2⟩
   ·exact .inl ⟨j,o,by omega,h2,h3,h4⟩
   ·refine .inr ⟨fun j o hj hjo=> ?_,h2⟩
    rcases Nat.lt_or_ge j k with h|h
    ·exact h1 j o h hjo
    ·have:j=k:=by omega
     subst this
     rw[ho] at hjo
     cases hjo
     exact hn
  cases hd:l[k].dst with
  |none=>
   rw[hd] at h
   exact old (by rw[hd];simp) h
  |some d=>
   rw[hd] at h
   simp only[Fr.dst,Fr.look] at h
   split at h
   ·rename_i e
    subst e
    cases h
    exact .inl ⟨k,_,by omega,ho,hd,rfl⟩
   ·rename_i e
    exact old (by rw[hd];simpa using e) h
end Go.Am

/- Regions whose order is drawn: what the static check says. -/
namespace Go.Am
variable{P:Program} {w:World} {X:Xc P} {μ:Nat->Option Nat} {hp:Heap}

theorem zkb{x y:Nat}{l:List Nat}:y∈ins x l↔y=x\/y∈l:=by
 induction l with
 |nil=>simp[ins]
 |cons z r ih=>
  simp only[ins]
  split
  ·simp
  ·split
   ·rename_i h;subst h;simp
   ·simp[ih];constructor <;> (intro h;rcases h with h|h|h <;> simp[h])
theorem ziN{a b:List Nat}{y:Nat}:y∈union a b↔y∈a\/y∈b:=by
 unfold union
 induction a generalizing b with
 |nil=>simp
 |cons x r ih=>
  simp only[List.foldl_cons,ih,zkb,List.mem_cons]
  constructor
  ·rintro(h|h|h) <;> simp[h]
  ·rintro((h|h)|h) <;> simp[h]

theorem ziO{acc:List (List Nat)}{o:Oper}{j:Nat}(h:j∈zcP acc o):∃e∈o.after.toList,Region.binds .any e=true/\(j=e.on\/j∈acc.getD e.on []):=by
 unfold zcP at h
 generalize o.after.toList=l at h ⊢
 induction l with
 |nil=>simp at h
 |cons e r ih=>
  simp only[List.foldr_cons] at h
  split at h
  ·rename_i hb
   rw[zkb,ziN] at h
   rcases h with h|h|h
   ·exact⟨e,by simp,hb,.inl h⟩
   ·exact⟨e,by simp,hb,.inr h⟩
   ·obtain⟨f,hf,k⟩:=ih h
    exact⟨f,by simp[hf],k⟩
  ·obtain⟨f,hf,k⟩:=ih h
   exact⟨f,by simp[hf],k⟩

theorem zk6(acc:List (List Nat)):∀(l:List Oper),(clos acc l).length=acc.length+l.length/\(∀i,i<acc.length->(clos acc l)[i]? =acc[i]?)/\
  ∀i o,l[i]? =some o->(clos acc l)[acc.length+i]? =some (zcP ((clos acc l).take (acc.length+i)) o)
 |[]=>⟨by simp[clos],fun i _=>rfl,fun i o h=>by simp at h⟩
 |o::r=>by
  obtain⟨h1,h2,h3⟩:=zk6 (acc++[zcP acc o]) r
  simp only[clos]
  refine⟨by rw[h1];simp;omega,fun i hi=>by rw[h2 i (by simp;omega)];exact List.getElem?_append_left hi,fun i o' ho=> ?_⟩
  cases i with
  |zero=>
   simp at ho
   subst ho
   rw[Nat.add_zero,h2 acc.length (by simp)]
   simp only[List.getElem?_concat_length,Option.some.injEq]
   congr 1
   symm
   apply List.ext_getElem?
   intro k
   by_cases hk:k<acc.length
   ·rw[List.getElem?_take,if_pos hk,h2 k (by simp;omega),List.getElem?_append_left hk]
   ·rw[List.getElem?_take,if_neg hk,List.getElem?_eq_none (by omega)]
  |succ i=>
   have:=h3 i o' (by simpa using ho)
   simp only[List.length_append,List.length_singleton] at this
   rw[show acc.length+(i+1)=acc.length+1+i by omega]
   exact this

theorem zhM:∀(l:List Oper) (n:Nat),zbX n l=true->∀i o,l[i]? =some o->∀e∈o.after.toList,Region.binds .any e=true->e.on<n+i
 |[],n,_,i,o,h=>by simp at h
 |x::r,n,h,i,o,ho=>by
  simp only[zbX,Bool.and_eq_true,List.all_eq_true] at h
  cases i with
  |zero=>
   simp at ho
   subst ho
   intro e he hb
   have:=h.1 e he
   simpa[hb] using this
  |succ i=>
   intro e he hb
   have:=zhM r (n+1) h.2 i o (by simpa using ho) e he hb
   omega

def Shut(ops:Array Oper)(L:Array Bool):Prop:=∀i,L.getD i false=true->∀j∈(clos [] ops.toList).getD i [],L.getD j false=true

theorem zcE{ops:Array Oper}{L:Array Bool}{i:Nat}(hE:zbX 0 ops.toList=true)(hS:Shut ops L)(hi:i∈Region.ready .any ops L):i<ops.size/\L.getD i true=false/\∀j∈(clos [] ops.toList).getD i [],L.getD j false=true:=by
 unfold Region.ready at hi
 simp only[List.mem_filter,List.mem_range,Bool.and_eq_true,Bool.not_eq_true'] at hi
 obtain⟨h1,h2,h3⟩:=hi
 refine⟨h1,h2,fun j hj=> ?_⟩
 have ho:ops[i]? =some ops[i]:=Array.getElem?_eq_getElem h1
 rw[ho] at h3
 simp only[Option.map_some,Option.getD_some] at h3
 rw[<-Array.all_toList,List.all_eq_true] at h3
 obtain⟨c1,c2,c3⟩:=zk6 [] ops.toList
 have hc:=c3 i ops[i] (by simp[h1])
 simp only[List.length_nil,Nat.zero_add] at hc
 rw[List.getD_eq_getElem?_getD,hc,Option.getD_some] at hj
 obtain⟨e,he,hb,hje⟩:=ziO hj
 have hlt:=zhM _ 0 hE i ops[i] (by simp[h1]) e he hb
 have hon:L.getD e.on false=true:=by
  have:=h3 e he
  simpa[hb] using this
 rcases hje with rfl|hje
 ·exact hon
 ·refine hS e.on hon j ?_
  rw[List.getD_eq_getElem?_getD] at hje ⊢
  rw[List.getElem?_take,if_pos (by omega)] at hje
  exact hje

theorem zdG{ops:Array Oper}{L:Array Bool}(hE:zbX 0 ops.toList=true)(hL:L.size=ops.size)(h:Region.ready .any ops L=[]):∀i,i<ops.size->L.getD i false=true:=by
 intro i
 induction i using Nat.strongRecOn with
 |_ i ih=>
  intro hi
  cases hx:L.getD i false with
  |true=>rfl
  |false=>
   exfalso
   have:i∈Region.ready .any ops L:=by
    unfold Region.ready
    simp only[List.mem_filter,List.mem_range,Bool.and_eq_true,Bool.not_eq_true']
    refine⟨hi,by rw[<-hx];simp[Array.getD,hL,hi],?_⟩
    have ho:ops[i]? =some ops[i]:=Array.getElem?_eq_getElem hi
    rw[ho]
    simp only[Option.map_some,Option.getD_some]
    rw[<-Array.all_toList,List.all_eq_true]
    intro e he
    cases hb:Region.binds .any e with
    |false=>rfl
    |true=>
     have hlt:=zhM _ 0 hE i ops[i] (by simp[hi]) e he hb
     have:=ih e.on (by omega) (by omega)
     simpa using this
   rw[h] at this
   cases this

theorem zem{ops:Array Oper}{L:Array Bool}{i:Nat}(hL:L.size=ops.size)(hS:Shut ops L)(hi:∀j∈(clos [] ops.toList).getD i [],L.getD j false=true)(hlt:i<ops.size):Shut ops (L.setIfInBounds i true):=by
 have up:∀j,L.getD j false=true->(L.setIfInBounds i true).getD j false=true:=by
  intro j hj
  rw[Array.getD_eq_getD_getElem?] at hj ⊢
  by_cases e:i=j
  ·subst e;rw[Array.getElem?_setIfInBounds_self_of_lt (by omega)];rfl
  ·rw[Array.getElem?_setIfInBounds_ne e];exact hj
 intro k hk j hj
 by_cases e:i=k
 ·subst e;exact up j (hi j hj)
 ·refine up j (hS k ?_ j hj)
  rw[Array.getD_eq_getD_getElem?] at hk ⊢
  rwa [Array.getElem?_setIfInBounds_ne e] at hk

theorem znt(m j:Nat):bit m j=m.testBit j:=by
 unfold bit
 rw[Nat.testBit_eq_decide_div_mod_eq,Nat.shiftRight_eq_div_pow]
 cases h:Nat.beq (m / 2 ^ j % 2) 1 with
 |true=>simp[Nat.eq_of_beq_eq_true h]
 |false=>simp[Nat.ne_of_beq_eq_false h]
theorem znu(a b j:Nat):bit (a ||| b) j=(bit a j || bit b j):=by simp[znt]
theorem znv(k j:Nat):bit (1 <<< k) j=decide (j=k):=by
 rw[znt,Nat.one_shiftLeft,Nat.testBit_two_pow]
 simp[eq_comm]
theorem zhN(j:Nat):bit 0 j=false:=by simp[znt]
theorem ziP{acc:List (List Nat)}{accN:List Nat}{o:Oper}(h:∀i j,bit (accN.getD i 0) j=true->j∈acc.getD i []){j:Nat}(hb:bit (zfN accN o) j=true):j∈zcP acc o:=by
 unfold zfN at hb
 unfold zcP
 generalize o.after.toList=l at hb ⊢
 induction l with
 |nil=>simp[zhN] at hb
 |cons e r ih=>
  simp only[List.foldr_cons] at hb ⊢
  split at hb
  ·rename_i he
   rw[if_pos he,zkb,ziN]
   simp only[znu,znv,Bool.or_eq_true,decide_eq_true_eq] at hb
   rcases hb with(hb|hb)|hb
   ·exact .inr (.inl (h _ _ hb))
   ·exact .inl hb
   ·exact .inr (.inr (ih hb))
  ·rename_i he
   rw[if_neg he]
   exact ih hb
theorem znw{α:Type}(l:List α)(x d:α)(i:Nat):(l++[x]).getD i d=if i=l.length then x else l.getD i d:=by
 rw[List.getD_eq_getElem?_getD,List.getD_eq_getElem?_getD]
 split
 ·rename_i h;subst h;simp
 ·rename_i h
  rcases Nat.lt_or_ge i l.length with h'|h'
  ·rw[List.getElem?_append_left h']
  ·rw[List.getElem?_eq_none (by simp;omega),List.getElem?_eq_none h']
theorem zhO:∀(l:List Oper) (acc:List (List Nat)) (accN:List Nat),acc.length=accN.length->(∀i j,bit (accN.getD i 0) j=true->j∈acc.getD i [])->∀i j,bit ((zbj accN l).getD i 0) j=true->j∈(clos acc l).getD i []
 |[],_,_,_,h=>h
 |o::r,acc,accN,hl,h=>by
  simp only[zbj,clos]
  refine zhO r _ _ (by simp[hl]) fun i j hb=> ?_
  rw[znw] at hb ⊢
  rw[hl]
  split at hb
  ·rename_i e
   rw[if_pos e]
   exact ziP h hb
  ·rename_i e
   rw[if_neg e]
   exact h i j hb
theorem zqH{p:Nat->AOper->Bool}{ci i:Nat}:∀(r:List AOper) (k:Nat),zpf p ci i k r=true->∀j a,k+j<i->r[j]? =some a->bit ci (k+j)=true\/p (k+j) a=true
 |[],_,_,j,a,_,h=>by simp at h
 |x::r,k,h,j,a,hj,ha=>by
  simp only[zpf] at h
  split at h
  ·rename_i e
   have:=Nat.eq_of_beq_eq_true e
   omega
  ·simp only[Bool.and_eq_true,Bool.or_eq_true] at h
   cases j with
   |zero=>simp at ha;subst ha;exact h.1
   |succ j=>
    have:=zqH r (k+1) h.2 j a (by omega) (by simpa using ha)
    rw[show k+(j+1)=k+1+j by omega]
    exact this
theorem zk7{p:Nat->AOper->Nat->AOper->Bool}{l:List AOper}:∀(r:List AOper) (cs:List Nat) (k:Nat),zc7 p l k cs r=true->∀i b,r[i]? =some b->∀j a,j<k+i->l[j]? =some a->bit (cs.getD i 0) j=true\/p j a (k+i) b=true
 |[],_,_,_,i,b,h=>by simp at h
 |x::r,[],k,h,_,_,_=>by simp[zc7] at h
 |x::r,c::cs,k,h,i,b,hi=>by
  simp only[zc7,Bool.and_eq_true] at h
  intro j a hj ha
  cases i with
  |zero=>
   simp at hi
   subst hi
   have:=zqH l 0 h.1 j a (by omega) ha
   simpa using this
  |succ i=>
   have:=zk7 r cs (k+1) h.2 i b (by simpa using hi) j a (by omega) ha
   rw[show k+(i+1)=k+1+i by omega]
   simpa using this
theorem zeP{p:Nat->AOper->Nat->AOper->Bool}{l:List AOper}{ops:Array Oper}(h:zc7 p l 0 (zbj [] ops.toList) l=true){i j:Nat}{a b:AOper}(hji:j<i)(ha:l[j]? =some a)(hb:l[i]? =some b):j∈(clos [] ops.toList).getD i []\/p j a i b=true:=by
 have:=zk7 l _ 0 h i b hb j a (by omega) ha
 rw[Nat.zero_add] at this
 rcases this with h|h
 ·exact .inl (zhO ops.toList [] [] rfl (fun i j hb=>by simp[zhN] at hb) i j h)
 ·exact .inr h
theorem zeQ:∀(l:List AOper) (seen:Nat),zef seen l=true->∀(i:Nat) (x:AOper) (d:Nat),l[i]? =some x->x.dst=some d->bit seen d=false
 |[],_,_,i,x,d,h,_=>by simp at h
 |o::r,seen,hn,i,x,d,hx,dx=>by
  simp only[zef] at hn
  split at hn
  ·rename_i d0 e
   simp only[Bool.and_eq_true,Bool.not_eq_true'] at hn
   cases i with
   |zero=>simp at hx;subst hx;rw[e] at dx;cases dx;exact hn.1
   |succ i=>
    have:=zeQ r _ hn.2 i x d (by simpa using hx) dx
    rw[znu,Bool.or_eq_false_iff] at this
    exact this.1
  ·rename_i e
   cases i with
   |zero=>simp at hx;subst hx;rw[e] at dx;cases dx
   |succ i=>exact zeQ r _ hn i x d (by simpa using hx) dx
theorem zen:∀(l:List AOper) (seen:Nat),zef seen l=true->∀(i j:Nat) (x y:AOper) (d:Nat),l[i]? =some x->l[j]? =some y->x.dst=some d->y.dst=some d->i=j
 |[],_,_,i,j,x,y,d,h,_,_,_=>by simp at h
 |o::r,seen,hn,i,j,x,y,d,hx,hy,dx,dy=>by
  simp only[zef] at hn
  have tl:zef (match o.dst with|some d=>seen ||| (1 <<< d)|none=>seen) r=true:=by
   split at hn
   ·rename_i d0 e;simp only[Bool.and_eq_true] at hn;rw[e];exact hn.2
   ·rename_i e;rw[e];exact hn
  have head:∀(k:Nat) (z:AOper),r[k]? =some z->o.dst=some d->z.dst≠some d:=by
   intro k z hz ho hzd
   rw[ho] at tl
   have:=zeQ r _ tl k z d hz hzd
   rw[znu,znv] at this
   simp at this
  cases i with
  |zero=>cases j with
   |zero=>rfl
   |succ j=>
    simp at hx
    subst hx
    exact absurd dy (head j y (by simpa using hy) dx)
  |succ i=>cases j with
   |zero=>
    simp at hy
    subst hy
    exact absurd dx (head i x (by simpa using hx) dy)
   |succ j=>rw[zen r _ tl i j x y d (by simpa using hx) (by simpa using hy) dx dy]

theorem zcF{ops:Array Oper}{l:List AOper}(h:za5 ops l=true):zbX 0 ops.toList=true/\zef 0 l=true/\zhl l=true/\ze7 l=true/\∀i j a b,j<i->l[j]? =some a->l[i]? =some b->j∈(clos [] ops.toList).getD i []\/a.indep b (zfO l j i)=true:=by
 simp only[za5,Bool.and_eq_true] at h
 obtain⟨⟨⟨h3,h1⟩,h2⟩,h4,h5⟩:=h
 exact⟨h1,h2,h4,h5,fun i j a b hji ha hb=>zeP h3 hji ha hb⟩

theorem zpv{l:List AOper}{j i:Nat}(h:zfO l j i=false):∀k o,j<k->k<i->l[k]? =some o->o.cls≠3:=by
 intro k o h1 h2 ho hc
 unfold zfO at h
 rw[List.any_eq_false] at h
 have:=h k (List.mem_range.2 h2)
 simp[h1,ho,hc] at this

theorem zpw{l:List AOper}(h:zhl l=true){a b:AOper}{i j d:Nat}(ha:l[i]? =some a)(hb:l[j]? =some b)(hc:a.cls=0)(hc':b.cls=3)(hd:b.dst=some d):d ∉ a.uses:=by
 unfold zhl at h
 rw[Bool.and_eq_true] at h
 have h:=h.2
 rw[List.all_eq_true] at h
 have h1:=h a (List.mem_of_getElem? ha)
 simp only[hc,bne_self_eq_false,Bool.false_or] at h1
 rw[List.all_eq_true] at h1
 have h2:=h1 b (List.mem_of_getElem? hb)
 simp only[hc',bne_self_eq_false,Bool.false_or,hd] at h2
 intro hm
 simp[hm] at h2

theorem zlW{l:List AOper}(h:zhl l=true){g a b:AOper}{k i j d:Nat}(hg:l[k]? =some g)(hgc:g.isCallg=true)(ha:l[i]? =some a)(hl:a.isLd=true)(hb:l[j]? =some b)(hc':b.cls=3)(hd:b.dst=some d):d ∉ a.uses:=by
 unfold zhl at h
 rw[Bool.and_eq_true] at h
 have h:=h.1
 unfold zmY at h
 rw[Bool.or_eq_true] at h
 rcases h with h|h
 ·exfalso
  simp only[Bool.not_eq_true',List.any_eq_false] at h
  exact h g (List.mem_of_getElem? hg) hgc
 ·rw[List.all_eq_true] at h
  have h1:=h a (List.mem_of_getElem? ha)
  simp only[hl,Bool.not_true,Bool.false_or] at h1
  rw[List.all_eq_true] at h1
  have h2:=h1 b (List.mem_of_getElem? hb)
  simp only[hc',bne_self_eq_false,Bool.false_or,hd] at h2
  intro hm
  simp[hm] at h2

theorem znx{l:List AOper}(h:ze7 l=true){s a b:AOper}{k i j d:Nat}(hs:l[k]? =some s)(ho:s.late=true)(ha:l[i]? =some a)(hb:l[j]? =some b)(hij:i<=j)(hd:b.dst=some d):d ∉ a.uses:=by
 unfold ze7 at h
 rw[Bool.or_eq_true] at h
 rcases h with h|h
 ·exfalso
  simp only[Bool.not_eq_true',List.any_eq_false] at h
  exact h s (List.mem_of_getElem? hs) ho
 ·rw[List.all_eq_true] at h
  have h1:=h i (List.mem_range.2 (List.getElem?_eq_some_iff.1 ha).1)
  rw[ha] at h1
  simp only[List.all_eq_true] at h1
  have hm:b∈l.drop i:=List.mem_of_getElem? (i:=j - i) (by rw[List.getElem?_drop,show i+(j - i)=j by omega];exact hb)
  have h2:=h1 b hm
  simp only[hd] at h2
  intro hx
  simp[hx] at h2

theorem zk8{ops:Array Oper}{l:List AOper}(h:zcQ ops l=true):∀i j a b,j<i->l[j]? =some a->l[i]? =some b->j∈(clos [] ops.toList).getD i []\/(a.risky=false/\b.risky=false):=by
 intro i j a b hji ha hb
 rcases zeP h hji ha hb with h|h
 ·exact .inl h
 ·exact .inr (by simpa using h)
end Go.Am

/- Regions whose order is drawn: any order comes to what the text's order comes to. -/
namespace Go.Am
variable{P:Program} {w:World} {X:Xc P} {μ:Nat->Option Nat} {hp:Heap}

theorem zdg{fr:Fr}{s:Nat}:∀{ks:List Nat},s∈ks->(fr.keep ks).look s=fr.look s
 |[],h=>by cases h
 |k::r,h=>by
  simp only[Fr.keep]
  by_cases e:k=s
  ·subst e
   cases hv:fr.look k with
   |some v=>simp[Fr.look]
   |none=>
    simp only[]
    by_cases hm:k∈r
    ·rw[zdg hm,hv]
    ·have:∀(r:List Nat),k ∉ r->(fr.keep r).look k=none:=by
      intro r
      induction r with
      |nil=>intro _;rfl
      |cons x r ih=>
       intro hx
       simp only[List.mem_cons,not_or] at hx
       simp only[Fr.keep]
       split
       ·simp only[Fr.look,Ne.symm hx.1,if_false];exact ih hx.2
       ·exact ih hx.2
     exact this r hm
  ·have hm:s∈r:=by simpa[Ne.symm e] using h
   split
   ·simp only[Fr.look,e,if_false];exact zdg hm
   ·exact zdg hm
theorem zeo{fr:Fr}{s:Nat}{u:AV}:∀{ks:List Nat},(fr.keep ks).look s=some u->s∈ks/\fr.look s=some u
 |[],h=>by simp[Fr.keep,Fr.look] at h
 |k::r,h=>by
  simp only[Fr.keep] at h
  split at h
  ·rename_i v hv
   simp only[Fr.look] at h
   split at h
   ·rename_i e;subst e;cases h;exact⟨by simp,hv⟩
   ·obtain⟨h1,h2⟩:=zeo h;exact⟨by simp[h1],h2⟩
  ·obtain⟨h1,h2⟩:=zeo h;exact⟨by simp[h1],h2⟩

theorem zdh{f g:Fr}:∀{as:List AArg},(∀s∈zbE as,f.look s=g.look s)->f.argsOf as=g.argsOf as
 |[],_=>rfl
 |a::r,h=>by
  have hr:f.argsOf r=g.argsOf r:=zdh fun s hs=>h s (by cases a <;> simp[zbE,hs])
  have ha:f.arg a=g.arg a:=by
   cases a with
   |t s=>exact h s (by simp[zbE])
   |c v=>rfl
  simp only[Fr.argsOf,ha,hr]
theorem ziQ(o:AOper):o.base.dst=o.dst/\o.base.guard=o.guard:=by
 unfold AOper.base
 split <;> exact⟨rfl,rfl⟩
theorem zlX{Γ:Oracle}{b:Nat}{o:AOper}{f g:Fr}(h:∀s∈o.uses,f.look s=g.look s):aone Γ b o.base f hp=aone Γ b o.base g hp:=by
 have hg:wants f o.base.guard=wants g o.base.guard:=by
  unfold AOper.uses at h
  cases hgd:o.base.guard with
  |none=>rfl
  |some x=>
   rw[hgd] at h
   simp only[wants,h x.1 (by simp)]
 have ha:f.argsOf o.base.args=g.argsOf o.base.args:=zdh fun s hs=>h s (by unfold AOper.uses;split <;> simp[hs])
 simp only[aone,hg,ha]

theorem zep{p q:Nat->Bool}{i:Nat}:∀{l:List Nat},i∈l->(∀x,q x=true->p x=true)->p i=true->q i=false->l.countP q<l.countP p
 |[],h,_,_,_=>by cases h
 |x::r,h,hpq,hp,hq=>by
  have le:∀r:List Nat,r.countP q<=r.countP p:=by
   intro r
   induction r with
   |nil=>simp
   |cons x r ih=>
    simp only[List.countP_cons]
    have:=hpq x
    cases hqx:q x <;> cases hpx:p x <;> simp_all <;> omega
  simp only[List.countP_cons]
  by_cases e:x=i
  ·subst e
   rw[hp,hq]
   have:=le r
   simp
   omega
  ·have hm:i∈r:=by simpa[Ne.symm e] using h
   have:=zep hm hpq hp hq
   have h1:=hpq x
   cases hqx:q x <;> cases hpx:p x <;> simp_all <;> omega

def AOp.exact:AOp->Bool
 | .storen _=>false
 | .storex _=>false
 | .calln _=>false
 | .callg=>false
 | .bslicen _ _=>false
 | .appendn _ _=>false
 | .bslovn _ _=>false
 |_=>true
theorem zk9{o:AOper}(h:o.op.exact=false):o.cls=2:=by
 unfold AOp.exact at h
 split at h
 ·rename_i e
  unfold AOper.cls
  simp[e,AOp.isPure,AOp.isRead]
 ·rename_i e
  unfold AOper.cls
  simp[e,AOp.isPure,AOp.isRead]
 ·rename_i e
  unfold AOper.cls
  simp[e,AOp.isPure,AOp.isRead]
 ·rename_i e
  unfold AOper.cls
  simp[e,AOp.isPure,AOp.isRead]
 ·rename_i e
  unfold AOper.cls
  simp[e,AOp.isPure,AOp.isRead]
 ·rename_i e
  unfold AOper.cls
  simp[e,AOp.isPure,AOp.isRead]
 ·rename_i e
  unfold AOper.cls
  simp[e,AOp.isPure,AOp.isRead]
 ·cases h
theorem zkc{o:AOper}{x:AArg}(h:x∈o.sures):o.op.exact=false:=by
 unfold AOper.sures at h
 split at h
 ·rename_i e _;rw[e];rfl
 ·rename_i e;rw[e];rfl
 ·rename_i e;rw[e];rfl
 ·rename_i e;rw[e];rfl
 ·rename_i e;rw[e];rfl
 ·cases h
theorem zla{o:AOper}{sh:Sh}(h:o.op=.load sh):o.cls=1:=by
 unfold AOper.cls
 simp[h,AOp.isPure,AOp.isRead]
theorem zf4{o:AOper}(h:o.isCallg=true):o.op=.callg/\o.cls=2:=by
 unfold AOper.isCallg at h
 split at h
 ·rename_i e
  exact⟨e,by unfold AOper.cls;simp[e,AOp.isPure,AOp.isRead]⟩
 ·cases h
theorem zqI{o:AOper}(h:o.isLd=true):∃sh q,o.op=.load sh/\o.args=[.t q]:=by
 unfold AOper.isLd at h
 split at h
 ·exact⟨_,_,‹_›,‹_›⟩
 ·cases h
theorem zcx{o:AOper}(h:o.op.exact=true):o.base=o:=by
 unfold AOper.base
 split
 ·rename_i e _;rw[e] at h;cases h
 ·rename_i e _;rw[e] at h;cases h
 ·rename_i e;rw[e] at h;cases h
 ·rename_i e;rw[e] at h;cases h
 ·rename_i e;rw[e] at h;cases h
 ·rename_i e;rw[e] at h;cases h
 ·rename_i e;rw[e] at h;cases h
 ·rfl
theorem zfE{o:AOper}(h:o.cls≠2):o.base=o:=zcx (by
 cases he:o.op.exact with
 |true=>rfl
 |false=>exact absurd (zk9 he) h)
theorem zeR{a b:AOper}(h:a.spared b=true):∃sh q,a.op=.load sh/\a.args=[.t q]/\(.t q∈b.sures\/b.isCallg=true):=by
 unfold AOper.spared at h
 split at h
 ·rename_i sh q h1 h2
  refine⟨sh,q,h1,h2,?_⟩
  rw[Bool.or_eq_true] at h
  rcases h with h|h
  rotate_left
  ·exact .inr h
  left
  rw[List.any_eq_true] at h
  obtain⟨x,hx,hq⟩:=h
  cases x with
  |t q'=>have:=Nat.eq_of_beq_eq_true hq;subst this;exact hx
  |c v=>cases hq
 ·cases h
theorem zcd{a b:AOper}{m:Bool}(h:a.indep b m=true):a.cls=0\/b.cls=0\/(a.cls=1/\b.cls=1/\(a.isCallh=true->m=false))\/b.cls=3\/(a.cls=1/\a.isCallh=false/\b.cls=2/\a.spared b=true)\/(a.cls=2/\b.cls=1/\a.isCallg=true/\b.isLd=true):=by
 simp only[AOper.indep,Bool.and_eq_true,Bool.or_eq_true,beq_iff_eq] at h
 rcases h.2 with((((h|h)|h)|h)|h)|h
 ·exact .inl h
 ·exact .inr (.inl h)
 ·refine .inr (.inr (.inl ⟨h.1.1,h.1.2,fun hc=> ?_⟩))
  have:=h.2
  cases m <;> simp_all
 ·exact .inr (.inr (.inr (.inl h)))
 ·obtain⟨sh,q,h1,h2,h4⟩:=zeR h
  refine .inr (.inr (.inr (.inr (.inl ⟨zla h1,?_,?_,h⟩))))
  ·unfold AOper.isCallh
   rw[h1]
  ·rcases h4 with h4|h4
   ·exact zk9 (zkc h4)
   ·exact(zf4 h4).2
 ·obtain⟨sh,q,h1,_⟩:=zqI h.2
  exact .inr (.inr (.inr (.inr (.inr ⟨(zf4 h.1).2,zla h1,h.1,h.2⟩))))
theorem zf5{a b:AOper}{d:Nat}{m:Bool}(h:a.indep b m=true)(hd:a.dst=some d):d ∉ b.uses:=by
 simp only[AOper.indep,AOper.apart,Bool.and_eq_true,hd] at h
 intro hm
 have:=h.1.1
 simp[hm] at this
theorem ziR{a b:AOper}{d:Nat}{m:Bool}(h:a.indep b m=true)(hd:b.dst=some d):d ∉ a.uses:=by
 simp only[AOper.indep,AOper.apart,Bool.and_eq_true,hd] at h
 intro hm
 have:=h.1.2
 simp[hm] at this
theorem zlb{o:AOper}(h:o.isCallh=true):o.op=.callh:=by
 unfold AOper.isCallh at h
 split at h
 ·assumption
 ·cases h

/-! ### What is made only grows the heap -/
def Grow(hp hp':Heap):Prop:=∀(j:Nat) (x:AObj),hp[j]? =some x->hp'[j]? =some x
theorem Grow.refl(hp:Heap):Grow hp hp:=fun _ _ h=>h
theorem Grow.trans{h1 h2 h3:Heap}(a:Grow h1 h2)(b:Grow h2 h3):Grow h1 h3:=fun j x h=>b j x (a j x h)
theorem Grow.push(hp:Heap)(o:AObj):Grow hp (hp++[o]):=fun _ _ h=>zaF h
theorem zhP:∀(l:List (Sh × AV)) (hp:Heap),Grow hp (zam l hp).2:=by
 intro l
 induction l with
 |nil=>intro hp;exact Grow.refl hp
 |cons x r ih=>
  intro hp
  unfold zam
  split
  ·exact Grow.refl _
  ·rename_i h
   cases h
   split
   ·exact(Grow.push _ _).trans (ih _)
   ·exact ih _
  ·rename_i h
   cases h
   exact ih _
theorem zlc(a:AV)(hp:Heap):Grow hp (a.own hp).2:=by
 unfold AV.own
 split
 ·split
  ·exact Grow.push _ _
  ·exact Grow.refl _
 ·rename_i l
  exact zhP l hp
 ·exact Grow.refl _
theorem ziS{Γ:Oracle}{b:Nat}{o:AOper}{fr:Fr}(hc:o.cls=3):aone Γ b o fr hp=aOp Γ b o.op [] hp:=by
 obtain⟨h1,h2,_⟩:=zbA hc
 simp only[aone,h1,h2,wants,Fr.argsOf]
theorem zf6{Γ:Oracle}{b:Nat}{op:AOp}(h:(∃sh z,op=.alloc sh z)\/(∃sh,op=.nilsl sh)\/∃sh,op=.mkmap sh):aOp Γ b op [] hp=match swrite b op [] hp with|some (v,hp')=>some (.val v hp')|none=>none:=by
 rcases h with⟨sh,z,rfl⟩|⟨sh,rfl⟩|⟨sh,rfl⟩ <;> rfl
theorem zgQ{Γ:Oracle}{b:Nat}{o:AOper}{fr:Fr}{v:AV}{hp':Heap}(hc:o.cls=3)(h:aone Γ b o fr hp=some (.val v hp')):Grow hp hp':=by
 rw[ziS hc,zf6 (zbA hc).2.2.2] at h
 rcases(zbA hc).2.2.2 with⟨sh,z,e⟩|⟨sh,e⟩|⟨sh,e⟩ <;> rw[e] at h <;> simp only[swrite] at h
 ·unfold zbD at h
  simp only[] at h
  split at h
  ·rename_i hq
   split at hq
   ·cases hq
    cases h
    intro j x hx
    have hlt:j<hp.length:=(List.getElem?_eq_some_iff.1 hx).1
    rw[List.getElem?_set_ne (by omega)]
    exact zlc _ _ j x (zaF hx)
   ·cases hq
  ·cases h
 ·unfold zb2 at h
  split at h
  ·rename_i hq
   split at hq
   ·cases hq
    cases h
    exact Grow.push _ _
   ·cases hq
  ·cases h
 ·cases h
  exact Grow.push _ _

def Calm(u:AV)(hp hp':Heap):Prop:=
 match u with
 | .ptr r _=>∀x,hp[r]? =some x->hp'[r]? =some x
 | .iptr _ _ _=>True
 |_=>Grow hp hp'
theorem Calm.of{u:AV}{hp hp':Heap}(h:Grow hp hp'):Calm u hp hp':=by
 unfold Calm
 split
 ·exact fun x hx=>h _ x hx
 ·trivial
 ·exact h
theorem Calm.trans{u:AV}{h1 h2 h3:Heap}(a:Calm u h1 h2)(b:Calm u h2 h3):Calm u h1 h3:=by
 unfold Calm at*
 split
 ·exact fun x hx=>b x (a x hx)
 ·trivial
 ·rename_i n1 n2
  split at a
  ·exact absurd rfl (n1 _ _)
  ·exact absurd rfl (n2 _ _ _)
  ·split at b
   ·exact absurd rfl (n1 _ _)
   ·exact absurd rfl (n2 _ _ _)
   ·exact a.trans b
theorem ziT{sh:Sh}{u v:AV}{hp hp':Heap}(h:Calm u hp hp')(hl:aload sh hp u=some v):aload sh hp' u=some v:=by
 unfold aload at hl ⊢
 split at hl
 ·rename_i r off
  split at hl
  ·rename_i s x hx
   have:hp'[r]? =some (.box s x):=h _ hx
   simp only[this]
   exact hl
  ·cases hl
 ·exact hl
 ·rename_i s r ver i off
  split at hl
  ·rename_i s' es fz hx
   have:hp'[r]? =some (.arr s' es fz):=h _ _ hx
   simp only[this]
   exact hl
  ·cases hl
 ·rename_i s r ver i off
  split at hl
  ·rename_i s' es hx
   have:hp'[r]? =some (.arv s' es):=h _ _ hx
   simp only[this]
   exact hl
  ·rename_i s' es hx
   have:hp'[r]? =some (.arr s' es true):=h _ _ hx
   simp only[this]
   exact hl
  ·cases hl
 ·cases hl
theorem zny{op:AOp}{vs:List AV}{v:AV}{hp hp':Heap}(h:Grow hp hp')(hl:sread op vs hp=some v):sread op vs hp'=some v:=by
 unfold sread at hl ⊢
 split at hl
 ·unfold zgq at hl ⊢
  split at hl
  ·exact ziT (Calm.of h) hl
  ·cases hl
 ·unfold zhe at hl ⊢
  split at hl
  ·rename_i r s0 k
   split at hl
   ·rename_i s es hx
    simp only[h _ _ hx]
    exact hl
   ·cases hl
  ·cases hl
 ·unfold zpc at hl ⊢
  split at hl
  ·rename_i r
   split at hl
   ·rename_i s es hx
    simp only[h _ _ hx]
    exact hl
   ·cases hl
  ·exact hl
  ·cases hl
 ·cases hl
theorem zgR{fr:Fr}{q:Nat}:∀{as:List AArg} {vs:List AV},fr.argsOf as=some vs->.t q∈as->∃u∈vs,fr.look q=some u
 |[],_,_,h=>by cases h
 |a::r,vs,h,hm=>by
  obtain⟨v,us,rfl,h1,h2⟩:=zat h
  rcases List.mem_cons.1 hm with rfl|hm
  ·exact⟨v,by simp,h1⟩
  ·obtain⟨u,hu,hl⟩:=zgR h2 hm
   exact⟨u,by simp[hu],hl⟩
theorem zkd{Γ:Oracle}{b:Nat}{o:AOper}{fr:Fr}{v:AV}{hp':Heap}{sh:Sh}{p x:AArg}{qs:List AArg}{q:Nat}{u:AV}(ho:o.op=.storen sh)(ha:o.args=p::x::qs)(hq: .t q∈qs)(hu:fr.look q=some u)(h:aone Γ b o fr hp=some (.val v hp')):Calm u hp hp':=by
 unfold aone at h
 split at h
 ·cases h
 ·cases h;exact Calm.of (Grow.refl _)
 ·rw[ha] at h
  split at h
  ·cases h
  ·rename_i vs hvs
   obtain⟨a1,us,rfl,h1,h2⟩:=zat hvs
   obtain⟨a2,us2,rfl,h3,h4⟩:=zat h2
   obtain⟨u',hu',hl⟩:=zgR h4 hq
   rw[hu] at hl
   cases hl
   rw[ho] at h
   simp only[aOp,astep,AOp.isPure,AOp.isRead,cond_false,swrite,zjK] at h
   cases a1 <;> simp only[] at h <;> (try (cases h;done))
   rename_i r0 o0
   by_cases hall:us2.all (zkY r0)=true
   ·rw[if_pos hall] at h
    have hoff:=List.all_eq_true.1 hall u hu'
    cases u <;> simp only[zkY] at hoff <;> (try (cases hoff;done))
    ·rename_i r1 o1
     have hne:r1≠r0:=by
      intro e
      subst e
      simp at hoff
     intro y hy
     cases hs:astore sh b hp (.ptr r0 o0) a2 with
     |none=>rw[hs] at h;cases h
     |some hq=>
      rw[hs] at h
      cases h
      simp only[astore] at hs
      cases hb:hp[r0]? with
      |none=>rw[hb] at hs;cases hs
      |some ob=>
       rw[hb] at hs
       cases ob <;> simp only[] at hs <;> (try (cases hs;done))
       rename_i s old
       have g:=zlc a2 hp
       have key:∀z:AObj,(((a2.own hp).2).set r0 z)[r1]? =some y/\(hp.set r0 z)[r1]? =some y:=fun z=>⟨by rw[List.getElem?_set_ne (by omega)];exact g _ _ hy,by rw[List.getElem?_set_ne (by omega)];exact hy⟩
       (repeat' split at hs) <;> first|(cases hs;done)|(cases hs;first|exact(key _).1|exact(key _).2)
    ·exact trivial
   ·rw[if_neg hall] at h;cases h

theorem zeq{fr:Fr}{q:Nat}:∀{n:Nat} {as:List AArg} {vs:List AV},fr.argsOf as=some vs->.t q∈as.take n->∃u∈vs.take n,fr.look q=some u
 |0,as,vs,_,hm=>by simp at hm
 |n+1,[],vs,_,hm=>by simp at hm
 |n+1,a::r,vs,h,hm=>by
  obtain⟨v,us,rfl,h1,h2⟩:=zat h
  simp only[List.take_succ_cons,List.mem_cons] at hm ⊢
  rcases hm with rfl|hm
  ·exact⟨v,.inl rfl,h1⟩
  ·obtain⟨u,hu,hl⟩:=zeq h2 hm
   exact⟨u,.inr hu,hl⟩
theorem zct{hp hp':Heap}{u:AV}(hs:zb9 hp hp' u=true):Calm u hp hp':=by
 cases u <;> simp only[zb9] at hs <;> (try (cases hs;done))
 ·rename_i r o
  intro x hx
  rw[hx] at hs
  split at hs
  ·rename_i b e1 e2
   cases e1
   have hb:Heap.beq [x] [b]=true:=by simp only[Heap.beq,hs,Bool.and_self]
   have:=zfA hb
   simp only[List.cons.injEq,and_true] at this
   rw[e2,this]
  ·cases hs
 ·exact trivial
theorem znz{Γ:Oracle}{b:Nat}{o:AOper}{fr:Fr}{v:AV}{hp':Heap}{q:Nat}{u:AV}(hq: .t q∈o.sures)(hu:fr.look q=some u)(h:aone Γ b o fr hp=some (.val v hp')):Calm u hp hp':=by
 unfold AOper.sures at hq
 split at hq
 ·rename_i sh p x qs ho ha
  exact zkd ho ha hq hu h
 ·rename_i n ho
  unfold aone at h
  split at h
  ·cases h
  ·cases h;exact Calm.of (Grow.refl _)
  ·split at h
   ·cases h
   ·rename_i vs hvs
    obtain⟨u',hu',hl⟩:=zeq hvs hq
    rw[hu] at hl
    cases hl
    simp only[ho,aOp] at h
    unfold zgz at h
    split at h
    ·split at h
     ·rename_i hall
      cases h
      exact zct (List.all_eq_true.1 hall u hu')
     ·cases h
    ·rename_i hne
     exact absurd h (hne _ _)
 ·rename_i sh n ho
  unfold aone at h
  split at h
  ·cases h
  ·cases h;exact Calm.of (Grow.refl _)
  ·split at h
   ·cases h
   ·rename_i vs hvs
    obtain⟨u',hu',hl⟩:=zeq hvs hq
    rw[hu] at hl
    cases hl
    simp only[ho,aOp] at h
    unfold zea at h
    split at h
    ·split at h
     ·rename_i hall
      cases h
      exact zct (List.all_eq_true.1 hall u hu')
     ·cases h
    ·cases h
 ·rename_i sh n ho
  unfold aone at h
  split at h
  ·cases h
  ·cases h;exact Calm.of (Grow.refl _)
  ·split at h
   ·cases h
   ·rename_i vs hvs
    obtain⟨u',hu',hl⟩:=zeq hvs hq
    rw[hu] at hl
    cases hl
    simp only[ho,aOp] at h
    unfold zfz at h
    split at h
    ·split at h
     ·rename_i hall
      cases h
      exact zct (List.all_eq_true.1 hall u hu')
     ·cases h
    ·cases h
 ·rename_i sh n ho
  unfold aone at h
  split at h
  ·cases h
  ·cases h;exact Calm.of (Grow.refl _)
  ·split at h
   ·cases h
   ·rename_i vs hvs
    obtain⟨u',hu',hl⟩:=zeq hvs hq
    rw[hu] at hl
    cases hl
    simp only[ho,aOp] at h
    unfold zhh at h
    split at h
    ·split at h
     ·rename_i hall
      cases h
      exact zct (List.all_eq_true.1 hall u hu')
     ·cases h
    ·cases h
 ·cases hq

theorem zgS{Γ:Oracle}{b:Nat}{o:AOper}{fr:Fr}{v:AV}{hp':Heap}(hg:o.isCallg=true)(h:aone Γ b o fr hp=some (.val v hp')):Grow hp hp':=by
 unfold aone at h
 split at h
 ·cases h
 ·cases h;exact Grow.refl _
 ·split at h
  ·cases h
  ·rename_i vs hvs
   rw[(zf4 hg).1] at h
   simp only[aOp] at h
   unfold zgA at h
   split at h
   ·split at h
    ·rename_i hs
     cases h
     have:=zfA hs
     intro j x hx
     rw[<-this,List.getElem?_take] at hx
     split at hx
     ·exact hx
     ·cases hx
    ·cases h
   ·cases h
theorem Run.grow{Γ:Oracle}{b:Nat}{l:List AOper}{fr fr':Fr}{hp hp':Heap}{e:AExit}{m:Nat}{frs:Nat->Fr}{hps:Nat->Heap}{vals:Nat->AV}(R:Run Γ b l fr hp e fr' hp' m frs hps vals){i:Nat}:∀(n:Nat),i+n<=m->(∀k x,i<=k->k<i+n->l[k]? =some x->x.cls=2->x.isCallg=true)->Grow (hps i) (hps (i+n))
 |0,_,_=>Grow.refl _
 |n+1,hm,hx=>by
  refine(R.grow n (by omega) fun k x h1 h2=>hx k x h1 (by omega)).trans ?_
  have hlt:i+n<l.length:=Nat.lt_of_lt_of_le (by omega) R.le
  have ho:l[i+n]? =some l[i+n]:=List.getElem?_eq_getElem hlt
  obtain⟨t1,_⟩:=R.step (i+n) _ (by omega) ho
  show Grow (hps (i+n)) (hps (i+n+1))
  rcases zf2 l[i+n] with c|c|c|c
  ·rw[((zbc t1).1 c).1];exact Grow.refl _
  ·rw[(zbc t1).2 c];exact Grow.refl _
  ·exact zgS (hx _ _ (by omega) (by omega) ho c) t1
  ·exact zgQ c t1
theorem zlY{sh:Sh}{h0 h1:Heap}{u v:AV}{x:Value}(hg:Grow h0 h1)(hu:AR w X μ h0 u x)(h:aload sh h1 u=some v):aload sh h0 u=some v:=by
 unfold aload at h ⊢
 cases hu with
 |ptr r off b s y ho hb=>
  simp only[hg _ _ ho] at h
  simp only[ho]
  exact h
 |eptr s r ver i off a es fz ho hv hh=>
  simp only[hg _ _ ho] at h
  simp only[ho]
  exact h
 |iptr=>exact h
 |epv s r ver i off a n ho hv hh=>
  rcases zbw ho with⟨es,e,_⟩|⟨es,e,_⟩
  ·simp only[hg _ _ e] at h
   simp only[e]
   exact h
  ·simp only[hg _ _ e] at h
   simp only[e]
   exact h
 |_=>cases h
theorem znA{Γ:Oracle}{b:Nat}{o:AOper}{f:Fr}{h0 h1:Heap}{v:AV}(hld:o.isLd=true)(hg:Grow h0 h1)(hs:∀q u,q∈o.uses->f.look q=some u->∃x,AR w X μ h0 u x)(h:aone Γ b o f h1=some (.val v h1)):aone Γ b o f h0=some (.val v h0):=by
 obtain⟨sh,q,e1,e2⟩:=zqI hld
 have hu:q∈o.uses:=by
  unfold AOper.uses
  rw[zcx (by rw[e1];rfl),e2]
  split <;> simp[zbE]
 unfold aone at h ⊢
 split at h
 ·cases h
 ·simp only[Option.some.injEq,OpRes.val.injEq] at h ⊢
  exact⟨h.1,trivial⟩
 rw[e2] at h ⊢
 cases ha:f.argsOf [.t q] with
 |none=>rw[ha] at h;cases h
 |some vs=>
  rw[ha] at h
  simp only[] at h ⊢
  obtain⟨u,rfl,k1⟩:=zdz ha
  obtain⟨x,hx⟩:=hs q u hu k1
  rw[e1,zhL rfl rfl] at h ⊢
  simp only[sread,zgq] at h ⊢
  cases hl:aload sh h1 u with
  |none=>rw[hl] at h;cases h
  |some z=>
   rw[hl] at h
   cases h
   rw[zlY hg hx hl]
theorem Run.stay{Γ:Oracle}{b:Nat}{l:List AOper}{fr fr':Fr}{hp hp':Heap}{e:AExit}{m:Nat}{frs:Nat->Fr}{hps:Nat->Heap}{vals:Nat->AV}(R:Run Γ b l fr hp e fr' hp' m frs hps vals){i q:Nat}:∀(n:Nat),i+n<=m->(∀k o,i<=k->k<i+n->l[k]? =some o->o.dst≠some q)->(frs (i+n)).look q=(frs i).look q
 |0,_,_=>rfl
 |n+1,hm,hc=>by
  rw[<-R.stay n (by omega) (fun k o h1 h2 h3=>hc k o h1 (by omega) h3)]
  have hlt:i+n<l.length:=Nat.lt_of_lt_of_le (by omega) R.le
  have ho:l[i+n]? =some l[i+n]:=List.getElem?_eq_getElem hlt
  obtain⟨_,h2⟩:=R.step (i+n) _ (by omega) ho
  have hd:=hc (i+n) _ (by omega) (by omega) ho
  rw[show i+(n+1)=i+n+1 by omega,h2]
  cases hdd:l[i+n].dst with
  |none=>rfl
  |some d=>
   rw[hdd] at hd
   have:d≠q:=fun e=>hd (by rw[e])
   simp only[Fr.dst,Fr.look,this,if_false]

theorem znB{Γ:Oracle}{b:Nat}{l:List AOper}{fr fr':Fr}{hp hp':Heap}{e:AExit}{m:Nat}{frs:Nat->Fr}{hps:Nat->Heap}{vals:Nat->AV}(R:Run Γ b l fr hp e fr' hp' m frs hps vals)(hla:ze7 l=true){i h:Nat}{ao:AOper}(hi:l[i]? =some ao)(hc:ao.cls=1)(hcl:ao.isCallh=false)(hih:i<h)(hm:h<=m)
  (hsp:∀k x,i<k->k<h->l[k]? =some x->x.cls=2->ao.spared x=true):aone Γ b ao (frs i) (hps h)=some (.val (vals i) (hps h)):=by
 obtain⟨s1,_⟩:=R.step i ao (by omega) hi
 have hsame:=(zbc s1).2 hc
 have hread:ao.op.isPure=false/\ao.op.isRead=true:=by
  rcases znq hc with h|h
  ·unfold AOper.isCallh at hcl;rw[h] at hcl;cases hcl
  ·exact h

 have stp:∀k,k<m->(∀x,l[k]? =some x->x.cls≠2)->Grow (hps k) (hps (k+1)):=by
  intro k hk hx
  have hlt:k<l.length:=Nat.lt_of_lt_of_le hk R.le
  have ho:l[k]? =some l[k]:=List.getElem?_eq_getElem hlt
  obtain⟨t1,_⟩:=R.step k _ hk ho
  rcases zf2 l[k] with c|c|c|c
  ·rw[((zbc t1).1 c).1];exact Grow.refl _
  ·rw[(zbc t1).2 c];exact Grow.refl _
  ·exact absurd c (hx _ ho)
  ·exact zgQ c t1
 have res:(∀vs,(frs i).argsOf ao.args=some vs->∀v,sread ao.op vs (hps i)=some v->sread ao.op vs (hps h)=some v)->aone Γ b ao (frs i) (hps h)=some (.val (vals i) (hps h)):=by
  intro hr
  unfold aone at s1 ⊢
  split at s1
  ·cases s1
  ·simp only[Option.some.injEq,OpRes.val.injEq] at s1 ⊢
   exact⟨s1.1,trivial⟩
  ·split at s1
   ·cases s1
   ·rename_i vs hvs
    rw[zhL hread.1 hread.2] at s1 ⊢
    split at s1
    ·rename_i v hv
     simp only[Option.some.injEq,OpRes.val.injEq] at s1
     simp only[hr vs hvs v hv,s1.1]
    ·cases s1
 by_cases hex:∃k x,i<k/\k<h/\l[k]? =some x/\x.cls=2
 ·obtain⟨k0,x0,k1,k2,k3,k4⟩:=hex
  obtain⟨sh,q,e1,e2,e4⟩:=zeR (hsp k0 x0 k1 k2 k3 k4)
  refine res fun vs hvs v hv=> ?_
  rw[e2] at hvs
  obtain⟨u,us,rfl,hu,h2⟩:=zat hvs
  cases h2
  have hq:∀k,i<=k->k<=m->(frs k).look q=some u:=by
   intro k hik hkm
   have:=R.stay (i:=i) (q:=q) (k - i) (by omega) (fun j o j1 j2 j3 jd=>znx hla k3 (by
    unfold AOper.late
    rcases e4 with e4|e4
    ·cases hs:x0.sures with
     |nil=>rw[hs] at e4;cases e4
     |cons y r=>rfl
    ·simp[e4]) hi j3 j1 jd (by unfold AOper.uses;rw[zfE (by omega),e2];split <;> simp[zbE]))
   rw[show i+(k - i)=k by omega] at this
   rw[this]
   exact hu
  have calm:∀n,i+1+n<=h->Calm u (hps i) (hps (i+1+n)):=by
   intro n
   induction n with
   |zero=>
    intro _
    rw[Nat.add_zero,hsame]
    exact Calm.of (Grow.refl _)
   |succ n ih=>
    intro hn
    refine(ih (by omega)).trans ?_
    have hlt:i+1+n<l.length:=Nat.lt_of_lt_of_le (by omega) R.le
    have ho:l[i+1+n]? =some l[i+1+n]:=List.getElem?_eq_getElem hlt
    by_cases hc2:l[i+1+n].cls=2
    ·obtain⟨sh,q',f1,f2,f4⟩:=zeR (hsp _ _ (by omega) (by omega) ho hc2)
     rw[e2] at f2
     cases f2
     rcases f4 with f4|f4
     ·exact znz f4 (hq _ (by omega) (by omega)) (R.step _ _ (by omega) ho).1
     ·exact Calm.of (zgS f4 (R.step _ _ (by omega) ho).1)
    ·exact Calm.of (stp _ (by omega) fun x hx=>by rw[ho] at hx;cases hx;exact hc2)
  have hcalm:=calm (h - (i+1)) (by omega)
  rw[show i+1+(h - (i+1))=h by omega] at hcalm
  rw[e1] at hv ⊢
  exact ziT hcalm hv
 ·have grow:∀n,i+1+n<=h->Grow (hps i) (hps (i+1+n)):=by
   intro n
   induction n with
   |zero=>
    intro _
    rw[Nat.add_zero,hsame]
    exact Grow.refl _
   |succ n ih=>
    intro hn
    exact(ih (by omega)).trans (stp _ (by omega) fun x hx hc2=>hex ⟨i+1+n,x,by omega,by omega,hx,hc2⟩)
  have hg:=grow (h - (i+1)) (by omega)
  rw[show i+1+(h - (i+1))=h by omega] at hg
  exact res fun vs hvs v hv=>zny hg hv
end Go.Am

/- Regions whose order is drawn: what is made before its turn. -/
namespace Go.Am
variable{P:Program} {w:World} {X:Xc P} {μ:Nat->Option Nat} {hp:Heap}

def PendOk(P:Program)(w:World)(op:AOp)(pb:Option Nat)(v:Value):Prop:=
 match op with
 | .alloc sh z=>∃bk x t,pb=some bk/\v=.pointer (some ⟨bk,0,none⟩)/\w.heap[bk]? =some (.cells x.cells t (0,0))/\∀(w:World) (X:Xc P) (μ:Nat->Option Nat) (hp:Heap),AR w X μ hp z x
 | .nilsl _=>pb=none/\v=.slice none 0 0
 | .mkmap _=>∃bk clock,pb=some bk/\v=.map (some bk)/\w.heap[bk]? =some (.map #[] clock)
 |_=>False
theorem PendOk.mono{w':World}{op:AOp}{pb:Option Nat}{v:Value}(h:PendOk P w op pb v)(hw:∀bk,pb=some bk->w'.heap[bk]? =w.heap[bk]?):PendOk P w' op pb v:=by
 unfold PendOk at h ⊢
 split
 ·obtain⟨bk,x,t,h1,h2,h3,h4⟩:=h
  exact⟨bk,x,t,h1,h2,by rw[hw bk h1];exact h3,h4⟩
 ·exact h
 ·obtain⟨bk,clock,h1,h2,h3⟩:=h
  exact⟨bk,clock,h1,h2,by rw[hw bk h1];exact h3⟩
 ·rename_i n1 n2 n3
  split at h
  ·exact absurd rfl (n1 _ _)
  ·exact absurd rfl (n2 _)
  ·exact absurd rfl (n3 _)
  ·exact h

theorem zld{pb:Nat->Option Nat}{k:Nat}(h:pb k=none):upd pb k none=pb:=by
 funext j
 by_cases e:j=k
 ·subst e;rw[zaf,h]
 ·rw[zav e]

theorem znC{o:Oper}{as:List AArg}{sh:Sh}{z:AV}(h:trOp P o=some (.alloc sh z,as)):∃t,o.op=.alloc t/\zaU P t=some z/\sh=shOf P t:=by
 cases hop:o.op <;> simp only[trOp,hop] at h <;> (try (cases h;done))
 case alloc t=>
  split at h
  ·cases h;exact⟨t,rfl,‹_›,rfl⟩
  ·cases h
 case call c=>
  cases hc:c.callee with
  |value f=>rw[hc] at h;(repeat' split at h) <;> cases h
  |invoke r n=>rw[hc] at h;cases h
  |builtin bi=>
   rw[hc] at h
   cases bi <;> simp only[] at h <;> (try (cases h;done)) <;> (repeat' split at h) <;> cases h
 all_goals ((repeat' split at h) <;> first|(cases h;done)|(exfalso;simp_all;done))
theorem znD{o:Oper}{as:List AArg}{sh:Sh}(h:trOp P o=some (.nilsl sh,as)):o.op=.assign (.const (.slice none 0 0)):=by
 cases hop:o.op <;> simp only[trOp,hop] at h <;> (try (cases h;done))
 case assign x=>
  split at h
  ·rfl
  ·split at h <;> cases h
 case call c=>
  cases hc:c.callee with
  |value f=>rw[hc] at h;(repeat' split at h) <;> cases h
  |invoke r n=>rw[hc] at h;cases h
  |builtin bi=>
   rw[hc] at h
   cases bi <;> simp only[] at h <;> (try (cases h;done)) <;> (repeat' split at h) <;> cases h
 all_goals ((repeat' split at h) <;> first|(cases h;done)|(exfalso;simp_all;done))
theorem znE{o:Oper}{as:List AArg}{sh:Sh}(h:trOp P o=some (.mkmap sh,as)):∃t,o.op=.makeMap t none:=by
 cases hop:o.op <;> simp only[trOp,hop] at h <;> (try (cases h;done))
 case makeMap t r=>
  cases r with
  |some r=>cases h
  |none=>exact⟨t,rfl⟩
 case call c=>
  cases hc:c.callee with
  |value f=>rw[hc] at h;(repeat' split at h) <;> cases h
  |invoke r n=>rw[hc] at h;cases h
  |builtin bi=>
   rw[hc] at h
   cases bi <;> simp only[] at h <;> (try (cases h;done)) <;> (repeat' split at h) <;> cases h
 all_goals ((repeat' split at h) <;> first|(cases h;done)|(exfalso;simp_all;done))
theorem zlZ{o:Oper}{as:List AArg}{sh:Sh}:¬trOp P o=some (.storen sh,as):=by
 intro h
 cases hop:o.op <;> simp only[trOp,hop] at h <;> (try (cases h;done))
 case call c=>
  cases hc:c.callee with
  |value f=>rw[hc] at h;(repeat' split at h) <;> cases h
  |invoke r n=>rw[hc] at h;cases h
  |builtin bi=>
   rw[hc] at h
   cases bi <;> simp only[] at h <;> (try (cases h;done)) <;> (repeat' split at h) <;> cases h
 all_goals ((repeat' split at h) <;> first|(cases h;done)|(exfalso;simp_all;done))

theorem zl0{o:Oper}{as:List AArg}{sh:Sh}:¬trOp P o=some (.storex sh,as):=by
 intro h
 cases hop:o.op <;> simp only[trOp,hop] at h <;> (try (cases h;done))
 case call c=>
  cases hc:c.callee with
  |value f=>rw[hc] at h;(repeat' split at h) <;> cases h
  |invoke r n=>rw[hc] at h;cases h
  |builtin bi=>
   rw[hc] at h
   cases bi <;> simp only[] at h <;> (try (cases h;done)) <;> (repeat' split at h) <;> cases h
 all_goals ((repeat' split at h) <;> first|(cases h;done)|(exfalso;simp_all;done))

theorem znF{o:Oper}{as:List AArg}{n:Nat}:¬trOp P o=some (.calln n,as):=by
 intro h
 cases hop:o.op <;> simp only[trOp,hop] at h <;> (try (cases h;done))
 case call c=>
  cases hc:c.callee with
  |value f=>rw[hc] at h;(repeat' split at h) <;> cases h
  |invoke r n=>rw[hc] at h;cases h
  |builtin bi=>
   rw[hc] at h
   cases bi <;> simp only[] at h <;> (try (cases h;done)) <;> (repeat' split at h) <;> cases h
 all_goals ((repeat' split at h) <;> first|(cases h;done)|(exfalso;simp_all;done))

theorem zke{o:Oper}{as:List AArg}{sh:Sh}{n:Nat}:¬trOp P o=some (.bslicen sh n,as):=by
 intro h
 cases hop:o.op <;> simp only[trOp,hop] at h <;> (try (cases h;done))
 case call c=>
  cases hc:c.callee with
  |value f=>rw[hc] at h;(repeat' split at h) <;> cases h
  |invoke r n=>rw[hc] at h;cases h
  |builtin bi=>
   rw[hc] at h
   cases bi <;> simp only[] at h <;> (try (cases h;done)) <;> (repeat' split at h) <;> cases h
 all_goals ((repeat' split at h) <;> first|(cases h;done)|(exfalso;simp_all;done))

theorem zkf{o:Oper}{as:List AArg}{sh:Sh}{n:Nat}:¬trOp P o=some (.appendn sh n,as):=by
 intro h
 cases hop:o.op <;> simp only[trOp,hop] at h <;> (try (cases h;done))
 case call c=>
  cases hc:c.callee with
  |value f=>rw[hc] at h;(repeat' split at h) <;> cases h
  |invoke r n=>rw[hc] at h;cases h
  |builtin bi=>
   rw[hc] at h
   cases bi <;> simp only[] at h <;> (try (cases h;done)) <;> (repeat' split at h) <;> cases h
 all_goals ((repeat' split at h) <;> first|(cases h;done)|(exfalso;simp_all;done))

theorem zl1{o:Oper}{as:List AArg}{sh:Sh}{n:Nat}:¬trOp P o=some (.bslovn sh n,as):=by
 intro h
 cases hop:o.op <;> simp only[trOp,hop] at h <;> (try (cases h;done))
 case call c=>
  cases hc:c.callee with
  |value f=>rw[hc] at h;(repeat' split at h) <;> cases h
  |invoke r n=>rw[hc] at h;cases h
  |builtin bi=>
   rw[hc] at h
   cases bi <;> simp only[] at h <;> (try (cases h;done)) <;> (repeat' split at h) <;> cases h
 all_goals ((repeat' split at h) <;> first|(cases h;done)|(exfalso;simp_all;done))

theorem zl2{t:TypeId}{z:AV}(h:zaU P t=some z):∃v,(∀w,(zeroValue t).run P w=.ok v w)/\∀(w:World) (X:Xc P) (μ:Nat->Option Nat) (hp:Heap),AR w X μ hp z v:=by
 unfold zaU at h
 split at h
 ·rename_i i hi
  split at h
  ·rename_i v hv
   exact⟨v,fun w=>by simp[zeroValue,typeInfo,hi,hv],fun w X μ hp=>(zb4 P w X μ hp 8 t v z h).1⟩
  ·cases h
 ·cases h

theorem znG{o:Oper}{ao:AOper}{a:Act}(ht:trOp P o=some (ao.op,ao.args))(hc:ao.cls=3)(w:World):∃v w' pb,(execOp a.eval o).run P w=.ok (.value v) w'/\PendOk P w' ao.op pb v/\((pb=none/\w'=w)\/∃ob,w'=w.alloc ob/\pb=some w.heap.size):=by
 rcases(zbA hc).2.2.2 with⟨sh,z,e⟩|⟨sh,e⟩|⟨sh,e⟩ <;> rw[e] at ht ⊢
 ·obtain⟨t,h1,h2,h3⟩:=znC ht
  obtain⟨x,h4,h5⟩:=zl2 h2
  refine⟨.pointer (some ⟨w.heap.size,0,none⟩),w.alloc (.cells x.cells t),some w.heap.size,?_,⟨_,x,t,rfl,rfl,zaC w _,h5⟩,.inr ⟨_,rfl,rfl⟩⟩
  simp only[execOp,h1,Instr.alloc,Sem.run_bind,h4,zeG,Result.andThen_ok,Sem.run_pure]
 ·have h1:=znD ht
  refine⟨.slice none 0 0,w,none,?_,⟨rfl,rfl⟩,.inl ⟨rfl,rfl⟩⟩
  simp only[execOp,h1,Sem.run_pure]
  rfl
 ·obtain⟨t,h1⟩:=znE ht
  refine⟨.map (some w.heap.size),w.alloc (.map #[] 0),some w.heap.size,?_,⟨_,0,rfl,rfl,zaC w _⟩,.inr ⟨_,rfl,rfl⟩⟩
  simp[execOp,h1,Instr.makeMap]

theorem zl3{Γ:Oracle}{b:Nat}{ao:AOper}{fr:Fr}{pb:Nat->Option Nat}{k:Nat}{u:AV}{v:Value}{hp':Heap}{hp0:Heap}{μ0:Nat->Option Nat}{w0:World}(hc:ao.cls=3)(ha:aone Γ b ao fr hp=some (.val u hp'))(hH:HR w (Xp X pb) μ hp)(hb:b<=hp.length)(hP:PendOk P w ao.op (pb k) v)
  (hi:∀k' bk,pb k=some bk->pb k'=some bk->k=k')(hX:∀bk,pb k=some bk->¬X bk/\w0.heap.size<=bk)(E:Ext b X μ0 hp0 w0 μ hp w):
  ∃μ',AR w (Xp X (upd pb k none)) μ' hp' u v/\HR w (Xp X (upd pb k none)) μ' hp'/\Tran w (Xp X pb) μ hp w (Xp X (upd pb k none)) μ' hp'/\Ext b X μ0 hp0 w0 μ' hp' w/\b<=hp'.length:=by
 rw[ziS hc,zf6 (zbA hc).2.2.2] at ha
 rcases(zbA hc).2.2.2 with⟨sh,z,e⟩|⟨sh,e⟩|⟨sh,e⟩ <;> rw[e] at ha hP <;> simp only[swrite] at ha
 ·obtain⟨bk,x,t,h1,rfl,h3,h4⟩:=hP
  unfold zbD at ha
  simp only[] at ha
  split at ha
  ·rename_i hq
   split at hq
   ·rename_i hh
    cases hq
    cases ha
    have hs:vshp x=sh:=by rw[(h4 w X μ hp).vshp hh.1,hh.2]
    have hf:Flat x:=(h4 w X μ hp).flat hh.1
    have hx:=hX bk h1
    have hH1:HR w (Xp X (upd pb k none)) (upd μ hp.length (some bk)) (hp++[.box sh z]):=by
     refine HR.takeIn hH h1 hi hx.1 _ ?_ (fun _ _ _ h=>by cases h) (fun _ _ h=>by cases h) (fun _ _ _ _ h=>by cases h) (fun _ _ h=>by cases h)
     intro sh' v' h
     cases h
     exact⟨x,t,h3,hs,hf,fun X' μ' hp'=>h4 _ _ _ _⟩
    obtain⟨μ',k1,k2,k3⟩:=zps hH1 (zaf _ _ _) h3 hs hf (h4 _ _ _ _)
    have T1:=zf1 (w:=w) (μ:=μ) (hp:=hp) h1 hi hx.1 (.box sh z)
    refine⟨μ',k1,k2,T1.trans (k3 b hb).tran (Nat.le_refl _),(E.takeIn hx.2 _).trans (k3 b hb).cast,?_⟩
    have:=(k3 b hb).len
    simp only[List.length_append,List.length_singleton] at this
    omega
   ·cases hq
  ·cases ha
 ·obtain⟨h1,rfl⟩:=hP
  unfold zb2 at ha
  split at ha
  ·rename_i hq
   split at hq
   ·rename_i hs
    cases hq
    cases ha
    obtain⟨k1,k2,k3⟩:=zhv b hH hs
    rw[zld h1]
    exact⟨_,k3,k1,k2.tran,E.trans k2.cast,by simp;omega⟩
   ·cases hq
  ·cases ha
 ·obtain⟨bk,clock,h1,rfl,h3⟩:=hP
  cases ha
  have hx:=hX bk h1
  have hH1:HR w (Xp X (upd pb k none)) (upd μ hp.length (some bk)) (hp++[.map sh []]):=by
   refine HR.takeIn hH h1 hi hx.1 _ (fun _ _ h=>by cases h) (fun _ _ _ h=>by cases h) ?_ (fun _ _ _ _ h=>by cases h) (fun _ _ h=>by cases h)
   intro sh' es h
   cases h
   exact⟨clock,h3,rfl⟩
  exact⟨_,.map _ _ sh [] zbx (zaf _ _ _),hH1,zf1 h1 hi hx.1 _,E.takeIn hx.2 _,by simp;omega⟩

def LS(l:List AOper)(vals:Nat->AV)(fr:Fr)(L:Array Bool)(h s:Nat)(a:AV):Prop:=
 (∃j o,L.getD j false=true/\l[j]? =some o/\o.dst=some s/\a=vals j/\(o.cls=3->j<h))\/((∀j o,l[j]? =some o->o.dst=some s->L.getD j false=false)/\fr.look s=some a)

structure DSt(b:Nat)(w0:World)(X:Xc P)(μ0:Nat->Option Nat)(hp:Heap)(l:List AOper)(fr:Fr)(m:Nat)(hps:Nat->Heap)(vals:Nat->AV)(L:Array Bool)(μ pb:Nat->Option Nat)(h:Nat)(t:Array Value)(w:World):Prop where
 hm:h<=m
 c2:∀k o,l[k]? =some o->o.cls=2->(L.getD k false=true↔k<h)
 c3:∀k o,l[k]? =some o->o.cls=3->k<h->L.getD k false=true
 hr:HR w (Xp X pb) μ (hps h)
 le:b<=(hps h).length
 ext:Ext b X μ0 hp w0 μ (hps h) w
 slot:∀s v,LS l vals fr L h s v->s<t.size/\AR w (Xp X pb) μ (hps h) v (t.getD s undef)
 pend:∀k o,l[k]? =some o->o.cls=3->h<=k->L.getD k false=true->∃d,o.dst=some d/\d<t.size/\PendOk P w o.op (pb k) (t.getD d undef)
 own:∀k bk,pb k=some bk->L.getD k false=true/\h<=k/\(∃o,l[k]? =some o/\o.cls=3)/\w0.heap.size<=bk/\¬X bk
 inj:∀k k' bk,pb k=some bk->pb k'=some bk->k=k'

section
variable{Γ:Oracle} {nt b:Nat} {w0:World} {μ0:Nat->Option Nat} {l:List AOper} {fr fr':Fr} {hp':Heap} {e:AExit} {m:Nat} {frs:Nat->Fr} {hps:Nat->Heap} {vals:Nat->AV} {L:Array Bool} {pb:Nat->Option Nat} {h:Nat} {t:Array Value}

theorem DSt.step(R:Run Γ b l fr hp e fr' hp' m frs hps vals)(D:DSt b w0 X μ0 hp l fr m hps vals L μ pb h t w)(hm:h<m)(hc:∀o,l[h]? =some o->o.cls≠2/\(o.cls=3->L.getD h false=true)):∃μ' pb',DSt b w0 X μ0 hp l fr m hps vals L μ' pb' (h+1) t w:=by
 have hlt:h<l.length:=Nat.lt_of_lt_of_le hm R.le
 have ho:l[h]? =some l[h]:=List.getElem?_eq_getElem hlt
 obtain⟨n2,n3⟩:=hc _ ho
 obtain⟨s1,_⟩:=R.step h _ hm ho
 have c2':∀k o,l[k]? =some o->o.cls=2->(L.getD k false=true↔k<h+1):=fun k o hk hk2=>by
  have hne:k≠h:=by rintro rfl;rw[ho] at hk;cases hk;exact n2 hk2
  rw[D.c2 k o hk hk2]
  omega
 by_cases h3:l[h].cls=3
 ·obtain⟨d,p1,p2,p3⟩:=D.pend h _ ho h3 (Nat.le_refl _) (n3 h3)
  obtain⟨μ',k1,k2,k3,k4,k5⟩:=zl3 (w0:=w0) h3 s1 D.hr D.le p3 (fun k' bk=>D.inj h k' bk) (fun bk e=>⟨(D.own h bk e).2.2.2.2,(D.own h bk e).2.2.2.1⟩) D.ext
  refine⟨μ',upd pb h none,by omega,c2',?_,k2,k5,k4,?_,?_,?_,?_⟩
  ·intro k o hk hk3 hkh
   by_cases e:k=h
   ·subst e;exact n3 h3
   ·exact D.c3 k o hk hk3 (by omega)
  ·intro s v hs
   rcases hs with⟨j,oj,j1,j2,j3,j4,j5⟩|hs
   ·by_cases e:j=h
    ·subst e
     rw[ho] at j2
     cases j2
     rw[p1] at j3
     cases j3
     rw[j4]
     exact⟨p2,k1⟩
    ·obtain⟨q1,q2⟩:=D.slot s v (.inl ⟨j,oj,j1,j2,j3,j4,fun c=>by have:=j5 c;omega⟩)
     exact⟨q1,k3.ar q2⟩
   ·obtain⟨q1,q2⟩:=D.slot s v (.inr hs)
    exact⟨q1,k3.ar q2⟩
  ·intro k o hk hk3 hkh hL
   rw[zav (by omega)]
   exact D.pend k o hk hk3 (by omega) hL
  ·intro k bk hk
   by_cases e:k=h
   ·subst e;rw[zaf] at hk;cases hk
   ·rw[zav e] at hk
    obtain⟨q1,q2,q3⟩:=D.own k bk hk
    exact⟨q1,by omega,q3⟩
  ·intro k k' bk h1 h2
   by_cases e:k=h
   ·subst e;rw[zaf] at h1;cases h1
   ·by_cases e':k'=h
    ·subst e';rw[zaf] at h2;cases h2
    ·rw[zav e] at h1;rw[zav e'] at h2;exact D.inj k k' bk h1 h2
 ·have hh:hps (h+1)=hps h:=by
   rcases zf2 l[h] with c|c|c|c
   ·exact((zbc s1).1 c).1
   ·exact(zbc s1).2 c
   ·exact absurd c n2
   ·exact absurd c h3
  refine⟨μ,pb,by omega,c2',?_,by rw[hh];exact D.hr,by rw[hh];exact D.le,by rw[hh];exact D.ext,?_,?_,?_,D.inj⟩
  ·intro k o hk hk3 hkh
   have hne:k≠h:=by rintro rfl;rw[ho] at hk;cases hk;exact h3 hk3
   exact D.c3 k o hk hk3 (by omega)
  ·intro s v hs
   rw[hh]
   rcases hs with⟨j,oj,j1,j2,j3,j4,j5⟩|hs
   ·refine D.slot s v (.inl ⟨j,oj,j1,j2,j3,j4,fun c=> ?_⟩)
    have hne:j≠h:=by rintro rfl;rw[ho] at j2;cases j2;exact h3 c
    have:=j5 c
    omega
   ·exact D.slot s v (.inr hs)
  ·intro k o hk hk3 hkh hL
   exact D.pend k o hk hk3 (by omega) hL
  ·intro k bk hk
   obtain⟨q1,q2,⟨o,q3,q4⟩,q5⟩:=D.own k bk hk
   have hne:k≠h:=by rintro rfl;rw[ho] at q3;cases q3;exact h3 q4
   exact⟨q1,by omega,⟨o,q3,q4⟩,q5⟩

theorem DSt.advance(R:Run Γ b l fr hp e fr' hp' m frs hps vals):∀(n:Nat) {h:Nat} {μ pb:Nat->Option Nat},DSt b w0 X μ0 hp l fr m hps vals L μ pb h t w->h+n<=m->(∀k o,h<=k->k<h+n->l[k]? =some o->o.cls≠2/\(o.cls=3->L.getD k false=true))->
  ∃μ' pb',DSt b w0 X μ0 hp l fr m hps vals L μ' pb' (h+n) t w
 |0,_,_,_,D,_,_=>⟨_,_,D⟩
 |n+1,h,_,_,D,hm,hc=>by
  obtain⟨μ1,pb1,D1⟩:=D.step R (by omega) (fun o ho=>hc h o (Nat.le_refl _) (by omega) ho)
  obtain⟨μ2,pb2,D2⟩:=DSt.advance R n D1 (by omega) (fun k o h1 h2 h3=>hc k o (by omega) (by omega) h3)
  rw[show h+1+n=h+(n+1) by omega] at D2
  exact⟨μ2,pb2,D2⟩

theorem zaq{L:Array Bool}{i j:Nat}(hi:i<L.size):(L.setIfInBounds i true).getD j false=if j=i then true else L.getD j false:=by
 rw[Array.getD_eq_getD_getElem?,Array.getD_eq_getD_getElem?]
 by_cases e:j=i
 ·subst e;rw[if_pos rfl,Array.getElem?_setIfInBounds_self_of_lt hi];rfl
 ·rw[if_neg e,Array.getElem?_setIfInBounds_ne (Ne.symm e)]
theorem zle{a:Act}{dst:Option Nat}{v:Value}{s:Nat}(h:dst≠some s):(a.put dst v).tmps.getD s undef=a.tmps.getD s undef:=by
 cases hd:dst with
 |none=>rfl
 |some d=>
  have:d≠s:=fun e=>h (by rw[hd,e])
  simp only[Act.put,Array.getD_eq_getD_getElem?,Array.getElem?_setIfInBounds_ne this]
theorem zqJ{a:Act}{s:Nat}{v:Value}(h:s<a.tmps.size):(a.put (some s) v).tmps.getD s undef=v:=by
 simp[Act.put,Array.getD,h]

theorem DSt.next(hD:zef 0 l=true){a:Act}(D:DSt b w0 X μ0 hp l fr m hps vals L μ pb h a.tmps w){i:Nat}{ao:AOper}(hi:i<L.size)(hLi:L.getD i false=false)(hao:l[i]? =some ao)(hnt:∀d,ao.dst=some d->d<a.tmps.size)(hc3:ao.cls≠3)
  {h':Nat}{μ':Nat->Option Nat}{w':World}{v':Value}(hh:(h'=h/\ao.cls≠2)\/(h'=h+1/\i=h/\ao.cls=2))(hh':h'<=m)(hv:AR w' (Xp X pb) μ' (hps h') (vals i) v')(hH:HR w' (Xp X pb) μ' (hps h'))(E:Ext b (Xp X pb) μ (hps h) w μ' (hps h') w'):
  DSt b w0 X μ0 hp l fr m hps vals (L.setIfInBounds i true) μ' pb h' (a.put ao.dst v').tmps w' where
 hm:=hh'
 c2:=fun k o hk hk2=>by
  rw[zaq hi]
  by_cases e:k=i
  ·subst e
   rw[hao] at hk
   cases hk
   rcases hh with⟨_,h2⟩|⟨h1,h2,_⟩
   ·exact absurd hk2 h2
   ·simp;omega
  ·rw[if_neg e,D.c2 k o hk hk2]
   rcases hh with⟨h1,_⟩|⟨h1,h2,_⟩ <;> omega
 c3:=fun k o hk hk3 hkh=>by
  rw[zaq hi]
  by_cases e:k=i
  ·rw[if_pos e]
  ·rw[if_neg e]
   exact D.c3 k o hk hk3 (by rcases hh with⟨h1,_⟩|⟨h1,h2,_⟩ <;> omega)
 hr:=hH
 le:=Nat.le_trans D.le E.len
 ext:=D.ext.trans E.cast
 slot:=fun s u hs=>by
  have old:ao.dst≠some s->LS l vals fr L h s u->s<(a.put ao.dst v').tmps.size/\AR w' (Xp X pb) μ' (hps h') u ((a.put ao.dst v').tmps.getD s undef):=by
   intro hne hls
   obtain⟨h1,h2⟩:=D.slot s u hls
   exact⟨by rw[zbg];exact h1,by rw[zle hne];exact E.ar h2⟩
  rcases hs with⟨j,oj,hj,hoj,hdj,rfl,j5⟩|⟨hall,hlook⟩
  ·rw[zaq hi] at hj
   split at hj
   ·rename_i e
    subst e
    rw[hao] at hoj
    cases hoj
    have hlt:=hnt s hdj
    rw[hdj]
    exact⟨by rw[zbg];exact hlt,by rw[zqJ hlt];exact hv⟩
   ·rename_i hne
    refine old (fun hd=> ?_) (.inl ⟨j,oj,hj,hoj,hdj,rfl,fun c=> ?_⟩)
    ·exact hne (zen l 0 hD j i oj ao s hoj hao hdj hd)
    ·have:=j5 c
     rcases hh with⟨h1,_⟩|⟨h1,h2,_⟩ <;> omega
  ·refine old (fun hd=> ?_) (.inr ⟨fun j oj hoj hdj=> ?_,hlook⟩)
   ·have:=hall i ao hao hd
    rw[zaq hi] at this
    simp at this
   ·have:=hall j oj hoj hdj
    rw[zaq hi] at this
    split at this
    ·cases this
    ·exact this
 pend:=fun k o hk hk3 hkh hL=>by
  have hne:k≠i:=by rintro rfl;rw[hao] at hk;cases hk;exact hc3 hk3
  rw[zaq hi,if_neg hne] at hL
  have hhk:h<=k:=by rcases hh with⟨h1,_⟩|⟨h1,h2,_⟩ <;> omega
  obtain⟨d,p1,p2,p3⟩:=D.pend k o hk hk3 hhk hL
  refine⟨d,p1,by rw[zbg];exact p2,?_⟩
  rw[zle fun hd=>hne (zen l 0 hD k i o ao d hk hao p1 hd)]
  exact p3.mono fun bk e=>E.blk bk (D.hr.xlt bk (.inr ⟨k,e⟩)) fun j hj e'=>(D.hr.out j bk (zbv hj) e').1 (.inr ⟨k,e⟩)
 own:=fun k bk hk=>by
  obtain⟨q1,q2,⟨o,q3,q4⟩,q5⟩:=D.own k bk hk
  have hne:k≠i:=by rintro rfl;rw[hao] at q3;cases q3;exact hc3 q4
  refine⟨by rw[zaq hi,if_neg hne];exact q1,?_,⟨o,q3,q4⟩,q5⟩
  rcases hh with⟨h1,_⟩|⟨h1,h2,_⟩ <;> omega
 inj:=D.inj

theorem DSt.make(hD:zef 0 l=true){a:Act}(D:DSt b w0 X μ0 hp l fr m hps vals L μ pb h a.tmps w){i:Nat}{ao:AOper}(hi:i<L.size)(hLi:L.getD i false=false)(hao:l[i]? =some ao)(hnt:∀d,ao.dst=some d->d<a.tmps.size)(hc3:ao.cls=3)
  {w':World}{v':Value}{pv:Option Nat}(hP:PendOk P w' ao.op pv v')(hw:(pv=none/\w'=w)\/∃ob,w'=w.alloc ob/\pv=some w.heap.size):
  DSt b w0 X μ0 hp l fr m hps vals (L.setIfInBounds i true) μ (upd pb i pv) h (a.put ao.dst v').tmps w':=by
 have hhi:h<=i:=by
  rcases Nat.lt_or_ge i h with hlt|hge
  ·have:=D.c3 i ao hao hc3 hlt
   rw[hLi] at this
   cases this
  ·exact hge
 have hpi:pb i=none:=by
  cases hx:pb i with
  |none=>rfl
  |some bk=>
   have:=(D.own i bk hx).1
   rw[hLi] at this
   cases this
 obtain⟨d0,hd0⟩:=(zbA hc3).2.2.1
 have T:HR w' (Xp X (upd pb i pv)) μ (hps h)/\Tran w (Xp X pb) μ (hps h) w' (Xp X (upd pb i pv)) μ (hps h)/\Ext b X μ0 hp w0 μ (hps h) w'/\(∀bk,bk<w.heap.size->w'.heap[bk]? =w.heap[bk]?):=by
  rcases hw with⟨rfl,rfl⟩|⟨ob,rfl,rfl⟩
  ·rw[zld hpi]
   exact⟨D.hr,(Ext.refl 0 X _ _ _).tran,D.ext,fun _ _=>rfl⟩
  ·exact⟨D.hr.hold ob hpi,ziM ob hpi,D.ext.trans (Ext.alloc b ob),fun bk hbk=>zaJ w ob hbk⟩
 obtain⟨T1,T2,T3,T4⟩:=T
 refine⟨D.hm,?_,?_,T1,D.le,T3,?_,?_,?_,?_⟩
 ·intro k o hk hk2
  have hne:k≠i:=by rintro rfl;rw[hao] at hk;cases hk;omega
  rw[zaq hi,if_neg hne]
  exact D.c2 k o hk hk2
 ·intro k o hk hk3 hkh
  rw[zaq hi,if_neg (by omega)]
  exact D.c3 k o hk hk3 hkh
 ·intro s u hs
  have old:ao.dst≠some s->LS l vals fr L h s u->s<(a.put ao.dst v').tmps.size/\AR w' (Xp X (upd pb i pv)) μ (hps h) u ((a.put ao.dst v').tmps.getD s undef):=by
   intro hne hls
   obtain⟨h1,h2⟩:=D.slot s u hls
   exact⟨by rw[zbg];exact h1,by rw[zle hne];exact T2.ar h2⟩
  rcases hs with⟨j,oj,hj,hoj,hdj,rfl,j5⟩|⟨hall,hlook⟩
  ·rw[zaq hi] at hj
   split at hj
   ·rename_i e
    subst e
    rw[hao] at hoj
    cases hoj
    have:=j5 hc3
    omega
   ·rename_i hne
    exact old (fun hd=>hne (zen l 0 hD j i oj ao s hoj hao hdj hd)) (.inl ⟨j,oj,hj,hoj,hdj,rfl,j5⟩)
  ·refine old (fun hd=> ?_) (.inr ⟨fun j oj hoj hdj=> ?_,hlook⟩)
   ·have:=hall i ao hao hd
    rw[zaq hi] at this
    simp at this
   ·have:=hall j oj hoj hdj
    rw[zaq hi] at this
    split at this
    ·cases this
    ·exact this
 ·intro k o hk hk3 hkh hL
  by_cases e:k=i
  ·subst e
   rw[hao] at hk
   cases hk
   refine⟨d0,hd0,by rw[zbg];exact hnt d0 hd0,?_⟩
   rw[hd0,zqJ (hnt d0 hd0),zaf]
   exact hP
  ·rw[zaq hi,if_neg e] at hL
   obtain⟨d,p1,p2,p3⟩:=D.pend k o hk hk3 hkh hL
   refine⟨d,p1,by rw[zbg];exact p2,?_⟩
   rw[zle fun hd=>e (zen l 0 hD k i o ao d hk hao p1 hd),zav e]
   exact p3.mono fun bk e=>T4 bk (D.hr.xlt bk (.inr ⟨k,e⟩))
 ·intro k bk hk
  by_cases e:k=i
  ·subst e
   rw[zaf] at hk
   rcases hw with⟨rfl,rfl⟩|⟨ob,rfl,rfl⟩
   ·cases hk
   ·cases hk
    refine⟨by rw[zaq hi,if_pos rfl],hhi,⟨ao,hao,hc3⟩,D.ext.size,fun hx=> ?_⟩
    have:=D.hr.xlt _ (.inl hx)
    omega
  ·rw[zav e] at hk
   obtain⟨q1,q2,q3,q4⟩:=D.own k bk hk
   exact⟨by rw[zaq hi,if_neg e];exact q1,q2,q3,q4⟩
 ·have lt:∀k bk,pb k=some bk->bk<w.heap.size:=fun k bk hk=>D.hr.xlt bk (.inr ⟨k,hk⟩)
  have pvw:∀bk,pv=some bk->bk=w.heap.size:=by
   intro bk hk
   rcases hw with⟨rfl,_⟩|⟨ob,_,rfl⟩
   ·cases hk
   ·cases hk;rfl
  intro k k' bk h1 h2
  by_cases e:k=i
  ·subst e
   by_cases e':k'=k
   ·exact e'.symm
   ·rw[zaf] at h1
    rw[zav e'] at h2
    have:=lt _ _ h2
    have:=pvw _ h1
    omega
  ·rw[zav e] at h1
   by_cases e':k'=i
   ·subst e'
    rw[zaf] at h2
    have:=lt _ _ h1
    have:=pvw _ h2
    omega
   ·rw[zav e'] at h2
    exact D.inj k k' bk h1 h2
end
end Go.Am

/- Regions whose order is drawn: any order comes to what the text's order comes to. -/
namespace Go.Am
variable{P:Program} {w:World} {X:Xc P} {μ:Nat->Option Nat} {hp:Heap}

def Tie(P:Program)(nt:Nat)(ops:Array Oper)(l:List AOper):Prop:=
 l.length=ops.size/\∀(i:Nat) (o:Oper),ops[i]? =some o->∃ao0 ao:AOper,zee P nt ops o=some ao0/\l[i]? =some ao/\ao.dst=ao0.dst/\ao.guard=ao0.guard/\ao.base.args=ao0.args/\ao.base.op.alike ao0.op

structure DInv(nt b:Nat)(w0:World)(X:Xc P)(μ0:Nat->Option Nat)(hp:Heap)(ds:List Deferred)(ops:Array Oper)(l:List AOper)(fr:Fr)(m:Nat)(hps:Nat->Heap)(vals:Nat->AV)(L:Array Bool)(a:Act)(w:World):Prop where
 size:L.size=ops.size
 shut:Shut ops L
 lt:∀i,L.getD i false=true->i<m
 ds:a.defers=ds
 tsz:a.tmps.size=nt
 st:∃μ pb h,DSt b w0 X μ0 hp l fr m hps vals L μ pb h a.tmps w/\∀i ao,l[i]? =some ao->ao.isCallh=true->L.getD i false=false->∀k x,i<k->k<h->l[k]? =some x->x.cls≠2/\x.cls≠3

section
variable{Γ:Oracle} {nt b:Nat} {w0:World} {μ0:Nat->Option Nat} {ds:List Deferred} {ops:Array Oper} {l:List AOper} {fr fr':Fr} {hp':Heap} {e:AExit} {m:Nat} {frs:Nat->Fr} {hps:Nat->Heap} {vals:Nat->AV} {L:Array Bool} {a:Act}
variable{Q:Exit->Act->World->Prop} {ro:Option Nat}

theorem zkg{a b:AOper}(hc:a.cls=3)(h:a.op.alike b.op):b.op=a.op:=by
 rcases(zbA hc).2.2.2 with⟨sh,z,e⟩|⟨sh,e⟩|⟨sh,e⟩ <;> rw[e] at h ⊢ <;>
  (rcases h with h|⟨_,_,h|h⟩|⟨_,h|h⟩|⟨_,_,h⟩|⟨_,_,h⟩ <;> first|exact h.symm|cases h)

theorem zeS(hΓ:SoundO P Γ){i:Nat}(hT:∀o,ops[i]? =some o->∃ao0 ao:AOper,zee P nt ops o=some ao0/\l[i]? =some ao/\ao.dst=ao0.dst/\ao.guard=ao0.guard/\ao.base.args=ao0.args/\ao.base.op.alike ao0.op)(dE:zbX 0 ops.toList=true)(dN:zef 0 l=true)(dU:zhl l=true)(dL:ze7 l=true)(hpan:(∃p,e=.panic p)->zcQ ops l=true)(R:Run Γ b l fr hp e fr' hp' m frs hps vals)(D:DInv nt b w0 X μ0 hp ds ops l fr m hps vals L a w)
  (hQ:(∃p,e=.panic p)->∀e' a' w',Lands nt b w0 X μ0 hp ds e fr' hp' e' a' w'->Q e' a' w')(hi:i∈Region.ready .any ops L)
  (dA:∀j x y,j<i->l[j]? =some x->l[i]? =some y->L.getD j false=false->j∈(clos [] ops.toList).getD i []\/x.indep y (zfO l j i)=true)
  (dB:∀j x y,i<j->l[j]? =some x->l[i]? =some y->L.getD j false=true->i∈(clos [] ops.toList).getD j []\/y.indep x (zfO l i j)=true):
  wpOpIn (Fe ro) 0 P ops Q i (fun a' w'=>DInv nt b w0 X μ0 hp ds ops l fr m hps vals (L.setIfInBounds i true) a' w') a w:=by
 obtain⟨r1,r2,r3⟩:=zcE dE D.shut hi
 have hsz:i<L.size:=by rw[D.size];exact r1
 have hLi:L.getD i false=false:=by
  rw[Array.getD_eq_getD_getElem?] at r2 ⊢
  simp[hsz] at r2 ⊢
  exact r2
 obtain⟨o,ho⟩:∃o,ops[i]? =some o:=⟨_,Array.getElem?_eq_getElem r1⟩
 obtain⟨ao0,ao,t1,t2,q1,q2,q3,q4⟩:=hT o ho
 obtain⟨d1,d2,d3⟩:=zdE t1
 have hA:∀j x,j<i->l[j]? =some x->L.getD j false=false->x.indep ao (zfO l j i)=true:=by
  intro j x hj hx hLj
  rcases dA j x ao hj hx t2 hLj with h|h
  ·rw[r3 j h] at hLj;cases hLj
  ·exact h
 have hB:∀j x,i<j->l[j]? =some x->L.getD j false=true->ao.indep x (zfO l i j)=true:=by
  intro j x hj hx hLj
  rcases dB j x ao hj hx t2 hLj with h|h
  ·have:=D.shut j hLj i h
   rw[hLi] at this;cases this
  ·exact h
 obtain⟨μ1,pb,h,D1,hcb⟩:=D.st
 have him:i<=m:=by
  rcases Nat.lt_or_ge m i with hlt|hge
  ·exfalso
   rcases R.fin with⟨f1,_⟩|⟨om,p,f1,f2,f3,f4⟩
   ·have:=(List.getElem?_eq_some_iff.1 t2).1;omega
   ·rcases zk8 (hpan ⟨p,f3⟩) i m om ao hlt f1 t2 with h|h
    ·have:=D.lt m (r3 m h);omega
    ·rw[zeO f2] at h;cases h.1
  ·exact hge
 have hdt:∀d,ao.dst=some d->d<a.tmps.size:=fun d hd=>by rw[D.tsz];exact d2 d (by rw[<-d1,<-q1];exact hd)
 have hod:o.dst=ao.dst:=by rw[q1,d1]
 have hbase:=ziQ ao

 have hLS:∀h,(ao.cls=0\/i<=h)->∀s u,s∈ao.uses->(frs i).look s=some u->LS l vals fr L h s u:=by
  intro h hwh s u hs hlook
  rcases R.look i him hlook with⟨j,oj,hj,hoj,hdj,rfl⟩|⟨hnone,hfr⟩
  ·refine .inl ⟨j,oj,?_,hoj,hdj,rfl,fun c=> ?_⟩
   ·cases hLj:L.getD j false with
    |true=>rfl
    |false=>exact absurd hs (zf5 (hA j oj hj hoj hLj) hdj)
   ·rcases hwh with c0|hle
    ·exact absurd hs (zpw dU t2 hoj c0 c hdj)
    ·omega
  ·refine .inr ⟨fun j oj hoj hdj=> ?_,hfr⟩
   cases hLj:L.getD j false with
   |false=>rfl
   |true=>
    exfalso
    rcases Nat.lt_trichotomy j i with h|h|h
    ·exact hnone j oj h hoj hdj
    ·subst h;rw[hLi] at hLj;cases hLj
    ·exact ziR (hB j oj h hoj hLj) hdj hs
 have hone:∀{hp r},aone Γ b ao (frs i) hp=some r->aone Γ b ao.base ((frs i).keep ao.uses) hp=some r:=fun{hp r} h=>by
  rw[zlX (f:=(frs i).keep ao.uses) (g:=frs i) fun s hs=>zdg hs]
  exact zns h

 have go:∀(μ1 pb:Nat->Option Nat) (h h':Nat),DSt b w0 X μ0 hp l fr m hps vals L μ1 pb h a.tmps w->(∀s u,s∈ao.uses->(frs i).look s=some u->LS l vals fr L h s u)->i<m->ao.cls≠3->((h'=h/\ao.cls≠2)\/(h'=h+1/\i=h/\ao.cls=2))->h'<=m->
   aone Γ b ao (frs i) (hps h)=some (.val (vals i) (hps h'))->(∀j x,l[j]? =some x->x.isCallh=true->L.getD j false=false->j≠i->∀k x,j<k->k<h'->l[k]? =some x->x.cls≠2/\x.cls≠3)->
   wpOpIn (Fe ro) 0 P ops Q i (fun a' w'=>DInv nt b w0 X μ0 hp ds ops l fr m hps vals (L.setIfInBounds i true) a' w') a w:=by
  intro μ1 pb h h' D1 hwh hlt hc3 hh hh' hao hcb'
  have hF:FR w (Xp X pb) μ1 (hps h) ((frs i).keep ao.uses) a.tmps:=fun s u hs=>by
   obtain⟨k1,k2⟩:=zeo hs
   exact D1.slot s u (hwh s u k1 k2)
  have fin:∀(v':Value) (w':World) (μ':Nat->Option Nat),AR w' (Xp X pb) μ' (hps h') (vals i) v'->HR w' (Xp X pb) μ' (hps h')->Ext b (Xp X pb) μ1 (hps h) w μ' (hps h') w'->DInv nt b w0 X μ0 hp ds ops l fr m hps vals (L.setIfInBounds i true) (a.put o.dst v') w':=by
   intro v' w' μ' hv hH' E
   rw[hod]
   refine⟨by simp[D.size],zem D.size D.shut r3 r1,fun j hj=> ?_,by rw[zb7];exact D.ds,by rw[zbg];exact D.tsz,μ',pb,h',D1.next dN hsz hLi t2 hdt hc3 hh hh' hv hH' E,?_⟩
   ·rw[zaq hsz] at hj
    split at hj
    ·omega
    ·exact D.lt j hj
   ·intro j x hx hxc hLj
    rw[zaq hsz] at hLj
    split at hLj
    ·cases hLj
    ·rename_i hne
     exact hcb' j x hx hxc hLj hne
  have hao2:=hone hao
  have hwant:∀x,wants ((frs i).keep ao.uses) ao.base.guard=some x->Region.wanted o (yielded ops a.tmps)=x:=fun x hx=>zbl hF t1 (by rw[<-q2,<-hbase.2];exact hx)
  simp only[wpOpIn,ho]
  unfold aone at hao2
  split at hao2
  ·cases hao2
  ·rename_i hw
   rw[hwant _ hw]
   simp only[Bool.false_eq_true,if_false]
   simp only[Option.some.injEq,OpRes.val.injEq] at hao2
   obtain⟨hv,hhp⟩:=hao2
   exact⟨fun _ _=>trivial,fin undef w μ1 (by rw[<-hv];exact .undef _ fun b h=>by cases h) (by rw[<-hhp];exact D1.hr) (by rw[<-hhp];exact Ext.refl _ _ _ _ _)⟩
  ·rename_i hw
   rw[hwant _ hw]
   simp only[if_true]
   split at hao2
   ·cases hao2
   ·rename_i vs hvs
    exact zcD hΓ D1.le d3 q4 hF (by rw[<-q3];exact hvs) D1.hr hao2 fin

 have adv:ao.cls=2->h<=i->∃μ' pb',DSt b w0 X μ0 hp l fr m hps vals L μ' pb' i a.tmps w:=by
  intro hc hle
  have:=D1.advance R (i - h) (by omega) (fun k x k1 k2 hx=>by
   have hki:k<i:=by omega
   constructor
   ·intro hx2
    have hLk:L.getD k false=false:=by
     cases hLk:L.getD k false with
     |false=>rfl
     |true=>have:=(D1.c2 k x hx hx2).1 hLk;omega
    rcases zcd (hA k x hki hx hLk) with h|h|⟨h,_⟩|h|⟨h,_⟩|⟨_,h,_⟩ <;> omega
   ·intro hx3
    cases hLk:L.getD k false with
    |true=>rfl
    |false=>rcases zcd (hA k x hki hx hLk) with h|h|⟨h,_⟩|h|⟨h,_⟩|⟨h,_⟩ <;> omega)
  rw[show h+(i - h)=i by omega] at this
  exact this

 have far:ao.cls=1->∀(n h:Nat) (μ1 pb:Nat->Option Nat),DSt b w0 X μ0 hp l fr m hps vals L μ1 pb h a.tmps w->h+n=i->∃k0 μ' pb',h<=k0/\k0<=i/\DSt b w0 X μ0 hp l fr m hps vals L μ' pb' k0 a.tmps w/\(k0=i\/∃o,l[k0]? =some o/\o.cls=2):=by
  intro hc n
  induction n with
  |zero=>intro h μ1 pb D1 e;exact⟨h,μ1,pb,Nat.le_refl _,by omega,D1,.inl (by omega)⟩
  |succ n ih=>
   intro h μ1 pb D1 e
   have hlt:h<l.length:=Nat.lt_of_lt_of_le (by omega:h<i+1) (Nat.succ_le_of_lt (List.getElem?_eq_some_iff.1 t2).1)
   have hx:l[h]? =some l[h]:=List.getElem?_eq_getElem hlt
   by_cases h2:l[h].cls=2
   ·exact⟨h,μ1,pb,Nat.le_refl _,by omega,D1,.inr ⟨_,hx,h2⟩⟩
   ·obtain⟨μ2,pb2,D2⟩:=D1.step R (by omega) (fun o ho=>by
     rw[hx] at ho
     cases ho
     refine⟨h2,fun h3=> ?_⟩
     cases hLk:L.getD h false with
     |true=>rfl
     |false=>rcases zcd (hA h _ (by omega) hx hLk) with h'|h'|⟨h',_⟩|h'|⟨h',_⟩|⟨h',_⟩ <;> omega)
    obtain⟨k0,μ',pb',z1,z2,z3⟩:=ih (h+1) μ2 pb2 D2 (by omega)
    exact⟨k0,μ',pb',by omega,z2,z3⟩
 have cb2:ao.cls=2->∀j x,l[j]? =some x->x.isCallh=true->L.getD j false=false->j≠i->∀k y,j<k->k<i+1->l[k]? =some y->y.cls≠2/\y.cls≠3:=by
  intro hc j x hx hxc hLj hne k y hjk hki hy
  exfalso
  have hxj:x.cls=1:=by unfold AOper.cls;rw[zlb hxc]
  rcases zcd (hA j x (by omega) hx hLj) with h|h|⟨_,h,_⟩|h|⟨_,h,_⟩|⟨h,_⟩
  ·omega
  ·omega
  ·omega
  ·omega
  ·rw[hxc] at h;cases h
  ·omega
 have hold:∀j x,l[j]? =some x->x.isCallh=true->L.getD j false=false->j≠i->∀k x,j<k->k<h->l[k]? =some x->x.cls≠2/\x.cls≠3:=fun j x hx hxc hLj _=>hcb j x hx hxc hLj
 rcases Nat.lt_or_ge i m with hlt|hge
 ·obtain⟨s1,_⟩:=R.step i ao hlt t2
  rcases zf2 ao with c|c|c|c
  ·exact go μ1 pb h h D1 (hLS h (.inl c)) hlt (by omega) (.inl ⟨rfl,by omega⟩) D1.hm (((zbc s1).1 c).2 _) hold
  ·rcases Nat.lt_or_ge i h with hih|hih
   ·have hB2:∀k x,i<k->k<h->l[k]? =some x->x.cls=2->ao.isCallh=false/\ao.spared x=true:=by
     intro k x hk hkh hx hx2
     rcases zcd (hB k x hk hx ((D1.c2 k x hx hx2).2 hkh)) with h|h|⟨_,h,_⟩|h|⟨_,h1,_,h2⟩|⟨h,_⟩
     ·omega
     ·omega
     ·omega
     ·omega
     ·exact⟨h1,h2⟩
     ·omega
    have hres:aone Γ b ao (frs i) (hps h)=some (.val (vals i) (hps h)):=by
     cases hcl:ao.isCallh with
     |false=>exact znB R dL t2 c hcl hih D1.hm fun k x k1 k2 k3 k4=>(hB2 k x k1 k2 k3 k4).2
     |true=>
      have:=R.heap (i:=i) (h - i) (by have:=D1.hm;omega) (fun k x k1 k2 hx=>by
       rcases Nat.eq_or_lt_of_le k1 with e|k1
       ·subst e;rw[t2] at hx;cases hx;omega
       ·exact hcb i ao t2 hcl hLi k x k1 (by omega) hx)
      rw[show i+(h - i)=h by omega] at this
      rw[this,s1,(zbc s1).2 c]
    exact go μ1 pb h h D1 (hLS h (.inr (Nat.le_of_lt hih))) hlt (by omega) (.inl ⟨rfl,by omega⟩) D1.hm hres hold
   ·obtain⟨k0,μ2,pb2,z1,z2,D2,z3⟩:=far c (i - h) h μ1 pb D1 (by omega)
    have hcg:∀k x,k0<=k->k<i->l[k]? =some x->x.cls=2->x.isCallg=true/\ao.isLd=true:=by
     intro k x k1 k2 hx hx2
     have hLk:L.getD k false=false:=by
      cases hLk:L.getD k false with
      |false=>rfl
      |true=>have:=(D2.c2 k x hx hx2).1 hLk;omega
     rcases zcd (hA k x k2 hx hLk) with h'|h'|⟨h',_⟩|h'|⟨h',_⟩|⟨_,_,h3,h4⟩
     ·omega
     ·omega
     ·omega
     ·omega
     ·omega
     ·exact⟨h3,h4⟩
    have hg0:k0<i->∃g,l[k0]? =some g/\g.isCallg=true/\ao.isLd=true:=by
     intro hk
     rcases z3 with e|⟨g,g1,g2⟩
     ·omega
     ·exact⟨g,g1,hcg k0 g (Nat.le_refl _) hk g1 g2⟩
    have hLS2:∀s u,s∈ao.uses->(frs i).look s=some u->LS l vals fr L k0 s u:=by
     intro s u hs hl
     rcases hLS i (.inr (Nat.le_refl _)) s u hs hl with⟨j,oj,a1,a2,a3,a4,a5⟩|h'
     ·refine .inl ⟨j,oj,a1,a2,a3,a4,fun c3=> ?_⟩
      rcases Nat.eq_or_lt_of_le z2 with e|hk
      ·rw[e];exact a5 c3
      ·obtain⟨g,g1,g2,g3⟩:=hg0 hk
       exact absurd hs (zlW dU g1 g2 t2 g3 a2 c3 a3)
     ·exact .inr h'
    have hres:aone Γ b ao (frs i) (hps k0)=some (.val (vals i) (hps k0)):=by
     have hs1:aone Γ b ao (frs i) (hps i)=some (.val (vals i) (hps i)):=by rw[s1,(zbc s1).2 c]
     rcases Nat.eq_or_lt_of_le z2 with e|hk
     ·rw[e];exact hs1
     ·obtain⟨g,g1,g2,g3⟩:=hg0 hk
      have hgrow:=R.grow (i:=k0) (i - k0) (by omega) (fun k x a1 a2 a3 a4=>(hcg k x a1 (by omega) a3 a4).1)
      rw[show k0+(i - k0)=i by omega] at hgrow
      exact znA g3 hgrow (fun q u hq hl=>⟨_,(D2.slot q u (hLS2 q u hq hl)).2⟩) hs1
    have cbk:∀j x,l[j]? =some x->x.isCallh=true->L.getD j false=false->j≠i->∀k y,j<k->k<k0->l[k]? =some y->y.cls≠2/\y.cls≠3:=by
     intro j x hx hxc hLj hne k y hjk hk0 hy
     have hxj:x.cls=1:=by unfold AOper.cls;rw[zlb hxc]
     have hm0:zfO l j i=false:=by
      rcases zcd (hA j x (by omega) hx hLj) with h'|h'|⟨_,_,h'⟩|h'|⟨_,h',_⟩|⟨h',_⟩
      ·omega
      ·omega
      ·exact h' hxc
      ·omega
      ·rw[hxc] at h';cases h'
      ·omega
     refine⟨fun hy2=> ?_,zpv hm0 k y hjk (by omega) hy⟩
     have hLk:=(D2.c2 k y hy hy2).2 hk0
     exact(hcb j x hx hxc hLj k y hjk ((D1.c2 k y hy hy2).1 hLk) hy).1 hy2
    exact go μ2 pb2 k0 k0 D2 hLS2 hlt (by omega) (.inl ⟨rfl,by omega⟩) D2.hm hres cbk
  ·have hih:h<=i:=by
    rcases Nat.lt_or_ge i h with h'|h'
    ·rw[(D1.c2 i ao t2 c).2 h'] at hLi;cases hLi
    ·exact h'
   obtain⟨μ2,pb2,D2⟩:=adv c hih
   exact go μ2 pb2 i (i+1) D2 (hLS i (.inr (Nat.le_refl _))) hlt (by omega) (.inr ⟨rfl,rfl,c⟩) (by omega) s1 (cb2 c)
  ·have hb0:ao.base=ao:=zfE (by omega)
   have hg:ao0.guard=none:=by rw[<-q2];exact(zbA c).2.1
   have hop:ao0.op=ao.op:=zkg c (by rw[hb0] at q4;exact q4)
   have hargs:ao0.args=ao.args:=by rw[<-q3,hb0]
   have hwant:Region.wanted o (yielded ops a.tmps)=true:=zbl (w:=w) (X:=X) (μ:=μ1) (hp:=hp) (fr:=[]) (fun s u hs=>by simp[Fr.look] at hs) t1 (by rw[hg];rfl)
   simp only[wpOpIn,ho,hwant,if_true]
   have ht':trOp P o=some (ao.op,ao.args):=by rw[d3,hop,hargs]
   obtain⟨v,w',pv,k1,k2,k3⟩:=znG (a:=a) ht' c w
   have hnd:∀cc,o.op≠.defer cc:=by
    intro cc ec
    simp only[trOp,ec] at ht'
    cases ht'
   refine⟨fun _ _=>trivial,?_⟩
   rw[Oper.semAt_eq _ _ _ hnd,k1]
   show DInv nt b w0 X μ0 hp ds ops l fr m hps vals (L.setIfInBounds i true) (a.put o.dst v) w'
   rw[hod]
   refine⟨by simp[D.size],zem D.size D.shut r3 r1,fun j hj=> ?_,by rw[zb7];exact D.ds,by rw[zbg];exact D.tsz,μ1,_,h,D1.make dN hsz hLi t2 hdt c k2 k3,?_⟩
   ·rw[zaq hsz] at hj
    split at hj
    ·omega
    ·exact D.lt j hj
   ·intro j x hx hxc hLj
    rw[zaq hsz] at hLj
    split at hLj
    ·cases hLj
    ·exact hcb j x hx hxc hLj
 ·have hie:i=m:=by omega
  subst hie
  rcases R.fin with⟨f1,_⟩|⟨om,p,f1,f2,f3,f4⟩
  ·have:=(List.getElem?_eq_some_iff.1 t2).1;omega
  ·rw[t2] at f1
   cases f1
   have c:=znr (zeO f2)
   have hih:h<=i:=D1.hm
   obtain⟨μ2,pb2,D2⟩:=adv c hih
   have hX:Xp X pb2=X:=zde fun k=>by
    cases hk:pb2 k with
    |none=>rfl
    |some bk=>
     obtain⟨z1,z2,_⟩:=D2.own k bk hk
     have:=D.lt k z1
     omega
   have hH:=D2.hr
   have hslot:=D2.slot
   rw[hX] at hH hslot
   have hF:FR w X μ2 (hps i) ((frs i).keep ao.uses) a.tmps:=fun s u hs=>by
    obtain⟨k1,k2⟩:=zeo hs
    exact hslot s u (hLS i (.inr (Nat.le_refl _)) s u k1 k2)
   have hao2:=hone f2
   have hwant:∀x,wants ((frs i).keep ao.uses) ao.base.guard=some x->Region.wanted o (yielded ops a.tmps)=x:=fun x hx=>zbl hF t1 (by rw[<-q2,<-hbase.2];exact hx)
   simp only[wpOpIn,ho]
   unfold aone at hao2
   split at hao2
   ·cases hao2
   ·cases hao2
   ·rename_i hw
    rw[hwant _ hw]
    simp only[if_true]
    split at hao2
    ·cases hao2
    ·rename_i vs hvs
     refine zcD hΓ D2.le d3 q4 hF (by rw[<-q3];exact hvs) hH hao2 ?_
     intro v' w' μ' hv hH' E
     refine hQ ⟨p,f3⟩ _ _ _ ⟨D.ds,D.tsz,μ',hH',fun s u hs=> ?_,D2.ext.trans E,?_⟩
     ·have hls:LS l vals fr L i s u:=by
       rw[f4] at hs
       rcases R.look i (Nat.le_refl _) hs with⟨j,oj,hj,hoj,hdj,rfl⟩|⟨hnone,hfr0⟩
       ·refine .inl ⟨j,oj,?_,hoj,hdj,rfl,fun _=>hj⟩
        rcases zk8 (hpan ⟨p,f3⟩) i j oj ao hj hoj t2 with h|h
        ·exact r3 j h
        ·rw[zeO f2] at h;cases h.2
       ·refine .inr ⟨fun j oj hoj hdj=> ?_,hfr0⟩
        cases hLj:L.getD j false with
        |false=>rfl
        |true=>exact absurd hdj (hnone j oj (D.lt j hLj) hoj)
      obtain⟨k1,k2⟩:=hslot s u hls
      exact⟨k1,E.ar k2⟩
     ·rw[f3]
      exact⟨v',rfl,hv⟩

theorem znH(hΓ:SoundO P Γ)(hT:Tie P nt ops l)(hdraw:za5 ops l=true)(hpan:(∃p,e=.panic p)->zcQ ops l=true)(R:Run Γ b l fr hp e fr' hp' m frs hps vals)(D:DInv nt b w0 X μ0 hp ds ops l fr m hps vals L a w)
  (hQ:∀e' a' w',Lands nt b w0 X μ0 hp ds e fr' hp' e' a' w'->Q e' a' w'){i:Nat}(hi:i∈Region.ready .any ops L):
  wpOpIn (Fe ro) 0 P ops Q i (fun a' w'=>DInv nt b w0 X μ0 hp ds ops l fr m hps vals (L.setIfInBounds i true) a' w') a w:=by
 obtain⟨dE,dN,dU,dL,dP⟩:=zcF hdraw
 exact zeS hΓ (hT.2 i) dE dN dU dL hpan R D (fun _=>hQ) hi (fun j x y h1 h2 h3 _=>dP i j x y h1 h2 h3) fun j x y h1 h2 h3 _=>dP j i y x h1 h3 h2

theorem zpx(hΓ:SoundO P Γ)(hT:Tie P nt ops l)(hdraw:za5 ops l=true)(hpan:(∃p,e=.panic p)->zcQ ops l=true)(R:Run Γ b l fr hp e fr' hp' m frs hps vals)
  (hQ:∀e' a' w',Lands nt b w0 X μ0 hp ds e fr' hp' e' a' w'->Q e' a' w'):∀(n:Nat) (L:Array Bool) (a:Act) (w:World),DInv nt b w0 X μ0 hp ds ops l fr m hps vals L a w->(List.range ops.size).countP (fun i=> !L.getD i false)<=n->wpAnyIn (Fe ro) 0 P .any ops Q n L a w:=by
 have hend:∀(L:Array Bool) (a:Act) (w:World),DInv nt b w0 X μ0 hp ds ops l fr m hps vals L a w->Region.ready .any ops L=[]->Q .normal a w:=by
  intro L a w D hr
  obtain⟨dE,dN,dU,dL,dP⟩:=zcF hdraw
  have hall:=zdG dE D.size hr
  have hml:m=l.length:=by
   rcases Nat.lt_or_ge m l.length with h|h
   ·have:=D.lt m (hall m (by rw[<-hT.1];exact h));omega
   ·exact Nat.le_antisymm R.le h
  obtain⟨μ1,pb,h,D1,_⟩:=D.st
  have hm:=D1.hm
  have hlen:∀{k x},l[k]? =some x->k<ops.size:=fun hx=>by rw[<-hT.1];exact(List.getElem?_eq_some_iff.1 hx).1
  obtain⟨μ2,pb2,D2⟩:=D1.advance R (m - h) (by omega) (fun k x k1 k2 hx=>⟨fun hx2=>by
   have:=(D1.c2 k x hx hx2).1 (hall k (hlen hx))
   omega,fun _=>hall k (hlen hx)⟩)
  rw[show h+(m - h)=m by omega] at D2
  have hX:Xp X pb2=X:=zde fun k=>by
   cases hk:pb2 k with
   |none=>rfl
   |some bk=>
    obtain⟨z1,z2,_⟩:=D2.own k bk hk
    have:=D.lt k z1
    omega
  have hH:=D2.hr
  have hslot:=D2.slot
  rw[hX] at hH hslot
  rcases R.fin with⟨f1,f2,f3,f4⟩|⟨om,p,f1,_⟩
  ·refine hQ _ _ _ ⟨D.ds,D.tsz,μ2,?_,fun s u hs=> ?_,?_,?_⟩
   ·rw[f4];exact hH
   ·rw[f3] at hs
    rw[f4]
    refine hslot s u ?_
    rcases R.look m (Nat.le_refl _) hs with⟨j,oj,hj,hoj,hdj,rfl⟩|⟨hnone,hfr0⟩
    ·exact .inl ⟨j,oj,hall j (hlen hoj),hoj,hdj,rfl,fun _=>hj⟩
    ·exact .inr ⟨fun j oj hoj hdj=>absurd hdj (hnone j oj (by rw[hml];exact(List.getElem?_eq_some_iff.1 hoj).1) hoj),hfr0⟩
   ·rw[f4];exact D2.ext
   ·rw[f2];exact trivial
  ·have:=(List.getElem?_eq_some_iff.1 f1).1;omega
 intro n
 induction n with
 |zero=>
  intro L a w D hn
  have hr:Region.ready .any ops L=[]:=by
   cases hx:Region.ready .any ops L with
   |nil=>rfl
   |cons i r=>
    exfalso
    have hi:i∈Region.ready .any ops L:=by rw[hx];simp
    obtain⟨r1,r2,r3⟩:=zcE (zcF hdraw).1 D.shut hi
    have:0<(List.range ops.size).countP (fun i=> !L.getD i false):=by
     rw[List.countP_pos_iff]
     refine⟨i,List.mem_range.2 r1,?_⟩
     rw[Array.getD_eq_getD_getElem?] at r2 ⊢
     have:i<L.size:=by rw[D.size];exact r1
     simp[this] at r2 ⊢
     exact r2
    omega
  exact⟨hr,hend L a w D hr⟩
 |succ n ih=>
  intro L a w D hn
  refine⟨hend L a w D,fun i hi=> ?_⟩
  obtain⟨r1,r2,r3⟩:=zcE (zcF hdraw).1 D.shut hi
  refine wpOpIn_mono (fun a' w' D'=>ih _ a' w' D' ?_) (znH hΓ hT hdraw hpan R D hQ hi)
  have hsz:i<L.size:=by rw[D.size];exact r1
  have:=zep (l:=List.range ops.size) (p:=fun i=> !L.getD i false) (q:=fun j=> !(L.setIfInBounds i true).getD j false) (List.mem_range.2 r1) (fun x hx=>by
   rw[zaq hsz] at hx
   split at hx
   ·cases hx
   ·exact hx) (by
   rw[Array.getD_eq_getD_getElem?] at r2 ⊢
   simp[hsz] at r2 ⊢
   exact r2) (by rw[zaq hsz];simp)
  omega

theorem zbY(hmix:P.follows .mixedOrders=true)(hΓ:SoundO P Γ)(hT:Tie P nt ops l)(hdraw:za5 ops l=true){id:Nat}(hs:aops Γ b l fr hp=some (e,fr',hp'))(hpan:(∃p,e=.panic p)->zcQ ops l=true)(hb:b<=hp.length)(hH:HR w X μ hp)(hF:FR w X μ hp fr a.tmps)(hsz:a.tmps.size=nt)
  (hQ:∀e' a' w',Lands nt b w X μ hp a.defers e fr' hp' e' a' w'->Q e' a' w'):(Code.region id ops true).wpIn (Fe ro) 0 P Q a w:=by
 obtain⟨m,frs,hps,vals,R⟩:=zk5 l fr hp hs
 refine wpIn_region_any hmix (zpx (w0:=w) (X:=X) (μ0:=μ) (ds:=a.defers) hΓ hT hdraw hpan R hQ ops.size _ a _ ?_ (Nat.le_trans (List.countP_le_length) (by simp)))
 have h0:∀i,(Array.replicate ops.size false).getD i false=false:=by
  intro i
  rw[Array.getD_eq_getD_getElem?,Array.getElem?_replicate]
  split <;> rfl
 have hX:Xp X (fun _=>none)=X:=zde fun _=>rfl
 refine⟨by simp,fun i hi=> ?_,fun i hi=> ?_,rfl,hsz,μ,fun _=>none,0,⟨Nat.zero_le _,fun k o hk hc=> ?_,fun k o hk hc h=>by omega,?_,?_,?_,fun s v hs=> ?_,fun k o hk hc h hL=> ?_,fun k bk h=>(by cases h),fun k k' bk h=>(by cases h)⟩,fun i ao hi hc hL k x h1 h2=>by omega⟩
 ·rw[h0] at hi;cases hi
 ·rw[h0] at hi;cases hi
 ·rw[h0];simp
 ·rw[R.h0,hX];exact hH.drew
 ·rw[R.h0];exact hb
 ·rw[R.h0];exact Ext.drew b
 ·rcases hs with⟨j,o,hj,_⟩|⟨_,h⟩
  ·rw[h0] at hj;cases hj
  ·rw[R.h0,hX]
   obtain⟨k1,k2⟩:=hF s v h
   exact⟨k1,(Ext.drew (X:=X) (μ:=μ) (hp:=hp) (w:=w) 0).ar k2⟩
 ·rw[h0] at hL;cases hL
end
end Go.Am
