/- What is proved: the abstract machine says true of the model (part 4). No conditions beside those that each theorem names. -/
import Derived.Test.YtkkppaoehnpboaaGreatDoorAm3
import Derived.Scope
set_option linter.unusedSimpArgs false
set_option linter.unusedVariables false
/- Regions whose order is drawn: any order comes to what the text's order comes to. -/
namespace Go.Am
variable{P:Program} {w:World} {X:Xc P} {μ:Nat->Option Nat} {hp:Heap}

def Tie(P:Program)(nt:Nat)(ops:Array Oper)(l:List AOper):Prop:=
 l.length=ops.size/\∀(i:Nat) (o:Oper),ops[i]? =some o->∃ao0 ao:AOper,X7 P nt ops o=some ao0/\l[i]? =some ao/\ao.dst=ao0.dst/\ao.guard=ao0.guard/\ao.base.args=ao0.args/\ao.base.op.alike ao0.op

structure DInv(nt b:Nat)(w0:World)(X:Xc P)(μ0:Nat->Option Nat)(hp:Heap)(ds:List Deferred)(ops:Array Oper)(l:List AOper)(fr:Fr)(m:Nat)(hps:Nat->Heap)(vals:Nat->AV)(L:Array Bool)(a:Act)(w:World):Prop where
 size:L.size=ops.size
 shut:Shut ops L
 lt:∀i,L.getD i false=true->i<m
 ds:a.defers=ds
 tsz:a.tmps.size=nt
 st:∃μ pb h,DSt b w0 X μ0 hp l fr m hps vals L μ pb h a.tmps w/\∀i ao,l[i]? =some ao->ao.isCallh=true->L.getD i false=false->∀k x,i<k->k<h->l[k]? =some x->x.cls≠2/\x.cls≠3

section
variable{Γ:Oracle} {nt b:Nat} {w0:World} {μ0:Nat->Option Nat} {ds:List Deferred} {ops:Array Oper} {l:List AOper} {fr fr':Fr} {hp':Heap} {e:AExit} {m:Nat} {frs:Nat->Fr} {hps:Nat->Heap} {vals:Nat->AV} {L:Array Bool} {a:Act}
variable{Q:Exit->Act->World->Prop} {ro:Option Nat}

theorem dw{a b:AOper}(hc:a.cls=3)(h:a.op.alike b.op):b.op=a.op:=by
 rcases(xc hc).2.2.2 with⟨sh,z,e⟩|⟨sh,e⟩|⟨sh,e⟩ <;> rw[e] at h ⊢ <;>
  (rcases h with h|⟨_,_,h|h⟩|⟨_,h|h⟩|⟨_,_,h⟩|⟨_,_,h⟩ <;> first|exact h.symm|cases h)

theorem KS(hΓ:SoundO P Γ){i:Nat}(hT:∀o,ops[i]? =some o->∃ao0 ao:AOper,X7 P nt ops o=some ao0/\l[i]? =some ao/\ao.dst=ao0.dst/\ao.guard=ao0.guard/\ao.base.args=ao0.args/\ao.base.op.alike ao0.op)(dE:y5 0 ops.toList=true)(dN:y4 0 l=true)(dU:X8 l=true)(dL:xy l=true)(hpan:(∃p,e=.panic p)->yk ops l=true)(R:Run Γ b l fr hp e fr' hp' m frs hps vals)(D:DInv nt b w0 X μ0 hp ds ops l fr m hps vals L a w)
  (hQ:(∃p,e=.panic p)->∀e' a' w',Lands nt b w0 X μ0 hp ds e fr' hp' e' a' w'->Q e' a' w')(hi:i∈Region.ready .any ops L)
  (dA:∀j x y,j<i->l[j]? =some x->l[i]? =some y->L.getD j false=false->j∈(clos [] ops.toList).getD i []\/x.indep y (Xv l j i)=true)
  (dB:∀j x y,i<j->l[j]? =some x->l[i]? =some y->L.getD j false=true->i∈(clos [] ops.toList).getD j []\/y.indep x (Xv l i j)=true):
  wpOpIn (Fe ro) 0 P ops Q i (fun a' w'=>DInv nt b w0 X μ0 hp ds ops l fr m hps vals (L.setIfInBounds i true) a' w') a w:=by
 obtain⟨r1,r2,r3⟩:=qq dE D.shut hi;have hsz:i<L.size:=by rw[D.size];exact r1
 have hLi:L.getD i false=false:=by
  rw[ZC] at r2 ⊢;simp[hsz] at r2 ⊢;exact r2
 obtain⟨o,ho⟩:∃o,ops[i]? =some o:=⟨_,ze r1⟩;obtain⟨ao0,ao,t1,t2,q1,q2,q3,q4⟩:=hT o ho;obtain⟨d1,d2,d3⟩:=QF t1;have hA:∀j x,j<i->l[j]? =some x->L.getD j false=false->x.indep ao (Xv l j i)=true:=by
  intro j x hj hx hLj;rcases dA j x ao hj hx t2 hLj with h|h
  ·rw[r3 j h] at hLj;cases hLj
  ·exact h
 have hB:∀j x,i<j->l[j]? =some x->L.getD j false=true->ao.indep x (Xv l i j)=true:=by
  intro j x hj hx hLj;rcases dB j x ao hj hx t2 hLj with h|h
  ·have:=D.shut j hLj i h;rw[hLi] at this;cases this
  ·exact h
 obtain⟨μ1,pb,h,D1,hcb⟩:=D.st;have him:i<=m:=by
  rcases Zt m i with hlt|hge
  ·exfalso;rcases R.fin with⟨f1,_⟩|⟨om,p,f1,f2,f3,f4⟩
   ·have:=(Zb.1 t2).1;omega
   ·rcases Uz (hpan ⟨p,f3⟩) i m om ao hlt f1 t2 with h|h
    ·have:=D.lt m (r3 m h);omega
    ·rw[KE f2] at h;cases h.1
  ·exact hge
 have hdt:∀d,ao.dst=some d->d<a.tmps.size:=fun d hd=>by rw[D.tsz];exact d2 d (by rw[<-d1,<-q1];exact hd)
 have hod:o.dst=ao.dst:=by rw[q1,d1]
 have hbase:=UA ao

 have hLS:∀h,(ao.cls=0\/i<=h)->∀s u,s∈ao.uses->(frs i).look s=some u->LS l vals fr L h s u:=by
  intro h hwh s u hs hlook;rcases R.look i him hlook with⟨j,oj,hj,hoj,hdj,rfl⟩|⟨hnone,hfr⟩
  ·refine .inl ⟨j,oj,?_,hoj,hdj,rfl,fun c=> ?_⟩
   ·cases hLj:L.getD j false with
    |true=>rfl
    |false=>exact absurd hs (KR (hA j oj hj hoj hLj) hdj)
   ·rcases hwh with c0|hle
    ·exact absurd hs (DZ dU t2 hoj c0 c hdj)
    ·omega
  ·refine .inr ⟨fun j oj hoj hdj=> ?_,hfr⟩;cases hLj:L.getD j false with
   |false=>rfl
   |true=>
    exfalso;rcases Nat.lt_trichotomy j i with h|h|h
    ·exact hnone j oj h hoj hdj
    ·subst h;rw[hLi] at hLj;cases hLj
    ·exact UE (hB j oj h hoj hLj) hdj hs
 have hone:∀{hp r},aone Γ b ao (frs i) hp=some r->aone Γ b ao.base ((frs i).keep ao.uses) hp=some r:=fun{hp r} h=>by
  rw[D4 (f:=(frs i).keep ao.uses) (g:=frs i) fun s hs=>qv hs];exact DT h

 have go:∀(μ1 pb:Nat->Option Nat) (h h':Nat),DSt b w0 X μ0 hp l fr m hps vals L μ1 pb h a.tmps w->(∀s u,s∈ao.uses->(frs i).look s=some u->LS l vals fr L h s u)->i<m->ao.cls≠3->((h'=h/\ao.cls≠2)\/(h'=h+1/\i=h/\ao.cls=2))->h'<=m->
   aone Γ b ao (frs i) (hps h)=some (.val (vals i) (hps h'))->(∀j x,l[j]? =some x->x.isCallh=true->L.getD j false=false->j≠i->∀k x,j<k->k<h'->l[k]? =some x->x.cls≠2/\x.cls≠3)->
   wpOpIn (Fe ro) 0 P ops Q i (fun a' w'=>DInv nt b w0 X μ0 hp ds ops l fr m hps vals (L.setIfInBounds i true) a' w') a w:=by
  intro μ1 pb h h' D1 hwh hlt hc3 hh hh' hao hcb';have hF:FR w (Xp X pb) μ1 (hps h) ((frs i).keep ao.uses) a.tmps:=fun s u hs=>by
   obtain⟨k1,k2⟩:=qw hs;exact D1.slot s u (hwh s u k1 k2)
  have fin:∀(v':Value) (w':World) (μ':Nat->Option Nat),AR w' (Xp X pb) μ' (hps h') (vals i) v'->HR w' (Xp X pb) μ' (hps h')->Ext b (Xp X pb) μ1 (hps h) w μ' (hps h') w'->DInv nt b w0 X μ0 hp ds ops l fr m hps vals (L.setIfInBounds i true) (a.put o.dst v') w':=by
   intro v' w' μ' hv hH' E;rw[hod];refine⟨by simp[D.size],qt D.size D.shut r3 r1,fun j hj=> ?_,by rw[Qh];exact D.ds,by rw[yC];exact D.tsz,μ',pb,h',D1.next dN hsz hLi t2 hdt hc3 hh hh' hv hH' E,?_⟩
   ·rw[YE hsz] at hj;split at hj
    ·omega
    ·exact D.lt j hj
   ·intro j x hx hxc hLj;rw[YE hsz] at hLj;split at hLj
    ·cases hLj
    ·rename_i hne;exact hcb' j x hx hxc hLj hne
  have hao2:=hone hao;have hwant:∀x,wants ((frs i).keep ao.uses) ao.base.guard=some x->Region.wanted o (yielded ops a.tmps)=x:=fun x hx=>Qi hF t1 (by rw[<-q2,<-hbase.2];exact hx);simp only[wpOpIn,ho];unfold aone at hao2;split at hao2
  ·cases hao2
  ·rename_i hw;rw[hwant _ hw];simp only[ZM,if_false];simp only[Option.some.injEq,OpRes.val.injEq] at hao2;obtain⟨hv,hhp⟩:=hao2;exact⟨fun _ _=>trivial,fin undef w μ1 (by rw[<-hv];exact .undef _ fun b h=>by cases h) (by rw[<-hhp];exact D1.hr) (by rw[<-hhp];exact Ext.refl _ _ _ _ _)⟩
  ·rename_i hw;rw[hwant _ hw];simp only[if_true];split at hao2
   ·cases hao2
   ·rename_i vs hvs;exact qm hΓ D1.le d3 q4 hF (by rw[<-q3];exact hvs) D1.hr hao2 fin

 have adv:ao.cls=2->h<=i->∃μ' pb',DSt b w0 X μ0 hp l fr m hps vals L μ' pb' i a.tmps w:=by
  intro hc hle;have:=D1.advance R (i - h) (by omega) (fun k x k1 k2 hx=>by
   have hki:k<i:=by omega
   constructor
   ·intro hx2;have hLk:L.getD k false=false:=by
     cases hLk:L.getD k false with
     |false=>rfl
     |true=>have:=(D1.c2 k x hx hx2).1 hLk;omega
    rcases Qk (hA k x hki hx hLk) with h|h|⟨h,_⟩|h|⟨h,_⟩|⟨_,h,_⟩ <;> omega
   ·intro hx3;cases hLk:L.getD k false with
    |true=>rfl
    |false=>rcases Qk (hA k x hki hx hLk) with h|h|⟨h,_⟩|h|⟨h,_⟩|⟨h,_⟩ <;> omega)
  rw[show h+(i - h)=i by omega] at this;exact this

 have far:ao.cls=1->∀(n h:Nat) (μ1 pb:Nat->Option Nat),DSt b w0 X μ0 hp l fr m hps vals L μ1 pb h a.tmps w->h+n=i->∃k0 μ' pb',h<=k0/\k0<=i/\DSt b w0 X μ0 hp l fr m hps vals L μ' pb' k0 a.tmps w/\(k0=i\/∃o,l[k0]? =some o/\o.cls=2):=by
  intro hc n
  induction n with
  |zero=>intro h μ1 pb D1 e;exact⟨h,μ1,pb,Zc _,by omega,D1,.inl (by omega)⟩
  |succ n ih=>
   intro h μ1 pb D1 e;have hlt:h<l.length:=ZD (by omega:h<i+1) (Nat.succ_le_of_lt (Zb.1 t2).1);have hx:l[h]? =some l[h]:=Zf hlt;by_cases h2:l[h].cls=2
   ·exact⟨h,μ1,pb,Zc _,by omega,D1,.inr ⟨_,hx,h2⟩⟩
   ·obtain⟨μ2,pb2,D2⟩:=D1.step R (by omega) (fun o ho=>by
     rw[hx] at ho;cases ho;refine⟨h2,fun h3=> ?_⟩;cases hLk:L.getD h false with
     |true=>rfl
     |false=>rcases Qk (hA h _ (by omega) hx hLk) with h'|h'|⟨h',_⟩|h'|⟨h',_⟩|⟨h',_⟩ <;> omega)
    obtain⟨k0,μ',pb',z1,z2,z3⟩:=ih (h+1) μ2 pb2 D2 (by omega);exact⟨k0,μ',pb',by omega,z2,z3⟩
 have cb2:ao.cls=2->∀j x,l[j]? =some x->x.isCallh=true->L.getD j false=false->j≠i->∀k y,j<k->k<i+1->l[k]? =some y->y.cls≠2/\y.cls≠3:=by
  intro hc j x hx hxc hLj hne k y hjk hki hy;exfalso;have hxj:x.cls=1:=by unfold AOper.cls;rw[UF hxc]
  rcases Qk (hA j x (by omega) hx hLj) with h|h|⟨_,h,_⟩|h|⟨_,h,_⟩|⟨h,_⟩
  ·omega
  ·omega
  ·omega
  ·omega
  ·rw[hxc] at h;cases h
  ·omega
 have hold:∀j x,l[j]? =some x->x.isCallh=true->L.getD j false=false->j≠i->∀k x,j<k->k<h->l[k]? =some x->x.cls≠2/\x.cls≠3:=fun j x hx hxc hLj _=>hcb j x hx hxc hLj;rcases Zt i m with hlt|hge
 ·obtain⟨s1,_⟩:=R.step i ao hlt t2;rcases qo ao with c|c|c|c
  ·exact go μ1 pb h h D1 (hLS h (.inl c)) hlt (by omega) (.inl ⟨rfl,by omega⟩) D1.hm (((Xh s1).1 c).2 _) hold
  ·rcases Zt i h with hih|hih
   ·have hB2:∀k x,i<k->k<h->l[k]? =some x->x.cls=2->ao.isCallh=false/\ao.spared x=true:=by
     intro k x hk hkh hx hx2;rcases Qk (hB k x hk hx ((D1.c2 k x hx hx2).2 hkh)) with h|h|⟨_,h,_⟩|h|⟨_,h1,_,h2⟩|⟨h,_⟩
     ·omega
     ·omega
     ·omega
     ·omega
     ·exact⟨h1,h2⟩
     ·omega
    have hres:aone Γ b ao (frs i) (hps h)=some (.val (vals i) (hps h)):=by
     cases hcl:ao.isCallh with
     |false=>exact df R dL t2 c hcl hih D1.hm fun k x k1 k2 k3 k4=>(hB2 k x k1 k2 k3 k4).2
     |true=>
      have:=R.heap (i:=i) (h - i) (by have:=D1.hm;omega) (fun k x k1 k2 hx=>by
       rcases Nat.eq_or_lt_of_le k1 with e|k1
       ·subst e;rw[t2] at hx;cases hx;omega
       ·exact hcb i ao t2 hcl hLi k x k1 (by omega) hx)
      rw[show i+(h - i)=h by omega] at this;rw[this,s1,(Xh s1).2 c]
    exact go μ1 pb h h D1 (hLS h (.inr (Nat.le_of_lt hih))) hlt (by omega) (.inl ⟨rfl,by omega⟩) D1.hm hres hold
   ·obtain⟨k0,μ2,pb2,z1,z2,D2,z3⟩:=far c (i - h) h μ1 pb D1 (by omega);have hcg:∀k x,k0<=k->k<i->l[k]? =some x->x.cls=2->x.isCallg=true/\ao.isLd=true:=by
     intro k x k1 k2 hx hx2;have hLk:L.getD k false=false:=by
      cases hLk:L.getD k false with
      |false=>rfl
      |true=>have:=(D2.c2 k x hx hx2).1 hLk;omega
     rcases Qk (hA k x k2 hx hLk) with h'|h'|⟨h',_⟩|h'|⟨h',_⟩|⟨_,_,h3,h4⟩
     ·omega
     ·omega
     ·omega
     ·omega
     ·omega
     ·exact⟨h3,h4⟩
    have hg0:k0<i->∃g,l[k0]? =some g/\g.isCallg=true/\ao.isLd=true:=by
     intro hk;rcases z3 with e|⟨g,g1,g2⟩
     ·omega
     ·exact⟨g,g1,hcg k0 g (Zc _) hk g1 g2⟩
    have hLS2:∀s u,s∈ao.uses->(frs i).look s=some u->LS l vals fr L k0 s u:=by
     intro s u hs hl;rcases hLS i (.inr (Zc _)) s u hs hl with⟨j,oj,a1,a2,a3,a4,a5⟩|h'
     ·refine .inl ⟨j,oj,a1,a2,a3,a4,fun c3=> ?_⟩;rcases Nat.eq_or_lt_of_le z2 with e|hk
      ·rw[e];exact a5 c3
      ·obtain⟨g,g1,g2,g3⟩:=hg0 hk;exact absurd hs (D0 dU g1 g2 t2 g3 a2 c3 a3)
     ·exact .inr h'
    have hres:aone Γ b ao (frs i) (hps k0)=some (.val (vals i) (hps k0)):=by
     have hs1:aone Γ b ao (frs i) (hps i)=some (.val (vals i) (hps i)):=by rw[s1,(Xh s1).2 c]
     rcases Nat.eq_or_lt_of_le z2 with e|hk
     ·rw[e];exact hs1
     ·obtain⟨g,g1,g2,g3⟩:=hg0 hk;have hgrow:=R.grow (i:=k0) (i - k0) (by omega) (fun k x a1 a2 a3 a4=>(hcg k x a1 (by omega) a3 a4).1);rw[show k0+(i - k0)=i by omega] at hgrow;exact de g3 hgrow (fun q u hq hl=>⟨_,(D2.slot q u (hLS2 q u hq hl)).2⟩) hs1
    have cbk:∀j x,l[j]? =some x->x.isCallh=true->L.getD j false=false->j≠i->∀k y,j<k->k<k0->l[k]? =some y->y.cls≠2/\y.cls≠3:=by
     intro j x hx hxc hLj hne k y hjk hk0 hy;have hxj:x.cls=1:=by unfold AOper.cls;rw[UF hxc]
     have hm0:Xv l j i=false:=by
      rcases Qk (hA j x (by omega) hx hLj) with h'|h'|⟨_,_,h'⟩|h'|⟨_,h',_⟩|⟨h',_⟩
      ·omega
      ·omega
      ·exact h' hxc
      ·omega
      ·rw[hxc] at h';cases h'
      ·omega
     refine⟨fun hy2=> ?_,DY hm0 k y hjk (by omega) hy⟩;have hLk:=(D2.c2 k y hy hy2).2 hk0;exact(hcb j x hx hxc hLj k y hjk ((D1.c2 k y hy hy2).1 hLk) hy).1 hy2
    exact go μ2 pb2 k0 k0 D2 hLS2 hlt (by omega) (.inl ⟨rfl,by omega⟩) D2.hm hres cbk
  ·have hih:h<=i:=by
    rcases Zt i h with h'|h'
    ·rw[(D1.c2 i ao t2 c).2 h'] at hLi;cases hLi
    ·exact h'
   obtain⟨μ2,pb2,D2⟩:=adv c hih;exact go μ2 pb2 i (i+1) D2 (hLS i (.inr (Zc _))) hlt (by omega) (.inr ⟨rfl,rfl,c⟩) (by omega) s1 (cb2 c)
  ·have hb0:ao.base=ao:=JL (by omega);have hg:ao0.guard=none:=by rw[<-q2];exact(xc c).2.1
   have hop:ao0.op=ao.op:=dw c (by rw[hb0] at q4;exact q4);have hargs:ao0.args=ao.args:=by rw[<-q3,hb0]
   have hwant:Region.wanted o (yielded ops a.tmps)=true:=Qi (w:=w) (X:=X) (μ:=μ1) (hp:=hp) (fr:=[]) (fun s u hs=>by simp[Fr.look] at hs) t1 (by rw[hg];rfl);simp only[wpOpIn,ho,hwant,if_true];have ht':trOp P o=some (ao.op,ao.args):=by rw[d3,hop,hargs]
   obtain⟨v,w',pv,k1,k2,k3⟩:=du (a:=a) ht' c w;have hnd:∀cc,o.op≠.defer cc:=by
    intro cc ec;simp only[trOp,ec] at ht';cases ht'
   refine⟨fun _ _=>trivial,?_⟩;rw[Oper.semAt_eq _ _ _ hnd,k1];show DInv nt b w0 X μ0 hp ds ops l fr m hps vals (L.setIfInBounds i true) (a.put o.dst v) w';rw[hod];refine⟨by simp[D.size],qt D.size D.shut r3 r1,fun j hj=> ?_,by rw[Qh];exact D.ds,by rw[yC];exact D.tsz,μ1,_,h,D1.make dN hsz hLi t2 hdt c k2 k3,?_⟩
   ·rw[YE hsz] at hj;split at hj
    ·omega
    ·exact D.lt j hj
   ·intro j x hx hxc hLj;rw[YE hsz] at hLj;split at hLj
    ·cases hLj
    ·exact hcb j x hx hxc hLj
 ·have hie:i=m:=by omega
  subst hie;rcases R.fin with⟨f1,_⟩|⟨om,p,f1,f2,f3,f4⟩
  ·have:=(Zb.1 t2).1;omega
  ·rw[t2] at f1;cases f1;have c:=DQ (KE f2);have hih:h<=i:=D1.hm;obtain⟨μ2,pb2,D2⟩:=adv c hih;have hX:Xp X pb2=X:=XS fun k=>by
    cases hk:pb2 k with
    |none=>rfl
    |some bk=>
     obtain⟨z1,z2,_⟩:=D2.own k bk hk;have:=D.lt k z1;omega
   have hH:=D2.hr;have hslot:=D2.slot;rw[hX] at hH hslot;have hF:FR w X μ2 (hps i) ((frs i).keep ao.uses) a.tmps:=fun s u hs=>by
    obtain⟨k1,k2⟩:=qw hs;exact hslot s u (hLS i (.inr (Zc _)) s u k1 k2)
   have hao2:=hone f2;have hwant:∀x,wants ((frs i).keep ao.uses) ao.base.guard=some x->Region.wanted o (yielded ops a.tmps)=x:=fun x hx=>Qi hF t1 (by rw[<-q2,<-hbase.2];exact hx);simp only[wpOpIn,ho];unfold aone at hao2;split at hao2
   ·cases hao2
   ·cases hao2
   ·rename_i hw;rw[hwant _ hw];simp only[if_true];split at hao2
    ·cases hao2
    ·rename_i vs hvs;refine qm hΓ D2.le d3 q4 hF (by rw[<-q3];exact hvs) hH hao2 ?_;intro v' w' μ' hv hH' E;refine hQ ⟨p,f3⟩ _ _ _ ⟨D.ds,D.tsz,μ',hH',fun s u hs=> ?_,D2.ext.trans E,?_⟩
     ·have hls:LS l vals fr L i s u:=by
       rw[f4] at hs;rcases R.look i (Zc _) hs with⟨j,oj,hj,hoj,hdj,rfl⟩|⟨hnone,hfr0⟩
       ·refine .inl ⟨j,oj,?_,hoj,hdj,rfl,fun _=>hj⟩;rcases Uz (hpan ⟨p,f3⟩) i j oj ao hj hoj t2 with h|h
        ·exact r3 j h
        ·rw[KE f2] at h;cases h.2
       ·refine .inr ⟨fun j oj hoj hdj=> ?_,hfr0⟩;cases hLj:L.getD j false with
        |false=>rfl
        |true=>exact absurd hdj (hnone j oj (D.lt j hLj) hoj)
      obtain⟨k1,k2⟩:=hslot s u hls;exact⟨k1,E.ar k2⟩
     ·rw[f3];exact⟨v',rfl,hv⟩

theorem dz(hΓ:SoundO P Γ)(hT:Tie P nt ops l)(hdraw:YV ops l=true)(hpan:(∃p,e=.panic p)->yk ops l=true)(R:Run Γ b l fr hp e fr' hp' m frs hps vals)(D:DInv nt b w0 X μ0 hp ds ops l fr m hps vals L a w)
  (hQ:∀e' a' w',Lands nt b w0 X μ0 hp ds e fr' hp' e' a' w'->Q e' a' w'){i:Nat}(hi:i∈Region.ready .any ops L):
  wpOpIn (Fe ro) 0 P ops Q i (fun a' w'=>DInv nt b w0 X μ0 hp ds ops l fr m hps vals (L.setIfInBounds i true) a' w') a w:=by
 obtain⟨dE,dN,dU,dL,dP⟩:=QG hdraw;exact KS hΓ (hT.2 i) dE dN dU dL hpan R D (fun _=>hQ) hi (fun j x y h1 h2 h3 _=>dP i j x y h1 h2 h3) fun j x y h1 h2 h3 _=>dP j i y x h1 h3 h2

theorem dC(hΓ:SoundO P Γ)(hT:Tie P nt ops l)(hdraw:YV ops l=true)(hpan:(∃p,e=.panic p)->yk ops l=true)(R:Run Γ b l fr hp e fr' hp' m frs hps vals)
  (hQ:∀e' a' w',Lands nt b w0 X μ0 hp ds e fr' hp' e' a' w'->Q e' a' w'):∀(n:Nat) (L:Array Bool) (a:Act) (w:World),DInv nt b w0 X μ0 hp ds ops l fr m hps vals L a w->(List.range ops.size).countP (fun i=> !L.getD i false)<=n->wpAnyIn (Fe ro) 0 P .any ops Q n L a w:=by
 have hend:∀(L:Array Bool) (a:Act) (w:World),DInv nt b w0 X μ0 hp ds ops l fr m hps vals L a w->Region.ready .any ops L=[]->Q .normal a w:=by
  intro L a w D hr;obtain⟨dE,dN,dU,dL,dP⟩:=QG hdraw;have hall:=qr dE D.size hr;have hml:m=l.length:=by
   rcases Zt m l.length with h|h
   ·have:=D.lt m (hall m (by rw[<-hT.1];exact h));omega
   ·exact Nat.le_antisymm R.le h
  obtain⟨μ1,pb,h,D1,_⟩:=D.st;have hm:=D1.hm;have hlen:∀{k x},l[k]? =some x->k<ops.size:=fun hx=>by rw[<-hT.1];exact(Zb.1 hx).1
  obtain⟨μ2,pb2,D2⟩:=D1.advance R (m - h) (by omega) (fun k x k1 k2 hx=>⟨fun hx2=>by
   have:=(D1.c2 k x hx hx2).1 (hall k (hlen hx));omega,fun _=>hall k (hlen hx)⟩)
  rw[show h+(m - h)=m by omega] at D2;have hX:Xp X pb2=X:=XS fun k=>by
   cases hk:pb2 k with
   |none=>rfl
   |some bk=>
    obtain⟨z1,z2,_⟩:=D2.own k bk hk;have:=D.lt k z1;omega
  have hH:=D2.hr;have hslot:=D2.slot;rw[hX] at hH hslot;rcases R.fin with⟨f1,f2,f3,f4⟩|⟨om,p,f1,_⟩
  ·refine hQ _ _ _ ⟨D.ds,D.tsz,μ2,?_,fun s u hs=> ?_,?_,?_⟩
   ·rw[f4];exact hH
   ·rw[f3] at hs;rw[f4];refine hslot s u ?_;rcases R.look m (Zc _) hs with⟨j,oj,hj,hoj,hdj,rfl⟩|⟨hnone,hfr0⟩
    ·exact .inl ⟨j,oj,hall j (hlen hoj),hoj,hdj,rfl,fun _=>hj⟩
    ·exact .inr ⟨fun j oj hoj hdj=>absurd hdj (hnone j oj (by rw[hml];exact(Zb.1 hoj).1) hoj),hfr0⟩
   ·rw[f4];exact D2.ext
   ·rw[f2];exact trivial
  ·have:=(Zb.1 f1).1;omega
 intro n
 induction n with
 |zero=>
  intro L a w D hn;have hr:Region.ready .any ops L=[]:=by
   cases hx:Region.ready .any ops L with
   |nil=>rfl
   |cons i r=>
    exfalso;have hi:i∈Region.ready .any ops L:=by rw[hx];simp
    obtain⟨r1,r2,r3⟩:=qq (QG hdraw).1 D.shut hi;have:0<(List.range ops.size).countP (fun i=> !L.getD i false):=by
     rw[List.countP_pos_iff];refine⟨i,ZO.2 r1,?_⟩;rw[ZC] at r2 ⊢;have:i<L.size:=by rw[D.size];exact r1
     simp[this] at r2 ⊢;exact r2
    omega
  exact⟨hr,hend L a w D hr⟩
 |succ n ih=>
  intro L a w D hn;refine⟨hend L a w D,fun i hi=> ?_⟩;obtain⟨r1,r2,r3⟩:=qq (QG hdraw).1 D.shut hi;refine wpOpIn_mono (fun a' w' D'=>ih _ a' w' D' ?_) (dz hΓ hT hdraw hpan R D hQ hi);have hsz:i<L.size:=by rw[D.size];exact r1
  have:=qx (l:=List.range ops.size) (p:=fun i=> !L.getD i false) (q:=fun j=> !(L.setIfInBounds i true).getD j false) (ZO.2 r1) (fun x hx=>by
   rw[YE hsz] at hx;split at hx
   ·cases hx
   ·exact hx) (by
   rw[ZC] at r2 ⊢;simp[hsz] at r2 ⊢;exact r2) (by rw[YE hsz];simp)
  omega

theorem KT(hmix:P.follows .mixedOrders=true)(hΓ:SoundO P Γ)(hT:Tie P nt ops l)(hdraw:YV ops l=true){id:Nat}(hs:aops Γ b l fr hp=some (e,fr',hp'))(hpan:(∃p,e=.panic p)->yk ops l=true)(hb:b<=hp.length)(hH:HR w X μ hp)(hF:FR w X μ hp fr a.tmps)(hsz:a.tmps.size=nt)
  (hQ:∀e' a' w',Lands nt b w X μ hp a.defers e fr' hp' e' a' w'->Q e' a' w'):(Code.region id ops true).wpIn (Fe ro) 0 P Q a w:=by
 obtain⟨m,frs,hps,vals,R⟩:=JK l fr hp hs;refine wpIn_region_any hmix (dC (w0:=w) (X:=X) (μ0:=μ) (ds:=a.defers) hΓ hT hdraw hpan R hQ ops.size _ a _ ?_ (ZV (List.countP_le_length) (by simp)));have h0:∀i,(Array.replicate ops.size false).getD i false=false:=by
  intro i;rw[ZC,zU];split <;> rfl
 have hX:Xp X (fun _=>none)=X:=XS fun _=>rfl;refine⟨by simp,fun i hi=> ?_,fun i hi=> ?_,rfl,hsz,μ,fun _=>none,0,⟨Ze _,fun k o hk hc=> ?_,fun k o hk hc h=>by omega,?_,?_,?_,fun s v hs=> ?_,fun k o hk hc h hL=> ?_,fun k bk h=>(by cases h),fun k k' bk h=>(by cases h)⟩,fun i ao hi hc hL k x h1 h2=>by omega⟩
 ·rw[h0] at hi;cases hi
 ·rw[h0] at hi;cases hi
 ·rw[h0];simp
 ·rw[R.h0,hX];exact hH.drew
 ·rw[R.h0];exact hb
 ·rw[R.h0];exact Ext.drew b
 ·rcases hs with⟨j,o,hj,_⟩|⟨_,h⟩
  ·rw[h0] at hj;cases hj
  ·rw[R.h0,hX];obtain⟨k1,k2⟩:=hF s v h;exact⟨k1,(Ext.drew (X:=X) (μ:=μ) (hp:=hp) (w:=w) 0).ar k2⟩
 ·rw[h0] at hL;cases hL
end
end Go.Am

/- Regions whose last two stores, to an element and to a variable, stand in no order. -/
namespace Go.Am
variable{P:Program} {w:World} {X:Xc P} {μ:Nat->Option Nat} {hp:Heap}

theorem dD{s1 s2 sx:Sh}{b:Nat}{h0 h1 h2:Heap}{r1 ver i off r o:Nat}{px:PV}{yv:AV}{t:Sh}(hy:(∃sh r v o n,yv=.sl sh r v o n)\/∃sh p,yv=.pv sh p)
  (e1:astore s1 b h0 (.eptr t r1 ver i off) (.pv sx px)=some h1)(e2:astore s2 b h1 (.ptr r o) yv=some h2):
  ∃h1',astore s2 b h0 (.ptr r o) yv=some h1'/\astore s1 b h1' (.eptr t r1 ver i off) (.pv sx px)=some h2:=by
 have hown:∀hp,yv.own hp=(yv,hp):=by
  rcases hy with⟨_,_,_,_,_,rfl⟩|⟨_,_,rfl⟩ <;> intro hp <;> rfl
 simp only[astore] at e1;split at e1
 ·cases e1
 rename_i hsx;simp only[AV.freeze,deep] at e1;cases ha:h0[r1]? with
 |none=>rw[ha] at e1;cases e1
 |some oa=>
 rw[ha] at e1;have e3:=e2

 obtain⟨sa,es,es',rfl,hh1,hpart⟩:∃sa es es',oa=.arr sa es false/\h1=h0.set r1 (.arr sa es' false)/\∀hq:Heap,hq[r1]? =some (.arr sa es false)->astore s1 b hq (.eptr t r1 ver i off) (.pv sx px)=some (hq.set r1 (.arr sa es' false)):=by
  cases oa with
  |box _ _=>cases e1
  |map _ _=>cases e1
  |loop _ _ _ _=>cases e1
  |arv _ _=>cases e1
  |arr sa es fz=>
   cases fz with
   |true=>cases e1
   |false=>
    simp only[] at e1;split at e1
    ·rename_i hv;cases ho:es[i]? with
     |none=>rw[ho] at e1;cases e1
     |some old=>
      rw[ho] at e1;simp only[] at e1;split at e1
      ·rename_i hc;cases e1;refine⟨sa,es,_,rfl,rfl,fun hq hhq=> ?_⟩;simp only[astore,AV.freeze,deep,hhq,ho];rw[Za hsx,Zd hv,Zd hc]
      ·rename_i hc;cases hu:PV.upd 8 old off s1 px with
       |none=>rw[hu] at e1;cases e1
       |some new=>
        rw[hu] at e1;cases e1;refine⟨sa,es,_,rfl,rfl,fun hq hhq=> ?_⟩;simp only[astore,AV.freeze,deep,hhq,ho];rw[Za hsx,Zd hv,Za hc];simp only[hu]
    ·cases e1
 have hlt:r1<h0.length:=(Zb.1 ha).1;subst hh1;have hne:r≠r1:=by
  rintro rfl;simp only[astore,Zx hlt] at e2;cases e2
 have hb:(h0.set r1 (.arr sa es' false))[r]? =h0[r]? :=Zo (Ne.symm hne);obtain⟨ob,h2',hst⟩:∃ob,h2=(h0.set r1 (.arr sa es' false)).set r ob/\astore s2 b h0 (.ptr r o) yv=some (h0.set r ob):=by
  simp only[astore,hb,hown] at e2 ⊢;cases hr:h0[r]? with
  |none=>rw[hr] at e2;cases e2
  |some obj=>
   rw[hr] at e2;cases obj with
   |arr _ _ _=>cases e2
   |map _ _=>cases e2
   |loop _ _ _ _=>cases e2
   |arv _ _=>cases e2
   |box s old=>
    simp only[] at e2 ⊢;split at e2
    ·cases e2
    ·rename_i h3;rw[Za h3];split at e2
     ·rename_i h4;rw[Zd h4];split at e2
      ·rename_i h5;cases e2;rw[Zd h5];exact⟨_,rfl,rfl⟩
      ·rename_i h5;rw[Za h5];cases hu:AV.upd deep old o s2 yv with
       |none=>rw[hu] at e2;cases e2
       |some new=>rw[hu] at e2;cases e2;exact⟨_,rfl,rfl⟩
     ·rename_i h4;rw[Za h4];split at e2
      ·rename_i h6;rw[Zd h6];split at e2
       ·rename_i h5;cases e2;rw[Zd h5];exact⟨_,rfl,rfl⟩
       ·rename_i h5;rw[Za h5];cases hu:AV.upd deep old o s2 yv with
        |none=>rw[hu] at e2;cases e2
        |some new=>rw[hu] at e2;cases e2;exact⟨_,rfl,rfl⟩
      ·cases e2
 refine⟨_,hst,?_⟩;rw[hpart _ (by rw[Zo hne];exact ha),h2',List.set_comm _ _ (Ne.symm hne)]

structure Two(ops:Array Oper)(l:List AOper)(q x:Nat)(p s v:AOper)(sh1 sh2:Sh)(p2 y:AArg):Prop where
 dE:y5 0 ops.toList=true
 dN:y4 0 l=true
 dU:X8 l=true
 dL:xy l=true
 n3:3<=l.length
 dP:∀i j a b,j<i->l[j]? =some a->l[i]? =some b->j∈(clos [] ops.toList).getD i []\/a.indep b (Xv l j i)=true\/(i=l.length - 1/\j=l.length - 2)
 c1:∀j,j<l.length - 3->j∈(clos [] ops.toList).getD (l.length - 1) []
 c2:(l.length - 3)∈(clos [] ops.toList).getD (l.length - 2) []
 lp:l[l.length - 3]? =some p
 ls:l[l.length - 2]? =some s
 lv:l[l.length - 1]? =some v
 pc:p.cls=0
 pd:p.dst=some q
 sop:s.op=.store sh1
 sar:s.args=[.t q,.t x]
 sd:s.dst=none
 sg:s.guard=none
 vop:v.op=.storex sh2
 var:v.args=[p2,y,.t q,.t x]
 vd:v.dst=none
 vg:v.guard=none
 xq:x≠q

theorem dF{ops:Array Oper}{l:List AOper}(h:XM ops l=true):∃q x p s v sh1 sh2 p2 y,Two ops l q x p s v sh1 sh2 p2 y:=by
 simp only[XM,Zg,Zm,Zr] at h;obtain⟨⟨⟨⟨⟨⟨⟨h1,h2⟩,h4,h5⟩,h6⟩,h3⟩,h7⟩,h8⟩,h9⟩:=h;split at h9
 ·rename_i p s v e1 e2 e3;rw[Zg] at h9;obtain⟨h9,h10⟩:=h9;split at h10
  ·rename_i q sh1 q' x sh2 p2 y q2 x2 f1 f2 f3 f4 f5 f6 f7 f8 f9 f10;simp only[Zg] at h10;obtain⟨⟨g1,g2⟩,g3⟩:=h10;have g1:=zd g1;have g2:=zd g2;subst g1;subst g2;split at g3
   ·rename_i x x2;simp only[Zg,zD] at g3;obtain⟨g3,g4⟩:=g3;have g3:=zd g3;subst g3;refine⟨_,_,p,s,v,_,_,_,_,h1,h2,h4,h5,h6,fun i j a b hji ha hb=> ?_,fun j hj=> ?_,by simpa using h8,e1,e2,e3,by simpa using h9,f1,f3,f4,f5,f6,f7,f8,f9,f10,fun e=>by simp[e] at g4⟩
    ·rcases KM h3 hji ha hb with h|h
     ·exact .inl h
     ·simp only[zr,Zg,beq_iff_eq] at h;rcases h with h|h
      ·exact .inr (.inl h)
      ·exact .inr (.inr h)
    ·have:=h7 j (ZO.2 hj);simpa using this
   ·cases g3
  ·cases h10
 ·cases h9

/-! A region's operations in another order. -/
theorem qz{ops:Array Oper}{pi inv:List Nat}(h:xB ops pi inv=true):(yG ops pi inv).size=ops.size/\(∀k,k<ops.size->pi.getD k 0<ops.size/\inv.getD (pi.getD k 0) 0=k)/\
  ∀i o,ops[i]? =some o->inv.getD i 0<ops.size/\pi.getD (inv.getD i 0) 0=i/\(yG ops pi inv)[inv.getD i 0]? =some (QD inv o)/\o.guard=none/\∀e∈o.after,e.on<ops.size:=by
 simp only[xB,Zg,beq_iff_eq,Zm,Zr,ZO] at h;obtain⟨⟨⟨h1,h2⟩,h3⟩,h4⟩:=h;refine⟨by simp[yG,h1],fun k hk=>⟨(h3 k hk).1.2,(h3 k hk).2⟩,fun i o ho=> ?_⟩;have hi:i<ops.size:=(zw.1 ho).1;obtain⟨⟨⟨g1,g2⟩,g3⟩,g4⟩:=h3 i hi;have hk:inv.getD i 0<pi.length:=by omega
 have hmem:o∈ops.toList:=by
  have:=ZU ho;simpa using this
 obtain⟨k1,k2⟩:=h4 o hmem;refine⟨g1,g2,?_,by simpa using k1,fun e he=>k2 e (by simpa using he)⟩;unfold yG;rw[List.getElem?_toArray,ZK,Zf hk];have hp:pi[inv.getD i 0]=i:=by
  have:=g2;rw[zY (l:=pi),Zf hk] at this;simpa using this
 rw[hp];simp only[zF];rw[ZC,ho];rfl

theorem mem_ready{ops:Array Oper}{L:Array Bool}{i:Nat}:i∈Region.ready .any ops L↔∃o,ops[i]? =some o/\L.getD i true=false/\∀e∈o.after,(!Region.binds .any e || L.getD e.on false)=true:=by
 unfold Region.ready;simp only[List.mem_filter,ZO,Zg,zD];constructor
 ·rintro⟨h1,h2,h3⟩;refine⟨ops[i],ze h1,h2,?_⟩;rw[ze h1] at h3;simp only[zF,zH] at h3;exact Array.all_eq_true_iff_forall_mem.1 h3
 ·rintro⟨o,ho,h2,h3⟩;refine⟨(zw.1 ho).1,h2,?_⟩;rw[ho];simp only[zF,zH];exact Array.all_eq_true_iff_forall_mem.2 h3

theorem qA{L:Array Bool}{i:Nat}(h:i<L.size):L.getD i false=L.getD i true:=by
 rw[ZC,ZC,ze h];rfl

theorem KU{ops:Array Oper}{pi inv:List Nat}(h:xB ops pi inv=true){L L':Array Bool}(hs:L.size=ops.size)(hs':L'.size=ops.size)(hL:∀i,i<ops.size->L'.getD (inv.getD i 0) true=L.getD i true){i:Nat}(hi:i<ops.size):
  inv.getD i 0∈Region.ready .any (yG ops pi inv) L'↔i∈Region.ready .any ops L:=by
 obtain⟨h1,h2,h3⟩:=qz h;have ho:ops[i]? =some ops[i]:=ze hi;obtain⟨g1,g2,g3,g4,g5⟩:=h3 i _ ho;have he:∀e∈ops[i].after,(!Region.binds .any { e with on:=inv.getD e.on 0 } || L'.getD (inv.getD e.on 0) false)=(!Region.binds .any e || L.getD e.on false):=by
  intro e he;have hon:=g5 e he;obtain⟨k1,_⟩:=h3 e.on _ (ze hon);have hb:Region.binds .any { e with on:=inv.getD e.on 0 }=Region.binds .any e:=by
   unfold Region.binds;rfl
  rw[hb,qA (by omega),qA (by omega),hL e.on hon]
 rw[mem_ready,mem_ready];constructor
 ·rintro⟨o,h4,h5,h6⟩;rw[g3] at h4;cases h4;refine⟨_,ho,by rw[<-hL i hi];exact h5,fun e hm=> ?_⟩;rw[<-he e hm];exact h6 _ (by simp only[QD];exact Array.mem_map.2 ⟨e,hm,rfl⟩)
 ·rintro⟨o,h4,h5,h6⟩;rw[ho] at h4;cases h4;refine⟨_,g3,by rw[hL i hi];exact h5,fun e hm=> ?_⟩;simp only[QD] at hm;obtain⟨e0,hm0,rfl⟩:=Array.mem_map.1 hm;rw[he e0 hm0];exact h6 e0 hm0

theorem dG{F:Fence}{n:Nat}{o:Oper}{A:Array Edge}{a:Act}{K:Act->World->Prop}{Q:Exit->Act->World->Prop}(h:({ o with after:=A }:Oper).wpIn F n P a w K Q):o.wpIn F n P a w K Q:=h

theorem dH{F:Fence}{ops:Array Oper}{pi inv:List Nat}(h:xB ops pi inv=true){i:Nat}(hi:i<ops.size){K:Act->World->Prop}{Q:Exit->Act->World->Prop}{a:Act}(hk:wpOpIn F 0 P (yG ops pi inv) Q (inv.getD i 0) K a w):wpOpIn F 0 P ops Q i K a w:=by
 obtain⟨h1,h2,h3⟩:=qz h;have ho:ops[i]? =some ops[i]:=ze hi;obtain⟨g1,g2,g3,g4,g5⟩:=h3 i _ ho;unfold wpOpIn at hk ⊢;rw[g3] at hk;rw[ho];simp only[] at hk ⊢;have w1:∀y,Region.wanted ops[i] y=true:=fun y=>by simp[Region.wanted,g4]
 have w2:∀y,Region.wanted (QD inv ops[i]) y=true:=fun y=>by simp[Region.wanted,QD,g4]
 rw[w2,Zd rfl] at hk;rw[w1,Zd rfl];exact dG hk

theorem dI{F:Fence}{ops:Array Oper}{pi inv:List Nat}(h:xB ops pi inv=true){Q:Exit->Act->World->Prop}:∀(n:Nat) (L L':Array Bool) (a:Act) (w:World),L.size=ops.size->L'.size=ops.size->(∀i,i<ops.size->L'.getD (inv.getD i 0) true=L.getD i true)->
  wpAnyIn F 0 P .any (yG ops pi inv) Q n L' a w->wpAnyIn F 0 P .any ops Q n L a w:=by
 obtain⟨h1,h2,h3⟩:=qz h;have none_:∀(L L':Array Bool),L.size=ops.size->L'.size=ops.size->(∀i,i<ops.size->L'.getD (inv.getD i 0) true=L.getD i true)->Region.ready .any ops L=[]->Region.ready .any (yG ops pi inv) L'=[]:=by
  intro L L' hs hs' hL hr;rw[List.eq_nil_iff_forall_not_mem];intro k hk;have hkl:k<ops.size:=by
   obtain⟨o,ho,_⟩:=mem_ready.1 hk;have:=(zw.1 ho).1;omega
  obtain⟨p1,p2⟩:=h2 k hkl;have:=(KU h hs hs' hL p1).1 (by rw[p2];exact hk);rw[hr] at this;cases this
 intro n
 induction n with
 |zero=>
  intro L L' a w hs hs' hL hk;refine⟨?_,hk.2⟩;rw[List.eq_nil_iff_forall_not_mem];intro i hi;have hil:i<ops.size:=by
   obtain⟨o,ho,_⟩:=mem_ready.1 hi;exact(zw.1 ho).1
  have:=(KU h hs hs' hL hil).2 hi;rw[hk.1] at this;cases this
 |succ n ih=>
  intro L L' a w hs hs' hL hk;refine⟨fun hr=>hk.1 (none_ L L' hs hs' hL hr),fun i hi=> ?_⟩;have hil:i<ops.size:=by
   obtain⟨o,ho,_⟩:=mem_ready.1 hi;exact(zw.1 ho).1
  obtain⟨q1,q2,_⟩:=h3 i _ (ze hil);refine dH h hil (wpOpIn_mono (fun a' w' hk'=>ih _ _ a' w' (by simp[hs]) (by simp[hs']) ?_ hk') (hk.2 _ ((KU h hs hs' hL hil).2 hi)));intro j hj;obtain⟨r1,r2,_⟩:=h3 j _ (ze hj);have e1:∀(M:Array Bool) (k x:Nat),M.size=ops.size->k<ops.size->(M.setIfInBounds k true).getD x true=if x=k then true else M.getD x true:=by
   intro M k x hM hk;rw[ZC,ZC,Array.getElem?_setIfInBounds];by_cases hx:k=x
   ·subst hx;have:k<M.size:=by omega
    simp[this]
   ·rw[Za hx,Za (Ne.symm hx)]
  rw[e1 L' _ _ hs' q1,e1 L _ _ hs hil];by_cases hji:j=i
  ·subst hji;simp
  ·rw[Za hji,Za (fun e=>hji (by rw[<-r2,e,q2]))];exact hL j hj

section
variable{Γ:Oracle} {nt b:Nat} {w0:World} {μ0:Nat->Option Nat} {ds:List Deferred} {ops:Array Oper} {l:List AOper} {fr fr':Fr} {hp':Heap} {frs:Nat->Fr} {hps:Nat->Heap} {vals:Nat->AV} {L:Array Bool} {a:Act} {m:Nat}
variable{Q:Exit->Act->World->Prop} {ro:Option Nat}

structure DX(nt b:Nat)(w0:World)(X:Xc P)(μ0:Nat->Option Nat)(hp:Heap)(ds:List Deferred)(ops:Array Oper)(l:List AOper)(h1:Heap)(f3 f2:Fr)(L:Array Bool)(a:Act)(w:World):Prop where
 size:L.size=ops.size
 shut:Shut ops L
 ds:a.defers=ds
 tsz:a.tmps.size=nt
 pre:∀j,j<l.length - 3->L.getD j false=true
 lv:L.getD (l.length - 1) false=true
 ls:L.getD (l.length - 2) false=false
 st:∃μ1,HR w X μ1 h1/\FR w X μ1 h1 (if L.getD (l.length - 3) false=true then f2 else f3) a.tmps/\Ext b X μ0 hp w0 μ1 h1 w/\b<=h1.length
structure DF(nt b:Nat)(w0:World)(X:Xc P)(μ0:Nat->Option Nat)(hp:Heap)(ds:List Deferred)(ops:Array Oper)(fr':Fr)(hp':Heap)(L:Array Bool)(a:Act)(w:World):Prop where
 size:L.size=ops.size
 shut:Shut ops L
 all:∀j,j<ops.size->L.getD j false=true
 lands:Lands nt b w0 X μ0 hp ds .normal fr' hp' .normal a w

theorem dJ{sh:Sh}{b:Nat}{o:AOper}{x y:AArg}{fr:Fr}{h0 h1:Heap}{u:AV}(ho:o.op=.store sh)(ha:o.args=[x,y])(hg:o.guard=none)(h:aone Γ b o fr h0=some (.val u h1)):∃p v,fr.arg x=some p/\fr.arg y=some v/\astore sh b h0 p v=some h1/\u=.undef:=by
 unfold aone at h;rw[hg] at h;simp only[wants] at h;rw[ha] at h;split at h
 ·cases h
 ·rename_i vs hvs;obtain⟨p,us,rfl,k1,k2⟩:=ym hvs;obtain⟨v,rfl,k3⟩:=Jp k2;rw[ho] at h;simp only[aOp,astep,AOp.isPure,AOp.isRead,cond_false,swrite,Yb] at h;cases hs:astore sh b h0 p v with
  |none=>rw[hs] at h;cases h
  |some hq=>rw[hs] at h;cases h;exact⟨p,v,k1,k3,hs,rfl⟩
theorem UP{sh:Sh}{b:Nat}{o:AOper}{x y:AArg}{fr:Fr}{h0 h1:Heap}{p v:AV}(ho:o.op=.store sh)(ha:o.args=[x,y])(hg:o.guard=none)(h1':fr.arg x=some p)(h2:fr.arg y=some v)(hs:astore sh b h0 p v=some h1):aone Γ b o fr h0=some (.val .undef h1):=by
 unfold aone;rw[hg];simp only[wants];rw[ha];simp only[Fr.argsOf,h1',h2];rw[ho];simp only[aOp,astep,AOp.isPure,AOp.isRead,cond_false,swrite,Yb,hs]
theorem qB{ops:Array Oper}{L:Array Bool}{i:Nat}(hE:y5 0 ops.toList=true)(hz:L.size=ops.size)(hS:Shut ops L)(hi:i∈Region.ready .any ops L):i<ops.size/\L.getD i false=false/\∀j∈(clos [] ops.toList).getD i [],L.getD j false=true:=by
 obtain⟨r1,r2,r3⟩:=qq hE hS hi;refine⟨r1,?_,r3⟩;rw[ZC] at r2 ⊢;have:i<L.size:=by omega
 simp[this] at r2 ⊢;exact r2
theorem dK{e:AExit}(hT:Tie P nt ops l)(dE:y5 0 ops.toList=true)(R:Run Γ b l fr hp e fr' hp' m frs hps vals)(hQ:∀e' a' w',Lands nt b w0 X μ0 hp ds e fr' hp' e' a' w'->Q e' a' w')
  (D:DInv nt b w0 X μ0 hp ds ops l fr m hps vals L a w)(hr:Region.ready .any ops L=[]):Q .normal a w:=by
 have hall:=qr dE D.size hr;have hml:m=l.length:=by
  rcases Zt m l.length with h|h
  ·have:=D.lt m (hall m (by rw[<-hT.1];exact h));omega
  ·exact Nat.le_antisymm R.le h
 obtain⟨μ1,pb,h,D1,_⟩:=D.st;have hm:=D1.hm;have hlen:∀{k x},l[k]? =some x->k<ops.size:=fun hx=>by rw[<-hT.1];exact(Zb.1 hx).1
 obtain⟨μ2,pb2,D2⟩:=D1.advance R (m - h) (by omega) (fun k x k1 k2 hx=>⟨fun hx2=>by
  have:=(D1.c2 k x hx hx2).1 (hall k (hlen hx));omega,fun _=>hall k (hlen hx)⟩)
 rw[show h+(m - h)=m by omega] at D2;have hX:Xp X pb2=X:=XS fun k=>by
  cases hk:pb2 k with
  |none=>rfl
  |some bk=>
   obtain⟨z1,z2,_⟩:=D2.own k bk hk;have:=D.lt k z1;omega
 have hH:=D2.hr;have hslot:=D2.slot;rw[hX] at hH hslot;rcases R.fin with⟨f1,f2,f3,f4⟩|⟨om,p,f1,_⟩
 ·refine hQ _ _ _ ⟨D.ds,D.tsz,μ2,?_,fun s u hs=> ?_,?_,?_⟩
  ·rw[f4];exact hH
  ·rw[f3] at hs;rw[f4];refine hslot s u ?_;rcases R.look m (Zc _) hs with⟨j,oj,hj,hoj,hdj,rfl⟩|⟨hnone,hfr0⟩
   ·exact .inl ⟨j,oj,hall j (hlen hoj),hoj,hdj,rfl,fun _=>hj⟩
   ·exact .inr ⟨fun j oj hoj hdj=>absurd hdj (hnone j oj (by rw[hml];exact(Zb.1 hoj).1) hoj),hfr0⟩
  ·rw[f4];exact D2.ext
  ·rw[f2];exact trivial
 ·have:=(Zb.1 f1).1;omega

theorem KV(hΓ:SoundO P Γ)(hT:Tie P nt ops l){i:Nat}{ao:AOper}{K:Act->World->Prop}{F:Fr}{h0 h1:Heap}{u:AV}(hb:b<=h0.length)(hH:HR w X μ h0)(hF:FR w X μ h0 F a.tmps)(hi:i<ops.size)(ht2:l[i]? =some ao)
  (hao:aone Γ b ao.base F h0=some (.val u h1))(fin:∀v' w' μ',AR w' X μ' h1 u v'->HR w' X μ' h1->Ext b X μ h0 w μ' h1 w'->K (a.put ao.dst v') w'):wpOpIn (Fe ro) 0 P ops Q i K a w:=by
 obtain⟨o,ho⟩:∃o,ops[i]? =some o:=⟨_,ze hi⟩;obtain⟨ao0,ao',t1,t2,q1,q2,q3,q4⟩:=hT.2 i o ho;rw[ht2] at t2;cases t2;obtain⟨d1,d2,d3⟩:=QF t1;have hod:o.dst=ao.dst:=by rw[q1,d1]
 have hbase:=UA ao;have hwant:∀x,wants F ao.base.guard=some x->Region.wanted o (yielded ops a.tmps)=x:=fun x hx=>Qi hF t1 (by rw[<-q2,<-hbase.2];exact hx);simp only[wpOpIn,ho];unfold aone at hao;split at hao
 ·cases hao
 ·rename_i hw;rw[hwant _ hw];simp only[ZM,if_false];simp only[Option.some.injEq,OpRes.val.injEq] at hao;obtain⟨hv,hhp⟩:=hao;rw[hod];exact⟨fun _ _=>trivial,fin undef w μ (by rw[<-hv];exact .undef _ fun b h=>by cases h) (by rw[<-hhp];exact hH) (by rw[<-hhp];exact Ext.refl _ _ _ _ _)⟩
 ·rename_i hw;rw[hwant _ hw];simp only[if_true];split at hao
  ·cases hao
  ·rename_i vs hvs;refine qm hΓ hb d3 q4 hF (by rw[<-q3];exact hvs) hH hao ?_;intro v' w' μ' h1 h2 h3;rw[hod];exact fin v' w' μ' h1 h2 h3

theorem dM{F:Fr}{q:Nat}{u:AV}{x:AArg}(h:x≠.t q):(F.dst (some q) u).arg x=F.arg x:=by
 cases x with
 |c v=>rfl
 |t s=>
  simp only[Fr.arg,Fr.dst,Fr.look];rw[Za fun e=>h (by rw[e])]

theorem dO{q x:Nat}{p s v:AOper}{sh1 sh2:Sh}{p2 y:AArg}(hΓ:SoundO P Γ)(hT:Tie P nt ops l)(T:Two ops l q x p s v sh1 sh2 p2 y)(R:Run Γ b l fr hp .normal fr' hp' m frs hps vals)
  (hQ:∀e' a' w',Lands nt b w0 X μ0 hp ds .normal fr' hp' e' a' w'->Q e' a' w'):∃h1,∀(n:Nat) (L:Array Bool) (a:Act) (w:World),(DInv nt b w0 X μ0 hp ds ops l fr m hps vals L a w\/DX nt b w0 X μ0 hp ds ops l h1 (frs (l.length - 3)) (frs (l.length - 2)) L a w\/DF nt b w0 X μ0 hp ds ops fr' hp' L a w)->
   (List.range ops.size).countP (fun i=> !L.getD i false)<=n->wpAnyIn (Fe ro) 0 P .any ops Q n L a w:=by
 have n3:=T.n3;obtain⟨rfl,hfr',hhp'⟩:m=l.length/\fr'=frs m/\hp'=hps m:=by
  rcases R.fin with⟨f1,_,f3,f4⟩|⟨_,_,_,_,f,_⟩
  ·exact⟨f1,f3,f4⟩
  ·cases f
 have hN:l.length=ops.size:=hT.1;have e32:l.length - 3+1=l.length - 2:=by omega
 have e21:l.length - 2+1=l.length - 1:=by omega
 have e10:l.length - 1+1=l.length:=by omega
 obtain⟨sp,fp⟩:=R.step (l.length - 3) p (by omega) T.lp;obtain⟨ss,fs⟩:=R.step (l.length - 2) s (by omega) T.ls;obtain⟨sv,fv⟩:=R.step (l.length - 1) v (by omega) T.lv;rw[e32] at sp fp;rw[e21] at ss fs;rw[e10] at sv fv;rw[T.sd] at fs;rw[T.vd] at fv;rw[T.pd] at fp;obtain⟨hpp,hpall⟩:=(Xh sp).1 T.pc;obtain⟨pe,xv,a1,a2,st1,_⟩:=dJ T.sop T.sar T.sg ss

 obtain⟨vp,yv,b1,b2,h1,hsv,hsx⟩:∃vp yv,(frs (l.length - 2)).arg p2=some vp/\(frs (l.length - 2)).arg y=some yv/\∃h1,astore sh2 b (hps (l.length - 2)) vp yv=some h1/\astore sh1 b h1 pe xv=some (hps l.length):=by
  rw[fs] at sv;unfold aone at sv;rw[T.vg] at sv;simp only[wants] at sv;rw[T.var] at sv;split at sv
  ·cases sv
  ·rename_i vs hvs;rw[T.vop] at sv;simp only[aOp,astep,AOp.isPure,AOp.isRead,cond_false,swrite] at sv;cases hw:qa sh2 b (hps (l.length - 1)) vs with
   |none=>rw[hw] at sv;cases sv
   |some z=>
    obtain⟨z1,z2⟩:=z;rw[hw] at sv;cases sv;obtain⟨r0,o0,s1,r1,v1,i1,o1,s2,pp,yy,hvs',hy,hst,_⟩:=Ut hw;obtain⟨c1,us,rfl,k1,k2⟩:=ym hvs;obtain⟨c2,us2,rfl,k3,k4⟩:=ym k2;obtain⟨c3,us3,rfl,k5,k6⟩:=ym k4;obtain⟨c4,rfl,k7⟩:=Jp k6;simp only[List.cons.injEq,and_true] at hvs';obtain⟨rfl,rfl,rfl,rfl⟩:=hvs';have a1':some pe=some (AV.eptr s1 r1 v1 i1 o1):=a1.symm.trans k5;have a2':some xv=some (AV.pv s2 pp):=a2.symm.trans k7;cases a1';cases a2';obtain⟨h1,g1,g2⟩:=dD hy st1 hst;exact⟨_,_,k1,k3,h1,g1,g2⟩
 refine⟨h1,?_⟩;have hend:∀(L:Array Bool) (a:Act) (w:World),(DInv nt b w0 X μ0 hp ds ops l fr l.length hps vals L a w\/DX nt b w0 X μ0 hp ds ops l h1 (frs (l.length - 3)) (frs (l.length - 2)) L a w\/DF nt b w0 X μ0 hp ds ops fr' hp' L a w)->Region.ready .any ops L=[]->Q .normal a w:=by
  rintro L a w (D|D|D) hr
  ·exact dK hT T.dE R hQ D hr
  ·have:=qr T.dE D.size hr (l.length - 2) (by omega);rw[D.ls] at this;cases this
  ·exact hQ _ _ _ D.lands
 have hsz:∀{L:Array Bool} {i:Nat},L.size=ops.size->i<ops.size->i<L.size:=fun h1 h2=>by omega
 have hstep:∀(L:Array Bool) (a:Act) (w:World) (i:Nat),(DInv nt b w0 X μ0 hp ds ops l fr l.length hps vals L a w\/DX nt b w0 X μ0 hp ds ops l h1 (frs (l.length - 3)) (frs (l.length - 2)) L a w\/DF nt b w0 X μ0 hp ds ops fr' hp' L a w)->i∈Region.ready .any ops L->
   wpOpIn (Fe ro) 0 P ops Q i (fun a' w'=>DInv nt b w0 X μ0 hp ds ops l fr l.length hps vals (L.setIfInBounds i true) a' w'\/DX nt b w0 X μ0 hp ds ops l h1 (frs (l.length - 3)) (frs (l.length - 2)) (L.setIfInBounds i true) a' w'\/DF nt b w0 X μ0 hp ds ops fr' hp' (L.setIfInBounds i true) a' w') a w:=by
  rintro L a w i (D|D|D) hi
  ·obtain⟨r1,r2,r3⟩:=qB T.dE D.size D.shut hi;by_cases hx:i=l.length - 1/\L.getD (l.length - 2) false=false
   ·obtain⟨rfl,hls⟩:=hx;have pre:∀j,j<l.length - 3->L.getD j false=true:=fun j hj=>r3 j (T.c1 j hj);obtain⟨μ1,pb,h,D1,_⟩:=D.st;have scls:s.cls=2:=by unfold AOper.cls;simp[T.sop,AOp.isPure,AOp.isRead]
    have hh:h<=l.length - 2:=by
     rcases Zt (l.length - 2) h with h'|h'
     ·rw[(D1.c2 _ s T.ls scls).2 h'] at hls;cases hls
     ·exact h'
    have k3:∀k o,k<l.length - 2->l[k]? =some o->k<l.length - 3\/o.cls=0:=by
     intro k o hk ho;rcases Zt k (l.length - 3) with h'|h'
     ·exact .inl h'
     ·have:k=l.length - 3:=by omega
      subst this;rw[T.lp] at ho;cases ho;exact .inr T.pc
    obtain⟨μ2,pb2,D2⟩:=D1.advance R (l.length - 2 - h) (by omega) (fun k o k1 k2 ho=>by
     rcases k3 k o (by omega) ho with h'|h'
     ·exact⟨fun h2=>by have:=(D1.c2 k o ho h2).1 (pre k h');omega,fun _=>pre k h'⟩
     ·exact⟨by omega,by omega⟩)
    rw[show h+(l.length - 2 - h)=l.length - 2 by omega] at D2;have hX:Xp X pb2=X:=XS fun k=>by
     cases hk:pb2 k with
     |none=>rfl
     |some bk=>
      obtain⟨z1,z2,⟨o,z3,z4⟩,_⟩:=D2.own k bk hk;have:=(Zb.1 z3).1;rcases Zt k (l.length - 1) with h'|h'
      ·have:k=l.length - 2:=by omega
       subst this;rw[hls] at z1;cases z1
      ·have:k=l.length - 1:=by omega
       subst this;rw[r2] at z1;cases z1
    have hH:=D2.hr;have hslot:=D2.slot;rw[hX] at hH hslot;have hls':∀k,l.length - 3<=k->k<=l.length - 2->(k=l.length - 2->L.getD (l.length - 3) false=true)->(k=l.length - 3->L.getD (l.length - 3) false=false)->FR w X μ2 (hps (l.length - 2)) (frs k) a.tmps:=by
     intro k h1 h2 h3 h4 s' u hs;refine hslot s' u ?_;rcases R.look k (by omega) hs with⟨j,oj,hj,hoj,hdj,rfl⟩|⟨hnone,hfr⟩
     ·refine .inl ⟨j,oj,?_,hoj,hdj,rfl,fun _=>by omega⟩;rcases Zt j (l.length - 3) with h'|h'
      ·exact pre j h'
      ·have:j=l.length - 3:=by omega
       subst this;exact h3 (by omega)
     ·refine .inr ⟨fun j oj hoj hdj=> ?_,hfr⟩;rcases Zt j k with h'|h'
      ·exact absurd hdj (hnone j oj h' hoj)
      ·have hjl:=(Zb.1 hoj).1;rcases Zt j (l.length - 2) with h''|h''
       ·have:j=l.length - 3:=by omega
        subst this;exact h4 (by omega)
       ·exfalso;rcases Zt j (l.length - 1) with h5|h5
        ·have:j=l.length - 2:=by omega
         subst this;rw[T.ls] at hoj;cases hoj;rw[T.sd] at hdj;cases hdj
        ·have:j=l.length - 1:=by omega
         subst this;rw[T.lv] at hoj;cases hoj;rw[T.vd] at hdj;cases hdj
    have hF:FR w X μ2 (hps (l.length - 2)) (if L.getD (l.length - 3) false=true then frs (l.length - 2) else frs (l.length - 3)) a.tmps:=by
     split
     ·rename_i h3;exact hls' (l.length - 2) (by omega) (Zc _) (fun _=>h3) (by omega)
     ·rename_i h3;exact hls' (l.length - 3) (Zc _) (by omega) (by omega) (fun _=>by simpa using h3)
    have hbase:v.base={ v with op:=.store sh2,args:=[p2,y] }:=by
     unfold AOper.base;rw[T.vop,T.var]
    have huses:v.uses=yz [p2,y]:=by
     unfold AOper.uses;rw[hbase];simp only[T.vg]
    have harg:∀z,z=p2\/z=y->(if L.getD (l.length - 3) false=true then frs (l.length - 2) else frs (l.length - 3)).arg z=(frs (l.length - 2)).arg z:=by
     intro z hz;split
     ·rfl
     ·rename_i h3;rw[fp];refine(dM ?_).symm;rintro rfl;rcases T.dP (l.length - 1) (l.length - 3) p v (by omega) T.lp T.lv with h'|h'|h'
      ·exact h3 (r3 _ h')
      ·refine KR h' T.pd ?_;rw[huses];rcases hz with rfl|rfl
       ·simp[yz]
       ·cases p2 <;> simp[yz]
      ·omega
    have hao:aone Γ b v.base (if L.getD (l.length - 3) false=true then frs (l.length - 2) else frs (l.length - 3)) (hps (l.length - 2))=some (.val .undef h1):=by
     refine UP (sh:=sh2) (x:=p2) (y:=y) (p:=vp) (v:=yv) (by rw[hbase]) (by rw[hbase]) (by rw[hbase];exact T.vg) ?_ ?_ hsv
     ·rw[harg p2 (.inl rfl)];exact b1
     ·rw[harg y (.inr rfl)];exact b2
    refine KV hΓ hT D2.le hH hF r1 T.lv hao ?_;intro v' w' μ' hv hH' E;refine .inr (.inl ⟨by simp[D.size],qt D.size D.shut r3 r1,by rw[Qh];exact D.ds,by rw[yC];exact D.tsz,fun j hj=> ?_,?_,?_,μ',hH',?_,D2.ext.trans E,ZV D2.le E.len⟩)
    ·rw[YE (hsz D.size r1),Za (by omega)];exact pre j hj
    ·rw[YE (hsz D.size r1)];simp
    ·rw[YE (hsz D.size r1),Za (by omega)];exact hls
    ·have e3:(L.setIfInBounds (l.length - 1) true).getD (l.length - 3) false=L.getD (l.length - 3) false:=by rw[YE (hsz D.size r1),Za (by omega)]
     rw[e3,T.vd];exact FR.put (dst:=none) hF E (by intro d h;cases h) hv
   ·refine wpOpIn_mono (fun a' w' D'=>.inl D') (KS hΓ (hT.2 i) T.dE T.dN T.dU T.dL (by rintro⟨p,h⟩;cases h) R D (fun _=>hQ) hi ?_ ?_)
    ·intro j x' y' hj h1 h2 hL;rcases T.dP i j x' y' hj h1 h2 with h|h|⟨h,h'⟩
     ·exact .inl h
     ·exact .inr h
     ·exact absurd ⟨h,by rw[<-h'];exact hL⟩ hx
    ·intro j x' y' hj h1 h2 hL;rcases T.dP j i y' x' hj h2 h1 with h|h|⟨h,h'⟩
     ·exact .inl h
     ·exact .inr h
     ·exfalso;subst h;subst h';obtain⟨μ1,pb,hh,D1,_⟩:=D.st;have scls:s.cls=2:=by unfold AOper.cls;simp[T.sop,AOp.isPure,AOp.isRead]
      have vcls:v.cls=2:=by unfold AOper.cls;simp[T.vop,AOp.isPure,AOp.isRead]
      have k1:=(D1.c2 _ v T.lv vcls).1 hL;have k2:=(D1.c2 _ s T.ls scls).2 (by omega);rw[r2] at k2;cases k2
  ·obtain⟨r1,r2,r3⟩:=qB T.dE D.size D.shut hi;obtain⟨μ1,hH,hF,hE,hb⟩:=D.st;have hcase:i=l.length - 3\/i=l.length - 2:=by
    rcases Zt i (l.length - 3) with h|h
    ·rw[D.pre i h] at r2;cases r2
    ·rcases Zt i (l.length - 1) with h'|h'
     ·omega
     ·have:i=l.length - 1:=by omega
      subst this;rw[D.lv] at r2;cases r2
   rcases hcase with rfl|rfl
   ·rw[r2] at hF;simp only[ZM,if_false] at hF;have hpb:p.base=p:=JL (by rw[T.pc];omega);refine KV hΓ hT hb hH hF r1 T.lp (by rw[hpb];exact hpall h1) ?_;intro v' w' μ' hv hH' E;refine .inr (.inl ⟨by simp[D.size],qt D.size D.shut r3 r1,by rw[Qh];exact D.ds,by rw[yC];exact D.tsz,fun j hj=> ?_,?_,?_,μ',hH',?_,hE.trans E,ZV hb E.len⟩)
    ·rw[YE (hsz D.size r1),Za (by omega)];exact D.pre j hj
    ·rw[YE (hsz D.size r1),Za (by omega)];exact D.lv
    ·rw[YE (hsz D.size r1),Za (by omega)];exact D.ls
    ·rw[YE (hsz D.size r1)];simp only[if_true];rw[fp,<-T.pd];obtain⟨o,ho⟩:∃o,ops[l.length - 3]? =some o:=⟨_,ze r1⟩;obtain⟨ao0,ao',t1,t2,q1,_⟩:=hT.2 _ o ho;rw[T.lp] at t2;cases t2;obtain⟨d1,d2,d3⟩:=QF t1;exact FR.put hF E (fun d hd=>by rw[D.tsz];exact d2 d (by rw[<-d1,<-q1];exact hd)) hv
   ·have hp3:L.getD (l.length - 3) false=true:=r3 _ T.c2;rw[hp3] at hF;simp only[if_true] at hF;have hsb:s.base=s:=XT (by rw[T.sop];rfl);refine KV hΓ hT hb hH hF r1 T.ls (by rw[hsb];exact UP T.sop T.sar T.sg a1 a2 hsx) ?_;intro v' w' μ' hv hH' E;refine .inr (.inr ⟨by simp[D.size],qt D.size D.shut r3 r1,fun j hj=> ?_,by rw[Qh];exact D.ds,by rw[yC];exact D.tsz,μ',?_,?_,?_,trivial⟩)
    ·rw[YE (hsz D.size r1)];split
     ·rfl
     ·rcases Zt j (l.length - 3) with h|h
      ·exact D.pre j h
      ·rcases Zt j (l.length - 2) with h'|h'
       ·have:j=l.length - 3:=by omega
        subst this;exact hp3
       ·have:j=l.length - 1:=by omega
        subst this;exact D.lv
    ·rw[hhp'];exact hH'
    ·rw[hfr',hhp',fv,T.sd];show FR w' X μ' (hps l.length) (frs (l.length - 1)) _;rw[fs];exact FR.put (dst:=none) (v:=.undef) hF E (by intro d h;cases h) hv
    ·rw[hhp'];exact hE.trans E
  ·obtain⟨r1,r2,r3⟩:=qB T.dE D.size D.shut hi;rw[D.all i r1] at r2;cases r2
 have inv_size:∀{L:Array Bool} {a:Act} {w:World},(DInv nt b w0 X μ0 hp ds ops l fr l.length hps vals L a w\/DX nt b w0 X μ0 hp ds ops l h1 (frs (l.length - 3)) (frs (l.length - 2)) L a w\/DF nt b w0 X μ0 hp ds ops fr' hp' L a w)->L.size=ops.size/\Shut ops L:=by
  rintro L a w (D|D|D)
  ·exact⟨D.size,D.shut⟩
  ·exact⟨D.size,D.shut⟩
  ·exact⟨D.size,D.shut⟩
 intro n
 induction n with
 |zero=>
  intro L a w D hn;obtain⟨z1,z2⟩:=inv_size D;have hr:Region.ready .any ops L=[]:=by
   cases hx:Region.ready .any ops L with
   |nil=>rfl
   |cons i r=>
    exfalso;have hi:i∈Region.ready .any ops L:=by rw[hx];simp
    obtain⟨r1,r2,r3⟩:=qB T.dE z1 z2 hi;have:0<(List.range ops.size).countP (fun i=> !L.getD i false):=by
     rw[List.countP_pos_iff];exact⟨i,ZO.2 r1,by rw[r2];rfl⟩
    omega
  exact⟨hr,hend L a w D hr⟩
 |succ n ih=>
  intro L a w D hn;refine⟨hend L a w D,fun i hi=> ?_⟩;obtain⟨z1,z2⟩:=inv_size D;obtain⟨r1,r2,r3⟩:=qB T.dE z1 z2 hi;refine wpOpIn_mono (fun a' w' D'=>ih _ a' w' D' ?_) (hstep L a w i D hi);have:=qx (l:=List.range ops.size) (p:=fun i=> !L.getD i false) (q:=fun j=> !(L.setIfInBounds i true).getD j false) (ZO.2 r1) (fun x hx=>by
   rw[YE (hsz z1 r1)] at hx;split at hx
   ·cases hx
   ·exact hx) (by rw[r2];rfl) (by rw[YE (hsz z1 r1)];simp)
  omega

theorem dQ{e:AExit}(R:Run Γ b l fr hp e fr' hp' m frs hps vals)(hb:b<=hp.length)(hH:HR w X μ hp)(hF:FR w X μ hp fr a.tmps)(hsz:a.tmps.size=nt):DInv nt b w X μ hp a.defers ops l fr m hps vals (Array.replicate ops.size false) a w.drew:=by
 have h0:∀i,(Array.replicate ops.size false).getD i false=false:=by
  intro i;rw[ZC,zU];split <;> rfl
 have hX:Xp X (fun _=>none)=X:=XS fun _=>rfl;refine⟨by simp,fun i hi=> ?_,fun i hi=> ?_,rfl,hsz,μ,fun _=>none,0,⟨Ze _,fun k o hk hc=> ?_,fun k o hk hc h=>by omega,?_,?_,?_,fun s v hs=> ?_,fun k o hk hc h hL=> ?_,fun k bk h=>(by cases h),fun k k' bk h=>(by cases h)⟩,fun i ao hi hc hL k x h1 h2=>by omega⟩
 ·rw[h0] at hi;cases hi
 ·rw[h0] at hi;cases hi
 ·rw[h0];simp
 ·rw[R.h0,hX];exact hH.drew
 ·rw[R.h0];exact hb
 ·rw[R.h0];exact Ext.drew b
 ·rcases hs with⟨j,o,hj,_⟩|⟨_,h⟩
  ·rw[h0] at hj;cases hj
  ·rw[R.h0,hX];obtain⟨k1,k2⟩:=hF s v h;exact⟨k1,(Ext.drew (X:=X) (μ:=μ) (hp:=hp) (w:=w) 0).ar k2⟩
 ·rw[h0] at hL;cases hL
theorem UQ(hΓ:SoundO P Γ)(hT:Tie P nt ops l)(hdraw:XM ops l=true)(hs:aops Γ b l fr hp=some (.normal,fr',hp'))(hb:b<=hp.length)(hH:HR w X μ hp)(hF:FR w X μ hp fr a.tmps)(hsz:a.tmps.size=nt)
  (hQ:∀e' a' w',Lands nt b w X μ hp a.defers .normal fr' hp' e' a' w'->Q e' a' w'):wpAnyIn (Fe ro) 0 P .any ops Q ops.size (Array.replicate ops.size false) a w.drew:=by
 obtain⟨m,frs,hps,vals,R⟩:=JK l fr hp hs;obtain⟨q,x,p,s,v,sh1,sh2,p2,y,T⟩:=dF hdraw;obtain⟨h1,k⟩:=dO (w0:=w) (X:=X) (μ0:=μ) (ds:=a.defers) hΓ hT T R hQ;refine k ops.size _ a _ (.inl ?_) (ZV (List.countP_le_length) (by simp));exact dQ R hb hH hF hsz
theorem dR(hmix:P.follows .mixedOrders=true)(hΓ:SoundO P Γ)(hT:Tie P nt ops l)(hdraw:XM ops l=true){id:Nat}(hs:aops Γ b l fr hp=some (.normal,fr',hp'))(hb:b<=hp.length)(hH:HR w X μ hp)(hF:FR w X μ hp fr a.tmps)(hsz:a.tmps.size=nt)
  (hQ:∀e' a' w',Lands nt b w X μ hp a.defers .normal fr' hp' e' a' w'->Q e' a' w'):(Code.region id ops true).wpIn (Fe ro) 0 P Q a w:=
 wpIn_region_any hmix (UQ hΓ hT hdraw hs hb hH hF hsz hQ)
theorem dS(hmix:P.follows .mixedOrders=true)(hΓ:SoundO P Γ){pi inv:List Nat}(hp0:xB ops pi inv=true)(hT:Tie P nt (yG ops pi inv) l)(hdraw:XM (yG ops pi inv) l=true){id:Nat}(hs:aops Γ b l fr hp=some (.normal,fr',hp'))(hb:b<=hp.length)(hH:HR w X μ hp)(hF:FR w X μ hp fr a.tmps)(hsz:a.tmps.size=nt)
  (hQ:∀e' a' w',Lands nt b w X μ hp a.defers .normal fr' hp' e' a' w'->Q e' a' w'):(Code.region id ops true).wpIn (Fe ro) 0 P Q a w:=
 wpIn_region_any hmix (dI hp0 ops.size (Array.replicate ops.size false) (Array.replicate ops.size false) a w.drew (by simp) (by simp) (fun i hi=>by
  obtain⟨q1,_⟩:=(qz hp0).2.2 i _ (ze hi);rw[ZC,ZC,zU,zU,Zd q1,Zd hi]) (by
  have k:=UQ (Q:=Q) (ro:=ro) hΓ hT hdraw hs hb hH hF hsz hQ;rw[(qz hp0).1] at k;exact k))
end
end Go.Am

/- Regions where a call may panic beside what stands in no order with it. -/
namespace Go.Am
variable{P:Program} {w:World} {X:Xc P} {μ:Nat->Option Nat} {hp:Heap}

theorem dV{Γ:Oracle}(hΓ:SoundO P Γ){b:Nat}{o:Oper}{azs:List AArg}{fr:Fr}{a:Act}{vs:List AV}{p:PV}{hp':Heap}{K:Act->World->Prop}{Q:Exit->Act->World->Prop}{ro:Option Nat}(ht:trOp P o=some (.call,azs))
  (hF:FR w X μ hp fr a.tmps)(ha:fr.argsOf azs=some vs)(hH:HR w X μ hp)(hs:yi Γ hp vs=some (.panic p hp'))(hA:After b w X μ hp (.panic p hp) a o.dst K Q):o.wpIn (Fe ro) 0 P a w K Q:=by
 obtain⟨c,f,a1,azs',hc1,hc2,hc3,hc4,rfl⟩:=JI ht;have hnd:∀cc,o.op≠.defer cc:=by
  intro cc ec;rw[hc1] at ec;cases ec
 obtain⟨v1,us,rfl,hv1,hus⟩:=ym ha;have g1:=XP hF hc3 hv1;have g2:=Xg hF hc4 hus;simp only[yi] at hs;split at hs
 ·rename_i s0 g as0 heq;simp only[List.cons.injEq] at heq;obtain⟨rfl,rfl⟩:=heq;split at hs
  ·rename_i ps hps;have hCP:=Ju _ _ _ hps g2;have hE:=(HR.empty hH);have hL:=Kx _ _ _ g2 hCP.empty.lr;cases g1 with|pv _ _ _ _ hq=>
   have e1:a.eval f=.func (.func g) ([]:List Value).toArray ([]:List Value).toArray:=by
    generalize a.eval f=u at hq;cases hq;rfl
   have hrun:=JH (P:=P) (w:=w) hc1 hc2 e1;simp only[ZP,ZB] at hrun;split at hs
   ·split at hs <;> cases hs
   ·rename_i q hp2 hg;cases hs;refine qk hnd hrun (hΓ.fn _ _ _ _ _ hg w _ μ _ hE hL) (fun v' w' hR=> ?_) (fun c w' hR=> ?_) (fun w' hR=>hR)
    ·obtain⟨μ',v2,h1,_⟩:=hR;cases h1
    ·obtain⟨μ',p,v',h1,rfl,h2,h3,h4⟩:=hR;cases h1;obtain⟨k1,k2⟩:=back (b:=b) hH h3;refine hA v' w' μ ?_ k1 k2;exact Um (v:=.pv none p) rfl h4
   ·cases hs
  ·cases hs
 ·cases hs
/-! ### The run without the call -/
theorem UR(c:List Nat)(i:Nat):∀(l:List AOper) (j:Nat),(Xo c i j l).length=l.length
 |[],_=>rfl
 |o::r,j=>by simp[Xo,UR c i r (j+1)]
theorem US(c:List Nat)(i:Nat):∀(l:List AOper) (j k:Nat),(Xo c i j l)[k]? =(l[k]?).map fun o=>if bit (c.getD (j+k) 0) i=true then nopO else o
 |[],_,k=>by simp[Xo]
 |o::r,j,k=>by
  cases k with
  |zero=>simp[Xo]
  |succ k=>
   have:=US c i r (j+1) k;simp only[Xo,zN,this];rw[show j+1+k=j+(k+1) by omega]
theorem UT{c:List Nat}{l:List AOper}{i:Nat}(h:i<l.length):(Y0 c l i).length=l.length:=by
 simp only[Y0,Zi,ZF,UR,Zh,ZA];omega
theorem UU{c:List Nat}{l:List AOper}{i j:Nat}(h:i<l.length)(hj:j<i):(Y0 c l i)[j]? =l[j]? :=by
 unfold Y0;rw[ZI (by rw[Zh];omega),ZN,Zd hj]
theorem dW{c:List Nat}{l:List AOper}{i:Nat}(h:i<l.length):(Y0 c l i)[i]? =some nopO:=by
 unfold Y0;rw[ZZ (by rw[Zh];omega),Zh,show i - min i l.length=0 by omega];rfl
theorem UV{c:List Nat}{l:List AOper}{i j:Nat}(h:i<l.length)(hj:i<j):(Y0 c l i)[j]? =(l[j]?).map fun o=>if bit (c.getD j 0) i=true then nopO else o:=by
 unfold Y0;rw[ZZ (by rw[Zh];omega),Zh,show j - min i l.length=(j - i - 1)+1 by omega,zN,US,ZR];rw[show i+1+(j - i - 1)=j by omega]
theorem UW{c:List Nat}{l:List AOper}{i j d:Nat}{o:AOper}(h:i<l.length)(hj:(Y0 c l i)[j]? =some o)(hd:o.dst=some d):j≠i/\l[j]? =some o:=by
 rcases Nat.lt_trichotomy j i with k|k|k
 ·rw[UU h k] at hj;exact⟨by omega,hj⟩
 ·subst k;rw[dW h] at hj;cases hj;cases hd
 ·rw[UV h k] at hj;cases hl:l[j]? with
  |none=>rw[hl] at hj;cases hj
  |some o'=>
   rw[hl] at hj;simp only[zF,Option.some.injEq] at hj;split at hj
   ·subst hj;cases hd
   ·subst hj;exact⟨by omega,rfl⟩

theorem KW{Γ:Oracle}{b:Nat}:∀(x y:List AOper) (fr:Fr) (hp:Heap),aops Γ b (x++y) fr hp=match aops Γ b x fr hp with
  |some (.normal,fr',hp')=>aops Γ b y fr' hp'
  |r=>r
 |[],y,fr,hp=>rfl
 |o::r,y,fr,hp=>by
  simp only[ZJ,qn];cases aone Γ b o fr hp with
  |none=>rfl
  |some q=>
   cases q with
   |val v hp'=>exact KW r y _ _
   |panic p hp'=>rfl
theorem UX{Γ:Oracle}{vs:List AV}{v:AV}{hp hp':Heap}(h:yi Γ hp vs=some (.val v hp')):X6 Γ hp vs=some (.val v hp):=by
 unfold yi at h;split at h
 ·split at h
  ·rename_i ps he;split at h
   ·rename_i u hq hg;split at h
    ·rename_i v' hv;cases h;simp only[X6,he,hg,hv]
    ·cases h
   ·cases h
   ·cases h
  ·cases h
 ·cases h
theorem KX{o:AOper}(h:o.isCallp=true):o.op=.callp/\o.guard=none:=by
 unfold AOper.isCallp at h;split at h
 ·rename_i h1 h2;exact⟨h1,h2⟩
 ·cases h
theorem JO{Γ:Oracle}{b:Nat}{c:List Nat}{fr':Fr}{hp':Heap}:∀(l:List AOper) (i:Nat) (fr:Fr) (hp:Heap),YZ Γ b (xA c i l) fr hp=some (.normal,fr',hp')->aops Γ b l fr hp=some (.normal,fr',hp')
 |[],_,fr,hp,h=>h
 |o::r,i,fr,hp,h=>by
  simp only[xA] at h;by_cases hc:o.isCallp=true
  ·rw[Zd hc] at h;obtain⟨h1,h2⟩:=KX hc;simp only[YZ] at h;simp only[aops,h2,wants];split at h
   ·cases h
   ·rename_i vs hvs;simp only[hvs,h1,aOp];split at h
    ·rename_i v hp2 hq;rw[UX hq];exact JO r (i+1) _ _ h
    ·split at h <;> cases h
    ·cases h
  ·rw[Za hc] at h;simp only[YZ] at h;rw[qn];unfold aone;cases hw:wants fr o.guard with
   |none=>rw[hw] at h;cases h
   |some x=>
    rw[hw] at h;cases x with
    |false=>exact JO r (i+1) _ _ h
    |true=>
     simp only[] at h ⊢;cases hvs:fr.argsOf o.args with
     |none=>rw[hvs] at h;cases h
     |some vs=>
      rw[hvs] at h;simp only[] at h ⊢;cases ho:aOp Γ b o.op vs hp with
      |none=>rw[ho] at h;cases h
      |some q=>
       rw[ho] at h;cases q with
       |val v hpn=>exact JO r (i+1) _ _ h
       |panic p hpn=>cases h
theorem JP{Γ:Oracle}{b:Nat}{c:List Nat}{fr':Fr}{hp':Heap}{p:PV}:∀(l:List AOper) (i:Nat) (fr:Fr) (hp:Heap),YZ Γ b (xA c i l) fr hp=some (.panic p,fr',hp')->∃k o fr1 hp1 vs hp2,l[k]? =some o/\o.isCallp=true/\aops Γ b (l.take k) fr hp=some (.normal,fr1,hp1)/\fr1.argsOf o.args=some vs/\yi Γ hp1 vs=some (.panic p hp2)/\∃fr3 hp3,aops Γ b (Xo c (i+k) (i+k+1) (l.drop (k+1))) fr1 hp1=some (.normal,fr3,hp3)
 |[],_,fr,hp,h=>by cases h
 |o::r,i,fr,hp,h=>by
  have up:∀(v:AV) (hpn:Heap),aone Γ b o fr hp=some (.val v hpn)->(∃k o' fr1 hp1 vs hp2,r[k]? =some o'/\o'.isCallp=true/\aops Γ b (r.take k) (fr.dst o.dst v) hpn=some (.normal,fr1,hp1)/\fr1.argsOf o'.args=some vs/\yi Γ hp1 vs=some (.panic p hp2)/\∃fr3 hp3,aops Γ b (Xo c (i+1+k) (i+1+k+1) (r.drop (k+1))) fr1 hp1=some (.normal,fr3,hp3))->∃k o' fr1 hp1 vs hp2,(o::r)[k]? =some o'/\o'.isCallp=true/\aops Γ b ((o::r).take k) fr hp=some (.normal,fr1,hp1)/\fr1.argsOf o'.args=some vs/\yi Γ hp1 vs=some (.panic p hp2)/\∃fr3 hp3,aops Γ b (Xo c (i+k) (i+k+1) ((o::r).drop (k+1))) fr1 hp1=some (.normal,fr3,hp3):=by
   rintro v hpn ho ⟨k,o',fr1,hp1,vs,hp2,h1,h2,h3,h4,h5,h6⟩;refine⟨k+1,o',fr1,hp1,vs,hp2,by simpa using h1,h2,?_,h4,h5,?_⟩
   ·simp only[ZW,qn,ho];exact h3
   ·rw[show i+(k+1)=i+1+k by omega];exact h6
  simp only[xA] at h;by_cases hc:o.isCallp=true
  ·rw[Zd hc] at h;obtain⟨h1,h2⟩:=KX hc;simp only[YZ] at h;split at h
   ·cases h
   ·rename_i vs hvs;split at h
    ·rename_i v hp2 hq;exact up v hp (by simp only[aone,h2,wants,hvs,h1,aOp,UX hq]) (JP r (i+1) _ _ h)
    ·rename_i p' hp2 hq;split at h
     ·rename_i fr3 hp3 hl;cases h;exact⟨0,o,fr,_,vs,hp2,rfl,hc,rfl,hvs,hq,fr3,hp3,hl⟩
     ·cases h
    ·cases h
  ·rw[Za hc] at h;simp only[YZ] at h;split at h
   ·cases h
   ·rename_i hw;exact up _ hp (by simp only[aone,hw]) (JP r (i+1) _ _ h)
   ·rename_i hw;split at h
    ·cases h
    ·rename_i vs hvs;split at h
     ·rename_i v hpn ho;exact up v hpn (by simp only[aone,hw,hvs,ho]) (JP r (i+1) _ _ h)
     ·cases h
theorem Run.take{Γ:Oracle}{b:Nat}{l:List AOper}{fr fr':Fr}{hp hp':Heap}{e:AExit}{m:Nat}{frs:Nat->Fr}{hps:Nat->Heap}{vals:Nat->AV}(R:Run Γ b l fr hp e fr' hp' m frs hps vals):∀k,k<=m->aops Γ b (l.take k) fr hp=some (.normal,frs k,hps k)
 |0,_=>by rw[zo,R.f0,R.h0];rfl
 |k+1,hk=>by
  have hlt:k<l.length:=ZD hk R.le;have ho:l[k]? =some l[k]:=Zf hlt;obtain⟨s1,s2⟩:=R.step k _ hk ho;rw[zO,ho,KW,R.take k (by omega)];simp only[Option.toList_some,qn,s1,s2];rfl
theorem UY{o:AOper}(h:o.quiet=true):o.cls≠2/\o.cls≠3/\o.isCallh=false:=by
 simp only[AOper.quiet,Zg,zr,beq_iff_eq,zD] at h;exact⟨by rcases h.1 with h|h <;> omega,by rcases h.1 with h|h <;> omega,h.2⟩
section
variable{Γ:Oracle} {nt b:Nat} {w0:World} {μ0:Nat->Option Nat} {ds:List Deferred} {ops:Array Oper} {l:List AOper} {fr fr':Fr} {hp':Heap} {m:Nat} {frs:Nat->Fr} {hps:Nat->Heap} {vals:Nat->AV}
variable{Q:Exit->Act->World->Prop} {ro:Option Nat}
theorem dX{i j:Nat}(h:bit ((YI [] ops.toList).getD i 0) j=true):j∈(clos [] ops.toList).getD i []:=
 KL ops.toList [] [] rfl (fun i j hb=>by simp[KJ] at hb) i j h

theorem dY(hΓ:SoundO P Γ)(hT:Tie P nt ops l)(hd:YV ops l=true){i0:Nat}{o0:AOper}(h0:l[i0]? =some o0)(hcp:o0.isCallp=true)(hd2:YV ops (Y0 (YI [] ops.toList) l i0)=true)(hq:(Y0 (YI [] ops.toList) l i0).all AOper.quiet=true)
  (R:Run Γ b (Y0 (YI [] ops.toList) l i0) fr hp .normal fr' hp' m frs hps vals){vs:List AV}(hvs:(frs i0).argsOf o0.args=some vs){p:PV}{hpx:Heap}(hcall:yi Γ hp vs=some (.panic p hpx))
  (hQ:∀e' a' w',Lands nt b w0 X μ0 hp ds (.panic p) [] hp e' a' w'->Q e' a' w'):∀(n:Nat) (L:Array Bool) (a:Act) (w:World),DInv nt b w0 X μ0 hp ds ops (Y0 (YI [] ops.toList) l i0) fr m hps vals L a w->L.getD i0 false=false->(List.range ops.size).countP (fun i=> !L.getD i false)<=n->wpAnyIn (Fe ro) 0 P .any ops Q n L a w:=by
 have hi0:i0<l.length:=(Zb.1 h0).1;have hi0s:i0<ops.size:=by rw[<-hT.1];exact hi0
 obtain⟨dE,dN,dU,dL,dP⟩:=QG hd;obtain⟨_,dN2,dU2,dL2,dP2⟩:=QG hd2;generalize hl2:Y0 (YI [] ops.toList) l i0=l2 at hd2 hq R dN2 dU2 dL2 dP2;have hlen:l2.length=l.length:=by rw[<-hl2];exact UT hi0
 have hqk:∀(k:Nat) (o:AOper),l2[k]? =some o->o.cls≠2/\o.cls≠3/\o.isCallh=false:=fun k o hk=>UY (Zm.1 hq o (Zj hk));have hm:m=l2.length:=by
  rcases R.fin with⟨f1,_⟩|⟨_,_,_,_,f3,_⟩
  ·exact f1
  ·cases f3
 have hhp:∀k,k<=m->hps k=hp:=fun k hk=>by
  have:=R.heap (i:=0) k (by omega) (fun j o _ _ hj=>by
   obtain⟨k1,k2,_⟩:=hqk j o hj;exact⟨k1,k2⟩)
  rw[Zv] at this;rw[this,R.h0]
 have hend:∀(L:Array Bool) (a:Act) (w:World),DInv nt b w0 X μ0 hp ds ops l2 fr m hps vals L a w->L.getD i0 false=false->Region.ready .any ops L≠[]:=by
  intro L a w D hL hr;have:=qr dE D.size hr i0 hi0s;rw[hL] at this;cases this
 intro n
 induction n with
 |zero=>
  intro L a w D hL hn;exfalso;have:0<(List.range ops.size).countP (fun i=> !L.getD i false):=by
   rw[List.countP_pos_iff];exact⟨i0,ZO.2 hi0s,by simp only[hL];rfl⟩
  omega
 |succ n ih=>
  intro L a w D hL hn;refine⟨fun hr=>absurd hr (hend L a w D hL),fun i hi=> ?_⟩;obtain⟨r1,r2,r3⟩:=qq dE D.shut hi;have hsz:i<L.size:=by rw[D.size];exact r1
  by_cases he:i=i0
  ·subst he;obtain⟨o,ho⟩:∃o,ops[i]? =some o:=⟨_,ze r1⟩;obtain⟨ao0,ao,t1,t2,q1,q2,q3,q4⟩:=hT.2 i o ho;rw[h0] at t2;cases t2;obtain⟨d1,d2,d3⟩:=QF t1;obtain⟨c1,c2⟩:=KX hcp;have hb0:o0.base=o0:=JL (by simp[AOper.cls,c1]);have hop:ao0.op=.call:=by
    rw[hb0,c1] at q4;rcases q4 with h|⟨sh,_,h|h⟩|⟨h,_⟩|⟨_,_,h⟩|⟨_,_,h⟩
    ·exact absurd d3 (by rw[<-h];exact Un)
    ·cases h
    ·cases h
    ·exact h
    ·cases h
    ·cases h
   have hargs:ao0.args=o0.args:=by rw[<-q3,hb0]
   obtain⟨μ1,pb,h,D1,_⟩:=D.st;have hX:Xp X pb=X:=XS fun k=>by
    cases hk:pb k with
    |none=>rfl
    |some bk=>
     obtain⟨_,_,⟨o',z1,z2⟩,_⟩:=D1.own k bk hk;exact absurd z2 (hqk k o' z1).2.1
   have hH:=D1.hr;have hslot:=D1.slot;have hext:=D1.ext;rw[hX] at hH hslot;rw[hhp h D1.hm] at hH hslot hext;have hLS:∀s u,s∈o0.uses->(frs i).look s=some u->LS l2 vals fr L h s u:=by
    intro s u hs hlook;rcases R.look i (by omega) hlook with⟨j,oj,hj,hoj,hdj,rfl⟩|⟨hnone,hfr0⟩
    ·refine .inl ⟨j,oj,?_,hoj,hdj,rfl,fun c=>absurd c (hqk j oj hoj).2.1⟩;rw[<-hl2] at hoj;obtain⟨_,hoj'⟩:=UW hi0 hoj hdj;rcases dP i j oj o0 hj hoj' h0 with hh|hh
     ·exact r3 j hh
     ·exact absurd hs (KR hh hdj)
    ·refine .inr ⟨fun j oj hoj hdj=> ?_,hfr0⟩;cases hLj:L.getD j false with
     |false=>rfl
     |true=>
      exfalso;rcases Nat.lt_trichotomy j i with hji|hji|hji
      ·exact hnone j oj hji hoj hdj
      ·subst hji;rw[hL] at hLj;cases hLj
      ·rw[<-hl2] at hoj;obtain⟨_,hoj'⟩:=UW hi0 hoj hdj;rcases dP j i o0 oj hji h0 hoj' with hh|hh
       ·have:=D.shut j hLj i hh;rw[hL] at this;cases this
       ·exact UE hh hdj hs
   have hF:FR w X μ1 hp ((frs i).keep o0.uses) a.tmps:=fun s u hs=>by
    obtain⟨k1,k2⟩:=qw hs;exact hslot s u (hLS s u k1 k2)
   have huse:∀s∈yz o0.args,s∈o0.uses:=fun s hs=>by
    unfold AOper.uses;rw[hb0,c2];exact hs
   have hvs2:((frs i).keep o0.uses).argsOf ao0.args=some vs:=by
    rw[hargs,KO (g:=frs i) fun s hs=>qv (huse s hs)];exact hvs
   have hwant:Region.wanted o (yielded ops a.tmps)=true:=Qi (w:=w) (X:=X) (μ:=μ1) (hp:=hp) (fr:=[]) (fun s u hs=>by simp[Fr.look] at hs) t1 (by rw[<-q2,c2];rfl);simp only[wpOpIn,ho,hwant,if_true];rw[hop] at d3;refine dV hΓ (b:=b) d3 hF hvs2 hH hcall fun v' w' μ' hv hH' E=>hQ _ _ _ ⟨D.ds,D.tsz,μ',hH',fun s u hs=>by simp[Fr.look] at hs,hext.trans E,⟨v',rfl,hv⟩⟩
  ·have hg:l2[i]? =l[i]? :=by
    rw[<-hl2];rcases Zt i i0 with k|k
    ·exact UU hi0 k
    ·rw[UV hi0 (by omega)];have hb:bit ((YI [] ops.toList).getD i 0) i0=false:=by
      cases hb:bit ((YI [] ops.toList).getD i 0) i0 with
      |false=>rfl
      |true=>
       have:=r3 i0 (dX hb);rw[hL] at this;cases this
     cases l[i]? with
     |none=>rfl
     |some x=>simp only[zF,hb];rfl
   refine wpOpIn_mono (fun a' w' D'=>ih _ a' w' D' ?_ ?_) (KS hΓ (fun o ho=>by
    obtain⟨ao0,ao,t1,t2,q⟩:=hT.2 i o ho;exact⟨ao0,ao,t1,by rw[hg];exact t2,q⟩) dE dN2 dU2 dL2 (by rintro⟨p,h⟩;cases h) R D (by rintro⟨p,h⟩;cases h) hi (fun j x y h1 h2 h3 _=>dP2 i j x y h1 h2 h3) fun j x y h1 h2 h3 _=>dP2 j i y x h1 h3 h2)
   ·rw[YE hsz,Za (by omega)];exact hL
   ·have:=qx (l:=List.range ops.size) (p:=fun i=> !L.getD i false) (q:=fun j=> !(L.setIfInBounds i true).getD j false) (ZO.2 r1) (fun x hx=>by
     rw[YE hsz] at hx;split at hx
     ·cases hx
     ·exact hx) (by
     rw[ZC] at r2 ⊢;simp[hsz] at r2 ⊢;exact r2) (by rw[YE hsz];simp)
    omega
theorem UZ{ops:Array Oper}{l:List AOper}(h:qe ops l=true):YV ops l=true/\∀i o,l[i]? =some o->o.isCallp=true->YV ops (Y0 (YI [] ops.toList) l i)=true/\(Y0 (YI [] ops.toList) l i).all AOper.quiet=true:=by
 simp only[qe,Zg,Zm (p:=fun i=>_)] at h;obtain⟨⟨h1,_⟩,h3⟩:=h;refine⟨h1,fun i o ho hc=> ?_⟩;have:=h3 i (ZO.2 (Zb.1 ho).1);rw[ho] at this;simp only[hc,if_true,Zg] at this;exact this
theorem dZ(hmix:P.follows .mixedOrders=true)(hΓ:SoundO P Γ)(hT:Tie P nt ops l)(hd:qe ops l=true){id:Nat}{a:Act}{p:PV}(hs:YZ Γ b (xA (YI [] ops.toList) 0 l) fr hp=some (.panic p,fr',hp'))(hb:b<=hp.length)(hH:HR w X μ hp)(hF:FR w X μ hp fr a.tmps)(hsz:a.tmps.size=nt)
  (hQ:∀e' a' w',Lands nt b w X μ hp a.defers (.panic p) [] hp e' a' w'->Q e' a' w'):(Code.region id ops true).wpIn (Fe ro) 0 P Q a w:=by
 obtain⟨hd1,hd2⟩:=UZ hd;obtain⟨k,o,fr1,hp1,vs,hp2,g1,g2,g3,g4,g5,fr3,hp3,g6⟩:=JP l 0 fr hp hs;obtain⟨k1,k2⟩:=hd2 k o g1 g2;have hk:k<l.length:=(Zb.1 g1).1;rw[Zv] at g6;have hrun:aops Γ b (Y0 (YI [] ops.toList) l k) fr hp=some (.normal,fr3,hp3):=by
  unfold Y0;rw[KW,g3];exact g6
 obtain⟨m,frs,hps,vals,R⟩:=JK _ fr hp hrun;have hm:m=(Y0 (YI [] ops.toList) l k).length:=by
  rcases R.fin with⟨f1,_⟩|⟨_,_,_,_,f3,_⟩
  ·exact f1
  ·cases f3
 rw[UT hk] at hm;have ht:=R.take k (by omega);have htk:(Y0 (YI [] ops.toList) l k).take k=l.take k:=by
  unfold Y0;rw[zT (by rw[Zh];omega),Zz,Nat.min_self]
 rw[htk,g3] at ht;simp only[Option.some.injEq,Prod.mk.injEq,true_and] at ht;obtain⟨e1,e2⟩:=ht;have hhp:hps k=hp:=by
  have:=R.heap (i:=0) k (by omega) (fun j o _ _ hj=>by
   obtain⟨k1,k2,_⟩:=UY (Zm.1 k2 o (Zj hj));exact⟨k1,k2⟩)
  rw[Zv] at this;rw[this,R.h0]
 rw[e1] at g4;rw[e2,hhp] at g5;refine wpIn_region_any hmix (dY (w0:=w) (X:=X) (μ0:=μ) (ds:=a.defers) hΓ hT hd1 g1 g2 k1 k2 R g4 g5 hQ ops.size _ a _ ?_ ?_ (ZV (List.countP_le_length) (by simp)))
 ·have h0:∀i,(Array.replicate ops.size false).getD i false=false:=by
   intro i;rw[ZC,zU];split <;> rfl
  have hX:Xp X (fun _=>none)=X:=XS fun _=>rfl;refine⟨by simp,fun i hi=> ?_,fun i hi=> ?_,rfl,hsz,μ,fun _=>none,0,⟨Ze _,fun k o hk hc=> ?_,fun k o hk hc h=>by omega,?_,?_,?_,fun s v hs=> ?_,fun k o hk hc h hL=> ?_,fun k bk h=>(by cases h),fun k k' bk h=>(by cases h)⟩,fun i ao hi hc hL k x h1 h2=>by omega⟩
  ·rw[h0] at hi;cases hi
  ·rw[h0] at hi;cases hi
  ·rw[h0];simp
  ·rw[R.h0,hX];exact hH.drew
  ·rw[R.h0];exact hb
  ·rw[R.h0];exact Ext.drew b
  ·rcases hs with⟨j,o,hj,_⟩|⟨_,h⟩
   ·rw[h0] at hj;cases hj
   ·rw[R.h0,hX];obtain⟨k1,k2⟩:=hF s v h;exact⟨k1,(Ext.drew (X:=X) (μ:=μ) (hp:=hp) (w:=w) 0).ar k2⟩
  ·rw[h0] at hL;cases hL
 ·rw[ZC,zU];split <;> rfl
end
end Go.Am

/- Code. -/
namespace Go.Am
variable{P:Program} {w:World} {X:Xc P} {μ:Nat->Option Nat} {hp:Heap}

inductive Tr(P:Program)(nt:Nat):Code->ACode->Prop
 |skip:Tr P nt .skip .skip
 |region (id:Nat) (ops:Array Oper) (l l0:List AOper) (pan:Bool) (keep:List Nat) (h:yj P nt ops ops.toList=some l0) (hlk:Likes l l0):Tr P nt (.region id ops false) (.region pan l keep)
 |draw (id:Nat) (ops:Array Oper) (l:List AOper) (pan:Bool) (keep:List Nat) (hT:Tie P nt ops l) (hd:YV ops l=true) (hp:pan=true->yk ops l=true):Tr P nt (.region id ops true) (.region pan l keep)
 |draw2 (id:Nat) (ops:Array Oper) (l:List AOper) (keep:List Nat) (hT:Tie P nt ops l) (hd:XM ops l=true):Tr P nt (.region id ops true) (.region false l keep)
 |draw2p (id:Nat) (ops:Array Oper) (pi inv:List Nat) (l:List AOper) (keep:List Nat) (hp:xB ops pi inv=true) (hT:Tie P nt (yG ops pi inv) l) (hd:XM (yG ops pi inv) l=true):Tr P nt (.region id ops true) (.region false l keep)
 |doom (id:Nat) (ops:Array Oper) (l:List AOper) (keep:List Nat) (hT:Tie P nt ops l) (hd:qe ops l=true):Tr P nt (.region id ops true) (.doom (xA (YI [] ops.toList) 0 l) keep)
 |settle (c:Code) (ac:ACode) (ss:List Nat) (h:Tr P nt c ac):Tr P nt c (.seq (.settle ss) ac)
 |seq (x y:Code) (a b:ACode) (hx:Tr P nt x a) (hy:Tr P nt y b):Tr P nt (.seq x y) (.seq a b)
 |cond (c:Operand) (ca:AArg) (x y:Code) (a b:ACode) (hc:YN P 0 c=some ca) (hx:Tr P nt x a) (hy:Tr P nt y b):Tr P nt (.cond c x y) (.cond ca a b)
 |block (id:Nat) (c:Code) (a:ACode) (h:Tr P nt c a):Tr P nt (.block id c) (.block id a)
 |loop (keep:List Nat) (c:Code) (a:ACode) (h:Tr P nt c a):Tr P nt (.loop c) (.loop keep a)
 |label (id:Nat):Tr P nt (.label id) .skip
 |scope (c:Code) (a:ACode) (h:Tr P nt c a):Tr P nt (.scope c) a
 |exit (id:Nat):Tr P nt (.exit id) (.exit id)
 |ret:Tr P nt .ret .ret

theorem qC{b:Frame}{a:Act}{k:List Item}{cs:List Frame}{c:Code}:step P (lone (b.atR a (.code (.scope c)::k)) cs w)=.next (lone (b.atR a (.code c::.inScope c::k)) cs w):=
 step_lone_go (by simp[stepG,stepG.exec,Frame.atR])
theorem d7{b:Frame}{a:Act}{k:List Item}{cs:List Frame}{c:Code}:step P (lone (b.atR a (.inScope c::k)) cs w)=.next (lone (b.atR a k) cs w):=
 step_lone_go (by simp[stepG,stepG.exec,Frame.atR])
theorem d8{F:Fence}{n:Nat}{Q:Exit->Act->World->Prop}{a:Act}{c:Code}(h:c.wpIn F n P (Exit.noGoto Q) a w):(Code.scope c).wpIn F n P Q a w:=by
 intro b k cs hro hb hr;have h0:(lone (b.atR a (.code (.scope c)::k)) cs w).fenced P F:=fenced_calm hb hr rfl;obtain⟨e,a₁,w₁,hq,harr⟩:=h b (.inScope c::k) cs hro hb hr;have hx:∀id,exitTo id (.inScope c::k)=exitTo id k:=fun id=>by simp[exitTo]
 cases e with
 |normal=>exact⟨.normal,a₁,w₁,hq,.head h0 qC (StepsIn.trans harr (.one (fenced_calm hb hr rfl) d7))⟩
 |exit id=>
  exact⟨_,a₁,w₁,hq,.of_steps (.one h0 qC) ⟨fun k' hk=>harr.1 k' (by rw[hx];exact hk),fun hr' hk=>harr.2 hr' (by rw[hx];exact hk)⟩⟩
 |goto l=>exact hq.elim
 |ret=>exact⟨_,a₁,w₁,hq,.of_steps (.one h0 qC) harr⟩
 |panic ch=>exact⟨_,a₁,w₁,hq,.of_steps (.one h0 qC) harr⟩
 |outgrown=>exact⟨_,a₁,w₁,hq,.of_steps (.one h0 qC) harr⟩

def Own(b:Nat)(hp:Heap):Prop:=∀(i:Nat) (o:AObj),i<b->hp[i]? =some o->∀q∈o.refs,q<b

theorem Own.ext{b:Nat}{μ':Nat->Option Nat}{hp':Heap}{w':World}(h:Own b hp)(hb:b<=hp.length)(E:Ext b X μ hp w μ' hp' w'):Own b hp':=by
 intro i o hi ho q hq;have hlt:i<hp.length:=by omega
 cases hx:hp[i] with
 |box s u=>
  obtain⟨v',h1,h2,h3⟩:=E.box i s u (by rw[Zf hlt,hx]);rw[h1] at ho;cases ho;exact h i (.box s u) hi (by rw[Zf hlt,hx]) q (h3 hi q hq)
 |arr s es fz=>
  obtain⟨es',fz',h1,_⟩:=E.arr i s es fz (by rw[Zf hlt,hx]);rw[h1] at ho;cases ho;cases hq
 |map s es=>
  obtain⟨es',h1,_⟩:=E.map i s es (by rw[Zf hlt,hx]);rw[h1] at ho;cases ho;cases hq
 |loop f ps env bz=>
  obtain⟨bz',h1,_⟩:=E.loop i f ps env bz (by rw[Zf hlt,hx]);rw[h1] at ho;cases ho;exact h i (.loop f ps env bz) hi (by rw[Zf hlt,hx]) q hq
 |arv s es=>
  obtain⟨n,h1,_,_,h4⟩:=E.arv i s es (by rw[Zf hlt,hx]);rcases XN h1 with⟨es',e,_⟩|⟨es',e,_⟩
  ·rw[e] at ho;cases ho;exact h i (.arv s es) hi (by rw[Zf hlt,hx]) q (h4 es' e hi q hq)
  ·rw[e] at ho;cases ho;cases hq

theorem HR.own(h:HR w X μ hp):Own hp.length hp:=by
 intro i o hi ho q hq;cases o with
 |box sh v=>
  obtain⟨b,val,t,_,_,_,_,h5⟩:=h.box i sh v ho;exact h5.refs_lt q hq
 |arr s es fz=>cases hq
 |map s es=>cases hq
 |loop f ps env bz=>
  obtain⟨l,rc,_,_,_,_,_,_,h7⟩:=h.loop i f ps env bz ho;obtain⟨x,hx,hqx⟩:=DN hq;exact(h7 x hx).2.refs_lt q hqx
 |arv s es=>
  obtain⟨_,b,cs,t,vals,_,_,h3,h4,_⟩:=h.arv i s es ho;obtain⟨a,ha,hqa⟩:=(xa _ _).1 hq;obtain⟨k,hk⟩:=Z6.1 ha;have hkl:k<vals.length:=by rw[<-h3];exact(Zb.1 hk).1
  exact(h4 k a vals[k] hk (Zf hkl)).2.refs_lt q hqa

def KY(P:Program)(nt:Nat)(Γ:Oracle)(Λ:Yw)(c:Code)(ac:ACode):Prop:=
 ∀(b:Nat) (st:St) (e:AExit) (st':St),aexec Γ Λ b ac st=some (e,st')->∀(w:World) (X:Xc P) (μ:Nat->Option Nat) (a:Act) (Q:Exit->Act->World->Prop) (ro:Option Nat),b<=st.hp.length->Own b st.hp->HR w X μ st.hp->FR w X μ st.hp st.fr a.tmps->a.tmps.size=nt->
  (∀e' a' w',Lands nt b w X μ st.hp a.defers e st'.fr st'.hp e' a' w'->Q e' a' w')->c.wpIn (Fe ro) 0 P Q a w

def xd(P:Program)(nt:Nat)(Λ:Yw)(c:Code)(ac:ACode):Prop:=
 ∀(b:Nat) (keep:List Nat) (st:St) (e:AExit) (st':St),Λ b st.hp.length keep ac st=some (e,st')->∀(w:World) (X:Xc P) (μ:Nat->Option Nat) (a:Act) (Q:Exit->Act->World->Prop) (ro:Option Nat),b<=st.hp.length->Own b st.hp->HR w X μ st.hp->FR w X μ st.hp st.fr a.tmps->a.tmps.size=nt->
  (∀e' a' w',Lands nt b w X μ st.hp a.defers e st'.fr st'.hp e' a' w'->Q e' a' w')->(Code.loop c).wpIn (Fe ro) 0 P Q a w

theorem Lands.keep{nt b:Nat}{ds:List Deferred}{e:AExit}{fr:Fr}{hp':Heap}{e':Exit}{a:Act}{w':World}(h:Lands nt b w X μ hp ds e fr hp' e' a w')(ks:List Nat):Lands nt b w X μ hp ds e (fr.keep ks) hp' e' a w':=by
 obtain⟨h1,h2,μ',h3,h4,h5,h6⟩:=h;exact⟨h1,h2,μ',h3,h4.keep ks,h5,h6⟩

theorem JQ{nt:Nat}{Γ:Oracle}{Λ:Yw}(hmix:P.follows .mixedOrders=true)(hΓ:SoundO P Γ)(hΛ:∀c ac,Tr P nt c ac->xd P nt Λ c ac){c:Code}{ac:ACode}(h:Tr P nt c ac):KY P nt Γ Λ c ac:=by
 induction h with
 |skip=>
  intro b st e st' hs w X μ a Q ro hb hO hH hF hsz hQ;cases hs;exact wpIn_skip (hQ _ _ _ ⟨rfl,hsz,μ,hH,hF,Ext.refl _ _ _ _ _,trivial⟩)
 |label id=>
  intro b st e st' hs w X μ a Q ro hb hO hH hF hsz hQ;cases hs;exact wpIn_label (hQ _ _ _ ⟨rfl,hsz,μ,hH,hF,Ext.refl _ _ _ _ _,trivial⟩)
 |scope c ac _ ih=>
  intro b st e st' hs w X μ a Q ro hb hO hH hF hsz hQ;apply d8;refine ih b st e st' hs w X μ a _ ro hb hO hH hF hsz fun e' a' w' hL=> ?_;have hq:=hQ e' a' w' hL;obtain⟨_,_,μ',_,_,_,h6⟩:=hL;cases e' with
  |goto l=>cases e <;> exact h6.elim
  |_=>exact hq
 |exit id=>
  intro b st e st' hs w X μ a Q ro hb hO hH hF hsz hQ;cases hs;exact wpIn_exit (hQ _ _ _ ⟨rfl,hsz,μ,hH,hF,Ext.refl _ _ _ _ _,rfl⟩)
 |ret=>
  intro b st e st' hs w X μ a Q ro hb hO hH hF hsz hQ;cases hs;exact wpIn_ret (hQ _ _ _ ⟨rfl,hsz,μ,hH,hF,Ext.refl _ _ _ _ _,trivial⟩)
 |region id ops l l0 pan keep ht hlk=>
  intro b st e st' hs w X μ a Q ro hb hO hH hF hsz hQ;simp only[aexec] at hs;split at hs
  ·rename_i fr hp2 hr;cases hs;exact Up hΓ ht hlk hr hb hH hF hsz fun e' a' w' hL=>hQ e' a' w' (hL.keep keep)
  ·rename_i v fr hp2 hr;split at hs
   ·cases hs;exact Up hΓ ht hlk hr hb hH hF hsz fun e' a' w' hL=>hQ e' a' w' (hL.keep keep)
   ·cases hs
  ·cases hs
 |draw id ops l pan keep hT hd hpan=>
  intro b st e st' hs w X μ a Q ro hb hO hH hF hsz hQ;simp only[aexec] at hs;split at hs
  ·rename_i fr hp2 hr;cases hs;exact KT hmix hΓ hT hd hr (fun⟨p,hp⟩=>by cases hp) hb hH hF hsz fun e' a' w' hL=>hQ e' a' w' (hL.keep keep)
  ·rename_i v fr hp2 hr;split at hs
   ·rename_i hp;cases hs;exact KT hmix hΓ hT hd hr (fun _=>hpan hp) hb hH hF hsz fun e' a' w' hL=>hQ e' a' w' (hL.keep keep)
   ·cases hs
  ·cases hs
 |draw2 id ops l keep hT hd=>
  intro b st e st' hs w X μ a Q ro hb hO hH hF hsz hQ;simp only[aexec] at hs;split at hs
  ·rename_i fr hp2 hr;cases hs;exact dR hmix hΓ hT hd hr hb hH hF hsz fun e' a' w' hL=>hQ e' a' w' (hL.keep keep)
  ·rename_i v fr hp2 hr;simp only[ZM,if_false] at hs;cases hs
  ·cases hs
 |draw2p id ops pi inv l keep hp hT hd=>
  intro b st e st' hs w X μ a Q ro hb hO hH hF hsz hQ;simp only[aexec] at hs;split at hs
  ·rename_i fr hp2 hr;cases hs;exact dS hmix hΓ hp hT hd hr hb hH hF hsz fun e' a' w' hL=>hQ e' a' w' (hL.keep keep)
  ·rename_i v fr hp2 hr;simp only[ZM,if_false] at hs;cases hs
  ·cases hs
 |doom id ops l keep hT hd=>
  intro b st e st' hs w X μ a Q ro hb hO hH hF hsz hQ;simp only[aexec] at hs;split at hs
  ·rename_i fr hp2 hr;cases hs;exact KT hmix hΓ hT (UZ hd).1 (JO _ _ _ _ hr) (fun⟨p,hp⟩=>by cases hp) hb hH hF hsz fun e' a' w' hL=>hQ e' a' w' (hL.keep keep)
  ·rename_i v fr hp2 hr;cases hs;exact dZ hmix hΓ hT hd hr hb hH hF hsz hQ
  ·cases hs
 |settle c ac ss _ ih=>
  intro b st e st' hs w X μ a Q ro hb hO hH hF hsz hQ;simp only[aexec] at hs;cases hset:settle ss st with
  |none=>rw[hset] at hs;cases hs
  |some st1=>
   rw[hset] at hs;simp only[] at hs;obtain⟨k1,k2,k3⟩:=Ur b ss st st1 hset hH hF;refine ih b st1 e st' hs w X μ a Q ro (ZV hb k3.len) (hO.ext hb k3) k1 k2 hsz fun e' a' w' hL=>hQ e' a' w' ?_;obtain⟨h1,h2,μ',h3,h4,h5,h6⟩:=hL;exact⟨h1,h2,μ',h3,h4,k3.trans h5,h6⟩
 |seq x y ax ay _ _ ihx ihy=>
  intro b st e st' hs w X μ a Q ro hb hO hH hF hsz hQ;simp only[aexec] at hs;apply wpIn_seq;cases h1:aexec Γ Λ b ax st with
  |none=>rw[h1] at hs;cases hs
  |some r=>
   obtain⟨e1,st1⟩:=r;rw[h1] at hs;refine ihx b st e1 st1 h1 w X μ a _ ro hb hO hH hF hsz fun e' a' w' hL=> ?_;obtain⟨g1,g2,μ',g3,g4,g5,g6⟩:=hL;cases e1 with
   |normal=>
    simp only[] at hs;cases e' <;> simp only[YF] at g6
    refine ihy b st1 e st' hs w' X μ' a' Q ro (ZV hb g5.len) (hO.ext hb g5) g3 g4 g2 fun e2 a2 w2 hL2=>hQ e2 a2 w2 ?_;obtain⟨k1,k2,μ2,k3,k4,k5,k6⟩:=hL2;exact⟨k1.trans g1,k2,μ2,k3,k4,g5.trans k5,k6⟩
   |exit i=>
    cases hs;cases e' <;> simp only[YF] at g6
    subst g6;exact hQ _ _ _ ⟨g1,g2,μ',g3,g4,g5,rfl⟩
   |ret=>
    cases hs;cases e' <;> simp only[YF] at g6
    exact hQ _ _ _ ⟨g1,g2,μ',g3,g4,g5,trivial⟩
   |panic p=>
    cases hs;cases e' <;> simp only[YF] at g6
    exact hQ _ _ _ ⟨g1,g2,μ',g3,g4,g5,g6⟩
 |cond c ca x y ax ay hc _ _ ihx ihy=>
  intro b st e st' hs w X μ a Q ro hb hO hH hF hsz hQ;simp only[aexec] at hs;split at hs
  ·rename_i s0 ha;exact wpIn_cond_true (XP hF hc ha).bool_inv (ihx b st e st' hs w X μ a Q ro hb hO hH hF hsz hQ)
  ·rename_i s0 ha;exact wpIn_cond_false (XP hF hc ha).bool_inv (ihy b st e st' hs w X μ a Q ro hb hO hH hF hsz hQ)
  ·cases hs
 |block id c ac _ ih=>
  intro b st e st' hs w X μ a Q ro hb hO hH hF hsz hQ;simp only[aexec] at hs;apply wpIn_block;cases h1:aexec Γ Λ b ac st with
  |none=>rw[h1] at hs;cases hs
  |some r=>
   obtain⟨e1,st1⟩:=r;rw[h1] at hs;refine ih b st e1 st1 h1 w X μ a _ ro hb hO hH hF hsz fun e' a' w' hL=> ?_;obtain⟨g1,g2,μ',g3,g4,g5,g6⟩:=hL;cases e1 with
   |normal=>
    cases hs;cases e' <;> simp only[YF] at g6
    exact hQ _ _ _ ⟨g1,g2,μ',g3,g4,g5,trivial⟩
   |exit i=>
    cases e' <;> simp only[YF] at g6
    subst g6;simp only[] at hs;split at hs
    ·rename_i hid;cases hs;simp only[Exit.inBlock,hid,if_true];exact hQ _ _ _ ⟨g1,g2,μ',g3,g4,g5,trivial⟩
    ·rename_i hid;cases hs;simp only[Exit.inBlock,hid,if_false];exact hQ _ _ _ ⟨g1,g2,μ',g3,g4,g5,rfl⟩
   |ret=>
    cases hs;cases e' <;> simp only[YF] at g6
    exact hQ _ _ _ ⟨g1,g2,μ',g3,g4,g5,trivial⟩
   |panic p=>
    cases hs;cases e' <;> simp only[YF] at g6
    exact hQ _ _ _ ⟨g1,g2,μ',g3,g4,g5,g6⟩
 |loop keep c ac hc _=>
  intro b st e st' hs w X μ a Q ro hb hO hH hF hsz hQ;exact hΛ c ac hc b keep ⟨st.fr.keep keep,st.hp⟩ e st' hs w X μ a Q ro hb hO hH (hF.keep keep) hsz hQ
end Go.Am

/- Loops. -/
namespace Go.Am
variable{P:Program} {w:World} {X:Xc P} {μ:Nat->Option Nat} {hp:Heap}

theorem d9{fr:Fr}{s:Nat}{u:AV}(h:fr.look s=some u):(s,u)∈fr:=by
 induction fr with
 |nil=>simp[Fr.look] at h
 |cons x r ih=>
  obtain⟨k,v⟩:=x;simp only[Fr.look] at h;split at h
  ·rename_i e;subst e;cases h;simp
  ·simp[ih h]

theorem Eb{b n:Nat}{w0:World}{μ0:Nat->Option Nat}{hp0:Heap}{fr:Fr}{t:Array Value}(h0:hp0.length=n)(hb:b<=n)(hO:Own b hp)(hH:HR w X μ hp)(hF:FR w X μ hp fr t)(E:Ext b X μ0 hp0 w0 μ hp w):
  HR w X μ (collect n b fr hp)/\FR w X μ (collect n b fr hp) fr t/\Ext b X μ0 hp0 w0 μ (collect n b fr hp) w/\Own b (collect n b fr hp):=by
 unfold collect;split
 ·rename_i hc;simp only[Zg,Zm] at hc;obtain⟨c1,c2⟩:=hc;refine⟨hH.take fun i o hi ho q hq=> ?_,fun s u hs=> ?_,E.take (by omega),fun i o hi ho q hq=>hO i o hi (Qj ho).2 q hq⟩
  ·rcases Zt i b with hib|hib
   ·have:=hO i o hib ho q hq;omega
   ·have hm:o∈(hp.take n).drop b:=by
     have:((hp.take n).drop b)[i - b]? =some o:=by
      rw[ZR,show b+(i - b)=i by omega];exact XR ho hi
     exact Zj this
    have:=c2 _ hm;simp only[Zm,Zr] at this;exact this q hq
  ·obtain⟨k1,k2⟩:=hF s u hs;refine⟨k1,k2.take fun q hq=> ?_⟩;have:=c1 _ (d9 hs);simp only[Zr] at this;exact this q hq
 ·exact⟨hH,hF,E,hO⟩

def Going(nt:Nat)(Γ:Oracle)(b n:Nat)(keep:List Nat)(ac:ACode)(X:Xc P)(w0:World)(μ0:Nat->Option Nat)(hp0:Heap)(ds:List Deferred)(e:AExit)(st':St)(k:Nat)(a:Act)(w:World):Prop:=
 ∃st μ,aloop Γ k b n keep ac st=some (e,st')/\Own b st.hp/\HR w X μ st.hp/\FR w X μ st.hp st.fr a.tmps/\a.tmps.size=nt/\a.defers=ds/\Ext b X μ0 hp0 w0 μ st.hp w

theorem U0(p:Nat->Prop)(h:∃j,p j):∃j,p j/\∀i,p i->j<=i:=by
 obtain⟨n,hn⟩:=h
 induction n using Nat.strongRecOn with
 |_ n ih=>
  by_cases hx:∃m,m<n/\p m
  ·obtain⟨m,h1,h2⟩:=hx;exact ih m h1 h2
  ·exact⟨n,hn,fun i hi=>Nat.le_of_not_lt fun hlt=>hx ⟨i,hlt,hi⟩⟩

open Classical in
theorem Ec{nt:Nat}{Γ:Oracle}(hmix:P.follows .mixedOrders=true)(hΓ:SoundO P Γ):∀(k:Nat) (c:Code) (ac:ACode),Tr P nt c ac->xd P nt (aloop Γ k) c ac:=by
 intro k
 induction k using Nat.strongRecOn with
 |_ k ih=>
  intro c ac hT b keep st e st' hs w0 X μ0 a0 Q ro hb hO hH hF hsz hQ
  let G:=Going nt Γ b st.hp.length keep ac X w0 μ0 st.hp a0.defers e st'
  let least:Act->World->Nat:=fun a w=>if h:∃j,G j a w then(U0 (fun j=>G j a w) h).choose else 0
  have hleast:∀a w j,G j a w->G (least a w) a w/\least a w<=j:=by
   intro a w j hj;have hx:∃j,G j a w:=⟨j,hj⟩;simp only[least,dif_pos hx];have hsp:=(U0 (fun j=>G j a w) hx).choose_spec;exact⟨hsp.1,hsp.2 j hj⟩
  refine wpIn_loop (fun a w=>∃j,j<=k/\G j a w) least ⟨k,Zc _,st,μ0,hs,hO,hH,hF,hsz,rfl,Ext.refl _ _ _ _ _⟩ ?_;intro a w ⟨j0,hj0,hG0⟩;obtain⟨hG,hle⟩:=hleast a w j0 hG0;generalize least a w=j at hG hle;obtain⟨st1,μ1,hl,g1,g2,g3,g4,g5,g6⟩:=hG;cases j with
  |zero=>simp only[aloop] at hl;cases hl
  |succ j=>
   have hbl:b<=st1.hp.length:=ZV hb g6.len;have hcode:KY P nt Γ (aloop Γ j) c ac:=JQ hmix hΓ (fun c ac h=>ih j (by omega) c ac h) hT;simp only[aloop] at hl;cases h1:aexec Γ (aloop Γ j) b ac st1 with
   |none=>rw[h1] at hl;cases hl
   |some r=>
    obtain⟨e1,st2⟩:=r;rw[h1] at hl;refine hcode b st1 e1 st2 h1 w X μ1 a _ ro hbl g1 g2 g3 g4 fun e' a' w' hL=> ?_;obtain⟨k1,k2,μ2,k3,k4,k5,k6⟩:=hL;have done:∀{e'},YF w' X μ2 st2.hp e1 e'->e1≠.normal->e=e1/\st'=st2->Q e' a' w':=by
     rintro e' hx _ ⟨rfl,rfl⟩;exact hQ _ _ _ ⟨k1.trans g5,k2,μ2,k3,k4,g6.trans k5,hx⟩
    cases e1 with
    |normal=>
     cases e' <;> simp only[YF] at k6
     simp only[] at hl;obtain⟨c1,c2,c3,c4⟩:=Eb (n:=st.hp.length) rfl hb (g1.ext hbl k5) k3 (k4.keep keep) (g6.trans k5);have hG':G j a' w':=⟨⟨st2.fr.keep keep,collect st.hp.length b (st2.fr.keep keep) st2.hp⟩,μ2,hl,c4,c1,c2,k2,k1.trans g5,c3⟩;exact⟨⟨j,by omega,hG'⟩,Nat.lt_of_le_of_lt (hleast a' w' j hG').2 (Nat.lt_succ_self j)⟩
    |exit i=>
     cases hl;cases e' <;> simp only[YF] at k6
     exact done (e':=.exit _) k6 (by simp) ⟨rfl,rfl⟩
    |ret=>
     cases hl;cases e' <;> simp only[YF] at k6
     exact done (e':=.ret) trivial (by simp) ⟨rfl,rfl⟩
    |panic p=>
     cases hl;cases e' <;> simp only[YF] at k6
     exact done (e':=.panic _) k6 (by simp) ⟨rfl,rfl⟩
end Go.Am

/- Functions and what their calls come to. -/
namespace Go.Am
variable{P:Program} {w:World} {X:Xc P} {μ:Nat->Option Nat} {hp:Heap}

theorem JR{nt:Nat}{ops:Array Oper}:∀{r:List Oper} {l:List AOper},yj P nt ops r=some l->l.length=r.length/\∀(i:Nat) (o:Oper),r[i]? =some o->∃ao,X7 P nt ops o=some ao/\l[i]? =some ao
 |[],l,h=>by cases h;exact⟨rfl,fun i o h=>by simp at h⟩
 |o::r,l,h=>by
  simp only[yj] at h;split at h
  ·cases h
  ·rename_i a ha;split at h
   ·rename_i l' hl;cases h;obtain⟨h1,h2⟩:=JR hl;refine⟨by simp[h1],fun i o' ho=> ?_⟩;cases i with
    |zero=>simp at ho;subst ho;exact⟨a,ha,rfl⟩
    |succ i=>simpa using h2 i o' (by simpa using ho)
   ·cases h

theorem XU{nt:Nat}{ops:Array Oper}{o:Oper}{ao:AOper}(h:X7 P nt ops o=some ao):ao.op.exact=true:=by
 obtain⟨_,_,d3⟩:=QF h;cases he:ao.op.exact with
 |true=>rfl
 |false=>
  unfold AOp.exact at he;split at he
  ·rename_i e;rw[e] at d3;exact absurd d3 dk
  ·rename_i e;rw[e] at d3;exact absurd d3 dl
  ·rename_i e;rw[e] at d3;exact absurd d3 dm
  ·rename_i e;rw[e] at d3;exact absurd d3 Uo
  ·rename_i e;rw[e] at d3;exact absurd d3 dn
  ·rename_i e;rw[e] at d3;exact absurd d3 dp
  ·rename_i e;rw[e] at d3;exact absurd d3 dq
  ·cases he
theorem KZ{sure:Bool}{c:List Nat}{l0:List AOper}:∀(r:List AOper) (n:Nat),(QA sure c l0 n r).length=r.length/\∀(i:Nat) (o:AOper),r[i]? =some o->∃b qs,(QA sure c l0 n r)[i]? =some (mOne sure b qs o)
 |[],n=>⟨rfl,fun i o h=>by simp at h⟩
 |x::r,n=>by
  obtain⟨h1,h2⟩:=KZ (sure:=sure) (c:=c) (l0:=l0) r (n+1);refine⟨by simp[QA,h1],fun i o ho=> ?_⟩;cases i with
  |zero=>simp at ho;subst ho;exact⟨_,_,rfl⟩
  |succ i=>simpa[QA] using h2 i o (by simpa using ho)
theorem K0{sure b:Bool}{qs:List AArg}{o:AOper}(h:o.op.exact=true):(mOne sure b qs o).dst=o.dst/\(mOne sure b qs o).guard=o.guard/\(mOne sure b qs o).base.args=o.args/\(mOne sure b qs o).base.op.alike o.op:=by
 have same:(o.dst=o.dst/\o.guard=o.guard/\o.base.args=o.args/\o.base.op.alike o.op):=by
  rw[XT h];exact⟨rfl,rfl,rfl,.inl rfl⟩
 unfold mOne;split
 ·rename_i hop;split
  ·split
   ·exact same
   ·refine⟨rfl,rfl,?_,?_⟩
    ·show(qs++o.args).drop qs.length=o.args;rw[zk]
    ·rw[hop];exact .inl rfl
  ·split
   ·refine⟨rfl,rfl,rfl,?_⟩;rw[hop];exact .inr (.inr (.inl ⟨rfl,.inr rfl⟩))
   ·exact same
 ·rename_i sh hop;split
  ·refine⟨rfl,rfl,?_,?_⟩
   ·show(qs++o.args).drop qs.length=o.args;rw[zk]
   ·rw[hop];exact .inl rfl
  ·split
   ·refine⟨rfl,rfl,rfl,?_⟩;rw[hop];exact .inr (.inl ⟨sh,rfl,.inl rfl⟩)
   ·exact same
 ·rename_i sh p v hop ha;split
  ·exact same
  ·refine⟨rfl,rfl,?_,?_⟩
   ·rw[ha];rfl
   ·rw[hop];exact .inl rfl
 ·exact same
theorem Ed{sure b:Bool}{qs:List AArg}{o:AOper}(h:o.op.exact=true):(mTwo sure b qs o).dst=o.dst/\(mTwo sure b qs o).guard=o.guard/\(mTwo sure b qs o).base.args=o.args/\(mTwo sure b qs o).base.op.alike o.op:=by
 have same:(o.dst=o.dst/\o.guard=o.guard/\o.base.args=o.args/\o.base.op.alike o.op):=by
  rw[XT h];exact⟨rfl,rfl,rfl,.inl rfl⟩
 unfold mTwo;split
 ·rename_i sh hop;split
  ·exact same
  ·refine⟨rfl,rfl,?_,?_⟩
   ·show(qs++o.args).drop qs.length=o.args;rw[zk]
   ·rw[hop];exact .inl rfl
 ·rename_i sh hop;split
  ·split
   ·refine⟨rfl,rfl,rfl,?_⟩;rw[hop];exact .inr (.inr (.inr (.inr ⟨sh,rfl,rfl⟩)))
   ·exact same
  ·refine⟨rfl,rfl,?_,?_⟩
   ·show(qs++o.args).drop qs.length=o.args;rw[zk]
   ·rw[hop];exact .inl rfl
 ·exact K0 h
theorem U1{sure:Bool}{c:List Nat}{l0:List AOper}:∀(r:List AOper) (n:Nat),(QB sure c l0 n r).length=r.length/\∀(i:Nat) (o:AOper),r[i]? =some o->∃b qs,(QB sure c l0 n r)[i]? =some (mTwo sure b qs o)
 |[],n=>⟨rfl,fun i o h=>by simp at h⟩
 |x::r,n=>by
  obtain⟨h1,h2⟩:=U1 (sure:=sure) (c:=c) (l0:=l0) r (n+1);refine⟨by simp[QB,h1],fun i o ho=> ?_⟩;cases i with
  |zero=>simp at ho;subst ho;exact⟨_,_,rfl⟩
  |succ i=>simpa[QB] using h2 i o (by simpa using ho)
theorem JS{l:List AOper}{o:AOper}(h:o.op.exact=true):(o.toP P l).dst=o.dst/\(o.toP P l).guard=o.guard/\(o.toP P l).base.args=o.args/\(o.toP P l).base.op.alike o.op:=by
 have same:(o.dst=o.dst/\o.guard=o.guard/\o.base.args=o.args/\o.base.op.alike o.op):=by
  rw[XT h];exact⟨rfl,rfl,rfl,.inl rfl⟩
 unfold AOper.toP;split
 ·rename_i hop;split
  ·exact same
  ·refine⟨rfl,rfl,rfl,?_⟩;rw[hop];exact .inr (.inr (.inl ⟨rfl,.inl rfl⟩))
 ·rename_i sh hop;refine⟨rfl,rfl,rfl,?_⟩;rw[hop];exact .inr (.inl ⟨sh,rfl,.inl rfl⟩)
 ·rename_i sh hop;split
  ·refine⟨rfl,rfl,rfl,?_⟩;rw[hop];exact .inr (.inr (.inr (.inl ⟨sh,rfl,rfl⟩)))
  ·exact same
 ·exact same

theorem K4{nt:Nat}{ops:Array Oper}{l:List AOper}(h:Tie P nt ops l):Tie P nt ops (xz l):=by
 unfold xz;split
 ·rename_i s v e1 e2;split
  ·rename_i q x sh p y f1 f2 f3;refine⟨by simp[h.1],fun i o ho=> ?_⟩;obtain⟨ao0,ao,t1,t2,q1,q2,q3,q4⟩:=h.2 i o ho;by_cases hi:l.length - 1=i
   ·subst hi;rw[e2] at t2;cases t2;have hb:v.base=v:=XT (by rw[f2];rfl);refine⟨ao0,_,t1,Zx (Zb.1 e2).1,q1,q2,?_,?_⟩
    ·rw[hb,f3] at q3;exact q3
    ·rw[hb,f2] at q4;exact q4
   ·exact⟨ao0,ao,t1,by rw[Zo hi];exact t2,q1,q2,q3,q4⟩
  ·exact h
 ·exact h
theorem U2{c:List Nat}{l0:List AOper}:∀(r:List AOper) (n:Nat),(QC c l0 n r).length=r.length/\∀(i:Nat) (o:AOper),r[i]? =some o->∃b,(QC c l0 n r)[i]? =some (gOne b o)
 |[],n=>⟨rfl,fun i o h=>by simp at h⟩
 |x::r,n=>by
  obtain⟨h1,h2⟩:=U2 (c:=c) (l0:=l0) r (n+1);refine⟨by simp[QC,h1],fun i o ho=> ?_⟩;cases i with
  |zero=>simp at ho;subst ho;exact⟨_,rfl⟩
  |succ i=>simpa[QC] using h2 i o (by simpa using ho)
theorem Ee{b:Bool}{o:AOper}(h:o.op.exact=true):(gOne b o).dst=o.dst/\(gOne b o).guard=o.guard/\(gOne b o).base.args=o.args/\(gOne b o).base.op.alike o.op:=by
 have same:(o.dst=o.dst/\o.guard=o.guard/\o.base.args=o.args/\o.base.op.alike o.op):=by
  rw[XT h];exact⟨rfl,rfl,rfl,.inl rfl⟩
 unfold gOne;split
 ·rename_i hop;split
  ·refine⟨rfl,rfl,rfl,?_⟩;rw[hop];exact .inl rfl
  ·exact same
 ·exact same
theorem Eg{nt:Nat}{ops:Array Oper}{l:List AOper}(hl:yj P nt ops ops.toList=some l)(sure:Bool):Tie P nt ops (toM sure ops l):=by
 obtain⟨h1,h2⟩:=JR hl;obtain⟨g1,g2⟩:=KZ (sure:=sure) (c:=YI [] ops.toList) (l0:=l) l 0;refine⟨by unfold toM;rw[g1];simpa using h1,fun i o ho=> ?_⟩;obtain⟨ao,a1,a2⟩:=h2 i o (by simpa using ho);obtain⟨b,qs,g3⟩:=g2 i ao a2;obtain⟨k1,k2,k3,k4⟩:=K0 (sure:=sure) (b:=b) (qs:=qs) (XU a1);exact⟨ao,_,a1,g3,k1,k2,k3,k4⟩
theorem Eh{hm:Bool}{nt id:Nat}{ops:Array Oper}{draw:Bool}{ac:ACode}(h:jV P hm nt ops draw=some ac):Tr P nt (.region id ops draw) ac:=by
 unfold jV at h;split at h
 ·cases h
 ·rename_i l hl;obtain⟨h1,h2⟩:=JR hl;have tieM:∀sure,Tie P nt ops (toM sure ops l):=by
   intro sure;obtain⟨g1,g2⟩:=KZ (sure:=sure) (c:=YI [] ops.toList) (l0:=l) l 0;refine⟨by unfold toM;rw[g1];simpa using h1,fun i o ho=> ?_⟩;obtain⟨ao,a1,a2⟩:=h2 i o (by simpa using ho);obtain⟨b,qs,g3⟩:=g2 i ao a2;obtain⟨k1,k2,k3,k4⟩:=K0 (sure:=sure) (b:=b) (qs:=qs) (XU a1);exact⟨ao,_,a1,g3,k1,k2,k3,k4⟩
  have tieG:Tie P nt ops (toG ops l):=by
   obtain⟨g1,g2⟩:=U2 (c:=YI [] ops.toList) (l0:=l) l 0;refine⟨by unfold toG;rw[g1];simpa using h1,fun i o ho=> ?_⟩;obtain⟨ao,a1,a2⟩:=h2 i o (by simpa using ho);obtain⟨b,g3⟩:=g2 i ao a2;obtain⟨k1,k2,k3,k4⟩:=Ee (b:=b) (XU a1);exact⟨ao,_,a1,g3,k1,k2,k3,k4⟩
  by_cases hd:draw=false
  ·rw[Zd hd] at h;cases h;subst hd;refine .region id ops _ l true [] hl ?_;split
   ·exact Likes.map (DI l) l
   ·exact Likes.refl l
  ·rw[Za hd] at h;have hd':draw=true:=by
    cases draw with
    |true=>rfl
    |false=>exact absurd rfl hd
   subst hd';by_cases hkp:l.any (jR P)=true
   ·rw[Zd hkp] at h;unfold V3 at h;have tieP:Tie P nt ops (l.map (AOper.toP P l)):=by
     refine⟨by simpa using h1,fun i o ho=> ?_⟩;obtain⟨ao,a1,a2⟩:=h2 i o (by simpa using ho);obtain⟨k1,k2,k3,k4⟩:=JS (XU a1);exact⟨ao,ao.toP P l,a1,by simp[a2],k1,k2,k3,k4⟩
    split at h
    ·rename_i hok;cases h;exact .settle _ _ _ (.draw id ops _ _ [] tieP hok (fun h=>h))
    ·split at h
     ·rename_i hok;cases h;exact .draw id ops _ _ [] (tieM true) hok (fun h=>h)
     ·cases h
   rw[Za hkp] at h;split at h
   ·rename_i hok;cases h;exact .draw id ops _ _ [] tieG hok.2.2.2.1 (fun h=>h)
   split at h
   ·rename_i hok;cases h;refine .draw id ops l _ [] ⟨by simpa using h1,fun i o ho=> ?_⟩ hok (fun h=>h);obtain⟨ao,a1,a2⟩:=h2 i o (by simpa using ho);refine⟨ao,ao,a1,a2,rfl,rfl,?_,?_⟩
    ·rw[XT (XU a1)]
    ·rw[XT (XU a1)];exact .inl rfl
   ·split at h
    ·rename_i hok;cases h;exact .draw id ops _ _ [] (tieM true) hok.2 (fun h=>h)
    ·split at h
     ·rename_i hok;cases h;exact .draw id ops _ _ [] tieG hok.2 (fun h=>h)
     split at h
     ·rename_i hok;cases h;exact .draw id ops _ _ [] (tieM false) hok.2 (fun h=>h)
     split at h
     ·rename_i hok;cases h;refine .settle _ _ _ (.doom id ops _ [] ⟨by simpa using h1,fun i o ho=> ?_⟩ hok.2.2);obtain⟨ao,a1,a2⟩:=h2 i o (by simpa using ho);obtain⟨k1,k2,k3,k4⟩:=JS (XU a1);exact⟨ao,ao.toP P l,a1,by simp[a2],k1,k2,k3,k4⟩
     split at h
     ·rename_i hok;cases h;refine .settle _ _ _ (.draw id ops _ _ [] ⟨by simpa using h1,fun i o ho=> ?_⟩ hok (fun h=>h));obtain⟨ao,a1,a2⟩:=h2 i o (by simpa using ho);obtain⟨k1,k2,k3,k4⟩:=JS (XU a1);exact⟨ao,ao.toP P l,a1,by simp[a2],k1,k2,k3,k4⟩
     ·split at h
      ·rename_i hok;cases h;exact .draw id ops _ _ [] (tieM false) hok (fun h=>h)
      ·split at h
       ·rename_i hok;cases h;exact .draw2 id ops _ [] (K4 (tieM true)) hok.2
       ·split at h
        ·rename_i hok;cases h;refine .settle _ _ _ (.draw2 id ops _ [] (K4 ⟨by simpa using h1,fun i o ho=> ?_⟩) hok);obtain⟨ao,a1,a2⟩:=h2 i o (by simpa using ho);obtain⟨k1,k2,k3,k4⟩:=JS (XU a1);exact⟨ao,ao.toP P l,a1,by simp[a2],k1,k2,k3,k4⟩
        ·cases h

theorem Ei{hm:Bool}{nt id:Nat}{ops:Array Oper}{draw:Bool}{ac:ACode}(h:jW P hm nt ops draw=some ac):Tr P nt (.region id ops draw) ac:=by
 unfold jW at h;split at h
 ·rename_i ac0 h0;cases h;exact Eh (id:=id) h0
 ·by_cases hd:draw=false
  ·rw[Zd hd] at h;cases h
  rw[Za hd] at h;have hd':draw=true:=by
   cases draw with
   |true=>rfl
   |false=>exact absurd rfl hd
  subst hd';split at h
  ·cases h
  ·rename_i l hl;obtain⟨h1,h2⟩:=JR hl;have tieN:∀sure,Tie P nt ops (toN sure ops l):=by
    intro sure;obtain⟨g1,g2⟩:=U1 (sure:=sure) (c:=YI [] ops.toList) (l0:=l) l 0;refine⟨by unfold toN;rw[g1];simpa using h1,fun i o ho=> ?_⟩;obtain⟨ao,a1,a2⟩:=h2 i o (by simpa using ho);obtain⟨b,qs,g3⟩:=g2 i ao a2;obtain⟨k1,k2,k3,k4⟩:=Ed (sure:=sure) (b:=b) (qs:=qs) (XU a1);exact⟨ao,_,a1,g3,k1,k2,k3,k4⟩
   split at h
   ·rename_i hok;cases h;exact .draw id ops _ _ [] (tieN true) hok (fun h=>h)
   ·split at h
    ·rename_i hok;cases h;exact .draw id ops _ _ [] (tieN false) hok (fun h=>h)
    ·split at h
     ·unfold V4 at h;simp only[] at h;split at h
      ·rename_i hpm;split at h
       ·rename_i l' hl';split at h
        ·rename_i hok;cases h;exact .settle _ _ _ (.draw2p id ops _ _ _ [] hpm (K4 (Eg hl' true)) hok)
        ·cases h
       ·cases h
      ·cases h
     ·cases h
theorem Ej{hm:Bool}{nt id:Nat}{ops:Array Oper}{draw:Bool}{ac:ACode}(h:jX P hm nt ops draw=some ac):Tr P nt (.region id ops draw) ac:=by
 unfold jX at h;split at h
 ·rename_i ac0 h0;have k:=Ei (id:=id) h0;split at h
  ·split at h
   ·cases h;exact .settle _ _ _ k
   ·cases h;exact k
  ·cases h;exact k
 ·cases h
theorem U3{hm:Bool}{nt:Nat}:∀(c:Code) (ac:ACode),yN P hm nt c=some ac->Tr P nt c ac:=by
 intro c
 induction c with
 |region id ops draw=>intro ac h;exact Ej h
 |skip=>intro ac h;cases h;exact .skip
 |label id=>intro ac h;cases h;exact .label id
 |scope c ih=>intro ac h;exact .scope _ _ (ih _ h)
 |exit id=>intro ac h;cases h;exact .exit id
 |ret=>intro ac h;cases h;exact .ret
 |seq x y ihx ihy=>
  intro ac h;simp only[yN] at h;split at h
  ·cases h;exact .seq _ _ _ _ (ihx _ ‹_›) (ihy _ ‹_›)
  ·cases h
 |cond c x y ihx ihy=>
  intro ac h;simp only[yN] at h;split at h
  ·cases h;exact .cond _ _ _ _ _ _ ‹_› (ihx _ ‹_›) (ihy _ ‹_›)
  ·cases h
 |block id c ih=>
  intro ac h;simp only[yN] at h;split at h
  ·cases h;exact .block _ _ _ (ih _ ‹_›)
  ·cases h
 |loop c ih=>
  intro ac h;simp only[yN] at h;split at h
  ·cases h;exact .loop _ _ _ (ih _ ‹_›)
  ·cases h
 |_=>intro ac h;cases h

theorem K5{nt:Nat}{c:Code}{ac:ACode}(h:Tr P nt c ac):∀out env ret,Tr P nt c (annot ac out env ret):=by
 induction h with
 |skip=>intros;exact .skip
 |region id ops l l0 pan keep h hlk=>intros;exact .region id ops l l0 pan _ h hlk
 |draw id ops l pan keep hT hd hp=>intros;exact .draw id ops l pan _ hT hd hp
 |draw2 id ops l keep hT hd=>intros;exact .draw2 id ops l _ hT hd
 |draw2p id ops pi inv l keep hp hT hd=>intros;exact .draw2p id ops pi inv l _ hp hT hd
 |doom id ops l keep hT hd=>intros;exact .doom id ops l _ hT hd
 |settle c ac ss _ ih=>intros;exact .settle _ _ _ (ih _ _ _)
 |seq x y a b _ _ ihx ihy=>intros;exact .seq _ _ _ _ (ihx _ _ _) (ihy _ _ _)
 |cond c ca x y a b hc _ _ ihx ihy=>intros;exact .cond _ _ _ _ _ _ hc (ihx _ _ _) (ihy _ _ _)
 |block id c a _ ih=>intros;exact .block _ _ _ (ih _ _ _)
 |loop keep c a _ ih=>intros;exact .loop _ _ _ (ih _ _ _)
 |label id=>intros;exact .label id
 |scope c a _ ih=>intros;exact .scope _ _ (ih _ _ _)
 |exit id=>intros;exact .exit id
 |ret=>intros;exact .ret

theorem Ek{sh:Sh}{a v:AV}{x:Value}(h:aload sh hp a=some v)(ha:AR w X μ hp a x):∃ad,x=.pointer (some ad):=by
 unfold aload at h;split at h
 ·cases ha;exact⟨_,rfl⟩
 ·cases ha;exact⟨_,rfl⟩
 ·cases ha;exact⟨_,rfl⟩
 ·cases ha;exact⟨_,rfl⟩
 ·cases h

def JT(t:Array Value):ResultVar->Sem Value
 | .tmp s=>pure (t.getD s undef)
 | .cell a ty=>do loadVar ty (<-asAddr (t.getD a undef))
theorem El(fn:Func)(t:Array Value):results fn t=(do let vs <-fn.results.mapM (JT t);pure (if h:vs.size=1 then vs[0] else .tuple vs)):=by
 unfold results
 congr 1
theorem U4{st:St}:∀{r:List RSlot} {l:List AV},yE st r=some l->l.length=r.length
 |[],l,h=>by cases h;rfl
 |s::r,l,h=>by
  simp only[yE] at h;split at h
  ·cases h
  ·split at h
   ·cases h;simp[U4 ‹_›]
   ·cases h

theorem K6{st:St}{t:Array Value}(hH:HR w X μ st.hp)(hF:FR w X μ st.hp st.fr t):∀(rs:List ResultVar) (l:List AV),Qb P rs=true->yE st (yA P rs)=some l->
  ∃vs,(rs.mapM (JT t)).run P w=.ok vs w/\LR w X μ st.hp l vs
 |[],l,_,h=>by cases h;exact⟨[],rfl,.nil⟩
 | .tmp s::r,l,hok,h=>by
  simp only[yA,yE] at h;split at h
  ·cases h
  ·rename_i v hv;split at h
   ·rename_i l' hl;cases h;obtain⟨vs,k1,k2⟩:=K6 hH hF r l' hok hl;refine⟨t.getD s undef::vs,?_,.cons (hF s v hv).2 k2⟩;simp only[List.mapM_cons,JT,Sem.run_bind,Sem.run_pure,Result.andThen_ok,k1]
   ·cases h
 | .cell s ty::r,l,hok,h=>by
  simp only[Qb,Zg] at hok;simp only[yA,yE] at h;split at h
  ·cases h
  ·rename_i v hv;split at h
   ·rename_i l' hl;cases h;obtain⟨vs,k1,k2⟩:=K6 hH hF r l' hok.2 hl;simp only[Y8] at hv;split at hv
    ·rename_i p hp;have ha:=(hF s p hp).2;obtain⟨ad,had⟩:=Ek hv ha;obtain⟨u,u1,u2⟩:=vB (P:=P) hH hok.1 (.cons ha .nil) (show XK (shOf P ty) st.hp [p]=some v from hv);rw[had] at u1;have u3:(loadVar ty ad).run P w=.ok u w:=by
      simp only[Instr.loadAt,Instr.sureAddr,Sem.run_bind,Sem.run_pure,Result.andThen_ok] at u1;cases hr:(loadVar ty ad).run P w with
      |ok q w'=>rw[hr] at u1;simp only[Result.andThen_ok,Result.ok.injEq,Next.value.injEq] at u1;rw[u1.1,u1.2]
      |halt q w'=>rw[hr] at u1;simp[Result.andThen] at u1
     refine⟨u::vs,?_,.cons u2 k2⟩;simp only[List.mapM_cons,JT,had,Sem.run_bind,asAddr,Sem.run_pure,Result.andThen_ok,u3,k1]
    ·cases hv
   ·cases h

theorem K7{fn:Func}{st:St}{t:Array Value}{v:AV}(hH:HR w X μ st.hp)(hF:FR w X μ st.hp st.fr t)(hok:Qb P fn.results.toList=true)(h:Yz st (yA P fn.results.toList)=some v):
  ∃u,(results fn t).run P w=.ok u w/\AR w X μ st.hp v u:=by
 have gen:∀l,yE st (yA P fn.results.toList)=some l->∃vs:List Value,(results fn t).run P w=.ok (if h:vs.toArray.size=1 then vs.toArray[0] else .tuple vs.toArray) w/\LR w X μ st.hp l vs:=by
  intro l hl;obtain⟨vs,k1,k2⟩:=K6 hH hF _ l hok hl;refine⟨vs,?_,k2⟩;rw[El,Array.mapM_eq_mapM_toList];simp only[Sem.run_bind,Sem.run_map,k1,Result.andThen_ok,Sem.run_pure]
 unfold Yz at h;split at h
 ·rename_i s hs;obtain⟨vs,k1,k2⟩:=gen [v] (by simp[hs,yE,h]);cases k2 with|cons k2 k3=>
  cases k3;exact⟨_,k1,by simpa using k2⟩
 ·rename_i hne;split at h
  ·rename_i l hl;cases h;obtain⟨vs,k1,k2⟩:=gen l hl;have hsz:¬vs.toArray.size=1:=by
    intro h1;have h2:=U4 hl;have h3:=k2.length;have h4:(yA P fn.results.toList).length=1:=by simp at h1;omega
    match hx:yA P fn.results.toList,h4 with
    |[s],_=>exact hne s hx
   rw[dif_neg hsz] at k1;exact⟨_,k1,.tuple _ vs k2.length fun i a u ha hu=>k2.get i a u ha hu⟩
  ·cases h
end Go.Am

/- Blocks that are no part of the heap's relation; the record of a loop over a function. -/
namespace Go.Am
variable{P:Program} {w:World} {X:Xc P} {μ:Nat->Option Nat} {hp:Heap}

structure Touch(l:Nat)(w w':World):Prop where
 not:∀cs t fr,w.heap[l]?≠some (.cells cs t fr)
 old:∀b,b≠l->w'.heap[b]? =w.heap[b]?
 size:w'.heap.size=w.heap.size
 os:w'.os=w.os
 tape:w'.tape=w.tape
 output:w'.output=w.output
theorem Touch.put{l:Nat}{o:Obj}(h:∀cs t fr,w.heap[l]?≠some (.cells cs t fr)):Touch l w (w.putObj l o):=
 ⟨h,fun b hb=>World.putObj_heap_other hb,World.putObj_size,rfl,rfl,rfl⟩
section
variable{l:Nat} {w':World} (T:Touch l w w')
include T
theorem Touch.cells{b:Nat}{cs:Array Value}{t:TypeId}{fr:Nat × Nat}(h:w.heap[b]? =some (.cells cs t fr)):w'.heap[b]? =some (.cells cs t fr):=by
 rw[T.old b (by rintro rfl;exact T.not _ _ _ h)];exact h
theorem Touch.pr{I:Nat->Prop}{p:PV}{v:Value}(h:PR w I p v):PR w' I p v:=h.mono fun b cs t fr hI hb=>⟨hI,T.cells hb⟩
theorem Touch.ar{a:AV}{v:Value}(h:AR w X μ hp a v):AR w' X μ hp a v:=by
 induction h with
 |undef v h=>exact .undef v h
 |pv sh p v hs h=>exact .pv sh p v hs (T.pr h)
 |agg l vs hl hs _ ih=>exact .agg l vs hl hs ih
 |tsl sh es a h=>exact .tsl sh es a (T.pr h)
 |sl sh r ver off len a cap es fz ho hv hlc ha hc=>
  refine .sl sh r ver off len a cap es fz ho hv hlc ha fun e=> ?_;obtain⟨c1,c2⟩:=hc e;refine⟨c1,?_⟩;rcases c2 with c2|⟨b,cs,t,c2,c3,c4,c5⟩
  ·exact .inl c2
  ·exact .inr ⟨b,cs,t,c2,T.cells c3,c4,c5⟩
 |ptr r off b sh v ho hb=>exact .ptr r off b sh v ho hb
 |eptr sh r ver i off a es fz ho hv hc=>exact .eptr sh r ver i off a es fz ho hv hc
 |iptr sh p off b o cs t fr v hI hb hp hs hc=>exact .iptr sh p off b o cs t fr v hI (T.cells hb) (T.pr hp) hs hc
 |map r b sh es ho hb=>exact .map r b sh es ho hb
 |func fn first captured fs cs hf hc _ _ ih ih'=>exact .func fn first captured fs cs hf hc ih ih'
 |iface t a v _ ih=>exact .iface t a v ih
 |tuple l vs hl _ ih=>exact .tuple l vs hl ih
 |yield r l f ps env bz ho hb=>exact .yield r l f ps env bz ho hb
 |slv sh r ver off len a cap n ho hv hlc ha hc=>
  refine .slv sh r ver off len a cap n ho hv hlc ha fun e=> ?_;obtain⟨c1,b,cs,t,c2,c3,c4,c5⟩:=hc e;exact⟨c1,b,cs,t,c2,T.cells c3,c4,c5⟩
 |epv sh r ver i off a n ho hv hc=>exact .epv sh r ver i off a n ho hv hc
 |nilv sh=>exact .nilv sh
theorem Touch.hr(hm:∀i,i<hp.length->μ i≠some l)(h:HR w X μ hp):HR w' X μ hp where
 inj:=h.inj
 out i b hi hb:=by rw[T.size];exact h.out i b hi hb
 xlt b hb:=by rw[T.size];exact h.xlt b hb
 box i sh v ho:=by
  obtain⟨b,val,t,h1,h2,h3,h4,h5⟩:=h.box i sh v ho;exact⟨b,val,t,h1,T.cells h2,h3,h4,T.ar h5⟩
 arr i sh es fz ho:=by
  obtain⟨h0,h1⟩:=h.arr i sh es fz ho;refine⟨h0,?_⟩;rcases h1 with h1|⟨b,cs,t,vals,h1,h2,h3,h4,h5⟩
  ·exact .inl h1
  ·exact .inr ⟨b,cs,t,vals,h1,T.cells h2,h3,fun k p v hk hv=>⟨(h4 k p v hk hv).1,T.pr (h4 k p v hk hv).2⟩,h5⟩
 map i sh es ho:=by
  have hi:=(Zb.1 ho).1;obtain⟨b,ents,clock,h1,h2,h3⟩:=h.map i sh es ho;exact⟨b,ents,clock,h1,by rw[T.old b (by rintro rfl;exact hm i hi h1)];exact h2,h3.mono T.pr⟩
 loop i f ps env bz ho:=by
  have hi:=(Zb.1 ho).1;obtain⟨b,rc,h1,h2,h3,h4,h5,h6,h7⟩:=h.loop i f ps env bz ho;exact⟨b,rc,h1,by rw[T.old b (by rintro rfl;exact hm i hi h1)];exact h2,h3,h4,h5,h6,fun x hx=>⟨(h7 x hx).1,T.ar (h7 x hx).2⟩⟩
 arv i sh es ho:=by
  obtain⟨h0,b,cs,t,vals,h1,h2,h3,h4,h5⟩:=h.arv i sh es ho;exact⟨h0,b,cs,t,vals,h1,T.cells h2,h3,fun k p v hk hv=>⟨(h4 k p v hk hv).1,T.ar (h4 k p v hk hv).2⟩,h5⟩
 tab:=h.tab.mono T.pr
theorem Touch.ext{b0:Nat}{Y:Xc P}{μ0:Nat->Option Nat}{hp0:Heap}{w0:World}(hl:w0.heap.size<=l)(E:Ext b0 Y μ0 hp0 w0 μ hp w):Ext b0 Y μ0 hp0 w0 μ hp w':={ E with
 os:=T.os.trans E.os
 tape:=T.tape.trans E.tape
 output:=T.output.trans E.output
 size:=by rw[T.size];exact E.size
 blk:=fun b hb hi=>by rw[T.old b (by omega)];exact E.blk b hb hi
 shape:=fun b cs t fr h=>by
  have:=YD h;rw[T.old b (by omega)];exact E.shape b cs t fr h }
end

theorem U5{Y:Xc P}{b:Nat}(hx:∀b,Y b->X b)(h:Im X μ hp b):Im Y μ hp b:=⟨fun hy=>h.1 (hx b hy),h.2⟩
theorem PR.less{Y:Xc P}(hx:∀b,Y b->X b){p:PV}{v:Value}(h:PR w (Im X μ hp) p v):PR w (Im Y μ hp) p v:=h.mono fun _ _ _ _ hI hb=>⟨U5 hx hI,hb⟩
theorem AR.less{Y:Xc P}(hx:∀b,Y b->X b){a:AV}{v:Value}(h:AR w X μ hp a v):AR w Y μ hp a v:=by
 induction h with
 |undef v h=>exact .undef v h
 |pv sh p v hs h=>exact .pv sh p v hs (h.less hx)
 |agg l vs hl hs _ ih=>exact .agg l vs hl hs ih
 |tsl sh es a h=>exact .tsl sh es a (h.less hx)
 |sl sh r ver off len a cap es fz ho hv hlc ha hc=>exact .sl sh r ver off len a cap es fz ho hv hlc ha hc
 |ptr r off b sh v ho hb=>exact .ptr r off b sh v ho hb
 |eptr sh r ver i off a es fz ho hv hc=>exact .eptr sh r ver i off a es fz ho hv hc
 |iptr sh p off b o cs t fr v hI hb hp hs hc=>exact .iptr sh p off b o cs t fr v (U5 hx hI) hb (hp.less hx) hs hc
 |map r b sh es ho hb=>exact .map r b sh es ho hb
 |func fn first captured fs cs hf hc _ _ ih ih'=>exact .func fn first captured fs cs hf hc ih ih'
 |iface t a v _ ih=>exact .iface t a v ih
 |tuple l vs hl _ ih=>exact .tuple l vs hl ih
 |yield r l f ps env bz ho hb=>exact .yield r l f ps env bz ho hb
 |slv sh r ver off len a cap n ho hv hlc ha hc=>exact .slv sh r ver off len a cap n ho hv hlc ha hc
 |epv sh r ver i off a n ho hv hc=>exact .epv sh r ver i off a n ho hv hc
 |nilv sh=>exact .nilv sh
theorem HR.less{Y:Xc P}(hx:∀b,Y b->X b)(h:HR w X μ hp):HR w Y μ hp where
 inj:=h.inj
 out i b hi hb:=⟨fun hy=>(h.out i b hi hb).1 (hx b hy),(h.out i b hi hb).2⟩
 xlt b hb:=h.xlt b (hx b hb)
 box i sh v ho:=by
  obtain⟨b,val,t,h1,h2,h3,h4,h5⟩:=h.box i sh v ho;exact⟨b,val,t,h1,h2,h3,h4,h5.less hx⟩
 arr i sh es fz ho:=by
  obtain⟨h0,h1⟩:=h.arr i sh es fz ho;refine⟨h0,?_⟩;rcases h1 with h1|⟨b,cs,t,vals,h1,h2,h3,h4,h5⟩
  ·exact .inl h1
  ·exact .inr ⟨b,cs,t,vals,h1,h2,h3,fun k p v hk hv=>⟨(h4 k p v hk hv).1,(h4 k p v hk hv).2.less hx⟩,h5⟩
 map i sh es ho:=by
  obtain⟨b,ents,clock,h1,h2,h3⟩:=h.map i sh es ho;exact⟨b,ents,clock,h1,h2,h3.mono fun h=>h.less hx⟩
 loop i f ps env bz ho:=by
  obtain⟨b,rc,h1,h2,h3,h4,h5,h6,h7⟩:=h.loop i f ps env bz ho;exact⟨b,rc,h1,h2,h3,h4,h5,h6,fun x hx'=>⟨(h7 x hx').1,(h7 x hx').2.less hx⟩⟩
 arv i sh es ho:=by
  obtain⟨h0,b,cs,t,vals,h1,h2,h3,h4,h5⟩:=h.arv i sh es ho;exact⟨h0,b,cs,t,vals,h1,h2,h3,fun k p v hk hv=>⟨(h4 k p v hk hv).1,(h4 k p v hk hv).2.less hx⟩,h5⟩
 tab:=h.tab.mono fun h=>h.less hx

end Go.Am

/- Bodies in pieces: loops over functions and deferred calls between pieces of code. -/
namespace Go.Am
variable{P:Program} {w:World} {X:Xc P} {μ:Nat->Option Nat} {hp:Heap}

/-! ### One code after the other -/
section
variable{F:Fence} {n:Nat}
def Xz(F:Fence)(n:Nat)(P:Program):List Code->(Exit->Act->World->Prop)->Act->World->Prop
 |[],Q=>Q .normal
 |c::r,Q=>c.wpIn F n P (Exit.then (Xz F n P r Q) Q)
theorem U6{K K':Act->World->Prop}{Q Q':Exit->Act->World->Prop}(hk:∀a w,K a w->K' a w)(hq:∀e a w,Q e a w->Q' e a w):∀e a w,Exit.then K Q e a w->Exit.then K' Q' e a w:=by
 intro e a w h;cases e <;> first|exact hk _ _ h|exact hq _ _ _ h
theorem U7{Q Q':Exit->Act->World->Prop}(hq:∀e a w,Q e a w->Q' e a w):∀(l:List Code) (a:Act) (w:World),Xz F n P l Q a w->Xz F n P l Q' a w
 |[],a,w,h=>hq _ _ _ h
 |c::r,a,w,h=>wpIn_mono h (U6 (fun a w=>U7 hq r a w) hq)
theorem K8{Q:Exit->Act->World->Prop}{y:List Code}:∀(x:List Code) (a:Act) (w:World),Xz F n P (x++y) Q a w->Xz F n P x (Exit.then (Xz F n P y Q) Q) a w
 |[],a,w,h=>h
 |c::r,a,w,h=>wpIn_mono h fun e a w he=>by
  cases e <;> first|exact K8 r a w he|exact he
theorem U8:∀(c:Code) {Q:Exit->Act->World->Prop} {a:Act} {w:World},Xz F n P (yl c) Q a w->c.wpIn F n P Q a w:=by
 intro c
 induction c with
 |seq x y ihx ihy=>
  intro Q a w h;apply wpIn_seq;exact wpIn_mono (ihx (K8 _ _ _ h)) (U6 (fun a w h=>ihy h) fun _ _ _ h=>h)
 |_=>
  intro Q a w h;exact wpIn_mono h fun e a w he=>by cases e <;> exact he
theorem Em(c:Code):yl c≠[]:=by
 induction c with
 |seq x y ihx ihy=>simp[yl,ihx]
 |_=>simp[yl]
theorem U9:∀(b c:Code),c∈yl b->∀x∈Y9 c,x∈Y9 b:=by
 intro b
 induction b with
 |seq x y ihx ihy=>
  intro c hc z hz;simp only[yl,ZE] at hc;simp only[Y9,ZE];rcases hc with hc|hc
  ·exact .inl (ihx c hc z hz)
  ·exact .inr (ihy c hc z hz)
 |_=>
  intro c hc z hz;simp only[yl,List.mem_singleton] at hc;subst hc;exact hz

theorem En{o:Oper}{a:Act}{w:World}{K K':Act->World->Prop}{Q:Exit->Act->World->Prop}(h:o.wpIn F n P a w K (Exit.then K' Q)):o.wpIn F n P a w K Q:=by
 unfold Oper.wpIn at*;refine⟨h.1,?_⟩;have h:=h.2;generalize (o.semAt F.round a.eval).run P w=r at*;cases r with
 |ok x w'=>
  cases x <;> simp only[Oper.uponIn] at h ⊢ <;>
   first
    |exact h
    |exact⟨h.1,CallsIn.mono h.2 (fun e w'' he=>by cases e <;> exact he)⟩
    |exact⟨h.1,RoundIn.mono h.2 (fun e w'' he=>by cases e <;> exact he)⟩
 |halt x w'=>cases x <;> simp only[Oper.uponIn] at h ⊢ <;> exact h
theorem JU{ops:Array Oper}{Q:Exit->Act->World->Prop}{l2:List Nat}:∀(l1:List Nat) (a:Act) (w:World),wpOpsIn F n P ops (Exit.then (wpOpsIn F n P ops Q l2) Q) l1 a w->wpOpsIn F n P ops Q (l1++l2) a w
 |[],a,w,h=>h
 |i::r,a,w,h=>by
  simp only[wpOpsIn,ZJ] at h ⊢;split
  ·rename_i ho;rw[ho] at h;exact JU r a w h
  ·rename_i o ho;rw[ho] at h;simp only[] at h;split
   ·rename_i hw;rw[Zd hw] at h;exact En (Oper.wpIn_mono (fun a w=>JU r a w) h)
   ·rename_i hw;rw[Za hw] at h;exact⟨h.1,JU r _ _ h.2⟩
end

/-! ### Deferred calls -/
inductive DOk(w0 w:World)(X:Xc P)(μ:Nat->Option Nat)(hp:Heap):List AV->List Deferred->Prop
 |nil:DOk w0 w X μ hp [] []
 |mark (D:Nat) (ds:List AV) (dd:List Deferred) (hX:X D) (h0:w0.heap.size<=D) (hD:w.heap[D]? =some (.deferred (some []))) (hn:∀d∈dd,d.target≠.collected D) (h:DOk w0 w X μ hp ds dd):DOk w0 w X μ hp ds ({ target:=.collected D,args:= #[] }::dd)
 |fn (g:FuncId) (first captured:List AV) (fs cs:List Value) (ds:List AV) (dd:List Deferred) (hf:LR w X μ hp first fs) (hc:LR w X μ hp captured cs) (h:DOk w0 w X μ hp ds dd):
   DOk w0 w X μ hp (.func (.func g) first captured::ds) ({ target:=.fn (.func g) cs.toArray,args:=fs.toArray }::dd)
theorem LR.map{w':World}{X':Xc P}{μ':Nat->Option Nat}{hp':Heap}{l:List AV}{vs:List Value}(hv:∀a∈l,∀v,AR w X μ hp a v->AR w' X' μ' hp' a v)(h:LR w X μ hp l vs):LR w' X' μ' hp' l vs:=by
 induction h with
 |nil=>exact .nil
 |cons h _ ih=>exact .cons (hv _ ZT _ h) (ih fun a ha=>hv a (Zy _ ha))
theorem DOk.map{w0 w':World}{X':Xc P}{μ':Nat->Option Nat}{hp':Heap}{ds:List AV}{dd:List Deferred}(hv:∀a∈ds,∀v,AR w X μ hp a v->AR w' X' μ' hp' a v)
  (hm:∀D,{ target:=.collected D,args:= #[] }∈dd->X D->w.heap[D]? =some (.deferred (some []))->X' D/\w'.heap[D]? =some (.deferred (some [])))(h:DOk w0 w X μ hp ds dd):DOk w0 w' X' μ' hp' ds dd:=by
 induction h with
 |nil=>exact .nil
 |mark D ds dd hX h0 hD hn _ ih=>
  obtain⟨k1,k2⟩:=hm D ZT hX hD;exact .mark D ds dd k1 h0 k2 hn (ih hv fun D hD=>hm D (Zy _ hD))
 |fn g first captured fs cs ds dd hf hc _ ih=>
  have one:∀{l:List AV} {vs:List Value},LR w X μ hp l vs->(∀a∈l,∀v,AR w X μ hp a v->AR w' X' μ' hp' a v)->LR w' X' μ' hp' l vs:=fun h hv=>h.map hv;have parts:AR w' X' μ' hp' (.func (.func g) first captured) (.func (.func g) fs.toArray cs.toArray):=hv _ ZT _ (.func _ _ _ fs cs hf.length hc.length (fun i a v=>hf.get i a v) (fun i a v=>hc.get i a v));have sp:LR w' X' μ' hp' first fs/\LR w' X' μ' hp' captured cs:=by
   generalize hu:Value.func (.func g) fs.toArray cs.toArray=u at parts;cases parts with|func _ _ _ fs' cs' hf' hc' h1 h2=>
   cases hu;exact⟨LR.of hf' h1,LR.of hc' h2⟩
  exact .fn g first captured fs cs ds dd sp.1 sp.2 (ih (fun a ha=>hv a (Zy _ ha)) fun D hD=>hm D (Zy _ hD))
theorem DOk.ext{w0 w':World}{b:Nat}{Y:Xc P}{μ':Nat->Option Nat}{hp':Heap}{ds:List AV}{dd:List Deferred}(hH:HR w X μ hp)(E:Ext b Y μ hp w μ' hp' w')(h:DOk w0 w X μ hp ds dd):DOk w0 w' X μ' hp' ds dd:=
 h.map (fun a _ v ha=>(E.cast (Z:=X)).ar ha) fun D _ hX hD=>⟨hX,by rw[E.blk D (YD hD) fun i hl e=>(hH.out i D (yX hl) e).1 hX];exact hD⟩

inductive TrP(P:Program)(body:Code)(nt self:Nat):List Code->ACode->List (ATop × ACode)->Prop
 |nil:TrP P body nt self [] .skip []
 |code (c:Code) (r:List Code) (a x:ACode) (more:List (ATop × ACode)) (hc:Tr P nt c a) (h:TrP P body nt self r x more):TrP P body nt self (c::r) (.seq a x) more
 |range (c:Code) (r:List Code) (f:Operand) (ps:Array Tmp) (azs bd:Code) (fa:AArg) (env:List Nat) (x:ACode) (more:List (ATop × ACode)) (hc:c=.rangeFunc f ps azs bd\/∃id,c=.block id (.rangeFunc f ps azs bd)) (hf:YN P 0 f=some fa) (hl:(ps,azs,bd)∈Y9 body)
   (h:TrP P body nt self r x more):TrP P body nt self (c::r) .skip ((.range self fa ps.toList env,x)::more)
 |dfr (id:Nat) (ops:Array Oper) (r:List Code) (o:Oper) (ca:Call) (s:Nat) (l:List AOper) (pan:Bool) (keep:List Nat) (x:ACode) (more:List (ATop × ACode)) (ho:ops.toList.getLast? =some o) (h1:o.op=.defer ca) (h2:o.guard=none) (h3:o.dst=none) (h4:ca.callee=.value (.tmp s)) (h5:ca.args.toList=[])
   (hl:yj P nt ops ops.toList.dropLast=some l) (h:TrP P body nt self r x more):TrP P body nt self (.region id ops false::r) (.region pan l keep) ((.dfr s,x)::more)

theorem Eo{c:Code}{ops:Array Oper}{s:Nat}(h:jY c=some (ops,s)):∃id o ca,c=.region id ops false/\ops.toList.getLast? =some o/\o.op=.defer ca/\o.guard=none/\o.dst=none/\ca.callee=.value (.tmp s)/\ca.args.toList=[]:=by
 unfold jY at h;split at h
 ·rename_i id ops0;split at h
  ·rename_i o ho;split at h
   ·rename_i ca h1 h2 h3;split at h
    ·rename_i s0 h4 h5;cases h;exact⟨id,o,ca,rfl,ho,h1,h2,h3,h4,h5⟩
    ·cases h
   ·cases h
  ·cases h
 ·cases h

theorem K9{body:Code}{hm:Bool}{nt self:Nat}:∀(cs:List Code) (x:ACode) (more:List (ATop × ACode)),(∀c∈cs,∀z∈Y9 c,z∈Y9 body)->qf P hm nt self cs=some (x,more)->TrP P body nt self cs x more
 |[],x,more,_,h=>by cases h;exact .nil
 |c::r,x,more,hl,h=>by
  simp only[qf] at h;split at h
  ·cases h
  ·rename_i x1 more1 hr;have ih:=K9 r x1 more1 (fun c hc=>hl c (Zy _ hc)) hr;have hlc:=hl c ZT;split at h
   ·rename_i c1 hc;split at h
    ·rename_i a ha;cases h;have hcc:c1=c:=by
      unfold Jl at hc;split at hc
      ·cases hc
      ·cases hc
      ·split at hc
       ·cases hc
       ·cases hc;rfl
     subst hcc;exact .code _ _ _ _ _ (U3 _ _ ha) ih
    ·cases h
   ·rename_i f ps azs bd hc;split at h
    ·rename_i fa hfa;cases h;unfold Jl at hc;split at hc
     ·cases hc;exact .range _ _ _ _ _ _ _ _ _ _ (.inl rfl) hfa (hlc _ (by simp[Y9])) ih
     ·cases hc;exact .range _ _ _ _ _ _ _ _ _ _ (.inr ⟨_,rfl⟩) hfa (hlc _ (by simp[Y9])) ih
     ·split at hc <;> cases hc
    ·cases h
   ·rename_i ops s hc;split at h
    ·rename_i l hlo;cases h;unfold Jl at hc;split at hc
     ·cases hc
     ·cases hc
     ·split at hc
      ·rename_i ops' s' hsd;cases hc;obtain⟨id,o,ca,rfl,g1,g2,g3,g4,g5,g6⟩:=Eo hsd;exact .dfr _ _ _ _ _ _ _ _ _ _ _ g1 g2 g3 g4 g5 g6 hlo ih
      ·cases hc
    ·cases h

theorem Ep(ret:List Nat)(rounds:List ARound)(a x:ACode)(more:List (ATop × ACode)):∃l,(Xw ret rounds (.seq a x) more).1=.seq (annot a l [] ret) (Xw ret rounds x more).1/\(Xw ret rounds (.seq a x) more).2.1=(Xw ret rounds x more).2.1:=by
 cases more with
 |nil=>exact⟨_,rfl,rfl⟩
 |cons y r=>
  obtain⟨op,c2⟩:=y;simp only[Xw,annot];exact⟨_,rfl,trivial⟩
theorem Er{body:Code}{nt self:Nat}{cs:List Code}{x:ACode}{more:List (ATop × ACode)}(ret:List Nat)(rounds:List ARound)(h:TrP P body nt self cs x more):TrP P body nt self cs (Xw ret rounds x more).1 (Xw ret rounds x more).2.1:=by
 induction h with
 |nil=>exact .nil
 |code c r a x more hc _ ih=>
  obtain⟨l,h1,h2⟩:=Ep ret rounds a x more;rw[h1,h2];exact .code _ _ _ _ _ (K5 hc _ _ _) ih
 |range c r f ps azs bd fa env x more hc hf hl _ ih=>
  simp only[Xw,annot];exact .range _ _ _ _ _ _ _ _ _ _ hc hf hl ih
 |dfr id ops r o ca s l pan keep x more h0 h1 h2 h3 h4 h5 hl _ ih=>
  simp only[Xw,annot];exact .dfr _ _ _ _ _ _ _ _ _ _ _ h0 h1 h2 h3 h4 h5 hl ih
theorem Es{body:Code}{nt self:Nat}{cs:List Code}{x:ACode}{more:List (ATop × ACode)}(h:TrP P body nt self cs x more)(hm:more=[])(out:List Nat)(env:List (Nat × List Nat))(ret:List Nat):TrP P body nt self cs (annot x out env ret) []:=by
 induction h with
 |nil=>exact .nil
 |code c r a x more hc _ ih=>subst hm;exact .code _ _ _ _ _ (K5 hc _ _ _) (ih rfl)
 |range=>cases hm
 |dfr=>cases hm

def Et(nt:Nat)(w0:World)(X0:Xc P)(μ0:Nat->Option Nat)(hp0:Heap)(e:AExit)(st:St)(ds:List AV)(e':Exit)(a:Act)(w':World):Prop:=
 a.tmps.size=nt/\∃(X:Xc P) (μ':Nat->Option Nat),(∀b,X0 b->X b)/\HR w' X μ' st.hp/\FR w' X μ' st.hp st.fr a.tmps/\Ext hp0.length X0 μ0 hp0 w0 μ' st.hp w'/\YF w' X μ' st.hp e e'/\DOk w0 w' X μ' st.hp ds a.defers
structure Mid(nt:Nat)(w0:World)(X0:Xc P)(μ0:Nat->Option Nat)(hp0:Heap)(X:Xc P)(μ:Nat->Option Nat)(st:St)(ds:List AV)(a:Act)(w:World):Prop where
 less:∀b,X0 b->X b
 hr:HR w X μ st.hp
 fr:FR w X μ st.hp st.fr a.tmps
 sz:a.tmps.size=nt
 ext:Ext hp0.length X0 μ0 hp0 w0 μ st.hp w
 dok:DOk w0 w X μ st.hp ds a.defers

theorem Eu(Γ:Oracle)(Λ:Yw)(b:Nat)(more:List (ATop × ACode))(a x:ACode)(st:St)(ds:List AV):apieces Γ Λ b more (.seq a x) st ds=match aexec Γ Λ b a st with
  |some (.normal,st1)=>apieces Γ Λ b more x st1 ds
  |some (e,st1)=>some (e,st1,ds)
  |none=>none:=by
 cases more with
 |nil=>
  simp only[apieces,aexec];cases hx:aexec Γ Λ b a st with
  |none=>rfl
  |some q=>
   obtain⟨e,s⟩:=q;cases e <;> rfl
 |cons y r=>
  obtain⟨op,c2⟩:=y;simp only[apieces,aexec];cases hx:aexec Γ Λ b a st with
  |none=>rfl
  |some q=>
   obtain⟨e,s⟩:=q;cases e <;> rfl

theorem kb{fr:Fr}:∀{ks:List Nat} {x:Nat × AV},x∈fr.keep ks->fr.look x.1=some x.2
 |[],x,h=>by cases h
 |k::r,x,h=>by
  simp only[Fr.keep] at h;split at h
  ·rename_i v hv;rcases Zl.1 h with rfl|h
   ·exact hv
   ·exact kb h
  ·exact kb h

section
variable{Γ:Oracle} {Λ:Yw} {body:Code} {fnc:Func} {self:Nat}

theorem Ev(hΓ:SoundO P Γ){w0:World}{X0:Xc P}{μ0:Nat->Option Nat}{hp0:Heap}{st st2:St}{ds ds2:List AV}{a:Act}{Q:Exit->Act->World->Prop}{f:Operand}{ps:Array Tmp}{azs bd:Code}{fa:AArg}{env:List Nat}
  (hfn:P.funcs[self]? =some fnc)(hbd:fnc.body=some body)(hf:YN P 0 f=some fa)(hl:(ps,azs,bd)∈Y9 body)(M:Mid fnc.ntmps w0 X0 μ0 hp0 X μ st ds a w)(hs:atop Γ (.range self fa ps.toList env) st ds=some (.normal,st2,ds2))
  (hQ:∀X2 μ2 a2 w2,Mid fnc.ntmps w0 X0 μ0 hp0 X2 μ2 st2 ds2 a2 w2->Q .normal a2 w2):(Code.rangeFunc f ps azs bd).wpIn (Fe none) 0 P Q a w:=by
 simp only[atop] at hs;split at hs
 ·cases hs
 ·rename_i v hv;split at hs
  ·rename_i g first captured hcal
   split at hs
   ·rename_i rv hp' hg;split at hs
    ·rename_i f2 hlf;cases hs;refine wpIn_rangeFunc fun fn _=> ?_;have hav:=XP M.fr hf hv;obtain⟨fs,cs,e1,e2,e3⟩:=JG hcal hav

     have hno:∀k:Nat,(fun _=>none:Nat->Option Nat) k=none:=fun _=>rfl
     let w1:=w.alloc (.deferred (some []))
     let rc:Loop:={ state:=.ready,pending:=none,fn,tmps:=a.tmps,params:=ps,assign:=azs,body:=bd,defers:=w.heap.size }
     let w2:=w1.alloc (.loop rc)
     let X2:Xc P:=Xp X (upd (fun _=>none) 0 (some w.heap.size))
     have hX2:∀b,X b->X2 b:=fun b hb=>.inl hb;have hXD:X2 w.heap.size:=.inr ⟨0,Yg _ _ _⟩;have H0:HR w (Xp X (fun _=>none)) μ st.hp:=by rw[XS hno];exact M.hr
     have H1:HR w1 X2 μ st.hp:=H0.hold (.deferred (some [])) (hno 0);have T1:Tran w (Xp X (fun _=>none)) μ st.hp w1 X2 μ st.hp:=KB (.deferred (some [])) (hno 0);rw[XS hno] at T1
     let hp1:=st.hp++[AObj.loop self ps.toList (st.fr.keep env) false]
     let μ1:=upd μ st.hp.length (some w1.heap.size)
     have Ea:∀b,Ext b X2 μ st.hp w1 μ1 hp1 w2:=fun b=>Ext.push _ _ (Ext.alloc b _) (fun k hk=>by cases hk;exact Zc _);have henv:∀x∈st.fr.keep env,x.1<rc.tmps.size/\AR w2 X2 μ1 hp1 x.2 (rc.tmps.getD x.1 undef):=fun x hx=>by
      obtain⟨k1,k2⟩:=M.fr x.1 x.2 (kb hx);exact⟨k1,(Ea 0).ar (T1.ar k2)⟩
     have H2:HR w2 X2 μ1 hp1:=by
      refine H1.push _ _ (Ext.alloc 0 _) (fun i k hi hk=>Y2 w1 _ (H1.out i k hi hk).2) (fun k hk=>by cases hk;exact⟨Zc _,by simp[w2]⟩) (fun _ _ h=>by cases h) (fun _ _ _ h=>by cases h) (fun _ _ h=>by cases h) ?_;intro f' ps' env' bz h;cases h;exact⟨w1.heap.size,rc,rfl,YW w1 _,rfl,rfl,by simp[rc],⟨fnc,body,hfn,hbd,M.sz.symm,hl⟩,henv⟩
     have hyield:AR w2 X2 μ1 hp1 (.yield st.hp.length) (.func (.yield w1.heap.size) #[] #[]):=.yield _ _ self ps.toList (st.fr.keep env) false y8 (Yg _ _ _);have mv:∀{a:AV} {v:Value},AR w X μ st.hp a v->AR w2 X2 μ1 hp1 a v:=fun h=>(Ea 0).ar (T1.ar h);have hL:LR w2 X2 μ1 hp1 (first++[.yield st.hp.length]++captured) (fs++[Value.func (.yield w1.heap.size) #[] #[]]++cs):=((e2.map fun _ _ _=>mv).append (.cons hyield .nil)).append (e3.map fun _ _ _=>mv);obtain⟨hent,hcalls⟩:=hΓ.seq _ _ _ _ _ hg w2 X2 μ1 _ H2 hL;have hD1:w1.heap[w.heap.size]? =some (.deferred (some [])):=YW w _;have hD2:w2.heap[w.heap.size]? =some (.deferred (some [])):=by rw[Y2 w1 _ (by simp[w1])];exact hD1
     have hsize1:w1.heap.size=w.heap.size+1:=by simp[w1]
     refine⟨w.heap.size+1,[{ target:=.collected w.heap.size,args:= #[] }],w2,{ target:=.fn (.func g) cs.toArray,args:=fs.toArray++ #[Value.func (.yield (w.heap.size+1)) #[] #[]] },w2,g,(fs++[Value.func (.yield w1.heap.size) #[] #[]]++cs).toArray,w2,run_enterLoop_outer fn a.tmps ps azs bd,?_,fun _ _=>trivial,?_,JE,?_⟩
     ·simp only[resolve,rangeCall,e1,Deferred.ofValue,pure_bind];simp[Act.eval]
     ·rw[hsize1] at hent ⊢;simp only[invoke];have:fs.toArray++ #[Value.func (.yield (w.heap.size+1)) #[] #[]]++cs.toArray=(fs++[Value.func (.yield (w.heap.size+1)) #[] #[]]++cs).toArray:=by
       apply Array.ext';simp
      rw[this];exact hent
     ·have h3:CallsIn (Fe none) (0 - 1) P g (fs++[Value.func (.yield w1.heap.size) #[] #[]]++cs).toArray w2 _:=callsIn_wide.2 hcalls;refine h3.mono fun e w3 hR=> ?_;cases e with
      |panicked ch=>
       obtain⟨μ',p,v',h1,_⟩:=hR;cases h1
      |outgrown=>exact hR.elim
      |returned u=>
       obtain⟨μ3,v2,k1,H3,E3,_⟩:=hR;obtain⟨bz3,m1,m2⟩:=E3.loop st.hp.length self ps.toList (st.fr.keep env) false y8;have hf2:bz3=false:=by
        rw[m1] at hlf;cases bz3
        ·rfl
        ·cases hlf
       subst hf2;obtain⟨l3,rc3,n1,n2,n3,n4,n5,n6,n7⟩:=H3.loop _ _ _ _ _ m1;have hl3:l3=w.heap.size+1:=by
        have hup:μ1 st.hp.length=some w1.heap.size:=Yg _ _ _;rw[m2,hup,hsize1] at n1;cases n1;rfl
       subst hl3;refine⟨none,w3.putObj (w.heap.size+1) (.loop { rc3 with state:=.exhausted }),by rw[<-n4];exact run_endLoop n2 (by rw[n3];simp),?_⟩

       have T3:Touch (w.heap.size+1) w3 (w3.putObj (w.heap.size+1) (.loop { rc3 with state:=.exhausted })):=Touch.put fun cs t fr e=>by rw[n2] at e;cases e
       have hlen:st.hp.length<=hp'.length:=by have:=E3.len;simp at this;omega
       have hO:Own st.hp.length hp':=by
        refine Own.ext (hp:=st.hp++[AObj.loop self ps.toList (st.fr.keep env) false]) (fun i o hi ho=> ?_) (by simp) (E3.mono (b:=st.hp.length) (by simp));rw[Qc hi] at ho;exact M.hr.own i o hi ho
       have Eall:∀b,b<=st.hp.length->Ext b X2 μ st.hp w1 μ3 hp' w3:=fun b hb=>(Ea b).trans ((E3.mono (b:=b) (by simp;omega)).cast);have mv3:∀{a:AV} {v:Value},AR w X μ st.hp a v->AR (w3.putObj (w.heap.size+1) (.loop { rc3 with state:=.exhausted })) X2 μ3 (hp'.take st.hp.length) a v:=fun h=>T3.ar (((Eall 0 (Ze _)).ar (T1.ar h)).take h.refs_lt);have Ew:Ext hp0.length X0 μ0 hp0 w0 μ st.hp w1:=M.ext.trans (Ext.alloc _ _);have Ef:Ext hp0.length X0 μ0 hp0 w0 μ3 (hp'.take st.hp.length) (w3.putObj (w.heap.size+1) (.loop { rc3 with state:=.exhausted })):=T3.ext (by have:=M.ext.size;omega) (Ew.trans (((Eall _ M.ext.len).cast).take (Zc _)));refine hQ X2 μ3 _ _ ⟨fun b hb=>hX2 b (M.less b hb),T3.hr (fun i hi e=> ?_) (H3.take hO),fun s u hs=>⟨(M.fr s u hs).1,mv3 (M.fr s u hs).2⟩,M.sz,Ef,?_⟩
       ·have hi':i<st.hp.length:=by simp at hi;omega
        have:=H3.inj i st.hp.length _ (by omega) (by have:=(Zb.1 m1).1;omega) e n1;omega
       ·have blk3:∀D,X2 D->w2.heap[D]? =some (.deferred (some []))->(w3.putObj (w.heap.size+1) (.loop { rc3 with state:=.exhausted })).heap[D]? =some (.deferred (some [])):=by
         intro D hXD hD;have hD3:w3.heap[D]? =some (.deferred (some [])):=by
          rw[E3.blk D (YD hD) fun i hl e=>(H2.out i D (yX hl) e).1 hXD];exact hD
         rw[T3.old D (by rintro rfl;rw[n2] at hD3;cases hD3)];exact hD3
        refine .mark _ _ _ hXD M.ext.size (blk3 _ hXD hD2) ?_ ?_
        ·intro d hd e;have:∀{ds:List AV} {dd:List Deferred},DOk w0 w X μ st.hp ds dd->∀d∈dd,d.target≠.collected w.heap.size:=by
          intro ds dd h
          induction h with
          |nil=>intro d hd;cases hd
          |mark D ds dd hX h0 hD hn _ ih=>
           intro d hd e;rcases Zl.1 hd with rfl|hd
           ·cases e;have:=YD hD;omega
           ·exact ih d hd e
          |fn g first captured fs cs ds dd hf hc _ ih=>
           intro d hd e;rcases Zl.1 hd with rfl|hd
           ·cases e
           ·exact ih d hd e
         exact this M.dok d hd e
        ·refine M.dok.map (fun a _ v h=>mv3 h) fun D _ hX hD=>⟨hX2 D hX,blk3 D (hX2 D hX) ?_⟩;have hlt:=YD hD;rw[Y2 w1 _ (by simp[w1];omega),Y2 w _ hlt];exact hD
    ·cases hs
   ·cases hs
  ·cases hs

theorem Ex{ops:Array Oper}{o:Oper}{ca:Call}{s:Nat}{a:Act}{Q:Exit->Act->World->Prop}(ho:ops.toList.getLast? =some o)(h1:o.op=.defer ca)(h2:o.guard=none)(h3:o.dst=none)(h4:ca.callee=.value (.tmp s))(h5:ca.args.toList=[])
  {g:FuncId}{fs cs:List Value}(hv:a.tmps.getD s undef=.func (.func g) fs.toArray cs.toArray)(hQ:Q .normal { a with defers:={ target:=.fn (.func g) cs.toArray,args:=fs.toArray }::a.defers } w):wpOpsIn (Fe none) 0 P ops Q [ops.size - 1] a w:=by
 have hi:ops[ops.size - 1]? =some o:=by
  rw[List.getLast?_eq_getElem?] at ho;simpa using ho
 have hargs:ca.args= #[]:=by
  apply Array.ext';simpa using h5
 have hw:Region.wanted o (yielded ops a.tmps)=true:=by simp[Region.wanted,h2]
 simp only[wpOpsIn,hi,hw,if_true];refine⟨fun _ _=>trivial,?_⟩;have hrun:(o.semAt (Fe none).round a.eval).run P w=.ok (.defer { target:=.fn (.func g) cs.toArray,args:=fs.toArray }) w:=by
  have hev:a.eval (.tmp s)=.func (.func g) fs.toArray cs.toArray:=hv;show(o.semAt none a.eval).run P w=_;rw[Oper.semAt_none];simp only[execOp,h1,resolve,h4,hev,Deferred.ofValue,pure_bind,hargs];simp
 rw[hrun,Oper.uponIn_defer,h3];exact hQ

theorem Ey(hmix:P.follows .mixedOrders=true)(hΓ:SoundO P Γ)(hΛ:∀nt c ac,Tr P nt c ac->xd P nt Λ c ac)(hfn:P.funcs[self]? =some fnc)(hbd:fnc.body=some body){w0:World}{X0:Xc P}{μ0:Nat->Option Nat}{hp0:Heap}(h0:HR w0 X0 μ0 hp0)
  {cs:List Code}{x:ACode}{more:List (ATop × ACode)}(hT:TrP P body fnc.ntmps self cs x more):∀(st:St) (ds:List AV) (e:AExit) (st':St) (ds':List AV),apieces Γ Λ hp0.length more x st ds=some (e,st',ds')->∀(w:World) (X:Xc P) (μ:Nat->Option Nat) (a:Act) (Q:Exit->Act->World->Prop),
  Mid fnc.ntmps w0 X0 μ0 hp0 X μ st ds a w->(∀e' a' w',Et fnc.ntmps w0 X0 μ0 hp0 e st' ds' e' a' w'->Q e' a' w')->Xz (Fe none) 0 P cs Q a w:=by
 have code:∀{c:Code} {ac:ACode},Tr P fnc.ntmps c ac->KY P fnc.ntmps Γ Λ c ac:=fun h=>JQ hmix hΓ (hΛ fnc.ntmps) h
 induction hT with
 |nil=>
  intro st ds e st' ds' hs w X μ a Q M hQ;simp only[apieces,aexec,Option.some.injEq,Prod.mk.injEq] at hs;obtain⟨rfl,rfl,rfl⟩:=hs;exact hQ _ _ _ ⟨M.sz,X,μ,M.less,M.hr,M.fr,M.ext,trivial,M.dok⟩
 |code c r a0 x more hc _ ih=>
  intro st ds e st' ds' hs w X μ a Q M hQ;rw[Eu] at hs;cases hx:aexec Γ Λ hp0.length a0 st with
  |none=>rw[hx] at hs;cases hs
  |some q=>
   obtain⟨e1,st1⟩:=q;rw[hx] at hs;refine code hc hp0.length st e1 st1 hx w X μ a _ none M.ext.len (h0.own.ext (Zc _) M.ext) M.hr M.fr M.sz fun e' a' w' hL=> ?_;obtain⟨g1,g2,μ',g3,g4,g5,g6⟩:=hL;have M1:Mid fnc.ntmps w0 X0 μ0 hp0 X μ' st1 ds a' w':=⟨M.less,g3,g4,g2,M.ext.trans g5.cast,by rw[g1];exact M.dok.ext M.hr g5⟩;have done:e1≠.normal->e=e1/\st'=st1/\ds'=ds->Q e' a' w':=by
    rintro _ ⟨rfl,rfl,rfl⟩;exact hQ _ _ _ ⟨g2,X,μ',M1.less,g3,g4,M1.ext,g6,M1.dok⟩
   cases e1 with
   |normal=>
    cases e' <;> simp only[YF] at g6
    exact ih st1 ds e st' ds' hs w' X μ' a' Q M1 hQ
   |exit i=>
    cases hs;cases e' <;> simp only[YF] at g6
    exact done (by simp) ⟨rfl,rfl,rfl⟩
   |ret=>
    cases hs;cases e' <;> simp only[YF] at g6
    exact done (by simp) ⟨rfl,rfl,rfl⟩
   |panic p=>
    cases hs;cases e' <;> simp only[YF] at g6
    exact done (by simp) ⟨rfl,rfl,rfl⟩
 |range c r f ps azs bd fa env x more hc hf hl _ ih=>
  intro st ds e st' ds' hs w X μ a Q M hQ;simp only[apieces,aexec] at hs;split at hs
  ·rename_i st2 ds2 ha;have go:∀Q':Exit->Act->World->Prop,(∀a w,Xz (Fe none) 0 P r Q a w->Q' .normal a w)->(Code.rangeFunc f ps azs bd).wpIn (Fe none) 0 P Q' a w:=fun Q' hq=>Ev hΓ hfn hbd hf hl M ha fun X2 μ2 a2 w2 M2=>hq _ _ (ih st2 ds2 e st' ds' hs w2 X2 μ2 a2 Q M2 hQ);rcases hc with rfl|⟨id,rfl⟩
   ·exact go _ fun _ _ h=>h
   ·show(Code.block id (.rangeFunc f ps azs bd)).wpIn (Fe none) 0 P _ a w;apply wpIn_block;exact go _ fun _ _ h=>h
  ·cases hs
 |dfr id ops r o ca s l pan keep x more ho h1 h2 h3 h4 h5 hl _ ih=>
  intro st ds e st' ds' hs w X μ a Q M hQ;have hpos:0<ops.size:=by
   rcases Nat.eq_zero_or_pos ops.size with h|h
   ·have:ops.toList=[]:=by simpa using h
    rw[this] at ho;cases ho
   ·exact h
  have hrange:List.range ops.size=List.range' 0 (ops.size - 1)++[ops.size - 1]:=by
   conv=>lhs;rw[show ops.size=(ops.size - 1)+1 by omega]
   rw[List.range_succ,List.range_eq_range']
  have hseg:yj P fnc.ntmps ops ((ops.toList.drop 0).take (ops.size - 1))=some l:=by
   rw[Z5,<-hl,List.dropLast_eq_take];simp
  apply wpIn_region;rw[hrange];apply JU;simp only[apieces,aexec] at hs;cases hx:aops Γ hp0.length l st.fr st.hp with
  |none=>rw[hx] at hs;cases hs
  |some q=>
   obtain⟨e1,fr1,hp1⟩:=q;rw[hx] at hs;refine JJ hΓ l l (ops.size - 1) 0 w μ st.hp st.fr a (by omega) hseg (Likes.refl l) hx M.ext.len M.hr M.fr M.sz fun e' a' w' hL=> ?_;have hL2:=hL.keep keep;obtain⟨g1,g2,μ',g3,g4,g5,g6⟩:=hL2;have M1:Mid fnc.ntmps w0 X0 μ0 hp0 X μ' ⟨fr1.keep keep,hp1⟩ ds a' w':=⟨M.less,g3,g4,g2,M.ext.trans g5.cast,by rw[g1];exact M.dok.ext M.hr g5⟩;cases e1 with
   |normal=>
    cases e' <;> simp only[YF] at g6
    simp only[atop] at hs;cases hlk:(fr1.keep keep).look s with
    |none=>rw[hlk] at hs;cases hs
    |some v=>
     rw[hlk] at hs;obtain⟨q1,q2⟩:=g4 s v hlk;split at hs
     ·rename_i st2 ds2 hat;split at hat
      ·rename_i g first captured heq
       cases heq;cases hat;obtain⟨fs,cs',e1',e2',e3'⟩:=JG (v:=.func (.func g) first captured) rfl q2;refine Ex ho h1 h2 h3 h4 h5 e1' ?_;exact ih _ _ e st' ds' hs w' X μ' { a' with defers:=_ } Q ⟨M1.less,M1.hr,M1.fr,M1.sz,M1.ext,.fn g first captured fs cs' _ _ e2' e3' M1.dok⟩ hQ
      ·cases hat
     ·cases hs
   |panic p=>
    cases e' <;> simp only[YF] at g6
    simp only[] at hs;split at hs
    ·rename_i hq;split at hq <;> cases hq
    ·rename_i e2 st2 hne hq;split at hq
     ·cases hq;cases hs;exact hQ _ _ _ ⟨g2,X,μ',M1.less,g3,g4,M1.ext,g6,M1.dok⟩
     ·cases hq
    ·cases hs
   |exit i=>cases hs
   |ret=>cases hs
end
end Go.Am

/- Functions and what their calls come to: bodies, calls, the whole. -/
namespace Go.Am
variable{P:Program} {w:World} {X:Xc P} {μ:Nat->Option Nat} {hp:Heap}

theorem ua:∀{l:List AV} {i s:Nat} {v:AV},(params i l).look s=some v->∃k,s=i+k/\l[k]? =some v
 |[],i,s,v,h=>by simp[params,Fr.look] at h
 |a::r,i,s,v,h=>by
  simp only[params,Fr.look] at h;split at h
  ·rename_i e;subst e;cases h;exact⟨0,rfl,rfl⟩
  ·obtain⟨k,h1,h2⟩:=ua h;exact⟨k+1,by omega,by simpa using h2⟩

theorem xe{f:FuncId}{fnc:Func}{c:Code}{args:Array Value}(hf:P.funcs[f]? =some fnc)(hb:fnc.body=some c)(hn:fnc.name≠ "runtime.NumGoroutine"):(callFunc f args).run P w=.ok (.enter f args) w:=by
 simp[callFunc,run_program,hf,hn,hb]

theorem ub{args:List AV}{vs:List Value}{nt:Nat}(hl:LR w X μ hp args vs)(hn:vs.length<=nt):FR w X μ hp (params 0 args) (vs.toArray++Array.replicate (nt - vs.toArray.size) undef)/\(vs.toArray++Array.replicate (nt - vs.toArray.size) undef).size=nt:=by
 refine⟨fun s v hs=> ?_,by simp;omega⟩;obtain⟨k,rfl,hk⟩:=ua hs;have hkl:k<args.length:=(Zb.1 hk).1;have hkv:k<vs.length:=by rw[<-hl.length];exact hkl
 refine⟨by simp;omega,?_⟩;have:(vs.toArray++Array.replicate (nt - vs.toArray.size) undef).getD (0+k) undef=vs[k]:=by
  rw[ZC,Zv,Array.getElem?_append_left (by simpa using hkv)];simp[hkv]
 rw[this];exact hl.get k v vs[k] hk (Zf hkv)

def Mode(w:World)(X:Xc P)(μ:Nat->Option Nat)(hp:Heap)(p:Option PV)(u:FrameMode):Prop:=
 match p with
 |none=>u=.returning
 |some v=>∃x,u=.panicking [{ v:=x,recovered:=false }]/\AR w X μ hp (.pv none v) x

theorem kd{Γ:Oracle}(hΓ:SoundO P Γ){fnc:Func}{w0:World}{X0:Xc P}{μ0:Nat->Option Nat}{hp0:Heap}{R:Ending->World->Prop}{tmps:Array Value}{p':Option PV}{hp':Heap}:∀(dd:List Deferred) (ds:List AV) (p:Option PV) (hp:Heap) (w:World) (X:Xc P) (μ:Nat->Option Nat) (u:FrameMode),
  aunwind Γ ds p hp=some (p',hp')->DOk w0 w X μ hp ds dd->HR w X μ hp->Ext hp0.length X0 μ0 hp0 w0 μ hp w->Mode w X μ hp p u->
  (∀w' μ' u',HR w' X μ' hp'->Ext hp0.length X0 μ0 hp0 w0 μ' hp' w'->(∀a v,AR w X μ hp a v->AR w' X μ' hp' a v)->Mode w' X μ' hp' p' u'->LeavesInM (Fe none) 0 P fnc tmps R [] u' w')->LeavesInM (Fe none) 0 P fnc tmps R dd u w
 |[],ds,p,hp,w,X,μ,u,hs,hD,hH,E,hu,hQ=>by
  cases hD;simp only[aunwind,Option.some.injEq,Prod.mk.injEq] at hs;obtain⟨rfl,rfl⟩:=hs;exact hQ w μ u hH E (fun _ _ h=>h) hu
 |d::dd,ds,p,hp,w,X,μ,u,hs,hD,hH,E,hu,hQ=>by
  have hrun:u≠.run:=by
   unfold Mode at hu;split at hu
   ·rw[hu];simp
   ·obtain⟨x,rfl,_⟩:=hu;simp
  refine⟨hrun,?_⟩;cases hD with
  |mark D _ _ hX h0 hb hn h=>
   refine .inl ⟨D,_,rfl,run_takeDeferred hb,?_⟩;have T:Touch D w (w.putObj D (.deferred none)):=Touch.put fun cs t fr e=>by rw[hb] at e;cases e
   refine kd hΓ dd ds p hp _ X μ u hs (h.map (fun a _ v ha=>T.ar ha) fun D' hD' hX' hb'=>⟨hX',?_⟩) (T.hr (fun i hi e=>(hH.out i D hi e).1 hX) hH) (T.ext h0 E) ?_ fun w' μ' u' h1 h2 h3 h4=>hQ w' μ' u' h1 h2 (fun a v ha=>h3 a v (T.ar ha)) h4
   ·rw[T.old D' (by rintro rfl;exact hn _ hD' rfl)];exact hb'
   ·unfold Mode at hu ⊢;split
    ·exact hu
    ·obtain⟨x,h1,h2⟩:=hu;exact⟨x,h1,T.ar h2⟩
  |fn g first captured fs cs ds' _ hf hc h=>
   simp only[aunwind,yL] at hs;split at hs
   ·rename_i rv hp1 hg;have hmode:Leaving w X μ hp (p.getD .niliface) u:=by
     unfold Mode at hu;split at hu
     ·exact .inl ⟨hu,rfl⟩
     ·exact .inr hu
    obtain⟨k1,k2⟩:=hΓ.dfr _ _ _ _ _ _ hg w X μ _ u hH (hf.append hc) hmode;refine .inr ⟨JE,.func g,cs.toArray,g,(fs++cs).toArray,rfl,?_,fun _ _=>trivial,?_⟩
    ·show(callFunc g (fs.toArray++cs.toArray)).run P w=_;rw[show fs.toArray++cs.toArray=(fs++cs).toArray by simp];exact k1
    ·have k3:CallsDIn (Fe none) (0 - 1) P g (fs++cs).toArray u w _:=k2;refine k3.mono fun e u' w' hR=> ?_;obtain⟨⟨v,rfl⟩,hset,μ',h1,h2⟩:=hR;show LeavesInM (Fe none) 0 P fnc tmps R dd (Go.settle u') w';rw[hset];exact kd hΓ dd ds' none hp1 w' X μ' .returning hs (h.ext hH h2) h1 (E.trans (h2.mono E.len).cast) rfl fun w2 μ2 u2 q1 q2 q3 q4=>hQ w2 μ2 u2 q1 q2 (fun a v ha=>q3 a v (h2.ar ha)) q4
   ·cases hs

theorem ke{hm:Bool}{self:FuncId}{fnc:Func}{fn:AFn}(ht:trFn P hm self fnc=some fn):∃c,fnc.body=some c/\Qb P fnc.results.toList=true/\fnc.params.size+fnc.nfree<=fnc.ntmps/\fnc.name≠ "runtime.NumGoroutine" /\fn.nparams=fnc.params.size+fnc.nfree/\
  ((fn.rcv=none/\fn.more=[]/\fn.rounds=[]/\fn.results=yA P fnc.results.toList/\Tr P fnc.ntmps c fn.code)\/
   (fn.rcv=none/\fn.results=yA P fnc.results.toList/\TrP P c fnc.ntmps self (yl c) fn.code fn.more/\jZ P hm fnc.ntmps (Y9 c)=some fn.rounds)\/
   ∃t id ops o ca r l keep x,fn.rcv=some t/\fn.more=[]/\fn.rounds=[]/\fnc.results.toList=[]/\t<fnc.ntmps/\yl c=.region id ops false::r/\ops.toList.head? =some o/\o.op=.call ca/\o.dst=some t/\o.guard=none/\ca.callee=.builtin .recover/\yj P fnc.ntmps ops ops.toList.tail=some l/\
    fn.code=.seq (.region true l keep) x/\TrP P c fnc.ntmps self r x []):=by
 unfold trFn at ht;split at ht
 ·rename_i c hc;split at ht
  ·rename_i hok;obtain⟨k1,k2,k3⟩:=hok;refine⟨c,hc,k1,k2,k3,?_⟩;simp only[] at ht;split at ht
   ·rename_i t ops r hsp;split at ht
    ·rename_i hte;split at ht
     ·rename_i l a hl ha;cases ht;unfold V8 at hsp;split at hsp
      ·rename_i id ops0 r0 hfl;split at hsp
       ·rename_i o rest hops;split at hsp
        ·rename_i ca t0 g1 g2 g3;split at hsp
         ·rename_i g4;cases hsp;refine⟨rfl,.inr (.inr ⟨t,id,ops,o,ca,r,l,_,_,rfl,rfl,rfl,by simpa using hte.2,hte.1,hfl,by rw[hops];rfl,g1,g2,g3,g4,hl,rfl,?_⟩)⟩;have hT:=K9 (body:=c) (self:=self) r a [] (fun c' hc' z hz=>U9 c c' (by rw[hfl];exact Zy _ hc') z hz) ha;exact Es hT rfl _ _ _
         ·cases hsp
        ·cases hsp
       ·cases hsp
      ·cases hsp
     ·cases ht
    ·cases ht
   ·split at ht
    ·rename_i a ha;cases ht;exact⟨rfl,.inl ⟨rfl,rfl,rfl,rfl,K5 (U3 c a ha) _ _ _⟩⟩
    ·split at ht
     ·rename_i a more rounds ha hr;cases ht;exact⟨rfl,.inr (.inl ⟨rfl,rfl,Er (V5 (yA P fnc.results.toList)) rounds (K9 (body:=c) (self:=self) (yl c) a more (fun c' hc' z hz=>U9 c c' hc' z hz) ha),hr⟩)⟩
     ·cases ht
  ·cases ht
 ·cases ht

theorem uc{fnc:Func}{f:FuncId}{c:Code}{args:Array Value}{R:Ending->World->Prop}(hf:P.funcs[f]? =some fnc)(hb:fnc.body=some c)(h:c.wpIn (Fe none) 0 P (bodyPost P fnc R) { tmps:=args++Array.replicate (fnc.ntmps - args.size) undef,defers:=[] } w):Calls P f args w R:=
 (callsIn_wide (n:=0)).1 (callsIn_of_wp (F:=Fe none) hf hb trivial h)

theorem Ez{hm:Bool}{Γ:Oracle}{Λ:Yw}(hmix:P.follows .mixedOrders=true)(hΓ:SoundO P Γ)(hΛ:∀nt c ac,Tr P nt c ac->xd P nt Λ c ac){f:FuncId}{fnc:Func}{fn:AFn}{args:List AV}{vs:List Value}{r:ARes}{hp':Heap}(hf:P.funcs[f]? =some fnc)(ht:trFn P hm f fnc=some fn)(hrcv:fn.rcv=none)
  (h:abody Γ Λ fn args hp=some (r,hp'))(hH:HR w X μ hp)(hl:LR w X μ hp args vs):(callFunc f vs.toArray).run P w=.ok (.enter f vs.toArray) w/\Calls P f vs.toArray w (Xb hp.length w X μ hp r hp'):=by
 obtain⟨c,hc,k1,k2,k3,k4,hcase⟩:=ke ht;refine⟨xe hf hc k3,?_⟩;unfold abody at h;split at h
 ·cases h
 ·rename_i hlen;have hlen':vs.length=fnc.params.size+fnc.nfree:=by rw[<-hl.length,<-k4];simpa using hlen
  obtain⟨hF,hsz⟩:=ub hl (nt:=fnc.ntmps) (by omega);have plain:∀{e st},aexec Γ Λ hp.length fn.code ⟨params 0 args,hp⟩=some (e,st)->fn.results=yA P fnc.results.toList->Tr P fnc.ntmps c fn.code->(match(e,st) with
    |(.normal,st)|(.ret,st)=>(match Yz st fn.results with|some v=>some (ARes.ret v,st.hp)|none=>none)
    |(.panic v,st)=>some (.panic v,st.hp)
    |_=>none)=some (r,hp')->Calls P f vs.toArray w (Xb hp.length w X μ hp r hp'):=by
   intro e st hx hres hT h;apply uc hf hc;refine JQ hmix hΓ (hΛ fnc.ntmps) hT hp.length ⟨params 0 args,hp⟩ e st hx w X μ _ _ none (Zc _) hH.own hH hF hsz fun e' a' w' hL=> ?_;obtain⟨g1,g2,μ',g3,g4,g5,g6⟩:=hL;have ret:∀v,Yz st (yA P fnc.results.toList)=some v->r=.ret v->hp'=st.hp->a'.defers=[]/\∃u,(results fnc a'.tmps).run P w'=.ok u w'/\Xb hp.length w X μ hp r hp' (.returned u) w':=by
    rintro v hv rfl rfl;obtain⟨u,u1,u2⟩:=K7 g3 g4 k1 hv;exact⟨g1,u,u1,μ',v,rfl,g3,g5,u2⟩
   rw[hres] at h;cases e with
   |normal=>
    cases e' <;> simp only[YF] at g6
    simp only[] at h;split at h
    ·cases h;exact ret _ ‹_› rfl rfl
    ·cases h
   |ret=>
    cases e' <;> simp only[YF] at g6
    simp only[] at h;split at h
    ·cases h;exact ret _ ‹_› rfl rfl
    ·cases h
   |exit i=>cases h
   |panic p=>
    cases h;cases e' <;> simp only[YF] at g6
    obtain⟨v',rfl,hv⟩:=g6;exact⟨g1,μ',p,v',rfl,rfl,g3,g5,hv⟩

  have many:∀{q},apieces Γ Λ hp.length fn.more fn.code ⟨params 0 args,hp⟩ []=some q->fn.results=yA P fnc.results.toList->TrP P c fnc.ntmps f (yl c) fn.code fn.more->aleave Γ fn (some q)=some (r,hp')->Calls P f vs.toArray w (Xb hp.length w X μ hp r hp'):=by
   rintro⟨e,st,ds⟩ hx hres hT h;refine(callsIn_wide (n:=0)).1 (callsIn_of_wp_marks (F:=Fe none) hf hc trivial ?_);apply U8;refine Ey hmix hΓ hΛ hf hc hH hT _ _ e st ds hx w X μ _ _ ⟨fun _ h=>h,hH,hF,hsz,Ext.refl _ _ _ _ _,.nil⟩ fun e' a' w' hL=> ?_;obtain⟨g2,X2,μ',g0,g3,g4,g5,g6,g7⟩:=hL

   have fin:∀(p p':Option PV) (hpe:Heap) (u:FrameMode),aunwind Γ ds p st.hp=some (p',hpe)->Mode w' X2 μ' st.hp p u->(match p' with|none=>aresult fn ⟨st.fr,hpe⟩|some v'=>some (.panic v',hpe))=some (r,hp')->LeavesInM (Fe none) 0 P fnc a'.tmps (Xb hp.length w X μ hp r hp') a'.defers u w':=by
    intro p p' hpe u hun hu hr;refine kd hΓ a'.defers ds p st.hp w' X2 μ' u hun g7 g3 g5 hu fun w2 μ2 u2 q1 q2 q3 q4=> ?_;cases p' with
    |none=>
     have hu2:u2=.returning:=q4;subst hu2;simp only[aresult,hres] at hr;split at hr
     ·rename_i v hv;cases hr;obtain⟨x,x1,x2⟩:=K7 (st:=⟨st.fr,hp'⟩) q1 (t:=a'.tmps) (fun s u hs=>⟨(g4 s u hs).1,q3 _ _ (g4 s u hs).2⟩) k1 hv;exact⟨x,x1,μ2,v,rfl,q1.less g0,q2,x2.less g0⟩
     ·cases hr
    |some v'=>
     cases hr;obtain⟨x,rfl,x2⟩:=q4;exact⟨μ2,v',x,rfl,rfl,q1.less g0,q2,x2.less g0⟩
   unfold aleave at h;cases e with
   |normal=>
    cases e' <;> simp only[YF] at g6
    simp only[] at h;split at h
    ·rename_i hpe hun;exact fin none none hpe .returning hun rfl h
    ·cases h
   |ret=>
    cases e' <;> simp only[YF] at g6
    simp only[] at h;split at h
    ·rename_i hpe hun;exact fin none none hpe .returning hun rfl h
    ·cases h
   |exit i=>cases h
   |panic p=>
    cases e' <;> simp only[YF] at g6
    obtain⟨v',rfl,hv⟩:=g6;simp only[] at h;have hm:Mode w' X2 μ' st.hp (some p) (.panicking [{ v:=v',recovered:=false }]):=⟨v',rfl,hv⟩;split at h
    ·rename_i hpe hun;exact fin (some p) none hpe _ hun hm h
    ·rename_i v2 hpe hun;exact fin (some p) (some v2) hpe _ hun hm h
    ·cases h
  rcases hcase with⟨_,hm,_,hres,hT⟩|⟨_,hres,hT,_⟩|⟨t,_,_,_,_,_,_,_,_,h1,_⟩
  ·rw[hm] at h;simp only[] at h;cases hx:aexec Γ Λ hp.length fn.code ⟨params 0 args,hp⟩ with
   |none=>rw[hx] at h;cases h
   |some q=>
    obtain⟨e,st⟩:=q;rw[hx] at h;refine plain hx hres hT ?_;cases e <;> exact h
  ·split at h
   ·rename_i hm;cases hx:aexec Γ Λ hp.length fn.code ⟨params 0 args,hp⟩ with
    |none=>rw[hx] at h;cases h
    |some q=>
     obtain⟨e,st⟩:=q;rw[hx] at h;rw[hm] at many;refine many (q:=(e,st,[])) (by simp only[apieces,hx]) hres (by rw[hm] at hT;exact hT) ?_;cases e <;> exact h
   ·rename_i more hne;cases hx:apieces Γ Λ hp.length fn.more fn.code ⟨params 0 args,hp⟩ [] with
    |none=>rw[hx] at h;cases h
    |some q=>
     rw[hx] at h;exact many hx hres hT h
  ·rw[hrcv] at h1;cases h1

def xF(P:Program)(prim:FuncId->Option Ym):Prop:=
 ∀f p,prim f=some p->∀args hp r hp',p f args hp=some (r,hp')->∀(w:World) (X:Xc P) (μ:Nat->Option Nat) (vs:List Value),HR w X μ hp->LR w X μ hp args vs->Called P f vs.toArray w (Xb hp.length w X μ hp r hp')
def Ql(P:Program)(F:FuncId->Option AFn):Prop:=∀f fn,F f=some fn->∃fnc,P.funcs[f]? =some fnc/\trFn P fn.heapMode f fnc=some fn

theorem ud{v v':AV}{hp2 hp3:Heap}{μ':Nat->Option Nat}{w':World}{u:Value}(h:v.freezeRes hp2=some (v',hp3))(hH:HR w' (held X μ hp) μ' hp2)(ha:AR w' (held X μ hp) μ' hp2 v u):AR w' X μ hp v' u:=by
 have pr:∀{p:PV} {u:Value} {hp3:Heap},PR w' (Im (held X μ hp) μ' hp3) p u->PR w' (Im X μ hp) p u:=fun h=>h.mono fun _ _ _ _ hI hb=>⟨JF hI,hb⟩;have one:(match AV.freeze deep v hp2 with|some (p,hp')=>some (AV.pv v.shp p,hp')|none=>none)=some (v',hp3)->AR w' X μ hp v' u:=by
  intro h;split at h
  ·rename_i p hp4 hf;cases h;obtain⟨_,_,k3⟩:=X9 0 w' _ μ' _ _ _ _ _ _ hf hH ha;exact .pv _ _ _ (ha.vshp (Jt hf)) (pr k3)
  ·cases h
 unfold AV.freezeRes at h;split at h
 ·rename_i l;split at h
  ·rename_i ps hp4 hf;cases h;cases ha with|tuple _ vs hl hx=>
   obtain⟨_,_,k3⟩:=qi 0 _ _ _ _ _ hf hH (LR.of hl hx);refine .tuple _ vs (by simp[pvs,k3.1]) fun i a u hi hu=> ?_;simp only[pvs,ZK,ZL] at hi;obtain⟨x,hx',rfl⟩:=hi;exact .pv _ _ _ (k3.2.1 i x u hx' hu) (pr (k3.2.2 i x u hx' hu))
  ·cases h
 ·exact one h

theorem PR.scalar{w:World}{I J:Nat->Prop}{p:PV}{v:Value}(h:PR w I p v)(hs:p.scalar=true):PR w J p v:=by
 cases h with
 |bool=>exact .bool _
 |int=>exact .int _ _
 |str=>exact .str _
 |_=>cases hs
theorem AR.scalar1{w:World}{μ:Nat->Option Nat}{hp hp':Heap}{v:AV}{u:Value}(h:AR w X μ hp v u)(hs:v.scalar1=true):AR w X μ hp' v u:=by
 cases h with
 |pv s p u hv hp=>exact .pv _ _ _ hv (hp.scalar hs)
 |_=>cases hs
theorem AR.scalar{w:World}{μ:Nat->Option Nat}{hp hp':Heap}{v:AV}{u:Value}(h:AR w X μ hp v u)(hs:v.scalar=true):AR w X μ hp' v u:=by
 cases h with
 |pv s p u hv hp=>exact .pv _ _ _ hv (hp.scalar hs)
 |tuple l vs hl hx=>exact .tuple _ vs hl fun i a u hi hu=>(hx i a u hi hu).scalar1 (Zm.1 hs a (Zj hi))
 |_=>cases hs

end Go.Am

/- Rounds of loops over functions; deferred functions that recover; calls; the whole. -/
namespace Go.Am
variable{P:Program} {w:World} {X:Xc P} {μ:Nat->Option Nat} {hp:Heap}

/-! ### Rounds -/
theorem EA{F:FuncId->Option AFn}{Γ:Oracle}{Λ:Yw}(hmix:P.follows .mixedOrders=true)(hF:Ql P F)(hΓ:SoundO P Γ)(hΛ:∀nt c ac,Tr P nt c ac->xd P nt Λ c ac){f:FuncId}{q:Nat}{azs:List AV}{v:AV}{hp':Heap}{ps:List Nat}{env:List (Nat × AV)}{vs:List Value}{l:Nat}{rc:Loop}
  (h:around F Γ Λ f (.yield q::azs) hp=some (.ret v,hp'))(hq:hp[q]? =some (.loop f ps env false))(hH:HR w X μ hp)(hl:LR w X μ hp azs vs)(hm:μ q=some l)(hrc:w.heap[l]? =some (.loop rc)):
  vs.length=rc.params.size/\RoundIn Fence.wide 0 P l rc.fn (qj rc vs) rc.assign rc.body w (Xb hp.length w X μ hp (.ret v) hp'):=by
 exact absurd (show(none:Option (ARes × Heap))=some _ from h) (by simp)
/-! ### Deferred functions that recover -/
theorem EB{Γ:Oracle}{Λ:Yw}(hmix:P.follows .mixedOrders=true)(hΓ:SoundO P Γ)(hΛ:∀nt c ac,Tr P nt c ac->xd P nt Λ c ac){body:Code}{nt self:Nat}{cs:List Code}{x:ACode}{more:List (ATop × ACode)}(hT:TrP P body nt self cs x more)(hmore:more=[]):
  ∀(b:Nat) (st:St) (e:AExit) (st':St),aexec Γ Λ b x st=some (e,st')->∀(w:World) (X:Xc P) (μ:Nat->Option Nat) (a:Act) (Q:Exit->Act->World->Prop),b<=st.hp.length->Own b st.hp->HR w X μ st.hp->FR w X μ st.hp st.fr a.tmps->a.tmps.size=nt->
  (∀e' a' w',Lands nt b w X μ st.hp a.defers e st'.fr st'.hp e' a' w'->Q e' a' w')->Xz (Fe none) 0 P cs Q a w:=by
 induction hT with
 |nil=>
  intro b st e st' hs w X μ a Q hb hO hH hF hsz hQ;cases hs;exact hQ _ _ _ ⟨rfl,hsz,μ,hH,hF,Ext.refl _ _ _ _ _,trivial⟩
 |range=>cases hmore
 |dfr=>cases hmore
 |code c r a0 x more hc _ ih=>
  intro b st e st' hs w X μ a Q hb hO hH hF hsz hQ;simp only[aexec] at hs;cases h1:aexec Γ Λ b a0 st with
  |none=>rw[h1] at hs;cases hs
  |some q=>
   obtain⟨e1,st1⟩:=q;rw[h1] at hs;refine JQ hmix hΓ (hΛ nt) hc b st e1 st1 h1 w X μ a _ none hb hO hH hF hsz fun e' a' w' hL=> ?_;obtain⟨g1,g2,μ',g3,g4,g5,g6⟩:=hL;cases e1 with
   |normal=>
    simp only[] at hs;cases e' <;> simp only[YF] at g6
    refine ih hmore b st1 e st' hs w' X μ' a' Q (ZV hb g5.len) (hO.ext hb g5) g3 g4 g2 fun e2 a2 w2 hL2=>hQ e2 a2 w2 ?_;obtain⟨k1,k2,μ2,k3,k4,k5,k6⟩:=hL2;exact⟨k1.trans g1,k2,μ2,k3,k4,g5.trans k5,k6⟩
   |exit i=>
    cases hs;cases e' <;> simp only[YF] at g6
    subst g6;exact hQ _ _ _ ⟨g1,g2,μ',g3,g4,g5,rfl⟩
   |ret=>
    cases hs;cases e' <;> simp only[YF] at g6
    exact hQ _ _ _ ⟨g1,g2,μ',g3,g4,g5,trivial⟩
   |panic p=>
    cases hs;cases e' <;> simp only[YF] at g6
    exact hQ _ _ _ ⟨g1,g2,μ',g3,g4,g5,g6⟩
section
variable{F:Fence} {n:Nat} {Q:Exit->Act->List Frame->World->Prop} {a:Act} {cs:List Frame}
theorem ue{c:Code}{Q':Exit->Act->List Frame->World->Prop}(hq:∀e a cs w,Q e a cs w->Q' e a cs w)(h:c.wpSIn F n P Q a cs w):c.wpSIn F n P Q' a cs w:=
 fun b k hb hr hF hroom=>let ⟨e,a',cs',w',l,q,r⟩:=h b k hb hr hF hroom;⟨e,a',cs',w',l,hq _ _ _ _ q,r⟩
theorem EC(hro:F.round=none):∀(c:Code) {c1:Code} {r:List Code} {Q:Exit->Act->List Frame->World->Prop} {a:Act} {cs:List Frame} {w:World},yl c=c1::r->
  c1.wpSIn F n P (Exit.thenS (fun a cs w=>Xz F n P r (fun e a w=>Q e a cs w) a w) Q) a cs w->c.wpSIn F n P Q a cs w:=by
 intro c
 induction c with
 |seq x y ihx ihy=>
  intro c1 r Q a cs w hf h;simp only[yl] at hf;cases hx:yl x with
  |nil=>exact absurd hx (Em x)
  |cons c0 rx=>
   rw[hx] at hf;simp only[ZJ,List.cons.injEq] at hf;obtain⟨rfl,rfl⟩:=hf;apply wpSIn_seq;refine ihx hx (ue (fun e a cs w he=> ?_) h);cases e with
   |normal=>
    refine U7 (fun e a w he=> ?_) _ _ _ (K8 _ _ _ he);cases e with
    |normal=>exact wpSIn_of_wpIn hro (U8 y he)
    |_=>exact he
   |_=>exact he
 |_=>
  intro c1 r Q a cs w hf h;simp only[yl,List.cons.injEq] at hf;obtain⟨rfl,rfl⟩:=hf;exact ue (fun e a cs w he=>by cases e <;> exact he) h

theorem ED{id:Nat}{ops:Array Oper}{o:Oper}(hro:F.round=none)(hpos:0<ops.size)(hi:ops[0]? =some o)(hg:o.guard=none)(hrun:(execOp a.eval o).run P w=.ok .recover w)(habout:∀f,o.about P w a.eval=some f->F.fn f)
  (h:∀v cs',(recoverD cs=some (v,cs')\/(recoverD cs=none/\v=.nilIface/\cs'=cs))->wpOpsIn F n P ops (fun e a w=>Q e a cs' w) (List.range' 1 (ops.size - 1)) (a.put o.dst v) w):(Code.region id ops false).wpSIn F n P Q a cs w:=by
 intro b k hb hr hF hroom;have hrange:List.range ops.size=0::List.range' 1 (ops.size - 1):=by
  rw[List.range_eq_range']
  conv=>lhs;rw[show ops.size=(ops.size - 1)+1 by omega]
  rw[List.range'_succ]
 have hw:Region.wanted o (yielded ops a.tmps)=true:=by simp[Region.wanted,hg]
 have h0:(lone (b.atR a (.inRegion ops (0::List.range' 1 (ops.size - 1))::k)) cs w).fenced P F:=fenced_oper hF hroom hi habout;have hreg:StepsIn (Machine.fenced P F) P (lone (b.atR a (.code (.region id ops false)::k)) cs w) (lone (b.atR a (.inRegion ops (0::List.range' 1 (ops.size - 1))::k)) cs w):=by
  have:=stepR_region (P:=P) (b:=b) (a:=a) (k:=k) (cs:=cs) (w:=w) (id:=id) (ops:=ops);rw[hrange] at this;exact .one (fenced_calm hF hroom rfl) this
 have hgo:=stepGR_op (P:=P) (b:=b) (k:=k) (cs:=cs) (w:=w) (rest:=List.range' 1 (ops.size - 1)) hi hw;rw[hr,Oper.semAt_none] at hgo;have hfin:∀v,(b.atR a (.inRegion ops (0::List.range' 1 (ops.size - 1))::k)).finish v=b.atR (a.put o.dst v) (.inRegion ops (List.range' 1 (ops.size - 1))::k):=by
  intro v;rw[Frame.finish_atR,hi];rfl
 have hk:(b.atR a (.inRegion ops (0::List.range' 1 (ops.size - 1))::k)).kind=.deferred:=hb;have htr:=tryRecover_deferred hk cs;have rest:∀v cs',cs'.length=cs.length->(recoverD cs=some (v,cs')\/(recoverD cs=none/\v=.nilIface/\cs'=cs))->step P (lone (b.atR a (.inRegion ops (0::List.range' 1 (ops.size - 1))::k)) cs w)=.next (lone (b.atR (a.put o.dst v) (.inRegion ops (List.range' 1 (ops.size - 1))::k)) cs' w)->
   ∃e a' cs'' w',cs''.length=cs.length/\Q e a' cs'' w'/\ArrivesIn (Machine.fenced P F) P (lone (b.atR a (.code (.region id ops false)::k)) cs w) b k cs'' e a' w':=by
  intro v cs' hlen hrec hstep;obtain⟨e,a',w',hq,harr⟩:=wp_opsIn _ _ _ (h v cs' hrec) b k cs' (hr.trans hro.symm) hF (by rw[hlen];exact hroom);exact⟨e,a',cs',w',hlen,hq,.of_steps hreg (.of_steps (.one h0 hstep) harr)⟩
 cases hrec:recoverD cs with
 |some z=>
  obtain⟨v,cs'⟩:=z;refine rest v cs' (recoverD_length hrec) (.inl hrec) (step_lone_go ?_);rw[hgo,<-hfin];simp only[Frame.atR,hr] at htr ⊢;simp[stepG.apply,hrun,htr,hrec]
 |none=>
  refine rest .nilIface cs rfl (.inr ⟨hrec,rfl,rfl⟩) (step_lone_go ?_);rw[hgo,<-hfin];simp only[Frame.atR,hr] at htr ⊢;simp[stepG.apply,hrun,htr,hrec]
end

theorem EE{F:FuncId->Option AFn}{Γ:Oracle}{Λ:Yw}(hmix:P.follows .mixedOrders=true)(hF:Ql P F)(hΓ:SoundO P Γ)(hΛ:∀nt c ac,Tr P nt c ac->xd P nt Λ c ac){g:FuncId}{p:PV}{azs:List AV}{r:ARes}{hp':Heap}{vs:List Value}{u:FrameMode}
  (h:adefer F Γ Λ g (.pv none p::azs) hp=some (r,hp'))(hH:HR w X μ hp)(hl:LR w X μ hp azs vs)(hu:Leaving w X μ hp p u):
  (callFunc g vs.toArray).run P w=.ok (.enter g vs.toArray) w/\CallsDIn Fence.wide 0 P g vs.toArray u w fun e u' w'=>(∃v,e=.returned v)/\Go.settle u'=.returning/\∃μ',HR w' X μ' hp'/\Ext hp.length X μ hp w μ' hp' w':=by
 simp only[adefer] at h;split at h
 ·rename_i fn hfn;split at h
  ·rename_i t hrcv hmore;split at h
   ·cases h
   ·rename_i hlen;obtain⟨fnc,c1,c2⟩:=hF g fn hfn;obtain⟨c,d1,d2,d3,d4,d5,hcase⟩:=ke c2;rcases hcase with⟨e,_⟩|⟨e,_⟩|⟨t',id,ops,o,ca,r0,l,keep,x,e1,e2,e3,e4,e5,e6,e7,e8,e9,e10,e11,e12,e13,e14⟩
    ·rw[e] at hrcv;cases hrcv
    ·rw[e] at hrcv;cases hrcv
    ·rw[hrcv] at e1;cases e1;have hlen':vs.length=fnc.params.size+fnc.nfree:=by rw[<-hl.length,<-d5];simpa using hlen
     obtain⟨hFR,hsz⟩:=ub hl (nt:=fnc.ntmps) (by omega);refine⟨xe c1 d1 d4,?_⟩;refine callsDIn_of_wpSIn (F:=Fe none) c1 d1 trivial fun c₀ cs hmode=> ?_;refine EC rfl c e6 ?_;have hpos:0<ops.size:=by
      rcases Nat.eq_zero_or_pos ops.size with h|h
      ·have:ops.toList=[]:=by simpa using h
       rw[this] at e7;cases e7
      ·exact h
     have hi:ops[0]? =some o:=by
      rw[List.head?_eq_getElem?] at e7;simpa using e7
     have hrun:∀a:Act,(execOp a.eval o).run P w=.ok .recover w:=fun a=>by
      simp only[execOp,e8,resolve,e11,pure_bind,invoke,builtin,Sem.run_pure]
     refine ED rfl hpos hi e10 (hrun _) (fun _ _=>trivial) fun v cs' hrec=> ?_

     have hv:AR w X μ hp (.pv none p) v/\∃u',cs'={ c₀ with mode:=u' }::cs/\Go.settle u'=.returning:=by
      rcases hu with⟨rfl,rfl⟩|⟨y,rfl,hy⟩
      ·have hn:recoverD (c₀::cs)=none:=by simp[recoverD,hmode]
       rw[hn] at hrec;rcases hrec with h|⟨_,rfl,rfl⟩
       ·cases h
       ·exact⟨.pv _ _ _ rfl .niliface,.returning,by rw[<-hmode],rfl⟩
      ·have hn:recoverD (c₀::cs)=some (y,{ c₀ with mode:=.panicking [{ v:=y,recovered:=true }] }::cs):=by simp[recoverD,hmode]
       rw[hn] at hrec;rcases hrec with h|⟨h,_⟩
       ·cases h;exact⟨hy,_,rfl,rfl⟩
       ·cases h
     obtain⟨hv,u',rfl,hset⟩:=hv

     have hseg:yj P fnc.ntmps ops ((ops.toList.drop 1).take (ops.size - 1))=some l:=by
      rw[<-e12,<-List.drop_one,Zu (by simp)]
     have hFR2:FR w X μ hp ((t,.pv none p)::params 0 azs) ({ tmps:=vs.toArray++Array.replicate (fnc.ntmps - vs.toArray.size) undef,defers:=[]:Act }.put o.dst v).tmps:=by
      rw[e9];exact FR.put (dst:=some t) (fr:=params 0 azs) (a:={ tmps:=vs.toArray++Array.replicate (fnc.ntmps - vs.toArray.size) undef,defers:=[] }) hFR (Ext.refl 0 X μ hp w) (fun d hd=>by cases hd;rw[hsz];exact e5) hv
     rw[e13] at h;simp only[aexec] at h;cases hx:aops Γ hp.length l ((t,.pv none p)::params 0 azs) hp with
     |none=>rw[hx] at h;cases h
     |some q=>
      obtain⟨e1,fr1,hp1⟩:=q;rw[hx] at h;refine JJ hΓ l l (ops.size - 1) 1 w μ hp _ _ (by omega) hseg (Likes.refl l) hx (Zc _) hH hFR2 (by rw[yC];exact hsz) fun e' a' w1 hL=> ?_;have hL2:=hL.keep keep;obtain⟨g1,g2,μ1,H1,F1,E1,g6⟩:=hL2;cases e1 with
      |panic p=>simp only[if_true] at h;cases h
      |exit i=>cases h
      |ret=>cases h
      |normal=>
       cases e' <;> simp only[YF] at g6
       simp only[] at h;cases hx2:aexec Γ Λ hp.length x ⟨fr1.keep keep,hp1⟩ with
       |none=>rw[hx2] at h;cases h
       |some q2=>
        obtain⟨e2,st2⟩:=q2;rw[hx2] at h;have hdef:a'.defers=[]:=by rw[g1,Qh]
        refine EB hmix hΓ hΛ e14 rfl hp.length ⟨fr1.keep keep,hp1⟩ e2 st2 hx2 w1 X μ1 a' _ E1.len (hH.own.ext (Zc _) E1) H1 F1 g2 fun e' a2 w2 hL=> ?_;obtain⟨k1,k2,μ2,H2,F2,E2',k6⟩:=hL;have E2:=E1.trans E2';have hdef2:a2.defers=[]:=k1.trans hdef;have fin:r=.ret (.tuple [])->hp'=st2.hp.take hp.length->a2.defers=[]/\∃u'',({ c₀ with mode:=u' }::cs)={ c₀ with mode:=u'' }::cs/\∃v,(results fnc a2.tmps).run P w2=.ok v w2/\((∃v',Ending.returned v=.returned v')/\Go.settle u''=.returning/\∃μ',HR w2 X μ' hp'/\Ext hp.length X μ hp w μ' hp' w2):=by
         rintro rfl rfl;obtain⟨y,y1,_⟩:=K7 (v:=.tuple []) H2 F2 d2 (by rw[e4];rfl);exact⟨hdef2,u',rfl,y,y1,⟨y,rfl⟩,hset,μ2,H2.take (fun i o hi ho z hz=>(hH.own.ext (Zc _) E2) i o hi ho z hz),E2.take (Zc _)⟩
        cases e2 with
        |normal=>
         cases e' <;> simp only[YF] at k6
         cases h;exact fin rfl rfl
        |ret=>
         cases e' <;> simp only[YF] at k6
         cases h;exact fin rfl rfl
        |exit i=>cases h
        |panic p=>cases h
  ·cases h
 ·cases h
end Go.Am

/- Calls; the whole. -/
namespace Go.Am
variable{P:Program} {w:World} {X:Xc P} {μ:Nat->Option Nat} {hp:Heap}

theorem uf{F:FuncId->Option AFn}{prim:FuncId->Option Ym}{Γ:Oracle}{Λ:Yw}(hmix:P.follows .mixedOrders=true)(hF:Ql P F)(hP:xF P prim)(hΓ:SoundO P Γ)(hΛ:∀nt c ac,Tr P nt c ac->xd P nt Λ c ac){f:FuncId}{args:List AV}{r:ARes}{hp':Heap}{vs:List Value}
  (h:Y6 F prim Γ Λ f args hp=some (r,hp'))(hH:HR w X μ hp)(hl:LR w X μ hp args vs):Called P f vs.toArray w (Xb hp.length w X μ hp r hp'):=by
 unfold Y6 at h;split at h
 ·exact hP _ _ ‹_› _ _ _ _ h w X μ vs hH hl
 ·split at h
  ·cases h
  ·rename_i fn hfn;obtain⟨fnc,hf,ht⟩:=hF f fn hfn;split at h
   ·cases h
   rename_i hrc;have hrcv:fn.rcv=none:=by
    cases hr:fn.rcv with
    |none=>rfl
    |some t=>rw[hr] at hrc;exact absurd rfl hrc
   have bs:∀{args:List AV} {hp:Heap} {w:World} {X:Xc P} {μ:Nat->Option Nat} {r:ARes} {hp':Heap} {vs:List Value},abody Γ Λ fn args hp=some (r,hp')->HR w X μ hp->LR w X μ hp args vs->Called P f vs.toArray w (Xb hp.length w X μ hp r hp'):=fun h hH hl=>.inl (Ez hmix hΓ hΛ hf ht hrcv h hH hl);split at h
   ·-- on the caller's heap
    split at h
    ·rename_i v hp2 hb;cases h;refine(bs hb hH hl).mono fun e w' hR=> ?_;cases e with
     |returned u=>
      obtain⟨μ',v2,e1,g1,g2,g3⟩:=hR;cases e1;split
      ·rename_i hc;simp only[Zm,Zr] at hc;exact⟨μ',v,rfl,g1.take fun i o hi ho q hq=>(hH.own.ext (Zc _) g2) i o hi ho q hq,g2.take (Zc _),g3.take hc⟩
      ·exact⟨μ',v,rfl,g1,g2,g3⟩
     |panicked c=>obtain⟨μ',p,v',e1,_⟩:=hR;cases e1
     |outgrown=>exact hR
    ·rename_i v hp2 hb;cases h;refine(bs hb hH hl).mono fun e w' hR=> ?_;cases e with
     |returned u=>obtain⟨μ',v2,e1,_⟩:=hR;cases e1
     |panicked c=>
      obtain⟨μ',p,v',e1,e2,g1,g2,g3⟩:=hR;cases e1;exact⟨μ',v,v',rfl,e2,g1.take fun i o hi ho q hq=>(hH.own.ext (Zc _) g2) i o hi ho q hq,g2.take (Zc _),g3.take (fun q hq=>by simp[AV.refsIn] at hq)⟩
     |outgrown=>exact hR
    ·cases h
   ·-- on a heap of its own
    split at h
    ·cases h
    ·rename_i ps hp1 hfz;obtain⟨e1,h1,hCP⟩:=qi hp.length _ _ _ _ _ hfz hH hl;split at h
     ·rename_i v hp2 hb;split at h
      ·rename_i v' hp3 hfr;cases h;refine(bs hb h1.empty hCP.empty.lr).mono fun e w' hR=> ?_;cases e with
       |returned u=>
        obtain⟨μ',v2,e2,g1,g2,g3⟩:=hR;cases e2;cases hsc:v'.scalar with
        |true=>
         obtain⟨k1,k2⟩:=back (b:=hp.length) hH g2;exact⟨μ,v',rfl,k1,k2,(ud hfr g1 g3).scalar hsc⟩
        |false=>
         obtain⟨k1,k2⟩:=back (b:=hp.length) h1 g2;exact⟨μ,v',rfl,k1,e1.trans k2,ud hfr g1 g3⟩
       |panicked c=>obtain⟨μ',p,v',e1,_⟩:=hR;cases e1
       |outgrown=>exact hR
      ·cases h
     ·rename_i v hp2 hb;cases h;refine(bs hb h1.empty hCP.empty.lr).mono fun e w' hR=> ?_;cases e with
      |returned u=>obtain⟨μ',v2,e1,_⟩:=hR;cases e1
      |panicked c=>
       obtain⟨μ',p,v',e2,e3,g1,g2,g3⟩:=hR;cases e2;obtain⟨k1,k2⟩:=back (b:=hp.length) h1 g2;refine⟨μ,v,v',rfl,e3,k1,e1.trans k2,?_⟩;cases g3 with|pv _ _ _ hs hq=>exact .pv _ _ _ hs (hq.mono fun _ _ _ _ hI hb=>⟨JF hI,hb⟩)
      |outgrown=>exact hR
     ·cases h

theorem EF{F:FuncId->Option AFn}{prim:FuncId->Option Ym}{Γ:Oracle}{Λ:Yw}(hmix:P.follows .mixedOrders=true)(hF:Ql P F)(hP:xF P prim)(hΓ:SoundO P Γ)(hΛ:∀nt c ac,Tr P nt c ac->xd P nt Λ c ac):SoundO P (acall F prim Γ Λ) where
 fn f args hp r hp' h w X μ vs hH hl:=uf hmix hF hP hΓ hΛ h hH hl
 seq f args hp r hp' h w X μ vs hH hl:=by
  have h:(if(F f).isSome=true then Y6 F prim Γ Λ f args hp else none)=some (r,hp'):=h;split at h
  ·rename_i hs;have hC:=uf hmix hF hP hΓ hΛ h hH hl;cases hfn:F f with
   |none=>rw[hfn] at hs;cases hs
   |some fn=>
    obtain⟨fnc,c1,c2⟩:=hF f fn hfn;obtain⟨c,d1,_,_,d4,_⟩:=ke c2;have hent:=xe (w:=w) (args:=vs.toArray) c1 d1 d4;rcases hC with⟨h1,h2⟩|⟨v,w',h1,_⟩
    ·exact⟨h1,h2⟩
    ·rw[hent] at h1;cases h1
  ·cases h
 rnd f q azs hp v hp' ps env h hq w X μ vs l rc hH hl hm hrc:=EA hmix hF hΓ hΛ h hq hH hl hm hrc
 dfr g p azs hp r hp' h w X μ vs u hH hl hu:=EE hmix hF hΓ hΛ h hH hl hu

theorem QH{F:FuncId->Option AFn}{prim:FuncId->Option Ym}(hmix:P.follows .mixedOrders=true)(hF:Ql P F)(hP:xF P prim):∀n,SoundO P (asem F prim n)
 |0=>⟨fun _ _ _ _ _ h=>(by cases h),fun _ _ _ _ _ h=>(by cases h),fun _ _ _ _ _ _ _ _ h=>(by cases h),fun _ _ _ _ _ _ h=>(by cases h)⟩
 |n+1=>EF hmix hF hP (QH hmix hF hP n) fun nt c ac h=>Ec hmix (QH hmix hF hP n) n c ac h
end Go.Am
