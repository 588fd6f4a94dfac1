/- What is proved: the abstract machine says true of the model (part 4). No conditions beside those that each theorem names. -/
import Derived.Test.YteaehiceghhajaaAm3
import Derived.Scope
import Derived.Lib.Bytealg
import Derived.ProofKit
import Derived.OpenShut
import Derived.JoinedCond
set_option linter.unusedSimpArgs false
set_option linter.unusedVariables false
/- Regions whose last two stores, to an element and to a variable, stand in no order. -/
namespace Go.Am
variable{P:Program} {w:World} {X:Xc P} {μ:Nat->Option Nat} {hp:Heap}

theorem zkh{s1 s2 sx:Sh}{b:Nat}{h0 h1 h2:Heap}{r1 ver i off r o:Nat}{px:PV}{yv:AV}{t:Sh}(hy:(∃sh r v o n,yv=.sl sh r v o n)\/∃sh p,yv=.pv sh p)
  (e1:astore s1 b h0 (.eptr t r1 ver i off) (.pv sx px)=some h1)(e2:astore s2 b h1 (.ptr r o) yv=some h2):
  ∃h1',astore s2 b h0 (.ptr r o) yv=some h1'/\astore s1 b h1' (.eptr t r1 ver i off) (.pv sx px)=some h2:=by
 have hown:∀hp,yv.own hp=(yv,hp):=by
  rcases hy with⟨_,_,_,_,_,rfl⟩|⟨_,_,rfl⟩ <;> intro hp <;> rfl
 simp only[astore] at e1
 split at e1
 ·cases e1
 rename_i hsx
 simp only[AV.freeze,deep] at e1
 cases ha:h0[r1]? with
 |none=>rw[ha] at e1;cases e1
 |some oa=>
 rw[ha] at e1
 have e3:=e2

 obtain⟨sa,es,es',rfl,hh1,hpart⟩:∃sa es es',oa=.arr sa es false/\h1=h0.set r1 (.arr sa es' false)/\∀hq:Heap,hq[r1]? =some (.arr sa es false)->astore s1 b hq (.eptr t r1 ver i off) (.pv sx px)=some (hq.set r1 (.arr sa es' false)):=by
  cases oa with
  |box _ _=>cases e1
  |map _ _=>cases e1
  |loop _ _ _ _=>cases e1
  |arv _ _=>cases e1
  |arr sa es fz=>
   cases fz with
   |true=>cases e1
   |false=>
    simp only[] at e1
    split at e1
    ·rename_i hv
     cases ho:es[i]? with
     |none=>rw[ho] at e1;cases e1
     |some old=>
      rw[ho] at e1
      simp only[] at e1
      split at e1
      ·rename_i hc
       cases e1
       refine⟨sa,es,_,rfl,rfl,fun hq hhq=> ?_⟩
       simp only[astore,AV.freeze,deep,hhq,ho]
       rw[if_neg hsx,if_pos hv,if_pos hc]
      ·rename_i hc
       cases hu:PV.upd 8 old off s1 px with
       |none=>rw[hu] at e1;cases e1
       |some new=>
        rw[hu] at e1
        cases e1
        refine⟨sa,es,_,rfl,rfl,fun hq hhq=> ?_⟩
        simp only[astore,AV.freeze,deep,hhq,ho]
        rw[if_neg hsx,if_pos hv,if_neg hc]
        simp only[hu]
    ·cases e1
 have hlt:r1<h0.length:=(List.getElem?_eq_some_iff.1 ha).1
 subst hh1
 have hne:r≠r1:=by
  rintro rfl
  simp only[astore,List.getElem?_set_self hlt] at e2
  cases e2
 have hb:(h0.set r1 (.arr sa es' false))[r]? =h0[r]? :=List.getElem?_set_ne (Ne.symm hne)
 obtain⟨ob,h2',hst⟩:∃ob,h2=(h0.set r1 (.arr sa es' false)).set r ob/\astore s2 b h0 (.ptr r o) yv=some (h0.set r ob):=by
  simp only[astore,hb,hown] at e2 ⊢
  cases hr:h0[r]? with
  |none=>rw[hr] at e2;cases e2
  |some obj=>
   rw[hr] at e2
   cases obj with
   |arr _ _ _=>cases e2
   |map _ _=>cases e2
   |loop _ _ _ _=>cases e2
   |arv _ _=>cases e2
   |box s old=>
    simp only[] at e2 ⊢
    split at e2
    ·cases e2
    ·rename_i h3
     rw[if_neg h3]
     split at e2
     ·rename_i h4
      rw[if_pos h4]
      split at e2
      ·rename_i h5
       cases e2
       rw[if_pos h5]
       exact⟨_,rfl,rfl⟩
      ·rename_i h5
       rw[if_neg h5]
       cases hu:AV.upd deep old o s2 yv with
       |none=>rw[hu] at e2;cases e2
       |some new=>rw[hu] at e2;cases e2;exact⟨_,rfl,rfl⟩
     ·rename_i h4
      rw[if_neg h4]
      split at e2
      ·rename_i h6
       rw[if_pos h6]
       split at e2
       ·rename_i h5
        cases e2
        rw[if_pos h5]
        exact⟨_,rfl,rfl⟩
       ·rename_i h5
        rw[if_neg h5]
        cases hu:AV.upd deep old o s2 yv with
        |none=>rw[hu] at e2;cases e2
        |some new=>rw[hu] at e2;cases e2;exact⟨_,rfl,rfl⟩
      ·cases e2
 refine⟨_,hst,?_⟩
 rw[hpart _ (by rw[List.getElem?_set_ne hne];exact ha),h2',List.set_comm _ _ (Ne.symm hne)]

structure Two(ops:Array Oper)(l:List AOper)(q x:Nat)(p s v:AOper)(sh1 sh2:Sh)(p2 y:AArg):Prop where
 dE:zbX 0 ops.toList=true
 dN:zef 0 l=true
 dU:zhl l=true
 dL:ze7 l=true
 n3:3<=l.length
 dP:∀i j a b,j<i->l[j]? =some a->l[i]? =some b->j∈(clos [] ops.toList).getD i []\/a.indep b (zfO l j i)=true\/(i=l.length - 1/\j=l.length - 2)
 c1:∀j,j<l.length - 3->j∈(clos [] ops.toList).getD (l.length - 1) []
 c2:∀j,j<l.length - 2->j∈(clos [] ops.toList).getD (l.length - 2) []
 lp:l[l.length - 3]? =some p
 ls:l[l.length - 2]? =some s
 lv:l[l.length - 1]? =some v
 pc:p.cls=0
 pd:p.dst=some q
 sop:s.op=.store sh1
 sar:s.args=[.t q,.t x]
 sd:s.dst=none
 sg:s.guard=none
 vop:v.op=.storex sh2
 var:v.args=[p2,y,.t q,.t x]
 vd:v.dst=none
 vg:v.guard=none
 xq:x≠q

theorem zl4{ops:Array Oper}{l:List AOper}(h:zeE ops l=true):∃q x p s v sh1 sh2 p2 y,Two ops l q x p s v sh1 sh2 p2 y:=by
 simp only[zeE,Bool.and_eq_true,List.all_eq_true,decide_eq_true_eq] at h
 obtain⟨⟨⟨⟨⟨⟨⟨h1,h2⟩,h4,h5⟩,h6⟩,h3⟩,h7⟩,h8⟩,h9⟩:=h
 split at h9
 ·rename_i p s v e1 e2 e3
  rw[Bool.and_eq_true] at h9
  obtain⟨h9,h10⟩:=h9
  split at h10
  ·rename_i q sh1 q' x sh2 p2 y q2 x2 f1 f2 f3 f4 f5 f6 f7 f8 f9 f10
   simp only[Bool.and_eq_true] at h10
   obtain⟨⟨g1,g2⟩,g3⟩:=h10
   have g1:=Nat.eq_of_beq_eq_true g1
   have g2:=Nat.eq_of_beq_eq_true g2
   subst g1;subst g2
   split at g3
   ·rename_i x x2
    simp only[Bool.and_eq_true,Bool.not_eq_true'] at g3
    obtain⟨g3,g4⟩:=g3
    have g3:=Nat.eq_of_beq_eq_true g3
    subst g3
    refine⟨_,_,p,s,v,_,_,_,_,h1,h2,h4,h5,h6,fun i j a b hji ha hb=> ?_,fun j hj=> ?_,fun j hj=> ?_,e1,e2,e3,by simpa using h9,f1,f3,f4,f5,f6,f7,f8,f9,f10,fun e=>by simp[e] at g4⟩
    ·rcases zeP h3 hji ha hb with h|h
     ·exact .inl h
     ·simp only[Bool.or_eq_true,Bool.and_eq_true,beq_iff_eq] at h
      rcases h with h|h
      ·exact .inr (.inl h)
      ·exact .inr (.inr h)
    ·have:=h7 j (List.mem_range.2 hj)
     simpa using this
    ·have:=h8 j (List.mem_range.2 hj)
     simpa using this
   ·cases g3
  ·cases h10
 ·cases h9

section
variable{Γ:Oracle} {nt b:Nat} {w0:World} {μ0:Nat->Option Nat} {ds:List Deferred} {ops:Array Oper} {l:List AOper} {fr fr':Fr} {hp':Heap} {frs:Nat->Fr} {hps:Nat->Heap} {vals:Nat->AV} {L:Array Bool} {a:Act} {m:Nat}
variable{Q:Exit->Act->World->Prop} {ro:Option Nat}

structure DX(nt b:Nat)(w0:World)(X:Xc P)(μ0:Nat->Option Nat)(hp:Heap)(ds:List Deferred)(ops:Array Oper)(l:List AOper)(h1:Heap)(f3 f2:Fr)(L:Array Bool)(a:Act)(w:World):Prop where
 size:L.size=ops.size
 shut:Shut ops L
 ds:a.defers=ds
 tsz:a.tmps.size=nt
 pre:∀j,j<l.length - 3->L.getD j false=true
 lv:L.getD (l.length - 1) false=true
 ls:L.getD (l.length - 2) false=false
 st:∃μ1,HR w X μ1 h1/\FR w X μ1 h1 (if L.getD (l.length - 3) false=true then f2 else f3) a.tmps/\Ext b X μ0 hp w0 μ1 h1 w/\b<=h1.length
structure DF(nt b:Nat)(w0:World)(X:Xc P)(μ0:Nat->Option Nat)(hp:Heap)(ds:List Deferred)(ops:Array Oper)(fr':Fr)(hp':Heap)(L:Array Bool)(a:Act)(w:World):Prop where
 size:L.size=ops.size
 shut:Shut ops L
 all:∀j,j<ops.size->L.getD j false=true
 lands:Lands nt b w0 X μ0 hp ds .normal fr' hp' .normal a w

theorem znI{sh:Sh}{b:Nat}{o:AOper}{x y:AArg}{fr:Fr}{h0 h1:Heap}{u:AV}(ho:o.op=.store sh)(ha:o.args=[x,y])(hg:o.guard=none)(h:aone Γ b o fr h0=some (.val u h1)):∃p v,fr.arg x=some p/\fr.arg y=some v/\astore sh b h0 p v=some h1/\u=.undef:=by
 unfold aone at h
 rw[hg] at h
 simp only[wants] at h
 rw[ha] at h
 split at h
 ·cases h
 ·rename_i vs hvs
  obtain⟨p,us,rfl,k1,k2⟩:=zat hvs
  obtain⟨v,rfl,k3⟩:=zdz k2
  rw[ho] at h
  simp only[aOp,astep,AOp.isPure,AOp.isRead,cond_false,swrite,zaB] at h
  cases hs:astore sh b h0 p v with
  |none=>rw[hs] at h;cases h
  |some hq=>rw[hs] at h;cases h;exact⟨p,v,k1,k3,hs,rfl⟩
theorem ziU{sh:Sh}{b:Nat}{o:AOper}{x y:AArg}{fr:Fr}{h0 h1:Heap}{p v:AV}(ho:o.op=.store sh)(ha:o.args=[x,y])(hg:o.guard=none)(h1':fr.arg x=some p)(h2:fr.arg y=some v)(hs:astore sh b h0 p v=some h1):aone Γ b o fr h0=some (.val .undef h1):=by
 unfold aone
 rw[hg]
 simp only[wants]
 rw[ha]
 simp only[Fr.argsOf,h1',h2]
 rw[ho]
 simp only[aOp,astep,AOp.isPure,AOp.isRead,cond_false,swrite,zaB,hs]
theorem zce{ops:Array Oper}{L:Array Bool}{i:Nat}(hE:zbX 0 ops.toList=true)(hz:L.size=ops.size)(hS:Shut ops L)(hi:i∈Region.ready .any ops L):i<ops.size/\L.getD i false=false/\∀j∈(clos [] ops.toList).getD i [],L.getD j false=true:=by
 obtain⟨r1,r2,r3⟩:=zcE hE hS hi
 refine⟨r1,?_,r3⟩
 rw[Array.getD_eq_getD_getElem?] at r2 ⊢
 have:i<L.size:=by omega
 simp[this] at r2 ⊢
 exact r2
theorem zq7{e:AExit}(hT:Tie P nt ops l)(dE:zbX 0 ops.toList=true)(R:Run Γ b l fr hp e fr' hp' m frs hps vals)(hQ:∀e' a' w',Lands nt b w0 X μ0 hp ds e fr' hp' e' a' w'->Q e' a' w')
  (D:DInv nt b w0 X μ0 hp ds ops l fr m hps vals L a w)(hr:Region.ready .any ops L=[]):Q .normal a w:=by
 have hall:=zdG dE D.size hr
 have hml:m=l.length:=by
  rcases Nat.lt_or_ge m l.length with h|h
  ·have:=D.lt m (hall m (by rw[<-hT.1];exact h));omega
  ·exact Nat.le_antisymm R.le h
 obtain⟨μ1,pb,h,D1,_⟩:=D.st
 have hm:=D1.hm
 have hlen:∀{k x},l[k]? =some x->k<ops.size:=fun hx=>by rw[<-hT.1];exact(List.getElem?_eq_some_iff.1 hx).1
 obtain⟨μ2,pb2,D2⟩:=D1.advance R (m - h) (by omega) (fun k x k1 k2 hx=>⟨fun hx2=>by
  have:=(D1.c2 k x hx hx2).1 (hall k (hlen hx))
  omega,fun _=>hall k (hlen hx)⟩)
 rw[show h+(m - h)=m by omega] at D2
 have hX:Xp X pb2=X:=zde fun k=>by
  cases hk:pb2 k with
  |none=>rfl
  |some bk=>
   obtain⟨z1,z2,_⟩:=D2.own k bk hk
   have:=D.lt k z1
   omega
 have hH:=D2.hr
 have hslot:=D2.slot
 rw[hX] at hH hslot
 rcases R.fin with⟨f1,f2,f3,f4⟩|⟨om,p,f1,_⟩
 ·refine hQ _ _ _ ⟨D.ds,D.tsz,μ2,?_,fun s u hs=> ?_,?_,?_⟩
  ·rw[f4];exact hH
  ·rw[f3] at hs
   rw[f4]
   refine hslot s u ?_
   rcases R.look m (Nat.le_refl _) hs with⟨j,oj,hj,hoj,hdj,rfl⟩|⟨hnone,hfr0⟩
   ·exact .inl ⟨j,oj,hall j (hlen hoj),hoj,hdj,rfl,fun _=>hj⟩
   ·exact .inr ⟨fun j oj hoj hdj=>absurd hdj (hnone j oj (by rw[hml];exact(List.getElem?_eq_some_iff.1 hoj).1) hoj),hfr0⟩
  ·rw[f4];exact D2.ext
  ·rw[f2];exact trivial
 ·have:=(List.getElem?_eq_some_iff.1 f1).1;omega

theorem zki(hΓ:SoundO P Γ)(hT:Tie P nt ops l){i:Nat}{ao:AOper}{K:Act->World->Prop}{F:Fr}{h0 h1:Heap}{u:AV}(hb:b<=h0.length)(hH:HR w X μ h0)(hF:FR w X μ h0 F a.tmps)(hi:i<ops.size)(ht2:l[i]? =some ao)
  (hao:aone Γ b ao.base F h0=some (.val u h1))(fin:∀v' w' μ',AR w' X μ' h1 u v'->HR w' X μ' h1->Ext b X μ h0 w μ' h1 w'->K (a.put ao.dst v') w'):wpOpIn (Fe ro) 0 P ops Q i K a w:=by
 obtain⟨o,ho⟩:∃o,ops[i]? =some o:=⟨_,Array.getElem?_eq_getElem hi⟩
 obtain⟨ao0,ao',t1,t2,q1,q2,q3,q4⟩:=hT.2 i o ho
 rw[ht2] at t2
 cases t2
 obtain⟨d1,d2,d3⟩:=zdE t1
 have hod:o.dst=ao.dst:=by rw[q1,d1]
 have hbase:=ziQ ao
 have hwant:∀x,wants F ao.base.guard=some x->Region.wanted o (yielded ops a.tmps)=x:=fun x hx=>zbl hF t1 (by rw[<-q2,<-hbase.2];exact hx)
 simp only[wpOpIn,ho]
 unfold aone at hao
 split at hao
 ·cases hao
 ·rename_i hw
  rw[hwant _ hw]
  simp only[Bool.false_eq_true,if_false]
  simp only[Option.some.injEq,OpRes.val.injEq] at hao
  obtain⟨hv,hhp⟩:=hao
  rw[hod]
  exact⟨fun _ _=>trivial,fin undef w μ (by rw[<-hv];exact .undef _ fun b h=>by cases h) (by rw[<-hhp];exact hH) (by rw[<-hhp];exact Ext.refl _ _ _ _ _)⟩
 ·rename_i hw
  rw[hwant _ hw]
  simp only[if_true]
  split at hao
  ·cases hao
  ·rename_i vs hvs
   refine zcD hΓ hb d3 q4 hF (by rw[<-q3];exact hvs) hH hao ?_
   intro v' w' μ' h1 h2 h3
   rw[hod]
   exact fin v' w' μ' h1 h2 h3

theorem zq8{F:Fr}{q:Nat}{u:AV}{x:AArg}(h:x≠.t q):(F.dst (some q) u).arg x=F.arg x:=by
 cases x with
 |c v=>rfl
 |t s=>
  simp only[Fr.arg,Fr.dst,Fr.look]
  rw[if_neg fun e=>h (by rw[e])]

theorem znJ{q x:Nat}{p s v:AOper}{sh1 sh2:Sh}{p2 y:AArg}(hΓ:SoundO P Γ)(hT:Tie P nt ops l)(T:Two ops l q x p s v sh1 sh2 p2 y)(R:Run Γ b l fr hp .normal fr' hp' m frs hps vals)
  (hQ:∀e' a' w',Lands nt b w0 X μ0 hp ds .normal fr' hp' e' a' w'->Q e' a' w'):∃h1,∀(n:Nat) (L:Array Bool) (a:Act) (w:World),(DInv nt b w0 X μ0 hp ds ops l fr m hps vals L a w\/DX nt b w0 X μ0 hp ds ops l h1 (frs (l.length - 3)) (frs (l.length - 2)) L a w\/DF nt b w0 X μ0 hp ds ops fr' hp' L a w)->
   (List.range ops.size).countP (fun i=> !L.getD i false)<=n->wpAnyIn (Fe ro) 0 P .any ops Q n L a w:=by
 have n3:=T.n3
 obtain⟨rfl,hfr',hhp'⟩:m=l.length/\fr'=frs m/\hp'=hps m:=by
  rcases R.fin with⟨f1,_,f3,f4⟩|⟨_,_,_,_,f,_⟩
  ·exact⟨f1,f3,f4⟩
  ·cases f
 have hN:l.length=ops.size:=hT.1
 have e32:l.length - 3+1=l.length - 2:=by omega
 have e21:l.length - 2+1=l.length - 1:=by omega
 have e10:l.length - 1+1=l.length:=by omega
 obtain⟨sp,fp⟩:=R.step (l.length - 3) p (by omega) T.lp
 obtain⟨ss,fs⟩:=R.step (l.length - 2) s (by omega) T.ls
 obtain⟨sv,fv⟩:=R.step (l.length - 1) v (by omega) T.lv
 rw[e32] at sp fp
 rw[e21] at ss fs
 rw[e10] at sv fv
 rw[T.sd] at fs
 rw[T.vd] at fv
 rw[T.pd] at fp
 obtain⟨hpp,hpall⟩:=(zbc sp).1 T.pc
 obtain⟨pe,xv,a1,a2,st1,_⟩:=znI T.sop T.sar T.sg ss

 obtain⟨vp,yv,b1,b2,h1,hsv,hsx⟩:∃vp yv,(frs (l.length - 2)).arg p2=some vp/\(frs (l.length - 2)).arg y=some yv/\∃h1,astore sh2 b (hps (l.length - 2)) vp yv=some h1/\astore sh1 b h1 pe xv=some (hps l.length):=by
  rw[fs] at sv
  unfold aone at sv
  rw[T.vg] at sv
  simp only[wants] at sv
  rw[T.var] at sv
  split at sv
  ·cases sv
  ·rename_i vs hvs
   rw[T.vop] at sv
   simp only[aOp,astep,AOp.isPure,AOp.isRead,cond_false,swrite] at sv
   cases hw:zfL sh2 b (hps (l.length - 1)) vs with
   |none=>rw[hw] at sv;cases sv
   |some z=>
    obtain⟨z1,z2⟩:=z
    rw[hw] at sv
    cases sv
    obtain⟨r0,o0,s1,r1,v1,i1,o1,s2,pp,yy,hvs',hy,hst,_⟩:=zf3 hw
    obtain⟨c1,us,rfl,k1,k2⟩:=zat hvs
    obtain⟨c2,us2,rfl,k3,k4⟩:=zat k2
    obtain⟨c3,us3,rfl,k5,k6⟩:=zat k4
    obtain⟨c4,rfl,k7⟩:=zdz k6
    simp only[List.cons.injEq,and_true] at hvs'
    obtain⟨rfl,rfl,rfl,rfl⟩:=hvs'
    have a1':some pe=some (AV.eptr s1 r1 v1 i1 o1):=a1.symm.trans k5
    have a2':some xv=some (AV.pv s2 pp):=a2.symm.trans k7
    cases a1';cases a2'
    obtain⟨h1,g1,g2⟩:=zkh hy st1 hst
    exact⟨_,_,k1,k3,h1,g1,g2⟩
 refine⟨h1,?_⟩
 have hend:∀(L:Array Bool) (a:Act) (w:World),(DInv nt b w0 X μ0 hp ds ops l fr l.length hps vals L a w\/DX nt b w0 X μ0 hp ds ops l h1 (frs (l.length - 3)) (frs (l.length - 2)) L a w\/DF nt b w0 X μ0 hp ds ops fr' hp' L a w)->Region.ready .any ops L=[]->Q .normal a w:=by
  rintro L a w (D|D|D) hr
  ·exact zq7 hT T.dE R hQ D hr
  ·have:=zdG T.dE D.size hr (l.length - 2) (by omega)
   rw[D.ls] at this;cases this
  ·exact hQ _ _ _ D.lands
 have hsz:∀{L:Array Bool} {i:Nat},L.size=ops.size->i<ops.size->i<L.size:=fun h1 h2=>by omega
 have hstep:∀(L:Array Bool) (a:Act) (w:World) (i:Nat),(DInv nt b w0 X μ0 hp ds ops l fr l.length hps vals L a w\/DX nt b w0 X μ0 hp ds ops l h1 (frs (l.length - 3)) (frs (l.length - 2)) L a w\/DF nt b w0 X μ0 hp ds ops fr' hp' L a w)->i∈Region.ready .any ops L->
   wpOpIn (Fe ro) 0 P ops Q i (fun a' w'=>DInv nt b w0 X μ0 hp ds ops l fr l.length hps vals (L.setIfInBounds i true) a' w'\/DX nt b w0 X μ0 hp ds ops l h1 (frs (l.length - 3)) (frs (l.length - 2)) (L.setIfInBounds i true) a' w'\/DF nt b w0 X μ0 hp ds ops fr' hp' (L.setIfInBounds i true) a' w') a w:=by
  rintro L a w i (D|D|D) hi
  ·obtain⟨r1,r2,r3⟩:=zce T.dE D.size D.shut hi
   by_cases hx:i=l.length - 1/\L.getD (l.length - 2) false=false
   ·obtain⟨rfl,hls⟩:=hx
    have pre:∀j,j<l.length - 3->L.getD j false=true:=fun j hj=>r3 j (T.c1 j hj)
    obtain⟨μ1,pb,h,D1,_⟩:=D.st
    have scls:s.cls=2:=by unfold AOper.cls;simp[T.sop,AOp.isPure,AOp.isRead]
    have hh:h<=l.length - 2:=by
     rcases Nat.lt_or_ge (l.length - 2) h with h'|h'
     ·rw[(D1.c2 _ s T.ls scls).2 h'] at hls;cases hls
     ·exact h'
    have k3:∀k o,k<l.length - 2->l[k]? =some o->k<l.length - 3\/o.cls=0:=by
     intro k o hk ho
     rcases Nat.lt_or_ge k (l.length - 3) with h'|h'
     ·exact .inl h'
     ·have:k=l.length - 3:=by omega
      subst this
      rw[T.lp] at ho
      cases ho
      exact .inr T.pc
    obtain⟨μ2,pb2,D2⟩:=D1.advance R (l.length - 2 - h) (by omega) (fun k o k1 k2 ho=>by
     rcases k3 k o (by omega) ho with h'|h'
     ·exact⟨fun h2=>by have:=(D1.c2 k o ho h2).1 (pre k h');omega,fun _=>pre k h'⟩
     ·exact⟨by omega,by omega⟩)
    rw[show h+(l.length - 2 - h)=l.length - 2 by omega] at D2
    have hX:Xp X pb2=X:=zde fun k=>by
     cases hk:pb2 k with
     |none=>rfl
     |some bk=>
      obtain⟨z1,z2,⟨o,z3,z4⟩,_⟩:=D2.own k bk hk
      have:=(List.getElem?_eq_some_iff.1 z3).1
      rcases Nat.lt_or_ge k (l.length - 1) with h'|h'
      ·have:k=l.length - 2:=by omega
       subst this;rw[hls] at z1;cases z1
      ·have:k=l.length - 1:=by omega
       subst this;rw[r2] at z1;cases z1
    have hH:=D2.hr
    have hslot:=D2.slot
    rw[hX] at hH hslot
    have hls':∀k,l.length - 3<=k->k<=l.length - 2->(k=l.length - 2->L.getD (l.length - 3) false=true)->(k=l.length - 3->L.getD (l.length - 3) false=false)->FR w X μ2 (hps (l.length - 2)) (frs k) a.tmps:=by
     intro k h1 h2 h3 h4 s' u hs
     refine hslot s' u ?_
     rcases R.look k (by omega) hs with⟨j,oj,hj,hoj,hdj,rfl⟩|⟨hnone,hfr⟩
     ·refine .inl ⟨j,oj,?_,hoj,hdj,rfl,fun _=>by omega⟩
      rcases Nat.lt_or_ge j (l.length - 3) with h'|h'
      ·exact pre j h'
      ·have:j=l.length - 3:=by omega
       subst this
       exact h3 (by omega)
     ·refine .inr ⟨fun j oj hoj hdj=> ?_,hfr⟩
      rcases Nat.lt_or_ge j k with h'|h'
      ·exact absurd hdj (hnone j oj h' hoj)
      ·have hjl:=(List.getElem?_eq_some_iff.1 hoj).1
       rcases Nat.lt_or_ge j (l.length - 2) with h''|h''
       ·have:j=l.length - 3:=by omega
        subst this
        exact h4 (by omega)
       ·exfalso
        rcases Nat.lt_or_ge j (l.length - 1) with h5|h5
        ·have:j=l.length - 2:=by omega
         subst this;rw[T.ls] at hoj;cases hoj;rw[T.sd] at hdj;cases hdj
        ·have:j=l.length - 1:=by omega
         subst this;rw[T.lv] at hoj;cases hoj;rw[T.vd] at hdj;cases hdj
    have hF:FR w X μ2 (hps (l.length - 2)) (if L.getD (l.length - 3) false=true then frs (l.length - 2) else frs (l.length - 3)) a.tmps:=by
     split
     ·rename_i h3
      exact hls' (l.length - 2) (by omega) (Nat.le_refl _) (fun _=>h3) (by omega)
     ·rename_i h3
      exact hls' (l.length - 3) (Nat.le_refl _) (by omega) (by omega) (fun _=>by simpa using h3)
    have hbase:v.base={ v with op:=.store sh2,args:=[p2,y] }:=by
     unfold AOper.base
     rw[T.vop,T.var]
    have huses:v.uses=zbE [p2,y]:=by
     unfold AOper.uses
     rw[hbase]
     simp only[T.vg]
    have harg:∀z,z=p2\/z=y->(if L.getD (l.length - 3) false=true then frs (l.length - 2) else frs (l.length - 3)).arg z=(frs (l.length - 2)).arg z:=by
     intro z hz
     split
     ·rfl
     ·rename_i h3
      rw[fp]
      refine(zq8 ?_).symm
      rintro rfl
      rcases T.dP (l.length - 1) (l.length - 3) p v (by omega) T.lp T.lv with h'|h'|h'
      ·exact h3 (r3 _ h')
      ·refine zf5 h' T.pd ?_
       rw[huses]
       rcases hz with rfl|rfl
       ·simp[zbE]
       ·cases p2 <;> simp[zbE]
      ·omega
    have hao:aone Γ b v.base (if L.getD (l.length - 3) false=true then frs (l.length - 2) else frs (l.length - 3)) (hps (l.length - 2))=some (.val .undef h1):=by
     refine ziU (sh:=sh2) (x:=p2) (y:=y) (p:=vp) (v:=yv) (by rw[hbase]) (by rw[hbase]) (by rw[hbase];exact T.vg) ?_ ?_ hsv
     ·rw[harg p2 (.inl rfl)];exact b1
     ·rw[harg y (.inr rfl)];exact b2
    refine zki hΓ hT D2.le hH hF r1 T.lv hao ?_
    intro v' w' μ' hv hH' E
    refine .inr (.inl ⟨by simp[D.size],zem D.size D.shut r3 r1,by rw[zb7];exact D.ds,by rw[zbg];exact D.tsz,fun j hj=> ?_,?_,?_,μ',hH',?_,D2.ext.trans E,Nat.le_trans D2.le E.len⟩)
    ·rw[zaq (hsz D.size r1),if_neg (by omega)];exact pre j hj
    ·rw[zaq (hsz D.size r1)];simp
    ·rw[zaq (hsz D.size r1),if_neg (by omega)];exact hls
    ·have e3:(L.setIfInBounds (l.length - 1) true).getD (l.length - 3) false=L.getD (l.length - 3) false:=by rw[zaq (hsz D.size r1),if_neg (by omega)]
     rw[e3,T.vd]
     exact FR.put (dst:=none) hF E (by intro d h;cases h) hv
   ·refine wpOpIn_mono (fun a' w' D'=>.inl D') (zeS hΓ (hT.2 i) T.dE T.dN T.dU T.dL (by rintro⟨p,h⟩;cases h) R D (fun _=>hQ) hi ?_ ?_)
    ·intro j x' y' hj h1 h2 hL
     rcases T.dP i j x' y' hj h1 h2 with h|h|⟨h,h'⟩
     ·exact .inl h
     ·exact .inr h
     ·exact absurd ⟨h,by rw[<-h'];exact hL⟩ hx
    ·intro j x' y' hj h1 h2 hL
     rcases T.dP j i y' x' hj h2 h1 with h|h|⟨h,h'⟩
     ·exact .inl h
     ·exact .inr h
     ·exfalso
      subst h;subst h'
      obtain⟨μ1,pb,hh,D1,_⟩:=D.st
      have scls:s.cls=2:=by unfold AOper.cls;simp[T.sop,AOp.isPure,AOp.isRead]
      have vcls:v.cls=2:=by unfold AOper.cls;simp[T.vop,AOp.isPure,AOp.isRead]
      have k1:=(D1.c2 _ v T.lv vcls).1 hL
      have k2:=(D1.c2 _ s T.ls scls).2 (by omega)
      rw[r2] at k2;cases k2
  ·obtain⟨r1,r2,r3⟩:=zce T.dE D.size D.shut hi
   obtain⟨μ1,hH,hF,hE,hb⟩:=D.st
   have hcase:i=l.length - 3\/i=l.length - 2:=by
    rcases Nat.lt_or_ge i (l.length - 3) with h|h
    ·rw[D.pre i h] at r2;cases r2
    ·rcases Nat.lt_or_ge i (l.length - 1) with h'|h'
     ·omega
     ·have:i=l.length - 1:=by omega
      subst this;rw[D.lv] at r2;cases r2
   rcases hcase with rfl|rfl
   ·rw[r2] at hF
    simp only[Bool.false_eq_true,if_false] at hF
    have hpb:p.base=p:=zfE (by rw[T.pc];omega)
    refine zki hΓ hT hb hH hF r1 T.lp (by rw[hpb];exact hpall h1) ?_
    intro v' w' μ' hv hH' E
    refine .inr (.inl ⟨by simp[D.size],zem D.size D.shut r3 r1,by rw[zb7];exact D.ds,by rw[zbg];exact D.tsz,fun j hj=> ?_,?_,?_,μ',hH',?_,hE.trans E,Nat.le_trans hb E.len⟩)
    ·rw[zaq (hsz D.size r1),if_neg (by omega)];exact D.pre j hj
    ·rw[zaq (hsz D.size r1),if_neg (by omega)];exact D.lv
    ·rw[zaq (hsz D.size r1),if_neg (by omega)];exact D.ls
    ·rw[zaq (hsz D.size r1)]
     simp only[if_true]
     rw[fp,<-T.pd]
     obtain⟨o,ho⟩:∃o,ops[l.length - 3]? =some o:=⟨_,Array.getElem?_eq_getElem r1⟩
     obtain⟨ao0,ao',t1,t2,q1,_⟩:=hT.2 _ o ho
     rw[T.lp] at t2
     cases t2
     obtain⟨d1,d2,d3⟩:=zdE t1
     exact FR.put hF E (fun d hd=>by rw[D.tsz];exact d2 d (by rw[<-d1,<-q1];exact hd)) hv
   ·have hp3:L.getD (l.length - 3) false=true:=r3 _ (T.c2 _ (by omega))
    rw[hp3] at hF
    simp only[if_true] at hF
    have hsb:s.base=s:=zcx (by rw[T.sop];rfl)
    refine zki hΓ hT hb hH hF r1 T.ls (by rw[hsb];exact ziU T.sop T.sar T.sg a1 a2 hsx) ?_
    intro v' w' μ' hv hH' E
    refine .inr (.inr ⟨by simp[D.size],zem D.size D.shut r3 r1,fun j hj=> ?_,by rw[zb7];exact D.ds,by rw[zbg];exact D.tsz,μ',?_,?_,?_,trivial⟩)
    ·rw[zaq (hsz D.size r1)]
     split
     ·rfl
     ·rcases Nat.lt_or_ge j (l.length - 3) with h|h
      ·exact D.pre j h
      ·rcases Nat.lt_or_ge j (l.length - 2) with h'|h'
       ·have:j=l.length - 3:=by omega
        subst this;exact hp3
       ·have:j=l.length - 1:=by omega
        subst this;exact D.lv
    ·rw[hhp'];exact hH'
    ·rw[hfr',hhp',fv,T.sd]
     show FR w' X μ' (hps l.length) (frs (l.length - 1)) _
     rw[fs]
     exact FR.put (dst:=none) (v:=.undef) hF E (by intro d h;cases h) hv
    ·rw[hhp'];exact hE.trans E
  ·obtain⟨r1,r2,r3⟩:=zce T.dE D.size D.shut hi
   rw[D.all i r1] at r2;cases r2
 have inv_size:∀{L:Array Bool} {a:Act} {w:World},(DInv nt b w0 X μ0 hp ds ops l fr l.length hps vals L a w\/DX nt b w0 X μ0 hp ds ops l h1 (frs (l.length - 3)) (frs (l.length - 2)) L a w\/DF nt b w0 X μ0 hp ds ops fr' hp' L a w)->L.size=ops.size/\Shut ops L:=by
  rintro L a w (D|D|D)
  ·exact⟨D.size,D.shut⟩
  ·exact⟨D.size,D.shut⟩
  ·exact⟨D.size,D.shut⟩
 intro n
 induction n with
 |zero=>
  intro L a w D hn
  obtain⟨z1,z2⟩:=inv_size D
  have hr:Region.ready .any ops L=[]:=by
   cases hx:Region.ready .any ops L with
   |nil=>rfl
   |cons i r=>
    exfalso
    have hi:i∈Region.ready .any ops L:=by rw[hx];simp
    obtain⟨r1,r2,r3⟩:=zce T.dE z1 z2 hi
    have:0<(List.range ops.size).countP (fun i=> !L.getD i false):=by
     rw[List.countP_pos_iff]
     exact⟨i,List.mem_range.2 r1,by rw[r2];rfl⟩
    omega
  exact⟨hr,hend L a w D hr⟩
 |succ n ih=>
  intro L a w D hn
  refine⟨hend L a w D,fun i hi=> ?_⟩
  obtain⟨z1,z2⟩:=inv_size D
  obtain⟨r1,r2,r3⟩:=zce T.dE z1 z2 hi
  refine wpOpIn_mono (fun a' w' D'=>ih _ a' w' D' ?_) (hstep L a w i D hi)
  have:=zep (l:=List.range ops.size) (p:=fun i=> !L.getD i false) (q:=fun j=> !(L.setIfInBounds i true).getD j false) (List.mem_range.2 r1) (fun x hx=>by
   rw[zaq (hsz z1 r1)] at hx
   split at hx
   ·cases hx
   ·exact hx) (by rw[r2];rfl) (by rw[zaq (hsz z1 r1)];simp)
  omega

theorem znK{e:AExit}(R:Run Γ b l fr hp e fr' hp' m frs hps vals)(hb:b<=hp.length)(hH:HR w X μ hp)(hF:FR w X μ hp fr a.tmps)(hsz:a.tmps.size=nt):DInv nt b w X μ hp a.defers ops l fr m hps vals (Array.replicate ops.size false) a w.drew:=by
 have h0:∀i,(Array.replicate ops.size false).getD i false=false:=by
  intro i
  rw[Array.getD_eq_getD_getElem?,Array.getElem?_replicate]
  split <;> rfl
 have hX:Xp X (fun _=>none)=X:=zde fun _=>rfl
 refine⟨by simp,fun i hi=> ?_,fun i hi=> ?_,rfl,hsz,μ,fun _=>none,0,⟨Nat.zero_le _,fun k o hk hc=> ?_,fun k o hk hc h=>by omega,?_,?_,?_,fun s v hs=> ?_,fun k o hk hc h hL=> ?_,fun k bk h=>(by cases h),fun k k' bk h=>(by cases h)⟩,fun i ao hi hc hL k x h1 h2=>by omega⟩
 ·rw[h0] at hi;cases hi
 ·rw[h0] at hi;cases hi
 ·rw[h0];simp
 ·rw[R.h0,hX];exact hH.drew
 ·rw[R.h0];exact hb
 ·rw[R.h0];exact Ext.drew b
 ·rcases hs with⟨j,o,hj,_⟩|⟨_,h⟩
  ·rw[h0] at hj;cases hj
  ·rw[R.h0,hX]
   obtain⟨k1,k2⟩:=hF s v h
   exact⟨k1,(Ext.drew (X:=X) (μ:=μ) (hp:=hp) (w:=w) 0).ar k2⟩
 ·rw[h0] at hL;cases hL
theorem zer(hmix:P.follows .mixedOrders=true)(hΓ:SoundO P Γ)(hT:Tie P nt ops l)(hdraw:zeE ops l=true){id:Nat}(hs:aops Γ b l fr hp=some (.normal,fr',hp'))(hb:b<=hp.length)(hH:HR w X μ hp)(hF:FR w X μ hp fr a.tmps)(hsz:a.tmps.size=nt)
  (hQ:∀e' a' w',Lands nt b w X μ hp a.defers .normal fr' hp' e' a' w'->Q e' a' w'):(Code.region id ops true).wpIn (Fe ro) 0 P Q a w:=by
 obtain⟨m,frs,hps,vals,R⟩:=zk5 l fr hp hs
 obtain⟨q,x,p,s,v,sh1,sh2,p2,y,T⟩:=zl4 hdraw
 obtain⟨h1,k⟩:=znJ (w0:=w) (X:=X) (μ0:=μ) (ds:=a.defers) hΓ hT T R hQ
 refine wpIn_region_any hmix (k ops.size _ a _ (.inl ?_) (Nat.le_trans (List.countP_le_length) (by simp)))
 exact znK R hb hH hF hsz
end
end Go.Am

/- Regions where a call may panic beside what stands in no order with it. -/
namespace Go.Am
variable{P:Program} {w:World} {X:Xc P} {μ:Nat->Option Nat} {hp:Heap}

theorem zkj{Γ:Oracle}(hΓ:SoundO P Γ){b:Nat}{o:Oper}{as:List AArg}{fr:Fr}{a:Act}{vs:List AV}{p:PV}{hp':Heap}{K:Act->World->Prop}{Q:Exit->Act->World->Prop}{ro:Option Nat}(ht:trOp P o=some (.call,as))
  (hF:FR w X μ hp fr a.tmps)(ha:fr.argsOf as=some vs)(hH:HR w X μ hp)(hs:zca Γ hp vs=some (.panic p hp'))(hA:After b w X μ hp (.panic p hp) a o.dst K Q):o.wpIn (Fe ro) 0 P a w K Q:=by
 obtain⟨c,f,a1,as',hc1,hc2,hc3,hc4,rfl⟩:=zfD ht
 have hnd:∀cc,o.op≠.defer cc:=by
  intro cc ec
  rw[hc1] at ec
  cases ec
 obtain⟨v1,us,rfl,hv1,hus⟩:=zat ha
 have g1:=zby hF hc3 hv1
 have g2:=zaM hF hc4 hus
 simp only[zca] at hs
 split at hs
 ·rename_i s0 g as0 heq
  simp only[List.cons.injEq] at heq
  obtain⟨rfl,rfl⟩:=heq
  split at hs
  ·rename_i ps hps
   have hCP:=zbz _ _ _ hps g2
   have hE:=(HR.empty hH)
   have hL:=zeL _ _ _ g2 hCP.empty.lr
   cases g1 with|pv _ _ _ _ hq=>
   have e1:a.eval f=.func (.func g) ([]:List Value).toArray ([]:List Value).toArray:=by
    generalize a.eval f=u at hq
    cases hq
    rfl
   have hrun:=zfC (P:=P) (w:=w) hc1 hc2 e1
   simp only[List.nil_append,List.append_nil] at hrun
   split at hs
   ·split at hs <;> cases hs
   ·rename_i q hp2 hg
    cases hs
    refine zdd hnd hrun (hΓ.fn _ _ _ _ _ hg w _ μ _ hE hL) (fun v' w' hR=> ?_) (fun c w' hR=> ?_) (fun w' hR=>hR)
    ·obtain⟨μ',v2,h1,_⟩:=hR
     cases h1
    ·obtain⟨μ',p,v',h1,rfl,h2,h3,h4⟩:=hR
     cases h1
     obtain⟨k1,k2⟩:=back (b:=b) hH h3
     refine hA v' w' μ ?_ k1 k2
     exact zgP (v:=.pv none p) rfl h4
   ·cases hs
  ·cases hs
 ·cases hs
/-! ### The run without the call -/
theorem ziV(c:List Nat)(i:Nat):∀(l:List AOper) (j:Nat),(zfv c i j l).length=l.length
 |[],_=>rfl
 |o::r,j=>by simp[zfv,ziV c i r (j+1)]
theorem ziW(c:List Nat)(i:Nat):∀(l:List AOper) (j k:Nat),(zfv c i j l)[k]? =(l[k]?).map fun o=>if bit (c.getD (j+k) 0) i=true then nopO else o
 |[],_,k=>by simp[zfv]
 |o::r,j,k=>by
  cases k with
  |zero=>simp[zfv]
  |succ k=>
   have:=ziW c i r (j+1) k
   simp only[zfv,List.getElem?_cons_succ,this]
   rw[show j+1+k=j+(k+1) by omega]
theorem ziX{c:List Nat}{l:List AOper}{i:Nat}(h:i<l.length):(zcb c l i).length=l.length:=by
 simp only[zcb,List.length_append,List.length_cons,ziV,List.length_take,List.length_drop]
 omega
theorem zlf{c:List Nat}{l:List AOper}{i j:Nat}(h:i<l.length)(hj:j<i):(zcb c l i)[j]? =l[j]? :=by
 unfold zcb
 rw[List.getElem?_append_left (by rw[List.length_take];omega),List.getElem?_take,if_pos hj]
theorem zpy{c:List Nat}{l:List AOper}{i:Nat}(h:i<l.length):(zcb c l i)[i]? =some nopO:=by
 unfold zcb
 rw[List.getElem?_append_right (by rw[List.length_take];omega),List.length_take,show i - min i l.length=0 by omega]
 rfl
theorem zlg{c:List Nat}{l:List AOper}{i j:Nat}(h:i<l.length)(hj:i<j):(zcb c l i)[j]? =(l[j]?).map fun o=>if bit (c.getD j 0) i=true then nopO else o:=by
 unfold zcb
 rw[List.getElem?_append_right (by rw[List.length_take];omega),List.length_take,show j - min i l.length=(j - i - 1)+1 by omega,List.getElem?_cons_succ,ziW,List.getElem?_drop]
 rw[show i+1+(j - i - 1)=j by omega]
theorem ziY{c:List Nat}{l:List AOper}{i j d:Nat}{o:AOper}(h:i<l.length)(hj:(zcb c l i)[j]? =some o)(hd:o.dst=some d):j≠i/\l[j]? =some o:=by
 rcases Nat.lt_trichotomy j i with k|k|k
 ·rw[zlf h k] at hj
  exact⟨by omega,hj⟩
 ·subst k
  rw[zpy h] at hj
  cases hj
  cases hd
 ·rw[zlg h k] at hj
  cases hl:l[j]? with
  |none=>rw[hl] at hj;cases hj
  |some o'=>
   rw[hl] at hj
   simp only[Option.map_some,Option.some.injEq] at hj
   split at hj
   ·subst hj;cases hd
   ·subst hj;exact⟨by omega,rfl⟩

theorem zd4{Γ:Oracle}{b:Nat}:∀(x y:List AOper) (fr:Fr) (hp:Heap),aops Γ b (x++y) fr hp=match aops Γ b x fr hp with
  |some (.normal,fr',hp')=>aops Γ b y fr' hp'
  |r=>r
 |[],y,fr,hp=>rfl
 |o::r,y,fr,hp=>by
  simp only[List.cons_append,zdf]
  cases aone Γ b o fr hp with
  |none=>rfl
  |some q=>
   cases q with
   |val v hp'=>exact zd4 r y _ _
   |panic p hp'=>rfl
theorem zgT{Γ:Oracle}{vs:List AV}{v:AV}{hp hp':Heap}(h:zca Γ hp vs=some (.val v hp')):zeb Γ hp vs=some (.val v hp):=by
 unfold zca at h
 split at h
 ·split at h
  ·rename_i ps he
   split at h
   ·rename_i u hq hg
    split at h
    ·rename_i v' hv
     cases h
     simp only[zeb,he,hg,hv]
    ·cases h
   ·cases h
   ·cases h
  ·cases h
 ·cases h
theorem zd5{o:AOper}(h:o.isCallp=true):o.op=.callp/\o.guard=none:=by
 unfold AOper.isCallp at h
 split at h
 ·rename_i h1 h2;exact⟨h1,h2⟩
 ·cases h
theorem zcu{Γ:Oracle}{b:Nat}{c:List Nat}{fr':Fr}{hp':Heap}:∀(l:List AOper) (i:Nat) (fr:Fr) (hp:Heap),zcN Γ b (ze8 c i l) fr hp=some (.normal,fr',hp')->aops Γ b l fr hp=some (.normal,fr',hp')
 |[],_,fr,hp,h=>h
 |o::r,i,fr,hp,h=>by
  simp only[ze8] at h
  by_cases hc:o.isCallp=true
  ·rw[if_pos hc] at h
   obtain⟨h1,h2⟩:=zd5 hc
   simp only[zcN] at h
   simp only[aops,h2,wants]
   split at h
   ·cases h
   ·rename_i vs hvs
    simp only[hvs,h1,aOp]
    split at h
    ·rename_i v hp2 hq
     rw[zgT hq]
     exact zcu r (i+1) _ _ h
    ·split at h <;> cases h
    ·cases h
  ·rw[if_neg hc] at h
   simp only[zcN] at h
   rw[zdf]
   unfold aone
   cases hw:wants fr o.guard with
   |none=>rw[hw] at h;cases h
   |some x=>
    rw[hw] at h
    cases x with
    |false=>exact zcu r (i+1) _ _ h
    |true=>
     simp only[] at h ⊢
     cases hvs:fr.argsOf o.args with
     |none=>rw[hvs] at h;cases h
     |some vs=>
      rw[hvs] at h
      simp only[] at h ⊢
      cases ho:aOp Γ b o.op vs hp with
      |none=>rw[ho] at h;cases h
      |some q=>
       rw[ho] at h
       cases q with
       |val v hpn=>exact zcu r (i+1) _ _ h
       |panic p hpn=>cases h
theorem zcV{Γ:Oracle}{b:Nat}{c:List Nat}{fr':Fr}{hp':Heap}{p:PV}:∀(l:List AOper) (i:Nat) (fr:Fr) (hp:Heap),zcN Γ b (ze8 c i l) fr hp=some (.panic p,fr',hp')->∃k o fr1 hp1 vs hp2,l[k]? =some o/\o.isCallp=true/\aops Γ b (l.take k) fr hp=some (.normal,fr1,hp1)/\fr1.argsOf o.args=some vs/\zca Γ hp1 vs=some (.panic p hp2)/\∃fr3 hp3,aops Γ b (zfv c (i+k) (i+k+1) (l.drop (k+1))) fr1 hp1=some (.normal,fr3,hp3)
 |[],_,fr,hp,h=>by cases h
 |o::r,i,fr,hp,h=>by
  have up:∀(v:AV) (hpn:Heap),aone Γ b o fr hp=some (.val v hpn)->(∃k o' fr1 hp1 vs hp2,r[k]? =some o'/\o'.isCallp=true/\aops Γ b (r.take k) (fr.dst o.dst v) hpn=some (.normal,fr1,hp1)/\fr1.argsOf o'.args=some vs/\zca Γ hp1 vs=some (.panic p hp2)/\∃fr3 hp3,aops Γ b (zfv c (i+1+k) (i+1+k+1) (r.drop (k+1))) fr1 hp1=some (.normal,fr3,hp3))->∃k o' fr1 hp1 vs hp2,(o::r)[k]? =some o'/\o'.isCallp=true/\aops Γ b ((o::r).take k) fr hp=some (.normal,fr1,hp1)/\fr1.argsOf o'.args=some vs/\zca Γ hp1 vs=some (.panic p hp2)/\∃fr3 hp3,aops Γ b (zfv c (i+k) (i+k+1) ((o::r).drop (k+1))) fr1 hp1=some (.normal,fr3,hp3):=by
   rintro v hpn ho ⟨k,o',fr1,hp1,vs,hp2,h1,h2,h3,h4,h5,h6⟩
   refine⟨k+1,o',fr1,hp1,vs,hp2,by simpa using h1,h2,?_,h4,h5,?_⟩
   ·simp only[List.take_succ_cons,zdf,ho];exact h3
   ·rw[show i+(k+1)=i+1+k by omega]
    exact h6
  simp only[ze8] at h
  by_cases hc:o.isCallp=true
  ·rw[if_pos hc] at h
   obtain⟨h1,h2⟩:=zd5 hc
   simp only[zcN] at h
   split at h
   ·cases h
   ·rename_i vs hvs
    split at h
    ·rename_i v hp2 hq
     exact up v hp (by simp only[aone,h2,wants,hvs,h1,aOp,zgT hq]) (zcV r (i+1) _ _ h)
    ·rename_i p' hp2 hq
     split at h
     ·rename_i fr3 hp3 hl
      cases h
      exact⟨0,o,fr,_,vs,hp2,rfl,hc,rfl,hvs,hq,fr3,hp3,hl⟩
     ·cases h
    ·cases h
  ·rw[if_neg hc] at h
   simp only[zcN] at h
   split at h
   ·cases h
   ·rename_i hw;exact up _ hp (by simp only[aone,hw]) (zcV r (i+1) _ _ h)
   ·rename_i hw
    split at h
    ·cases h
    ·rename_i vs hvs
     split at h
     ·rename_i v hpn ho;exact up v hpn (by simp only[aone,hw,hvs,ho]) (zcV r (i+1) _ _ h)
     ·cases h
theorem Run.take{Γ:Oracle}{b:Nat}{l:List AOper}{fr fr':Fr}{hp hp':Heap}{e:AExit}{m:Nat}{frs:Nat->Fr}{hps:Nat->Heap}{vals:Nat->AV}(R:Run Γ b l fr hp e fr' hp' m frs hps vals):∀k,k<=m->aops Γ b (l.take k) fr hp=some (.normal,frs k,hps k)
 |0,_=>by rw[List.take_zero,R.f0,R.h0];rfl
 |k+1,hk=>by
  have hlt:k<l.length:=Nat.lt_of_lt_of_le hk R.le
  have ho:l[k]? =some l[k]:=List.getElem?_eq_getElem hlt
  obtain⟨s1,s2⟩:=R.step k _ hk ho
  rw[List.take_add_one,ho,zd4,R.take k (by omega)]
  simp only[Option.toList_some,zdf,s1,s2]
  rfl
theorem ziZ{o:AOper}(h:o.quiet=true):o.cls≠2/\o.cls≠3/\o.isCallh=false:=by
 simp only[AOper.quiet,Bool.and_eq_true,Bool.or_eq_true,beq_iff_eq,Bool.not_eq_true'] at h
 exact⟨by rcases h.1 with h|h <;> omega,by rcases h.1 with h|h <;> omega,h.2⟩
section
variable{Γ:Oracle} {nt b:Nat} {w0:World} {μ0:Nat->Option Nat} {ds:List Deferred} {ops:Array Oper} {l:List AOper} {fr fr':Fr} {hp':Heap} {m:Nat} {frs:Nat->Fr} {hps:Nat->Heap} {vals:Nat->AV}
variable{Q:Exit->Act->World->Prop} {ro:Option Nat}
theorem zpz{i j:Nat}(h:bit ((zbj [] ops.toList).getD i 0) j=true):j∈(clos [] ops.toList).getD i []:=
 zhO ops.toList [] [] rfl (fun i j hb=>by simp[zhN] at hb) i j h

theorem znL(hΓ:SoundO P Γ)(hT:Tie P nt ops l)(hd:za5 ops l=true){i0:Nat}{o0:AOper}(h0:l[i0]? =some o0)(hcp:o0.isCallp=true)(hd2:za5 ops (zcb (zbj [] ops.toList) l i0)=true)(hq:(zcb (zbj [] ops.toList) l i0).all AOper.quiet=true)
  (R:Run Γ b (zcb (zbj [] ops.toList) l i0) fr hp .normal fr' hp' m frs hps vals){vs:List AV}(hvs:(frs i0).argsOf o0.args=some vs){p:PV}{hpx:Heap}(hcall:zca Γ hp vs=some (.panic p hpx))
  (hQ:∀e' a' w',Lands nt b w0 X μ0 hp ds (.panic p) [] hp e' a' w'->Q e' a' w'):∀(n:Nat) (L:Array Bool) (a:Act) (w:World),DInv nt b w0 X μ0 hp ds ops (zcb (zbj [] ops.toList) l i0) fr m hps vals L a w->L.getD i0 false=false->(List.range ops.size).countP (fun i=> !L.getD i false)<=n->wpAnyIn (Fe ro) 0 P .any ops Q n L a w:=by
 have hi0:i0<l.length:=(List.getElem?_eq_some_iff.1 h0).1
 have hi0s:i0<ops.size:=by rw[<-hT.1];exact hi0
 obtain⟨dE,dN,dU,dL,dP⟩:=zcF hd
 obtain⟨_,dN2,dU2,dL2,dP2⟩:=zcF hd2
 generalize hl2:zcb (zbj [] ops.toList) l i0=l2 at hd2 hq R dN2 dU2 dL2 dP2
 have hlen:l2.length=l.length:=by rw[<-hl2];exact ziX hi0
 have hqk:∀(k:Nat) (o:AOper),l2[k]? =some o->o.cls≠2/\o.cls≠3/\o.isCallh=false:=fun k o hk=>ziZ (List.all_eq_true.1 hq o (List.mem_of_getElem? hk))
 have hm:m=l2.length:=by
  rcases R.fin with⟨f1,_⟩|⟨_,_,_,_,f3,_⟩
  ·exact f1
  ·cases f3
 have hhp:∀k,k<=m->hps k=hp:=fun k hk=>by
  have:=R.heap (i:=0) k (by omega) (fun j o _ _ hj=>by
   obtain⟨k1,k2,_⟩:=hqk j o hj
   exact⟨k1,k2⟩)
  rw[Nat.zero_add] at this
  rw[this,R.h0]
 have hend:∀(L:Array Bool) (a:Act) (w:World),DInv nt b w0 X μ0 hp ds ops l2 fr m hps vals L a w->L.getD i0 false=false->Region.ready .any ops L≠[]:=by
  intro L a w D hL hr
  have:=zdG dE D.size hr i0 hi0s
  rw[hL] at this
  cases this
 intro n
 induction n with
 |zero=>
  intro L a w D hL hn
  exfalso
  have:0<(List.range ops.size).countP (fun i=> !L.getD i false):=by
   rw[List.countP_pos_iff]
   exact⟨i0,List.mem_range.2 hi0s,by simp only[hL];rfl⟩
  omega
 |succ n ih=>
  intro L a w D hL hn
  refine⟨fun hr=>absurd hr (hend L a w D hL),fun i hi=> ?_⟩
  obtain⟨r1,r2,r3⟩:=zcE dE D.shut hi
  have hsz:i<L.size:=by rw[D.size];exact r1
  by_cases he:i=i0
  ·subst he
   obtain⟨o,ho⟩:∃o,ops[i]? =some o:=⟨_,Array.getElem?_eq_getElem r1⟩
   obtain⟨ao0,ao,t1,t2,q1,q2,q3,q4⟩:=hT.2 i o ho
   rw[h0] at t2
   cases t2
   obtain⟨d1,d2,d3⟩:=zdE t1
   obtain⟨c1,c2⟩:=zd5 hcp
   have hb0:o0.base=o0:=zfE (by simp[AOper.cls,c1])
   have hop:ao0.op=.call:=by
    rw[hb0,c1] at q4
    rcases q4 with h|⟨sh,_,h|h⟩|⟨h,_⟩|⟨_,_,h⟩|⟨_,_,h⟩
    ·exact absurd d3 (by rw[<-h];exact ziI)
    ·cases h
    ·cases h
    ·exact h
    ·cases h
    ·cases h
   have hargs:ao0.args=o0.args:=by rw[<-q3,hb0]
   obtain⟨μ1,pb,h,D1,_⟩:=D.st
   have hX:Xp X pb=X:=zde fun k=>by
    cases hk:pb k with
    |none=>rfl
    |some bk=>
     obtain⟨_,_,⟨o',z1,z2⟩,_⟩:=D1.own k bk hk
     exact absurd z2 (hqk k o' z1).2.1
   have hH:=D1.hr
   have hslot:=D1.slot
   have hext:=D1.ext
   rw[hX] at hH hslot
   rw[hhp h D1.hm] at hH hslot hext
   have hLS:∀s u,s∈o0.uses->(frs i).look s=some u->LS l2 vals fr L h s u:=by
    intro s u hs hlook
    rcases R.look i (by omega) hlook with⟨j,oj,hj,hoj,hdj,rfl⟩|⟨hnone,hfr0⟩
    ·refine .inl ⟨j,oj,?_,hoj,hdj,rfl,fun c=>absurd c (hqk j oj hoj).2.1⟩
     rw[<-hl2] at hoj
     obtain⟨_,hoj'⟩:=ziY hi0 hoj hdj
     rcases dP i j oj o0 hj hoj' h0 with hh|hh
     ·exact r3 j hh
     ·exact absurd hs (zf5 hh hdj)
    ·refine .inr ⟨fun j oj hoj hdj=> ?_,hfr0⟩
     cases hLj:L.getD j false with
     |false=>rfl
     |true=>
      exfalso
      rcases Nat.lt_trichotomy j i with hji|hji|hji
      ·exact hnone j oj hji hoj hdj
      ·subst hji;rw[hL] at hLj;cases hLj
      ·rw[<-hl2] at hoj
       obtain⟨_,hoj'⟩:=ziY hi0 hoj hdj
       rcases dP j i o0 oj hji h0 hoj' with hh|hh
       ·have:=D.shut j hLj i hh
        rw[hL] at this;cases this
       ·exact ziR hh hdj hs
   have hF:FR w X μ1 hp ((frs i).keep o0.uses) a.tmps:=fun s u hs=>by
    obtain⟨k1,k2⟩:=zeo hs
    exact hslot s u (hLS s u k1 k2)
   have huse:∀s∈zbE o0.args,s∈o0.uses:=fun s hs=>by
    unfold AOper.uses
    rw[hb0,c2]
    exact hs
   have hvs2:((frs i).keep o0.uses).argsOf ao0.args=some vs:=by
    rw[hargs,zdh (g:=frs i) fun s hs=>zdg (huse s hs)]
    exact hvs
   have hwant:Region.wanted o (yielded ops a.tmps)=true:=zbl (w:=w) (X:=X) (μ:=μ1) (hp:=hp) (fr:=[]) (fun s u hs=>by simp[Fr.look] at hs) t1 (by rw[<-q2,c2];rfl)
   simp only[wpOpIn,ho,hwant,if_true]
   rw[hop] at d3
   refine zkj hΓ (b:=b) d3 hF hvs2 hH hcall fun v' w' μ' hv hH' E=>hQ _ _ _ ⟨D.ds,D.tsz,μ',hH',fun s u hs=>by simp[Fr.look] at hs,hext.trans E,⟨v',rfl,hv⟩⟩
  ·have hg:l2[i]? =l[i]? :=by
    rw[<-hl2]
    rcases Nat.lt_or_ge i i0 with k|k
    ·exact zlf hi0 k
    ·rw[zlg hi0 (by omega)]
     have hb:bit ((zbj [] ops.toList).getD i 0) i0=false:=by
      cases hb:bit ((zbj [] ops.toList).getD i 0) i0 with
      |false=>rfl
      |true=>
       have:=r3 i0 (zpz hb)
       rw[hL] at this;cases this
     cases l[i]? with
     |none=>rfl
     |some x=>simp only[Option.map_some,hb];rfl
   refine wpOpIn_mono (fun a' w' D'=>ih _ a' w' D' ?_ ?_) (zeS hΓ (fun o ho=>by
    obtain⟨ao0,ao,t1,t2,q⟩:=hT.2 i o ho
    exact⟨ao0,ao,t1,by rw[hg];exact t2,q⟩) dE dN2 dU2 dL2 (by rintro⟨p,h⟩;cases h) R D (by rintro⟨p,h⟩;cases h) hi (fun j x y h1 h2 h3 _=>dP2 i j x y h1 h2 h3) fun j x y h1 h2 h3 _=>dP2 j i y x h1 h3 h2)
   ·rw[zaq hsz,if_neg (by omega)]
    exact hL
   ·have:=zep (l:=List.range ops.size) (p:=fun i=> !L.getD i false) (q:=fun j=> !(L.setIfInBounds i true).getD j false) (List.mem_range.2 r1) (fun x hx=>by
     rw[zaq hsz] at hx
     split at hx
     ·cases hx
     ·exact hx) (by
     rw[Array.getD_eq_getD_getElem?] at r2 ⊢
     simp[hsz] at r2 ⊢
     exact r2) (by rw[zaq hsz];simp)
    omega
theorem zgU{ops:Array Oper}{l:List AOper}(h:zib ops l=true):za5 ops l=true/\∀i o,l[i]? =some o->o.isCallp=true->za5 ops (zcb (zbj [] ops.toList) l i)=true/\(zcb (zbj [] ops.toList) l i).all AOper.quiet=true:=by
 simp only[zib,Bool.and_eq_true,List.all_eq_true (p:=fun i=>_)] at h
 obtain⟨⟨h1,_⟩,h3⟩:=h
 refine⟨h1,fun i o ho hc=> ?_⟩
 have:=h3 i (List.mem_range.2 (List.getElem?_eq_some_iff.1 ho).1)
 rw[ho] at this
 simp only[hc,if_true,Bool.and_eq_true] at this
 exact this
theorem zeT(hmix:P.follows .mixedOrders=true)(hΓ:SoundO P Γ)(hT:Tie P nt ops l)(hd:zib ops l=true){id:Nat}{a:Act}{p:PV}(hs:zcN Γ b (ze8 (zbj [] ops.toList) 0 l) fr hp=some (.panic p,fr',hp'))(hb:b<=hp.length)(hH:HR w X μ hp)(hF:FR w X μ hp fr a.tmps)(hsz:a.tmps.size=nt)
  (hQ:∀e' a' w',Lands nt b w X μ hp a.defers (.panic p) [] hp e' a' w'->Q e' a' w'):(Code.region id ops true).wpIn (Fe ro) 0 P Q a w:=by
 obtain⟨hd1,hd2⟩:=zgU hd
 obtain⟨k,o,fr1,hp1,vs,hp2,g1,g2,g3,g4,g5,fr3,hp3,g6⟩:=zcV l 0 fr hp hs
 obtain⟨k1,k2⟩:=hd2 k o g1 g2
 have hk:k<l.length:=(List.getElem?_eq_some_iff.1 g1).1
 rw[Nat.zero_add] at g6
 have hrun:aops Γ b (zcb (zbj [] ops.toList) l k) fr hp=some (.normal,fr3,hp3):=by
  unfold zcb
  rw[zd4,g3]
  exact g6
 obtain⟨m,frs,hps,vals,R⟩:=zk5 _ fr hp hrun
 have hm:m=(zcb (zbj [] ops.toList) l k).length:=by
  rcases R.fin with⟨f1,_⟩|⟨_,_,_,_,f3,_⟩
  ·exact f1
  ·cases f3
 rw[ziX hk] at hm
 have ht:=R.take k (by omega)
 have htk:(zcb (zbj [] ops.toList) l k).take k=l.take k:=by
  unfold zcb
  rw[List.take_append_of_le_length (by rw[List.length_take];omega),List.take_take,Nat.min_self]
 rw[htk,g3] at ht
 simp only[Option.some.injEq,Prod.mk.injEq,true_and] at ht
 obtain⟨e1,e2⟩:=ht
 have hhp:hps k=hp:=by
  have:=R.heap (i:=0) k (by omega) (fun j o _ _ hj=>by
   obtain⟨k1,k2,_⟩:=ziZ (List.all_eq_true.1 k2 o (List.mem_of_getElem? hj))
   exact⟨k1,k2⟩)
  rw[Nat.zero_add] at this
  rw[this,R.h0]
 rw[e1] at g4
 rw[e2,hhp] at g5
 refine wpIn_region_any hmix (znL (w0:=w) (X:=X) (μ0:=μ) (ds:=a.defers) hΓ hT hd1 g1 g2 k1 k2 R g4 g5 hQ ops.size _ a _ ?_ ?_ (Nat.le_trans (List.countP_le_length) (by simp)))
 ·have h0:∀i,(Array.replicate ops.size false).getD i false=false:=by
   intro i
   rw[Array.getD_eq_getD_getElem?,Array.getElem?_replicate]
   split <;> rfl
  have hX:Xp X (fun _=>none)=X:=zde fun _=>rfl
  refine⟨by simp,fun i hi=> ?_,fun i hi=> ?_,rfl,hsz,μ,fun _=>none,0,⟨Nat.zero_le _,fun k o hk hc=> ?_,fun k o hk hc h=>by omega,?_,?_,?_,fun s v hs=> ?_,fun k o hk hc h hL=> ?_,fun k bk h=>(by cases h),fun k k' bk h=>(by cases h)⟩,fun i ao hi hc hL k x h1 h2=>by omega⟩
  ·rw[h0] at hi;cases hi
  ·rw[h0] at hi;cases hi
  ·rw[h0];simp
  ·rw[R.h0,hX];exact hH.drew
  ·rw[R.h0];exact hb
  ·rw[R.h0];exact Ext.drew b
  ·rcases hs with⟨j,o,hj,_⟩|⟨_,h⟩
   ·rw[h0] at hj;cases hj
   ·rw[R.h0,hX]
    obtain⟨k1,k2⟩:=hF s v h
    exact⟨k1,(Ext.drew (X:=X) (μ:=μ) (hp:=hp) (w:=w) 0).ar k2⟩
  ·rw[h0] at hL;cases hL
 ·rw[Array.getD_eq_getD_getElem?,Array.getElem?_replicate]
  split <;> rfl
end
end Go.Am

/- Code. -/
namespace Go.Am
variable{P:Program} {w:World} {X:Xc P} {μ:Nat->Option Nat} {hp:Heap}

inductive Tr(P:Program)(nt:Nat):Code->ACode->Prop
 |skip:Tr P nt .skip .skip
 |region (id:Nat) (ops:Array Oper) (l l0:List AOper) (pan:Bool) (keep:List Nat) (h:zdT P nt ops ops.toList=some l0) (hlk:Likes l l0):Tr P nt (.region id ops false) (.region pan l keep)
 |draw (id:Nat) (ops:Array Oper) (l:List AOper) (pan:Bool) (keep:List Nat) (hT:Tie P nt ops l) (hd:za5 ops l=true) (hp:pan=true->zcQ ops l=true):Tr P nt (.region id ops true) (.region pan l keep)
 |draw2 (id:Nat) (ops:Array Oper) (l:List AOper) (keep:List Nat) (hT:Tie P nt ops l) (hd:zeE ops l=true):Tr P nt (.region id ops true) (.region false l keep)
 |doom (id:Nat) (ops:Array Oper) (l:List AOper) (keep:List Nat) (hT:Tie P nt ops l) (hd:zib ops l=true):Tr P nt (.region id ops true) (.doom (ze8 (zbj [] ops.toList) 0 l) keep)
 |settle (c:Code) (ac:ACode) (ss:List Nat) (h:Tr P nt c ac):Tr P nt c (.seq (.settle ss) ac)
 |seq (x y:Code) (a b:ACode) (hx:Tr P nt x a) (hy:Tr P nt y b):Tr P nt (.seq x y) (.seq a b)
 |cond (c:Operand) (ca:AArg) (x y:Code) (a b:ACode) (hc:zbt P 0 c=some ca) (hx:Tr P nt x a) (hy:Tr P nt y b):Tr P nt (.cond c x y) (.cond ca a b)
 |block (id:Nat) (c:Code) (a:ACode) (h:Tr P nt c a):Tr P nt (.block id c) (.block id a)
 |loop (keep:List Nat) (c:Code) (a:ACode) (h:Tr P nt c a):Tr P nt (.loop c) (.loop keep a)
 |label (id:Nat):Tr P nt (.label id) .skip
 |scope (c:Code) (a:ACode) (h:Tr P nt c a):Tr P nt (.scope c) a
 |exit (id:Nat):Tr P nt (.exit id) (.exit id)
 |ret:Tr P nt .ret .ret

theorem zcf{b:Frame}{a:Act}{k:List Item}{cs:List Frame}{c:Code}:step P (lone (b.atR a (.code (.scope c)::k)) cs w)=.next (lone (b.atR a (.code c::.inScope c::k)) cs w):=
 step_lone_go (by simp[stepG,stepG.exec,Frame.atR])
theorem zhQ{b:Frame}{a:Act}{k:List Item}{cs:List Frame}{c:Code}:step P (lone (b.atR a (.inScope c::k)) cs w)=.next (lone (b.atR a k) cs w):=
 step_lone_go (by simp[stepG,stepG.exec,Frame.atR])
theorem zl5{F:Fence}{n:Nat}{Q:Exit->Act->World->Prop}{a:Act}{c:Code}(h:c.wpIn F n P (Exit.noGoto Q) a w):(Code.scope c).wpIn F n P Q a w:=by
 intro b k cs hro hb hr
 have h0:(lone (b.atR a (.code (.scope c)::k)) cs w).fenced P F:=fenced_calm hb hr rfl
 obtain⟨e,a₁,w₁,hq,harr⟩:=h b (.inScope c::k) cs hro hb hr
 have hx:∀id,exitTo id (.inScope c::k)=exitTo id k:=fun id=>by simp[exitTo]
 cases e with
 |normal=>exact⟨.normal,a₁,w₁,hq,.head h0 zcf (StepsIn.trans harr (.one (fenced_calm hb hr rfl) zhQ))⟩
 |exit id=>
  exact⟨_,a₁,w₁,hq,.of_steps (.one h0 zcf) ⟨fun k' hk=>harr.1 k' (by rw[hx];exact hk),fun hr' hk=>harr.2 hr' (by rw[hx];exact hk)⟩⟩
 |goto l=>exact hq.elim
 |ret=>exact⟨_,a₁,w₁,hq,.of_steps (.one h0 zcf) harr⟩
 |panic ch=>exact⟨_,a₁,w₁,hq,.of_steps (.one h0 zcf) harr⟩
 |outgrown=>exact⟨_,a₁,w₁,hq,.of_steps (.one h0 zcf) harr⟩

def Own(b:Nat)(_:Heap):Prop:=b=0

theorem Own.ext{b:Nat}{μ':Nat->Option Nat}{hp':Heap}{w':World}(h:Own b hp)(_:b<=hp.length)(_:Ext b X μ hp w μ' hp' w'):Own b hp':=h

theorem HR.closed(h:HR w X μ hp):∀(i:Nat) (o:AObj),hp[i]? =some o->∀q∈o.refs,q<hp.length:=by
 intro i o ho q hq
 cases o with
 |box sh v=>
  obtain⟨b,val,t,_,_,_,_,h5⟩:=h.box i sh v ho
  exact h5.refs_lt q hq
 |arr s es fz=>cases hq
 |map s es=>cases hq
 |loop f ps env bz=>
  obtain⟨l,rc,_,_,_,_,_,_,h7⟩:=h.loop i f ps env bz ho
  obtain⟨x,hx,hqx⟩:=znp hq
  exact(h7 x hx).2.refs_lt q hqx
 |arv s es=>
  obtain⟨_,b,cs,t,vals,_,_,h3,h4,_⟩:=h.arv i s es ho
  obtain⟨a,ha,hqa⟩:=(zaL _ _).1 hq
  obtain⟨k,hk⟩:=List.mem_iff_getElem?.1 ha
  have hkl:k<vals.length:=by rw[<-h3];exact(List.getElem?_eq_some_iff.1 hk).1
  exact(h4 k a vals[k] hk (List.getElem?_eq_getElem hkl)).2.refs_lt q hqa

theorem zi0{n:Nat}:∀{hp hp':Heap},zcA n hp hp'=true->(∀(i:Nat) (o:AObj),hp[i]? =some o->∀q∈o.refs,q<n)->∀(i:Nat) (o:AObj),i<hp.length->hp'[i]? =some o->∀q∈o.refs,q<n
 |[],_,_,_,i,o,hi,_,_,_=>by simp at hi
 |x::r,[],_,_,i,o,_,ho,_,_=>by simp at ho
 |x::r,y::r',h,hc,i,o,hi,ho,q,hq=>by
  simp only[zcA,Bool.and_eq_true,List.all_eq_true,Bool.or_eq_true,decide_eq_true_eq] at h
  cases i with
  |zero=>
   simp only[List.getElem?_cons_zero,Option.some.injEq] at ho
   subst ho
   rcases h.1 q hq with h1|h1
   ·exact h1
   ·exact hc 0 x rfl q (by simpa using h1)
  |succ i=>exact zi0 h.2 (fun i o ho=>hc (i+1) o (by simpa using ho)) i o (by simp at hi;omega) (by simpa using ho) q hq

def znM(P:Program)(nt:Nat)(Γ:Oracle)(Λ:zah)(c:Code)(ac:ACode):Prop:=
 ∀(b:Nat) (st:St) (e:AExit) (st':St),aexec Γ Λ b ac st=some (e,st')->∀(w:World) (X:Xc P) (μ:Nat->Option Nat) (a:Act) (Q:Exit->Act->World->Prop) (ro:Option Nat),b<=st.hp.length->Own b st.hp->HR w X μ st.hp->FR w X μ st.hp st.fr a.tmps->a.tmps.size=nt->
  (∀e' a' w',Lands nt b w X μ st.hp a.defers e st'.fr st'.hp e' a' w'->Q e' a' w')->c.wpIn (Fe ro) 0 P Q a w

def zfe(P:Program)(nt:Nat)(Λ:zah)(c:Code)(ac:ACode):Prop:=
 ∀(b:Nat) (keep:List Nat) (st:St) (e:AExit) (st':St),Λ b st.hp.length keep ac st=some (e,st')->∀(w:World) (X:Xc P) (μ:Nat->Option Nat) (a:Act) (Q:Exit->Act->World->Prop) (ro:Option Nat),b<=st.hp.length->Own b st.hp->HR w X μ st.hp->FR w X μ st.hp st.fr a.tmps->a.tmps.size=nt->
  (∀e' a' w',Lands nt b w X μ st.hp a.defers e st'.fr st'.hp e' a' w'->Q e' a' w')->(Code.loop c).wpIn (Fe ro) 0 P Q a w

theorem Lands.keep{nt b:Nat}{ds:List Deferred}{e:AExit}{fr:Fr}{hp':Heap}{e':Exit}{a:Act}{w':World}(h:Lands nt b w X μ hp ds e fr hp' e' a w')(ks:List Nat):Lands nt b w X μ hp ds e (fr.keep ks) hp' e' a w':=by
 obtain⟨h1,h2,μ',h3,h4,h5,h6⟩:=h
 exact⟨h1,h2,μ',h3,h4.keep ks,h5,h6⟩

theorem zkk{nt:Nat}{Γ:Oracle}{Λ:zah}(hmix:P.follows .mixedOrders=true)(hΓ:SoundO P Γ)(hΛ:∀c ac,Tr P nt c ac->zfe P nt Λ c ac){c:Code}{ac:ACode}(h:Tr P nt c ac):znM P nt Γ Λ c ac:=by
 induction h with
 |skip=>
  intro b st e st' hs w X μ a Q ro hb hO hH hF hsz hQ
  cases hs
  exact wpIn_skip (hQ _ _ _ ⟨rfl,hsz,μ,hH,hF,Ext.refl _ _ _ _ _,trivial⟩)
 |label id=>
  intro b st e st' hs w X μ a Q ro hb hO hH hF hsz hQ
  cases hs
  exact wpIn_label (hQ _ _ _ ⟨rfl,hsz,μ,hH,hF,Ext.refl _ _ _ _ _,trivial⟩)
 |scope c ac _ ih=>
  intro b st e st' hs w X μ a Q ro hb hO hH hF hsz hQ
  apply zl5
  refine ih b st e st' hs w X μ a _ ro hb hO hH hF hsz fun e' a' w' hL=> ?_
  have hq:=hQ e' a' w' hL
  obtain⟨_,_,μ',_,_,_,h6⟩:=hL
  cases e' with
  |goto l=>cases e <;> exact h6.elim
  |_=>exact hq
 |exit id=>
  intro b st e st' hs w X μ a Q ro hb hO hH hF hsz hQ
  cases hs
  exact wpIn_exit (hQ _ _ _ ⟨rfl,hsz,μ,hH,hF,Ext.refl _ _ _ _ _,rfl⟩)
 |ret=>
  intro b st e st' hs w X μ a Q ro hb hO hH hF hsz hQ
  cases hs
  exact wpIn_ret (hQ _ _ _ ⟨rfl,hsz,μ,hH,hF,Ext.refl _ _ _ _ _,trivial⟩)
 |region id ops l l0 pan keep ht hlk=>
  intro b st e st' hs w X μ a Q ro hb hO hH hF hsz hQ
  simp only[aexec] at hs
  split at hs
  ·rename_i fr hp2 hr
   cases hs
   exact zfc hΓ ht hlk hr hb hH hF hsz fun e' a' w' hL=>hQ e' a' w' (hL.keep keep)
  ·rename_i v fr hp2 hr
   split at hs
   ·cases hs
    exact zfc hΓ ht hlk hr hb hH hF hsz fun e' a' w' hL=>hQ e' a' w' (hL.keep keep)
   ·cases hs
  ·cases hs
 |draw id ops l pan keep hT hd hpan=>
  intro b st e st' hs w X μ a Q ro hb hO hH hF hsz hQ
  simp only[aexec] at hs
  split at hs
  ·rename_i fr hp2 hr
   cases hs
   exact zbY hmix hΓ hT hd hr (fun⟨p,hp⟩=>by cases hp) hb hH hF hsz fun e' a' w' hL=>hQ e' a' w' (hL.keep keep)
  ·rename_i v fr hp2 hr
   split at hs
   ·rename_i hp
    cases hs
    exact zbY hmix hΓ hT hd hr (fun _=>hpan hp) hb hH hF hsz fun e' a' w' hL=>hQ e' a' w' (hL.keep keep)
   ·cases hs
  ·cases hs
 |draw2 id ops l keep hT hd=>
  intro b st e st' hs w X μ a Q ro hb hO hH hF hsz hQ
  simp only[aexec] at hs
  split at hs
  ·rename_i fr hp2 hr
   cases hs
   exact zer hmix hΓ hT hd hr hb hH hF hsz fun e' a' w' hL=>hQ e' a' w' (hL.keep keep)
  ·rename_i v fr hp2 hr
   simp only[Bool.false_eq_true,if_false] at hs
   cases hs
  ·cases hs
 |doom id ops l keep hT hd=>
  intro b st e st' hs w X μ a Q ro hb hO hH hF hsz hQ
  simp only[aexec] at hs
  split at hs
  ·rename_i fr hp2 hr
   cases hs
   exact zbY hmix hΓ hT (zgU hd).1 (zcu _ _ _ _ hr) (fun⟨p,hp⟩=>by cases hp) hb hH hF hsz fun e' a' w' hL=>hQ e' a' w' (hL.keep keep)
  ·rename_i v fr hp2 hr
   cases hs
   exact zeT hmix hΓ hT hd hr hb hH hF hsz hQ
  ·cases hs
 |settle c ac ss _ ih=>
  intro b st e st' hs w X μ a Q ro hb hO hH hF hsz hQ
  simp only[aexec] at hs
  cases hset:settle ss st with
  |none=>rw[hset] at hs;cases hs
  |some st1=>
   rw[hset] at hs
   simp only[] at hs
   obtain⟨k1,k2,k3⟩:=zfd b ss st st1 hset hH hF
   refine ih b st1 e st' hs w X μ a Q ro (Nat.le_trans hb k3.len) (hO.ext hb k3) k1 k2 hsz fun e' a' w' hL=>hQ e' a' w' ?_
   obtain⟨h1,h2,μ',h3,h4,h5,h6⟩:=hL
   exact⟨h1,h2,μ',h3,h4,k3.trans h5,h6⟩
 |seq x y ax ay _ _ ihx ihy=>
  intro b st e st' hs w X μ a Q ro hb hO hH hF hsz hQ
  simp only[aexec] at hs
  apply wpIn_seq
  cases h1:aexec Γ Λ b ax st with
  |none=>rw[h1] at hs;cases hs
  |some r=>
   obtain⟨e1,st1⟩:=r
   rw[h1] at hs
   refine ihx b st e1 st1 h1 w X μ a _ ro hb hO hH hF hsz fun e' a' w' hL=> ?_
   obtain⟨g1,g2,μ',g3,g4,g5,g6⟩:=hL
   cases e1 with
   |normal=>
    simp only[] at hs
    cases e' <;> simp only[zaX] at g6
    refine ihy b st1 e st' hs w' X μ' a' Q ro (Nat.le_trans hb g5.len) (hO.ext hb g5) g3 g4 g2 fun e2 a2 w2 hL2=>hQ e2 a2 w2 ?_
    obtain⟨k1,k2,μ2,k3,k4,k5,k6⟩:=hL2
    exact⟨k1.trans g1,k2,μ2,k3,k4,g5.trans k5,k6⟩
   |exit i=>
    cases hs
    cases e' <;> simp only[zaX] at g6
    subst g6
    exact hQ _ _ _ ⟨g1,g2,μ',g3,g4,g5,rfl⟩
   |ret=>
    cases hs
    cases e' <;> simp only[zaX] at g6
    exact hQ _ _ _ ⟨g1,g2,μ',g3,g4,g5,trivial⟩
   |panic p=>
    cases hs
    cases e' <;> simp only[zaX] at g6
    exact hQ _ _ _ ⟨g1,g2,μ',g3,g4,g5,g6⟩
 |cond c ca x y ax ay hc _ _ ihx ihy=>
  intro b st e st' hs w X μ a Q ro hb hO hH hF hsz hQ
  simp only[aexec] at hs
  split at hs
  ·rename_i s0 ha
   exact wpIn_cond_true (zby hF hc ha).bool_inv (ihx b st e st' hs w X μ a Q ro hb hO hH hF hsz hQ)
  ·rename_i s0 ha
   exact wpIn_cond_false (zby hF hc ha).bool_inv (ihy b st e st' hs w X μ a Q ro hb hO hH hF hsz hQ)
  ·cases hs
 |block id c ac _ ih=>
  intro b st e st' hs w X μ a Q ro hb hO hH hF hsz hQ
  simp only[aexec] at hs
  apply wpIn_block
  cases h1:aexec Γ Λ b ac st with
  |none=>rw[h1] at hs;cases hs
  |some r=>
   obtain⟨e1,st1⟩:=r
   rw[h1] at hs
   refine ih b st e1 st1 h1 w X μ a _ ro hb hO hH hF hsz fun e' a' w' hL=> ?_
   obtain⟨g1,g2,μ',g3,g4,g5,g6⟩:=hL
   cases e1 with
   |normal=>
    cases hs
    cases e' <;> simp only[zaX] at g6
    exact hQ _ _ _ ⟨g1,g2,μ',g3,g4,g5,trivial⟩
   |exit i=>
    cases e' <;> simp only[zaX] at g6
    subst g6
    simp only[] at hs
    split at hs
    ·rename_i hid
     cases hs
     simp only[Exit.inBlock,hid,if_true]
     exact hQ _ _ _ ⟨g1,g2,μ',g3,g4,g5,trivial⟩
    ·rename_i hid
     cases hs
     simp only[Exit.inBlock,hid,if_false]
     exact hQ _ _ _ ⟨g1,g2,μ',g3,g4,g5,rfl⟩
   |ret=>
    cases hs
    cases e' <;> simp only[zaX] at g6
    exact hQ _ _ _ ⟨g1,g2,μ',g3,g4,g5,trivial⟩
   |panic p=>
    cases hs
    cases e' <;> simp only[zaX] at g6
    exact hQ _ _ _ ⟨g1,g2,μ',g3,g4,g5,g6⟩
 |loop keep c ac hc _=>
  intro b st e st' hs w X μ a Q ro hb hO hH hF hsz hQ
  exact hΛ c ac hc b keep ⟨st.fr.keep keep,st.hp⟩ e st' hs w X μ a Q ro hb hO hH (hF.keep keep) hsz hQ
end Go.Am

/- Loops. -/
namespace Go.Am
variable{P:Program} {w:World} {X:Xc P} {μ:Nat->Option Nat} {hp:Heap}

theorem zpA{fr:Fr}{s:Nat}{u:AV}(h:fr.look s=some u):(s,u)∈fr:=by
 induction fr with
 |nil=>simp[Fr.look] at h
 |cons x r ih=>
  obtain⟨k,v⟩:=x
  simp only[Fr.look] at h
  split at h
  ·rename_i e;subst e;cases h;simp
  ·simp[ih h]

theorem zhR{b n:Nat}{w0:World}{μ0:Nat->Option Nat}{hp0:Heap}{fr:Fr}{t:Array Value}(h0:hp0.length=n)(hb:b<=n)(hO:Own b hp)(hH:HR w X μ hp)(hF:FR w X μ hp fr t)(E:Ext b X μ0 hp0 w0 μ hp w):
  HR w X μ (collect n b fr hp)/\FR w X μ (collect n b fr hp) fr t/\Ext b X μ0 hp0 w0 μ (collect n b fr hp) w/\Own b (collect n b fr hp):=by
 unfold collect
 split
 ·rename_i hc
  simp only[Bool.and_eq_true,List.all_eq_true] at hc
  obtain⟨c1,c2⟩:=hc
  refine⟨hH.take fun i o hi ho q hq=> ?_,fun s u hs=> ?_,E.take (by omega),hO⟩
  ·rcases Nat.lt_or_ge i b with hib|hib
   ·have:b=0:=hO
    omega
   ·have hm:o∈(hp.take n).drop b:=by
     have:((hp.take n).drop b)[i - b]? =some o:=by
      rw[List.getElem?_drop,show b+(i - b)=i by omega]
      exact zbP ho hi
     exact List.mem_of_getElem? this
    have:=c2 _ hm
    simp only[List.all_eq_true,decide_eq_true_eq] at this
    exact this q hq
  ·obtain⟨k1,k2⟩:=hF s u hs
   refine⟨k1,k2.take fun q hq=> ?_⟩
   have:=c1 _ (zpA hs)
   simp only[decide_eq_true_eq] at this
   exact this q hq
 ·exact⟨hH,hF,E,hO⟩

def Going(nt:Nat)(Γ:Oracle)(b n:Nat)(keep:List Nat)(ac:ACode)(X:Xc P)(w0:World)(μ0:Nat->Option Nat)(hp0:Heap)(ds:List Deferred)(e:AExit)(st':St)(k:Nat)(a:Act)(w:World):Prop:=
 ∃st μ,aloop Γ k b n keep ac st=some (e,st')/\Own b st.hp/\HR w X μ st.hp/\FR w X μ st.hp st.fr a.tmps/\a.tmps.size=nt/\a.defers=ds/\Ext b X μ0 hp0 w0 μ st.hp w

theorem zff(p:Nat->Prop)(h:∃j,p j):∃j,p j/\∀i,p i->j<=i:=by
 obtain⟨n,hn⟩:=h
 induction n using Nat.strongRecOn with
 |_ n ih=>
  by_cases hx:∃m,m<n/\p m
  ·obtain⟨m,h1,h2⟩:=hx
   exact ih m h1 h2
  ·exact⟨n,hn,fun i hi=>Nat.le_of_not_lt fun hlt=>hx ⟨i,hlt,hi⟩⟩

open Classical in
theorem zq9{nt:Nat}{Γ:Oracle}(hmix:P.follows .mixedOrders=true)(hΓ:SoundO P Γ):∀(k:Nat) (c:Code) (ac:ACode),Tr P nt c ac->zfe P nt (aloop Γ k) c ac:=by
 intro k
 induction k using Nat.strongRecOn with
 |_ k ih=>
  intro c ac hT b keep st e st' hs w0 X μ0 a0 Q ro hb hO hH hF hsz hQ
  let G:=Going nt Γ b st.hp.length keep ac X w0 μ0 st.hp a0.defers e st'
  let least:Act->World->Nat:=fun a w=>if h:∃j,G j a w then(zff (fun j=>G j a w) h).choose else 0
  have hleast:∀a w j,G j a w->G (least a w) a w/\least a w<=j:=by
   intro a w j hj
   have hx:∃j,G j a w:=⟨j,hj⟩
   simp only[least,dif_pos hx]
   have hsp:=(zff (fun j=>G j a w) hx).choose_spec
   exact⟨hsp.1,hsp.2 j hj⟩
  refine wpIn_loop (fun a w=>∃j,j<=k/\G j a w) least ⟨k,Nat.le_refl _,st,μ0,hs,hO,hH,hF,hsz,rfl,Ext.refl _ _ _ _ _⟩ ?_
  intro a w ⟨j0,hj0,hG0⟩
  obtain⟨hG,hle⟩:=hleast a w j0 hG0
  generalize least a w=j at hG hle
  obtain⟨st1,μ1,hl,g1,g2,g3,g4,g5,g6⟩:=hG
  cases j with
  |zero=>simp only[aloop] at hl;cases hl
  |succ j=>
   have hbl:b<=st1.hp.length:=Nat.le_trans hb g6.len
   have hcode:znM P nt Γ (aloop Γ j) c ac:=zkk hmix hΓ (fun c ac h=>ih j (by omega) c ac h) hT
   simp only[aloop] at hl
   cases h1:aexec Γ (aloop Γ j) b ac st1 with
   |none=>rw[h1] at hl;cases hl
   |some r=>
    obtain⟨e1,st2⟩:=r
    rw[h1] at hl
    refine hcode b st1 e1 st2 h1 w X μ1 a _ ro hbl g1 g2 g3 g4 fun e' a' w' hL=> ?_
    obtain⟨k1,k2,μ2,k3,k4,k5,k6⟩:=hL
    have done:∀{e'},zaX w' X μ2 st2.hp e1 e'->e1≠.normal->e=e1/\st'=st2->Q e' a' w':=by
     rintro e' hx _ ⟨rfl,rfl⟩
     exact hQ _ _ _ ⟨k1.trans g5,k2,μ2,k3,k4,g6.trans k5,hx⟩
    cases e1 with
    |normal=>
     cases e' <;> simp only[zaX] at k6
     simp only[] at hl
     obtain⟨c1,c2,c3,c4⟩:=zhR (n:=st.hp.length) rfl hb (g1.ext hbl k5) k3 (k4.keep keep) (g6.trans k5)
     have hG':G j a' w':=⟨⟨st2.fr.keep keep,collect st.hp.length b (st2.fr.keep keep) st2.hp⟩,μ2,hl,c4,c1,c2,k2,k1.trans g5,c3⟩
     exact⟨⟨j,by omega,hG'⟩,Nat.lt_of_le_of_lt (hleast a' w' j hG').2 (Nat.lt_succ_self j)⟩
    |exit i=>
     cases hl
     cases e' <;> simp only[zaX] at k6
     exact done (e':=.exit _) k6 (by simp) ⟨rfl,rfl⟩
    |ret=>
     cases hl
     cases e' <;> simp only[zaX] at k6
     exact done (e':=.ret) trivial (by simp) ⟨rfl,rfl⟩
    |panic p=>
     cases hl
     cases e' <;> simp only[zaX] at k6
     exact done (e':=.panic _) k6 (by simp) ⟨rfl,rfl⟩
end Go.Am

/- Functions and what their calls come to. -/
namespace Go.Am
variable{P:Program} {w:World} {X:Xc P} {μ:Nat->Option Nat} {hp:Heap}

theorem zf7{nt:Nat}{ops:Array Oper}:∀{r:List Oper} {l:List AOper},zdT P nt ops r=some l->l.length=r.length/\∀(i:Nat) (o:Oper),r[i]? =some o->∃ao,zee P nt ops o=some ao/\l[i]? =some ao
 |[],l,h=>by cases h;exact⟨rfl,fun i o h=>by simp at h⟩
 |o::r,l,h=>by
  simp only[zdT] at h
  split at h
  ·cases h
  ·rename_i a ha
   split at h
   ·rename_i l' hl
    cases h
    obtain⟨h1,h2⟩:=zf7 hl
    refine⟨by simp[h1],fun i o' ho=> ?_⟩
    cases i with
    |zero=>simp at ho;subst ho;exact⟨a,ha,rfl⟩
    |succ i=>simpa using h2 i o' (by simpa using ho)
   ·cases h

theorem zaS{nt:Nat}{ops:Array Oper}{o:Oper}{ao:AOper}(h:zee P nt ops o=some ao):ao.op.exact=true:=by
 obtain⟨_,_,d3⟩:=zdE h
 cases he:ao.op.exact with
 |true=>rfl
 |false=>
  unfold AOp.exact at he
  split at he
  ·rename_i e;rw[e] at d3;exact absurd d3 zlZ
  ·rename_i e;rw[e] at d3;exact absurd d3 zl0
  ·rename_i e;rw[e] at d3;exact absurd d3 znF
  ·rename_i e;rw[e] at d3;exact absurd d3 ziJ
  ·rename_i e;rw[e] at d3;exact absurd d3 zke
  ·rename_i e;rw[e] at d3;exact absurd d3 zkf
  ·rename_i e;rw[e] at d3;exact absurd d3 zl1
  ·cases he
theorem zi1{sure:Bool}{c:List Nat}{l0:List AOper}:∀(r:List AOper) (n:Nat),(zlz sure c l0 n r).length=r.length/\∀(i:Nat) (o:AOper),r[i]? =some o->∃b qs,(zlz sure c l0 n r)[i]? =some (mOne sure b qs o)
 |[],n=>⟨rfl,fun i o h=>by simp at h⟩
 |x::r,n=>by
  obtain⟨h1,h2⟩:=zi1 (sure:=sure) (c:=c) (l0:=l0) r (n+1)
  refine⟨by simp[zlz,h1],fun i o ho=> ?_⟩
  cases i with
  |zero=>simp at ho;subst ho;exact⟨_,_,rfl⟩
  |succ i=>simpa[zlz] using h2 i o (by simpa using ho)
theorem zi2{sure b:Bool}{qs:List AArg}{o:AOper}(h:o.op.exact=true):(mOne sure b qs o).dst=o.dst/\(mOne sure b qs o).guard=o.guard/\(mOne sure b qs o).base.args=o.args/\(mOne sure b qs o).base.op.alike o.op:=by
 have same:(o.dst=o.dst/\o.guard=o.guard/\o.base.args=o.args/\o.base.op.alike o.op):=by
  rw[zcx h]
  exact⟨rfl,rfl,rfl,.inl rfl⟩
 unfold mOne
 split
 ·rename_i hop
  split
  ·split
   ·exact same
   ·refine⟨rfl,rfl,?_,?_⟩
    ·show(qs++o.args).drop qs.length=o.args
     rw[List.drop_left]
    ·rw[hop];exact .inl rfl
  ·split
   ·refine⟨rfl,rfl,rfl,?_⟩
    rw[hop]
    exact .inr (.inr (.inl ⟨rfl,.inr rfl⟩))
   ·exact same
 ·rename_i sh hop
  split
  ·refine⟨rfl,rfl,?_,?_⟩
   ·show(qs++o.args).drop qs.length=o.args
    rw[List.drop_left]
   ·rw[hop];exact .inl rfl
  ·split
   ·refine⟨rfl,rfl,rfl,?_⟩
    rw[hop]
    exact .inr (.inl ⟨sh,rfl,.inl rfl⟩)
   ·exact same
 ·rename_i sh p v hop ha
  split
  ·exact same
  ·refine⟨rfl,rfl,?_,?_⟩
   ·rw[ha];rfl
   ·rw[hop];exact .inl rfl
 ·exact same
theorem znN{sure b:Bool}{qs:List AArg}{o:AOper}(h:o.op.exact=true):(mTwo sure b qs o).dst=o.dst/\(mTwo sure b qs o).guard=o.guard/\(mTwo sure b qs o).base.args=o.args/\(mTwo sure b qs o).base.op.alike o.op:=by
 have same:(o.dst=o.dst/\o.guard=o.guard/\o.base.args=o.args/\o.base.op.alike o.op):=by
  rw[zcx h]
  exact⟨rfl,rfl,rfl,.inl rfl⟩
 unfold mTwo
 split
 ·rename_i sh hop
  split
  ·exact same
  ·refine⟨rfl,rfl,?_,?_⟩
   ·show(qs++o.args).drop qs.length=o.args
    rw[List.drop_left]
   ·rw[hop];exact .inl rfl
 ·rename_i sh hop
  split
  ·split
   ·refine⟨rfl,rfl,rfl,?_⟩
    rw[hop]
    exact .inr (.inr (.inr (.inr ⟨sh,rfl,rfl⟩)))
   ·exact same
  ·refine⟨rfl,rfl,?_,?_⟩
   ·show(qs++o.args).drop qs.length=o.args
    rw[List.drop_left]
   ·rw[hop];exact .inl rfl
 ·exact zi2 h
theorem zi3{sure:Bool}{c:List Nat}{l0:List AOper}:∀(r:List AOper) (n:Nat),(zlA sure c l0 n r).length=r.length/\∀(i:Nat) (o:AOper),r[i]? =some o->∃b qs,(zlA sure c l0 n r)[i]? =some (mTwo sure b qs o)
 |[],n=>⟨rfl,fun i o h=>by simp at h⟩
 |x::r,n=>by
  obtain⟨h1,h2⟩:=zi3 (sure:=sure) (c:=c) (l0:=l0) r (n+1)
  refine⟨by simp[zlA,h1],fun i o ho=> ?_⟩
  cases i with
  |zero=>simp at ho;subst ho;exact⟨_,_,rfl⟩
  |succ i=>simpa[zlA] using h2 i o (by simpa using ho)
theorem zfF{l:List AOper}{o:AOper}(h:o.op.exact=true):(o.toP P l).dst=o.dst/\(o.toP P l).guard=o.guard/\(o.toP P l).base.args=o.args/\(o.toP P l).base.op.alike o.op:=by
 have same:(o.dst=o.dst/\o.guard=o.guard/\o.base.args=o.args/\o.base.op.alike o.op):=by
  rw[zcx h]
  exact⟨rfl,rfl,rfl,.inl rfl⟩
 unfold AOper.toP
 split
 ·rename_i hop
  split
  ·exact same
  ·refine⟨rfl,rfl,rfl,?_⟩
   rw[hop]
   exact .inr (.inr (.inl ⟨rfl,.inl rfl⟩))
 ·rename_i sh hop
  refine⟨rfl,rfl,rfl,?_⟩
  rw[hop]
  exact .inr (.inl ⟨sh,rfl,.inl rfl⟩)
 ·rename_i sh hop
  split
  ·refine⟨rfl,rfl,rfl,?_⟩
   rw[hop]
   exact .inr (.inr (.inr (.inl ⟨sh,rfl,rfl⟩)))
  ·exact same
 ·exact same

theorem zgV{nt:Nat}{ops:Array Oper}{l:List AOper}(h:Tie P nt ops l):Tie P nt ops (zgE l):=by
 unfold zgE
 split
 ·rename_i s v e1 e2
  split
  ·rename_i q x sh p y f1 f2 f3
   refine⟨by simp[h.1],fun i o ho=> ?_⟩
   obtain⟨ao0,ao,t1,t2,q1,q2,q3,q4⟩:=h.2 i o ho
   by_cases hi:l.length - 1=i
   ·subst hi
    rw[e2] at t2
    cases t2
    have hb:v.base=v:=zcx (by rw[f2];rfl)
    refine⟨ao0,_,t1,List.getElem?_set_self (List.getElem?_eq_some_iff.1 e2).1,q1,q2,?_,?_⟩
    ·rw[hb,f3] at q3;exact q3
    ·rw[hb,f2] at q4;exact q4
   ·exact⟨ao0,ao,t1,by rw[List.getElem?_set_ne hi];exact t2,q1,q2,q3,q4⟩
  ·exact h
 ·exact h
theorem zi4{c:List Nat}{l0:List AOper}:∀(r:List AOper) (n:Nat),(zlC c l0 n r).length=r.length/\∀(i:Nat) (o:AOper),r[i]? =some o->∃b,(zlC c l0 n r)[i]? =some (gOne b o)
 |[],n=>⟨rfl,fun i o h=>by simp at h⟩
 |x::r,n=>by
  obtain⟨h1,h2⟩:=zi4 (c:=c) (l0:=l0) r (n+1)
  refine⟨by simp[zlC,h1],fun i o ho=> ?_⟩
  cases i with
  |zero=>simp at ho;subst ho;exact⟨_,rfl⟩
  |succ i=>simpa[zlC] using h2 i o (by simpa using ho)
theorem znO{b:Bool}{o:AOper}(h:o.op.exact=true):(gOne b o).dst=o.dst/\(gOne b o).guard=o.guard/\(gOne b o).base.args=o.args/\(gOne b o).base.op.alike o.op:=by
 have same:(o.dst=o.dst/\o.guard=o.guard/\o.base.args=o.args/\o.base.op.alike o.op):=by
  rw[zcx h]
  exact⟨rfl,rfl,rfl,.inl rfl⟩
 unfold gOne
 split
 ·rename_i hop
  split
  ·refine⟨rfl,rfl,rfl,?_⟩
   rw[hop]
   exact .inl rfl
  ·exact same
 ·exact same
theorem zi5{hm:Bool}{nt id:Nat}{ops:Array Oper}{draw:Bool}{ac:ACode}(h:zfP P hm nt ops draw=some ac):Tr P nt (.region id ops draw) ac:=by
 unfold zfP at h
 split at h
 ·cases h
 ·rename_i l hl
  obtain⟨h1,h2⟩:=zf7 hl
  have tieM:∀sure,Tie P nt ops (toM sure ops l):=by
   intro sure
   obtain⟨g1,g2⟩:=zi1 (sure:=sure) (c:=zbj [] ops.toList) (l0:=l) l 0
   refine⟨by unfold toM;rw[g1];simpa using h1,fun i o ho=> ?_⟩
   obtain⟨ao,a1,a2⟩:=h2 i o (by simpa using ho)
   obtain⟨b,qs,g3⟩:=g2 i ao a2
   obtain⟨k1,k2,k3,k4⟩:=zi2 (sure:=sure) (b:=b) (qs:=qs) (zaS a1)
   exact⟨ao,_,a1,g3,k1,k2,k3,k4⟩
  have tieG:Tie P nt ops (toG ops l):=by
   obtain⟨g1,g2⟩:=zi4 (c:=zbj [] ops.toList) (l0:=l) l 0
   refine⟨by unfold toG;rw[g1];simpa using h1,fun i o ho=> ?_⟩
   obtain⟨ao,a1,a2⟩:=h2 i o (by simpa using ho)
   obtain⟨b,g3⟩:=g2 i ao a2
   obtain⟨k1,k2,k3,k4⟩:=znO (b:=b) (zaS a1)
   exact⟨ao,_,a1,g3,k1,k2,k3,k4⟩
  by_cases hd:draw=false
  ·rw[if_pos hd] at h
   cases h
   subst hd
   refine .region id ops _ l true [] hl ?_
   split
   ·exact Likes.map (znm l) l
   ·exact Likes.refl l
  ·rw[if_neg hd] at h
   have hd':draw=true:=by
    cases draw with
    |true=>rfl
    |false=>exact absurd rfl hd
   subst hd'
   by_cases hkp:l.any (zhk P)=true
   ·rw[if_pos hkp] at h
    unfold zqF at h
    have tieP:Tie P nt ops (l.map (AOper.toP P l)):=by
     refine⟨by simpa using h1,fun i o ho=> ?_⟩
     obtain⟨ao,a1,a2⟩:=h2 i o (by simpa using ho)
     obtain⟨k1,k2,k3,k4⟩:=zfF (zaS a1)
     exact⟨ao,ao.toP P l,a1,by simp[a2],k1,k2,k3,k4⟩
    split at h
    ·rename_i hok
     cases h
     exact .settle _ _ _ (.draw id ops _ _ [] tieP hok (fun h=>h))
    ·split at h
     ·rename_i hok
      cases h
      exact .draw id ops _ _ [] (tieM true) hok (fun h=>h)
     ·cases h
   rw[if_neg hkp] at h
   split at h
   ·rename_i hok
    cases h
    exact .draw id ops _ _ [] tieG hok.2.2.2.1 (fun h=>h)
   split at h
   ·rename_i hok
    cases h
    refine .draw id ops l _ [] ⟨by simpa using h1,fun i o ho=> ?_⟩ hok (fun h=>h)
    obtain⟨ao,a1,a2⟩:=h2 i o (by simpa using ho)
    refine⟨ao,ao,a1,a2,rfl,rfl,?_,?_⟩
    ·rw[zcx (zaS a1)]
    ·rw[zcx (zaS a1)];exact .inl rfl
   ·split at h
    ·rename_i hok
     cases h
     exact .draw id ops _ _ [] (tieM true) hok.2 (fun h=>h)
    ·split at h
     ·rename_i hok
      cases h
      exact .draw id ops _ _ [] tieG hok.2 (fun h=>h)
     split at h
     ·rename_i hok
      cases h
      exact .draw id ops _ _ [] (tieM false) hok.2 (fun h=>h)
     split at h
     ·rename_i hok
      cases h
      refine .settle _ _ _ (.doom id ops _ [] ⟨by simpa using h1,fun i o ho=> ?_⟩ hok.2.2)
      obtain⟨ao,a1,a2⟩:=h2 i o (by simpa using ho)
      obtain⟨k1,k2,k3,k4⟩:=zfF (zaS a1)
      exact⟨ao,ao.toP P l,a1,by simp[a2],k1,k2,k3,k4⟩
     split at h
     ·rename_i hok
      cases h
      refine .settle _ _ _ (.draw id ops _ _ [] ⟨by simpa using h1,fun i o ho=> ?_⟩ hok (fun h=>h))
      obtain⟨ao,a1,a2⟩:=h2 i o (by simpa using ho)
      obtain⟨k1,k2,k3,k4⟩:=zfF (zaS a1)
      exact⟨ao,ao.toP P l,a1,by simp[a2],k1,k2,k3,k4⟩
     ·split at h
      ·rename_i hok
       cases h
       exact .draw id ops _ _ [] (tieM false) hok (fun h=>h)
      ·split at h
       ·rename_i hok
        cases h
        exact .draw2 id ops _ [] (zgV (tieM true)) hok.2
       ·split at h
        ·rename_i hok
         cases h
         refine .settle _ _ _ (.draw2 id ops _ [] (zgV ⟨by simpa using h1,fun i o ho=> ?_⟩) hok)
         obtain⟨ao,a1,a2⟩:=h2 i o (by simpa using ho)
         obtain⟨k1,k2,k3,k4⟩:=zfF (zaS a1)
         exact⟨ao,ao.toP P l,a1,by simp[a2],k1,k2,k3,k4⟩
        ·cases h

theorem zi6{hm:Bool}{nt id:Nat}{ops:Array Oper}{draw:Bool}{ac:ACode}(h:zfQ P hm nt ops draw=some ac):Tr P nt (.region id ops draw) ac:=by
 unfold zfQ at h
 split at h
 ·rename_i ac0 h0
  cases h
  exact zi5 (id:=id) h0
 ·by_cases hd:draw=false
  ·rw[if_pos hd] at h
   cases h
  rw[if_neg hd] at h
  have hd':draw=true:=by
   cases draw with
   |true=>rfl
   |false=>exact absurd rfl hd
  subst hd'
  split at h
  ·cases h
  ·rename_i l hl
   obtain⟨h1,h2⟩:=zf7 hl
   have tieN:∀sure,Tie P nt ops (toN sure ops l):=by
    intro sure
    obtain⟨g1,g2⟩:=zi3 (sure:=sure) (c:=zbj [] ops.toList) (l0:=l) l 0
    refine⟨by unfold toN;rw[g1];simpa using h1,fun i o ho=> ?_⟩
    obtain⟨ao,a1,a2⟩:=h2 i o (by simpa using ho)
    obtain⟨b,qs,g3⟩:=g2 i ao a2
    obtain⟨k1,k2,k3,k4⟩:=znN (sure:=sure) (b:=b) (qs:=qs) (zaS a1)
    exact⟨ao,_,a1,g3,k1,k2,k3,k4⟩
   split at h
   ·rename_i hok
    cases h
    exact .draw id ops _ _ [] (tieN true) hok (fun h=>h)
   ·split at h
    ·rename_i hok
     cases h
     exact .draw id ops _ _ [] (tieN false) hok (fun h=>h)
    ·cases h
theorem zkl{hm:Bool}{nt id:Nat}{ops:Array Oper}{draw:Bool}{ac:ACode}(h:zhm P hm nt ops draw=some ac):Tr P nt (.region id ops draw) ac:=by
 unfold zhm at h
 split at h
 ·rename_i ac0 h0
  have k:=zi6 (id:=id) h0
  split at h
  ·split at h
   ·cases h
    exact .settle _ _ _ k
   ·cases h
    exact k
  ·cases h
   exact k
 ·cases h
theorem zi7{hm:Bool}{nt:Nat}:∀(c:Code) (ac:ACode),zb3 P hm nt c=some ac->Tr P nt c ac:=by
 intro c
 induction c with
 |region id ops draw=>intro ac h;exact zkl h
 |skip=>intro ac h;cases h;exact .skip
 |label id=>intro ac h;cases h;exact .label id
 |scope c ih=>intro ac h;exact .scope _ _ (ih _ h)
 |exit id=>intro ac h;cases h;exact .exit id
 |ret=>intro ac h;cases h;exact .ret
 |seq x y ihx ihy=>
  intro ac h
  simp only[zb3] at h
  split at h
  ·cases h;exact .seq _ _ _ _ (ihx _ ‹_›) (ihy _ ‹_›)
  ·cases h
 |cond c x y ihx ihy=>
  intro ac h
  simp only[zb3] at h
  split at h
  ·cases h;exact .cond _ _ _ _ _ _ ‹_› (ihx _ ‹_›) (ihy _ ‹_›)
  ·cases h
 |block id c ih=>
  intro ac h
  simp only[zb3] at h
  split at h
  ·cases h;exact .block _ _ _ (ih _ ‹_›)
  ·cases h
 |loop c ih=>
  intro ac h
  simp only[zb3] at h
  split at h
  ·cases h;exact .loop _ _ _ (ih _ ‹_›)
  ·cases h
 |_=>intro ac h;cases h

theorem zhS{nt:Nat}{c:Code}{ac:ACode}(h:Tr P nt c ac):∀out env ret,Tr P nt c (annot ac out env ret):=by
 induction h with
 |skip=>intros;exact .skip
 |region id ops l l0 pan keep h hlk=>intros;exact .region id ops l l0 pan _ h hlk
 |draw id ops l pan keep hT hd hp=>intros;exact .draw id ops l pan _ hT hd hp
 |draw2 id ops l keep hT hd=>intros;exact .draw2 id ops l _ hT hd
 |doom id ops l keep hT hd=>intros;exact .doom id ops l _ hT hd
 |settle c ac ss _ ih=>intros;exact .settle _ _ _ (ih _ _ _)
 |seq x y a b _ _ ihx ihy=>intros;exact .seq _ _ _ _ (ihx _ _ _) (ihy _ _ _)
 |cond c ca x y a b hc _ _ ihx ihy=>intros;exact .cond _ _ _ _ _ _ hc (ihx _ _ _) (ihy _ _ _)
 |block id c a _ ih=>intros;exact .block _ _ _ (ih _ _ _)
 |loop keep c a _ ih=>intros;exact .loop _ _ _ (ih _ _ _)
 |label id=>intros;exact .label id
 |scope c a _ ih=>intros;exact .scope _ _ (ih _ _ _)
 |exit id=>intros;exact .exit id
 |ret=>intros;exact .ret

theorem zpB{sh:Sh}{a v:AV}{x:Value}(h:aload sh hp a=some v)(ha:AR w X μ hp a x):∃ad,x=.pointer (some ad):=by
 unfold aload at h
 split at h
 ·cases ha;exact⟨_,rfl⟩
 ·cases ha;exact⟨_,rfl⟩
 ·cases ha;exact⟨_,rfl⟩
 ·cases ha;exact⟨_,rfl⟩
 ·cases h

def zlh(t:Array Value):ResultVar->Sem Value
 | .tmp s=>pure (t.getD s undef)
 | .cell a ty=>do loadVar ty (<-asAddr (t.getD a undef))
theorem zl6(fn:Func)(t:Array Value):results fn t=(do let vs <-fn.results.mapM (zlh t);pure (if h:vs.size=1 then vs[0] else .tuple vs)):=by
 unfold results
 congr 1
theorem zes{st:St}:∀{r:List RSlot} {l:List AV},zaQ st r=some l->l.length=r.length
 |[],l,h=>by cases h;rfl
 |s::r,l,h=>by
  simp only[zaQ] at h
  split at h
  ·cases h
  ·split at h
   ·cases h;simp[zes ‹_›]
   ·cases h

theorem zf8{st:St}{t:Array Value}(hH:HR w X μ st.hp)(hF:FR w X μ st.hp st.fr t):∀(rs:List ResultVar) (l:List AV),zjN P rs=true->zaQ st (zaw P rs)=some l->
  ∃vs,(rs.mapM (zlh t)).run P w=.ok vs w/\LR w X μ st.hp l vs
 |[],l,_,h=>by cases h;exact⟨[],rfl,.nil⟩
 | .tmp s::r,l,hok,h=>by
  simp only[zaw,zaQ] at h
  split at h
  ·cases h
  ·rename_i v hv
   split at h
   ·rename_i l' hl
    cases h
    obtain⟨vs,k1,k2⟩:=zf8 hH hF r l' hok hl
    refine⟨t.getD s undef::vs,?_,.cons (hF s v hv).2 k2⟩
    simp only[List.mapM_cons,zlh,Sem.run_bind,Sem.run_pure,Result.andThen_ok,k1]
   ·cases h
 | .cell s ty::r,l,hok,h=>by
  simp only[zjN,Bool.and_eq_true] at hok
  simp only[zaw,zaQ] at h
  split at h
  ·cases h
  ·rename_i v hv
   split at h
   ·rename_i l' hl
    cases h
    obtain⟨vs,k1,k2⟩:=zf8 hH hF r l' hok.2 hl
    simp only[zec] at hv
    split at hv
    ·rename_i p hp
     have ha:=(hF s p hp).2
     obtain⟨ad,had⟩:=zpB hv ha
     obtain⟨u,u1,u2⟩:=zgJ (P:=P) hH hok.1 (.cons ha .nil) (show zgq (shOf P ty) st.hp [p]=some v from hv)
     rw[had] at u1
     have u3:(loadVar ty ad).run P w=.ok u w:=by
      simp only[Instr.loadAt,Instr.sureAddr,Sem.run_bind,Sem.run_pure,Result.andThen_ok] at u1
      cases hr:(loadVar ty ad).run P w with
      |ok q w'=>rw[hr] at u1;simp only[Result.andThen_ok,Result.ok.injEq,Next.value.injEq] at u1;rw[u1.1,u1.2]
      |halt q w'=>rw[hr] at u1;simp[Result.andThen] at u1
     refine⟨u::vs,?_,.cons u2 k2⟩
     simp only[List.mapM_cons,zlh,had,Sem.run_bind,asAddr,Sem.run_pure,Result.andThen_ok,u3,k1]
    ·cases hv
   ·cases h

theorem zet{fn:Func}{st:St}{t:Array Value}{v:AV}(hH:HR w X μ st.hp)(hF:FR w X μ st.hp st.fr t)(hok:zjN P fn.results.toList=true)(h:zay st (zaw P fn.results.toList)=some v):
  ∃u,(results fn t).run P w=.ok u w/\AR w X μ st.hp v u:=by
 have gen:∀l,zaQ st (zaw P fn.results.toList)=some l->∃vs:List Value,(results fn t).run P w=.ok (if h:vs.toArray.size=1 then vs.toArray[0] else .tuple vs.toArray) w/\LR w X μ st.hp l vs:=by
  intro l hl
  obtain⟨vs,k1,k2⟩:=zf8 hH hF _ l hok hl
  refine⟨vs,?_,k2⟩
  rw[zl6,Array.mapM_eq_mapM_toList]
  simp only[Sem.run_bind,Sem.run_map,k1,Result.andThen_ok,Sem.run_pure]
 unfold zay at h
 split at h
 ·rename_i s hs
  obtain⟨vs,k1,k2⟩:=gen [v] (by simp[hs,zaQ,h])
  cases k2 with|cons k2 k3=>
  cases k3
  exact⟨_,k1,by simpa using k2⟩
 ·rename_i hne
  split at h
  ·rename_i l hl
   cases h
   obtain⟨vs,k1,k2⟩:=gen l hl
   have hsz:¬vs.toArray.size=1:=by
    intro h1
    have h2:=zes hl
    have h3:=k2.length
    have h4:(zaw P fn.results.toList).length=1:=by simp at h1;omega
    match hx:zaw P fn.results.toList,h4 with
    |[s],_=>exact hne s hx
   rw[dif_neg hsz] at k1
   exact⟨_,k1,.tuple _ vs k2.length fun i a u ha hu=>k2.get i a u ha hu⟩
  ·cases h
end Go.Am

/- Blocks that are no part of the heap's relation; the record of a loop over a function. -/
namespace Go.Am
variable{P:Program} {w:World} {X:Xc P} {μ:Nat->Option Nat} {hp:Heap}

structure Touch(l:Nat)(w w':World):Prop where
 not:∀cs t fr,w.heap[l]?≠some (.cells cs t fr)
 old:∀b,b≠l->w'.heap[b]? =w.heap[b]?
 size:w'.heap.size=w.heap.size
 os:w'.os=w.os
 tape:w'.tape=w.tape
 output:w'.output=w.output
theorem Touch.put{l:Nat}{o:Obj}(h:∀cs t fr,w.heap[l]?≠some (.cells cs t fr)):Touch l w (w.putObj l o):=
 ⟨h,fun b hb=>World.putObj_heap_other hb,World.putObj_size,rfl,rfl,rfl⟩
section
variable{l:Nat} {w':World} (T:Touch l w w')
include T
theorem Touch.cells{b:Nat}{cs:Array Value}{t:TypeId}{fr:Nat × Nat}(h:w.heap[b]? =some (.cells cs t fr)):w'.heap[b]? =some (.cells cs t fr):=by
 rw[T.old b (by rintro rfl;exact T.not _ _ _ h)]
 exact h
theorem Touch.pr{I:Nat->Prop}{p:PV}{v:Value}(h:PR w I p v):PR w' I p v:=h.mono fun b cs t fr hI hb=>⟨hI,T.cells hb⟩
theorem Touch.ar{a:AV}{v:Value}(h:AR w X μ hp a v):AR w' X μ hp a v:=by
 induction h with
 |undef v h=>exact .undef v h
 |pv sh p v hs h=>exact .pv sh p v hs (T.pr h)
 |agg l vs hl hs _ ih=>exact .agg l vs hl hs ih
 |tsl sh es a h=>exact .tsl sh es a (T.pr h)
 |sl sh r ver off len a cap es fz ho hv hlc ha hc=>
  refine .sl sh r ver off len a cap es fz ho hv hlc ha fun e=> ?_
  obtain⟨c1,c2⟩:=hc e
  refine⟨c1,?_⟩
  rcases c2 with c2|⟨b,cs,t,c2,c3,c4,c5⟩
  ·exact .inl c2
  ·exact .inr ⟨b,cs,t,c2,T.cells c3,c4,c5⟩
 |ptr r off b sh v ho hb=>exact .ptr r off b sh v ho hb
 |eptr sh r ver i off a es fz ho hv hc=>exact .eptr sh r ver i off a es fz ho hv hc
 |iptr sh p off b o cs t fr v hI hb hp hs hc=>exact .iptr sh p off b o cs t fr v hI (T.cells hb) (T.pr hp) hs hc
 |map r b sh es ho hb=>exact .map r b sh es ho hb
 |func fn first captured fs cs hf hc _ _ ih ih'=>exact .func fn first captured fs cs hf hc ih ih'
 |iface t a v _ ih=>exact .iface t a v ih
 |tuple l vs hl _ ih=>exact .tuple l vs hl ih
 |yield r l f ps env bz ho hb=>exact .yield r l f ps env bz ho hb
 |slv sh r ver off len a cap n ho hv hlc ha hc=>
  refine .slv sh r ver off len a cap n ho hv hlc ha fun e=> ?_
  obtain⟨c1,b,cs,t,c2,c3,c4,c5⟩:=hc e
  exact⟨c1,b,cs,t,c2,T.cells c3,c4,c5⟩
 |epv sh r ver i off a n ho hv hc=>exact .epv sh r ver i off a n ho hv hc
 |nilv sh=>exact .nilv sh
theorem Touch.hr(hm:∀i,i<hp.length->μ i≠some l)(h:HR w X μ hp):HR w' X μ hp where
 inj:=h.inj
 out i b hi hb:=by rw[T.size];exact h.out i b hi hb
 xlt b hb:=by rw[T.size];exact h.xlt b hb
 box i sh v ho:=by
  obtain⟨b,val,t,h1,h2,h3,h4,h5⟩:=h.box i sh v ho
  exact⟨b,val,t,h1,T.cells h2,h3,h4,T.ar h5⟩
 arr i sh es fz ho:=by
  obtain⟨h0,h1⟩:=h.arr i sh es fz ho
  refine⟨h0,?_⟩
  rcases h1 with h1|⟨b,cs,t,vals,h1,h2,h3,h4,h5⟩
  ·exact .inl h1
  ·exact .inr ⟨b,cs,t,vals,h1,T.cells h2,h3,fun k p v hk hv=>⟨(h4 k p v hk hv).1,T.pr (h4 k p v hk hv).2⟩,h5⟩
 map i sh es ho:=by
  have hi:=(List.getElem?_eq_some_iff.1 ho).1
  obtain⟨b,ents,clock,h1,h2,h3,h4⟩:=h.map i sh es ho
  exact⟨b,ents,clock,h1,by rw[T.old b (by rintro rfl;exact hm i hi h1)];exact h2,h3,fun k x y hk hy=>⟨T.pr (h4 k x y hk hy).1,T.pr (h4 k x y hk hy).2.1,(h4 k x y hk hy).2.2⟩⟩
 loop i f ps env bz ho:=by
  have hi:=(List.getElem?_eq_some_iff.1 ho).1
  obtain⟨b,rc,h1,h2,h3,h4,h5,h6,h7⟩:=h.loop i f ps env bz ho
  exact⟨b,rc,h1,by rw[T.old b (by rintro rfl;exact hm i hi h1)];exact h2,h3,h4,h5,h6,fun x hx=>⟨(h7 x hx).1,T.ar (h7 x hx).2⟩⟩
 arv i sh es ho:=by
  obtain⟨h0,b,cs,t,vals,h1,h2,h3,h4,h5⟩:=h.arv i sh es ho
  exact⟨h0,b,cs,t,vals,h1,T.cells h2,h3,fun k p v hk hv=>⟨(h4 k p v hk hv).1,T.ar (h4 k p v hk hv).2⟩,h5⟩
theorem Touch.ext{b0:Nat}{Y:Xc P}{μ0:Nat->Option Nat}{hp0:Heap}{w0:World}(hl:w0.heap.size<=l)(E:Ext b0 Y μ0 hp0 w0 μ hp w):Ext b0 Y μ0 hp0 w0 μ hp w':={ E with
 os:=T.os.trans E.os
 tape:=T.tape.trans E.tape
 output:=T.output.trans E.output
 size:=by rw[T.size];exact E.size
 blk:=fun b hb hi=>by rw[T.old b (by omega)];exact E.blk b hb hi
 shape:=fun b cs t fr h=>by
  have:=zaP h
  rw[T.old b (by omega)]
  exact E.shape b cs t fr h }
end

theorem znP{Y:Xc P}{b:Nat}(hx:∀b,Y b->X b)(h:Im X μ hp b):Im Y μ hp b:=⟨fun hy=>h.1 (hx b hy),h.2⟩
theorem PR.less{Y:Xc P}(hx:∀b,Y b->X b){p:PV}{v:Value}(h:PR w (Im X μ hp) p v):PR w (Im Y μ hp) p v:=h.mono fun _ _ _ _ hI hb=>⟨znP hx hI,hb⟩
theorem AR.less{Y:Xc P}(hx:∀b,Y b->X b){a:AV}{v:Value}(h:AR w X μ hp a v):AR w Y μ hp a v:=by
 induction h with
 |undef v h=>exact .undef v h
 |pv sh p v hs h=>exact .pv sh p v hs (h.less hx)
 |agg l vs hl hs _ ih=>exact .agg l vs hl hs ih
 |tsl sh es a h=>exact .tsl sh es a (h.less hx)
 |sl sh r ver off len a cap es fz ho hv hlc ha hc=>exact .sl sh r ver off len a cap es fz ho hv hlc ha hc
 |ptr r off b sh v ho hb=>exact .ptr r off b sh v ho hb
 |eptr sh r ver i off a es fz ho hv hc=>exact .eptr sh r ver i off a es fz ho hv hc
 |iptr sh p off b o cs t fr v hI hb hp hs hc=>exact .iptr sh p off b o cs t fr v (znP hx hI) hb (hp.less hx) hs hc
 |map r b sh es ho hb=>exact .map r b sh es ho hb
 |func fn first captured fs cs hf hc _ _ ih ih'=>exact .func fn first captured fs cs hf hc ih ih'
 |iface t a v _ ih=>exact .iface t a v ih
 |tuple l vs hl _ ih=>exact .tuple l vs hl ih
 |yield r l f ps env bz ho hb=>exact .yield r l f ps env bz ho hb
 |slv sh r ver off len a cap n ho hv hlc ha hc=>exact .slv sh r ver off len a cap n ho hv hlc ha hc
 |epv sh r ver i off a n ho hv hc=>exact .epv sh r ver i off a n ho hv hc
 |nilv sh=>exact .nilv sh
theorem HR.less{Y:Xc P}(hx:∀b,Y b->X b)(h:HR w X μ hp):HR w Y μ hp where
 inj:=h.inj
 out i b hi hb:=⟨fun hy=>(h.out i b hi hb).1 (hx b hy),(h.out i b hi hb).2⟩
 xlt b hb:=h.xlt b (hx b hb)
 box i sh v ho:=by
  obtain⟨b,val,t,h1,h2,h3,h4,h5⟩:=h.box i sh v ho
  exact⟨b,val,t,h1,h2,h3,h4,h5.less hx⟩
 arr i sh es fz ho:=by
  obtain⟨h0,h1⟩:=h.arr i sh es fz ho
  refine⟨h0,?_⟩
  rcases h1 with h1|⟨b,cs,t,vals,h1,h2,h3,h4,h5⟩
  ·exact .inl h1
  ·exact .inr ⟨b,cs,t,vals,h1,h2,h3,fun k p v hk hv=>⟨(h4 k p v hk hv).1,(h4 k p v hk hv).2.less hx⟩,h5⟩
 map i sh es ho:=by
  obtain⟨b,ents,clock,h1,h2,h3,h4⟩:=h.map i sh es ho
  exact⟨b,ents,clock,h1,h2,h3,fun k x y hk hy=>⟨(h4 k x y hk hy).1.less hx,(h4 k x y hk hy).2.1.less hx,(h4 k x y hk hy).2.2⟩⟩
 loop i f ps env bz ho:=by
  obtain⟨b,rc,h1,h2,h3,h4,h5,h6,h7⟩:=h.loop i f ps env bz ho
  exact⟨b,rc,h1,h2,h3,h4,h5,h6,fun x hx'=>⟨(h7 x hx').1,(h7 x hx').2.less hx⟩⟩
 arv i sh es ho:=by
  obtain⟨h0,b,cs,t,vals,h1,h2,h3,h4,h5⟩:=h.arv i sh es ho
  exact⟨h0,b,cs,t,vals,h1,h2,h3,fun k p v hk hv=>⟨(h4 k p v hk hv).1,(h4 k p v hk hv).2.less hx⟩,h5⟩

end Go.Am

/- Bodies in pieces: loops over functions and deferred calls between pieces of code. -/
namespace Go.Am
variable{P:Program} {w:World} {X:Xc P} {μ:Nat->Option Nat} {hp:Heap}

/-! ### One code after the other -/
section
variable{F:Fence} {n:Nat}
def zf9(F:Fence)(n:Nat)(P:Program):List Code->(Exit->Act->World->Prop)->Act->World->Prop
 |[],Q=>Q .normal
 |c::r,Q=>c.wpIn F n P (Exit.then (zf9 F n P r Q) Q)
theorem znQ{K K':Act->World->Prop}{Q Q':Exit->Act->World->Prop}(hk:∀a w,K a w->K' a w)(hq:∀e a w,Q e a w->Q' e a w):∀e a w,Exit.then K Q e a w->Exit.then K' Q' e a w:=by
 intro e a w h
 cases e <;> first|exact hk _ _ h|exact hq _ _ _ h
theorem zeu{Q:Exit->Act->World->Prop}{y:List Code}:∀(x:List Code) (a:Act) (w:World),zf9 F n P (x++y) Q a w->zf9 F n P x (Exit.then (zf9 F n P y Q) Q) a w
 |[],a,w,h=>h
 |c::r,a,w,h=>wpIn_mono h fun e a w he=>by
  cases e <;> first|exact zeu r a w he|exact he
theorem zkm:∀(c:Code) {Q:Exit->Act->World->Prop} {a:Act} {w:World},zf9 F n P (zfw c) Q a w->c.wpIn F n P Q a w:=by
 intro c
 induction c with
 |seq x y ihx ihy=>
  intro Q a w h
  apply wpIn_seq
  exact wpIn_mono (ihx (zeu _ _ _ h)) (znQ (fun a w h=>ihy h) fun _ _ _ h=>h)
 |_=>
  intro Q a w h
  exact wpIn_mono h fun e a w he=>by cases e <;> exact he
theorem zgW:∀(b c:Code),c∈zfw b->∀x∈zaT c,x∈zaT b:=by
 intro b
 induction b with
 |seq x y ihx ihy=>
  intro c hc z hz
  simp only[zfw,List.mem_append] at hc
  simp only[zaT,List.mem_append]
  rcases hc with hc|hc
  ·exact .inl (ihx c hc z hz)
  ·exact .inr (ihy c hc z hz)
 |_=>
  intro c hc z hz
  simp only[zfw,List.mem_singleton] at hc
  subst hc
  exact hz

theorem zrJ{o:Oper}{a:Act}{w:World}{K K':Act->World->Prop}{Q:Exit->Act->World->Prop}(h:o.wpIn F n P a w K (Exit.then K' Q)):o.wpIn F n P a w K Q:=by
 unfold Oper.wpIn at*
 refine⟨h.1,?_⟩
 have h:=h.2
 generalize (o.semAt F.round a.eval).run P w=r at*
 cases r with
 |ok x w'=>
  cases x <;> simp only[Oper.uponIn] at h ⊢ <;>
   first
    |exact h
    |exact⟨h.1,CallsIn.mono h.2 (fun e w'' he=>by cases e <;> exact he)⟩
    |exact⟨h.1,RoundIn.mono h.2 (fun e w'' he=>by cases e <;> exact he)⟩
 |halt x w'=>cases x <;> simp only[Oper.uponIn] at h ⊢ <;> exact h
theorem zdH{ops:Array Oper}{Q:Exit->Act->World->Prop}{l2:List Nat}:∀(l1:List Nat) (a:Act) (w:World),wpOpsIn F n P ops (Exit.then (wpOpsIn F n P ops Q l2) Q) l1 a w->wpOpsIn F n P ops Q (l1++l2) a w
 |[],a,w,h=>h
 |i::r,a,w,h=>by
  simp only[wpOpsIn,List.cons_append] at h ⊢
  split
  ·rename_i ho
   rw[ho] at h
   exact zdH r a w h
  ·rename_i o ho
   rw[ho] at h
   simp only[] at h
   split
   ·rename_i hw
    rw[if_pos hw] at h
    exact zrJ (Oper.wpIn_mono (fun a w=>zdH r a w) h)
   ·rename_i hw
    rw[if_neg hw] at h
    exact⟨h.1,zdH r _ _ h.2⟩
end

/-! ### Deferred calls -/
inductive DOk(w0 w:World)(X:Xc P)(μ:Nat->Option Nat)(hp:Heap):List AV->List Deferred->Prop
 |nil:DOk w0 w X μ hp [] []
 |mark (D:Nat) (ds:List AV) (dd:List Deferred) (hX:X D) (h0:w0.heap.size<=D) (hD:w.heap[D]? =some (.deferred (some []))) (hn:∀d∈dd,d.target≠.collected D) (h:DOk w0 w X μ hp ds dd):DOk w0 w X μ hp ds ({ target:=.collected D,args:= #[] }::dd)
 |fn (g:FuncId) (first captured:List AV) (fs cs:List Value) (ds:List AV) (dd:List Deferred) (hf:LR w X μ hp first fs) (hc:LR w X μ hp captured cs) (h:DOk w0 w X μ hp ds dd):
   DOk w0 w X μ hp (.func (.func g) first captured::ds) ({ target:=.fn (.func g) cs.toArray,args:=fs.toArray }::dd)
theorem LR.map{w':World}{X':Xc P}{μ':Nat->Option Nat}{hp':Heap}{l:List AV}{vs:List Value}(hv:∀a∈l,∀v,AR w X μ hp a v->AR w' X' μ' hp' a v)(h:LR w X μ hp l vs):LR w' X' μ' hp' l vs:=by
 induction h with
 |nil=>exact .nil
 |cons h _ ih=>exact .cons (hv _ List.mem_cons_self _ h) (ih fun a ha=>hv a (List.mem_cons_of_mem _ ha))
theorem DOk.map{w0 w':World}{X':Xc P}{μ':Nat->Option Nat}{hp':Heap}{ds:List AV}{dd:List Deferred}(hv:∀a∈ds,∀v,AR w X μ hp a v->AR w' X' μ' hp' a v)
  (hm:∀D,{ target:=.collected D,args:= #[] }∈dd->X D->w.heap[D]? =some (.deferred (some []))->X' D/\w'.heap[D]? =some (.deferred (some [])))(h:DOk w0 w X μ hp ds dd):DOk w0 w' X' μ' hp' ds dd:=by
 induction h with
 |nil=>exact .nil
 |mark D ds dd hX h0 hD hn _ ih=>
  obtain⟨k1,k2⟩:=hm D List.mem_cons_self hX hD
  exact .mark D ds dd k1 h0 k2 hn (ih hv fun D hD=>hm D (List.mem_cons_of_mem _ hD))
 |fn g first captured fs cs ds dd hf hc _ ih=>
  have one:∀{l:List AV} {vs:List Value},LR w X μ hp l vs->(∀a∈l,∀v,AR w X μ hp a v->AR w' X' μ' hp' a v)->LR w' X' μ' hp' l vs:=fun h hv=>h.map hv
  have parts:AR w' X' μ' hp' (.func (.func g) first captured) (.func (.func g) fs.toArray cs.toArray):=hv _ List.mem_cons_self _ (.func _ _ _ fs cs hf.length hc.length (fun i a v=>hf.get i a v) (fun i a v=>hc.get i a v))
  have sp:LR w' X' μ' hp' first fs/\LR w' X' μ' hp' captured cs:=by
   generalize hu:Value.func (.func g) fs.toArray cs.toArray=u at parts
   cases parts with|func _ _ _ fs' cs' hf' hc' h1 h2=>
   cases hu
   exact⟨LR.of hf' h1,LR.of hc' h2⟩
  exact .fn g first captured fs cs ds dd sp.1 sp.2 (ih (fun a ha=>hv a (List.mem_cons_of_mem _ ha)) fun D hD=>hm D (List.mem_cons_of_mem _ hD))
theorem DOk.ext{w0 w':World}{b:Nat}{Y:Xc P}{μ':Nat->Option Nat}{hp':Heap}{ds:List AV}{dd:List Deferred}(hH:HR w X μ hp)(E:Ext b Y μ hp w μ' hp' w')(h:DOk w0 w X μ hp ds dd):DOk w0 w' X μ' hp' ds dd:=
 h.map (fun a _ v ha=>(E.cast (Z:=X)).ar ha) fun D _ hX hD=>⟨hX,by rw[E.blk D (zaP hD) fun i hl e=>(hH.out i D (zbv hl) e).1 hX];exact hD⟩

inductive TrP(P:Program)(body:Code)(nt self:Nat):List Code->ACode->List (ATop × ACode)->Prop
 |nil:TrP P body nt self [] .skip []
 |code (c:Code) (r:List Code) (a x:ACode) (more:List (ATop × ACode)) (hc:Tr P nt c a) (h:TrP P body nt self r x more):TrP P body nt self (c::r) (.seq a x) more
 |range (c:Code) (r:List Code) (f:Operand) (ps:Array Tmp) (as bd:Code) (fa:AArg) (env:List Nat) (x:ACode) (more:List (ATop × ACode)) (hc:c=.rangeFunc f ps as bd\/∃id,c=.block id (.rangeFunc f ps as bd)) (hf:zbt P 0 f=some fa) (hl:(ps,as,bd)∈zaT body)
   (h:TrP P body nt self r x more):TrP P body nt self (c::r) .skip ((.range self fa ps.toList env,x)::more)
 |dfr (id:Nat) (ops:Array Oper) (r:List Code) (o:Oper) (ca:Call) (s:Nat) (l:List AOper) (pan:Bool) (keep:List Nat) (x:ACode) (more:List (ATop × ACode)) (ho:ops.toList.getLast? =some o) (h1:o.op=.defer ca) (h2:o.guard=none) (h3:o.dst=none) (h4:ca.callee=.value (.tmp s)) (h5:ca.args.toList=[])
   (hl:zdT P nt ops ops.toList.dropLast=some l) (h:TrP P body nt self r x more):TrP P body nt self (.region id ops false::r) (.region pan l keep) ((.dfr s,x)::more)

theorem zgv{c:Code}{ops:Array Oper}{s:Nat}(h:zeF c=some (ops,s)):∃id o ca,c=.region id ops false/\ops.toList.getLast? =some o/\o.op=.defer ca/\o.guard=none/\o.dst=none/\ca.callee=.value (.tmp s)/\ca.args.toList=[]:=by
 unfold zeF at h
 split at h
 ·rename_i id ops0
  split at h
  ·rename_i o ho
   split at h
   ·rename_i ca h1 h2 h3
    split at h
    ·rename_i s0 h4 h5
     cases h
     exact⟨id,o,ca,rfl,ho,h1,h2,h3,h4,h5⟩
    ·cases h
   ·cases h
  ·cases h
 ·cases h

theorem zga{body:Code}{hm:Bool}{nt self:Nat}:∀(cs:List Code) (x:ACode) (more:List (ATop × ACode)),(∀c∈cs,∀z∈zaT c,z∈zaT body)->zeg P hm nt self cs=some (x,more)->TrP P body nt self cs x more
 |[],x,more,_,h=>by cases h;exact .nil
 |c::r,x,more,hl,h=>by
  simp only[zeg] at h
  split at h
  ·cases h
  ·rename_i x1 more1 hr
   have ih:=zga r x1 more1 (fun c hc=>hl c (List.mem_cons_of_mem _ hc)) hr
   have hlc:=hl c List.mem_cons_self
   split at h
   ·rename_i c1 hc
    split at h
    ·rename_i a ha
     cases h
     have hcc:c1=c:=by
      unfold zhn at hc
      split at hc
      ·cases hc
      ·cases hc
      ·split at hc
       ·cases hc
       ·cases hc;rfl
     subst hcc
     exact .code _ _ _ _ _ (zi7 _ _ ha) ih
    ·cases h
   ·rename_i f ps as bd hc
    split at h
    ·rename_i fa hfa
     cases h
     unfold zhn at hc
     split at hc
     ·cases hc
      exact .range _ _ _ _ _ _ _ _ _ _ (.inl rfl) hfa (hlc _ (by simp[zaT])) ih
     ·cases hc
      exact .range _ _ _ _ _ _ _ _ _ _ (.inr ⟨_,rfl⟩) hfa (hlc _ (by simp[zaT])) ih
     ·split at hc <;> cases hc
    ·cases h
   ·rename_i ops s hc
    split at h
    ·rename_i l hlo
     cases h
     unfold zhn at hc
     split at hc
     ·cases hc
     ·cases hc
     ·split at hc
      ·rename_i ops' s' hsd
       cases hc
       obtain⟨id,o,ca,rfl,g1,g2,g3,g4,g5,g6⟩:=zgv hsd
       exact .dfr _ _ _ _ _ _ _ _ _ _ _ g1 g2 g3 g4 g5 g6 hlo ih
      ·cases hc
    ·cases h

theorem zl7(ret:List Nat)(rounds:List ARound)(a x:ACode)(more:List (ATop × ACode)):∃l,(zc8 ret rounds (.seq a x) more).1=.seq (annot a l [] ret) (zc8 ret rounds x more).1/\(zc8 ret rounds (.seq a x) more).2.1=(zc8 ret rounds x more).2.1:=by
 cases more with
 |nil=>exact⟨_,rfl,rfl⟩
 |cons y r=>
  obtain⟨op,c2⟩:=y
  simp only[zc8,annot]
  exact⟨_,rfl,trivial⟩
theorem znR{body:Code}{nt self:Nat}{cs:List Code}{x:ACode}{more:List (ATop × ACode)}(ret:List Nat)(rounds:List ARound)(h:TrP P body nt self cs x more):TrP P body nt self cs (zc8 ret rounds x more).1 (zc8 ret rounds x more).2.1:=by
 induction h with
 |nil=>exact .nil
 |code c r a x more hc _ ih=>
  obtain⟨l,h1,h2⟩:=zl7 ret rounds a x more
  rw[h1,h2]
  exact .code _ _ _ _ _ (zhS hc _ _ _) ih
 |range c r f ps as bd fa env x more hc hf hl _ ih=>
  simp only[zc8,annot]
  exact .range _ _ _ _ _ _ _ _ _ _ hc hf hl ih
 |dfr id ops r o ca s l pan keep x more h0 h1 h2 h3 h4 h5 hl _ ih=>
  simp only[zc8,annot]
  exact .dfr _ _ _ _ _ _ _ _ _ _ _ h0 h1 h2 h3 h4 h5 hl ih
theorem znS{body:Code}{nt self:Nat}{cs:List Code}{x:ACode}{more:List (ATop × ACode)}(h:TrP P body nt self cs x more)(hm:more=[])(out:List Nat)(env:List (Nat × List Nat))(ret:List Nat):TrP P body nt self cs (annot x out env ret) []:=by
 induction h with
 |nil=>exact .nil
 |code c r a x more hc _ ih=>subst hm;exact .code _ _ _ _ _ (zhS hc _ _ _) (ih rfl)
 |range=>cases hm
 |dfr=>cases hm

def zrK(nt:Nat)(w0:World)(X0:Xc P)(μ0:Nat->Option Nat)(hp0:Heap)(e:AExit)(st:St)(ds:List AV)(e':Exit)(a:Act)(w':World):Prop:=
 a.tmps.size=nt/\∃(X:Xc P) (μ':Nat->Option Nat),(∀b,X0 b->X b)/\HR w' X μ' st.hp/\FR w' X μ' st.hp st.fr a.tmps/\Ext 0 X0 μ0 hp0 w0 μ' st.hp w'/\zaX w' X μ' st.hp e e'/\DOk w0 w' X μ' st.hp ds a.defers
structure Mid(nt:Nat)(w0:World)(X0:Xc P)(μ0:Nat->Option Nat)(hp0:Heap)(X:Xc P)(μ:Nat->Option Nat)(st:St)(ds:List AV)(a:Act)(w:World):Prop where
 less:∀b,X0 b->X b
 hr:HR w X μ st.hp
 fr:FR w X μ st.hp st.fr a.tmps
 sz:a.tmps.size=nt
 ext:Ext 0 X0 μ0 hp0 w0 μ st.hp w
 dok:DOk w0 w X μ st.hp ds a.defers

theorem zkn(Γ:Oracle)(Λ:zah)(b:Nat)(more:List (ATop × ACode))(a x:ACode)(st:St)(ds:List AV):apieces Γ Λ b more (.seq a x) st ds=match aexec Γ Λ b a st with
  |some (.normal,st1)=>apieces Γ Λ b more x st1 ds
  |some (e,st1)=>some (e,st1,ds)
  |none=>none:=by
 cases more with
 |nil=>
  simp only[apieces,aexec]
  cases hx:aexec Γ Λ b a st with
  |none=>rfl
  |some q=>
   obtain⟨e,s⟩:=q
   cases e <;> rfl
 |cons y r=>
  obtain⟨op,c2⟩:=y
  simp only[apieces,aexec]
  cases hx:aexec Γ Λ b a st with
  |none=>rfl
  |some q=>
   obtain⟨e,s⟩:=q
   cases e <;> rfl

section
variable{Γ:Oracle} {Λ:zah} {body:Code} {fnc:Func} {self:Nat}

theorem zpC(hΓ:SoundO P Γ){w0:World}{X0:Xc P}{μ0:Nat->Option Nat}{hp0:Heap}{st st2:St}{ds ds2:List AV}{a:Act}{Q:Exit->Act->World->Prop}{f:Operand}{ps:Array Tmp}{as bd:Code}{fa:AArg}{env:List Nat}
  (hfn:P.funcs[self]? =some fnc)(hbd:fnc.body=some body)(hf:zbt P 0 f=some fa)(hl:(ps,as,bd)∈zaT body)(M:Mid fnc.ntmps w0 X0 μ0 hp0 X μ st ds a w)(hs:atop Γ (.range self fa ps.toList env) st ds=some (.normal,st2,ds2))
  (hQ:∀X2 μ2 a2 w2,Mid fnc.ntmps w0 X0 μ0 hp0 X2 μ2 st2 ds2 a2 w2->Q .normal a2 w2):(Code.rangeFunc f ps as bd).wpIn (Fe none) 0 P Q a w:=by
 cases hs

theorem zpD{ops:Array Oper}{o:Oper}{ca:Call}{s:Nat}{a:Act}{Q:Exit->Act->World->Prop}(ho:ops.toList.getLast? =some o)(h1:o.op=.defer ca)(h2:o.guard=none)(h3:o.dst=none)(h4:ca.callee=.value (.tmp s))(h5:ca.args.toList=[])
  {g:FuncId}{fs cs:List Value}(hv:a.tmps.getD s undef=.func (.func g) fs.toArray cs.toArray)(hQ:Q .normal { a with defers:={ target:=.fn (.func g) cs.toArray,args:=fs.toArray }::a.defers } w):wpOpsIn (Fe none) 0 P ops Q [ops.size - 1] a w:=by
 have hi:ops[ops.size - 1]? =some o:=by
  rw[List.getLast?_eq_getElem?] at ho
  simpa using ho
 have hargs:ca.args= #[]:=by
  apply Array.ext'
  simpa using h5
 have hw:Region.wanted o (yielded ops a.tmps)=true:=by simp[Region.wanted,h2]
 simp only[wpOpsIn,hi,hw,if_true]
 refine⟨fun _ _=>trivial,?_⟩
 have hrun:(o.semAt (Fe none).round a.eval).run P w=.ok (.defer { target:=.fn (.func g) cs.toArray,args:=fs.toArray }) w:=by
  have hev:a.eval (.tmp s)=.func (.func g) fs.toArray cs.toArray:=hv
  show(o.semAt none a.eval).run P w=_
  rw[Oper.semAt_none]
  simp only[execOp,h1,resolve,h4,hev,Deferred.ofValue,pure_bind,hargs]
  simp
 rw[hrun,Oper.uponIn_defer,h3]
 exact hQ

theorem znT(hmix:P.follows .mixedOrders=true)(hΓ:SoundO P Γ)(hΛ:∀nt c ac,Tr P nt c ac->zfe P nt Λ c ac)(hfn:P.funcs[self]? =some fnc)(hbd:fnc.body=some body){w0:World}{X0:Xc P}{μ0:Nat->Option Nat}{hp0:Heap}(h0:HR w0 X0 μ0 hp0)
  {cs:List Code}{x:ACode}{more:List (ATop × ACode)}(hT:TrP P body fnc.ntmps self cs x more):∀(st:St) (ds:List AV) (e:AExit) (st':St) (ds':List AV),apieces Γ Λ 0 more x st ds=some (e,st',ds')->∀(w:World) (X:Xc P) (μ:Nat->Option Nat) (a:Act) (Q:Exit->Act->World->Prop),
  Mid fnc.ntmps w0 X0 μ0 hp0 X μ st ds a w->(∀e' a' w',zrK fnc.ntmps w0 X0 μ0 hp0 e st' ds' e' a' w'->Q e' a' w')->zf9 (Fe none) 0 P cs Q a w:=by
 have code:∀{c:Code} {ac:ACode},Tr P fnc.ntmps c ac->znM P fnc.ntmps Γ Λ c ac:=fun h=>zkk hmix hΓ (hΛ fnc.ntmps) h
 induction hT with
 |nil=>
  intro st ds e st' ds' hs w X μ a Q M hQ
  simp only[apieces,aexec,Option.some.injEq,Prod.mk.injEq] at hs
  obtain⟨rfl,rfl,rfl⟩:=hs
  exact hQ _ _ _ ⟨M.sz,X,μ,M.less,M.hr,M.fr,M.ext,trivial,M.dok⟩
 |code c r a0 x more hc _ ih=>
  intro st ds e st' ds' hs w X μ a Q M hQ
  rw[zkn] at hs
  cases hx:aexec Γ Λ 0 a0 st with
  |none=>rw[hx] at hs;cases hs
  |some q=>
   obtain⟨e1,st1⟩:=q
   rw[hx] at hs
   refine code hc 0 st e1 st1 hx w X μ a _ none (Nat.zero_le _) rfl M.hr M.fr M.sz fun e' a' w' hL=> ?_
   obtain⟨g1,g2,μ',g3,g4,g5,g6⟩:=hL
   have M1:Mid fnc.ntmps w0 X0 μ0 hp0 X μ' st1 ds a' w':=⟨M.less,g3,g4,g2,M.ext.trans g5.cast,by rw[g1];exact M.dok.ext M.hr g5⟩
   have done:e1≠.normal->e=e1/\st'=st1/\ds'=ds->Q e' a' w':=by
    rintro _ ⟨rfl,rfl,rfl⟩
    exact hQ _ _ _ ⟨g2,X,μ',M1.less,g3,g4,M1.ext,g6,M1.dok⟩
   cases e1 with
   |normal=>
    cases e' <;> simp only[zaX] at g6
    exact ih st1 ds e st' ds' hs w' X μ' a' Q M1 hQ
   |exit i=>
    cases hs
    cases e' <;> simp only[zaX] at g6
    exact done (by simp) ⟨rfl,rfl,rfl⟩
   |ret=>
    cases hs
    cases e' <;> simp only[zaX] at g6
    exact done (by simp) ⟨rfl,rfl,rfl⟩
   |panic p=>
    cases hs
    cases e' <;> simp only[zaX] at g6
    exact done (by simp) ⟨rfl,rfl,rfl⟩
 |range c r f ps as bd fa env x more hc hf hl _ ih=>
  intro st ds e st' ds' hs w X μ a Q M hQ
  simp only[apieces,aexec] at hs
  split at hs
  ·rename_i st2 ds2 ha
   have go:∀Q':Exit->Act->World->Prop,(∀a w,zf9 (Fe none) 0 P r Q a w->Q' .normal a w)->(Code.rangeFunc f ps as bd).wpIn (Fe none) 0 P Q' a w:=fun Q' hq=>zpC hΓ hfn hbd hf hl M ha fun X2 μ2 a2 w2 M2=>hq _ _ (ih st2 ds2 e st' ds' hs w2 X2 μ2 a2 Q M2 hQ)
   rcases hc with rfl|⟨id,rfl⟩
   ·exact go _ fun _ _ h=>h
   ·show(Code.block id (.rangeFunc f ps as bd)).wpIn (Fe none) 0 P _ a w
    apply wpIn_block
    exact go _ fun _ _ h=>h
  ·cases hs
 |dfr id ops r o ca s l pan keep x more ho h1 h2 h3 h4 h5 hl _ ih=>
  intro st ds e st' ds' hs w X μ a Q M hQ
  have hpos:0<ops.size:=by
   rcases Nat.eq_zero_or_pos ops.size with h|h
   ·have:ops.toList=[]:=by simpa using h
    rw[this] at ho
    cases ho
   ·exact h
  have hrange:List.range ops.size=List.range' 0 (ops.size - 1)++[ops.size - 1]:=by
   conv=>lhs;rw[show ops.size=(ops.size - 1)+1 by omega]
   rw[List.range_succ,List.range_eq_range']
  have hseg:zdT P fnc.ntmps ops ((ops.toList.drop 0).take (ops.size - 1))=some l:=by
   rw[List.drop_zero,<-hl,List.dropLast_eq_take]
   simp
  apply wpIn_region
  rw[hrange]
  apply zdH
  simp only[apieces,aexec] at hs
  cases hx:aops Γ 0 l st.fr st.hp with
  |none=>rw[hx] at hs;cases hs
  |some q=>
   obtain⟨e1,fr1,hp1⟩:=q
   rw[hx] at hs
   refine zeM hΓ l l (ops.size - 1) 0 w μ st.hp st.fr a (by omega) hseg (Likes.refl l) hx (Nat.zero_le _) M.hr M.fr M.sz fun e' a' w' hL=> ?_
   have hL2:=hL.keep keep
   obtain⟨g1,g2,μ',g3,g4,g5,g6⟩:=hL2
   have M1:Mid fnc.ntmps w0 X0 μ0 hp0 X μ' ⟨fr1.keep keep,hp1⟩ ds a' w':=⟨M.less,g3,g4,g2,M.ext.trans g5.cast,by rw[g1];exact M.dok.ext M.hr g5⟩
   cases e1 with
   |normal=>
    cases e' <;> simp only[zaX] at g6
    simp only[atop] at hs
    cases hlk:(fr1.keep keep).look s with
    |none=>rw[hlk] at hs;cases hs
    |some v=>
     rw[hlk] at hs
     obtain⟨q1,q2⟩:=g4 s v hlk
     split at hs
     ·rename_i st2 ds2 hat
      split at hat
      ·rename_i g first captured heq
       cases heq
       cases hat
       obtain⟨fs,cs',e1',e2',e3'⟩:=zdc (v:=.func (.func g) first captured) rfl q2
       refine zpD ho h1 h2 h3 h4 h5 e1' ?_
       exact ih _ _ e st' ds' hs w' X μ' { a' with defers:=_ } Q ⟨M1.less,M1.hr,M1.fr,M1.sz,M1.ext,.fn g first captured fs cs' _ _ e2' e3' M1.dok⟩ hQ
      ·cases hat
     ·cases hs
   |panic p=>
    cases e' <;> simp only[zaX] at g6
    simp only[] at hs
    split at hs
    ·rename_i hq
     split at hq <;> cases hq
    ·rename_i e2 st2 hne hq
     split at hq
     ·cases hq
      cases hs
      exact hQ _ _ _ ⟨g2,X,μ',M1.less,g3,g4,M1.ext,g6,M1.dok⟩
     ·cases hq
    ·cases hs
   |exit i=>cases hs
   |ret=>cases hs
end
end Go.Am

/- Functions and what their calls come to: bodies, calls, the whole. -/
namespace Go.Am
variable{P:Program} {w:World} {X:Xc P} {μ:Nat->Option Nat} {hp:Heap}

theorem zgb:∀{l:List AV} {i s:Nat} {v:AV},(params i l).look s=some v->∃k,s=i+k/\l[k]? =some v
 |[],i,s,v,h=>by simp[params,Fr.look] at h
 |a::r,i,s,v,h=>by
  simp only[params,Fr.look] at h
  split at h
  ·rename_i e;subst e;cases h;exact⟨0,rfl,rfl⟩
  ·obtain⟨k,h1,h2⟩:=zgb h
   exact⟨k+1,by omega,by simpa using h2⟩

theorem zdi{f:FuncId}{fnc:Func}{c:Code}{args:Array Value}(hf:P.funcs[f]? =some fnc)(hb:fnc.body=some c)(hn:fnc.name≠ "runtime.NumGoroutine"):(callFunc f args).run P w=.ok (.enter f args) w:=by
 simp[callFunc,run_program,hf,hn,hb]

theorem zpE{args:List AV}{vs:List Value}{nt:Nat}(hl:LR w X μ hp args vs)(hn:vs.length<=nt):FR w X μ hp (params 0 args) (vs.toArray++Array.replicate (nt - vs.toArray.size) undef)/\(vs.toArray++Array.replicate (nt - vs.toArray.size) undef).size=nt:=by
 refine⟨fun s v hs=> ?_,by simp;omega⟩
 obtain⟨k,rfl,hk⟩:=zgb hs
 have hkl:k<args.length:=(List.getElem?_eq_some_iff.1 hk).1
 have hkv:k<vs.length:=by rw[<-hl.length];exact hkl
 refine⟨by simp;omega,?_⟩
 have:(vs.toArray++Array.replicate (nt - vs.toArray.size) undef).getD (0+k) undef=vs[k]:=by
  rw[Array.getD_eq_getD_getElem?,Nat.zero_add,Array.getElem?_append_left (by simpa using hkv)]
  simp[hkv]
 rw[this]
 exact hl.get k v vs[k] hk (List.getElem?_eq_getElem hkv)

def Mode(w:World)(X:Xc P)(μ:Nat->Option Nat)(hp:Heap)(p:Option PV)(u:FrameMode):Prop:=
 match p with
 |none=>u=.returning
 |some v=>∃x,u=.panicking [{ v:=x,recovered:=false }]/\AR w X μ hp (.pv none v) x

theorem zgc{Γ:Oracle}(hΓ:SoundO P Γ){fnc:Func}{w0:World}{X0:Xc P}{μ0:Nat->Option Nat}{hp0:Heap}{R:Ending->World->Prop}{tmps:Array Value}{p':Option PV}{hp':Heap}:∀(dd:List Deferred) (ds:List AV) (p:Option PV) (hp:Heap) (w:World) (X:Xc P) (μ:Nat->Option Nat) (u:FrameMode),
  aunwind Γ ds p hp=some (p',hp')->DOk w0 w X μ hp ds dd->HR w X μ hp->Ext 0 X0 μ0 hp0 w0 μ hp w->Mode w X μ hp p u->
  (∀w' μ' u',HR w' X μ' hp'->Ext 0 X0 μ0 hp0 w0 μ' hp' w'->(∀a v,AR w X μ hp a v->AR w' X μ' hp' a v)->Mode w' X μ' hp' p' u'->LeavesInM (Fe none) 0 P fnc tmps R [] u' w')->LeavesInM (Fe none) 0 P fnc tmps R dd u w
 |[],ds,p,hp,w,X,μ,u,hs,hD,hH,E,hu,hQ=>by
  cases hD
  simp only[aunwind,Option.some.injEq,Prod.mk.injEq] at hs
  obtain⟨rfl,rfl⟩:=hs
  exact hQ w μ u hH E (fun _ _ h=>h) hu
 |d::dd,ds,p,hp,w,X,μ,u,hs,hD,hH,E,hu,hQ=>by
  have hrun:u≠.run:=by
   unfold Mode at hu
   split at hu
   ·rw[hu];simp
   ·obtain⟨x,rfl,_⟩:=hu;simp
  refine⟨hrun,?_⟩
  cases hD with
  |mark D _ _ hX h0 hb hn h=>
   refine .inl ⟨D,_,rfl,run_takeDeferred hb,?_⟩
   have T:Touch D w (w.putObj D (.deferred none)):=Touch.put fun cs t fr e=>by rw[hb] at e;cases e
   refine zgc hΓ dd ds p hp _ X μ u hs (h.map (fun a _ v ha=>T.ar ha) fun D' hD' hX' hb'=>⟨hX',?_⟩) (T.hr (fun i hi e=>(hH.out i D hi e).1 hX) hH) (T.ext h0 E) ?_ fun w' μ' u' h1 h2 h3 h4=>hQ w' μ' u' h1 h2 (fun a v ha=>h3 a v (T.ar ha)) h4
   ·rw[T.old D' (by rintro rfl;exact hn _ hD' rfl)];exact hb'
   ·unfold Mode at hu ⊢
    split
    ·exact hu
    ·obtain⟨x,h1,h2⟩:=hu
     exact⟨x,h1,T.ar h2⟩
  |fn g first captured fs cs ds' _ hf hc h=>
   simp only[aunwind,za4] at hs
   split at hs
   ·rename_i rv hp1 hg
    have hmode:Leaving w X μ hp (p.getD .niliface) u:=by
     unfold Mode at hu
     split at hu
     ·exact .inl ⟨hu,rfl⟩
     ·exact .inr hu
    obtain⟨k1,k2⟩:=hΓ.dfr _ _ _ _ _ _ hg w X μ _ u hH (hf.append hc) hmode
    refine .inr ⟨zj8,.func g,cs.toArray,g,(fs++cs).toArray,rfl,?_,fun _ _=>trivial,?_⟩
    ·show(callFunc g (fs.toArray++cs.toArray)).run P w=_
     rw[show fs.toArray++cs.toArray=(fs++cs).toArray by simp]
     exact k1
    ·have k3:CallsDIn (Fe none) (0 - 1) P g (fs++cs).toArray u w _:=k2
     refine k3.mono fun e u' w' hR=> ?_
     obtain⟨⟨v,rfl⟩,hset,μ',h1,h2⟩:=hR
     show LeavesInM (Fe none) 0 P fnc tmps R dd (Go.settle u') w'
     rw[hset]
     exact zgc hΓ dd ds' none hp1 w' X μ' .returning hs (h.ext hH h2) h1 (E.trans (h2.mono (Nat.zero_le _)).cast) rfl fun w2 μ2 u2 q1 q2 q3 q4=>hQ w2 μ2 u2 q1 q2 (fun a v ha=>q3 a v (h2.ar ha)) q4
   ·cases hs

theorem zli{hm:Bool}{self:FuncId}{fnc:Func}{fn:AFn}(ht:trFn P hm self fnc=some fn):∃c,fnc.body=some c/\zjN P fnc.results.toList=true/\fnc.params.size+fnc.nfree<=fnc.ntmps/\fnc.name≠ "runtime.NumGoroutine" /\fn.nparams=fnc.params.size+fnc.nfree/\
  ((fn.rcv=none/\fn.more=[]/\fn.rounds=[]/\fn.results=zaw P fnc.results.toList/\Tr P fnc.ntmps c fn.code)\/
   (fn.rcv=none/\fn.results=zaw P fnc.results.toList/\TrP P c fnc.ntmps self (zfw c) fn.code fn.more/\zho P hm fnc.ntmps (zaT c)=some fn.rounds)\/
   ∃t id ops o ca r l keep x,fn.rcv=some t/\fn.more=[]/\fn.rounds=[]/\fnc.results.toList=[]/\t<fnc.ntmps/\zfw c=.region id ops false::r/\ops.toList.head? =some o/\o.op=.call ca/\o.dst=some t/\o.guard=none/\ca.callee=.builtin .recover/\zdT P fnc.ntmps ops ops.toList.tail=some l/\
    fn.code=.seq (.region true l keep) x/\TrP P c fnc.ntmps self r x []):=by
 unfold trFn at ht
 split at ht
 ·rename_i c hc
  split at ht
  ·rename_i hok
   obtain⟨k1,k2,k3⟩:=hok
   refine⟨c,hc,k1,k2,k3,?_⟩
   simp only[] at ht
   split at ht
   ·rename_i t ops r hsp
    split at ht
    ·rename_i hte
     split at ht
     ·rename_i l a hl ha
      cases ht
      unfold ze9 at hsp
      split at hsp
      ·rename_i id ops0 r0 hfl
       split at hsp
       ·rename_i o rest hops
        split at hsp
        ·rename_i ca t0 g1 g2 g3
         split at hsp
         ·rename_i g4
          cases hsp
          refine⟨rfl,.inr (.inr ⟨t,id,ops,o,ca,r,l,_,_,rfl,rfl,rfl,by simpa using hte.2,hte.1,hfl,by rw[hops];rfl,g1,g2,g3,g4,hl,rfl,?_⟩)⟩
          have hT:=zga (body:=c) (self:=self) r a [] (fun c' hc' z hz=>zgW c c' (by rw[hfl];exact List.mem_cons_of_mem _ hc') z hz) ha
          exact znS hT rfl _ _ _
         ·cases hsp
        ·cases hsp
       ·cases hsp
      ·cases hsp
     ·cases ht
    ·cases ht
   ·split at ht
    ·rename_i a ha
     cases ht
     exact⟨rfl,.inl ⟨rfl,rfl,rfl,rfl,zhS (zi7 c a ha) _ _ _⟩⟩
    ·split at ht
     ·rename_i a more rounds ha hr
      cases ht
      exact⟨rfl,.inr (.inl ⟨rfl,rfl,znR (zm1 (zaw P fnc.results.toList)) rounds (zga (body:=c) (self:=self) (zfw c) a more (fun c' hc' z hz=>zgW c c' hc' z hz) ha),hr⟩)⟩
     ·cases ht
  ·cases ht
 ·cases ht

theorem zl8{fnc:Func}{f:FuncId}{c:Code}{args:Array Value}{R:Ending->World->Prop}(hf:P.funcs[f]? =some fnc)(hb:fnc.body=some c)(h:c.wpIn (Fe none) 0 P (bodyPost P fnc R) { tmps:=args++Array.replicate (fnc.ntmps - args.size) undef,defers:=[] } w):Calls P f args w R:=
 (callsIn_wide (n:=0)).1 (callsIn_of_wp (F:=Fe none) hf hb trivial h)

theorem zl9{hm:Bool}{Γ:Oracle}{Λ:zah}(hmix:P.follows .mixedOrders=true)(hΓ:SoundO P Γ)(hΛ:∀nt c ac,Tr P nt c ac->zfe P nt Λ c ac){f:FuncId}{fnc:Func}{fn:AFn}{args:List AV}{vs:List Value}{r:ARes}{hp':Heap}(hf:P.funcs[f]? =some fnc)(ht:trFn P hm f fnc=some fn)(hrcv:fn.rcv=none)
  (h:abody Γ Λ fn args hp=some (r,hp'))(hH:HR w X μ hp)(hl:LR w X μ hp args vs):(callFunc f vs.toArray).run P w=.ok (.enter f vs.toArray) w/\Calls P f vs.toArray w (zbb hp.length w X μ hp r hp'):=by
 obtain⟨c,hc,k1,k2,k3,k4,hcase⟩:=zli ht
 refine⟨zdi hf hc k3,?_⟩
 unfold abody at h
 split at h
 ·cases h
 ·rename_i hlen
  have hlen':vs.length=fnc.params.size+fnc.nfree:=by rw[<-hl.length,<-k4];simpa using hlen
  obtain⟨hF,hsz⟩:=zpE hl (nt:=fnc.ntmps) (by omega)
  have plain:∀{e st},aexec Γ Λ 0 fn.code ⟨params 0 args,hp⟩=some (e,st)->fn.results=zaw P fnc.results.toList->Tr P fnc.ntmps c fn.code->(match(e,st) with
    |(.normal,st)|(.ret,st)=>(match zay st fn.results with|some v=>some (ARes.ret v,st.hp)|none=>none)
    |(.panic v,st)=>some (.panic v,st.hp)
    |_=>none)=some (r,hp')->Calls P f vs.toArray w (zbb hp.length w X μ hp r hp'):=by
   intro e st hx hres hT h
   apply zl8 hf hc
   refine zkk hmix hΓ (hΛ fnc.ntmps) hT 0 ⟨params 0 args,hp⟩ e st hx w X μ _ _ none (Nat.zero_le _) rfl hH hF hsz fun e' a' w' hL=> ?_
   obtain⟨g1,g2,μ',g3,g4,g5,g6⟩:=hL
   have ret:∀v,zay st (zaw P fnc.results.toList)=some v->r=.ret v->hp'=st.hp->a'.defers=[]/\∃u,(results fnc a'.tmps).run P w'=.ok u w'/\zbb hp.length w X μ hp r hp' (.returned u) w':=by
    rintro v hv rfl rfl
    obtain⟨u,u1,u2⟩:=zet g3 g4 k1 hv
    exact⟨g1,u,u1,μ',v,rfl,g3,g5.any,u2⟩
   rw[hres] at h
   cases e with
   |normal=>
    cases e' <;> simp only[zaX] at g6
    simp only[] at h
    split at h
    ·cases h;exact ret _ ‹_› rfl rfl
    ·cases h
   |ret=>
    cases e' <;> simp only[zaX] at g6
    simp only[] at h
    split at h
    ·cases h;exact ret _ ‹_› rfl rfl
    ·cases h
   |exit i=>cases h
   |panic p=>
    cases h
    cases e' <;> simp only[zaX] at g6
    obtain⟨v',rfl,hv⟩:=g6
    exact⟨g1,μ',p,v',rfl,rfl,g3,g5.any,hv⟩

  have many:∀{q},apieces Γ Λ 0 fn.more fn.code ⟨params 0 args,hp⟩ []=some q->fn.results=zaw P fnc.results.toList->TrP P c fnc.ntmps f (zfw c) fn.code fn.more->aleave Γ fn (some q)=some (r,hp')->Calls P f vs.toArray w (zbb hp.length w X μ hp r hp'):=by
   rintro⟨e,st,ds⟩ hx hres hT h
   refine(callsIn_wide (n:=0)).1 (callsIn_of_wp_marks (F:=Fe none) hf hc trivial ?_)
   apply zkm
   refine znT hmix hΓ hΛ hf hc hH hT _ _ e st ds hx w X μ _ _ ⟨fun _ h=>h,hH,hF,hsz,Ext.refl _ _ _ _ _,.nil⟩ fun e' a' w' hL=> ?_
   obtain⟨g2,X2,μ',g0,g3,g4,g5,g6,g7⟩:=hL

   have fin:∀(p p':Option PV) (hpe:Heap) (u:FrameMode),aunwind Γ ds p st.hp=some (p',hpe)->Mode w' X2 μ' st.hp p u->(match p' with|none=>aresult fn ⟨st.fr,hpe⟩|some v'=>some (.panic v',hpe))=some (r,hp')->LeavesInM (Fe none) 0 P fnc a'.tmps (zbb hp.length w X μ hp r hp') a'.defers u w':=by
    intro p p' hpe u hun hu hr
    refine zgc hΓ a'.defers ds p st.hp w' X2 μ' u hun g7 g3 g5 hu fun w2 μ2 u2 q1 q2 q3 q4=> ?_
    cases p' with
    |none=>
     have hu2:u2=.returning:=q4
     subst hu2
     simp only[aresult,hres] at hr
     split at hr
     ·rename_i v hv
      cases hr
      obtain⟨x,x1,x2⟩:=zet (st:=⟨st.fr,hp'⟩) q1 (t:=a'.tmps) (fun s u hs=>⟨(g4 s u hs).1,q3 _ _ (g4 s u hs).2⟩) k1 hv
      exact⟨x,x1,μ2,v,rfl,q1.less g0,q2.any,x2.less g0⟩
     ·cases hr
    |some v'=>
     cases hr
     obtain⟨x,rfl,x2⟩:=q4
     exact⟨μ2,v',x,rfl,rfl,q1.less g0,q2.any,x2.less g0⟩
   unfold aleave at h
   cases e with
   |normal=>
    cases e' <;> simp only[zaX] at g6
    simp only[] at h
    split at h
    ·rename_i hpe hun
     exact fin none none hpe .returning hun rfl h
    ·cases h
   |ret=>
    cases e' <;> simp only[zaX] at g6
    simp only[] at h
    split at h
    ·rename_i hpe hun
     exact fin none none hpe .returning hun rfl h
    ·cases h
   |exit i=>cases h
   |panic p=>
    cases e' <;> simp only[zaX] at g6
    obtain⟨v',rfl,hv⟩:=g6
    simp only[] at h
    have hm:Mode w' X2 μ' st.hp (some p) (.panicking [{ v:=v',recovered:=false }]):=⟨v',rfl,hv⟩
    split at h
    ·rename_i hpe hun
     exact fin (some p) none hpe _ hun hm h
    ·rename_i v2 hpe hun
     exact fin (some p) (some v2) hpe _ hun hm h
    ·cases h
  rcases hcase with⟨_,hm,_,hres,hT⟩|⟨_,hres,hT,_⟩|⟨t,_,_,_,_,_,_,_,_,h1,_⟩
  ·rw[hm] at h
   simp only[] at h
   cases hx:aexec Γ Λ 0 fn.code ⟨params 0 args,hp⟩ with
   |none=>rw[hx] at h;cases h
   |some q=>
    obtain⟨e,st⟩:=q
    rw[hx] at h
    refine plain hx hres hT ?_
    cases e <;> exact h
  ·split at h
   ·rename_i hm
    cases hx:aexec Γ Λ 0 fn.code ⟨params 0 args,hp⟩ with
    |none=>rw[hx] at h;cases h
    |some q=>
     obtain⟨e,st⟩:=q
     rw[hx] at h
     rw[hm] at many
     refine many (q:=(e,st,[])) (by simp only[apieces,hx]) hres (by rw[hm] at hT;exact hT) ?_
     cases e <;> exact h
   ·rename_i more hne
    cases hx:apieces Γ Λ 0 fn.more fn.code ⟨params 0 args,hp⟩ [] with
    |none=>rw[hx] at h;cases h
    |some q=>
     rw[hx] at h
     exact many hx hres hT h
  ·rw[hrcv] at h1
   cases h1

def zfg(P:Program)(prim:FuncId->Option zbW):Prop:=
 ∀f p,prim f=some p->∀args hp r hp',p f args hp=some (r,hp')->∀(w:World) (X:Xc P) (μ:Nat->Option Nat) (vs:List Value),HR w X μ hp->LR w X μ hp args vs->Called P f vs.toArray w (zbb hp.length w X μ hp r hp')
def zko(P:Program)(F:FuncId->Option AFn):Prop:=∀f fn,F f=some fn->∃fnc,P.funcs[f]? =some fnc/\trFn P fn.heapMode f fnc=some fn

theorem zdj{v v':AV}{hp2 hp3:Heap}{μ':Nat->Option Nat}{w':World}{u:Value}(h:v.freezeRes hp2=some (v',hp3))(hH:HR w' (held X μ hp) μ' hp2)(ha:AR w' (held X μ hp) μ' hp2 v u):AR w' X μ hp v' u:=by
 have pr:∀{p:PV} {u:Value} {hp3:Heap},PR w' (Im (held X μ hp) μ' hp3) p u->PR w' (Im X μ hp) p u:=fun h=>h.mono fun _ _ _ _ hI hb=>⟨zhI hI,hb⟩
 have one:(match AV.freeze deep v hp2 with|some (p,hp')=>some (AV.pv v.shp p,hp')|none=>none)=some (v',hp3)->AR w' X μ hp v' u:=by
  intro h
  split at h
  ·rename_i p hp4 hf
   cases h
   obtain⟨_,_,k3⟩:=zaR 0 w' _ μ' _ _ _ _ _ _ hf hH ha
   exact .pv _ _ _ (ha.vshp (zcs hf)) (pr k3)
  ·cases h
 unfold AV.freezeRes at h
 split at h
 ·rename_i l
  split at h
  ·rename_i ps hp4 hf
   cases h
   cases ha with|tuple _ vs hl hx=>
   obtain⟨_,_,k3⟩:=za9 0 _ _ _ _ _ hf hH (LR.of hl hx)
   refine .tuple _ vs (by simp[pvs,k3.1]) fun i a u hi hu=> ?_
   simp only[pvs,List.getElem?_map,Option.map_eq_some_iff] at hi
   obtain⟨x,hx',rfl⟩:=hi
   exact .pv _ _ _ (k3.2.1 i x u hx' hu) (pr (k3.2.2 i x u hx' hu))
  ·cases h
 ·exact one h

theorem PR.scalar{w:World}{I J:Nat->Prop}{p:PV}{v:Value}(h:PR w I p v)(hs:p.scalar=true):PR w J p v:=by
 cases h with
 |bool=>exact .bool _
 |int=>exact .int _ _
 |str=>exact .str _
 |_=>cases hs
theorem AR.scalar1{w:World}{μ:Nat->Option Nat}{hp hp':Heap}{v:AV}{u:Value}(h:AR w X μ hp v u)(hs:v.scalar1=true):AR w X μ hp' v u:=by
 cases h with
 |pv s p u hv hp=>exact .pv _ _ _ hv (hp.scalar hs)
 |_=>cases hs
theorem AR.scalar{w:World}{μ:Nat->Option Nat}{hp hp':Heap}{v:AV}{u:Value}(h:AR w X μ hp v u)(hs:v.scalar=true):AR w X μ hp' v u:=by
 cases h with
 |pv s p u hv hp=>exact .pv _ _ _ hv (hp.scalar hs)
 |tuple l vs hl hx=>exact .tuple _ vs hl fun i a u hi hu=>(hx i a u hi hu).scalar1 (List.all_eq_true.1 hs a (List.mem_of_getElem? hi))
 |_=>cases hs

end Go.Am

/- Rounds of loops over functions; deferred functions that recover; calls; the whole. -/
namespace Go.Am
variable{P:Program} {w:World} {X:Xc P} {μ:Nat->Option Nat} {hp:Heap}

/-! ### Rounds -/
theorem zi8{F:FuncId->Option AFn}{Γ:Oracle}{Λ:zah}(hmix:P.follows .mixedOrders=true)(hF:zko P F)(hΓ:SoundO P Γ)(hΛ:∀nt c ac,Tr P nt c ac->zfe P nt Λ c ac){f:FuncId}{q:Nat}{as:List AV}{v:AV}{hp':Heap}{ps:List Nat}{env:List (Nat × AV)}{vs:List Value}{l:Nat}{rc:Loop}
  (h:around F Γ Λ f (.yield q::as) hp=some (.ret v,hp'))(hq:hp[q]? =some (.loop f ps env false))(hH:HR w X μ hp)(hl:LR w X μ hp as vs)(hm:μ q=some l)(hrc:w.heap[l]? =some (.loop rc)):
  vs.length=rc.params.size/\RoundIn Fence.wide 0 P l rc.fn (zdb rc vs) rc.assign rc.body w (zbb hp.length w X μ hp (.ret v) hp'):=by
 exact absurd (show(none:Option (ARes × Heap))=some _ from h) (by simp)
/-! ### Deferred functions that recover -/
section
variable{F:Fence} {n:Nat} {Q:Exit->Act->List Frame->World->Prop} {a:Act} {cs:List Frame}
end

theorem zi9{F:FuncId->Option AFn}{Γ:Oracle}{Λ:zah}(hmix:P.follows .mixedOrders=true)(hF:zko P F)(hΓ:SoundO P Γ)(hΛ:∀nt c ac,Tr P nt c ac->zfe P nt Λ c ac){g:FuncId}{p:PV}{as:List AV}{r:ARes}{hp':Heap}{vs:List Value}{u:FrameMode}
  (h:adefer F Γ Λ g (.pv none p::as) hp=some (r,hp'))(hH:HR w X μ hp)(hl:LR w X μ hp as vs)(hu:Leaving w X μ hp p u):
  (callFunc g vs.toArray).run P w=.ok (.enter g vs.toArray) w/\CallsDIn Fence.wide 0 P g vs.toArray u w fun e u' w'=>(∃v,e=.returned v)/\Go.settle u'=.returning/\∃μ',HR w' X μ' hp'/\Ext hp.length X μ hp w μ' hp' w':=by
 exact absurd (show(none:Option (ARes × Heap))=some _ from h) (by simp)
end Go.Am

/- Calls; the whole. -/
namespace Go.Am
variable{P:Program} {w:World} {X:Xc P} {μ:Nat->Option Nat} {hp:Heap}

theorem zev{F:FuncId->Option AFn}{prim:FuncId->Option zbW}{Γ:Oracle}{Λ:zah}(hmix:P.follows .mixedOrders=true)(hF:zko P F)(hP:zfg P prim)(hΓ:SoundO P Γ)(hΛ:∀nt c ac,Tr P nt c ac->zfe P nt Λ c ac){f:FuncId}{args:List AV}{r:ARes}{hp':Heap}{vs:List Value}
  (h:zbe F prim Γ Λ f args hp=some (r,hp'))(hH:HR w X μ hp)(hl:LR w X μ hp args vs):Called P f vs.toArray w (zbb hp.length w X μ hp r hp'):=by
 unfold zbe at h
 split at h
 ·exact hP _ _ ‹_› _ _ _ _ h w X μ vs hH hl
 ·split at h
  ·cases h
  ·rename_i fn hfn
   obtain⟨fnc,hf,ht⟩:=hF f fn hfn
   split at h
   ·cases h
   rename_i hrc
   have hrcv:fn.rcv=none:=by
    cases hr:fn.rcv with
    |none=>rfl
    |some t=>rw[hr] at hrc;exact absurd rfl hrc
   have bs:∀{args:List AV} {hp:Heap} {w:World} {X:Xc P} {μ:Nat->Option Nat} {r:ARes} {hp':Heap} {vs:List Value},abody Γ Λ fn args hp=some (r,hp')->HR w X μ hp->LR w X μ hp args vs->Called P f vs.toArray w (zbb hp.length w X μ hp r hp'):=fun h hH hl=>.inl (zl9 hmix hΓ hΛ hf ht hrcv h hH hl)
   split at h
   ·-- on the caller's heap
    split at h
    ·rename_i v hp2 hb
     cases h
     refine(bs hb hH hl).mono fun e w' hR=> ?_
     cases e with
     |returned u=>
      obtain⟨μ',v2,e1,g1,g2,g3⟩:=hR
      cases e1
      split
      ·rename_i hc
       simp only[Bool.and_eq_true,List.all_eq_true,decide_eq_true_eq] at hc
       exact⟨μ',v,rfl,g1.take fun i o hi ho q hq=>zi0 hc.2 hH.closed i o hi ho q hq,g2.take (Nat.le_refl _),g3.take hc.1⟩
      ·exact⟨μ',v,rfl,g1,g2,g3⟩
     |panicked c=>obtain⟨μ',p,v',e1,_⟩:=hR;cases e1
     |outgrown=>exact hR
    ·rename_i v hp2 hb
     cases h
     refine(bs hb hH hl).mono fun e w' hR=> ?_
     cases e with
     |returned u=>obtain⟨μ',v2,e1,_⟩:=hR;cases e1
     |panicked c=>
      obtain⟨μ',p,v',e1,e2,g1,g2,g3⟩:=hR
      cases e1
      exact⟨μ',v,v',rfl,e2,g1,g2,g3⟩
     |outgrown=>exact hR
    ·cases h
   ·-- on a heap of its own
    split at h
    ·cases h
    ·rename_i ps hp1 hfz
     obtain⟨e1,h1,hCP⟩:=za9 hp.length _ _ _ _ _ hfz hH hl
     split at h
     ·rename_i v hp2 hb
      split at h
      ·rename_i v' hp3 hfr
       cases h
       refine(bs hb h1.empty hCP.empty.lr).mono fun e w' hR=> ?_
       cases e with
       |returned u=>
        obtain⟨μ',v2,e2,g1,g2,g3⟩:=hR
        cases e2
        cases hsc:v'.scalar with
        |true=>
         obtain⟨k1,k2⟩:=back (b:=hp.length) hH g2
         exact⟨μ,v',rfl,k1,k2,(zdj hfr g1 g3).scalar hsc⟩
        |false=>
         obtain⟨k1,k2⟩:=back (b:=hp.length) h1 g2
         exact⟨μ,v',rfl,k1,e1.trans k2,zdj hfr g1 g3⟩
       |panicked c=>obtain⟨μ',p,v',e1,_⟩:=hR;cases e1
       |outgrown=>exact hR
      ·cases h
     ·rename_i v hp2 hb
      cases h
      refine(bs hb h1.empty hCP.empty.lr).mono fun e w' hR=> ?_
      cases e with
      |returned u=>obtain⟨μ',v2,e1,_⟩:=hR;cases e1
      |panicked c=>
       obtain⟨μ',p,v',e2,e3,g1,g2,g3⟩:=hR
       cases e2
       obtain⟨k1,k2⟩:=back (b:=hp.length) h1 g2
       refine⟨μ,v,v',rfl,e3,k1,e1.trans k2,?_⟩
       cases g3 with|pv _ _ _ hs hq=>exact .pv _ _ _ hs (hq.mono fun _ _ _ _ hI hb=>⟨zhI hI,hb⟩)
      |outgrown=>exact hR
     ·cases h

theorem zkp{F:FuncId->Option AFn}{prim:FuncId->Option zbW}{Γ:Oracle}{Λ:zah}(hmix:P.follows .mixedOrders=true)(hF:zko P F)(hP:zfg P prim)(hΓ:SoundO P Γ)(hΛ:∀nt c ac,Tr P nt c ac->zfe P nt Λ c ac):SoundO P (acall F prim Γ Λ) where
 fn f args hp r hp' h w X μ vs hH hl:=zev hmix hF hP hΓ hΛ h hH hl
 seq f args hp r hp' h w X μ vs hH hl:=by
  have h:(if(F f).isSome=true then zbe F prim Γ Λ f args hp else none)=some (r,hp'):=h
  split at h
  ·rename_i hs
   have hC:=zev hmix hF hP hΓ hΛ h hH hl
   cases hfn:F f with
   |none=>rw[hfn] at hs;cases hs
   |some fn=>
    obtain⟨fnc,c1,c2⟩:=hF f fn hfn
    obtain⟨c,d1,_,_,d4,_⟩:=zli c2
    have hent:=zdi (w:=w) (args:=vs.toArray) c1 d1 d4
    rcases hC with⟨h1,h2⟩|⟨v,w',h1,_⟩
    ·exact⟨h1,h2⟩
    ·rw[hent] at h1;cases h1
  ·cases h
 rnd f q as hp v hp' ps env h hq w X μ vs l rc hH hl hm hrc:=zi8 hmix hF hΓ hΛ h hq hH hl hm hrc
 dfr g p as hp r hp' h w X μ vs u hH hl hu:=zi9 hmix hF hΓ hΛ h hH hl hu

theorem zb8{F:FuncId->Option AFn}{prim:FuncId->Option zbW}(hmix:P.follows .mixedOrders=true)(hF:zko P F)(hP:zfg P prim):∀n,SoundO P (asem F prim n)
 |0=>⟨fun _ _ _ _ _ h=>(by cases h),fun _ _ _ _ _ h=>(by cases h),fun _ _ _ _ _ _ _ _ h=>(by cases h),fun _ _ _ _ _ _ h=>(by cases h)⟩
 |n+1=>zkp hmix hF hP (zb8 hmix hF hP n) fun nt c ac h=>zq9 hmix (zb8 hmix hF hP n) n c ac h
end Go.Am

/- The limit of the runs of bounded depth: equations without fuel. -/
namespace Go.Am

def OLe(Γ Δ:Oracle):Prop:=∀k f as hp r,Γ k f as hp=some r->Δ k f as hp=some r
def LLe(Λ Λ':zah):Prop:=∀b m keep c st r,Λ b m keep c st=some r->Λ' b m keep c st=some r
theorem OLe.refl(Γ:Oracle):OLe Γ Γ:=fun _ _ _ _ _ h=>h
theorem OLe.trans{Γ Δ Θ:Oracle}(h:OLe Γ Δ)(k:OLe Δ Θ):OLe Γ Θ:=fun i f as hp r e=>k i f as hp r (h i f as hp r e)
theorem LLe.refl(Γ:zah):LLe Γ Γ:=fun _ _ _ _ _ _ h=>h
theorem LLe.trans{Γ Δ Θ:zah}(h:LLe Γ Δ)(k:LLe Δ Θ):LLe Γ Θ:=fun f as hp r x y e=>k f as hp r x y (h f as hp r x y e)

theorem zeU{Γ Δ:Oracle}{vs:List AV}{hp:Heap}{r:OpRes}(hO:OLe Γ Δ)(h:zcz Γ hp vs=some r):zcz Δ hp vs=some r:=by
 cases vs with
 |nil=>cases h
 |cons a as=>
  have gen:(match za4 a with
    |some (g,first,captured)=>match Γ .fn g (first++as++captured) hp with
     |some (.ret v,hp')=>some (OpRes.val v hp')
     |some (.panic v,hp')=>some (.panic v hp')
     |none=>none
    |none=>none)=some r->(match za4 a with
    |some (g,first,captured)=>match Δ .fn g (first++as++captured) hp with
     |some (.ret v,hp')=>some (OpRes.val v hp')
     |some (.panic v,hp')=>some (.panic v hp')
     |none=>none
    |none=>none)=some r:=by
   intro h
   split at h
   ·split at h
    ·rename_i hg;simp only[hO _ _ _ _ _ hg];exact h
    ·rename_i hg;simp only[hO _ _ _ _ _ hg];exact h
    ·cases h
   ·cases h
  cases a with
  |yield q=>
   simp only[zcz] at h ⊢
   split at h
   ·split at h
    ·rename_i hg;rw[hO _ _ _ _ _ hg];exact h
    ·cases h
   ·cases h
  |_=>exact gen h
theorem zew{Γ Δ:Oracle}{b:Nat}{op:AOp}{vs:List AV}{hp:Heap}{r:OpRes}(hO:OLe Γ Δ)(h:aOp Γ b op vs hp=some r):aOp Δ b op vs hp=some r:=by
 cases op
 case call=>exact zeU hO h
 case calln n=>
  simp only[aOp,zgz] at h ⊢
  cases hc:zcz Γ hp (vs.drop n) with
  |none=>rw[hc] at h;cases h
  |some q=>rw[hc] at h;rw[zeU hO hc];exact h
 case callg=>
  simp only[aOp,zgA] at h ⊢
  cases hc:zcz Γ hp vs with
  |none=>rw[hc] at h;cases h
  |some q=>rw[hc] at h;rw[zeU hO hc];exact h
 case callp=>
  simp only[aOp,zeb] at h ⊢
  split at h
  ·split at h
   ·rename_i ps he
    split at h
    ·rename_i v hp' hg;rw[hO _ _ _ _ _ hg];exact h
    ·cases h
   ·cases h
  ·cases h
 case callh=>
  simp only[aOp,zgy] at h ⊢
  split at h
  ·split at h
   ·split at h
    ·rename_i v hp' hg;rw[hO _ _ _ _ _ hg];exact h
    ·cases h
   ·cases h
  ·cases h
 all_goals exact h

theorem zcg{Γ Δ:Oracle}{b:Nat}(hO:OLe Γ Δ):∀{ops:List AOper} {fr:Fr} {hp:Heap} {r:AExit × Fr × Heap},aops Γ b ops fr hp=some r->aops Δ b ops fr hp=some r
 |[],_,_,_,h=>h
 |o::rest,fr,hp,r,h=>by
  simp only[aops] at h ⊢
  split at h
  ·cases h
  ·exact zcg hO h
  ·split at h
   ·cases h
   ·split at h
    ·rename_i ho;rw[zew hO ho];exact zcg hO h
    ·rename_i ho;rw[zew hO ho];exact h
    ·cases h

theorem zcW{Γ Δ:Oracle}(hO:OLe Γ Δ){hp:Heap}{vs:List AV}{r:OpRes}(h:zca Γ hp vs=some r):zca Δ hp vs=some r:=by
 unfold zca at h ⊢
 split at h
 ·split at h
  ·split at h
   ·rename_i hg;simp only[hO _ _ _ _ _ hg];exact h
   ·rename_i hg;simp only[hO _ _ _ _ _ hg];exact h
   ·cases h
  ·cases h
 ·cases h
theorem zbI{Γ Δ:Oracle}{b:Nat}(hO:OLe Γ Δ):∀{l:List (AOper × Option (List AOper))} {fr:Fr} {hp:Heap} {r:AExit × Fr × Heap},zcN Γ b l fr hp=some r->zcN Δ b l fr hp=some r
 |[],_,_,_,h=>h
 |(o,none)::rest,fr,hp,r,h=>by
  simp only[zcN] at h ⊢
  split at h
  ·cases h
  ·exact zbI hO h
  ·split at h
   ·cases h
   ·split at h
    ·rename_i ho;rw[zew hO ho];exact zbI hO h
    ·cases h
 |(o,some later)::rest,fr,hp,r,h=>by
  simp only[zcN] at h ⊢
  split at h
  ·cases h
  ·split at h
   ·rename_i ho;simp only[zcW hO ho];exact zbI hO h
   ·rename_i ho
    simp only[zcW hO ho]
    split at h
    ·rename_i hl;simp only[zcg hO hl];exact h
    ·cases h
   ·cases h
theorem zaG{Γ Δ:Oracle}{Λ Λ':zah}{b:Nat}(hO:OLe Γ Δ)(hL:LLe Λ Λ'):∀{c:ACode} {st:St} {r:AExit × St},aexec Γ Λ b c st=some r->aexec Δ Λ' b c st=some r:=by
 intro c
 induction c with
 |skip=>intro st r h;exact h
 |settle l=>intro st r h;exact h
 |doom l keep=>
  intro st r h
  simp only[aexec] at h ⊢
  split at h
  ·rename_i ho;rw[zbI hO ho];exact h
  ·rename_i ho;rw[zbI hO ho];exact h
  ·cases h
 |region pan ops keep=>
  intro st r h
  simp only[aexec] at h ⊢
  split at h
  ·rename_i ho;rw[zcg hO ho];exact h
  ·rename_i ho;rw[zcg hO ho];exact h
  ·cases h
 |seq x y ihx ihy=>
  intro st r h
  simp only[aexec] at h ⊢
  split at h
  ·rename_i ho;rw[ihx ho];exact ihy h
  ·rename_i hn
   rw[ihx h]
   split
   ·rename_i e;cases e;exact(hn _ h).elim
   ·rfl
 |cond c x y ihx ihy=>
  intro st r h
  simp only[aexec] at h ⊢
  split at h
  ·exact ihx h
  ·exact ihy h
  ·cases h
 |block id c ih=>
  intro st r h
  simp only[aexec] at h ⊢
  split at h
  ·rename_i ho;rw[ih ho];exact h
  ·rename_i hn
   rw[ih h]
   split
   ·rename_i e;cases e;exact(hn _ _ h).elim
   ·rfl
 |loop keep c ih=>intro st r h;exact hL _ _ _ _ _ _ h
 |exit id=>intro st r h;exact h
 |ret=>intro st r h;exact h

theorem zaY{Γ Δ:Oracle}(hO:OLe Γ Δ):∀{n m:Nat},n<=m->LLe (aloop Γ n) (aloop Δ m)
 |0,m,_=>fun _ _ _ _ _ _ h=>by cases h
 |n+1,0,h=>by omega
 |n+1,m+1,hnm=>fun b k keep c st r h=>by
  simp only[aloop] at h ⊢
  split at h
  ·rename_i ho
   rw[zaG hO (zaY hO (by omega:n<=m)) ho]
   exact zaY hO (by omega:n<=m) _ _ _ _ _ _ h
  ·rename_i hn
   rw[zaG hO (zaY hO (by omega:n<=m)) h]
   split
   ·rename_i e;cases e;exact(hn _ h).elim
   ·rfl

theorem zja{Γ Δ:Oracle}(hO:OLe Γ Δ){op:ATop}{st:St}{ds:List AV}{r:AExit × St × List AV}(h:atop Γ op st ds=some r):atop Δ op st ds=some r:=by
 cases op with
 |dfr s=>exact h
 |range self f ps env=>cases h
theorem zcv{Γ Δ:Oracle}{Λ Λ':zah}{b:Nat}(hO:OLe Γ Δ)(hL:LLe Λ Λ'):∀{l:List (ATop × ACode)} {c:ACode} {st:St} {ds:List AV} {r:AExit × St × List AV},apieces Γ Λ b l c st ds=some r->apieces Δ Λ' b l c st ds=some r
 |[],c,st,ds,r,h=>by
  simp only[apieces] at h ⊢
  split at h
  ·rename_i ho;rw[zaG hO hL ho];exact h
  ·cases h
 |(op,c2)::l,c,st,ds,r,h=>by
  simp only[apieces] at h ⊢
  split at h
  ·rename_i ho
   rw[zaG hO hL ho]
   split at h
   ·rename_i ha;simp only[zja hO ha];exact zcv hO hL h
   ·cases h
  ·rename_i e st1 hne ho
   rw[zaG hO hL ho]
   cases e with
   |normal=>exact(hne rfl).elim
   |_=>exact h
  ·cases h
theorem zbp{Γ Δ:Oracle}(hO:OLe Γ Δ):∀{ds:List AV} {p:Option PV} {hp:Heap} {r:Option PV × Heap},aunwind Γ ds p hp=some r->aunwind Δ ds p hp=some r
 |[],p,hp,r,h=>h
 |c::ds,p,hp,r,h=>by
  simp only[aunwind] at h ⊢
  split at h
  ·split at h
   ·rename_i hg;simp only[hO _ _ _ _ _ hg];exact zbp hO h
   ·cases h
  ·cases h
theorem zgd{Γ Δ:Oracle}(hO:OLe Γ Δ){fn:AFn}{q:AExit × St × List AV}{r:ARes × Heap}(h:aleave Γ fn (some q)=some r):aleave Δ fn (some q)=some r:=by
 obtain⟨e,st,ds⟩:=q
 cases e with
 |exit i=>cases h
 |normal=>
  simp only[aleave] at h ⊢
  split at h
  ·rename_i hu;simp only[zbp hO hu];exact h
  ·cases h
 |ret=>
  simp only[aleave] at h ⊢
  split at h
  ·rename_i hu;simp only[zbp hO hu];exact h
  ·cases h
 |panic v=>
  simp only[aleave] at h ⊢
  split at h
  ·rename_i hu;simp only[zbp hO hu];exact h
  ·rename_i hu;simp only[zbp hO hu];exact h
  ·cases h
theorem zdI{Γ Δ:Oracle}{Λ Λ':zah}(hO:OLe Γ Δ)(hL:LLe Λ Λ'){fn:AFn}{args:List AV}{hp:Heap}{r:ARes × Heap}(h:abody Γ Λ fn args hp=some r):abody Δ Λ' fn args hp=some r:=by
 unfold abody at h ⊢
 split at h
 ·cases h
 ·rename_i hn
  rw[if_neg hn]
  cases hmore:fn.more with
  |nil=>
   simp only[hmore] at h ⊢
   split at h
   ·rename_i ho;rw[zaG hO hL ho];exact h
   ·rename_i ho;rw[zaG hO hL ho];exact h
   ·rename_i ho;rw[zaG hO hL ho];exact h
   ·cases h
  |cons x l=>
   simp only[hmore] at h ⊢
   cases hq:apieces Γ Λ 0 (x::l) fn.code ⟨params 0 args,hp⟩ [] with
   |none=>rw[hq] at h;cases h
   |some q=>
    rw[hq] at h
    rw[zcv hO hL hq]
    exact zgd hO h

theorem zfh{F:FuncId->Option AFn}{prim:FuncId->Option zbW}{Γ Δ:Oracle}{Λ Λ':zah}(hO:OLe Γ Δ)(hL:LLe Λ Λ'){f:FuncId}{as:List AV}{hp:Heap}{r:ARes × Heap}(h:zbe F prim Γ Λ f as hp=some r):zbe F prim Δ Λ' f as hp=some r:=by
 unfold zbe at h ⊢
 split at h
 ·exact h
 ·split at h
  ·cases h
  ·rename_i fn _
   by_cases hr:fn.rcv.isSome=true
   ·rw[if_pos hr] at h;cases h
   simp only[if_neg hr] at h ⊢
   by_cases hm:fn.heapMode=true
   ·simp only[hm,if_true] at h ⊢
    split at h
    ·rename_i ho;rw[zdI hO hL ho];exact h
    ·rename_i ho;rw[zdI hO hL ho];exact h
    ·cases h
   ·rw[if_neg hm] at h ⊢
    split at h
    ·cases h
    ·split at h
     ·rename_i ho;rw[zdI hO hL ho];exact h
     ·rename_i ho;rw[zdI hO hL ho];exact h
     ·cases h
theorem zgX{F:FuncId->Option AFn}{prim:FuncId->Option zbW}{Γ Δ:Oracle}{Λ Λ':zah}(hO:OLe Γ Δ)(hL:LLe Λ Λ'):OLe (acall F prim Γ Λ) (acall F prim Δ Λ'):=by
 intro k f as hp r h
 cases k with
 |fn=>exact zfh hO hL h
 |rnd=>exact absurd (show(none:Option (ARes × Heap))=some _ from h) (by simp)
 |dfr=>exact absurd (show(none:Option (ARes × Heap))=some _ from h) (by simp)
 |seq=>
  simp only[acall] at h ⊢
  split at h
  ·rename_i hs;rw[if_pos hs];exact zfh hO hL h
  ·cases h

theorem zbR{F:FuncId->Option AFn}{prim:FuncId->Option zbW}:∀{n m:Nat},n<=m->OLe (asem F prim n) (asem F prim m)
 |0,_,_=>fun _ _ _ _ _ h=>by cases h
 |n+1,0,h=>by omega
 |n+1,m+1,h=>zgX (zbR (by omega)) (zaY (zbR (by omega)) (by omega))

noncomputable def sem(F:FuncId->Option AFn)(prim:FuncId->Option zbW):Oracle:=fun k f as hp=>
 open Classical in if h:∃n r,asem F prim n k f as hp=some r then some h.choose_spec.choose else none
noncomputable def sloop(F:FuncId->Option AFn)(prim:FuncId->Option zbW):zah:=fun b m keep c st=>
 open Classical in if h:∃n r,aloop (asem F prim n) n b m keep c st=some r then some h.choose_spec.choose else none

variable{F:FuncId->Option AFn} {prim:FuncId->Option zbW}
theorem sem_iff{k:Kind}{f:FuncId}{as:List AV}{hp:Heap}{r:ARes × Heap}:sem F prim k f as hp=some r↔∃n,asem F prim n k f as hp=some r:=by
 unfold sem
 constructor
 ·intro h
  split at h
  ·rename_i he
   cases h
   exact⟨_,he.choose_spec.choose_spec⟩
  ·cases h
 ·rintro⟨n,hn⟩
  have he:∃n r,asem F prim n k f as hp=some r:=⟨n,r,hn⟩
  rw[dif_pos he]
  have h1:=zbR (Nat.le_max_left n he.choose) _ _ _ _ _ hn
  have h2:=zbR (Nat.le_max_right n he.choose) _ _ _ _ _ he.choose_spec.choose_spec
  rw[h1] at h2
  exact h2.symm
theorem sloop_iff{b m:Nat}{keep:List Nat}{c:ACode}{st:St}{r:AExit × St}:sloop F prim b m keep c st=some r↔∃n,aloop (asem F prim n) n b m keep c st=some r:=by
 unfold sloop
 constructor
 ·intro h
  split at h
  ·rename_i he
   cases h
   exact⟨_,he.choose_spec.choose_spec⟩
  ·cases h
 ·rintro⟨n,hn⟩
  have he:∃n r,aloop (asem F prim n) n b m keep c st=some r:=⟨n,r,hn⟩
  rw[dif_pos he]
  have h1:=zaY (zbR (F:=F) (prim:=prim) (Nat.le_max_left n he.choose)) (Nat.le_max_left n he.choose) _ _ _ _ _ _ hn
  have h2:=zaY (zbR (F:=F) (prim:=prim) (Nat.le_max_right n he.choose)) (Nat.le_max_right n he.choose) _ _ _ _ _ _ he.choose_spec.choose_spec
  rw[h1] at h2
  exact h2.symm
theorem zkq{n:Nat}:OLe (asem F prim n) (sem F prim):=fun _ _ _ _ _ h=>sem_iff.2 ⟨n,h⟩
theorem zlj{n:Nat}:LLe (aloop (asem F prim n) n) (sloop F prim):=fun _ _ _ _ _ _ h=>sloop_iff.2 ⟨n,h⟩
abbrev up{n m:Nat}(h:n<=m):OLe (asem F prim n) (asem F prim m):=zbR h
theorem upl{n m:Nat}(h:n<=m):LLe (aloop (asem F prim n) n) (aloop (asem F prim m) m):=zaY (zbR h) h

theorem zeV{vs:List AV}{hp:Heap}{r:OpRes}(h:zcz (sem F prim) hp vs=some r):∃n,zcz (asem F prim n) hp vs=some r:=by
 cases vs with
 |nil=>cases h
 |cons a as=>
  have gen:(match za4 a with
    |some (g,first,captured)=>match sem F prim .fn g (first++as++captured) hp with
     |some (.ret v,hp')=>some (OpRes.val v hp')
     |some (.panic v,hp')=>some (.panic v hp')
     |none=>none
    |none=>none)=some r->∃n,(match za4 a with
    |some (g,first,captured)=>match asem F prim n .fn g (first++as++captured) hp with
     |some (.ret v,hp')=>some (OpRes.val v hp')
     |some (.panic v,hp')=>some (.panic v hp')
     |none=>none
    |none=>none)=some r:=by
   intro h
   split at h
   ·split at h
    ·rename_i hg
     obtain⟨n,hn⟩:=sem_iff.1 hg
     exact⟨n,by simp only[hn];exact h⟩
    ·rename_i hg
     obtain⟨n,hn⟩:=sem_iff.1 hg
     exact⟨n,by simp only[hn];exact h⟩
    ·cases h
   ·cases h
  cases a with
  |yield q=>
   simp only[zcz] at h ⊢
   split at h
   ·split at h
    ·rename_i hg
     obtain⟨n,hn⟩:=sem_iff.1 hg
     exact⟨n,by simp only[hn];exact h⟩
    ·cases h
   ·cases h
  |_=>exact gen h
theorem zhT{b:Nat}{op:AOp}{vs:List AV}{hp:Heap}{r:OpRes}(h:aOp (sem F prim) b op vs hp=some r):∃n,aOp (asem F prim n) b op vs hp=some r:=by
 cases op
 case call=>exact zeV h
 case calln n=>
  simp only[aOp,zgz] at h ⊢
  cases hc:zcz (sem F prim) hp (vs.drop n) with
  |none=>rw[hc] at h;cases h
  |some q=>
   rw[hc] at h
   obtain⟨k,hk⟩:=zeV hc
   exact⟨k,by rw[hk];exact h⟩
 case callg=>
  simp only[aOp,zgA] at h ⊢
  cases hc:zcz (sem F prim) hp vs with
  |none=>rw[hc] at h;cases h
  |some q=>
   rw[hc] at h
   obtain⟨k,hk⟩:=zeV hc
   exact⟨k,by rw[hk];exact h⟩
 case callp=>
  simp only[aOp,zeb] at h ⊢
  split at h
  ·split at h
   ·rename_i ps he
    split at h
    ·rename_i v hp' hg
     obtain⟨n,hn⟩:=sem_iff.1 hg
     exact⟨n,by simp only[hn];exact h⟩
    ·cases h
   ·cases h
  ·cases h
 case callh=>
  simp only[aOp,zgy] at h ⊢
  split at h
  ·split at h
   ·split at h
    ·rename_i v hp' hg
     obtain⟨n,hn⟩:=sem_iff.1 hg
     exact⟨n,by simp only[hn];exact h⟩
    ·cases h
   ·cases h
  ·cases h
 all_goals exact⟨0,h⟩

theorem zdk{b:Nat}:∀{ops:List AOper} {fr:Fr} {hp:Heap} {r:AExit × Fr × Heap},aops (sem F prim) b ops fr hp=some r->∃n,aops (asem F prim n) b ops fr hp=some r
 |[],_,_,_,h=>⟨0,h⟩
 |o::rest,fr,hp,r,h=>by
  simp only[aops] at h ⊢
  split at h
  ·cases h
  ·exact zdk h
  ·split at h
   ·cases h
   ·split at h
    ·rename_i ho
     obtain⟨n,hn⟩:=zhT ho
     obtain⟨m,hm⟩:=zdk h
     refine⟨max n m,?_⟩
     rw[zew (up (Nat.le_max_left n m)) hn]
     exact zcg (up (Nat.le_max_right n m)) hm
    ·rename_i ho
     obtain⟨n,hn⟩:=zhT ho
     exact⟨n,by rw[hn];exact h⟩
    ·cases h

theorem zge{hp:Heap}{vs:List AV}{r:OpRes}(h:zca (sem F prim) hp vs=some r):∃n,zca (asem F prim n) hp vs=some r:=by
 unfold zca at h ⊢
 split at h
 ·split at h
  ·split at h
   ·rename_i hg
    obtain⟨n,hn⟩:=sem_iff.1 hg
    exact⟨n,by simp only[hn];exact h⟩
   ·rename_i hg
    obtain⟨n,hn⟩:=sem_iff.1 hg
    exact⟨n,by simp only[hn];exact h⟩
   ·cases h
  ·cases h
 ·cases h
theorem zcG{b:Nat}:∀{l:List (AOper × Option (List AOper))} {fr:Fr} {hp:Heap} {r:AExit × Fr × Heap},zcN (sem F prim) b l fr hp=some r->∃n,zcN (asem F prim n) b l fr hp=some r
 |[],_,_,_,h=>⟨0,h⟩
 |(o,none)::rest,fr,hp,r,h=>by
  simp only[zcN] at h ⊢
  split at h
  ·cases h
  ·exact zcG h
  ·split at h
   ·cases h
   ·split at h
    ·rename_i ho
     obtain⟨n,hn⟩:=zhT ho
     obtain⟨m,hm⟩:=zcG h
     refine⟨max n m,?_⟩
     rw[zew (up (Nat.le_max_left n m)) hn]
     exact zbI (up (Nat.le_max_right n m)) hm
    ·cases h
 |(o,some later)::rest,fr,hp,r,h=>by
  simp only[zcN] at h ⊢
  split at h
  ·cases h
  ·split at h
   ·rename_i ho
    obtain⟨n,hn⟩:=zge ho
    obtain⟨m,hm⟩:=zcG h
    refine⟨max n m,?_⟩
    simp only[zcW (up (Nat.le_max_left n m)) hn]
    exact zbI (up (Nat.le_max_right n m)) hm
   ·rename_i ho
    obtain⟨n,hn⟩:=zge ho
    split at h
    ·rename_i hl
     obtain⟨m,hm⟩:=zdk hl
     refine⟨max n m,?_⟩
     simp only[zcW (up (Nat.le_max_left n m)) hn,zcg (up (Nat.le_max_right n m)) hm]
     exact h
    ·cases h
   ·cases h

theorem zbq{b:Nat}:∀{c:ACode} {st:St} {r:AExit × St},aexec (sem F prim) (sloop F prim) b c st=some r->∃n,aexec (asem F prim n) (aloop (asem F prim n) n) b c st=some r:=by
 intro c
 induction c with
 |skip=>intro st r h;exact⟨0,h⟩
 |settle l=>intro st r h;exact⟨0,h⟩
 |doom l keep=>
  intro st r h
  simp only[aexec] at h ⊢
  split at h
  ·rename_i ho
   obtain⟨n,hn⟩:=zcG ho
   exact⟨n,by rw[hn];exact h⟩
  ·rename_i ho
   obtain⟨n,hn⟩:=zcG ho
   exact⟨n,by rw[hn];exact h⟩
  ·cases h
 |region pan ops keep=>
  intro st r h
  simp only[aexec] at h ⊢
  split at h
  ·rename_i ho
   obtain⟨n,hn⟩:=zdk ho
   exact⟨n,by rw[hn];exact h⟩
  ·rename_i ho
   obtain⟨n,hn⟩:=zdk ho
   exact⟨n,by rw[hn];exact h⟩
  ·cases h
 |seq x y ihx ihy=>
  intro st r h
  simp only[aexec] at h ⊢
  split at h
  ·rename_i ho
   obtain⟨n,hn⟩:=ihx ho
   obtain⟨m,hm⟩:=ihy h
   refine⟨max n m,?_⟩
   rw[zaG (up (Nat.le_max_left n m)) (upl (Nat.le_max_left n m)) hn]
   exact zaG (up (Nat.le_max_right n m)) (upl (Nat.le_max_right n m)) hm
  ·rename_i hn
   obtain⟨n,h1⟩:=ihx h
   refine⟨n,?_⟩
   rw[h1]
   split
   ·rename_i e;cases e;exact(hn _ h).elim
   ·rfl
 |cond c x y ihx ihy=>
  intro st r h
  simp only[aexec] at h ⊢
  split at h
  ·exact ihx h
  ·exact ihy h
  ·cases h
 |block id c ih=>
  intro st r h
  simp only[aexec] at h ⊢
  split at h
  ·rename_i ho
   obtain⟨n,hn⟩:=ih ho
   exact⟨n,by rw[hn];exact h⟩
  ·rename_i hn
   obtain⟨n,h1⟩:=ih h
   refine⟨n,?_⟩
   rw[h1]
   split
   ·rename_i e;cases e;exact(hn _ _ h).elim
   ·rfl
 |loop keep c ih=>intro st r h;exact sloop_iff.1 h
 |exit id=>intro st r h;exact⟨0,h⟩
 |ret=>intro st r h;exact⟨0,h⟩

theorem znU{op:ATop}{st:St}{ds:List AV}{r:AExit × St × List AV}(h:atop (sem F prim) op st ds=some r):∃n,atop (asem F prim n) op st ds=some r:=by
 cases op with
 |dfr s=>exact⟨0,h⟩
 |range self f ps env=>cases h
theorem zfi{b:Nat}:∀{l:List (ATop × ACode)} {c:ACode} {st:St} {ds:List AV} {r:AExit × St × List AV},apieces (sem F prim) (sloop F prim) b l c st ds=some r->∃n,apieces (asem F prim n) (aloop (asem F prim n) n) b l c st ds=some r
 |[],c,st,ds,r,h=>by
  simp only[apieces] at h ⊢
  split at h
  ·rename_i ho
   obtain⟨n,hn⟩:=zbq ho
   exact⟨n,by rw[hn];exact h⟩
  ·cases h
 |(op,c2)::l,c,st,ds,r,h=>by
  simp only[apieces] at h ⊢
  split at h
  ·rename_i ho
   obtain⟨n,hn⟩:=zbq ho
   split at h
   ·rename_i ha
    obtain⟨m,hm⟩:=znU ha
    obtain⟨k,hk⟩:=zfi h
    refine⟨max n (max m k),?_⟩
    rw[zaG (up (by omega:n<=max n (max m k))) (upl (by omega)) hn]
    simp only[zja (up (by omega:m<=max n (max m k))) hm]
    exact zcv (up (by omega:k<=max n (max m k))) (upl (by omega)) hk
   ·cases h
  ·rename_i e st1 hne ho
   obtain⟨n,hn⟩:=zbq ho
   refine⟨n,?_⟩
   rw[hn]
   cases e with
   |normal=>exact(hne rfl).elim
   |_=>exact h
  ·cases h
theorem zbS:∀{ds:List AV} {p:Option PV} {hp:Heap} {r:Option PV × Heap},aunwind (sem F prim) ds p hp=some r->∃n,aunwind (asem F prim n) ds p hp=some r
 |[],p,hp,r,h=>⟨0,h⟩
 |c::ds,p,hp,r,h=>by
  simp only[aunwind] at h ⊢
  split at h
  ·split at h
   ·rename_i hg
    obtain⟨n,hn⟩:=sem_iff.1 hg
    obtain⟨m,hm⟩:=zbS h
    refine⟨max n m,?_⟩
    simp only[up (F:=F) (prim:=prim) (Nat.le_max_left n m) _ _ _ _ _ hn]
    exact zbp (up (Nat.le_max_right n m)) hm
   ·cases h
  ·cases h
theorem zkr{fn:AFn}{q:AExit × St × List AV}{r:ARes × Heap}(h:aleave (sem F prim) fn (some q)=some r):∃n,aleave (asem F prim n) fn (some q)=some r:=by
 obtain⟨e,st,ds⟩:=q
 cases e with
 |exit i=>cases h
 |normal=>
  simp only[aleave] at h ⊢
  split at h
  ·rename_i hu
   obtain⟨n,hn⟩:=zbS hu
   exact⟨n,by simp only[hn];exact h⟩
  ·cases h
 |ret=>
  simp only[aleave] at h ⊢
  split at h
  ·rename_i hu
   obtain⟨n,hn⟩:=zbS hu
   exact⟨n,by simp only[hn];exact h⟩
  ·cases h
 |panic v=>
  simp only[aleave] at h ⊢
  split at h
  ·rename_i hu
   obtain⟨n,hn⟩:=zbS hu
   exact⟨n,by simp only[hn];exact h⟩
  ·rename_i hu
   obtain⟨n,hn⟩:=zbS hu
   exact⟨n,by simp only[hn];exact h⟩
  ·cases h
theorem zdJ{fn:AFn}{args:List AV}{hp:Heap}{r:ARes × Heap}(h:abody (sem F prim) (sloop F prim) fn args hp=some r):∃n,abody (asem F prim n) (aloop (asem F prim n) n) fn args hp=some r:=by
 unfold abody at h ⊢
 split at h
 ·cases h
 ·rename_i hn
  simp only[if_neg hn]
  cases hmore:fn.more with
  |nil=>
   simp only[hmore] at h ⊢
   split at h
   ·rename_i ho
    obtain⟨n,hn⟩:=zbq ho
    exact⟨n,by rw[hn];exact h⟩
   ·rename_i ho
    obtain⟨n,hn⟩:=zbq ho
    exact⟨n,by rw[hn];exact h⟩
   ·rename_i ho
    obtain⟨n,hn⟩:=zbq ho
    exact⟨n,by rw[hn];exact h⟩
   ·cases h
  |cons x l=>
   simp only[hmore] at h ⊢
   cases hq:apieces (sem F prim) (sloop F prim) 0 (x::l) fn.code ⟨params 0 args,hp⟩ [] with
   |none=>rw[hq] at h;cases h
   |some q=>
    rw[hq] at h
    obtain⟨n,hn⟩:=zfi hq
    obtain⟨m,hm⟩:=zkr h
    refine⟨max n m,?_⟩
    rw[zcv (up (Nat.le_max_left n m)) (upl (Nat.le_max_left n m)) hn]
    exact zgd (up (Nat.le_max_right n m)) hm

theorem zfj{f:FuncId}{as:List AV}{hp:Heap}{r:ARes × Heap}(h:zbe F prim (sem F prim) (sloop F prim) f as hp=some r):∃n,zbe F prim (asem F prim n) (aloop (asem F prim n) n) f as hp=some r:=by
 unfold zbe at h ⊢
 split at h
 ·exact⟨0,h⟩
 ·split at h
  ·cases h
  ·rename_i fn _
   by_cases hr:fn.rcv.isSome=true
   ·rw[if_pos hr] at h;cases h
   simp only[if_neg hr] at h ⊢
   by_cases hm:fn.heapMode=true
   ·simp only[hm,if_true] at h ⊢
    split at h
    ·rename_i ho
     obtain⟨n,hn⟩:=zdJ ho
     exact⟨n,by rw[hn];exact h⟩
    ·rename_i ho
     obtain⟨n,hn⟩:=zdJ ho
     exact⟨n,by rw[hn];exact h⟩
    ·cases h
   ·simp only[if_neg hm] at h ⊢
    split at h
    ·cases h
    ·split at h
     ·rename_i ho
      obtain⟨n,hn⟩:=zdJ ho
      exact⟨n,by rw[hn];exact h⟩
     ·rename_i ho
      obtain⟨n,hn⟩:=zdJ ho
      exact⟨n,by rw[hn];exact h⟩
     ·cases h
theorem zma{k:Kind}{f:FuncId}{as:List AV}{hp:Heap}{r:ARes × Heap}(h:acall F prim (sem F prim) (sloop F prim) k f as hp=some r):∃n,acall F prim (asem F prim n) (aloop (asem F prim n) n) k f as hp=some r:=by
 cases k with
 |fn=>exact zfj h
 |rnd=>exact absurd (show(none:Option (ARes × Heap))=some _ from h) (by simp)
 |dfr=>exact absurd (show(none:Option (ARes × Heap))=some _ from h) (by simp)
 |seq=>
  simp only[acall] at h ⊢
  split at h
  ·rename_i hs
   simp only[if_pos hs]
   exact zfj h
  ·cases h

theorem zra(k:Kind)(f:FuncId)(as:List AV)(hp:Heap):sem F prim k f as hp=acall F prim (sem F prim) (sloop F prim) k f as hp:=by
 have to:∀r,sem F prim k f as hp=some r↔acall F prim (sem F prim) (sloop F prim) k f as hp=some r:=fun r=>by
  constructor
  ·intro h
   obtain⟨n,hn⟩:=sem_iff.1 h
   cases n with
   |zero=>cases hn
   |succ n=>exact zgX zkq zlj _ _ _ _ _ hn
  ·intro h
   obtain⟨n,hn⟩:=zma h
   exact sem_iff.2 ⟨n+1,hn⟩
 exact Option.ext fun r=>to r

theorem zlk(f:FuncId)(as:List AV)(hp:Heap):sem F prim .fn f as hp=zbe F prim (sem F prim) (sloop F prim) f as hp:=zra .fn f as hp
theorem zpF(b m:Nat)(keep:List Nat)(c:ACode)(st:St):sloop F prim b m keep c st=match aexec (sem F prim) (sloop F prim) b c st with
  |some (.normal,st')=>sloop F prim b m keep c ⟨st'.fr.keep keep,collect m b (st'.fr.keep keep) st'.hp⟩
  |r=>r:=by
 have to:∀r,sloop F prim b m keep c st=some r↔(match aexec (sem F prim) (sloop F prim) b c st with
  |some (.normal,st')=>sloop F prim b m keep c ⟨st'.fr.keep keep,collect m b (st'.fr.keep keep) st'.hp⟩
  |r=>r)=some r:=fun r=>by
  constructor
  ·intro h
   obtain⟨n,hn⟩:=sloop_iff.1 h
   cases n with
   |zero=>cases hn
   |succ n=>
    simp only[aloop] at hn
    have hle:LLe (aloop (asem F prim (n+1)) n) (sloop F prim):=(zaY (OLe.refl _) (by omega:n<=n+1)).trans zlj
    split at hn
    ·rename_i ho
     rw[zaG zkq hle ho]
     exact hle _ _ _ _ _ _ hn
    ·rename_i hne
     rw[zaG zkq hle hn]
     split
     ·rename_i e;cases e;exact(hne _ hn).elim
     ·rfl
  ·intro h
   split at h
   ·rename_i ho
    obtain⟨n,hn⟩:=zbq ho
    obtain⟨k,hk⟩:=sloop_iff.1 h
    refine sloop_iff.2 ⟨max n k+1,?_⟩
    simp only[aloop]
    rw[zaG (up (by omega:n<=max n k+1)) (zaY (up (by omega)) (by omega)) hn]
    exact zaY (up (by omega:k<=max n k+1)) (by omega) _ _ _ _ _ _ hk
   ·rename_i hne
    obtain⟨n,hn⟩:=zbq h
    refine sloop_iff.2 ⟨n+1,?_⟩
    simp only[aloop]
    rw[zaG (up (by omega:n<=n+1)) (zaY (up (by omega)) (by omega)) hn]
    split
    ·rename_i e;cases e;exact(hne _ h).elim
    ·rfl
 exact Option.ext fun r=>to r

theorem znV{P:Program}(hmix:P.follows .mixedOrders=true)(hF:zko P F)(hP:zfg P prim):SoundO P (sem F prim) where
 fn f as hp r hp' h:=by
  obtain⟨n,hn⟩:=sem_iff.1 h
  exact(zb8 hmix hF hP n).fn f as hp r hp' hn
 seq f as hp r hp' h:=by
  obtain⟨n,hn⟩:=sem_iff.1 h
  exact(zb8 hmix hF hP n).seq f as hp r hp' hn
 rnd f q as hp v hp' ps env h:=by
  obtain⟨n,hn⟩:=sem_iff.1 h
  exact(zb8 hmix hF hP n).rnd f q as hp v hp' ps env hn
 dfr g p as hp r hp' h:=by
  obtain⟨n,hn⟩:=sem_iff.1 h
  exact(zb8 hmix hF hP n).dfr g p as hp r hp' hn
end Go.Am

/- A table of functions. -/
namespace Go.Am
def znW(P:Program)(tab:List (Nat × AFn)):Prop:=∀x∈tab,∃fnc,P.funcs[x.1]? =some fnc/\trFn P x.2.heapMode x.1 fnc=some x.2
theorem znX{P:Program}:znW P []:=fun x h=>by simp at h
theorem zac{P:Program}{f:Nat}{g:AFn}{fnc:Func}{r:List (Nat × AFn)}(h:P.funcs[f]? =some fnc)(t:trFn P g.heapMode f fnc=some g)(k:znW P r):znW P ((f,g)::r):=by
 intro x hx
 simp only[List.mem_cons] at hx
 rcases hx with rfl|hx
 ·exact⟨fnc,h,t⟩
 ·exact k x hx
def find:List (Nat × AFn)->FuncId->Option AFn
 |[],_=>none
 |(k,g)::r,f=>bif Nat.beq k f then some g else find r f
theorem zll:∀{tab:List (Nat × AFn)} {f:FuncId} {g:AFn},find tab f=some g->(f,g)∈tab
 |[],_,_,h=>by cases h
 |(k,x)::r,f,g,h=>by
  simp only[find] at h
  cases hk:Nat.beq k f with
  |true=>
   rw[hk] at h
   cases h
   simp[Nat.eq_of_beq_eq_true hk]
  |false=>
   rw[hk] at h
   exact List.mem_cons_of_mem _ (zll h)
theorem zpG{P:Program}{tab:List (Nat × AFn)}(h:znW P tab):zko P (find tab):=fun f fn hf=>h (f,fn) (zll hf)
end Go.Am

/- Contracts by hand: what the library has no body for. -/
namespace Go.Am
variable{P:Program}

def zhU:zbW:=fun _ args hp=>match args with
 |[.pv _ (.str a),.pv _ (.str b)]=>some (.ret (.pv none (.int .i64 (Lib.compareBytes a b))),hp)
 |_=>none

def zqK(P:Program)(f:FuncId)(p:zbW):Prop:=
 ∀args hp r hp',p f args hp=some (r,hp')->∀(w:World) (X:Xc P) (μ:Nat->Option Nat) (vs:List Value),HR w X μ hp->LR w X μ hp args vs->Called P f vs.toArray w (zbb hp.length w X μ hp r hp')

theorem zmb{f:FuncId}{fn:Func}(hf:P.funcs[f]? =some fn)(hname:(fn.name == "runtime.NumGoroutine")=false)(hb:fn.body.isNone=true)(hn:Extern.findNext fn=none)
  (he:Extern.find fn=some Extern.BytealgCompare.compare):zqK P f zhU:=by
 intro args hp r hp' h w X μ vs hH hl
 unfold zhU at h
 split at h
 ·rename_i s1 a s2 b
  cases h
  cases hl with|cons h1 hl=>
  cases hl with|cons h2 hl=>
  cases hl
  cases h1 with|pv _ _ _ _ h1=>
  cases h2 with|pv _ _ _ _ h2=>
  cases h1
  cases h2
  refine .inr ⟨.int .i64 (Lib.compareBytes a b),w,?_,μ,.pv none (.int .i64 (Lib.compareBytes a b)),rfl,hH,Ext.refl _ _ _ _ _,.pv _ _ _ rfl (.int _ _)⟩
  rw[run_callFunc_extern hf hname hb hn he,Lib.run_compareString]
  rfl
 ·cases h

theorem zmc:zfg P (fun _=>none):=fun f p h=>by cases h
theorem zks{prim:FuncId->Option zbW}{f:FuncId}{p:zbW}(h:zqK P f p)(k:zfg P prim):zfg P (fun g=>bif Nat.beq f g then some p else prim g):=by
 intro g q hq
 cases hk:Nat.beq f g with
 |true=>
  simp only[hk,cond_true] at hq
  cases hq
  have:=Nat.eq_of_beq_eq_true hk
  subst this
  exact h
 |false=>
  simp only[hk,cond_false] at hq
  exact k g q hq
end Go.Am

/- From a run of the abstract machine to what a law's row wants. -/
namespace Go.Am
open Go.ChangeShapes Go.WideShapes Go.ChangeAt Go.RowKit
variable{P:Program} {H:Type} {enc:TypeId × Value->H}

theorem zjb{f:FuncId}{fn:Func}{c:Code}{args:Array Value}{w:World}{R:Ending->World->Prop}(hf:P.funcs[f]? =some fn)(hb:fn.body=some c)(hn:fn.name≠ "runtime.NumGoroutine")
  (h:Called P f args w R):Calls P f args w R:=by
 rcases h with⟨_,h⟩|⟨v,w',h,_⟩
 ·exact h
 ·rw[zdi hf hb hn] at h;cases h

abbrev noX:Xc P:=⟨fun _=>False⟩
abbrev noμ:Nat->Option Nat:=fun _=>none

theorem zpH(w:World):HR w (noX (P:=P)) noμ []:=
 ⟨fun i _ _ hi=>by simp at hi,fun i _ hi=>by simp at hi,fun b hb=>hb.elim,fun i sh v h=>by simp at h,fun i sh es fz h=>by simp at h,fun i sh es h=>by simp at h,fun i f ps env bz h=>by simp at h,fun i sh es h=>by simp at h⟩

theorem znY{b0:Nat}{X:Xc P}{μ μ':Nat->Option Nat}{hp':Heap}{w w':World}(h:Ext b0 X μ [] w μ' hp' w'):Below w.heap.size w w':=
 ⟨h.os,h.tape,h.output,h.size,fun k hk=>h.blk k hk fun i hi=>by simp[live] at hi⟩

theorem zmd{w w':World}(h:Below w.heap.size w w')(may:MemPlace->Prop):w.keptBut w' may:=by
 refine⟨h.os,h.output,fun i hi=> ?_⟩
 rw[h.block i hi]
 cases w.heap[i]? with
 |none=>trivial
 |some o=>cases o <;> simp

theorem zex(hl:laidOutB P=true){W W':World}(hb:Below W.heap.size W W'):∀{ts:List TypeId} {vs:List Value} {ds:List (DataW H)} {p:List MemPlace},
  (∀t∈ts,P.readableRec t=true/\t<P.types.size)->(∀x∈p,x.block<W.heap.size)->DataW.TrodAll enc P W 0 (fun _=>true) true ts vs ds p->DataW.TrodAll enc P W' 0 (fun b=>decide (b<W.heap.size)) true ts vs ds p
 |[],_,_,_,_,_,h=>by
  obtain⟨rfl,rfl,rfl⟩:=trodAll_nil h
  exact trodAll_mk0
 |t::ts,_,_,_,ht,hp,h=>by
  obtain⟨v,vs,d,ds,a,b,rfl,rfl,rfl,h1,h2⟩:=trodAll_cons h
  obtain⟨k1,k2⟩:=ht t (by simp)
  exact⟨a,b,Below.trod hl k1 k2 h1 hb fun x hx=>hp x (by simp[hx]),zex hl hb (fun t h=>ht t (by simp[h])) (fun x hx=>hp x (by simp[hx])) h2,rfl⟩

def zpI(P:Program)(fn:Func):Bool:=fn.params.toList.all fun t=>P.readableRec t && decide (t<P.types.size)
def znZ(P:Program)(fn:Func):Bool:=
 match fn.resultTypes.toList with
 |[t]=>zhj P t
 |_=>false
def zrL(P:Program)(fn:Func):Bool:=zpI P fn && znZ P fn && fn.body.isSome && !(fn.name == "runtime.NumGoroutine")

theorem zjc{Γ:Oracle}(hΓ:SoundO P Γ){f:FuncId}{fn:Func}(hf:P.funcs[f]? =some fn)(hfn:zrL P fn=true)(hl:laidOutB P=true){s:ChangeSpec}(hv:s.vars=[])
  {W:World}{args:Array Value}{ds gs:List (DataW H)}{before:List MemPlace}(hs:s.fn H (ds++gs)={ results:=[.lit (.bool true)],args:=ds })
  (hW:DataW.Whole enc P fn.params.toList s.vars false W args.toList ds gs before)
  {avs:List AV}(hL:LR W (noX (P:=P)) noμ [] avs args.toList)(h:Γ .fn f avs []=some (.ret (.pv none (.bool true)),[])):
  Calls P f args W fun e W'=>∃v,e=.returned v/\s.post enc P fn false true false false W args v W':=by
 simp only[zrL,Bool.and_eq_true,Bool.not_eq_true',beq_eq_false_iff_ne,Option.isSome_iff_exists] at hfn
 obtain⟨⟨⟨hp,hbr⟩,c,hb⟩,hn⟩:=hfn
 obtain⟨tb,hr,htb⟩:∃tb,fn.resultTypes= #[tb]/\P.underlying tb=some .bool:=by
  unfold znZ at hbr
  split at hbr
  ·rename_i t ht
   exact⟨t,Array.toList_inj.1 ht,zgD hbr⟩
  ·cases hbr
 have k:=hΓ.fn f avs [] _ _ h W noX noμ args.toList (zpH W) hL
 refine(zjb hf hb hn k).mono fun e W' he=> ?_
 cases e with
 |returned u=>
  obtain⟨μ',v,e1,_,hE,hA⟩:=he
  cases e1
  cases hA with|pv _ _ _ _ hA=>
  cases hA
  have hB:=znY hE
  refine⟨_,rfl,ds,gs,before,[],before,[],hW,?_,?_,?_,zmd hB _,fun h=>by cases h⟩
  ·rw[hs,hr]
   simp only[Value.resultList]
   exact trodAll_mk1 (shut_bool htb true)
  ·rw[hs]
   have hlt:=hW.lt
   obtain⟨p,q,k1,k2,k3,_,_⟩:=hW
   rw[hv] at k2
   obtain⟨_,rfl⟩:=trodVars_none k2
   rw[List.append_nil] at k3
   subst k3
   refine zex hl hB (fun t ht=> ?_) hlt k1
   have:=List.all_eq_true.1 hp t ht
   simp only[Bool.and_eq_true,decide_eq_true_eq] at this
   exact this
  ·rw[hs,hv]
   rfl
 |panicked ch=>obtain⟨_,_,_,e1,_⟩:=he;cases e1
 |outgrown=>exact he.elim
end Go.Am

/- Terms as plain data. -/
namespace Go.Am
inductive Tm where
 |mk (kind n:Int) (name:List UInt8) (args:List Tm)
 deriving Inhabited
mutual
def Tm.pv:Tm->PV
 | .mk k n s as=>.agg [(none,.int .i64 k),(none,.int .i64 n),(none,.str s),(none,.sl (some 4) (Tm.pvs as))]
def Tm.pvs:List Tm->List PV
 |[]=>[]
 |t::r=>t.pv::Tm.pvs r
end
def Tm.kind:Tm->Int| .mk k _ _ _=>k
def Tm.n:Tm->Int| .mk _ n _ _=>n
def Tm.name:Tm->List UInt8| .mk _ _ s _=>s
def Tm.args:Tm->List Tm| .mk _ _ _ as=>as
def Tm.av(t:Tm):AV:=.pv (some 4) t.pv
end Go.Am

/- What code comes to: rules that a proof steps by. -/
namespace Go.Am
variable{Γ:Oracle} {Λ:zah} {b:Nat}

class Tag.{u} {α:Sort u} (a:α):Type where
instance tagAny.{u}{α:Sort u}(a:α):Tag a:=⟨⟩

def W(Γ:Oracle)(Λ:zah)(b:Nat)(c:ACode)(st:St)(Q:AExit->St->Prop)[Tag Q]:Prop:=
 match aexec Γ Λ b c st with
 |some (e,st')=>Q e st'
 |none=>False
def O(Γ:Oracle)(b:Nat)(ops:List AOper)(fr:Fr)(hp:Heap)(K:Fr->Heap->Prop)(Kp:PV->Fr->Heap->Prop)[Tag K][Tag Kp]:Prop:=
 match aops Γ b ops fr hp with
 |some (.normal,fr',hp')=>K fr' hp'
 |some (.panic v,fr',hp')=>Kp v fr' hp'
 |_=>False
def seqK(k:St->Prop)(Q:AExit->St->Prop)[Tag k][Tag Q]:AExit->St->Prop
 | .normal,st=>k st
 | .exit i,st=>Q (.exit i) st
 | .ret,st=>Q .ret st
 | .panic v,st=>Q (.panic v) st
def zjd(id:Nat)(Q:AExit->St->Prop)[Tag Q]:AExit->St->Prop
 | .exit i,st=>if i=id then Q .normal st else Q (.exit i) st
 | .normal,st=>Q .normal st
 | .ret,st=>Q .ret st
 | .panic v,st=>Q (.panic v) st
def zpJ(v:Option AV)(A B:Prop)[Tag A][Tag B]:Prop:=
 match v with
 |some (.pv _ (.bool b))=>if b=true then A else B
 |_=>False
def panK(pan:Bool)(A:Prop)[Tag A]:Prop:=if pan=true then A else False
def zn0(v:Option Bool)(A B:Prop)[Tag A][Tag B]:Prop:=
 match v with
 |some b=>if b=true then A else B
 |none=>False
def argK(v:Option (List AV))(K:List AV->Prop)[Tag K]:Prop:=
 match v with
 |some l=>K l
 |none=>False
def opK(v:Option OpRes)(K:AV->Heap->Prop)(Kp:PV->Heap->Prop)[Tag K][Tag Kp]:Prop:=
 match v with
 |some (.val v hp)=>K v hp
 |some (.panic v hp)=>Kp v hp
 |none=>False
def zbZ(v:Option (AV × Heap))(K:AV->Heap->Prop)[Tag K]:Prop:=
 match v with
 |some (v,hp)=>K v hp
 |none=>False
def zme(v:Option (ARes × Heap))(K:AV->Heap->Prop)(Kp:PV->Heap->Prop)[Tag K][Tag Kp]:Prop:=
 match v with
 |some (.ret v,hp)=>K v hp
 |some (.panic v,hp)=>Kp v hp
 |none=>False

variable{st:St} {Q:AExit->St->Prop} {fr:Fr} {hp:Heap} {K:Fr->Heap->Prop} {Kp:PV->Fr->Heap->Prop}
theorem zrM:W Γ Λ b .skip st Q=Q .normal st:=rfl
theorem zrN(i:Nat):W Γ Λ b (.exit i) st Q=Q (.exit i) st:=rfl
theorem zsh:W Γ Λ b .ret st Q=Q .ret st:=rfl
theorem zpK(l:List Nat):W Γ Λ b (.settle l) st Q=(match settle l st with|some st'=>Q .normal st'|none=>False):=by
 unfold W
 simp only[aexec]
 cases settle l st <;> rfl
theorem zrO(x y:ACode):W Γ Λ b (.seq x y) st Q=W Γ Λ b x st (seqK (fun st'=>W Γ Λ b y st' Q) Q):=by
 unfold W
 simp only[aexec]
 cases aexec Γ Λ b x st with
 |none=>rfl
 |some r=>
  obtain⟨e,st'⟩:=r
  cases e <;> rfl
theorem zrP(c:AArg)(x y:ACode):W Γ Λ b (.cond c x y) st Q=zpJ (st.fr.arg c) (W Γ Λ b x st Q) (W Γ Λ b y st Q):=by
 unfold W
 simp only[aexec]
 cases st.fr.arg c with
 |none=>rfl
 |some v=>
  cases v with
  |pv s p=>
   cases p with
   |bool v=>cases v <;> simp[zpJ]
   |_=>rfl
  |_=>rfl
theorem zrb(id:Nat)(c:ACode):W Γ Λ b (.block id c) st Q=W Γ Λ b c st (zjd id Q):=by
 unfold W
 simp only[aexec]
 cases aexec Γ Λ b c st with
 |none=>rfl
 |some r=>
  obtain⟨e,st'⟩:=r
  cases e with
  |exit i=>
   simp only[zjd]
   by_cases h:i=id
   ·simp[h]
   ·simp[h]
  |_=>rfl
theorem zpL(pan:Bool)(ops:List AOper)(keep:List Nat):W Γ Λ b (.region pan ops keep) st Q=O Γ b ops st.fr st.hp (fun fr hp=>Q .normal ⟨fr.keep keep,hp⟩) (fun v fr hp=>panK pan (Q (.panic v) ⟨fr.keep keep,hp⟩)):=by
 unfold W O
 simp only[aexec]
 cases aops Γ b ops st.fr st.hp with
 |none=>rfl
 |some r=>
  obtain⟨e,fr,hp⟩:=r
  cases e with
  |panic v=>cases pan <;> simp[panK]
  |_=>rfl
theorem zsi:O Γ b [] fr hp K Kp=K fr hp:=rfl
theorem zqL(o:AOper)(r:List AOper):O Γ b (o::r) fr hp K Kp=zn0 (wants fr o.guard) (argK (fr.argsOf o.args) fun vs=>opK (aOp Γ b o.op vs hp) (fun v hp'=>O Γ b r (fr.dst o.dst v) hp' K Kp) (fun v hp'=>Kp v fr hp')) (O Γ b r (fr.dst o.dst .undef) hp K Kp):=by
 unfold O
 simp only[aops]
 cases wants fr o.guard with
 |none=>rfl
 |some w=>
  cases w with
  |false=>simp[zn0]
  |true=>
   simp only[zn0,if_true]
   cases fr.argsOf o.args with
   |none=>rfl
   |some vs=>
    simp only[argK]
    cases aOp Γ b o.op vs hp with
    |none=>rfl
    |some r=>cases r <;> rfl
theorem zrQ(d:Option Nat)(op:AOp)(as:List AArg)(r:List AOper):O Γ b (⟨d,op,as,none⟩::r) fr hp K Kp=argK (fr.argsOf as) fun vs=>opK (aOp Γ b op vs hp) (fun v hp'=>O Γ b r (fr.dst d v) hp' K Kp) (fun v hp'=>Kp v fr hp'):=by
 rw[zqL];rfl
def zje(v:Option AV)(w:Bool)(A B:Prop)[Tag A][Tag B]:Prop:=
 match v with
 |some (.pv _ (.bool b))=>if b=w then A else B
 |some .undef=>B
 |_=>False
theorem zrc(d:Option Nat)(op:AOp)(as:List AArg)(s:Nat)(w:Bool)(r:List AOper):O Γ b (⟨d,op,as,some (s,w)⟩::r) fr hp K Kp=zje (fr.look s) w (argK (fr.argsOf as) fun vs=>opK (aOp Γ b op vs hp) (fun v hp'=>O Γ b r (fr.dst d v) hp' K Kp) (fun v hp'=>Kp v fr hp')) (O Γ b r (fr.dst d .undef) hp K Kp):=by
 rw[zqL]
 simp only[wants]
 cases h:fr.look s with
 |none=>rfl
 |some v=>
  cases v with
  |pv sh p=>
   cases p with
   |bool c=>cases c <;> cases w <;> simp[zn0,zje]
   |_=>rfl
  |undef=>simp[zn0,zje]
  |_=>rfl
theorem zsj(s:Nat):fr.arg (.t s)=fr.look s:=rfl
theorem zsk(v:AV):fr.arg (.c v)=some v:=rfl
theorem zn1(k s:Nat)(v:AV)(r:Fr):Fr.look ((k,v)::r) s=if k=s then some v else Fr.look r s:=rfl
theorem zpM(d:Nat)(v:AV):fr.dst (some d) v=(d,v)::fr:=rfl
theorem zpN(v:AV):fr.dst none v=fr:=rfl
theorem zpO:fr.argsOf []=some []:=rfl
def zrd(v:Option AV)(l:Option (List AV)):Option (List AV):=
 match v with
 |none=>none
 |some v=>match l with
  |some l=>some (v::l)
  |none=>none
theorem zn2(a:AArg)(r:List AArg):fr.argsOf (a::r)=zrd (fr.arg a) (fr.argsOf r):=rfl
theorem zmf(v:AV)(l:List AV):zrd (some v) (some l)=some (v::l):=rfl
theorem zn3(l:List AV)(K:List AV->Prop):argK (some l) K=K l:=rfl
def iteK(v:Prop)(A B:Prop)[Tag A][Tag B]:Prop:=(v->A)/\(¬v->B)
theorem zmg(s:Sh)(v:Bool)(A B:Prop):zpJ (some (.pv s (.bool v))) A B=iteK (v=true) A B:=by
 cases v <;> simp[zpJ,iteK]
theorem zkt(s:Sh)(v w:Bool)(A B:Prop):zje (some (.pv s (.bool v))) w A B=iteK (v=w) A B:=by
 cases v <;> cases w <;> simp[zje,iteK]
theorem zn4(A B:Prop):iteK True A B=A:=by simp[iteK]
theorem zmh(A B:Prop):iteK False A B=B:=by simp[iteK]
theorem zpP(v A B:Prop):iteK (¬v) A B=iteK v B A:=by
 by_cases h:v <;> simp[iteK,h]
theorem zas{v A B:Prop}(hA:v->A)(hB:¬v->B):iteK v A B:=⟨hA,hB⟩
attribute [irreducible] iteK
theorem zmi(v:AV)(hp:Heap)(K:AV->Heap->Prop):zbZ (some (v,hp)) K=K v hp:=rfl
theorem zn5(v:AV)(hp:Heap)(K:AV->Heap->Prop)(Kp:PV->Heap->Prop):zme (some (.ret v,hp)) K Kp=K v hp:=rfl
theorem zpQ:fr.keep []=[]:=rfl
def zrR(k:Nat)(v:Option AV)(r:Fr):Fr:=
 match v with
 |some v=>(k,v)::r
 |none=>r
theorem zn6(k:Nat)(ks:List Nat):fr.keep (k::ks)=zrR k (fr.look k) (fr.keep ks):=rfl
theorem zmj(k:Nat)(v:AV)(r:Fr):zrR k (some v) r=(k,v)::r:=rfl
theorem zku(k:St->Prop)(Q:AExit->St->Prop)(st:St):seqK k Q .normal st=k st:=rfl
theorem zn7(k:St->Prop)(Q:AExit->St->Prop)(i:Nat)(st:St):seqK k Q (.exit i) st=Q (.exit i) st:=rfl
theorem zpR(k:St->Prop)(Q:AExit->St->Prop)(st:St):seqK k Q .ret st=Q .ret st:=rfl
theorem zhV(id:Nat)(Q:AExit->St->Prop)(st:St):zjd id Q .normal st=Q .normal st:=rfl
theorem zkv(id:Nat)(Q:AExit->St->Prop)(i:Nat)(st:St):zjd id Q (.exit i) st=if i=id then Q .normal st else Q (.exit i) st:=rfl
theorem zmk(id:Nat)(Q:AExit->St->Prop)(st:St):zjd id Q .ret st=Q .ret st:=rfl
end Go.Am

/- What code comes to: the operations. -/
namespace Go.Am
variable{Γ:Oracle} {Λ:zah} {b:Nat} {hp:Heap} {vs:List AV} {K:AV->Heap->Prop} {Kp:PV->Heap->Prop}
def valK(v:Option AV)(K:AV->Prop)[Tag K]:Prop:=
 match v with
 |some v=>K v
 |none=>False
def pvK(v:Option PV)(K:PV->Prop)[Tag K]:Prop:=
 match v with
 |some v=>K v
 |none=>False
theorem zn8(v:AV)(K:AV->Prop):valK (some v) K=K v:=rfl
theorem zpS(v:PV)(K:PV->Prop):pvK (some v) K=K v:=rfl

theorem zsl:opK (aOp Γ b .mv vs hp) K Kp=valK (sMv vs) (fun v=>K v hp):=by
 show opK (match zbd hp (sMv vs) with|some (v,hp')=>some (OpRes.val v hp')|none=>none) K Kp=_
 cases sMv vs <;> rfl
theorem zrS:opK (aOp Γ b .len vs hp) K Kp=valK (sLen vs) (fun v=>K v hp):=by
 show opK (match zbd hp (sLen vs) with|some (v,hp')=>some (OpRes.val v hp')|none=>none) K Kp=_
 cases sLen vs <;> rfl
theorem zre:opK (aOp Γ b .slen vs hp) K Kp=valK (zjJ vs) (fun v=>K v hp):=by
 show opK (match zbd hp (zjJ vs) with|some (v,hp')=>some (OpRes.val v hp')|none=>none) K Kp=_
 cases zjJ vs <;> rfl
theorem zrf:opK (aOp Γ b .pick vs hp) K Kp=valK (zjG vs) (fun v=>K v hp):=by
 show opK (match zbd hp (zjG vs) with|some (v,hp')=>some (OpRes.val v hp')|none=>none) K Kp=_
 cases zjG vs <;> rfl
theorem zrT:opK (aOp Γ b .not vs hp) K Kp=valK (sNot vs) (fun v=>K v hp):=by
 show opK (match zbd hp (sNot vs) with|some (v,hp')=>some (OpRes.val v hp')|none=>none) K Kp=_
 cases sNot vs <;> rfl
theorem zrU(o:BinOp):opK (aOp Γ b (.bin o) vs hp) K Kp=valK (sBin o vs) (fun v=>K v hp):=by
 show opK (match zbd hp (sBin o vs) with|some (v,hp')=>some (OpRes.val v hp')|none=>none) K Kp=_
 cases sBin o vs <;> rfl
theorem zpT(z:List (Sh × AV))(i:List Nat):opK (aOp Γ b (.build z i) vs hp) K Kp=valK (zdW z i vs) (fun v=>K v hp):=by
 show opK (match zbd hp (zdW z i vs) with|some (v,hp')=>some (OpRes.val v hp')|none=>none) K Kp=_
 cases zdW z i vs <;> rfl
theorem zml(sh:Sh):opK (aOp Γ b (.bslicep sh) vs hp) K Kp=valK (zcl sh vs) (fun v=>K v hp):=by
 show opK (match zbd hp (zcl sh vs) with|some (v,hp')=>some (OpRes.val v hp')|none=>none) K Kp=_
 cases zcl sh vs <;> rfl
theorem zpU(o:Nat):opK (aOp Γ b (.faddr o) vs hp) K Kp=valK (ze4 o vs) (fun v=>K v hp):=by
 show opK (match zbd hp (ze4 o vs) with|some (v,hp')=>some (OpRes.val v hp')|none=>none) K Kp=_
 cases ze4 o vs <;> rfl
theorem zpV(sh:Sh):opK (aOp Γ b (.iaddr sh) vs hp) K Kp=valK (zcm sh vs) (fun v=>K v hp):=by
 show opK (match zbd hp (zcm sh vs) with|some (v,hp')=>some (OpRes.val v hp')|none=>none) K Kp=_
 cases zcm sh vs <;> rfl
theorem zn9(sh:Sh)(n:Nat):opK (aOp Γ b (.iaddrA sh n) vs hp) K Kp=valK (zbV sh n vs) (fun v=>K v hp):=by
 show opK (match zbd hp (zbV sh n vs) with|some (v,hp')=>some (OpRes.val v hp')|none=>none) K Kp=_
 cases zbV sh n vs <;> rfl
theorem zoa:opK (aOp Γ b .sindex vs hp) K Kp=valK (ze5 vs) (fun v=>K v hp):=by
 show opK (match zbd hp (ze5 vs) with|some (v,hp')=>some (OpRes.val v hp')|none=>none) K Kp=_
 cases ze5 vs <;> rfl
theorem zpW(sh:Sh)(l h:Bool):opK (aOp Γ b (.slice sh l h) vs hp) K Kp=valK (zbr sh l h vs) (fun v=>K v hp):=by
 show opK (match zbd hp (zbr sh l h vs) with|some (v,hp')=>some (OpRes.val v hp')|none=>none) K Kp=_
 cases zbr sh l h vs <;> rfl
theorem zob(f:Fn)(k:Nat):opK (aOp Γ b (.mkfunc f k) vs hp) K Kp=valK (zd0 f k vs) (fun v=>K v hp):=by
 show opK (match zbd hp (zd0 f k vs) with|some (v,hp')=>some (OpRes.val v hp')|none=>none) K Kp=_
 cases zd0 f k vs <;> rfl
theorem zrg(k:IntKind):opK (aOp Γ b (.conv k) vs hp) K Kp=valK (zjH k vs) (fun v=>K v hp):=by
 show opK (match zbd hp (zjH k vs) with|some (v,hp')=>some (OpRes.val v hp')|none=>none) K Kp=_
 cases zjH k vs <;> rfl
theorem zmm(i:Nat):opK (aOp Γ b (.extract i) vs hp) K Kp=valK (zcM i vs) (fun v=>K v hp):=by
 show opK (match zbd hp (zcM i vs) with|some (v,hp')=>some (OpRes.val v hp')|none=>none) K Kp=_
 cases zcM i vs <;> rfl
theorem zrh(sh:Sh):opK (aOp Γ b (.load sh) vs hp) K Kp=valK (zgq sh hp vs) (fun v=>K v hp):=by
 show opK (match zbd hp (zgq sh hp vs) with|some (v,hp')=>some (OpRes.val v hp')|none=>none) K Kp=_
 cases zgq sh hp vs <;> rfl
theorem zpX(sh:Sh):opK (aOp Γ b (.nilsl sh) vs hp) K Kp=zbZ (zb2 sh hp) K:=by
 show opK (match(zb2 sh hp) with|some (v,hp')=>some (OpRes.val v hp')|none=>none) K Kp=_
 cases (zb2 sh hp) with
 |none=>rfl
 |some r=>cases r;rfl
theorem zpY(sh:Sh)(z:AV):opK (aOp Γ b (.alloc sh z) vs hp) K Kp=zbZ (zbD sh z hp vs) K:=by
 show opK (match(zbD sh z hp vs) with|some (v,hp')=>some (OpRes.val v hp')|none=>none) K Kp=_
 cases (zbD sh z hp vs) with
 |none=>rfl
 |some r=>cases r;rfl
theorem zrV(sh:Sh):opK (aOp Γ b (.box sh) vs hp) K Kp=zbZ (wBox sh hp vs) K:=by
 show opK (match(wBox sh hp vs) with|some (v,hp')=>some (OpRes.val v hp')|none=>none) K Kp=_
 cases (wBox sh hp vs) with
 |none=>rfl
 |some r=>cases r;rfl
theorem zoc(sh:Sh):opK (aOp Γ b (.bslice sh) vs hp) K Kp=zbZ (zbi sh hp vs) K:=by
 show opK (match(zbi sh hp vs) with|some (v,hp')=>some (OpRes.val v hp')|none=>none) K Kp=_
 cases (zbi sh hp vs) with
 |none=>rfl
 |some r=>cases r;rfl
theorem zpZ(sh:Sh):opK (aOp Γ b (.store sh) vs hp) K Kp=zbZ (zaB sh b hp vs) K:=by
 show opK (match(zaB sh b hp vs) with|some (v,hp')=>some (OpRes.val v hp')|none=>none) K Kp=_
 cases (zaB sh b hp vs) with
 |none=>rfl
 |some r=>cases r;rfl
theorem zp0(sh:Sh)(z:PV):opK (aOp Γ b (.clear sh z) vs hp) K Kp=zbZ (ze6 sh z hp vs) K:=by
 show opK (match(ze6 sh z hp vs) with|some (v,hp')=>some (OpRes.val v hp')|none=>none) K Kp=_
 cases (ze6 sh z hp vs) with
 |none=>rfl
 |some r=>cases r;rfl
theorem zod(sh:Sh):opK (aOp Γ b (.append sh) vs hp) K Kp=zbZ (za8 sh hp vs) K:=by
 show opK (match(za8 sh hp vs) with|some (v,hp')=>some (OpRes.val v hp')|none=>none) K Kp=_
 cases (za8 sh hp vs) with
 |none=>rfl
 |some r=>cases r;rfl
theorem zri(s:Sh)(f:FuncId)(as:List AV):opK (aOp Γ b .call (.pv s (.func (.func f))::as) hp) K Kp=zme (Γ .fn f as hp) K Kp:=by
 simp only[aOp,zcz,za4,List.nil_append,List.append_nil]
 cases Γ .fn f as hp with
 |none=>rfl
 |some r=>obtain⟨r,hp'⟩:=r;cases r <;> rfl
theorem zp1(f:FuncId)(fs cs as:List AV):opK (aOp Γ b .call (.func (.func f) fs cs::as) hp) K Kp=zme (Γ .fn f (fs++as++cs) hp) K Kp:=by
 simp only[aOp,zcz,za4]
 cases Γ .fn f (fs++as++cs) hp with
 |none=>rfl
 |some r=>obtain⟨r,hp'⟩:=r;cases r <;> rfl
theorem zp2(n:Nat):opK (aOp Γ b (.calln n) vs hp) K Kp=opK (aOp Γ b .call (vs.drop n) hp) (fun v hp'=>(vs.take n).all (zb9 hp hp')=true/\K v hp') Kp:=by
 simp only[aOp,zgz]
 cases zcz Γ hp (vs.drop n) with
 |none=>rfl
 |some r=>
  cases r with
  |val v hp'=>
   simp only[opK]
   split
   ·rename_i h;split at h
    ·cases h;simp[*]
    ·cases h
   ·rename_i h;split at h <;> cases h
   ·rename_i h;split at h
    ·cases h
    ·simp[*]
  |panic v hp'=>rfl
def zrj(v:Option (List (Sh × PV)))(K:List (Sh × PV)->Prop)[Tag K]:Prop:=
 match v with
 |some l=>K l
 |none=>False
theorem zp3(s:Sh)(f:FuncId)(as:List AV):opK (aOp Γ b .callp (.pv s (.func (.func f))::as) hp) K Kp=zrj (zaI as) (fun ps=>zme (Γ .fn f (zbs as (pvs ps)) []) (fun v H=>valK (v.alone H) fun v'=>K v' hp) (fun _ _=>False)):=by
 simp only[aOp,zeb]
 cases zaI as with
 |none=>rfl
 |some ps=>
  simp only[zrj]
  cases Γ .fn f (zbs as (pvs ps)) [] with
  |none=>rfl
  |some r=>
   obtain⟨r,hp'⟩:=r
   cases r with
   |ret v=>simp only[zme];cases v.alone hp' <;> rfl
   |panic v=>rfl
end Go.Am
namespace Go.Am
variable{Γ:Oracle} {Λ:zah} {b:Nat} {hp:Heap} {vs:List AV} {K:AV->Heap->Prop} {Kp:PV->Heap->Prop}
end Go.Am
