/- What is proved: the abstract machine says true of the model (part 4). No conditions beside those that each theorem names. -/
import Derived.Test.YtligpohiokpnhaaAm3
import Derived.Scope
import Derived.Lib.Bytealg
import Derived.ProofKit
import Derived.OpenShut
import Derived.JoinedCond
import Derived.Test.YtligpohiokpnhaaAm2
set_option linter.unusedSimpArgs false
set_option linter.unusedVariables false
/- Regions where a call may panic beside what stands in no order with it. -/
namespace Go.Am
variable{P:Program} {w:World} {X:Xc P} {μ:Nat->Option Nat} {hp:Heap}

theorem zkv{Γ:Oracle}(hΓ:SoundO P Γ){b:Nat}{o:Oper}{as:List AArg}{fr:Fr}{a:Act}{vs:List AV}{p:PV}{hp':Heap}{K:Act->World->Prop}{Q:Exit->Act->World->Prop}{ro:Option Nat}(ht:trOp P o=some (.call,as))
  (hF:FR w X μ hp fr a.tmps)(ha:fr.argsOf as=some vs)(hH:HR w X μ hp)(hs:zbJ Γ hp vs=some (.panic p hp'))(hA:After b w X μ hp (.panic p hp) a o.dst K Q):o.wpIn (Fe ro) 0 P a w K Q:=by
 obtain⟨c,f,a1,as',hc1,hc2,hc3,hc4,rfl⟩:=zfK ht
 have hnd:∀cc,o.op≠.defer cc:=by
  intro cc ec
  rw[hc1] at ec
  cases ec
 obtain⟨v1,us,rfl,hv1,hus⟩:=zav ha
 have g1:=zbw hF hc3 hv1
 have g2:=zaW hF hc4 hus
 simp only[zbJ] at hs
 split at hs
 ·rename_i s0 g as0 heq
  simp only[List.cons.injEq] at heq
  obtain⟨rfl,rfl⟩:=heq
  split at hs
  ·rename_i ps hps
   have hCP:=zbM _ _ _ hps g2
   have hE:=(HR.empty hH)
   have hL:=ze5 _ _ _ g2 hCP.empty.lr
   cases g1 with|pv _ _ _ _ hq=>
   have e1:a.eval f=.func (.func g) ([]:List Value).toArray ([]:List Value).toArray:=by
    generalize a.eval f=u at hq
    cases hq
    rfl
   have hrun:=zfJ (P:=P) (w:=w) hc1 hc2 e1
   simp only[List.nil_append,List.append_nil] at hrun
   split at hs
   ·split at hs <;> cases hs
   ·rename_i q hp2 hg
    cases hs
    refine zdx hnd hrun (hΓ.fn _ _ _ _ _ hg w _ μ _ hE hL) (fun v' w' hR=> ?_) (fun c w' hR=> ?_) (fun w' hR=>hR)
    ·obtain⟨μ',v2,h1,_⟩:=hR
     cases h1
    ·obtain⟨μ',p,v',h1,rfl,h2,h3,h4⟩:=hR
     cases h1
     obtain⟨k1,k2⟩:=back (b:=b) hH h3
     refine hA v' w' μ ?_ k1 k2
     exact zg2 (v:=.pv none p) rfl h4
   ·cases hs
  ·cases hs
 ·cases hs
/-! ### The run without the call -/
theorem zje(c:List Nat)(i:Nat):∀(l:List AOper) (j:Nat),(zfF c i j l).length=l.length
 |[],_=>rfl
 |o::r,j=>by simp[zfF,zje c i r (j+1)]
theorem zjf(c:List Nat)(i:Nat):∀(l:List AOper) (j k:Nat),(zfF c i j l)[k]? =(l[k]?).map fun o=>if bit (c.getD (j+k) 0) i=true then nopO else o
 |[],_,k=>by simp[zfF]
 |o::r,j,k=>by
  cases k with
  |zero=>simp[zfF]
  |succ k=>
   have:=zjf c i r (j+1) k
   simp only[zfF,List.getElem?_cons_succ,this]
   rw[show j+1+k=j+(k+1) by omega]
theorem zjg{c:List Nat}{l:List AOper}{i:Nat}(h:i<l.length):(zct c l i).length=l.length:=by
 simp only[zct,List.length_append,List.length_cons,zje,List.length_take,List.length_drop]
 omega
theorem zlA{c:List Nat}{l:List AOper}{i j:Nat}(h:i<l.length)(hj:j<i):(zct c l i)[j]? =l[j]? :=by
 unfold zct
 rw[List.getElem?_append_left (by rw[List.length_take];omega),List.getElem?_take,if_pos hj]
theorem zqu{c:List Nat}{l:List AOper}{i:Nat}(h:i<l.length):(zct c l i)[i]? =some nopO:=by
 unfold zct
 rw[List.getElem?_append_right (by rw[List.length_take];omega),List.length_take,show i - min i l.length=0 by omega]
 rfl
theorem zlB{c:List Nat}{l:List AOper}{i j:Nat}(h:i<l.length)(hj:i<j):(zct c l i)[j]? =(l[j]?).map fun o=>if bit (c.getD j 0) i=true then nopO else o:=by
 unfold zct
 rw[List.getElem?_append_right (by rw[List.length_take];omega),List.length_take,show j - min i l.length=(j - i - 1)+1 by omega,List.getElem?_cons_succ,zjf,List.getElem?_drop]
 rw[show i+1+(j - i - 1)=j by omega]
theorem zjh{c:List Nat}{l:List AOper}{i j d:Nat}{o:AOper}(h:i<l.length)(hj:(zct c l i)[j]? =some o)(hd:o.dst=some d):j≠i/\l[j]? =some o:=by
 rcases Nat.lt_trichotomy j i with k|k|k
 ·rw[zlA h k] at hj
  exact⟨by omega,hj⟩
 ·subst k
  rw[zqu h] at hj
  cases hj
  cases hd
 ·rw[zlB h k] at hj
  cases hl:l[j]? with
  |none=>rw[hl] at hj;cases hj
  |some o'=>
   rw[hl] at hj
   simp only[Option.map_some,Option.some.injEq] at hj
   split at hj
   ·subst hj;cases hd
   ·subst hj;exact⟨by omega,rfl⟩

theorem zed{Γ:Oracle}{b:Nat}:∀(x y:List AOper) (fr:Fr) (hp:Heap),aops Γ b (x++y) fr hp=match aops Γ b x fr hp with
  |some (.normal,fr',hp')=>aops Γ b y fr' hp'
  |r=>r
 |[],y,fr,hp=>rfl
 |o::r,y,fr,hp=>by
  simp only[List.cons_append,zdy]
  cases aone Γ b o fr hp with
  |none=>rfl
  |some q=>
   cases q with
   |val v hp'=>exact zed r y _ _
   |panic p hp'=>rfl
theorem zg6{Γ:Oracle}{vs:List AV}{v:AV}{hp hp':Heap}(h:zbJ Γ hp vs=some (.val v hp')):zek Γ hp vs=some (.val v hp):=by
 unfold zbJ at h
 split at h
 ·split at h
  ·rename_i ps he
   split at h
   ·rename_i u hq hg
    split at h
    ·rename_i v' hv
     cases h
     simp only[zek,he,hg,hv]
    ·cases h
   ·cases h
   ·cases h
  ·cases h
 ·cases h
theorem zee{o:AOper}(h:o.isCallp=true):o.op=.callp/\o.guard=none:=by
 unfold AOper.isCallp at h
 split at h
 ·rename_i h1 h2;exact⟨h1,h2⟩
 ·cases h
theorem zcH{Γ:Oracle}{b:Nat}{c:List Nat}{fr':Fr}{hp':Heap}:∀(l:List AOper) (i:Nat) (fr:Fr) (hp:Heap),zcs Γ b (zfo c i l) fr hp=some (.normal,fr',hp')->aops Γ b l fr hp=some (.normal,fr',hp')
 |[],_,fr,hp,h=>h
 |o::r,i,fr,hp,h=>by
  simp only[zfo] at h
  by_cases hc:o.isCallp=true
  ·rw[if_pos hc] at h
   obtain⟨h1,h2⟩:=zee hc
   simp only[zcs] at h
   simp only[aops,h2,wants]
   split at h
   ·cases h
   ·rename_i vs hvs
    simp only[hvs,h1,aOp]
    split at h
    ·rename_i v hp2 hq
     rw[zg6 hq]
     exact zcH r (i+1) _ _ h
    ·split at h <;> cases h
    ·cases h
  ·rw[if_neg hc] at h
   simp only[zcs] at h
   rw[zdy]
   unfold aone
   cases hw:wants fr o.guard with
   |none=>rw[hw] at h;cases h
   |some x=>
    rw[hw] at h
    cases x with
    |false=>exact zcH r (i+1) _ _ h
    |true=>
     simp only[] at h ⊢
     cases hvs:fr.argsOf o.args with
     |none=>rw[hvs] at h;cases h
     |some vs=>
      rw[hvs] at h
      simp only[] at h ⊢
      cases ho:aOp Γ b o.op vs hp with
      |none=>rw[ho] at h;cases h
      |some q=>
       rw[ho] at h
       cases q with
       |val v hpn=>exact zcH r (i+1) _ _ h
       |panic p hpn=>cases h
theorem zdc{Γ:Oracle}{b:Nat}{c:List Nat}{fr':Fr}{hp':Heap}{p:PV}:∀(l:List AOper) (i:Nat) (fr:Fr) (hp:Heap),zcs Γ b (zfo c i l) fr hp=some (.panic p,fr',hp')->∃k o fr1 hp1 vs hp2,l[k]? =some o/\o.isCallp=true/\aops Γ b (l.take k) fr hp=some (.normal,fr1,hp1)/\fr1.argsOf o.args=some vs/\zbJ Γ hp1 vs=some (.panic p hp2)/\∃fr3 hp3,aops Γ b (zfF c (i+k) (i+k+1) (l.drop (k+1))) fr1 hp1=some (.normal,fr3,hp3)
 |[],_,fr,hp,h=>by cases h
 |o::r,i,fr,hp,h=>by
  have up:∀(v:AV) (hpn:Heap),aone Γ b o fr hp=some (.val v hpn)->(∃k o' fr1 hp1 vs hp2,r[k]? =some o'/\o'.isCallp=true/\aops Γ b (r.take k) (fr.dst o.dst v) hpn=some (.normal,fr1,hp1)/\fr1.argsOf o'.args=some vs/\zbJ Γ hp1 vs=some (.panic p hp2)/\∃fr3 hp3,aops Γ b (zfF c (i+1+k) (i+1+k+1) (r.drop (k+1))) fr1 hp1=some (.normal,fr3,hp3))->∃k o' fr1 hp1 vs hp2,(o::r)[k]? =some o'/\o'.isCallp=true/\aops Γ b ((o::r).take k) fr hp=some (.normal,fr1,hp1)/\fr1.argsOf o'.args=some vs/\zbJ Γ hp1 vs=some (.panic p hp2)/\∃fr3 hp3,aops Γ b (zfF c (i+k) (i+k+1) ((o::r).drop (k+1))) fr1 hp1=some (.normal,fr3,hp3):=by
   rintro v hpn ho ⟨k,o',fr1,hp1,vs,hp2,h1,h2,h3,h4,h5,h6⟩
   refine⟨k+1,o',fr1,hp1,vs,hp2,by simpa using h1,h2,?_,h4,h5,?_⟩
   ·simp only[List.take_succ_cons,zdy,ho];exact h3
   ·rw[show i+(k+1)=i+1+k by omega]
    exact h6
  simp only[zfo] at h
  by_cases hc:o.isCallp=true
  ·rw[if_pos hc] at h
   obtain⟨h1,h2⟩:=zee hc
   simp only[zcs] at h
   split at h
   ·cases h
   ·rename_i vs hvs
    split at h
    ·rename_i v hp2 hq
     exact up v hp (by simp only[aone,h2,wants,hvs,h1,aOp,zg6 hq]) (zdc r (i+1) _ _ h)
    ·rename_i p' hp2 hq
     split at h
     ·rename_i fr3 hp3 hl
      cases h
      exact⟨0,o,fr,_,vs,hp2,rfl,hc,rfl,hvs,hq,fr3,hp3,hl⟩
     ·cases h
    ·cases h
  ·rw[if_neg hc] at h
   simp only[zcs] at h
   split at h
   ·cases h
   ·rename_i hw;exact up _ hp (by simp only[aone,hw]) (zdc r (i+1) _ _ h)
   ·rename_i hw
    split at h
    ·cases h
    ·rename_i vs hvs
     split at h
     ·rename_i v hpn ho;exact up v hpn (by simp only[aone,hw,hvs,ho]) (zdc r (i+1) _ _ h)
     ·cases h
theorem Run.take{Γ:Oracle}{b:Nat}{l:List AOper}{fr fr':Fr}{hp hp':Heap}{e:AExit}{m:Nat}{frs:Nat->Fr}{hps:Nat->Heap}{vals:Nat->AV}(R:Run Γ b l fr hp e fr' hp' m frs hps vals):∀k,k<=m->aops Γ b (l.take k) fr hp=some (.normal,frs k,hps k)
 |0,_=>by rw[List.take_zero,R.f0,R.h0];rfl
 |k+1,hk=>by
  have hlt:k<l.length:=Nat.lt_of_lt_of_le hk R.le
  have ho:l[k]? =some l[k]:=List.getElem?_eq_getElem hlt
  obtain⟨s1,s2⟩:=R.step k _ hk ho
  rw[List.take_add_one,ho,zed,R.take k (by omega)]
  simp only[Option.toList_some,zdy,s1,s2]
  rfl
theorem zji{o:AOper}(h:o.quiet=true):o.cls≠2/\o.cls≠3/\o.isCallh=false:=by
 simp only[AOper.quiet,Bool.and_eq_true,Bool.or_eq_true,beq_iff_eq,Bool.not_eq_true'] at h
 exact⟨by rcases h.1 with h|h <;> omega,by rcases h.1 with h|h <;> omega,h.2⟩
section
variable{Γ:Oracle} {nt b:Nat} {w0:World} {μ0:Nat->Option Nat} {ds:List Deferred} {ops:Array Oper} {l:List AOper} {fr fr':Fr} {hp':Heap} {m:Nat} {frs:Nat->Fr} {hps:Nat->Heap} {vals:Nat->AV}
variable{Q:Exit->Act->World->Prop} {ro:Option Nat}
theorem zqv{i j:Nat}(h:bit ((zbL [] ops.toList).getD i 0) j=true):j∈(clos [] ops.toList).getD i []:=
 zhX ops.toList [] [] rfl (fun i j hb=>by simp[zhW] at hb) i j h

theorem zoq(hΓ:SoundO P Γ)(hT:Tie P nt ops l)(hd:zbt ops l=true){i0:Nat}{o0:AOper}(h0:l[i0]? =some o0)(hcp:o0.isCallp=true)(hd2:zbt ops (zct (zbL [] ops.toList) l i0)=true)(hq:(zct (zbL [] ops.toList) l i0).all AOper.quiet=true)
  (R:Run Γ b (zct (zbL [] ops.toList) l i0) fr hp .normal fr' hp' m frs hps vals){vs:List AV}(hvs:(frs i0).argsOf o0.args=some vs){p:PV}{hpx:Heap}(hcall:zbJ Γ hp vs=some (.panic p hpx))
  (hQ:∀e' a' w',Lands nt b w0 X μ0 hp ds (.panic p) [] hp e' a' w'->Q e' a' w'):∀(n:Nat) (L:Array Bool) (a:Act) (w:World),DInv nt b w0 X μ0 hp ds ops (zct (zbL [] ops.toList) l i0) fr m hps vals L a w->L.getD i0 false=false->(List.range ops.size).countP (fun i=> !L.getD i false)<=n->wpAnyIn (Fe ro) 0 P .any ops Q n L a w:=by
 have hi0:i0<l.length:=(List.getElem?_eq_some_iff.1 h0).1
 have hi0s:i0<ops.size:=by rw[<-hT.1];exact hi0
 obtain⟨dE,dN,dU,dL,dP⟩:=zcR hd
 obtain⟨_,dN2,dU2,dL2,dP2⟩:=zcR hd2
 generalize hl2:zct (zbL [] ops.toList) l i0=l2 at hd2 hq R dN2 dU2 dL2 dP2
 have hlen:l2.length=l.length:=by rw[<-hl2];exact zjg hi0
 have hqk:∀(k:Nat) (o:AOper),l2[k]? =some o->o.cls≠2/\o.cls≠3/\o.isCallh=false:=fun k o hk=>zji (List.all_eq_true.1 hq o (List.mem_of_getElem? hk))
 have hm:m=l2.length:=by
  rcases R.fin with⟨f1,_⟩|⟨_,_,_,_,f3,_⟩
  ·exact f1
  ·cases f3
 have hhp:∀k,k<=m->hps k=hp:=fun k hk=>by
  have:=R.heap (i:=0) k (by omega) (fun j o _ _ hj=>by
   obtain⟨k1,k2,_⟩:=hqk j o hj
   exact⟨k1,k2⟩)
  rw[Nat.zero_add] at this
  rw[this,R.h0]
 have hend:∀(L:Array Bool) (a:Act) (w:World),DInv nt b w0 X μ0 hp ds ops l2 fr m hps vals L a w->L.getD i0 false=false->Region.ready .any ops L≠[]:=by
  intro L a w D hL hr
  have:=zdT dE D.size hr i0 hi0s
  rw[hL] at this
  cases this
 intro n
 induction n with
 |zero=>
  intro L a w D hL hn
  exfalso
  have:0<(List.range ops.size).countP (fun i=> !L.getD i false):=by
   rw[List.countP_pos_iff]
   exact⟨i0,List.mem_range.2 hi0s,by simp only[hL];rfl⟩
  omega
 |succ n ih=>
  intro L a w D hL hn
  refine⟨fun hr=>absurd hr (hend L a w D hL),fun i hi=> ?_⟩
  obtain⟨r1,r2,r3⟩:=zcQ dE D.shut hi
  have hsz:i<L.size:=by rw[D.size];exact r1
  by_cases he:i=i0
  ·subst he
   obtain⟨o,ho⟩:∃o,ops[i]? =some o:=⟨_,Array.getElem?_eq_getElem r1⟩
   obtain⟨ao0,ao,t1,t2,q1,q2,q3,q4⟩:=hT.2 i o ho
   rw[h0] at t2
   cases t2
   obtain⟨d1,d2,d3⟩:=zdR t1
   obtain⟨c1,c2⟩:=zee hcp
   have hb0:o0.base=o0:=zfL (by simp[AOper.cls,c1])
   have hop:ao0.op=.call:=by
    rw[hb0,c1] at q4
    rcases q4 with h|⟨sh,_,h|h⟩|⟨h,_⟩|⟨_,_,h⟩
    ·exact absurd d3 (by rw[<-h];exact zi3)
    ·cases h
    ·cases h
    ·exact h
    ·cases h
   have hargs:ao0.args=o0.args:=by rw[<-q3,hb0]
   obtain⟨μ1,pb,h,D1,_⟩:=D.st
   have hX:Xp X pb=X:=zcK fun k=>by
    cases hk:pb k with
    |none=>rfl
    |some bk=>
     obtain⟨_,_,⟨o',z1,z2⟩,_⟩:=D1.own k bk hk
     exact absurd z2 (hqk k o' z1).2.1
   have hH:=D1.hr
   have hslot:=D1.slot
   have hext:=D1.ext
   rw[hX] at hH hslot
   rw[hhp h D1.hm] at hH hslot hext
   have hLS:∀s u,s∈o0.uses->(frs i).look s=some u->LS l2 vals fr L h s u:=by
    intro s u hs hlook
    rcases R.look i (by omega) hlook with⟨j,oj,hj,hoj,hdj,rfl⟩|⟨hnone,hfr0⟩
    ·refine .inl ⟨j,oj,?_,hoj,hdj,rfl,fun c=>absurd c (hqk j oj hoj).2.1⟩
     rw[<-hl2] at hoj
     obtain⟨_,hoj'⟩:=zjh hi0 hoj hdj
     rcases dP i j oj o0 hj hoj' h0 with hh|hh
     ·exact r3 j hh
     ·exact absurd hs (zgc hh hdj)
    ·refine .inr ⟨fun j oj hoj hdj=> ?_,hfr0⟩
     cases hLj:L.getD j false with
     |false=>rfl
     |true=>
      exfalso
      rcases Nat.lt_trichotomy j i with hji|hji|hji
      ·exact hnone j oj hji hoj hdj
      ·subst hji;rw[hL] at hLj;cases hLj
      ·rw[<-hl2] at hoj
       obtain⟨_,hoj'⟩:=zjh hi0 hoj hdj
       rcases dP j i o0 oj hji h0 hoj' with hh|hh
       ·have:=D.shut j hLj i hh
        rw[hL] at this;cases this
       ·exact zja hh hdj hs
   have hF:FR w X μ1 hp ((frs i).keep o0.uses) a.tmps:=fun s u hs=>by
    obtain⟨k1,k2⟩:=zew hs
    exact hslot s u (hLS s u k1 k2)
   have huse:∀s∈zbQ o0.args,s∈o0.uses:=fun s hs=>by
    unfold AOper.uses
    rw[hb0,c2]
    exact hs
   have hvs2:((frs i).keep o0.uses).argsOf ao0.args=some vs:=by
    rw[hargs,zdA (g:=frs i) fun s hs=>zdz (huse s hs)]
    exact hvs
   have hwant:Region.wanted o (yielded ops a.tmps)=true:=zbD (w:=w) (X:=X) (μ:=μ1) (hp:=hp) (fr:=[]) (fun s u hs=>by simp[Fr.look] at hs) t1 (by rw[<-q2,c2];rfl)
   simp only[wpOpIn,ho,hwant,if_true]
   rw[hop] at d3
   refine zkv hΓ (b:=b) d3 hF hvs2 hH hcall fun v' w' μ' hv hH' E=>hQ _ _ _ ⟨D.ds,D.tsz,μ',hH',fun s u hs=>by simp[Fr.look] at hs,hext.trans E,⟨v',rfl,hv⟩⟩
  ·have hg:l2[i]? =l[i]? :=by
    rw[<-hl2]
    rcases Nat.lt_or_ge i i0 with k|k
    ·exact zlA hi0 k
    ·rw[zlB hi0 (by omega)]
     have hb:bit ((zbL [] ops.toList).getD i 0) i0=false:=by
      cases hb:bit ((zbL [] ops.toList).getD i 0) i0 with
      |false=>rfl
      |true=>
       have:=r3 i0 (zqv hb)
       rw[hL] at this;cases this
     cases l[i]? with
     |none=>rfl
     |some x=>simp only[Option.map_some,hb];rfl
   refine wpOpIn_mono (fun a' w' D'=>ih _ a' w' D' ?_ ?_) (zfb hΓ (fun o ho=>by
    obtain⟨ao0,ao,t1,t2,q⟩:=hT.2 i o ho
    exact⟨ao0,ao,t1,by rw[hg];exact t2,q⟩) dE dN2 dU2 dL2 (by rintro⟨p,h⟩;cases h) R D (by rintro⟨p,h⟩;cases h) hi (fun j x y h1 h2 h3 _=>dP2 i j x y h1 h2 h3) fun j x y h1 h2 h3 _=>dP2 j i y x h1 h3 h2)
   ·rw[zau hsz,if_neg (by omega)]
    exact hL
   ·have:=zex (l:=List.range ops.size) (p:=fun i=> !L.getD i false) (q:=fun j=> !(L.setIfInBounds i true).getD j false) (List.mem_range.2 r1) (fun x hx=>by
     rw[zau hsz] at hx
     split at hx
     ·cases hx
     ·exact hx) (by
     rw[Array.getD_eq_getD_getElem?] at r2 ⊢
     simp[hsz] at r2 ⊢
     exact r2) (by rw[zau hsz];simp)
    omega
theorem zg7{ops:Array Oper}{l:List AOper}(h:zix ops l=true):zbt ops l=true/\∀i o,l[i]? =some o->o.isCallp=true->zbt ops (zct (zbL [] ops.toList) l i)=true/\(zct (zbL [] ops.toList) l i).all AOper.quiet=true:=by
 simp only[zix,Bool.and_eq_true,List.all_eq_true (p:=fun i=>_)] at h
 obtain⟨⟨h1,_⟩,h3⟩:=h
 refine⟨h1,fun i o ho hc=> ?_⟩
 have:=h3 i (List.mem_range.2 (List.getElem?_eq_some_iff.1 ho).1)
 rw[ho] at this
 simp only[hc,if_true,Bool.and_eq_true] at this
 exact this
theorem zfc(hmix:P.follows .mixedOrders=true)(hΓ:SoundO P Γ)(hT:Tie P nt ops l)(hd:zix ops l=true){id:Nat}{a:Act}{p:PV}(hs:zcs Γ b (zfo (zbL [] ops.toList) 0 l) fr hp=some (.panic p,fr',hp'))(hb:b<=hp.length)(hH:HR w X μ hp)(hF:FR w X μ hp fr a.tmps)(hsz:a.tmps.size=nt)
  (hQ:∀e' a' w',Lands nt b w X μ hp a.defers (.panic p) [] hp e' a' w'->Q e' a' w'):(Code.region id ops true).wpIn (Fe ro) 0 P Q a w:=by
 obtain⟨hd1,hd2⟩:=zg7 hd
 obtain⟨k,o,fr1,hp1,vs,hp2,g1,g2,g3,g4,g5,fr3,hp3,g6⟩:=zdc l 0 fr hp hs
 obtain⟨k1,k2⟩:=hd2 k o g1 g2
 have hk:k<l.length:=(List.getElem?_eq_some_iff.1 g1).1
 rw[Nat.zero_add] at g6
 have hrun:aops Γ b (zct (zbL [] ops.toList) l k) fr hp=some (.normal,fr3,hp3):=by
  unfold zct
  rw[zed,g3]
  exact g6
 obtain⟨m,frs,hps,vals,R⟩:=zlq _ fr hp hrun
 have hm:m=(zct (zbL [] ops.toList) l k).length:=by
  rcases R.fin with⟨f1,_⟩|⟨_,_,_,_,f3,_⟩
  ·exact f1
  ·cases f3
 rw[zjg hk] at hm
 have ht:=R.take k (by omega)
 have htk:(zct (zbL [] ops.toList) l k).take k=l.take k:=by
  unfold zct
  rw[List.take_append_of_le_length (by rw[List.length_take];omega),List.take_take,Nat.min_self]
 rw[htk,g3] at ht
 simp only[Option.some.injEq,Prod.mk.injEq,true_and] at ht
 obtain⟨e1,e2⟩:=ht
 have hhp:hps k=hp:=by
  have:=R.heap (i:=0) k (by omega) (fun j o _ _ hj=>by
   obtain⟨k1,k2,_⟩:=zji (List.all_eq_true.1 k2 o (List.mem_of_getElem? hj))
   exact⟨k1,k2⟩)
  rw[Nat.zero_add] at this
  rw[this,R.h0]
 rw[e1] at g4
 rw[e2,hhp] at g5
 refine wpIn_region_any hmix (zoq (w0:=w) (X:=X) (μ0:=μ) (ds:=a.defers) hΓ hT hd1 g1 g2 k1 k2 R g4 g5 hQ ops.size _ a _ ?_ ?_ (Nat.le_trans (List.countP_le_length) (by simp)))
 ·have h0:∀i,(Array.replicate ops.size false).getD i false=false:=by
   intro i
   rw[Array.getD_eq_getD_getElem?,Array.getElem?_replicate]
   split <;> rfl
  have hX:Xp X (fun _=>none)=X:=zcK fun _=>rfl
  refine⟨by simp,fun i hi=> ?_,fun i hi=> ?_,rfl,hsz,μ,fun _=>none,0,⟨Nat.zero_le _,fun k o hk hc=> ?_,fun k o hk hc h=>by omega,?_,?_,?_,fun s v hs=> ?_,fun k o hk hc h hL=> ?_,fun k bk h=>(by cases h),fun k k' bk h=>(by cases h)⟩,fun i ao hi hc hL k x h1 h2=>by omega⟩
  ·rw[h0] at hi;cases hi
  ·rw[h0] at hi;cases hi
  ·rw[h0];simp
  ·rw[R.h0,hX];exact hH.drew
  ·rw[R.h0];exact hb
  ·rw[R.h0];exact Ext.drew b
  ·rcases hs with⟨j,o,hj,_⟩|⟨_,h⟩
   ·rw[h0] at hj;cases hj
   ·rw[R.h0,hX]
    obtain⟨k1,k2⟩:=hF s v h
    exact⟨k1,(Ext.drew (X:=X) (μ:=μ) (hp:=hp) (w:=w) 0).ar k2⟩
  ·rw[h0] at hL;cases hL
 ·rw[Array.getD_eq_getD_getElem?,Array.getElem?_replicate]
  split <;> rfl
end
end Go.Am

/- Code. -/
namespace Go.Am
variable{P:Program} {w:World} {X:Xc P} {μ:Nat->Option Nat} {hp:Heap}

inductive Tr(P:Program)(nt:Nat):Code->ACode->Prop
 |skip:Tr P nt .skip .skip
 |region (id:Nat) (ops:Array Oper) (l l0:List AOper) (pan:Bool) (keep:List Nat) (h:zea P nt ops ops.toList=some l0) (hlk:Likes l l0):Tr P nt (.region id ops false) (.region pan l keep)
 |draw (id:Nat) (ops:Array Oper) (l:List AOper) (pan:Bool) (keep:List Nat) (hT:Tie P nt ops l) (hd:zbt ops l=true) (hp:pan=true->zdu ops l=true):Tr P nt (.region id ops true) (.region pan l keep)
 |draw2 (id:Nat) (ops:Array Oper) (l:List AOper) (keep:List Nat) (hT:Tie P nt ops l) (hd:zeX ops l=true):Tr P nt (.region id ops true) (.region false l keep)
 |doom (id:Nat) (ops:Array Oper) (l:List AOper) (keep:List Nat) (hT:Tie P nt ops l) (hd:zix ops l=true):Tr P nt (.region id ops true) (.doom (zfo (zbL [] ops.toList) 0 l) keep)
 |settle (c:Code) (ac:ACode) (ss:List Nat) (h:Tr P nt c ac):Tr P nt c (.seq (.settle ss) ac)
 |seq (x y:Code) (a b:ACode) (hx:Tr P nt x a) (hy:Tr P nt y b):Tr P nt (.seq x y) (.seq a b)
 |cond (c:Operand) (ca:AArg) (x y:Code) (a b:ACode) (hc:zbK P 0 c=some ca) (hx:Tr P nt x a) (hy:Tr P nt y b):Tr P nt (.cond c x y) (.cond ca a b)
 |block (id:Nat) (c:Code) (a:ACode) (h:Tr P nt c a):Tr P nt (.block id c) (.block id a)
 |loop (keep:List Nat) (c:Code) (a:ACode) (h:Tr P nt c a):Tr P nt (.loop c) (.loop keep a)
 |label (id:Nat):Tr P nt (.label id) .skip
 |scope (c:Code) (a:ACode) (h:Tr P nt c a):Tr P nt (.scope c) a
 |exit (id:Nat):Tr P nt (.exit id) (.exit id)
 |ret:Tr P nt .ret .ret

theorem zcx{b:Frame}{a:Act}{k:List Item}{cs:List Frame}{c:Code}:step P (lone (b.atR a (.code (.scope c)::k)) cs w)=.next (lone (b.atR a (.code c::.inScope c::k)) cs w):=
 step_lone_go (by simp[stepG,stepG.exec,Frame.atR])
theorem zh0{b:Frame}{a:Act}{k:List Item}{cs:List Frame}{c:Code}:step P (lone (b.atR a (.inScope c::k)) cs w)=.next (lone (b.atR a k) cs w):=
 step_lone_go (by simp[stepG,stepG.exec,Frame.atR])
theorem zmF{F:Fence}{n:Nat}{Q:Exit->Act->World->Prop}{a:Act}{c:Code}(h:c.wpIn F n P (Exit.noGoto Q) a w):(Code.scope c).wpIn F n P Q a w:=by
 intro b k cs hro hb hr
 have h0:(lone (b.atR a (.code (.scope c)::k)) cs w).fenced P F:=fenced_calm hb hr rfl
 obtain⟨e,a₁,w₁,hq,harr⟩:=h b (.inScope c::k) cs hro hb hr
 have hx:∀id,exitTo id (.inScope c::k)=exitTo id k:=fun id=>by simp[exitTo]
 cases e with
 |normal=>exact⟨.normal,a₁,w₁,hq,.head h0 zcx (StepsIn.trans harr (.one (fenced_calm hb hr rfl) zh0))⟩
 |exit id=>
  exact⟨_,a₁,w₁,hq,.of_steps (.one h0 zcx) ⟨fun k' hk=>harr.1 k' (by rw[hx];exact hk),fun hr' hk=>harr.2 hr' (by rw[hx];exact hk)⟩⟩
 |goto l=>exact hq.elim
 |ret=>exact⟨_,a₁,w₁,hq,.of_steps (.one h0 zcx) harr⟩
 |panic ch=>exact⟨_,a₁,w₁,hq,.of_steps (.one h0 zcx) harr⟩
 |outgrown=>exact⟨_,a₁,w₁,hq,.of_steps (.one h0 zcx) harr⟩

def Own(b:Nat)(hp:Heap):Prop:=∀(i:Nat) (o:AObj),i<b->hp[i]? =some o->∀q∈o.refs,q<b

theorem Own.ext{b:Nat}{μ':Nat->Option Nat}{hp':Heap}{w':World}(h:Own b hp)(hb:b<=hp.length)(E:Ext b X μ hp w μ' hp' w'):Own b hp':=by
 intro i o hi ho q hq
 have hlt:i<hp.length:=by omega
 cases hx:hp[i] with
 |box s u=>
  obtain⟨v',h1,h2,h3⟩:=E.box i s u (by rw[List.getElem?_eq_getElem hlt,hx])
  rw[h1] at ho
  cases ho
  exact h i (.box s u) hi (by rw[List.getElem?_eq_getElem hlt,hx]) q (h3 hi q hq)
 |arr s es fz=>
  obtain⟨es',fz',h1,_⟩:=E.arr i s es fz (by rw[List.getElem?_eq_getElem hlt,hx])
  rw[h1] at ho;cases ho;cases hq
 |map s es=>
  obtain⟨es',h1,_⟩:=E.map i s es (by rw[List.getElem?_eq_getElem hlt,hx])
  rw[h1] at ho;cases ho;cases hq
 |loop f ps env bz=>
  obtain⟨bz',h1,_⟩:=E.loop i f ps env bz (by rw[List.getElem?_eq_getElem hlt,hx])
  rw[h1] at ho;cases ho
  exact h i (.loop f ps env bz) hi (by rw[List.getElem?_eq_getElem hlt,hx]) q hq
 |arv s es=>
  obtain⟨n,h1,_,_,h4⟩:=E.arv i s es (by rw[List.getElem?_eq_getElem hlt,hx])
  rcases zbv h1 with⟨es',e,_⟩|⟨es',e,_⟩
  ·rw[e] at ho;cases ho
   exact h i (.arv s es) hi (by rw[List.getElem?_eq_getElem hlt,hx]) q (h4 es' e hi q hq)
  ·rw[e] at ho;cases ho;cases hq

theorem HR.own(h:HR w X μ hp):Own hp.length hp:=by
 intro i o hi ho q hq
 cases o with
 |box sh v=>
  obtain⟨b,val,t,_,_,_,_,h5⟩:=h.box i sh v ho
  exact h5.refs_lt q hq
 |arr s es fz=>cases hq
 |map s es=>cases hq
 |loop f ps env bz=>
  obtain⟨l,rc,_,_,_,_,_,_,h7⟩:=h.loop i f ps env bz ho
  obtain⟨x,hx,hqx⟩:=zn4 hq
  exact(h7 x hx).2.refs_lt q hqx
 |arv s es=>
  obtain⟨_,b,cs,t,vals,_,_,h3,h4,_⟩:=h.arv i s es ho
  obtain⟨a,ha,hqa⟩:=(zaP _ _).1 hq
  obtain⟨k,hk⟩:=List.mem_iff_getElem?.1 ha
  have hkl:k<vals.length:=by rw[<-h3];exact(List.getElem?_eq_some_iff.1 hk).1
  exact(h4 k a vals[k] hk (List.getElem?_eq_getElem hkl)).2.refs_lt q hqa

def zor(P:Program)(nt:Nat)(Γ:Oracle)(Λ:zan)(c:Code)(ac:ACode):Prop:=
 ∀(b:Nat) (st:St) (e:AExit) (st':St),aexec Γ Λ b ac st=some (e,st')->∀(w:World) (X:Xc P) (μ:Nat->Option Nat) (a:Act) (Q:Exit->Act->World->Prop) (ro:Option Nat),b<=st.hp.length->Own b st.hp->HR w X μ st.hp->FR w X μ st.hp st.fr a.tmps->a.tmps.size=nt->
  (∀e' a' w',Lands nt b w X μ st.hp a.defers e st'.fr st'.hp e' a' w'->Q e' a' w')->c.wpIn (Fe ro) 0 P Q a w

def zez(P:Program)(nt:Nat)(Λ:zan)(c:Code)(ac:ACode):Prop:=
 ∀(b:Nat) (keep:List Nat) (st:St) (e:AExit) (st':St),Λ b st.hp.length keep ac st=some (e,st')->∀(w:World) (X:Xc P) (μ:Nat->Option Nat) (a:Act) (Q:Exit->Act->World->Prop) (ro:Option Nat),b<=st.hp.length->Own b st.hp->HR w X μ st.hp->FR w X μ st.hp st.fr a.tmps->a.tmps.size=nt->
  (∀e' a' w',Lands nt b w X μ st.hp a.defers e st'.fr st'.hp e' a' w'->Q e' a' w')->(Code.loop c).wpIn (Fe ro) 0 P Q a w

theorem Lands.keep{nt b:Nat}{ds:List Deferred}{e:AExit}{fr:Fr}{hp':Heap}{e':Exit}{a:Act}{w':World}(h:Lands nt b w X μ hp ds e fr hp' e' a w')(ks:List Nat):Lands nt b w X μ hp ds e (fr.keep ks) hp' e' a w':=by
 obtain⟨h1,h2,μ',h3,h4,h5,h6⟩:=h
 exact⟨h1,h2,μ',h3,h4.keep ks,h5,h6⟩

theorem zfd{nt:Nat}{Γ:Oracle}{Λ:zan}(hmix:P.follows .mixedOrders=true)(hΓ:SoundO P Γ)(hΛ:∀c ac,Tr P nt c ac->zez P nt Λ c ac){c:Code}{ac:ACode}(h:Tr P nt c ac):zor P nt Γ Λ c ac:=by
 induction h with
 |skip=>
  intro b st e st' hs w X μ a Q ro hb hO hH hF hsz hQ
  cases hs
  exact wpIn_skip (hQ _ _ _ ⟨rfl,hsz,μ,hH,hF,Ext.refl _ _ _ _ _,trivial⟩)
 |label id=>
  intro b st e st' hs w X μ a Q ro hb hO hH hF hsz hQ
  cases hs
  exact wpIn_label (hQ _ _ _ ⟨rfl,hsz,μ,hH,hF,Ext.refl _ _ _ _ _,trivial⟩)
 |scope c ac _ ih=>
  intro b st e st' hs w X μ a Q ro hb hO hH hF hsz hQ
  apply zmF
  refine ih b st e st' hs w X μ a _ ro hb hO hH hF hsz fun e' a' w' hL=> ?_
  have hq:=hQ e' a' w' hL
  obtain⟨_,_,μ',_,_,_,h6⟩:=hL
  cases e' with
  |goto l=>cases e <;> exact h6.elim
  |_=>exact hq
 |exit id=>
  intro b st e st' hs w X μ a Q ro hb hO hH hF hsz hQ
  cases hs
  exact wpIn_exit (hQ _ _ _ ⟨rfl,hsz,μ,hH,hF,Ext.refl _ _ _ _ _,rfl⟩)
 |ret=>
  intro b st e st' hs w X μ a Q ro hb hO hH hF hsz hQ
  cases hs
  exact wpIn_ret (hQ _ _ _ ⟨rfl,hsz,μ,hH,hF,Ext.refl _ _ _ _ _,trivial⟩)
 |region id ops l l0 pan keep ht hlk=>
  intro b st e st' hs w X μ a Q ro hb hO hH hF hsz hQ
  simp only[aexec] at hs
  split at hs
  ·rename_i fr hp2 hr
   cases hs
   exact zft hΓ ht hlk hr hb hH hF hsz fun e' a' w' hL=>hQ e' a' w' (hL.keep keep)
  ·rename_i v fr hp2 hr
   split at hs
   ·cases hs
    exact zft hΓ ht hlk hr hb hH hF hsz fun e' a' w' hL=>hQ e' a' w' (hL.keep keep)
   ·cases hs
  ·cases hs
 |draw id ops l pan keep hT hd hpan=>
  intro b st e st' hs w X μ a Q ro hb hO hH hF hsz hQ
  simp only[aexec] at hs
  split at hs
  ·rename_i fr hp2 hr
   cases hs
   exact zcd hmix hΓ hT hd hr (fun⟨p,hp⟩=>by cases hp) hb hH hF hsz fun e' a' w' hL=>hQ e' a' w' (hL.keep keep)
  ·rename_i v fr hp2 hr
   split at hs
   ·rename_i hp
    cases hs
    exact zcd hmix hΓ hT hd hr (fun _=>hpan hp) hb hH hF hsz fun e' a' w' hL=>hQ e' a' w' (hL.keep keep)
   ·cases hs
  ·cases hs
 |draw2 id ops l keep hT hd=>
  intro b st e st' hs w X μ a Q ro hb hO hH hF hsz hQ
  simp only[aexec] at hs
  split at hs
  ·rename_i fr hp2 hr
   cases hs
   exact zey hmix hΓ hT hd hr hb hH hF hsz fun e' a' w' hL=>hQ e' a' w' (hL.keep keep)
  ·rename_i v fr hp2 hr
   simp only[Bool.false_eq_true,if_false] at hs
   cases hs
  ·cases hs
 |doom id ops l keep hT hd=>
  intro b st e st' hs w X μ a Q ro hb hO hH hF hsz hQ
  simp only[aexec] at hs
  split at hs
  ·rename_i fr hp2 hr
   cases hs
   exact zcd hmix hΓ hT (zg7 hd).1 (zcH _ _ _ _ hr) (fun⟨p,hp⟩=>by cases hp) hb hH hF hsz fun e' a' w' hL=>hQ e' a' w' (hL.keep keep)
  ·rename_i v fr hp2 hr
   cases hs
   exact zfc hmix hΓ hT hd hr hb hH hF hsz hQ
  ·cases hs
 |settle c ac ss _ ih=>
  intro b st e st' hs w X μ a Q ro hb hO hH hF hsz hQ
  simp only[aexec] at hs
  cases hset:settle ss st with
  |none=>rw[hset] at hs;cases hs
  |some st1=>
   rw[hset] at hs
   simp only[] at hs
   obtain⟨k1,k2,k3⟩:=zfu b ss st st1 hset hH hF
   refine ih b st1 e st' hs w X μ a Q ro (Nat.le_trans hb k3.len) (hO.ext hb k3) k1 k2 hsz fun e' a' w' hL=>hQ e' a' w' ?_
   obtain⟨h1,h2,μ',h3,h4,h5,h6⟩:=hL
   exact⟨h1,h2,μ',h3,h4,k3.trans h5,h6⟩
 |seq x y ax ay _ _ ihx ihy=>
  intro b st e st' hs w X μ a Q ro hb hO hH hF hsz hQ
  simp only[aexec] at hs
  apply wpIn_seq
  cases h1:aexec Γ Λ b ax st with
  |none=>rw[h1] at hs;cases hs
  |some r=>
   obtain⟨e1,st1⟩:=r
   rw[h1] at hs
   refine ihx b st e1 st1 h1 w X μ a _ ro hb hO hH hF hsz fun e' a' w' hL=> ?_
   obtain⟨g1,g2,μ',g3,g4,g5,g6⟩:=hL
   cases e1 with
   |normal=>
    simp only[] at hs
    cases e' <;> simp only[zaM] at g6
    refine ihy b st1 e st' hs w' X μ' a' Q ro (Nat.le_trans hb g5.len) (hO.ext hb g5) g3 g4 g2 fun e2 a2 w2 hL2=>hQ e2 a2 w2 ?_
    obtain⟨k1,k2,μ2,k3,k4,k5,k6⟩:=hL2
    exact⟨k1.trans g1,k2,μ2,k3,k4,g5.trans k5,k6⟩
   |exit i=>
    cases hs
    cases e' <;> simp only[zaM] at g6
    subst g6
    exact hQ _ _ _ ⟨g1,g2,μ',g3,g4,g5,rfl⟩
   |ret=>
    cases hs
    cases e' <;> simp only[zaM] at g6
    exact hQ _ _ _ ⟨g1,g2,μ',g3,g4,g5,trivial⟩
   |panic p=>
    cases hs
    cases e' <;> simp only[zaM] at g6
    exact hQ _ _ _ ⟨g1,g2,μ',g3,g4,g5,g6⟩
 |cond c ca x y ax ay hc _ _ ihx ihy=>
  intro b st e st' hs w X μ a Q ro hb hO hH hF hsz hQ
  simp only[aexec] at hs
  split at hs
  ·rename_i s0 ha
   exact wpIn_cond_true (zbw hF hc ha).bool_inv (ihx b st e st' hs w X μ a Q ro hb hO hH hF hsz hQ)
  ·rename_i s0 ha
   exact wpIn_cond_false (zbw hF hc ha).bool_inv (ihy b st e st' hs w X μ a Q ro hb hO hH hF hsz hQ)
  ·cases hs
 |block id c ac _ ih=>
  intro b st e st' hs w X μ a Q ro hb hO hH hF hsz hQ
  simp only[aexec] at hs
  apply wpIn_block
  cases h1:aexec Γ Λ b ac st with
  |none=>rw[h1] at hs;cases hs
  |some r=>
   obtain⟨e1,st1⟩:=r
   rw[h1] at hs
   refine ih b st e1 st1 h1 w X μ a _ ro hb hO hH hF hsz fun e' a' w' hL=> ?_
   obtain⟨g1,g2,μ',g3,g4,g5,g6⟩:=hL
   cases e1 with
   |normal=>
    cases hs
    cases e' <;> simp only[zaM] at g6
    exact hQ _ _ _ ⟨g1,g2,μ',g3,g4,g5,trivial⟩
   |exit i=>
    cases e' <;> simp only[zaM] at g6
    subst g6
    simp only[] at hs
    split at hs
    ·rename_i hid
     cases hs
     simp only[Exit.inBlock,hid,if_true]
     exact hQ _ _ _ ⟨g1,g2,μ',g3,g4,g5,trivial⟩
    ·rename_i hid
     cases hs
     simp only[Exit.inBlock,hid,if_false]
     exact hQ _ _ _ ⟨g1,g2,μ',g3,g4,g5,rfl⟩
   |ret=>
    cases hs
    cases e' <;> simp only[zaM] at g6
    exact hQ _ _ _ ⟨g1,g2,μ',g3,g4,g5,trivial⟩
   |panic p=>
    cases hs
    cases e' <;> simp only[zaM] at g6
    exact hQ _ _ _ ⟨g1,g2,μ',g3,g4,g5,g6⟩
 |loop keep c ac hc _=>
  intro b st e st' hs w X μ a Q ro hb hO hH hF hsz hQ
  exact hΛ c ac hc b keep ⟨st.fr.keep keep,st.hp⟩ e st' hs w X μ a Q ro hb hO hH (hF.keep keep) hsz hQ
end Go.Am

/- Loops. -/
namespace Go.Am
variable{P:Program} {w:World} {X:Xc P} {μ:Nat->Option Nat} {hp:Heap}

theorem zlC{fr:Fr}{s:Nat}{u:AV}(h:fr.look s=some u):(s,u)∈fr:=by
 induction fr with
 |nil=>simp[Fr.look] at h
 |cons x r ih=>
  obtain⟨k,v⟩:=x
  simp only[Fr.look] at h
  split at h
  ·rename_i e;subst e;cases h;simp
  ·simp[ih h]

theorem zh1{b n:Nat}{w0:World}{μ0:Nat->Option Nat}{hp0:Heap}{fr:Fr}{t:Array Value}(h0:hp0.length=n)(hb:b<=n)(hO:Own b hp)(hH:HR w X μ hp)(hF:FR w X μ hp fr t)(E:Ext b X μ0 hp0 w0 μ hp w):
  HR w X μ (collect n b fr hp)/\FR w X μ (collect n b fr hp) fr t/\Ext b X μ0 hp0 w0 μ (collect n b fr hp) w/\Own b (collect n b fr hp):=by
 unfold collect
 split
 ·rename_i hc
  simp only[Bool.and_eq_true,List.all_eq_true] at hc
  obtain⟨c1,c2⟩:=hc
  refine⟨hH.take fun i o hi ho q hq=> ?_,fun s u hs=> ?_,E.take (by omega),fun i o hi ho q hq=>hO i o hi (zda ho).2 q hq⟩
  ·rcases Nat.lt_or_ge i b with hib|hib
   ·have:=hO i o hib ho q hq;omega
   ·have hm:o∈(hp.take n).drop b:=by
     have:((hp.take n).drop b)[i - b]? =some o:=by
      rw[List.getElem?_drop,show b+(i - b)=i by omega]
      exact zb1 ho hi
     exact List.mem_of_getElem? this
    have:=c2 _ hm
    simp only[List.all_eq_true,decide_eq_true_eq] at this
    exact this q hq
  ·obtain⟨k1,k2⟩:=hF s u hs
   refine⟨k1,k2.take fun q hq=> ?_⟩
   have:=c1 _ (zlC hs)
   simp only[decide_eq_true_eq] at this
   exact this q hq
 ·exact⟨hH,hF,E,hO⟩

def Going(nt:Nat)(Γ:Oracle)(b n:Nat)(keep:List Nat)(ac:ACode)(X:Xc P)(w0:World)(μ0:Nat->Option Nat)(hp0:Heap)(ds:List Deferred)(e:AExit)(st':St)(k:Nat)(a:Act)(w:World):Prop:=
 ∃st μ,aloop Γ k b n keep ac st=some (e,st')/\Own b st.hp/\HR w X μ st.hp/\FR w X μ st.hp st.fr a.tmps/\a.tmps.size=nt/\a.defers=ds/\Ext b X μ0 hp0 w0 μ st.hp w

theorem zfw(p:Nat->Prop)(h:∃j,p j):∃j,p j/\∀i,p i->j<=i:=by
 obtain⟨n,hn⟩:=h
 induction n using Nat.strongRecOn with
 |_ n ih=>
  by_cases hx:∃m,m<n/\p m
  ·obtain⟨m,h1,h2⟩:=hx
   exact ih m h1 h2
  ·exact⟨n,hn,fun i hi=>Nat.le_of_not_lt fun hlt=>hx ⟨i,hlt,hi⟩⟩

open Classical in
theorem zsj{nt:Nat}{Γ:Oracle}(hmix:P.follows .mixedOrders=true)(hΓ:SoundO P Γ):∀(k:Nat) (c:Code) (ac:ACode),Tr P nt c ac->zez P nt (aloop Γ k) c ac:=by
 intro k
 induction k using Nat.strongRecOn with
 |_ k ih=>
  intro c ac hT b keep st e st' hs w0 X μ0 a0 Q ro hb hO hH hF hsz hQ
  let G:=Going nt Γ b st.hp.length keep ac X w0 μ0 st.hp a0.defers e st'
  let least:Act->World->Nat:=fun a w=>if h:∃j,G j a w then(zfw (fun j=>G j a w) h).choose else 0
  have hleast:∀a w j,G j a w->G (least a w) a w/\least a w<=j:=by
   intro a w j hj
   have hx:∃j,G j a w:=⟨j,hj⟩
   simp only[least,dif_pos hx]
   have hsp:=(zfw (fun j=>G j a w) hx).choose_spec
   exact⟨hsp.1,hsp.2 j hj⟩
  refine wpIn_loop (fun a w=>∃j,j<=k/\G j a w) least ⟨k,Nat.le_refl _,st,μ0,hs,hO,hH,hF,hsz,rfl,Ext.refl _ _ _ _ _⟩ ?_
  intro a w ⟨j0,hj0,hG0⟩
  obtain⟨hG,hle⟩:=hleast a w j0 hG0
  generalize least a w=j at hG hle
  obtain⟨st1,μ1,hl,g1,g2,g3,g4,g5,g6⟩:=hG
  cases j with
  |zero=>simp only[aloop] at hl;cases hl
  |succ j=>
   have hbl:b<=st1.hp.length:=Nat.le_trans hb g6.len
   have hcode:zor P nt Γ (aloop Γ j) c ac:=zfd hmix hΓ (fun c ac h=>ih j (by omega) c ac h) hT
   simp only[aloop] at hl
   cases h1:aexec Γ (aloop Γ j) b ac st1 with
   |none=>rw[h1] at hl;cases hl
   |some r=>
    obtain⟨e1,st2⟩:=r
    rw[h1] at hl
    refine hcode b st1 e1 st2 h1 w X μ1 a _ ro hbl g1 g2 g3 g4 fun e' a' w' hL=> ?_
    obtain⟨k1,k2,μ2,k3,k4,k5,k6⟩:=hL
    have done:∀{e'},zaM w' X μ2 st2.hp e1 e'->e1≠.normal->e=e1/\st'=st2->Q e' a' w':=by
     rintro e' hx _ ⟨rfl,rfl⟩
     exact hQ _ _ _ ⟨k1.trans g5,k2,μ2,k3,k4,g6.trans k5,hx⟩
    cases e1 with
    |normal=>
     cases e' <;> simp only[zaM] at k6
     simp only[] at hl
     obtain⟨c1,c2,c3,c4⟩:=zh1 (n:=st.hp.length) rfl hb (g1.ext hbl k5) k3 (k4.keep keep) (g6.trans k5)
     have hG':G j a' w':=⟨⟨st2.fr.keep keep,collect st.hp.length b (st2.fr.keep keep) st2.hp⟩,μ2,hl,c4,c1,c2,k2,k1.trans g5,c3⟩
     exact⟨⟨j,by omega,hG'⟩,Nat.lt_of_le_of_lt (hleast a' w' j hG').2 (Nat.lt_succ_self j)⟩
    |exit i=>
     cases hl
     cases e' <;> simp only[zaM] at k6
     exact done (e':=.exit _) k6 (by simp) ⟨rfl,rfl⟩
    |ret=>
     cases hl
     cases e' <;> simp only[zaM] at k6
     exact done (e':=.ret) trivial (by simp) ⟨rfl,rfl⟩
    |panic p=>
     cases hl
     cases e' <;> simp only[zaM] at k6
     exact done (e':=.panic _) k6 (by simp) ⟨rfl,rfl⟩
end Go.Am

/- Functions and what their calls come to. -/
namespace Go.Am
variable{P:Program} {w:World} {X:Xc P} {μ:Nat->Option Nat} {hp:Heap}

theorem zjj{nt:Nat}{ops:Array Oper}:∀{r:List Oper} {l:List AOper},zea P nt ops r=some l->l.length=r.length/\∀(i:Nat) (o:Oper),r[i]? =some o->∃ao,zen P nt ops o=some ao/\l[i]? =some ao
 |[],l,h=>by cases h;exact⟨rfl,fun i o h=>by simp at h⟩
 |o::r,l,h=>by
  simp only[zea] at h
  split at h
  ·cases h
  ·rename_i a ha
   split at h
   ·rename_i l' hl
    cases h
    obtain⟨h1,h2⟩:=zjj hl
    refine⟨by simp[h1],fun i o' ho=> ?_⟩
    cases i with
    |zero=>simp at ho;subst ho;exact⟨a,ha,rfl⟩
    |succ i=>simpa using h2 i o' (by simpa using ho)
   ·cases h

theorem za7{nt:Nat}{ops:Array Oper}{o:Oper}{ao:AOper}(h:zen P nt ops o=some ao):ao.op.exact=true:=by
 obtain⟨_,_,d3⟩:=zdR h
 cases he:ao.op.exact with
 |true=>rfl
 |false=>
  unfold AOp.exact at he
  split at he
  ·rename_i e;rw[e] at d3;exact absurd d3 zmA
  ·rename_i e;rw[e] at d3;exact absurd d3 zmB
  ·rename_i e;rw[e] at d3;exact absurd d3 zok
  ·rename_i e;rw[e] at d3;exact absurd d3 zi4
  ·rename_i e;rw[e] at d3;exact absurd d3 zkr
  ·cases he
theorem zjk{sure:Bool}{c:List Nat}{l0:List AOper}:∀(r:List AOper) (n:Nat),(zmc sure c l0 n r).length=r.length/\∀(i:Nat) (o:AOper),r[i]? =some o->∃b qs,(zmc sure c l0 n r)[i]? =some (mOne sure b qs o)
 |[],n=>⟨rfl,fun i o h=>by simp at h⟩
 |x::r,n=>by
  obtain⟨h1,h2⟩:=zjk (sure:=sure) (c:=c) (l0:=l0) r (n+1)
  refine⟨by simp[zmc,h1],fun i o ho=> ?_⟩
  cases i with
  |zero=>simp at ho;subst ho;exact⟨_,_,rfl⟩
  |succ i=>simpa[zmc] using h2 i o (by simpa using ho)
theorem zos{sure b:Bool}{qs:List AArg}{o:AOper}(h:o.op.exact=true):(mOne sure b qs o).dst=o.dst/\(mOne sure b qs o).guard=o.guard/\(mOne sure b qs o).base.args=o.args/\(mOne sure b qs o).base.op.alike o.op:=by
 have same:(o.dst=o.dst/\o.guard=o.guard/\o.base.args=o.args/\o.base.op.alike o.op):=by
  rw[zdb h]
  exact⟨rfl,rfl,rfl,.inl rfl⟩
 unfold mOne
 split
 ·rename_i hop
  split
  ·split
   ·exact same
   ·refine⟨rfl,rfl,?_,?_⟩
    ·show(qs++o.args).drop qs.length=o.args
     rw[List.drop_left]
    ·rw[hop];exact .inl rfl
  ·split
   ·refine⟨rfl,rfl,rfl,?_⟩
    rw[hop]
    exact .inr (.inr (.inl ⟨rfl,.inr rfl⟩))
   ·exact same
 ·rename_i sh hop
  split
  ·refine⟨rfl,rfl,?_,?_⟩
   ·show(qs++o.args).drop qs.length=o.args
    rw[List.drop_left]
   ·rw[hop];exact .inl rfl
  ·split
   ·refine⟨rfl,rfl,rfl,?_⟩
    rw[hop]
    exact .inr (.inl ⟨sh,rfl,.inl rfl⟩)
   ·exact same
 ·rename_i sh p v hop ha
  split
  ·exact same
  ·refine⟨rfl,rfl,?_,?_⟩
   ·rw[ha];rfl
   ·rw[hop];exact .inl rfl
 ·exact same
theorem zfM{l:List AOper}{o:AOper}(h:o.op.exact=true):(o.toP P l).dst=o.dst/\(o.toP P l).guard=o.guard/\(o.toP P l).base.args=o.args/\(o.toP P l).base.op.alike o.op:=by
 have same:(o.dst=o.dst/\o.guard=o.guard/\o.base.args=o.args/\o.base.op.alike o.op):=by
  rw[zdb h]
  exact⟨rfl,rfl,rfl,.inl rfl⟩
 unfold AOper.toP
 split
 ·rename_i hop
  split
  ·exact same
  ·refine⟨rfl,rfl,rfl,?_⟩
   rw[hop]
   exact .inr (.inr (.inl ⟨rfl,.inl rfl⟩))
 ·rename_i sh hop
  refine⟨rfl,rfl,rfl,?_⟩
  rw[hop]
  exact .inr (.inl ⟨sh,rfl,.inl rfl⟩)
 ·rename_i sh hop
  split
  ·refine⟨rfl,rfl,rfl,?_⟩
   rw[hop]
   exact .inr (.inr (.inr ⟨sh,rfl,rfl⟩))
  ·exact same
 ·exact same

theorem zg8{nt:Nat}{ops:Array Oper}{l:List AOper}(h:Tie P nt ops l):Tie P nt ops (zgQ l):=by
 unfold zgQ
 split
 ·rename_i s v e1 e2
  split
  ·rename_i q x sh p y f1 f2 f3
   refine⟨by simp[h.1],fun i o ho=> ?_⟩
   obtain⟨ao0,ao,t1,t2,q1,q2,q3,q4⟩:=h.2 i o ho
   by_cases hi:l.length - 1=i
   ·subst hi
    rw[e2] at t2
    cases t2
    have hb:v.base=v:=zdb (by rw[f2];rfl)
    refine⟨ao0,_,t1,List.getElem?_set_self (List.getElem?_eq_some_iff.1 e2).1,q1,q2,?_,?_⟩
    ·rw[hb,f3] at q3;exact q3
    ·rw[hb,f2] at q4;exact q4
   ·exact⟨ao0,ao,t1,by rw[List.getElem?_set_ne hi];exact t2,q1,q2,q3,q4⟩
  ·exact h
 ·exact h
theorem zjl{c:List Nat}{l0:List AOper}:∀(r:List AOper) (n:Nat),(zme c l0 n r).length=r.length/\∀(i:Nat) (o:AOper),r[i]? =some o->∃b,(zme c l0 n r)[i]? =some (gOne b o)
 |[],n=>⟨rfl,fun i o h=>by simp at h⟩
 |x::r,n=>by
  obtain⟨h1,h2⟩:=zjl (c:=c) (l0:=l0) r (n+1)
  refine⟨by simp[zme,h1],fun i o ho=> ?_⟩
  cases i with
  |zero=>simp at ho;subst ho;exact⟨_,rfl⟩
  |succ i=>simpa[zme] using h2 i o (by simpa using ho)
theorem zot{b:Bool}{o:AOper}(h:o.op.exact=true):(gOne b o).dst=o.dst/\(gOne b o).guard=o.guard/\(gOne b o).base.args=o.args/\(gOne b o).base.op.alike o.op:=by
 have same:(o.dst=o.dst/\o.guard=o.guard/\o.base.args=o.args/\o.base.op.alike o.op):=by
  rw[zdb h]
  exact⟨rfl,rfl,rfl,.inl rfl⟩
 unfold gOne
 split
 ·rename_i hop
  split
  ·refine⟨rfl,rfl,rfl,?_⟩
   rw[hop]
   exact .inl rfl
  ·exact same
 ·exact same
theorem zkw{hm:Bool}{nt id:Nat}{ops:Array Oper}{draw:Bool}{ac:ACode}(h:zhw P hm nt ops draw=some ac):Tr P nt (.region id ops draw) ac:=by
 unfold zhw at h
 split at h
 ·cases h
 ·rename_i l hl
  obtain⟨h1,h2⟩:=zjj hl
  have tieM:∀sure,Tie P nt ops (toM sure ops l):=by
   intro sure
   obtain⟨g1,g2⟩:=zjk (sure:=sure) (c:=zbL [] ops.toList) (l0:=l) l 0
   refine⟨by unfold toM;rw[g1];simpa using h1,fun i o ho=> ?_⟩
   obtain⟨ao,a1,a2⟩:=h2 i o (by simpa using ho)
   obtain⟨b,qs,g3⟩:=g2 i ao a2
   obtain⟨k1,k2,k3,k4⟩:=zos (sure:=sure) (b:=b) (qs:=qs) (za7 a1)
   exact⟨ao,_,a1,g3,k1,k2,k3,k4⟩
  have tieG:Tie P nt ops (toG ops l):=by
   obtain⟨g1,g2⟩:=zjl (c:=zbL [] ops.toList) (l0:=l) l 0
   refine⟨by unfold toG;rw[g1];simpa using h1,fun i o ho=> ?_⟩
   obtain⟨ao,a1,a2⟩:=h2 i o (by simpa using ho)
   obtain⟨b,g3⟩:=g2 i ao a2
   obtain⟨k1,k2,k3,k4⟩:=zot (b:=b) (za7 a1)
   exact⟨ao,_,a1,g3,k1,k2,k3,k4⟩
  by_cases hd:draw=false
  ·rw[if_pos hd] at h
   cases h
   subst hd
   refine .region id ops _ l true [] hl ?_
   split
   ·exact Likes.map (zn1 l) l
   ·exact Likes.refl l
  ·rw[if_neg hd] at h
   have hd':draw=true:=by
    cases draw with
    |true=>rfl
    |false=>exact absurd rfl hd
   subst hd'
   by_cases hkp:l.any (zhu P)=true
   ·rw[if_pos hkp] at h
    unfold zrN at h
    have tieP:Tie P nt ops (l.map (AOper.toP P l)):=by
     refine⟨by simpa using h1,fun i o ho=> ?_⟩
     obtain⟨ao,a1,a2⟩:=h2 i o (by simpa using ho)
     obtain⟨k1,k2,k3,k4⟩:=zfM (za7 a1)
     exact⟨ao,ao.toP P l,a1,by simp[a2],k1,k2,k3,k4⟩
    split at h
    ·rename_i hok
     cases h
     exact .settle _ _ _ (.draw id ops _ _ [] tieP hok (fun h=>h))
    ·split at h
     ·rename_i hok
      cases h
      exact .draw id ops _ _ [] (tieM true) hok (fun h=>h)
     ·cases h
   rw[if_neg hkp] at h
   split at h
   ·rename_i hok
    cases h
    exact .draw id ops _ _ [] tieG hok.2.2.2.1 (fun h=>h)
   split at h
   ·rename_i hok
    cases h
    refine .draw id ops l _ [] ⟨by simpa using h1,fun i o ho=> ?_⟩ hok (fun h=>h)
    obtain⟨ao,a1,a2⟩:=h2 i o (by simpa using ho)
    refine⟨ao,ao,a1,a2,rfl,rfl,?_,?_⟩
    ·rw[zdb (za7 a1)]
    ·rw[zdb (za7 a1)];exact .inl rfl
   ·split at h
    ·rename_i hok
     cases h
     exact .draw id ops _ _ [] (tieM true) hok.2 (fun h=>h)
    ·split at h
     ·rename_i hok
      cases h
      exact .draw id ops _ _ [] tieG hok.2 (fun h=>h)
     split at h
     ·rename_i hok
      cases h
      exact .draw id ops _ _ [] (tieM false) hok.2 (fun h=>h)
     split at h
     ·rename_i hok
      cases h
      refine .settle _ _ _ (.doom id ops _ [] ⟨by simpa using h1,fun i o ho=> ?_⟩ hok.2.2)
      obtain⟨ao,a1,a2⟩:=h2 i o (by simpa using ho)
      obtain⟨k1,k2,k3,k4⟩:=zfM (za7 a1)
      exact⟨ao,ao.toP P l,a1,by simp[a2],k1,k2,k3,k4⟩
     split at h
     ·rename_i hok
      cases h
      refine .settle _ _ _ (.draw id ops _ _ [] ⟨by simpa using h1,fun i o ho=> ?_⟩ hok (fun h=>h))
      obtain⟨ao,a1,a2⟩:=h2 i o (by simpa using ho)
      obtain⟨k1,k2,k3,k4⟩:=zfM (za7 a1)
      exact⟨ao,ao.toP P l,a1,by simp[a2],k1,k2,k3,k4⟩
     ·split at h
      ·rename_i hok
       cases h
       exact .draw id ops _ _ [] (tieM false) hok (fun h=>h)
      ·split at h
       ·rename_i hok
        cases h
        exact .draw2 id ops _ [] (zg8 (tieM true)) hok.2
       ·split at h
        ·rename_i hok
         cases h
         refine .settle _ _ _ (.draw2 id ops _ [] (zg8 ⟨by simpa using h1,fun i o ho=> ?_⟩) hok)
         obtain⟨ao,a1,a2⟩:=h2 i o (by simpa using ho)
         obtain⟨k1,k2,k3,k4⟩:=zfM (za7 a1)
         exact⟨ao,ao.toP P l,a1,by simp[a2],k1,k2,k3,k4⟩
        ·cases h

theorem zeA{hm:Bool}{nt:Nat}:∀(c:Code) (ac:ACode),zce P hm nt c=some ac->Tr P nt c ac:=by
 intro c
 induction c with
 |region id ops draw=>intro ac h;exact zkw h
 |skip=>intro ac h;cases h;exact .skip
 |label id=>intro ac h;cases h;exact .label id
 |scope c ih=>intro ac h;exact .scope _ _ (ih _ h)
 |exit id=>intro ac h;cases h;exact .exit id
 |ret=>intro ac h;cases h;exact .ret
 |seq x y ihx ihy=>
  intro ac h
  simp only[zce] at h
  split at h
  ·cases h;exact .seq _ _ _ _ (ihx _ ‹_›) (ihy _ ‹_›)
  ·cases h
 |cond c x y ihx ihy=>
  intro ac h
  simp only[zce] at h
  split at h
  ·cases h;exact .cond _ _ _ _ _ _ ‹_› (ihx _ ‹_›) (ihy _ ‹_›)
  ·cases h
 |block id c ih=>
  intro ac h
  simp only[zce] at h
  split at h
  ·cases h;exact .block _ _ _ (ih _ ‹_›)
  ·cases h
 |loop c ih=>
  intro ac h
  simp only[zce] at h
  split at h
  ·cases h;exact .loop _ _ _ (ih _ ‹_›)
  ·cases h
 |_=>intro ac h;cases h

theorem zeB{nt:Nat}{c:Code}{ac:ACode}(h:Tr P nt c ac):∀out env ret,Tr P nt c (annot ac out env ret):=by
 induction h with
 |skip=>intros;exact .skip
 |region id ops l l0 pan keep h hlk=>intros;exact .region id ops l l0 pan _ h hlk
 |draw id ops l pan keep hT hd hp=>intros;exact .draw id ops l pan _ hT hd hp
 |draw2 id ops l keep hT hd=>intros;exact .draw2 id ops l _ hT hd
 |doom id ops l keep hT hd=>intros;exact .doom id ops l _ hT hd
 |settle c ac ss _ ih=>intros;exact .settle _ _ _ (ih _ _ _)
 |seq x y a b _ _ ihx ihy=>intros;exact .seq _ _ _ _ (ihx _ _ _) (ihy _ _ _)
 |cond c ca x y a b hc _ _ ihx ihy=>intros;exact .cond _ _ _ _ _ _ hc (ihx _ _ _) (ihy _ _ _)
 |block id c a _ ih=>intros;exact .block _ _ _ (ih _ _ _)
 |loop keep c a _ ih=>intros;exact .loop _ _ _ (ih _ _ _)
 |label id=>intros;exact .label id
 |scope c a _ ih=>intros;exact .scope _ _ (ih _ _ _)
 |exit id=>intros;exact .exit id
 |ret=>intros;exact .ret

theorem zqw{sh:Sh}{a v:AV}{x:Value}(h:aload sh hp a=some v)(ha:AR w X μ hp a x):∃ad,x=.pointer (some ad):=by
 unfold aload at h
 split at h
 ·cases ha;exact⟨_,rfl⟩
 ·cases ha;exact⟨_,rfl⟩
 ·cases ha;exact⟨_,rfl⟩
 ·cases ha;exact⟨_,rfl⟩
 ·cases h

def zlD(t:Array Value):ResultVar->Sem Value
 | .tmp s=>pure (t.getD s undef)
 | .cell a ty=>do loadVar ty (<-asAddr (t.getD a undef))
theorem zmG(fn:Func)(t:Array Value):results fn t=(do let vs <-fn.results.mapM (zlD t);pure (if h:vs.size=1 then vs[0] else .tuple vs)):=by
 unfold results
 congr 1
theorem zeC{st:St}:∀{r:List RSlot} {l:List AV},zaY st r=some l->l.length=r.length
 |[],l,h=>by cases h;rfl
 |s::r,l,h=>by
  simp only[zaY] at h
  split at h
  ·cases h
  ·split at h
   ·cases h;simp[zeC ‹_›]
   ·cases h

theorem zge{st:St}{t:Array Value}(hH:HR w X μ st.hp)(hF:FR w X μ st.hp st.fr t):∀(rs:List ResultVar) (l:List AV),zj4 P rs=true->zaY st (zay P rs)=some l->
  ∃vs,(rs.mapM (zlD t)).run P w=.ok vs w/\LR w X μ st.hp l vs
 |[],l,_,h=>by cases h;exact⟨[],rfl,.nil⟩
 | .tmp s::r,l,hok,h=>by
  simp only[zay,zaY] at h
  split at h
  ·cases h
  ·rename_i v hv
   split at h
   ·rename_i l' hl
    cases h
    obtain⟨vs,k1,k2⟩:=zge hH hF r l' hok hl
    refine⟨t.getD s undef::vs,?_,.cons (hF s v hv).2 k2⟩
    simp only[List.mapM_cons,zlD,Sem.run_bind,Sem.run_pure,Result.andThen_ok,k1]
   ·cases h
 | .cell s ty::r,l,hok,h=>by
  simp only[zj4,Bool.and_eq_true] at hok
  simp only[zay,zaY] at h
  split at h
  ·cases h
  ·rename_i v hv
   split at h
   ·rename_i l' hl
    cases h
    obtain⟨vs,k1,k2⟩:=zge hH hF r l' hok.2 hl
    simp only[za9] at hv
    split at hv
    ·rename_i p hp
     have ha:=(hF s p hp).2
     obtain⟨ad,had⟩:=zqw hv ha
     obtain⟨u,u1,u2⟩:=zgV (P:=P) hH hok.1 (.cons ha .nil) (show zgB (shOf P ty) st.hp [p]=some v from hv)
     rw[had] at u1
     have u3:(loadVar ty ad).run P w=.ok u w:=by
      simp only[Instr.loadAt,Instr.sureAddr,Sem.run_bind,Sem.run_pure,Result.andThen_ok] at u1
      cases hr:(loadVar ty ad).run P w with
      |ok q w'=>rw[hr] at u1;simp only[Result.andThen_ok,Result.ok.injEq,Next.value.injEq] at u1;rw[u1.1,u1.2]
      |halt q w'=>rw[hr] at u1;simp[Result.andThen] at u1
     refine⟨u::vs,?_,.cons u2 k2⟩
     simp only[List.mapM_cons,zlD,had,Sem.run_bind,asAddr,Sem.run_pure,Result.andThen_ok,u3,k1]
    ·cases hv
   ·cases h

theorem zdd{fn:Func}{st:St}{t:Array Value}{v:AV}(hH:HR w X μ st.hp)(hF:FR w X μ st.hp st.fr t)(hok:zj4 P fn.results.toList=true)(h:zaA st (zay P fn.results.toList)=some v):
  ∃u,(results fn t).run P w=.ok u w/\AR w X μ st.hp v u:=by
 have gen:∀l,zaY st (zay P fn.results.toList)=some l->∃vs:List Value,(results fn t).run P w=.ok (if h:vs.toArray.size=1 then vs.toArray[0] else .tuple vs.toArray) w/\LR w X μ st.hp l vs:=by
  intro l hl
  obtain⟨vs,k1,k2⟩:=zge hH hF _ l hok hl
  refine⟨vs,?_,k2⟩
  rw[zmG,Array.mapM_eq_mapM_toList]
  simp only[Sem.run_bind,Sem.run_map,k1,Result.andThen_ok,Sem.run_pure]
 unfold zaA at h
 split at h
 ·rename_i s hs
  obtain⟨vs,k1,k2⟩:=gen [v] (by simp[hs,zaY,h])
  cases k2 with|cons k2 k3=>
  cases k3
  exact⟨_,k1,by simpa using k2⟩
 ·rename_i hne
  split at h
  ·rename_i l hl
   cases h
   obtain⟨vs,k1,k2⟩:=gen l hl
   have hsz:¬vs.toArray.size=1:=by
    intro h1
    have h2:=zeC hl
    have h3:=k2.length
    have h4:(zay P fn.results.toList).length=1:=by simp at h1;omega
    match hx:zay P fn.results.toList,h4 with
    |[s],_=>exact hne s hx
   rw[dif_neg hsz] at k1
   exact⟨_,k1,.tuple _ vs k2.length fun i a u ha hu=>k2.get i a u ha hu⟩
  ·cases h
end Go.Am

/- Blocks that are no part of the heap's relation; the record of a loop over a function. -/
namespace Go.Am
variable{P:Program} {w:World} {X:Xc P} {μ:Nat->Option Nat} {hp:Heap}

structure Touch(l:Nat)(w w':World):Prop where
 not:∀cs t fr,w.heap[l]?≠some (.cells cs t fr)
 old:∀b,b≠l->w'.heap[b]? =w.heap[b]?
 size:w'.heap.size=w.heap.size
 os:w'.os=w.os
 tape:w'.tape=w.tape
 output:w'.output=w.output
theorem Touch.put{l:Nat}{o:Obj}(h:∀cs t fr,w.heap[l]?≠some (.cells cs t fr)):Touch l w (w.putObj l o):=
 ⟨h,fun b hb=>World.putObj_heap_other hb,World.putObj_size,rfl,rfl,rfl⟩
section
variable{l:Nat} {w':World} (T:Touch l w w')
include T
theorem Touch.cells{b:Nat}{cs:Array Value}{t:TypeId}{fr:Nat × Nat}(h:w.heap[b]? =some (.cells cs t fr)):w'.heap[b]? =some (.cells cs t fr):=by
 rw[T.old b (by rintro rfl;exact T.not _ _ _ h)]
 exact h
theorem Touch.pr{I:Nat->Prop}{p:PV}{v:Value}(h:PR w I p v):PR w' I p v:=h.mono fun b cs t fr hI hb=>⟨hI,T.cells hb⟩
theorem Touch.ar{a:AV}{v:Value}(h:AR w X μ hp a v):AR w' X μ hp a v:=by
 induction h with
 |undef v h=>exact .undef v h
 |pv sh p v hs h=>exact .pv sh p v hs (T.pr h)
 |agg l vs hl hs _ ih=>exact .agg l vs hl hs ih
 |tsl sh es a h=>exact .tsl sh es a (T.pr h)
 |sl sh r ver off len a cap es fz ho hv hlc ha hc=>
  refine .sl sh r ver off len a cap es fz ho hv hlc ha fun e=> ?_
  obtain⟨c1,c2⟩:=hc e
  refine⟨c1,?_⟩
  rcases c2 with c2|⟨b,cs,t,c2,c3,c4,c5⟩
  ·exact .inl c2
  ·exact .inr ⟨b,cs,t,c2,T.cells c3,c4,c5⟩
 |ptr r off b sh v ho hb=>exact .ptr r off b sh v ho hb
 |eptr sh r ver i off a es fz ho hv hc=>exact .eptr sh r ver i off a es fz ho hv hc
 |iptr sh p off b o cs t fr v hI hb hp hs hc=>exact .iptr sh p off b o cs t fr v hI (T.cells hb) (T.pr hp) hs hc
 |map r b sh es ho hb=>exact .map r b sh es ho hb
 |func fn first captured fs cs hf hc _ _ ih ih'=>exact .func fn first captured fs cs hf hc ih ih'
 |iface t a v _ ih=>exact .iface t a v ih
 |tuple l vs hl _ ih=>exact .tuple l vs hl ih
 |yield r l f ps env bz ho hb=>exact .yield r l f ps env bz ho hb
 |slv sh r ver off len a cap n ho hv hlc ha hc=>
  refine .slv sh r ver off len a cap n ho hv hlc ha fun e=> ?_
  obtain⟨c1,b,cs,t,c2,c3,c4,c5⟩:=hc e
  exact⟨c1,b,cs,t,c2,T.cells c3,c4,c5⟩
 |epv sh r ver i off a n ho hv hc=>exact .epv sh r ver i off a n ho hv hc
 |nilv sh=>exact .nilv sh
theorem Touch.hr(hm:∀i,i<hp.length->μ i≠some l)(h:HR w X μ hp):HR w' X μ hp where
 inj:=h.inj
 out i b hi hb:=by rw[T.size];exact h.out i b hi hb
 xlt b hb:=by rw[T.size];exact h.xlt b hb
 box i sh v ho:=by
  obtain⟨b,val,t,h1,h2,h3,h4,h5⟩:=h.box i sh v ho
  exact⟨b,val,t,h1,T.cells h2,h3,h4,T.ar h5⟩
 arr i sh es fz ho:=by
  obtain⟨h0,h1⟩:=h.arr i sh es fz ho
  refine⟨h0,?_⟩
  rcases h1 with h1|⟨b,cs,t,vals,h1,h2,h3,h4,h5⟩
  ·exact .inl h1
  ·exact .inr ⟨b,cs,t,vals,h1,T.cells h2,h3,fun k p v hk hv=>⟨(h4 k p v hk hv).1,T.pr (h4 k p v hk hv).2⟩,h5⟩
 map i sh es ho:=by
  have hi:=(List.getElem?_eq_some_iff.1 ho).1
  obtain⟨b,ents,clock,h1,h2,h3,h4⟩:=h.map i sh es ho
  exact⟨b,ents,clock,h1,by rw[T.old b (by rintro rfl;exact hm i hi h1)];exact h2,h3,fun k x y hk hy=>⟨T.pr (h4 k x y hk hy).1,T.pr (h4 k x y hk hy).2.1,(h4 k x y hk hy).2.2⟩⟩
 loop i f ps env bz ho:=by
  have hi:=(List.getElem?_eq_some_iff.1 ho).1
  obtain⟨b,rc,h1,h2,h3,h4,h5,h6,h7⟩:=h.loop i f ps env bz ho
  exact⟨b,rc,h1,by rw[T.old b (by rintro rfl;exact hm i hi h1)];exact h2,h3,h4,h5,h6,fun x hx=>⟨(h7 x hx).1,T.ar (h7 x hx).2⟩⟩
 arv i sh es ho:=by
  obtain⟨h0,b,cs,t,vals,h1,h2,h3,h4,h5⟩:=h.arv i sh es ho
  exact⟨h0,b,cs,t,vals,h1,T.cells h2,h3,fun k p v hk hv=>⟨(h4 k p v hk hv).1,T.ar (h4 k p v hk hv).2⟩,h5⟩
theorem Touch.ext{b0:Nat}{Y:Xc P}{μ0:Nat->Option Nat}{hp0:Heap}{w0:World}(hl:w0.heap.size<=l)(E:Ext b0 Y μ0 hp0 w0 μ hp w):Ext b0 Y μ0 hp0 w0 μ hp w':={ E with
 os:=T.os.trans E.os
 tape:=T.tape.trans E.tape
 output:=T.output.trans E.output
 size:=by rw[T.size];exact E.size
 blk:=fun b hb hi=>by rw[T.old b (by omega)];exact E.blk b hb hi
 shape:=fun b cs t fr h=>by
  have:=zaz h
  rw[T.old b (by omega)]
  exact E.shape b cs t fr h }
end

theorem zou{Y:Xc P}{b:Nat}(hx:∀b,Y b->X b)(h:Im X μ hp b):Im Y μ hp b:=⟨fun hy=>h.1 (hx b hy),h.2⟩
theorem PR.less{Y:Xc P}(hx:∀b,Y b->X b){p:PV}{v:Value}(h:PR w (Im X μ hp) p v):PR w (Im Y μ hp) p v:=h.mono fun _ _ _ _ hI hb=>⟨zou hx hI,hb⟩
theorem AR.less{Y:Xc P}(hx:∀b,Y b->X b){a:AV}{v:Value}(h:AR w X μ hp a v):AR w Y μ hp a v:=by
 induction h with
 |undef v h=>exact .undef v h
 |pv sh p v hs h=>exact .pv sh p v hs (h.less hx)
 |agg l vs hl hs _ ih=>exact .agg l vs hl hs ih
 |tsl sh es a h=>exact .tsl sh es a (h.less hx)
 |sl sh r ver off len a cap es fz ho hv hlc ha hc=>exact .sl sh r ver off len a cap es fz ho hv hlc ha hc
 |ptr r off b sh v ho hb=>exact .ptr r off b sh v ho hb
 |eptr sh r ver i off a es fz ho hv hc=>exact .eptr sh r ver i off a es fz ho hv hc
 |iptr sh p off b o cs t fr v hI hb hp hs hc=>exact .iptr sh p off b o cs t fr v (zou hx hI) hb (hp.less hx) hs hc
 |map r b sh es ho hb=>exact .map r b sh es ho hb
 |func fn first captured fs cs hf hc _ _ ih ih'=>exact .func fn first captured fs cs hf hc ih ih'
 |iface t a v _ ih=>exact .iface t a v ih
 |tuple l vs hl _ ih=>exact .tuple l vs hl ih
 |yield r l f ps env bz ho hb=>exact .yield r l f ps env bz ho hb
 |slv sh r ver off len a cap n ho hv hlc ha hc=>exact .slv sh r ver off len a cap n ho hv hlc ha hc
 |epv sh r ver i off a n ho hv hc=>exact .epv sh r ver i off a n ho hv hc
 |nilv sh=>exact .nilv sh
theorem HR.less{Y:Xc P}(hx:∀b,Y b->X b)(h:HR w X μ hp):HR w Y μ hp where
 inj:=h.inj
 out i b hi hb:=⟨fun hy=>(h.out i b hi hb).1 (hx b hy),(h.out i b hi hb).2⟩
 xlt b hb:=h.xlt b (hx b hb)
 box i sh v ho:=by
  obtain⟨b,val,t,h1,h2,h3,h4,h5⟩:=h.box i sh v ho
  exact⟨b,val,t,h1,h2,h3,h4,h5.less hx⟩
 arr i sh es fz ho:=by
  obtain⟨h0,h1⟩:=h.arr i sh es fz ho
  refine⟨h0,?_⟩
  rcases h1 with h1|⟨b,cs,t,vals,h1,h2,h3,h4,h5⟩
  ·exact .inl h1
  ·exact .inr ⟨b,cs,t,vals,h1,h2,h3,fun k p v hk hv=>⟨(h4 k p v hk hv).1,(h4 k p v hk hv).2.less hx⟩,h5⟩
 map i sh es ho:=by
  obtain⟨b,ents,clock,h1,h2,h3,h4⟩:=h.map i sh es ho
  exact⟨b,ents,clock,h1,h2,h3,fun k x y hk hy=>⟨(h4 k x y hk hy).1.less hx,(h4 k x y hk hy).2.1.less hx,(h4 k x y hk hy).2.2⟩⟩
 loop i f ps env bz ho:=by
  obtain⟨b,rc,h1,h2,h3,h4,h5,h6,h7⟩:=h.loop i f ps env bz ho
  exact⟨b,rc,h1,h2,h3,h4,h5,h6,fun x hx'=>⟨(h7 x hx').1,(h7 x hx').2.less hx⟩⟩
 arv i sh es ho:=by
  obtain⟨h0,b,cs,t,vals,h1,h2,h3,h4,h5⟩:=h.arv i sh es ho
  exact⟨h0,b,cs,t,vals,h1,h2,h3,fun k p v hk hv=>⟨(h4 k p v hk hv).1,(h4 k p v hk hv).2.less hx⟩,h5⟩

theorem zov{b0 q l:Nat}{f:Nat}{ps:List Nat}{env:List (Nat × AV)}{bz bz':Bool}{rc rc':Loop}(h:HR w X μ hp)(hq:hp[q]? =some (.loop f ps env bz))(hm:μ q=some l)(hl:w.heap[l]? =some (.loop rc))
  (h1:rc'.state=if bz'=true then .busy else .ready)(h2:rc'.pending=none)(h3:rc'.params=rc.params)(h4:rc'.assign=rc.assign)(h5:rc'.body=rc.body)(h6:rc'.tmps=rc.tmps):
  HR (w.putObj l (.loop rc')) X μ (hp.set q (.loop f ps env bz'))/\Ext b0 X μ hp w μ (hp.set q (.loop f ps env bz')) (w.putObj l (.loop rc')):=by
 have hqlt:q<hp.length:=(List.getElem?_eq_some_iff.1 hq).1
 have hlt:l<w.heap.size:=zaz hl
 have get:∀{i o},hp[i]? =some o->i≠q->(hp.set q (.loop f ps env bz'))[i]? =some o:=fun{i o} ho hne=>by rw[List.getElem?_set_ne (Ne.symm hne)];exact ho
 have noc:∀cs t fr,w.heap[l]?≠some (.cells cs t fr):=fun cs t fr e=>by rw[hl] at e;cases e
 have E:∀b0,Ext b0 X μ hp w μ (hp.set q (.loop f ps env bz')) (w.putObj l (.loop rc')):=fun b0=>{
  os:=rfl,tape:=rfl,output:=rfl
  size:=by rw[World.putObj_size];exact Nat.le_refl _
  blk:=fun b hb hi=>World.putObj_heap_other (by
   rintro rfl
   exact hi q (by unfold live;rw[hq]) hm)
  shape:=fun b cs t fr hb=>⟨cs,by rw[World.putObj_heap_other (by rintro rfl;exact noc _ _ _ hb)];exact hb,rfl⟩
  len:=by simp
  box:=fun i sh v ho=>⟨v,get ho (by rintro rfl;rw[hq] at ho;cases ho),rfl,fun _ _ h=>h⟩
  arr:=fun i sh es fz ho=>⟨es,fz,get ho (by rintro rfl;rw[hq] at ho;cases ho),Nat.le_refl _,fun e=>⟨e,rfl⟩,fun _=>rfl⟩
  map:=fun i sh es ho=>⟨es,get ho (by rintro rfl;rw[hq] at ho;cases ho),rfl⟩
  loop:=fun i f' ps' env' bz0 ho=>by
   by_cases e:i=q
   ·subst e
    rw[hq] at ho
    cases ho
    exact⟨bz',by rw[List.getElem?_set_self hqlt],rfl⟩
   ·exact⟨bz0,get ho e,rfl⟩
  arv:=fun i sh es ho=>by
   have e:=get ho (by rintro rfl;rw[hq] at ho;cases ho)
   exact⟨es.length,by rw[e];rfl,Nat.le_refl _,fun _=>rfl,fun es' h' _=>by rw[e] at h';cases h';exact fun _ h=>h⟩
  new:=fun i h1 h2=>by simp at h2;omega
  mov:=fun i _ b hb=>.inl hb }
 refine⟨?_,E b0⟩
 have lenEq:(hp.set q (.loop f ps env bz')).length=hp.length:=by simp
 have old:∀{i b},i<hp.length->μ i=some b->i≠q->(w.putObj l (.loop rc')).heap[b]? =w.heap[b]? :=fun{i b} hi hb hne=>World.putObj_heap_other (by
  rintro rfl
  exact hne (h.inj i q _ hi hqlt hb hm))
 have inv:∀{i o},(hp.set q (.loop f ps env bz'))[i]? =some o->(i=q/\o=.loop f ps env bz')\/(i≠q/\hp[i]? =some o):=fun h=>za2 h
 refine⟨fun i j b hi hj=>h.inj i j b (by omega) (by omega),fun i b hi hb=>by rw[World.putObj_size];exact h.out i b (by omega) hb,fun b hb=>by rw[World.putObj_size];exact h.xlt b hb,?_,?_,?_,?_,?_⟩
 ·intro i sh v ho
  rcases inv ho with⟨_,e⟩|⟨hne,ho⟩
  ·cases e
  ·obtain⟨b,val,t,g1,g2,g3,g4,g5⟩:=h.box i sh v ho
   exact⟨b,val,t,g1,by rw[old (List.getElem?_eq_some_iff.1 ho).1 g1 hne];exact g2,g3,g4,(E 0).ar g5⟩
 ·intro i sh es fz ho
  rcases inv ho with⟨_,e⟩|⟨hne,ho⟩
  ·cases e
  ·obtain⟨g0,g1⟩:=h.arr i sh es fz ho
   refine⟨g0,?_⟩
   rcases g1 with g1|⟨b,cs,t,vals,g1,g2,g3,g4,g5⟩
   ·exact .inl g1
   ·exact .inr ⟨b,cs,t,vals,g1,by rw[old (List.getElem?_eq_some_iff.1 ho).1 g1 hne];exact g2,g3,fun k p v hk hv=>⟨(g4 k p v hk hv).1,(E 0).pr (g4 k p v hk hv).2⟩,g5⟩
 ·intro i sh es ho
  rcases inv ho with⟨_,e⟩|⟨hne,ho⟩
  ·cases e
  ·obtain⟨b,ents,clock,g1,g2,g3,g4⟩:=h.map i sh es ho
   exact⟨b,ents,clock,g1,by rw[old (List.getElem?_eq_some_iff.1 ho).1 g1 hne];exact g2,g3,fun k x y hk hy=>⟨(E 0).pr (g4 k x y hk hy).1,(E 0).pr (g4 k x y hk hy).2.1,(g4 k x y hk hy).2.2⟩⟩
 ·intro i f' ps' env' bz0 ho
  rcases inv ho with⟨rfl,e⟩|⟨hne,ho⟩
  ·cases e
   obtain⟨l',rc0,g1,g2,g3,g4,g5,g6,g7⟩:=h.loop i f ps env bz hq
   rw[hm] at g1
   cases g1
   rw[hl] at g2
   cases g2
   exact⟨l,rc',hm,World.putObj_heap_same hlt,h1,h2,by rw[h3];exact g5,by rw[h3,h4,h5,h6];exact g6,fun x hx=>by rw[h6];exact⟨(g7 x hx).1,(E 0).ar (g7 x hx).2⟩⟩
  ·obtain⟨l',rc0,g1,g2,g3,g4,g5,g6,g7⟩:=h.loop i f' ps' env' bz0 ho
   exact⟨l',rc0,g1,by rw[old (List.getElem?_eq_some_iff.1 ho).1 g1 hne];exact g2,g3,g4,g5,g6,fun x hx=>⟨(g7 x hx).1,(E 0).ar (g7 x hx).2⟩⟩
 ·intro i sh es ho
  rcases inv ho with⟨_,e⟩|⟨hne,ho⟩
  ·cases e
  ·obtain⟨g0,b,cs,t,vals,g1,g2,g3,g4,g5⟩:=h.arv i sh es ho
   exact⟨g0,b,cs,t,vals,g1,by rw[old (List.getElem?_eq_some_iff.1 ho).1 g1 hne];exact g2,g3,fun k p v hk hv=>⟨(g4 k p v hk hv).1,(E 0).ar (g4 k p v hk hv).2⟩,g5⟩
end Go.Am

/- Bodies in pieces: loops over functions and deferred calls between pieces of code. -/
namespace Go.Am
variable{P:Program} {w:World} {X:Xc P} {μ:Nat->Option Nat} {hp:Heap}

/-! ### One code after the other -/
section
variable{F:Fence} {n:Nat}
def zdB(F:Fence)(n:Nat)(P:Program):List Code->(Exit->Act->World->Prop)->Act->World->Prop
 |[],Q=>Q .normal
 |c::r,Q=>c.wpIn F n P (Exit.then (zdB F n P r Q) Q)
theorem zjm{K K':Act->World->Prop}{Q Q':Exit->Act->World->Prop}(hk:∀a w,K a w->K' a w)(hq:∀e a w,Q e a w->Q' e a w):∀e a w,Exit.then K Q e a w->Exit.then K' Q' e a w:=by
 intro e a w h
 cases e <;> first|exact hk _ _ h|exact hq _ _ _ h
theorem zgf{Q Q':Exit->Act->World->Prop}(hq:∀e a w,Q e a w->Q' e a w):∀(l:List Code) (a:Act) (w:World),zdB F n P l Q a w->zdB F n P l Q' a w
 |[],a,w,h=>hq _ _ _ h
 |c::r,a,w,h=>wpIn_mono h (zjm (fun a w=>zgf hq r a w) hq)
theorem zde{Q:Exit->Act->World->Prop}{y:List Code}:∀(x:List Code) (a:Act) (w:World),zdB F n P (x++y) Q a w->zdB F n P x (Exit.then (zdB F n P y Q) Q) a w
 |[],a,w,h=>h
 |c::r,a,w,h=>wpIn_mono h fun e a w he=>by
  cases e <;> first|exact zde r a w he|exact he
theorem zgg:∀(c:Code) {Q:Exit->Act->World->Prop} {a:Act} {w:World},zdB F n P (zc4 c) Q a w->c.wpIn F n P Q a w:=by
 intro c
 induction c with
 |seq x y ihx ihy=>
  intro Q a w h
  apply wpIn_seq
  exact wpIn_mono (ihx (zde _ _ _ h)) (zjm (fun a w h=>ihy h) fun _ _ _ h=>h)
 |_=>
  intro Q a w h
  exact wpIn_mono h fun e a w he=>by cases e <;> exact he
theorem zsk(c:Code):zc4 c≠[]:=by
 induction c with
 |seq x y ihx ihy=>simp[zc4,ihx]
 |_=>simp[zc4]
theorem zg9:∀(b c:Code),c∈zc4 b->∀x∈zaV c,x∈zaV b:=by
 intro b
 induction b with
 |seq x y ihx ihy=>
  intro c hc z hz
  simp only[zc4,List.mem_append] at hc
  simp only[zaV,List.mem_append]
  rcases hc with hc|hc
  ·exact .inl (ihx c hc z hz)
  ·exact .inr (ihy c hc z hz)
 |_=>
  intro c hc z hz
  simp only[zc4,List.mem_singleton] at hc
  subst hc
  exact hz

theorem zsY{o:Oper}{a:Act}{w:World}{K K':Act->World->Prop}{Q:Exit->Act->World->Prop}(h:o.wpIn F n P a w K (Exit.then K' Q)):o.wpIn F n P a w K Q:=by
 unfold Oper.wpIn at*
 refine⟨h.1,?_⟩
 have h:=h.2
 generalize (o.semAt F.round a.eval).run P w=r at*
 cases r with
 |ok x w'=>
  cases x <;> simp only[Oper.uponIn] at h ⊢ <;>
   first
    |exact h
    |exact⟨h.1,CallsIn.mono h.2 (fun e w'' he=>by cases e <;> exact he)⟩
    |exact⟨h.1,RoundIn.mono h.2 (fun e w'' he=>by cases e <;> exact he)⟩
 |halt x w'=>cases x <;> simp only[Oper.uponIn] at h ⊢ <;> exact h
theorem zdU{ops:Array Oper}{Q:Exit->Act->World->Prop}{l2:List Nat}:∀(l1:List Nat) (a:Act) (w:World),wpOpsIn F n P ops (Exit.then (wpOpsIn F n P ops Q l2) Q) l1 a w->wpOpsIn F n P ops Q (l1++l2) a w
 |[],a,w,h=>h
 |i::r,a,w,h=>by
  simp only[wpOpsIn,List.cons_append] at h ⊢
  split
  ·rename_i ho
   rw[ho] at h
   exact zdU r a w h
  ·rename_i o ho
   rw[ho] at h
   simp only[] at h
   split
   ·rename_i hw
    rw[if_pos hw] at h
    exact zsY (Oper.wpIn_mono (fun a w=>zdU r a w) h)
   ·rename_i hw
    rw[if_neg hw] at h
    exact⟨h.1,zdU r _ _ h.2⟩
end

/-! ### Deferred calls -/
inductive DOk(w0 w:World)(X:Xc P)(μ:Nat->Option Nat)(hp:Heap):List AV->List Deferred->Prop
 |nil:DOk w0 w X μ hp [] []
 |mark (D:Nat) (ds:List AV) (dd:List Deferred) (hX:X D) (h0:w0.heap.size<=D) (hD:w.heap[D]? =some (.deferred (some []))) (hn:∀d∈dd,d.target≠.collected D) (h:DOk w0 w X μ hp ds dd):DOk w0 w X μ hp ds ({ target:=.collected D,args:= #[] }::dd)
 |fn (g:FuncId) (first captured:List AV) (fs cs:List Value) (ds:List AV) (dd:List Deferred) (hf:LR w X μ hp first fs) (hc:LR w X μ hp captured cs) (h:DOk w0 w X μ hp ds dd):
   DOk w0 w X μ hp (.func (.func g) first captured::ds) ({ target:=.fn (.func g) cs.toArray,args:=fs.toArray }::dd)
theorem LR.map{w':World}{X':Xc P}{μ':Nat->Option Nat}{hp':Heap}{l:List AV}{vs:List Value}(hv:∀a∈l,∀v,AR w X μ hp a v->AR w' X' μ' hp' a v)(h:LR w X μ hp l vs):LR w' X' μ' hp' l vs:=by
 induction h with
 |nil=>exact .nil
 |cons h _ ih=>exact .cons (hv _ List.mem_cons_self _ h) (ih fun a ha=>hv a (List.mem_cons_of_mem _ ha))
theorem DOk.map{w0 w':World}{X':Xc P}{μ':Nat->Option Nat}{hp':Heap}{ds:List AV}{dd:List Deferred}(hv:∀a∈ds,∀v,AR w X μ hp a v->AR w' X' μ' hp' a v)
  (hm:∀D,{ target:=.collected D,args:= #[] }∈dd->X D->w.heap[D]? =some (.deferred (some []))->X' D/\w'.heap[D]? =some (.deferred (some [])))(h:DOk w0 w X μ hp ds dd):DOk w0 w' X' μ' hp' ds dd:=by
 induction h with
 |nil=>exact .nil
 |mark D ds dd hX h0 hD hn _ ih=>
  obtain⟨k1,k2⟩:=hm D List.mem_cons_self hX hD
  exact .mark D ds dd k1 h0 k2 hn (ih hv fun D hD=>hm D (List.mem_cons_of_mem _ hD))
 |fn g first captured fs cs ds dd hf hc _ ih=>
  have one:∀{l:List AV} {vs:List Value},LR w X μ hp l vs->(∀a∈l,∀v,AR w X μ hp a v->AR w' X' μ' hp' a v)->LR w' X' μ' hp' l vs:=fun h hv=>h.map hv
  have parts:AR w' X' μ' hp' (.func (.func g) first captured) (.func (.func g) fs.toArray cs.toArray):=hv _ List.mem_cons_self _ (.func _ _ _ fs cs hf.length hc.length (fun i a v=>hf.get i a v) (fun i a v=>hc.get i a v))
  have sp:LR w' X' μ' hp' first fs/\LR w' X' μ' hp' captured cs:=by
   generalize hu:Value.func (.func g) fs.toArray cs.toArray=u at parts
   cases parts with|func _ _ _ fs' cs' hf' hc' h1 h2=>
   cases hu
   exact⟨LR.of hf' h1,LR.of hc' h2⟩
  exact .fn g first captured fs cs ds dd sp.1 sp.2 (ih (fun a ha=>hv a (List.mem_cons_of_mem _ ha)) fun D hD=>hm D (List.mem_cons_of_mem _ hD))
theorem DOk.ext{w0 w':World}{b:Nat}{Y:Xc P}{μ':Nat->Option Nat}{hp':Heap}{ds:List AV}{dd:List Deferred}(hH:HR w X μ hp)(E:Ext b Y μ hp w μ' hp' w')(h:DOk w0 w X μ hp ds dd):DOk w0 w' X μ' hp' ds dd:=
 h.map (fun a _ v ha=>(E.cast (Z:=X)).ar ha) fun D _ hX hD=>⟨hX,by rw[E.blk D (zaz hD) fun i hl e=>(hH.out i D (zbC hl) e).1 hX];exact hD⟩

inductive TrP(P:Program)(body:Code)(nt self:Nat):List Code->ACode->List (ATop × ACode)->Prop
 |nil:TrP P body nt self [] .skip []
 |code (c:Code) (r:List Code) (a x:ACode) (more:List (ATop × ACode)) (hc:Tr P nt c a) (h:TrP P body nt self r x more):TrP P body nt self (c::r) (.seq a x) more
 |range (c:Code) (r:List Code) (f:Operand) (ps:Array Tmp) (as bd:Code) (fa:AArg) (env:List Nat) (x:ACode) (more:List (ATop × ACode)) (hc:c=.rangeFunc f ps as bd\/∃id,c=.block id (.rangeFunc f ps as bd)) (hf:zbK P 0 f=some fa) (hl:(ps,as,bd)∈zaV body)
   (h:TrP P body nt self r x more):TrP P body nt self (c::r) .skip ((.range self fa ps.toList env,x)::more)
 |dfr (id:Nat) (ops:Array Oper) (r:List Code) (o:Oper) (ca:Call) (s:Nat) (l:List AOper) (pan:Bool) (keep:List Nat) (x:ACode) (more:List (ATop × ACode)) (ho:ops.toList.getLast? =some o) (h1:o.op=.defer ca) (h2:o.guard=none) (h3:o.dst=none) (h4:ca.callee=.value (.tmp s)) (h5:ca.args.toList=[])
   (hl:zea P nt ops ops.toList.dropLast=some l) (h:TrP P body nt self r x more):TrP P body nt self (.region id ops false::r) (.region pan l keep) ((.dfr s,x)::more)

theorem zgG{c:Code}{ops:Array Oper}{s:Nat}(h:zeY c=some (ops,s)):∃id o ca,c=.region id ops false/\ops.toList.getLast? =some o/\o.op=.defer ca/\o.guard=none/\o.dst=none/\ca.callee=.value (.tmp s)/\ca.args.toList=[]:=by
 unfold zeY at h
 split at h
 ·rename_i id ops0
  split at h
  ·rename_i o ho
   split at h
   ·rename_i ca h1 h2 h3
    split at h
    ·rename_i s0 h4 h5
     cases h
     exact⟨id,o,ca,rfl,ho,h1,h2,h3,h4,h5⟩
    ·cases h
   ·cases h
  ·cases h
 ·cases h

theorem zgh{body:Code}{hm:Bool}{nt self:Nat}:∀(cs:List Code) (x:ACode) (more:List (ATop × ACode)),(∀c∈cs,∀z∈zaV c,z∈zaV body)->zep P hm nt self cs=some (x,more)->TrP P body nt self cs x more
 |[],x,more,_,h=>by cases h;exact .nil
 |c::r,x,more,hl,h=>by
  simp only[zep] at h
  split at h
  ·cases h
  ·rename_i x1 more1 hr
   have ih:=zgh r x1 more1 (fun c hc=>hl c (List.mem_cons_of_mem _ hc)) hr
   have hlc:=hl c List.mem_cons_self
   split at h
   ·rename_i c1 hc
    split at h
    ·rename_i a ha
     cases h
     have hcc:c1=c:=by
      unfold zhx at hc
      split at hc
      ·cases hc
      ·cases hc
      ·split at hc
       ·cases hc
       ·cases hc;rfl
     subst hcc
     exact .code _ _ _ _ _ (zeA _ _ ha) ih
    ·cases h
   ·rename_i f ps as bd hc
    split at h
    ·rename_i fa hfa
     cases h
     unfold zhx at hc
     split at hc
     ·cases hc
      exact .range _ _ _ _ _ _ _ _ _ _ (.inl rfl) hfa (hlc _ (by simp[zaV])) ih
     ·cases hc
      exact .range _ _ _ _ _ _ _ _ _ _ (.inr ⟨_,rfl⟩) hfa (hlc _ (by simp[zaV])) ih
     ·split at hc <;> cases hc
    ·cases h
   ·rename_i ops s hc
    split at h
    ·rename_i l hlo
     cases h
     unfold zhx at hc
     split at hc
     ·cases hc
     ·cases hc
     ·split at hc
      ·rename_i ops' s' hsd
       cases hc
       obtain⟨id,o,ca,rfl,g1,g2,g3,g4,g5,g6⟩:=zgG hsd
       exact .dfr _ _ _ _ _ _ _ _ _ _ _ g1 g2 g3 g4 g5 g6 hlo ih
      ·cases hc
    ·cases h

theorem zmH(ret:List Nat)(rounds:List ARound)(a x:ACode)(more:List (ATop × ACode)):∃l,(zdv ret rounds (.seq a x) more).1=.seq (annot a l [] ret) (zdv ret rounds x more).1/\(zdv ret rounds (.seq a x) more).2.1=(zdv ret rounds x more).2.1:=by
 cases more with
 |nil=>exact⟨_,rfl,rfl⟩
 |cons y r=>
  obtain⟨op,c2⟩:=y
  simp only[zdv,annot]
  exact⟨_,rfl,trivial⟩
theorem zow{body:Code}{nt self:Nat}{cs:List Code}{x:ACode}{more:List (ATop × ACode)}(ret:List Nat)(rounds:List ARound)(h:TrP P body nt self cs x more):TrP P body nt self cs (zdv ret rounds x more).1 (zdv ret rounds x more).2.1:=by
 induction h with
 |nil=>exact .nil
 |code c r a x more hc _ ih=>
  obtain⟨l,h1,h2⟩:=zmH ret rounds a x more
  rw[h1,h2]
  exact .code _ _ _ _ _ (zeB hc _ _ _) ih
 |range c r f ps as bd fa env x more hc hf hl _ ih=>
  simp only[zdv,annot]
  exact .range _ _ _ _ _ _ _ _ _ _ hc hf hl ih
 |dfr id ops r o ca s l pan keep x more h0 h1 h2 h3 h4 h5 hl _ ih=>
  simp only[zdv,annot]
  exact .dfr _ _ _ _ _ _ _ _ _ _ _ h0 h1 h2 h3 h4 h5 hl ih
theorem zox{body:Code}{nt self:Nat}{cs:List Code}{x:ACode}{more:List (ATop × ACode)}(h:TrP P body nt self cs x more)(hm:more=[])(out:List Nat)(env:List (Nat × List Nat))(ret:List Nat):TrP P body nt self cs (annot x out env ret) []:=by
 induction h with
 |nil=>exact .nil
 |code c r a x more hc _ ih=>subst hm;exact .code _ _ _ _ _ (zeB hc _ _ _) (ih rfl)
 |range=>cases hm
 |dfr=>cases hm

def zsZ(nt:Nat)(w0:World)(X0:Xc P)(μ0:Nat->Option Nat)(hp0:Heap)(e:AExit)(st:St)(ds:List AV)(e':Exit)(a:Act)(w':World):Prop:=
 a.tmps.size=nt/\∃(X:Xc P) (μ':Nat->Option Nat),(∀b,X0 b->X b)/\HR w' X μ' st.hp/\FR w' X μ' st.hp st.fr a.tmps/\Ext hp0.length X0 μ0 hp0 w0 μ' st.hp w'/\zaM w' X μ' st.hp e e'/\DOk w0 w' X μ' st.hp ds a.defers
structure Mid(nt:Nat)(w0:World)(X0:Xc P)(μ0:Nat->Option Nat)(hp0:Heap)(X:Xc P)(μ:Nat->Option Nat)(st:St)(ds:List AV)(a:Act)(w:World):Prop where
 less:∀b,X0 b->X b
 hr:HR w X μ st.hp
 fr:FR w X μ st.hp st.fr a.tmps
 sz:a.tmps.size=nt
 ext:Ext hp0.length X0 μ0 hp0 w0 μ st.hp w
 dok:DOk w0 w X μ st.hp ds a.defers

theorem zkx(Γ:Oracle)(Λ:zan)(b:Nat)(more:List (ATop × ACode))(a x:ACode)(st:St)(ds:List AV):apieces Γ Λ b more (.seq a x) st ds=match aexec Γ Λ b a st with
  |some (.normal,st1)=>apieces Γ Λ b more x st1 ds
  |some (e,st1)=>some (e,st1,ds)
  |none=>none:=by
 cases more with
 |nil=>
  simp only[apieces,aexec]
  cases hx:aexec Γ Λ b a st with
  |none=>rfl
  |some q=>
   obtain⟨e,s⟩:=q
   cases e <;> rfl
 |cons y r=>
  obtain⟨op,c2⟩:=y
  simp only[apieces,aexec]
  cases hx:aexec Γ Λ b a st with
  |none=>rfl
  |some q=>
   obtain⟨e,s⟩:=q
   cases e <;> rfl

theorem zh2{fr:Fr}:∀{ks:List Nat} {x:Nat × AV},x∈fr.keep ks->fr.look x.1=some x.2
 |[],x,h=>by cases h
 |k::r,x,h=>by
  simp only[Fr.keep] at h
  split at h
  ·rename_i v hv
   rcases List.mem_cons.1 h with rfl|h
   ·exact hv
   ·exact zh2 h
  ·exact zh2 h

section
variable{Γ:Oracle} {Λ:zan} {body:Code} {fnc:Func} {self:Nat}

theorem zqx(hΓ:SoundO P Γ){w0:World}{X0:Xc P}{μ0:Nat->Option Nat}{hp0:Heap}{st st2:St}{ds ds2:List AV}{a:Act}{Q:Exit->Act->World->Prop}{f:Operand}{ps:Array Tmp}{as bd:Code}{fa:AArg}{env:List Nat}
  (hfn:P.funcs[self]? =some fnc)(hbd:fnc.body=some body)(hf:zbK P 0 f=some fa)(hl:(ps,as,bd)∈zaV body)(M:Mid fnc.ntmps w0 X0 μ0 hp0 X μ st ds a w)(hs:atop Γ (.range self fa ps.toList env) st ds=some (.normal,st2,ds2))
  (hQ:∀X2 μ2 a2 w2,Mid fnc.ntmps w0 X0 μ0 hp0 X2 μ2 st2 ds2 a2 w2->Q .normal a2 w2):(Code.rangeFunc f ps as bd).wpIn (Fe none) 0 P Q a w:=by
 simp only[atop] at hs
 split at hs
 ·cases hs
 ·rename_i v hv
  split at hs
  ·rename_i g first captured hcal
   split at hs
   ·rename_i rv hp' hg
    split at hs
    ·rename_i f2 hlf
     cases hs
     refine wpIn_rangeFunc fun fn _=> ?_
     have hav:=zbw M.fr hf hv
     obtain⟨fs,cs,e1,e2,e3⟩:=zcG hcal hav

     have hno:∀k:Nat,(fun _=>none:Nat->Option Nat) k=none:=fun _=>rfl
     let w1:=w.alloc (.deferred (some []))
     let rc:Loop:={ state:=.ready,pending:=none,fn,tmps:=a.tmps,params:=ps,assign:=as,body:=bd,defers:=w.heap.size }
     let w2:=w1.alloc (.loop rc)
     let X2:Xc P:=Xp X (upd (fun _=>none) 0 (some w.heap.size))
     have hX2:∀b,X b->X2 b:=fun b hb=>.inl hb
     have hXD:X2 w.heap.size:=.inr ⟨0,zam _ _ _⟩
     have H0:HR w (Xp X (fun _=>none)) μ st.hp:=by rw[zcK hno];exact M.hr
     have H1:HR w1 X2 μ st.hp:=H0.hold (.deferred (some [])) (hno 0)
     have T1:Tran w (Xp X (fun _=>none)) μ st.hp w1 X2 μ st.hp:=zf7 (.deferred (some [])) (hno 0)
     rw[zcK hno] at T1
     let hp1:=st.hp++[AObj.loop self ps.toList (st.fr.keep env) false]
     let μ1:=upd μ st.hp.length (some w1.heap.size)
     have Ea:∀b,Ext b X2 μ st.hp w1 μ1 hp1 w2:=fun b=>Ext.push _ _ (Ext.alloc b _) (fun k hk=>by cases hk;exact Nat.le_refl _)
     have henv:∀x∈st.fr.keep env,x.1<rc.tmps.size/\AR w2 X2 μ1 hp1 x.2 (rc.tmps.getD x.1 undef):=fun x hx=>by
      obtain⟨k1,k2⟩:=M.fr x.1 x.2 (zh2 hx)
      exact⟨k1,(Ea 0).ar (T1.ar k2)⟩
     have H2:HR w2 X2 μ1 hp1:=by
      refine H1.push _ _ (Ext.alloc 0 _) (fun i k hi hk=>zaD w1 _ (H1.out i k hi hk).2) (fun k hk=>by cases hk;exact⟨Nat.le_refl _,by simp[w2]⟩) (fun _ _ h=>by cases h) (fun _ _ _ h=>by cases h) (fun _ _ h=>by cases h) ?_
      intro f' ps' env' bz h
      cases h
      exact⟨w1.heap.size,rc,rfl,zaB w1 _,rfl,rfl,by simp[rc],⟨fnc,body,hfn,hbd,M.sz.symm,hl⟩,henv⟩
     have hyield:AR w2 X2 μ1 hp1 (.yield st.hp.length) (.func (.yield w1.heap.size) #[] #[]):=.yield _ _ self ps.toList (st.fr.keep env) false zbq (zam _ _ _)
     have mv:∀{a:AV} {v:Value},AR w X μ st.hp a v->AR w2 X2 μ1 hp1 a v:=fun h=>(Ea 0).ar (T1.ar h)
     have hL:LR w2 X2 μ1 hp1 (first++[.yield st.hp.length]++captured) (fs++[Value.func (.yield w1.heap.size) #[] #[]]++cs):=((e2.map fun _ _ _=>mv).append (.cons hyield .nil)).append (e3.map fun _ _ _=>mv)
     obtain⟨hent,hcalls⟩:=hΓ.seq _ _ _ _ _ hg w2 X2 μ1 _ H2 hL
     have hD1:w1.heap[w.heap.size]? =some (.deferred (some [])):=zaB w _
     have hD2:w2.heap[w.heap.size]? =some (.deferred (some [])):=by rw[zaD w1 _ (by simp[w1])];exact hD1
     have hsize1:w1.heap.size=w.heap.size+1:=by simp[w1]
     refine⟨w.heap.size+1,[{ target:=.collected w.heap.size,args:= #[] }],w2,{ target:=.fn (.func g) cs.toArray,args:=fs.toArray++ #[Value.func (.yield (w.heap.size+1)) #[] #[]] },w2,g,(fs++[Value.func (.yield w1.heap.size) #[] #[]]++cs).toArray,w2,run_enterLoop_outer fn a.tmps ps as bd,?_,fun _ _=>trivial,?_,zhQ,?_⟩
     ·simp only[resolve,rangeCall,e1,Deferred.ofValue,pure_bind]
      simp[Act.eval]
     ·rw[hsize1] at hent ⊢
      simp only[invoke]
      have:fs.toArray++ #[Value.func (.yield (w.heap.size+1)) #[] #[]]++cs.toArray=(fs++[Value.func (.yield (w.heap.size+1)) #[] #[]]++cs).toArray:=by
       apply Array.ext'
       simp
      rw[this]
      exact hent
     ·have h3:CallsIn (Fe none) (0 - 1) P g (fs++[Value.func (.yield w1.heap.size) #[] #[]]++cs).toArray w2 _:=callsIn_wide.2 hcalls
      refine h3.mono fun e w3 hR=> ?_
      cases e with
      |panicked ch=>
       obtain⟨μ',p,v',h1,_⟩:=hR
       cases h1
      |outgrown=>exact hR.elim
      |returned u=>
       obtain⟨μ3,v2,k1,H3,E3,_⟩:=hR
       obtain⟨bz3,m1,m2⟩:=E3.loop st.hp.length self ps.toList (st.fr.keep env) false zbq
       have hf2:bz3=false:=by
        rw[m1] at hlf
        cases bz3
        ·rfl
        ·cases hlf
       subst hf2
       obtain⟨l3,rc3,n1,n2,n3,n4,n5,n6,n7⟩:=H3.loop _ _ _ _ _ m1
       have hl3:l3=w.heap.size+1:=by
        have hup:μ1 st.hp.length=some w1.heap.size:=zam _ _ _
        rw[m2,hup,hsize1] at n1
        cases n1;rfl
       subst hl3
       refine⟨none,w3.putObj (w.heap.size+1) (.loop { rc3 with state:=.exhausted }),by rw[<-n4];exact run_endLoop n2 (by rw[n3];simp),?_⟩

       have T3:Touch (w.heap.size+1) w3 (w3.putObj (w.heap.size+1) (.loop { rc3 with state:=.exhausted })):=Touch.put fun cs t fr e=>by rw[n2] at e;cases e
       have hlen:st.hp.length<=hp'.length:=by have:=E3.len;simp at this;omega
       have hO:Own st.hp.length hp':=by
        refine Own.ext (hp:=st.hp++[AObj.loop self ps.toList (st.fr.keep env) false]) (fun i o hi ho=> ?_) (by simp) (E3.mono (b:=st.hp.length) (by simp))
        rw[zc5 hi] at ho
        exact M.hr.own i o hi ho
       have Eall:∀b,b<=st.hp.length->Ext b X2 μ st.hp w1 μ3 hp' w3:=fun b hb=>(Ea b).trans ((E3.mono (b:=b) (by simp;omega)).cast)
       have mv3:∀{a:AV} {v:Value},AR w X μ st.hp a v->AR (w3.putObj (w.heap.size+1) (.loop { rc3 with state:=.exhausted })) X2 μ3 (hp'.take st.hp.length) a v:=fun h=>T3.ar (((Eall 0 (Nat.zero_le _)).ar (T1.ar h)).take h.refs_lt)
       have Ew:Ext hp0.length X0 μ0 hp0 w0 μ st.hp w1:=M.ext.trans (Ext.alloc _ _)
       have Ef:Ext hp0.length X0 μ0 hp0 w0 μ3 (hp'.take st.hp.length) (w3.putObj (w.heap.size+1) (.loop { rc3 with state:=.exhausted })):=T3.ext (by have:=M.ext.size;omega) (Ew.trans (((Eall _ M.ext.len).cast).take (Nat.le_refl _)))
       refine hQ X2 μ3 _ _ ⟨fun b hb=>hX2 b (M.less b hb),T3.hr (fun i hi e=> ?_) (H3.take hO),fun s u hs=>⟨(M.fr s u hs).1,mv3 (M.fr s u hs).2⟩,M.sz,Ef,?_⟩
       ·have hi':i<st.hp.length:=by simp at hi;omega
        have:=H3.inj i st.hp.length _ (by omega) (by have:=(List.getElem?_eq_some_iff.1 m1).1;omega) e n1
        omega
       ·have blk3:∀D,X2 D->w2.heap[D]? =some (.deferred (some []))->(w3.putObj (w.heap.size+1) (.loop { rc3 with state:=.exhausted })).heap[D]? =some (.deferred (some [])):=by
         intro D hXD hD
         have hD3:w3.heap[D]? =some (.deferred (some [])):=by
          rw[E3.blk D (zaz hD) fun i hl e=>(H2.out i D (zbC hl) e).1 hXD]
          exact hD
         rw[T3.old D (by rintro rfl;rw[n2] at hD3;cases hD3)]
         exact hD3
        refine .mark _ _ _ hXD M.ext.size (blk3 _ hXD hD2) ?_ ?_
        ·intro d hd e
         have:∀{ds:List AV} {dd:List Deferred},DOk w0 w X μ st.hp ds dd->∀d∈dd,d.target≠.collected w.heap.size:=by
          intro ds dd h
          induction h with
          |nil=>intro d hd;cases hd
          |mark D ds dd hX h0 hD hn _ ih=>
           intro d hd e
           rcases List.mem_cons.1 hd with rfl|hd
           ·cases e
            have:=zaz hD
            omega
           ·exact ih d hd e
          |fn g first captured fs cs ds dd hf hc _ ih=>
           intro d hd e
           rcases List.mem_cons.1 hd with rfl|hd
           ·cases e
           ·exact ih d hd e
         exact this M.dok d hd e
        ·refine M.dok.map (fun a _ v h=>mv3 h) fun D _ hX hD=>⟨hX2 D hX,blk3 D (hX2 D hX) ?_⟩
         have hlt:=zaz hD
         rw[zaD w1 _ (by simp[w1];omega),zaD w _ hlt]
         exact hD
    ·cases hs
   ·cases hs
  ·cases hs

theorem zqy{ops:Array Oper}{o:Oper}{ca:Call}{s:Nat}{a:Act}{Q:Exit->Act->World->Prop}(ho:ops.toList.getLast? =some o)(h1:o.op=.defer ca)(h2:o.guard=none)(h3:o.dst=none)(h4:ca.callee=.value (.tmp s))(h5:ca.args.toList=[])
  {g:FuncId}{fs cs:List Value}(hv:a.tmps.getD s undef=.func (.func g) fs.toArray cs.toArray)(hQ:Q .normal { a with defers:={ target:=.fn (.func g) cs.toArray,args:=fs.toArray }::a.defers } w):wpOpsIn (Fe none) 0 P ops Q [ops.size - 1] a w:=by
 have hi:ops[ops.size - 1]? =some o:=by
  rw[List.getLast?_eq_getElem?] at ho
  simpa using ho
 have hargs:ca.args= #[]:=by
  apply Array.ext'
  simpa using h5
 have hw:Region.wanted o (yielded ops a.tmps)=true:=by simp[Region.wanted,h2]
 simp only[wpOpsIn,hi,hw,if_true]
 refine⟨fun _ _=>trivial,?_⟩
 have hrun:(o.semAt (Fe none).round a.eval).run P w=.ok (.defer { target:=.fn (.func g) cs.toArray,args:=fs.toArray }) w:=by
  have hev:a.eval (.tmp s)=.func (.func g) fs.toArray cs.toArray:=hv
  show(o.semAt none a.eval).run P w=_
  rw[Oper.semAt_none]
  simp only[execOp,h1,resolve,h4,hev,Deferred.ofValue,pure_bind,hargs]
  simp
 rw[hrun,Oper.uponIn_defer,h3]
 exact hQ

theorem zoy(hmix:P.follows .mixedOrders=true)(hΓ:SoundO P Γ)(hΛ:∀nt c ac,Tr P nt c ac->zez P nt Λ c ac)(hfn:P.funcs[self]? =some fnc)(hbd:fnc.body=some body){w0:World}{X0:Xc P}{μ0:Nat->Option Nat}{hp0:Heap}(h0:HR w0 X0 μ0 hp0)
  {cs:List Code}{x:ACode}{more:List (ATop × ACode)}(hT:TrP P body fnc.ntmps self cs x more):∀(st:St) (ds:List AV) (e:AExit) (st':St) (ds':List AV),apieces Γ Λ hp0.length more x st ds=some (e,st',ds')->∀(w:World) (X:Xc P) (μ:Nat->Option Nat) (a:Act) (Q:Exit->Act->World->Prop),
  Mid fnc.ntmps w0 X0 μ0 hp0 X μ st ds a w->(∀e' a' w',zsZ fnc.ntmps w0 X0 μ0 hp0 e st' ds' e' a' w'->Q e' a' w')->zdB (Fe none) 0 P cs Q a w:=by
 have code:∀{c:Code} {ac:ACode},Tr P fnc.ntmps c ac->zor P fnc.ntmps Γ Λ c ac:=fun h=>zfd hmix hΓ (hΛ fnc.ntmps) h
 induction hT with
 |nil=>
  intro st ds e st' ds' hs w X μ a Q M hQ
  simp only[apieces,aexec,Option.some.injEq,Prod.mk.injEq] at hs
  obtain⟨rfl,rfl,rfl⟩:=hs
  exact hQ _ _ _ ⟨M.sz,X,μ,M.less,M.hr,M.fr,M.ext,trivial,M.dok⟩
 |code c r a0 x more hc _ ih=>
  intro st ds e st' ds' hs w X μ a Q M hQ
  rw[zkx] at hs
  cases hx:aexec Γ Λ hp0.length a0 st with
  |none=>rw[hx] at hs;cases hs
  |some q=>
   obtain⟨e1,st1⟩:=q
   rw[hx] at hs
   refine code hc hp0.length st e1 st1 hx w X μ a _ none M.ext.len (h0.own.ext (Nat.le_refl _) M.ext) M.hr M.fr M.sz fun e' a' w' hL=> ?_
   obtain⟨g1,g2,μ',g3,g4,g5,g6⟩:=hL
   have M1:Mid fnc.ntmps w0 X0 μ0 hp0 X μ' st1 ds a' w':=⟨M.less,g3,g4,g2,M.ext.trans g5.cast,by rw[g1];exact M.dok.ext M.hr g5⟩
   have done:e1≠.normal->e=e1/\st'=st1/\ds'=ds->Q e' a' w':=by
    rintro _ ⟨rfl,rfl,rfl⟩
    exact hQ _ _ _ ⟨g2,X,μ',M1.less,g3,g4,M1.ext,g6,M1.dok⟩
   cases e1 with
   |normal=>
    cases e' <;> simp only[zaM] at g6
    exact ih st1 ds e st' ds' hs w' X μ' a' Q M1 hQ
   |exit i=>
    cases hs
    cases e' <;> simp only[zaM] at g6
    exact done (by simp) ⟨rfl,rfl,rfl⟩
   |ret=>
    cases hs
    cases e' <;> simp only[zaM] at g6
    exact done (by simp) ⟨rfl,rfl,rfl⟩
   |panic p=>
    cases hs
    cases e' <;> simp only[zaM] at g6
    exact done (by simp) ⟨rfl,rfl,rfl⟩
 |range c r f ps as bd fa env x more hc hf hl _ ih=>
  intro st ds e st' ds' hs w X μ a Q M hQ
  simp only[apieces,aexec] at hs
  split at hs
  ·rename_i st2 ds2 ha
   have go:∀Q':Exit->Act->World->Prop,(∀a w,zdB (Fe none) 0 P r Q a w->Q' .normal a w)->(Code.rangeFunc f ps as bd).wpIn (Fe none) 0 P Q' a w:=fun Q' hq=>zqx hΓ hfn hbd hf hl M ha fun X2 μ2 a2 w2 M2=>hq _ _ (ih st2 ds2 e st' ds' hs w2 X2 μ2 a2 Q M2 hQ)
   rcases hc with rfl|⟨id,rfl⟩
   ·exact go _ fun _ _ h=>h
   ·show(Code.block id (.rangeFunc f ps as bd)).wpIn (Fe none) 0 P _ a w
    apply wpIn_block
    exact go _ fun _ _ h=>h
  ·cases hs
 |dfr id ops r o ca s l pan keep x more ho h1 h2 h3 h4 h5 hl _ ih=>
  intro st ds e st' ds' hs w X μ a Q M hQ
  have hpos:0<ops.size:=by
   rcases Nat.eq_zero_or_pos ops.size with h|h
   ·have:ops.toList=[]:=by simpa using h
    rw[this] at ho
    cases ho
   ·exact h
  have hrange:List.range ops.size=List.range' 0 (ops.size - 1)++[ops.size - 1]:=by
   conv=>lhs;rw[show ops.size=(ops.size - 1)+1 by omega]
   rw[List.range_succ,List.range_eq_range']
  have hseg:zea P fnc.ntmps ops ((ops.toList.drop 0).take (ops.size - 1))=some l:=by
   rw[List.drop_zero,<-hl,List.dropLast_eq_take]
   simp
  apply wpIn_region
  rw[hrange]
  apply zdU
  simp only[apieces,aexec] at hs
  cases hx:aops Γ hp0.length l st.fr st.hp with
  |none=>rw[hx] at hs;cases hs
  |some q=>
   obtain⟨e1,fr1,hp1⟩:=q
   rw[hx] at hs
   refine zdS hΓ l l (ops.size - 1) 0 w μ st.hp st.fr a (by omega) hseg (Likes.refl l) hx M.ext.len M.hr M.fr M.sz fun e' a' w' hL=> ?_
   have hL2:=hL.keep keep
   obtain⟨g1,g2,μ',g3,g4,g5,g6⟩:=hL2
   have M1:Mid fnc.ntmps w0 X0 μ0 hp0 X μ' ⟨fr1.keep keep,hp1⟩ ds a' w':=⟨M.less,g3,g4,g2,M.ext.trans g5.cast,by rw[g1];exact M.dok.ext M.hr g5⟩
   cases e1 with
   |normal=>
    cases e' <;> simp only[zaM] at g6
    simp only[atop] at hs
    cases hlk:(fr1.keep keep).look s with
    |none=>rw[hlk] at hs;cases hs
    |some v=>
     rw[hlk] at hs
     obtain⟨q1,q2⟩:=g4 s v hlk
     split at hs
     ·rename_i st2 ds2 hat
      split at hat
      ·rename_i g first captured heq
       cases heq
       cases hat
       obtain⟨fs,cs',e1',e2',e3'⟩:=zcG (v:=.func (.func g) first captured) rfl q2
       refine zqy ho h1 h2 h3 h4 h5 e1' ?_
       exact ih _ _ e st' ds' hs w' X μ' { a' with defers:=_ } Q ⟨M1.less,M1.hr,M1.fr,M1.sz,M1.ext,.fn g first captured fs cs' _ _ e2' e3' M1.dok⟩ hQ
      ·cases hat
     ·cases hs
   |panic p=>
    cases e' <;> simp only[zaM] at g6
    simp only[] at hs
    split at hs
    ·rename_i hq
     split at hq <;> cases hq
    ·rename_i e2 st2 hne hq
     split at hq
     ·cases hq
      cases hs
      exact hQ _ _ _ ⟨g2,X,μ',M1.less,g3,g4,M1.ext,g6,M1.dok⟩
     ·cases hq
    ·cases hs
   |exit i=>cases hs
   |ret=>cases hs
end
end Go.Am

/- Functions and what their calls come to: bodies, calls, the whole. -/
namespace Go.Am
variable{P:Program} {w:World} {X:Xc P} {μ:Nat->Option Nat} {hp:Heap}

theorem zgi:∀{l:List AV} {i s:Nat} {v:AV},(params i l).look s=some v->∃k,s=i+k/\l[k]? =some v
 |[],i,s,v,h=>by simp[params,Fr.look] at h
 |a::r,i,s,v,h=>by
  simp only[params,Fr.look] at h
  split at h
  ·rename_i e;subst e;cases h;exact⟨0,rfl,rfl⟩
  ·obtain⟨k,h1,h2⟩:=zgi h
   exact⟨k+1,by omega,by simpa using h2⟩

theorem zbF{f:FuncId}{fnc:Func}{c:Code}{args:Array Value}(hf:P.funcs[f]? =some fnc)(hb:fnc.body=some c)(hn:fnc.name≠ "runtime.NumGoroutine"):(callFunc f args).run P w=.ok (.enter f args) w:=by
 simp[callFunc,run_program,hf,hn,hb]

theorem zlE{args:List AV}{vs:List Value}{nt:Nat}(hl:LR w X μ hp args vs)(hn:vs.length<=nt):FR w X μ hp (params 0 args) (vs.toArray++Array.replicate (nt - vs.toArray.size) undef)/\(vs.toArray++Array.replicate (nt - vs.toArray.size) undef).size=nt:=by
 refine⟨fun s v hs=> ?_,by simp;omega⟩
 obtain⟨k,rfl,hk⟩:=zgi hs
 have hkl:k<args.length:=(List.getElem?_eq_some_iff.1 hk).1
 have hkv:k<vs.length:=by rw[<-hl.length];exact hkl
 refine⟨by simp;omega,?_⟩
 have:(vs.toArray++Array.replicate (nt - vs.toArray.size) undef).getD (0+k) undef=vs[k]:=by
  rw[Array.getD_eq_getD_getElem?,Nat.zero_add,Array.getElem?_append_left (by simpa using hkv)]
  simp[hkv]
 rw[this]
 exact hl.get k v vs[k] hk (List.getElem?_eq_getElem hkv)

def Mode(w:World)(X:Xc P)(μ:Nat->Option Nat)(hp:Heap)(p:Option PV)(u:FrameMode):Prop:=
 match p with
 |none=>u=.returning
 |some v=>∃x,u=.panicking [{ v:=x,recovered:=false }]/\AR w X μ hp (.pv none v) x

theorem zgj{Γ:Oracle}(hΓ:SoundO P Γ){fnc:Func}{w0:World}{X0:Xc P}{μ0:Nat->Option Nat}{hp0:Heap}{R:Ending->World->Prop}{tmps:Array Value}{p':Option PV}{hp':Heap}:∀(dd:List Deferred) (ds:List AV) (p:Option PV) (hp:Heap) (w:World) (X:Xc P) (μ:Nat->Option Nat) (u:FrameMode),
  aunwind Γ ds p hp=some (p',hp')->DOk w0 w X μ hp ds dd->HR w X μ hp->Ext hp0.length X0 μ0 hp0 w0 μ hp w->Mode w X μ hp p u->
  (∀w' μ' u',HR w' X μ' hp'->Ext hp0.length X0 μ0 hp0 w0 μ' hp' w'->(∀a v,AR w X μ hp a v->AR w' X μ' hp' a v)->Mode w' X μ' hp' p' u'->LeavesInM (Fe none) 0 P fnc tmps R [] u' w')->LeavesInM (Fe none) 0 P fnc tmps R dd u w
 |[],ds,p,hp,w,X,μ,u,hs,hD,hH,E,hu,hQ=>by
  cases hD
  simp only[aunwind,Option.some.injEq,Prod.mk.injEq] at hs
  obtain⟨rfl,rfl⟩:=hs
  exact hQ w μ u hH E (fun _ _ h=>h) hu
 |d::dd,ds,p,hp,w,X,μ,u,hs,hD,hH,E,hu,hQ=>by
  have hrun:u≠.run:=by
   unfold Mode at hu
   split at hu
   ·rw[hu];simp
   ·obtain⟨x,rfl,_⟩:=hu;simp
  refine⟨hrun,?_⟩
  cases hD with
  |mark D _ _ hX h0 hb hn h=>
   refine .inl ⟨D,_,rfl,run_takeDeferred hb,?_⟩
   have T:Touch D w (w.putObj D (.deferred none)):=Touch.put fun cs t fr e=>by rw[hb] at e;cases e
   refine zgj hΓ dd ds p hp _ X μ u hs (h.map (fun a _ v ha=>T.ar ha) fun D' hD' hX' hb'=>⟨hX',?_⟩) (T.hr (fun i hi e=>(hH.out i D hi e).1 hX) hH) (T.ext h0 E) ?_ fun w' μ' u' h1 h2 h3 h4=>hQ w' μ' u' h1 h2 (fun a v ha=>h3 a v (T.ar ha)) h4
   ·rw[T.old D' (by rintro rfl;exact hn _ hD' rfl)];exact hb'
   ·unfold Mode at hu ⊢
    split
    ·exact hu
    ·obtain⟨x,h1,h2⟩:=hu
     exact⟨x,h1,T.ar h2⟩
  |fn g first captured fs cs ds' _ hf hc h=>
   simp only[aunwind,zbi] at hs
   split at hs
   ·rename_i rv hp1 hg
    have hmode:Leaving w X μ hp (p.getD .niliface) u:=by
     unfold Mode at hu
     split at hu
     ·exact .inl ⟨hu,rfl⟩
     ·exact .inr hu
    obtain⟨k1,k2⟩:=hΓ.dfr _ _ _ _ _ _ hg w X μ _ u hH (hf.append hc) hmode
    refine .inr ⟨zhQ,.func g,cs.toArray,g,(fs++cs).toArray,rfl,?_,fun _ _=>trivial,?_⟩
    ·show(callFunc g (fs.toArray++cs.toArray)).run P w=_
     rw[show fs.toArray++cs.toArray=(fs++cs).toArray by simp]
     exact k1
    ·have k3:CallsDIn (Fe none) (0 - 1) P g (fs++cs).toArray u w _:=k2
     refine k3.mono fun e u' w' hR=> ?_
     obtain⟨⟨v,rfl⟩,hset,μ',h1,h2⟩:=hR
     show LeavesInM (Fe none) 0 P fnc tmps R dd (Go.settle u') w'
     rw[hset]
     exact zgj hΓ dd ds' none hp1 w' X μ' .returning hs (h.ext hH h2) h1 (E.trans (h2.mono E.len).cast) rfl fun w2 μ2 u2 q1 q2 q3 q4=>hQ w2 μ2 u2 q1 q2 (fun a v ha=>q3 a v (h2.ar ha)) q4
   ·cases hs

theorem zfN{hm:Bool}{self:FuncId}{fnc:Func}{fn:AFn}(ht:trFn P hm self fnc=some fn):∃c,fnc.body=some c/\zj4 P fnc.results.toList=true/\fnc.params.size+fnc.nfree<=fnc.ntmps/\fnc.name≠ "runtime.NumGoroutine" /\fn.nparams=fnc.params.size+fnc.nfree/\
  ((fn.rcv=none/\fn.more=[]/\fn.rounds=[]/\fn.results=zay P fnc.results.toList/\Tr P fnc.ntmps c fn.code)\/
   (fn.rcv=none/\fn.results=zay P fnc.results.toList/\TrP P c fnc.ntmps self (zc4 c) fn.code fn.more/\zdK P hm fnc.ntmps (zaV c)=some fn.rounds)\/
   ∃t id ops o ca r l keep x,fn.rcv=some t/\fn.more=[]/\fn.rounds=[]/\fnc.results.toList=[]/\t<fnc.ntmps/\zc4 c=.region id ops false::r/\ops.toList.head? =some o/\o.op=.call ca/\o.dst=some t/\o.guard=none/\ca.callee=.builtin .recover/\zea P fnc.ntmps ops ops.toList.tail=some l/\
    fn.code=.seq (.region true l keep) x/\TrP P c fnc.ntmps self r x []):=by
 unfold trFn at ht
 split at ht
 ·rename_i c hc
  split at ht
  ·rename_i hok
   obtain⟨k1,k2,k3⟩:=hok
   refine⟨c,hc,k1,k2,k3,?_⟩
   simp only[] at ht
   split at ht
   ·rename_i t ops r hsp
    split at ht
    ·rename_i hte
     split at ht
     ·rename_i l a hl ha
      cases ht
      unfold zfp at hsp
      split at hsp
      ·rename_i id ops0 r0 hfl
       split at hsp
       ·rename_i o rest hops
        split at hsp
        ·rename_i ca t0 g1 g2 g3
         split at hsp
         ·rename_i g4
          cases hsp
          refine⟨rfl,.inr (.inr ⟨t,id,ops,o,ca,r,l,_,_,rfl,rfl,rfl,by simpa using hte.2,hte.1,hfl,by rw[hops];rfl,g1,g2,g3,g4,hl,rfl,?_⟩)⟩
          have hT:=zgh (body:=c) (self:=self) r a [] (fun c' hc' z hz=>zg9 c c' (by rw[hfl];exact List.mem_cons_of_mem _ hc') z hz) ha
          exact zox hT rfl _ _ _
         ·cases hsp
        ·cases hsp
       ·cases hsp
      ·cases hsp
     ·cases ht
    ·cases ht
   ·split at ht
    ·rename_i a ha
     cases ht
     exact⟨rfl,.inl ⟨rfl,rfl,rfl,rfl,zeB (zeA c a ha) _ _ _⟩⟩
    ·split at ht
     ·rename_i a more rounds ha hr
      cases ht
      exact⟨rfl,.inr (.inl ⟨rfl,rfl,zow (znG (zay P fnc.results.toList)) rounds (zgh (body:=c) (self:=self) (zc4 c) a more (fun c' hc' z hz=>zg9 c c' hc' z hz) ha),hr⟩)⟩
     ·cases ht
  ·cases ht
 ·cases ht

theorem zmI{fnc:Func}{f:FuncId}{c:Code}{args:Array Value}{R:Ending->World->Prop}(hf:P.funcs[f]? =some fnc)(hb:fnc.body=some c)(h:c.wpIn (Fe none) 0 P (bodyPost P fnc R) { tmps:=args++Array.replicate (fnc.ntmps - args.size) undef,defers:=[] } w):Calls P f args w R:=
 (callsIn_wide (n:=0)).1 (callsIn_of_wp (F:=Fe none) hf hb trivial h)

theorem zmJ{hm:Bool}{Γ:Oracle}{Λ:zan}(hmix:P.follows .mixedOrders=true)(hΓ:SoundO P Γ)(hΛ:∀nt c ac,Tr P nt c ac->zez P nt Λ c ac){f:FuncId}{fnc:Func}{fn:AFn}{args:List AV}{vs:List Value}{r:ARes}{hp':Heap}(hf:P.funcs[f]? =some fnc)(ht:trFn P hm f fnc=some fn)(hrcv:fn.rcv=none)
  (h:abody Γ Λ fn args hp=some (r,hp'))(hH:HR w X μ hp)(hl:LR w X μ hp args vs):(callFunc f vs.toArray).run P w=.ok (.enter f vs.toArray) w/\Calls P f vs.toArray w (zbl hp.length w X μ hp r hp'):=by
 obtain⟨c,hc,k1,k2,k3,k4,hcase⟩:=zfN ht
 refine⟨zbF hf hc k3,?_⟩
 unfold abody at h
 split at h
 ·cases h
 ·rename_i hlen
  have hlen':vs.length=fnc.params.size+fnc.nfree:=by rw[<-hl.length,<-k4];simpa using hlen
  obtain⟨hF,hsz⟩:=zlE hl (nt:=fnc.ntmps) (by omega)
  have plain:∀{e st},aexec Γ Λ hp.length fn.code ⟨params 0 args,hp⟩=some (e,st)->fn.results=zay P fnc.results.toList->Tr P fnc.ntmps c fn.code->(match(e,st) with
    |(.normal,st)|(.ret,st)=>(match zaA st fn.results with|some v=>some (ARes.ret v,st.hp)|none=>none)
    |(.panic v,st)=>some (.panic v,st.hp)
    |_=>none)=some (r,hp')->Calls P f vs.toArray w (zbl hp.length w X μ hp r hp'):=by
   intro e st hx hres hT h
   apply zmI hf hc
   refine zfd hmix hΓ (hΛ fnc.ntmps) hT hp.length ⟨params 0 args,hp⟩ e st hx w X μ _ _ none (Nat.le_refl _) hH.own hH hF hsz fun e' a' w' hL=> ?_
   obtain⟨g1,g2,μ',g3,g4,g5,g6⟩:=hL
   have ret:∀v,zaA st (zay P fnc.results.toList)=some v->r=.ret v->hp'=st.hp->a'.defers=[]/\∃u,(results fnc a'.tmps).run P w'=.ok u w'/\zbl hp.length w X μ hp r hp' (.returned u) w':=by
    rintro v hv rfl rfl
    obtain⟨u,u1,u2⟩:=zdd g3 g4 k1 hv
    exact⟨g1,u,u1,μ',v,rfl,g3,g5,u2⟩
   rw[hres] at h
   cases e with
   |normal=>
    cases e' <;> simp only[zaM] at g6
    simp only[] at h
    split at h
    ·cases h;exact ret _ ‹_› rfl rfl
    ·cases h
   |ret=>
    cases e' <;> simp only[zaM] at g6
    simp only[] at h
    split at h
    ·cases h;exact ret _ ‹_› rfl rfl
    ·cases h
   |exit i=>cases h
   |panic p=>
    cases h
    cases e' <;> simp only[zaM] at g6
    obtain⟨v',rfl,hv⟩:=g6
    exact⟨g1,μ',p,v',rfl,rfl,g3,g5,hv⟩

  have many:∀{q},apieces Γ Λ hp.length fn.more fn.code ⟨params 0 args,hp⟩ []=some q->fn.results=zay P fnc.results.toList->TrP P c fnc.ntmps f (zc4 c) fn.code fn.more->aleave Γ fn (some q)=some (r,hp')->Calls P f vs.toArray w (zbl hp.length w X μ hp r hp'):=by
   rintro⟨e,st,ds⟩ hx hres hT h
   refine(callsIn_wide (n:=0)).1 (callsIn_of_wp_marks (F:=Fe none) hf hc trivial ?_)
   apply zgg
   refine zoy hmix hΓ hΛ hf hc hH hT _ _ e st ds hx w X μ _ _ ⟨fun _ h=>h,hH,hF,hsz,Ext.refl _ _ _ _ _,.nil⟩ fun e' a' w' hL=> ?_
   obtain⟨g2,X2,μ',g0,g3,g4,g5,g6,g7⟩:=hL

   have fin:∀(p p':Option PV) (hpe:Heap) (u:FrameMode),aunwind Γ ds p st.hp=some (p',hpe)->Mode w' X2 μ' st.hp p u->(match p' with|none=>aresult fn ⟨st.fr,hpe⟩|some v'=>some (.panic v',hpe))=some (r,hp')->LeavesInM (Fe none) 0 P fnc a'.tmps (zbl hp.length w X μ hp r hp') a'.defers u w':=by
    intro p p' hpe u hun hu hr
    refine zgj hΓ a'.defers ds p st.hp w' X2 μ' u hun g7 g3 g5 hu fun w2 μ2 u2 q1 q2 q3 q4=> ?_
    cases p' with
    |none=>
     have hu2:u2=.returning:=q4
     subst hu2
     simp only[aresult,hres] at hr
     split at hr
     ·rename_i v hv
      cases hr
      obtain⟨x,x1,x2⟩:=zdd (st:=⟨st.fr,hp'⟩) q1 (t:=a'.tmps) (fun s u hs=>⟨(g4 s u hs).1,q3 _ _ (g4 s u hs).2⟩) k1 hv
      exact⟨x,x1,μ2,v,rfl,q1.less g0,q2,x2.less g0⟩
     ·cases hr
    |some v'=>
     cases hr
     obtain⟨x,rfl,x2⟩:=q4
     exact⟨μ2,v',x,rfl,rfl,q1.less g0,q2,x2.less g0⟩
   unfold aleave at h
   cases e with
   |normal=>
    cases e' <;> simp only[zaM] at g6
    simp only[] at h
    split at h
    ·rename_i hpe hun
     exact fin none none hpe .returning hun rfl h
    ·cases h
   |ret=>
    cases e' <;> simp only[zaM] at g6
    simp only[] at h
    split at h
    ·rename_i hpe hun
     exact fin none none hpe .returning hun rfl h
    ·cases h
   |exit i=>cases h
   |panic p=>
    cases e' <;> simp only[zaM] at g6
    obtain⟨v',rfl,hv⟩:=g6
    simp only[] at h
    have hm:Mode w' X2 μ' st.hp (some p) (.panicking [{ v:=v',recovered:=false }]):=⟨v',rfl,hv⟩
    split at h
    ·rename_i hpe hun
     exact fin (some p) none hpe _ hun hm h
    ·rename_i v2 hpe hun
     exact fin (some p) (some v2) hpe _ hun hm h
    ·cases h
  rcases hcase with⟨_,hm,_,hres,hT⟩|⟨_,hres,hT,_⟩|⟨t,_,_,_,_,_,_,_,_,h1,_⟩
  ·rw[hm] at h
   simp only[] at h
   cases hx:aexec Γ Λ hp.length fn.code ⟨params 0 args,hp⟩ with
   |none=>rw[hx] at h;cases h
   |some q=>
    obtain⟨e,st⟩:=q
    rw[hx] at h
    refine plain hx hres hT ?_
    cases e <;> exact h
  ·split at h
   ·rename_i hm
    cases hx:aexec Γ Λ hp.length fn.code ⟨params 0 args,hp⟩ with
    |none=>rw[hx] at h;cases h
    |some q=>
     obtain⟨e,st⟩:=q
     rw[hx] at h
     rw[hm] at many
     refine many (q:=(e,st,[])) (by simp only[apieces,hx]) hres (by rw[hm] at hT;exact hT) ?_
     cases e <;> exact h
   ·rename_i more hne
    cases hx:apieces Γ Λ hp.length fn.more fn.code ⟨params 0 args,hp⟩ [] with
    |none=>rw[hx] at h;cases h
    |some q=>
     rw[hx] at h
     exact many hx hres hT h
  ·rw[hrcv] at h1
   cases h1

def zfx(P:Program)(prim:FuncId->Option zbf):Prop:=
 ∀f p,prim f=some p->∀args hp r hp',p f args hp=some (r,hp')->∀(w:World) (X:Xc P) (μ:Nat->Option Nat) (vs:List Value),HR w X μ hp->LR w X μ hp args vs->Called P f vs.toArray w (zbl hp.length w X μ hp r hp')
def zky(P:Program)(F:FuncId->Option AFn):Prop:=∀f fn,F f=some fn->∃fnc,P.funcs[f]? =some fnc/\trFn P fn.heapMode f fnc=some fn

theorem zdC{v v':AV}{hp2 hp3:Heap}{μ':Nat->Option Nat}{w':World}{u:Value}(h:v.freezeRes hp2=some (v',hp3))(hH:HR w' (held X μ hp) μ' hp2)(ha:AR w' (held X μ hp) μ' hp2 v u):AR w' X μ hp v' u:=by
 have pr:∀{p:PV} {u:Value} {hp3:Heap},PR w' (Im (held X μ hp) μ' hp3) p u->PR w' (Im X μ hp) p u:=fun h=>h.mono fun _ _ _ _ hI hb=>⟨zhR hI,hb⟩
 have one:(match AV.freeze deep v hp2 with|some (p,hp')=>some (AV.pv v.shp p,hp')|none=>none)=some (v',hp3)->AR w' X μ hp v' u:=by
  intro h
  split at h
  ·rename_i p hp4 hf
   cases h
   obtain⟨_,_,k3⟩:=zaZ 0 w' _ μ' _ _ _ _ _ _ hf hH ha
   exact .pv _ _ _ (ha.vshp (zcF hf)) (pr k3)
  ·cases h
 unfold AV.freezeRes at h
 split at h
 ·rename_i l
  split at h
  ·rename_i ps hp4 hf
   cases h
   cases ha with|tuple _ vs hl hx=>
   obtain⟨_,_,k3⟩:=zbp 0 _ _ _ _ _ hf hH (LR.of hl hx)
   refine .tuple _ vs (by simp[pvs,k3.1]) fun i a u hi hu=> ?_
   simp only[pvs,List.getElem?_map,Option.map_eq_some_iff] at hi
   obtain⟨x,hx',rfl⟩:=hi
   exact .pv _ _ _ (k3.2.1 i x u hx' hu) (pr (k3.2.2 i x u hx' hu))
  ·cases h
 ·exact one h

theorem PR.scalar{w:World}{I J:Nat->Prop}{p:PV}{v:Value}(h:PR w I p v)(hs:p.scalar=true):PR w J p v:=by
 cases h with
 |bool=>exact .bool _
 |int=>exact .int _ _
 |str=>exact .str _
 |_=>cases hs
theorem AR.scalar1{w:World}{μ:Nat->Option Nat}{hp hp':Heap}{v:AV}{u:Value}(h:AR w X μ hp v u)(hs:v.scalar1=true):AR w X μ hp' v u:=by
 cases h with
 |pv s p u hv hp=>exact .pv _ _ _ hv (hp.scalar hs)
 |_=>cases hs
theorem AR.scalar{w:World}{μ:Nat->Option Nat}{hp hp':Heap}{v:AV}{u:Value}(h:AR w X μ hp v u)(hs:v.scalar=true):AR w X μ hp' v u:=by
 cases h with
 |pv s p u hv hp=>exact .pv _ _ _ hv (hp.scalar hs)
 |tuple l vs hl hx=>exact .tuple _ vs hl fun i a u hi hu=>(hx i a u hi hu).scalar1 (List.all_eq_true.1 hs a (List.mem_of_getElem? hi))
 |_=>cases hs

end Go.Am

/- Rounds of loops over functions; deferred functions that recover; calls; the whole. -/
namespace Go.Am
variable{P:Program} {w:World} {X:Xc P} {μ:Nat->Option Nat} {hp:Heap}

/-! ### Rounds -/
theorem zkz{x y:Fr}{s:Nat}:(x++y:Fr).look s=match x.look s with|some u=>some u|none=>y.look s:=by
 induction x with
 |nil=>rfl
 |cons z r ih=>
  obtain⟨k,v⟩:=z
  show Fr.look ((k,v)::(r++y)) s=_
  simp only[Fr.look]
  split
  ·rfl
  ·exact ih

def zeD(t:Array Value)(l:List (Nat × Value)):Array Value:=l.foldl (fun t x=>t.setIfInBounds x.1 x.2) t
theorem zef(l:List (Nat × Value))(t:Array Value):(zeD t l).size=t.size:=by
 induction l generalizing t with
 |nil=>rfl
 |cons x r ih=>simp only[zeD,List.foldl_cons];exact(ih _).trans (by simp)
theorem zjn:∀(ps:List Nat) (as:List AV) (vs:List Value) (t:Array Value),ziy ps=true->(∀p∈ps,p<t.size)->as.length=ps.length->LR w X μ hp as vs->
  (∀s u,(zfE ps as).look s=some u->AR w X μ hp u ((zeD t (ps.zip vs)).getD s undef))/\(∀s,s ∉ ps->(zeD t (ps.zip vs)).getD s undef=t.getD s undef)/\(∀s,s∈ps->∃u,(zfE ps as).look s=some u)/\(∀s u,(zfE ps as).look s=some u->s∈ps)
 |[],as,vs,t,_,_,_,_=>⟨fun s u h=>(by cases as <;> simp[zfE,Fr.look] at h),fun s _=>rfl,fun s h=>(by cases h),fun s u h=>(by cases as <;> simp[zfE,Fr.look] at h)⟩
 |p::ps,[],vs,t,_,_,h,_=>by simp at h
 |p::ps,a::as,vs,t,hn,hlt,hlen,hl=>by
  cases hl with|cons h1 h2=>
  rename_i v us
  simp only[ziy,Bool.and_eq_true,Bool.not_eq_true'] at hn
  have hp:p ∉ ps:=by
   intro h
   have:=hn.1
   simp[h] at this
  obtain⟨k1,k2,k3,k4⟩:=zjn ps as us (t.setIfInBounds p v) hn.2 (fun x hx=>by simpa using hlt x (List.mem_cons_of_mem _ hx)) (by simpa using hlen) h2
  have e:zeD t ((p::ps).zip (v::us))=zeD (t.setIfInBounds p v) (ps.zip us):=rfl
  rw[e]
  have hpt:=hlt p List.mem_cons_self
  refine⟨fun s u hs=> ?_,fun s hs=> ?_,fun s hs=> ?_,fun s u hs=> ?_⟩
  ·simp only[zfE,Fr.look] at hs
   split at hs
   ·rename_i e
    subst e
    cases hs
    rw[k2 p hp]
    simpa[Array.getD,hpt] using h1
   ·exact k1 s u hs
  ·simp only[List.mem_cons,not_or] at hs
   rw[k2 s hs.2]
   simp only[Array.getD_eq_getD_getElem?,Array.getElem?_setIfInBounds_ne (Ne.symm hs.1)]
  ·simp only[zfE,Fr.look]
   by_cases e:p=s
   ·exact⟨a,by simp[e]⟩
   ·obtain⟨u,hu⟩:=k3 s (by simpa[Ne.symm e] using hs)
    exact⟨u,by rw[if_neg e];exact hu⟩
  ·simp only[zfE,Fr.look] at hs
   split at hs
   ·rename_i e;subst e;exact List.mem_cons_self
   ·exact List.mem_cons_of_mem _ (k4 s u hs)

theorem zjo(rc:Loop)(vs:List Value):zbx rc vs=zeD rc.tmps (rc.params.toList.zip vs):=by
 unfold zbx zeD
 rw[<-Array.foldl_toList,Array.toList_zip]

theorem zfy{hm:Bool}{nt:Nat}{ps:List Nat}{rd:ARound}{psA:Array Tmp}{a c:Code}(hps:psA.toList=ps):∀(loops:List (Array Tmp × Code × Code)) (rounds:List ARound),zdK P hm nt loops=some rounds->zel ps rounds=some rd->(psA,a,c)∈loops->
  Tr P nt a rd.assign/\Tr P nt c rd.body/\(∀p∈ps,p<nt)/\ziy ps=true
 |[],rounds,h,hf,hm=>by cases hm
 |(ps0,a0,c0)::r,rounds,h,hf,hmem=>by
  simp only[zdK] at h
  split at h
  ·rename_i x y l hx hy hl
   split at h
   ·rename_i hc
    cases h
    obtain⟨n1,n2,n3⟩:=hc
    simp only[zel] at hf
    split at hf
    ·rename_i heq
     cases hf
     rcases List.mem_cons.1 hmem with e|hmem
     ·cases e
      refine⟨zeB (zeA _ _ hx) _ _ _,zeB (zeA _ _ hy) _ _ _,?_,?_⟩
      ·rw[<-heq]
       intro p hp
       have:=List.all_eq_true.1 n1 p hp
       simpa using this
      ·rw[<-heq];exact n2
     ·exfalso
      have:=List.all_eq_true.1 n3 _ hmem
      simp only[decide_eq_true_eq] at this
      exact this (by rw[hps];exact heq.symm)
    ·rename_i hne
     rcases List.mem_cons.1 hmem with e|hmem
     ·cases e
      exact absurd hps hne
     ·exact zfy hps r l hl hf hmem
   ·cases h
  ·cases h

theorem zjp{F:FuncId->Option AFn}{Γ:Oracle}{Λ:zan}(hmix:P.follows .mixedOrders=true)(hF:zky P F)(hΓ:SoundO P Γ)(hΛ:∀nt c ac,Tr P nt c ac->zez P nt Λ c ac){f:FuncId}{q:Nat}{as:List AV}{v:AV}{hp':Heap}{ps:List Nat}{env:List (Nat × AV)}{vs:List Value}{l:Nat}{rc:Loop}
  (h:around F Γ Λ f (.yield q::as) hp=some (.ret v,hp'))(hq:hp[q]? =some (.loop f ps env false))(hH:HR w X μ hp)(hl:LR w X μ hp as vs)(hm:μ q=some l)(hrc:w.heap[l]? =some (.loop rc)):
  vs.length=rc.params.size/\RoundIn Fence.wide 0 P l rc.fn (zbx rc vs) rc.assign rc.body w (zbl hp.length w X μ hp (.ret v) hp'):=by
 simp only[around,hq] at h
 split at h
 ·rename_i hlen
  split at h
  ·rename_i fn hfn
   split at h
   ·rename_i rd hrd
    split at h
    ·rename_i st1 hx1
     split at h
     ·rename_i f1 hlf
      split at h
      ·rename_i st2 hx2
       simp only[Option.some.injEq,Prod.mk.injEq,ARes.ret.injEq] at h
       obtain⟨rfl,rfl⟩:=h
       obtain⟨l0,rc0,a1,a2,a3,a4,a5,a6,a7⟩:=hH.loop q f ps env false hq
       rw[hm] at a1
       cases a1
       rw[hrc] at a2
       cases a2
       obtain⟨fnc,bd,b1,b2,b3,b4⟩:=a6
       obtain⟨fnc',c1,c2⟩:=hF f fn hfn
       rw[b1] at c1
       cases c1
       obtain⟨c,d1,d2,d3,d4,d5,hcase⟩:=zfN c2
       rw[b2] at d1
       cases d1
       have hpsl:rc.params.toList=ps:=by rw[a5]
       have hrds:∃hm',zdK P hm' fnc.ntmps (zaV bd)=some fn.rounds:=by
        rcases hcase with⟨_,_,e,_⟩|⟨_,_,_,e⟩|⟨t,id,ops,o,ca,r,l1,keep,x,_,_,e,_⟩
        ·rw[e] at hrd;cases hrd
        ·exact⟨_,e⟩
        ·rw[e] at hrd;cases hrd
       obtain⟨hm',hrds⟩:=hrds
       obtain⟨t1,t2,t3,t4⟩:=zfy hpsl _ _ hrds hrd b4
       rw[b3] at t1 t2
       have hvl:vs.length=ps.length:=by rw[<-hl.length];exact hlen.2
       refine⟨by rw[hvl,<-hpsl,Array.length_toList],?_⟩

       obtain⟨z1,z2,z3,z4⟩:=zjn ps as vs rc.tmps t4 (fun p hp=>by rw[<-b3];exact t3 p hp) hlen.2 hl
       have htm:zbx rc vs=zeD rc.tmps (ps.zip vs):=by rw[zjo,hpsl]
       have hFR:FR w X μ hp (zfE ps as++env) (zbx rc vs):=by
        rw[htm]
        intro s u hs
        rw[zkz] at hs
        split at hs
        ·rename_i u' hu
         cases hs
         exact⟨by rw[zef,<-b3];exact t3 s (z4 s u hu),z1 s u hu⟩
        ·rename_i hnone
         obtain⟨e1,e2⟩:=a7 _ (zlC hs)
         have hns:s ∉ ps:=fun hmem=>by
          obtain⟨u',hu⟩:=z3 s hmem
          rw[hnone] at hu
          cases hu
         exact⟨by rw[zef];exact e1,by rw[z2 s hns];exact e2⟩
       have hsz:(zbx rc vs).size=rc.tmps.size:=by rw[htm,zef]
       refine roundIn_of_wpIn (F:=Fence.wide) trivial ?_
       refine zfd hmix hΓ (hΛ rc.tmps.size) t1 hp.length ⟨zfE ps as++env,hp⟩ .normal st1 hx1 w X μ _ _ (some l) (Nat.le_refl _) hH.own hH hFR hsz fun e' a' w1 hL=> ?_
       obtain⟨g1,g2,μ1,H1,F1,E1,g6⟩:=hL
       cases e' <;> simp only[zaM] at g6
       obtain⟨bz1,i1,i2⟩:=E1.loop q f ps env false hq
       have hbz:bz1=false:=by
        rw[i1] at hlf
        cases bz1
        ·rfl
        ·cases hlf
       subst hbz
       obtain⟨l1,rc1,j1,j2,j3,j4,j5,j6,j7⟩:=H1.loop q f ps env false i1
       have hl1:l1=l:=by rw[i2,hm] at j1;cases j1;rfl
       subst hl1
       obtain⟨H2,E2⟩:=zov (b0:=hp.length) (bz':=true) (rc':={ rc1 with state:=.busy }) H1 i1 j1 j2 rfl j4 rfl rfl rfl rfl
       refine⟨_,run_beginRound j2 (by rw[j3];rfl),?_⟩
       have O2:Own hp.length (st1.hp.set q (.loop f ps env true)):=(hH.own.ext (Nat.le_refl _) E1).ext (by have:=E1.len;simpa using this) E2
       refine zfd hmix hΓ (hΛ rc.tmps.size) t2 hp.length ⟨st1.fr,st1.hp.set q (.loop f ps env true)⟩ .normal st2 hx2 _ X μ1 _ _ (some l1) (by have:=E1.len;simpa using this) O2 H2 (fun s u hs=>⟨(F1 s u hs).1,E2.ar (F1 s u hs).2⟩) g2 fun e' a2 w3 hL=> ?_
       obtain⟨g1',g2',μ3,H3,F3,E3,g6'⟩:=hL
       cases e' <;> simp only[zaM] at g6'
       have hqlt:q<st1.hp.length:=(List.getElem?_eq_some_iff.1 i1).1
       obtain⟨bz3,m1,m2⟩:=E3.loop q f ps env true (by rw[List.getElem?_set_self hqlt])
       obtain⟨l3,rc3,n1,n2,n3,n4,n5,n6,n7⟩:=H3.loop q f ps env bz3 m1
       have hl3:l3=l1:=by rw[m2,j1] at n1;cases n1;rfl
       subst hl3
       obtain⟨H4,E4⟩:=zov (b0:=hp.length) (bz':=false) (rc':={ rc3 with state:=.ready,pending:=none }) H3 m1 n1 n2 rfl rfl rfl rfl rfl rfl
       have Eall:Ext hp.length X μ hp w μ3 (st2.hp.set q (.loop f ps env false)) _:=(E1.trans E2).trans (E3.trans E4)
       refine⟨_,_,run_endRound none n2,μ3,_,rfl,H4.take (fun i o hi ho z hz=>(hH.own.ext (Nat.le_refl _) Eall) i o hi ho z hz),Eall.take (Nat.le_refl _),.pv _ _ _ rfl (.bool _)⟩
      ·cases h
     ·cases h
    ·cases h
   ·cases h
  ·cases h
 ·cases h

/-! ### Deferred functions that recover -/
theorem zqz{Γ:Oracle}{Λ:zan}(hmix:P.follows .mixedOrders=true)(hΓ:SoundO P Γ)(hΛ:∀nt c ac,Tr P nt c ac->zez P nt Λ c ac){body:Code}{nt self:Nat}{cs:List Code}{x:ACode}{more:List (ATop × ACode)}(hT:TrP P body nt self cs x more)(hmore:more=[]):
  ∀(b:Nat) (st:St) (e:AExit) (st':St),aexec Γ Λ b x st=some (e,st')->∀(w:World) (X:Xc P) (μ:Nat->Option Nat) (a:Act) (Q:Exit->Act->World->Prop),b<=st.hp.length->Own b st.hp->HR w X μ st.hp->FR w X μ st.hp st.fr a.tmps->a.tmps.size=nt->
  (∀e' a' w',Lands nt b w X μ st.hp a.defers e st'.fr st'.hp e' a' w'->Q e' a' w')->zdB (Fe none) 0 P cs Q a w:=by
 induction hT with
 |nil=>
  intro b st e st' hs w X μ a Q hb hO hH hF hsz hQ
  cases hs
  exact hQ _ _ _ ⟨rfl,hsz,μ,hH,hF,Ext.refl _ _ _ _ _,trivial⟩
 |range=>cases hmore
 |dfr=>cases hmore
 |code c r a0 x more hc _ ih=>
  intro b st e st' hs w X μ a Q hb hO hH hF hsz hQ
  simp only[aexec] at hs
  cases h1:aexec Γ Λ b a0 st with
  |none=>rw[h1] at hs;cases hs
  |some q=>
   obtain⟨e1,st1⟩:=q
   rw[h1] at hs
   refine zfd hmix hΓ (hΛ nt) hc b st e1 st1 h1 w X μ a _ none hb hO hH hF hsz fun e' a' w' hL=> ?_
   obtain⟨g1,g2,μ',g3,g4,g5,g6⟩:=hL
   cases e1 with
   |normal=>
    simp only[] at hs
    cases e' <;> simp only[zaM] at g6
    refine ih hmore b st1 e st' hs w' X μ' a' Q (Nat.le_trans hb g5.len) (hO.ext hb g5) g3 g4 g2 fun e2 a2 w2 hL2=>hQ e2 a2 w2 ?_
    obtain⟨k1,k2,μ2,k3,k4,k5,k6⟩:=hL2
    exact⟨k1.trans g1,k2,μ2,k3,k4,g5.trans k5,k6⟩
   |exit i=>
    cases hs
    cases e' <;> simp only[zaM] at g6
    subst g6
    exact hQ _ _ _ ⟨g1,g2,μ',g3,g4,g5,rfl⟩
   |ret=>
    cases hs
    cases e' <;> simp only[zaM] at g6
    exact hQ _ _ _ ⟨g1,g2,μ',g3,g4,g5,trivial⟩
   |panic p=>
    cases hs
    cases e' <;> simp only[zaM] at g6
    exact hQ _ _ _ ⟨g1,g2,μ',g3,g4,g5,g6⟩
section
variable{F:Fence} {n:Nat} {Q:Exit->Act->List Frame->World->Prop} {a:Act} {cs:List Frame}
theorem zha{c:Code}{Q':Exit->Act->List Frame->World->Prop}(hq:∀e a cs w,Q e a cs w->Q' e a cs w)(h:c.wpSIn F n P Q a cs w):c.wpSIn F n P Q' a cs w:=
 fun b k hb hr hF hroom=>let ⟨e,a',cs',w',l,q,r⟩:=h b k hb hr hF hroom;⟨e,a',cs',w',l,hq _ _ _ _ q,r⟩
theorem ztE(hro:F.round=none):∀(c:Code) {c1:Code} {r:List Code} {Q:Exit->Act->List Frame->World->Prop} {a:Act} {cs:List Frame} {w:World},zc4 c=c1::r->
  c1.wpSIn F n P (Exit.thenS (fun a cs w=>zdB F n P r (fun e a w=>Q e a cs w) a w) Q) a cs w->c.wpSIn F n P Q a cs w:=by
 intro c
 induction c with
 |seq x y ihx ihy=>
  intro c1 r Q a cs w hf h
  simp only[zc4] at hf
  cases hx:zc4 x with
  |nil=>exact absurd hx (zsk x)
  |cons c0 rx=>
   rw[hx] at hf
   simp only[List.cons_append,List.cons.injEq] at hf
   obtain⟨rfl,rfl⟩:=hf
   apply wpSIn_seq
   refine ihx hx (zha (fun e a cs w he=> ?_) h)
   cases e with
   |normal=>
    refine zgf (fun e a w he=> ?_) _ _ _ (zde _ _ _ he)
    cases e with
    |normal=>exact wpSIn_of_wpIn hro (zgg y he)
    |_=>exact he
   |_=>exact he
 |_=>
  intro c1 r Q a cs w hf h
  simp only[zc4,List.cons.injEq] at hf
  obtain⟨rfl,rfl⟩:=hf
  exact zha (fun e a cs w he=>by cases e <;> exact he) h

theorem zh3{id:Nat}{ops:Array Oper}{o:Oper}(hro:F.round=none)(hpos:0<ops.size)(hi:ops[0]? =some o)(hg:o.guard=none)(hrun:(execOp a.eval o).run P w=.ok .recover w)(habout:∀f,o.about P w a.eval=some f->F.fn f)
  (h:∀v cs',(recoverD cs=some (v,cs')\/(recoverD cs=none/\v=.nilIface/\cs'=cs))->wpOpsIn F n P ops (fun e a w=>Q e a cs' w) (List.range' 1 (ops.size - 1)) (a.put o.dst v) w):(Code.region id ops false).wpSIn F n P Q a cs w:=by
 intro b k hb hr hF hroom
 have hrange:List.range ops.size=0::List.range' 1 (ops.size - 1):=by
  rw[List.range_eq_range']
  conv=>lhs;rw[show ops.size=(ops.size - 1)+1 by omega]
  rw[List.range'_succ]
 have hw:Region.wanted o (yielded ops a.tmps)=true:=by simp[Region.wanted,hg]
 have h0:(lone (b.atR a (.inRegion ops (0::List.range' 1 (ops.size - 1))::k)) cs w).fenced P F:=fenced_oper hF hroom hi habout
 have hreg:StepsIn (Machine.fenced P F) P (lone (b.atR a (.code (.region id ops false)::k)) cs w) (lone (b.atR a (.inRegion ops (0::List.range' 1 (ops.size - 1))::k)) cs w):=by
  have:=stepR_region (P:=P) (b:=b) (a:=a) (k:=k) (cs:=cs) (w:=w) (id:=id) (ops:=ops)
  rw[hrange] at this
  exact .one (fenced_calm hF hroom rfl) this
 have hgo:=stepGR_op (P:=P) (b:=b) (k:=k) (cs:=cs) (w:=w) (rest:=List.range' 1 (ops.size - 1)) hi hw
 rw[hr,Oper.semAt_none] at hgo
 have hfin:∀v,(b.atR a (.inRegion ops (0::List.range' 1 (ops.size - 1))::k)).finish v=b.atR (a.put o.dst v) (.inRegion ops (List.range' 1 (ops.size - 1))::k):=by
  intro v;rw[Frame.finish_atR,hi];rfl
 have hk:(b.atR a (.inRegion ops (0::List.range' 1 (ops.size - 1))::k)).kind=.deferred:=hb
 have htr:=tryRecover_deferred hk cs
 have rest:∀v cs',cs'.length=cs.length->(recoverD cs=some (v,cs')\/(recoverD cs=none/\v=.nilIface/\cs'=cs))->step P (lone (b.atR a (.inRegion ops (0::List.range' 1 (ops.size - 1))::k)) cs w)=.next (lone (b.atR (a.put o.dst v) (.inRegion ops (List.range' 1 (ops.size - 1))::k)) cs' w)->
   ∃e a' cs'' w',cs''.length=cs.length/\Q e a' cs'' w'/\ArrivesIn (Machine.fenced P F) P (lone (b.atR a (.code (.region id ops false)::k)) cs w) b k cs'' e a' w':=by
  intro v cs' hlen hrec hstep
  obtain⟨e,a',w',hq,harr⟩:=wp_opsIn _ _ _ (h v cs' hrec) b k cs' (hr.trans hro.symm) hF (by rw[hlen];exact hroom)
  exact⟨e,a',cs',w',hlen,hq,.of_steps hreg (.of_steps (.one h0 hstep) harr)⟩
 cases hrec:recoverD cs with
 |some z=>
  obtain⟨v,cs'⟩:=z
  refine rest v cs' (recoverD_length hrec) (.inl hrec) (step_lone_go ?_)
  rw[hgo,<-hfin]
  simp only[Frame.atR,hr] at htr ⊢
  simp[stepG.apply,hrun,htr,hrec]
 |none=>
  refine rest .nilIface cs rfl (.inr ⟨hrec,rfl,rfl⟩) (step_lone_go ?_)
  rw[hgo,<-hfin]
  simp only[Frame.atR,hr] at htr ⊢
  simp[stepG.apply,hrun,htr,hrec]
end

theorem zjq{F:FuncId->Option AFn}{Γ:Oracle}{Λ:zan}(hmix:P.follows .mixedOrders=true)(hF:zky P F)(hΓ:SoundO P Γ)(hΛ:∀nt c ac,Tr P nt c ac->zez P nt Λ c ac){g:FuncId}{p:PV}{as:List AV}{r:ARes}{hp':Heap}{vs:List Value}{u:FrameMode}
  (h:adefer F Γ Λ g (.pv none p::as) hp=some (r,hp'))(hH:HR w X μ hp)(hl:LR w X μ hp as vs)(hu:Leaving w X μ hp p u):
  (callFunc g vs.toArray).run P w=.ok (.enter g vs.toArray) w/\CallsDIn Fence.wide 0 P g vs.toArray u w fun e u' w'=>(∃v,e=.returned v)/\Go.settle u'=.returning/\∃μ',HR w' X μ' hp'/\Ext hp.length X μ hp w μ' hp' w':=by
 simp only[adefer] at h
 split at h
 ·rename_i fn hfn
  split at h
  ·rename_i t hrcv hmore
   split at h
   ·cases h
   ·rename_i hlen
    obtain⟨fnc,c1,c2⟩:=hF g fn hfn
    obtain⟨c,d1,d2,d3,d4,d5,hcase⟩:=zfN c2
    rcases hcase with⟨e,_⟩|⟨e,_⟩|⟨t',id,ops,o,ca,r0,l,keep,x,e1,e2,e3,e4,e5,e6,e7,e8,e9,e10,e11,e12,e13,e14⟩
    ·rw[e] at hrcv;cases hrcv
    ·rw[e] at hrcv;cases hrcv
    ·rw[hrcv] at e1
     cases e1
     have hlen':vs.length=fnc.params.size+fnc.nfree:=by rw[<-hl.length,<-d5];simpa using hlen
     obtain⟨hFR,hsz⟩:=zlE hl (nt:=fnc.ntmps) (by omega)
     refine⟨zbF c1 d1 d4,?_⟩
     refine callsDIn_of_wpSIn (F:=Fe none) c1 d1 trivial fun c₀ cs hmode=> ?_
     refine ztE rfl c e6 ?_
     have hpos:0<ops.size:=by
      rcases Nat.eq_zero_or_pos ops.size with h|h
      ·have:ops.toList=[]:=by simpa using h
       rw[this] at e7
       cases e7
      ·exact h
     have hi:ops[0]? =some o:=by
      rw[List.head?_eq_getElem?] at e7
      simpa using e7
     have hrun:∀a:Act,(execOp a.eval o).run P w=.ok .recover w:=fun a=>by
      simp only[execOp,e8,resolve,e11,pure_bind,invoke,builtin,Sem.run_pure]
     refine zh3 rfl hpos hi e10 (hrun _) (fun _ _=>trivial) fun v cs' hrec=> ?_

     have hv:AR w X μ hp (.pv none p) v/\∃u',cs'={ c₀ with mode:=u' }::cs/\Go.settle u'=.returning:=by
      rcases hu with⟨rfl,rfl⟩|⟨y,rfl,hy⟩
      ·have hn:recoverD (c₀::cs)=none:=by simp[recoverD,hmode]
       rw[hn] at hrec
       rcases hrec with h|⟨_,rfl,rfl⟩
       ·cases h
       ·exact⟨.pv _ _ _ rfl .niliface,.returning,by rw[<-hmode],rfl⟩
      ·have hn:recoverD (c₀::cs)=some (y,{ c₀ with mode:=.panicking [{ v:=y,recovered:=true }] }::cs):=by simp[recoverD,hmode]
       rw[hn] at hrec
       rcases hrec with h|⟨h,_⟩
       ·cases h
        exact⟨hy,_,rfl,rfl⟩
       ·cases h
     obtain⟨hv,u',rfl,hset⟩:=hv

     have hseg:zea P fnc.ntmps ops ((ops.toList.drop 1).take (ops.size - 1))=some l:=by
      rw[<-e12,<-List.drop_one,List.take_of_length_le (by simp)]
     have hFR2:FR w X μ hp ((t,.pv none p)::params 0 as) ({ tmps:=vs.toArray++Array.replicate (fnc.ntmps - vs.toArray.size) undef,defers:=[]:Act }.put o.dst v).tmps:=by
      rw[e9]
      exact FR.put (dst:=some t) (fr:=params 0 as) (a:={ tmps:=vs.toArray++Array.replicate (fnc.ntmps - vs.toArray.size) undef,defers:=[] }) hFR (Ext.refl 0 X μ hp w) (fun d hd=>by cases hd;rw[hsz];exact e5) hv
     rw[e13] at h
     simp only[aexec] at h
     cases hx:aops Γ hp.length l ((t,.pv none p)::params 0 as) hp with
     |none=>rw[hx] at h;cases h
     |some q=>
      obtain⟨e1,fr1,hp1⟩:=q
      rw[hx] at h
      refine zdS hΓ l l (ops.size - 1) 1 w μ hp _ _ (by omega) hseg (Likes.refl l) hx (Nat.le_refl _) hH hFR2 (by rw[zbr];exact hsz) fun e' a' w1 hL=> ?_
      have hL2:=hL.keep keep
      obtain⟨g1,g2,μ1,H1,F1,E1,g6⟩:=hL2
      cases e1 with
      |panic p=>simp only[if_true] at h;cases h
      |exit i=>cases h
      |ret=>cases h
      |normal=>
       cases e' <;> simp only[zaM] at g6
       simp only[] at h
       cases hx2:aexec Γ Λ hp.length x ⟨fr1.keep keep,hp1⟩ with
       |none=>rw[hx2] at h;cases h
       |some q2=>
        obtain⟨e2,st2⟩:=q2
        rw[hx2] at h
        have hdef:a'.defers=[]:=by rw[g1,zbU]
        refine zqz hmix hΓ hΛ e14 rfl hp.length ⟨fr1.keep keep,hp1⟩ e2 st2 hx2 w1 X μ1 a' _ E1.len (hH.own.ext (Nat.le_refl _) E1) H1 F1 g2 fun e' a2 w2 hL=> ?_
        obtain⟨k1,k2,μ2,H2,F2,E2',k6⟩:=hL
        have E2:=E1.trans E2'
        have hdef2:a2.defers=[]:=k1.trans hdef
        have fin:r=.ret (.tuple [])->hp'=st2.hp.take hp.length->a2.defers=[]/\∃u'',({ c₀ with mode:=u' }::cs)={ c₀ with mode:=u'' }::cs/\∃v,(results fnc a2.tmps).run P w2=.ok v w2/\((∃v',Ending.returned v=.returned v')/\Go.settle u''=.returning/\∃μ',HR w2 X μ' hp'/\Ext hp.length X μ hp w μ' hp' w2):=by
         rintro rfl rfl
         obtain⟨y,y1,_⟩:=zdd (v:=.tuple []) H2 F2 d2 (by rw[e4];rfl)
         exact⟨hdef2,u',rfl,y,y1,⟨y,rfl⟩,hset,μ2,H2.take (fun i o hi ho z hz=>(hH.own.ext (Nat.le_refl _) E2) i o hi ho z hz),E2.take (Nat.le_refl _)⟩
        cases e2 with
        |normal=>
         cases e' <;> simp only[zaM] at k6
         cases h
         exact fin rfl rfl
        |ret=>
         cases e' <;> simp only[zaM] at k6
         cases h
         exact fin rfl rfl
        |exit i=>cases h
        |panic p=>cases h
  ·cases h
 ·cases h
end Go.Am

/- Calls; the whole. -/
namespace Go.Am
variable{P:Program} {w:World} {X:Xc P} {μ:Nat->Option Nat} {hp:Heap}

theorem zeE{F:FuncId->Option AFn}{prim:FuncId->Option zbf}{Γ:Oracle}{Λ:zan}(hmix:P.follows .mixedOrders=true)(hF:zky P F)(hP:zfx P prim)(hΓ:SoundO P Γ)(hΛ:∀nt c ac,Tr P nt c ac->zez P nt Λ c ac){f:FuncId}{args:List AV}{r:ARes}{hp':Heap}{vs:List Value}
  (h:zba F prim Γ Λ f args hp=some (r,hp'))(hH:HR w X μ hp)(hl:LR w X μ hp args vs):Called P f vs.toArray w (zbl hp.length w X μ hp r hp'):=by
 unfold zba at h
 split at h
 ·exact hP _ _ ‹_› _ _ _ _ h w X μ vs hH hl
 ·split at h
  ·cases h
  ·rename_i fn hfn
   obtain⟨fnc,hf,ht⟩:=hF f fn hfn
   split at h
   ·cases h
   rename_i hrc
   have hrcv:fn.rcv=none:=by
    cases hr:fn.rcv with
    |none=>rfl
    |some t=>rw[hr] at hrc;exact absurd rfl hrc
   have bs:∀{args:List AV} {hp:Heap} {w:World} {X:Xc P} {μ:Nat->Option Nat} {r:ARes} {hp':Heap} {vs:List Value},abody Γ Λ fn args hp=some (r,hp')->HR w X μ hp->LR w X μ hp args vs->Called P f vs.toArray w (zbl hp.length w X μ hp r hp'):=fun h hH hl=>.inl (zmJ hmix hΓ hΛ hf ht hrcv h hH hl)
   split at h
   ·-- on the caller's heap
    split at h
    ·rename_i v hp2 hb
     cases h
     refine(bs hb hH hl).mono fun e w' hR=> ?_
     cases e with
     |returned u=>
      obtain⟨μ',v2,e1,g1,g2,g3⟩:=hR
      cases e1
      split
      ·rename_i hc
       simp only[List.all_eq_true,decide_eq_true_eq] at hc
       exact⟨μ',v,rfl,g1.take fun i o hi ho q hq=>(hH.own.ext (Nat.le_refl _) g2) i o hi ho q hq,g2.take (Nat.le_refl _),g3.take hc⟩
      ·exact⟨μ',v,rfl,g1,g2,g3⟩
     |panicked c=>obtain⟨μ',p,v',e1,_⟩:=hR;cases e1
     |outgrown=>exact hR
    ·rename_i v hp2 hb
     cases h
     refine(bs hb hH hl).mono fun e w' hR=> ?_
     cases e with
     |returned u=>obtain⟨μ',v2,e1,_⟩:=hR;cases e1
     |panicked c=>
      obtain⟨μ',p,v',e1,e2,g1,g2,g3⟩:=hR
      cases e1
      exact⟨μ',v,v',rfl,e2,g1.take fun i o hi ho q hq=>(hH.own.ext (Nat.le_refl _) g2) i o hi ho q hq,g2.take (Nat.le_refl _),g3.take (fun q hq=>by simp[AV.refsIn] at hq)⟩
     |outgrown=>exact hR
    ·cases h
   ·-- on a heap of its own
    split at h
    ·cases h
    ·rename_i ps hp1 hfz
     obtain⟨e1,h1,hCP⟩:=zbp hp.length _ _ _ _ _ hfz hH hl
     split at h
     ·rename_i v hp2 hb
      split at h
      ·rename_i v' hp3 hfr
       cases h
       refine(bs hb h1.empty hCP.empty.lr).mono fun e w' hR=> ?_
       cases e with
       |returned u=>
        obtain⟨μ',v2,e2,g1,g2,g3⟩:=hR
        cases e2
        cases hsc:v'.scalar with
        |true=>
         obtain⟨k1,k2⟩:=back (b:=hp.length) hH g2
         exact⟨μ,v',rfl,k1,k2,(zdC hfr g1 g3).scalar hsc⟩
        |false=>
         obtain⟨k1,k2⟩:=back (b:=hp.length) h1 g2
         exact⟨μ,v',rfl,k1,e1.trans k2,zdC hfr g1 g3⟩
       |panicked c=>obtain⟨μ',p,v',e1,_⟩:=hR;cases e1
       |outgrown=>exact hR
      ·cases h
     ·rename_i v hp2 hb
      cases h
      refine(bs hb h1.empty hCP.empty.lr).mono fun e w' hR=> ?_
      cases e with
      |returned u=>obtain⟨μ',v2,e1,_⟩:=hR;cases e1
      |panicked c=>
       obtain⟨μ',p,v',e2,e3,g1,g2,g3⟩:=hR
       cases e2
       obtain⟨k1,k2⟩:=back (b:=hp.length) h1 g2
       refine⟨μ,v,v',rfl,e3,k1,e1.trans k2,?_⟩
       cases g3 with|pv _ _ _ hs hq=>exact .pv _ _ _ hs (hq.mono fun _ _ _ _ hI hb=>⟨zhR hI,hb⟩)
      |outgrown=>exact hR
     ·cases h

theorem zkA{F:FuncId->Option AFn}{prim:FuncId->Option zbf}{Γ:Oracle}{Λ:zan}(hmix:P.follows .mixedOrders=true)(hF:zky P F)(hP:zfx P prim)(hΓ:SoundO P Γ)(hΛ:∀nt c ac,Tr P nt c ac->zez P nt Λ c ac):SoundO P (acall F prim Γ Λ) where
 fn f args hp r hp' h w X μ vs hH hl:=zeE hmix hF hP hΓ hΛ h hH hl
 seq f args hp r hp' h w X μ vs hH hl:=by
  have h:(if(F f).isSome=true then zba F prim Γ Λ f args hp else none)=some (r,hp'):=h
  split at h
  ·rename_i hs
   have hC:=zeE hmix hF hP hΓ hΛ h hH hl
   cases hfn:F f with
   |none=>rw[hfn] at hs;cases hs
   |some fn=>
    obtain⟨fnc,c1,c2⟩:=hF f fn hfn
    obtain⟨c,d1,_,_,d4,_⟩:=zfN c2
    have hent:=zbF (w:=w) (args:=vs.toArray) c1 d1 d4
    rcases hC with⟨h1,h2⟩|⟨v,w',h1,_⟩
    ·exact⟨h1,h2⟩
    ·rw[hent] at h1;cases h1
  ·cases h
 rnd f q as hp v hp' ps env h hq w X μ vs l rc hH hl hm hrc:=zjp hmix hF hΓ hΛ h hq hH hl hm hrc
 dfr g p as hp r hp' h w X μ vs u hH hl hu:=zjq hmix hF hΓ hΛ h hH hl hu

theorem zcn{F:FuncId->Option AFn}{prim:FuncId->Option zbf}(hmix:P.follows .mixedOrders=true)(hF:zky P F)(hP:zfx P prim):∀n,SoundO P (asem F prim n)
 |0=>⟨fun _ _ _ _ _ h=>(by cases h),fun _ _ _ _ _ h=>(by cases h),fun _ _ _ _ _ _ _ _ h=>(by cases h),fun _ _ _ _ _ _ h=>(by cases h)⟩
 |n+1=>zkA hmix hF hP (zcn hmix hF hP n) fun nt c ac h=>zsj hmix (zcn hmix hF hP n) n c ac h
end Go.Am

/- The limit of the runs of bounded depth: equations without fuel. -/
namespace Go.Am

def OLe(Γ Δ:Oracle):Prop:=∀k f as hp r,Γ k f as hp=some r->Δ k f as hp=some r
def LLe(Λ Λ':zan):Prop:=∀b m keep c st r,Λ b m keep c st=some r->Λ' b m keep c st=some r
theorem OLe.refl(Γ:Oracle):OLe Γ Γ:=fun _ _ _ _ _ h=>h
theorem OLe.trans{Γ Δ Θ:Oracle}(h:OLe Γ Δ)(k:OLe Δ Θ):OLe Γ Θ:=fun i f as hp r e=>k i f as hp r (h i f as hp r e)
theorem LLe.refl(Γ:zan):LLe Γ Γ:=fun _ _ _ _ _ _ h=>h
theorem LLe.trans{Γ Δ Θ:zan}(h:LLe Γ Δ)(k:LLe Δ Θ):LLe Γ Θ:=fun f as hp r x y e=>k f as hp r x y (h f as hp r x y e)

theorem zfe{Γ Δ:Oracle}{vs:List AV}{hp:Heap}{r:OpRes}(hO:OLe Γ Δ)(h:zdr Γ hp vs=some r):zdr Δ hp vs=some r:=by
 cases vs with
 |nil=>cases h
 |cons a as=>
  have gen:(match zbi a with
    |some (g,first,captured)=>match Γ .fn g (first++as++captured) hp with
     |some (.ret v,hp')=>some (OpRes.val v hp')
     |some (.panic v,hp')=>some (.panic v hp')
     |none=>none
    |none=>none)=some r->(match zbi a with
    |some (g,first,captured)=>match Δ .fn g (first++as++captured) hp with
     |some (.ret v,hp')=>some (OpRes.val v hp')
     |some (.panic v,hp')=>some (.panic v hp')
     |none=>none
    |none=>none)=some r:=by
   intro h
   split at h
   ·split at h
    ·rename_i hg;simp only[hO _ _ _ _ _ hg];exact h
    ·rename_i hg;simp only[hO _ _ _ _ _ hg];exact h
    ·cases h
   ·cases h
  cases a with
  |yield q=>
   simp only[zdr] at h ⊢
   split at h
   ·split at h
    ·rename_i hg;rw[hO _ _ _ _ _ hg];exact h
    ·cases h
   ·cases h
  |_=>exact gen h
theorem zeF{Γ Δ:Oracle}{b:Nat}{op:AOp}{vs:List AV}{hp:Heap}{r:OpRes}(hO:OLe Γ Δ)(h:aOp Γ b op vs hp=some r):aOp Δ b op vs hp=some r:=by
 cases op
 case call=>exact zfe hO h
 case calln n=>
  simp only[aOp,zgL] at h ⊢
  cases hc:zdr Γ hp (vs.drop n) with
  |none=>rw[hc] at h;cases h
  |some q=>rw[hc] at h;rw[zfe hO hc];exact h
 case callg=>
  simp only[aOp,zgM] at h ⊢
  cases hc:zdr Γ hp vs with
  |none=>rw[hc] at h;cases h
  |some q=>rw[hc] at h;rw[zfe hO hc];exact h
 case callp=>
  simp only[aOp,zek] at h ⊢
  split at h
  ·split at h
   ·rename_i ps he
    split at h
    ·rename_i v hp' hg;rw[hO _ _ _ _ _ hg];exact h
    ·cases h
   ·cases h
  ·cases h
 case callh=>
  simp only[aOp,zgK] at h ⊢
  split at h
  ·split at h
   ·split at h
    ·rename_i v hp' hg;rw[hO _ _ _ _ _ hg];exact h
    ·cases h
   ·cases h
  ·cases h
 all_goals exact h

theorem zcy{Γ Δ:Oracle}{b:Nat}(hO:OLe Γ Δ):∀{ops:List AOper} {fr:Fr} {hp:Heap} {r:AExit × Fr × Heap},aops Γ b ops fr hp=some r->aops Δ b ops fr hp=some r
 |[],_,_,_,h=>h
 |o::rest,fr,hp,r,h=>by
  simp only[aops] at h ⊢
  split at h
  ·cases h
  ·exact zcy hO h
  ·split at h
   ·cases h
   ·split at h
    ·rename_i ho;rw[zeF hO ho];exact zcy hO h
    ·rename_i ho;rw[zeF hO ho];exact h
    ·cases h

theorem zdf{Γ Δ:Oracle}(hO:OLe Γ Δ){hp:Heap}{vs:List AV}{r:OpRes}(h:zbJ Γ hp vs=some r):zbJ Δ hp vs=some r:=by
 unfold zbJ at h ⊢
 split at h
 ·split at h
  ·split at h
   ·rename_i hg;simp only[hO _ _ _ _ _ hg];exact h
   ·rename_i hg;simp only[hO _ _ _ _ _ hg];exact h
   ·cases h
  ·cases h
 ·cases h
theorem zbV{Γ Δ:Oracle}{b:Nat}(hO:OLe Γ Δ):∀{l:List (AOper × Option (List AOper))} {fr:Fr} {hp:Heap} {r:AExit × Fr × Heap},zcs Γ b l fr hp=some r->zcs Δ b l fr hp=some r
 |[],_,_,_,h=>h
 |(o,none)::rest,fr,hp,r,h=>by
  simp only[zcs] at h ⊢
  split at h
  ·cases h
  ·exact zbV hO h
  ·split at h
   ·cases h
   ·split at h
    ·rename_i ho;rw[zeF hO ho];exact zbV hO h
    ·cases h
 |(o,some later)::rest,fr,hp,r,h=>by
  simp only[zcs] at h ⊢
  split at h
  ·cases h
  ·split at h
   ·rename_i ho;simp only[zdf hO ho];exact zbV hO h
   ·rename_i ho
    simp only[zdf hO ho]
    split at h
    ·rename_i hl;simp only[zcy hO hl];exact h
    ·cases h
   ·cases h
theorem zax{Γ Δ:Oracle}{Λ Λ':zan}{b:Nat}(hO:OLe Γ Δ)(hL:LLe Λ Λ'):∀{c:ACode} {st:St} {r:AExit × St},aexec Γ Λ b c st=some r->aexec Δ Λ' b c st=some r:=by
 intro c
 induction c with
 |skip=>intro st r h;exact h
 |settle l=>intro st r h;exact h
 |doom l keep=>
  intro st r h
  simp only[aexec] at h ⊢
  split at h
  ·rename_i ho;rw[zbV hO ho];exact h
  ·rename_i ho;rw[zbV hO ho];exact h
  ·cases h
 |region pan ops keep=>
  intro st r h
  simp only[aexec] at h ⊢
  split at h
  ·rename_i ho;rw[zcy hO ho];exact h
  ·rename_i ho;rw[zcy hO ho];exact h
  ·cases h
 |seq x y ihx ihy=>
  intro st r h
  simp only[aexec] at h ⊢
  split at h
  ·rename_i ho;rw[ihx ho];exact ihy h
  ·rename_i hn
   rw[ihx h]
   split
   ·rename_i e;cases e;exact(hn _ h).elim
   ·rfl
 |cond c x y ihx ihy=>
  intro st r h
  simp only[aexec] at h ⊢
  split at h
  ·exact ihx h
  ·exact ihy h
  ·cases h
 |block id c ih=>
  intro st r h
  simp only[aexec] at h ⊢
  split at h
  ·rename_i ho;rw[ih ho];exact h
  ·rename_i hn
   rw[ih h]
   split
   ·rename_i e;cases e;exact(hn _ _ h).elim
   ·rfl
 |loop keep c ih=>intro st r h;exact hL _ _ _ _ _ _ h
 |exit id=>intro st r h;exact h
 |ret=>intro st r h;exact h

theorem za6{Γ Δ:Oracle}(hO:OLe Γ Δ):∀{n m:Nat},n<=m->LLe (aloop Γ n) (aloop Δ m)
 |0,m,_=>fun _ _ _ _ _ _ h=>by cases h
 |n+1,0,h=>by omega
 |n+1,m+1,hnm=>fun b k keep c st r h=>by
  simp only[aloop] at h ⊢
  split at h
  ·rename_i ho
   rw[zax hO (za6 hO (by omega:n<=m)) ho]
   exact za6 hO (by omega:n<=m) _ _ _ _ _ _ h
  ·rename_i hn
   rw[zax hO (za6 hO (by omega:n<=m)) h]
   split
   ·rename_i e;cases e;exact(hn _ h).elim
   ·rfl

theorem zjr{Γ Δ:Oracle}(hO:OLe Γ Δ){op:ATop}{st:St}{ds:List AV}{r:AExit × St × List AV}(h:atop Γ op st ds=some r):atop Δ op st ds=some r:=by
 cases op with
 |dfr s=>exact h
 |range self f ps env=>
  simp only[atop] at h ⊢
  split at h
  ·cases h
  ·split at h
   ·split at h
    ·rename_i hg;rw[hO _ _ _ _ _ hg];exact h
    ·cases h
   ·cases h
theorem zcI{Γ Δ:Oracle}{Λ Λ':zan}{b:Nat}(hO:OLe Γ Δ)(hL:LLe Λ Λ'):∀{l:List (ATop × ACode)} {c:ACode} {st:St} {ds:List AV} {r:AExit × St × List AV},apieces Γ Λ b l c st ds=some r->apieces Δ Λ' b l c st ds=some r
 |[],c,st,ds,r,h=>by
  simp only[apieces] at h ⊢
  split at h
  ·rename_i ho;rw[zax hO hL ho];exact h
  ·cases h
 |(op,c2)::l,c,st,ds,r,h=>by
  simp only[apieces] at h ⊢
  split at h
  ·rename_i ho
   rw[zax hO hL ho]
   split at h
   ·rename_i ha;simp only[zjr hO ha];exact zcI hO hL h
   ·cases h
  ·rename_i e st1 hne ho
   rw[zax hO hL ho]
   cases e with
   |normal=>exact(hne rfl).elim
   |_=>exact h
  ·cases h
theorem zbG{Γ Δ:Oracle}(hO:OLe Γ Δ):∀{ds:List AV} {p:Option PV} {hp:Heap} {r:Option PV × Heap},aunwind Γ ds p hp=some r->aunwind Δ ds p hp=some r
 |[],p,hp,r,h=>h
 |c::ds,p,hp,r,h=>by
  simp only[aunwind] at h ⊢
  split at h
  ·split at h
   ·rename_i hg;simp only[hO _ _ _ _ _ hg];exact zbG hO h
   ·cases h
  ·cases h
theorem zgk{Γ Δ:Oracle}(hO:OLe Γ Δ){fn:AFn}{q:AExit × St × List AV}{r:ARes × Heap}(h:aleave Γ fn (some q)=some r):aleave Δ fn (some q)=some r:=by
 obtain⟨e,st,ds⟩:=q
 cases e with
 |exit i=>cases h
 |normal=>
  simp only[aleave] at h ⊢
  split at h
  ·rename_i hu;simp only[zbG hO hu];exact h
  ·cases h
 |ret=>
  simp only[aleave] at h ⊢
  split at h
  ·rename_i hu;simp only[zbG hO hu];exact h
  ·cases h
 |panic v=>
  simp only[aleave] at h ⊢
  split at h
  ·rename_i hu;simp only[zbG hO hu];exact h
  ·rename_i hu;simp only[zbG hO hu];exact h
  ·cases h
theorem zdV{Γ Δ:Oracle}{Λ Λ':zan}(hO:OLe Γ Δ)(hL:LLe Λ Λ'){fn:AFn}{args:List AV}{hp:Heap}{r:ARes × Heap}(h:abody Γ Λ fn args hp=some r):abody Δ Λ' fn args hp=some r:=by
 unfold abody at h ⊢
 split at h
 ·cases h
 ·rename_i hn
  rw[if_neg hn]
  cases hmore:fn.more with
  |nil=>
   simp only[hmore] at h ⊢
   split at h
   ·rename_i ho;rw[zax hO hL ho];exact h
   ·rename_i ho;rw[zax hO hL ho];exact h
   ·rename_i ho;rw[zax hO hL ho];exact h
   ·cases h
  |cons x l=>
   simp only[hmore] at h ⊢
   cases hq:apieces Γ Λ hp.length (x::l) fn.code ⟨params 0 args,hp⟩ [] with
   |none=>rw[hq] at h;cases h
   |some q=>
    rw[hq] at h
    rw[zcI hO hL hq]
    exact zgk hO h

theorem zfz{F:FuncId->Option AFn}{prim:FuncId->Option zbf}{Γ Δ:Oracle}{Λ Λ':zan}(hO:OLe Γ Δ)(hL:LLe Λ Λ'){f:FuncId}{as:List AV}{hp:Heap}{r:ARes × Heap}(h:zba F prim Γ Λ f as hp=some r):zba F prim Δ Λ' f as hp=some r:=by
 unfold zba at h ⊢
 split at h
 ·exact h
 ·split at h
  ·cases h
  ·rename_i fn _
   by_cases hr:fn.rcv.isSome=true
   ·rw[if_pos hr] at h;cases h
   simp only[if_neg hr] at h ⊢
   by_cases hm:fn.heapMode=true
   ·simp only[hm,if_true] at h ⊢
    split at h
    ·rename_i ho;rw[zdV hO hL ho];exact h
    ·rename_i ho;rw[zdV hO hL ho];exact h
    ·cases h
   ·rw[if_neg hm] at h ⊢
    split at h
    ·cases h
    ·split at h
     ·rename_i ho;rw[zdV hO hL ho];exact h
     ·rename_i ho;rw[zdV hO hL ho];exact h
     ·cases h
theorem zkB{F:FuncId->Option AFn}{Γ Δ:Oracle}{Λ Λ':zan}(hO:OLe Γ Δ)(hL:LLe Λ Λ'){f:FuncId}{as:List AV}{hp:Heap}{r:ARes × Heap}(h:around F Γ Λ f as hp=some r):around F Δ Λ' f as hp=some r:=by
 unfold around at h ⊢
 split at h
 ·split at h
  ·split at h
   ·rename_i hc
    rw[if_pos hc]
    split at h
    ·split at h
     ·split at h
      ·rename_i h1
       simp only[zax hO hL h1]
       split at h
       ·split at h
        ·rename_i h2
         simp only[zax hO hL h2]
         exact h
        ·cases h
       ·cases h
      ·cases h
     ·cases h
    ·cases h
   ·cases h
  ·cases h
 ·cases h
theorem zkC{F:FuncId->Option AFn}{Γ Δ:Oracle}{Λ Λ':zan}(hO:OLe Γ Δ)(hL:LLe Λ Λ'){f:FuncId}{as:List AV}{hp:Heap}{r:ARes × Heap}(h:adefer F Γ Λ f as hp=some r):adefer F Δ Λ' f as hp=some r:=by
 unfold adefer at h ⊢
 split at h
 ·split at h
  ·split at h
   ·split at h
    ·cases h
    ·rename_i hc
     rw[if_neg hc]
     split at h
     ·rename_i h1;simp only[zax hO hL h1];exact h
     ·rename_i h1;simp only[zax hO hL h1];exact h
     ·cases h
   ·cases h
  ·cases h
 ·cases h
theorem zhb{F:FuncId->Option AFn}{prim:FuncId->Option zbf}{Γ Δ:Oracle}{Λ Λ':zan}(hO:OLe Γ Δ)(hL:LLe Λ Λ'):OLe (acall F prim Γ Λ) (acall F prim Δ Λ'):=by
 intro k f as hp r h
 cases k with
 |fn=>exact zfz hO hL h
 |rnd=>exact zkB hO hL h
 |dfr=>exact zkC hO hL h
 |seq=>
  simp only[acall] at h ⊢
  split at h
  ·rename_i hs;rw[if_pos hs];exact zfz hO hL h
  ·cases h

theorem zb6{F:FuncId->Option AFn}{prim:FuncId->Option zbf}:∀{n m:Nat},n<=m->OLe (asem F prim n) (asem F prim m)
 |0,_,_=>fun _ _ _ _ _ h=>by cases h
 |n+1,0,h=>by omega
 |n+1,m+1,h=>zhb (zb6 (by omega)) (za6 (zb6 (by omega)) (by omega))

noncomputable def sem(F:FuncId->Option AFn)(prim:FuncId->Option zbf):Oracle:=fun k f as hp=>
 open Classical in if h:∃n r,asem F prim n k f as hp=some r then some h.choose_spec.choose else none
noncomputable def sloop(F:FuncId->Option AFn)(prim:FuncId->Option zbf):zan:=fun b m keep c st=>
 open Classical in if h:∃n r,aloop (asem F prim n) n b m keep c st=some r then some h.choose_spec.choose else none

variable{F:FuncId->Option AFn} {prim:FuncId->Option zbf}
theorem sem_iff{k:Kind}{f:FuncId}{as:List AV}{hp:Heap}{r:ARes × Heap}:sem F prim k f as hp=some r↔∃n,asem F prim n k f as hp=some r:=by
 unfold sem
 constructor
 ·intro h
  split at h
  ·rename_i he
   cases h
   exact⟨_,he.choose_spec.choose_spec⟩
  ·cases h
 ·rintro⟨n,hn⟩
  have he:∃n r,asem F prim n k f as hp=some r:=⟨n,r,hn⟩
  rw[dif_pos he]
  have h1:=zb6 (Nat.le_max_left n he.choose) _ _ _ _ _ hn
  have h2:=zb6 (Nat.le_max_right n he.choose) _ _ _ _ _ he.choose_spec.choose_spec
  rw[h1] at h2
  exact h2.symm
theorem sloop_iff{b m:Nat}{keep:List Nat}{c:ACode}{st:St}{r:AExit × St}:sloop F prim b m keep c st=some r↔∃n,aloop (asem F prim n) n b m keep c st=some r:=by
 unfold sloop
 constructor
 ·intro h
  split at h
  ·rename_i he
   cases h
   exact⟨_,he.choose_spec.choose_spec⟩
  ·cases h
 ·rintro⟨n,hn⟩
  have he:∃n r,aloop (asem F prim n) n b m keep c st=some r:=⟨n,r,hn⟩
  rw[dif_pos he]
  have h1:=za6 (zb6 (F:=F) (prim:=prim) (Nat.le_max_left n he.choose)) (Nat.le_max_left n he.choose) _ _ _ _ _ _ hn
  have h2:=za6 (zb6 (F:=F) (prim:=prim) (Nat.le_max_right n he.choose)) (Nat.le_max_right n he.choose) _ _ _ _ _ _ he.choose_spec.choose_spec
  rw[h1] at h2
  exact h2.symm
theorem zkD{n:Nat}:OLe (asem F prim n) (sem F prim):=fun _ _ _ _ _ h=>sem_iff.2 ⟨n,h⟩
theorem zlF{n:Nat}:LLe (aloop (asem F prim n) n) (sloop F prim):=fun _ _ _ _ _ _ h=>sloop_iff.2 ⟨n,h⟩
abbrev up{n m:Nat}(h:n<=m):OLe (asem F prim n) (asem F prim m):=zb6 h
theorem upl{n m:Nat}(h:n<=m):LLe (aloop (asem F prim n) n) (aloop (asem F prim m) m):=za6 (zb6 h) h

theorem zff{vs:List AV}{hp:Heap}{r:OpRes}(h:zdr (sem F prim) hp vs=some r):∃n,zdr (asem F prim n) hp vs=some r:=by
 cases vs with
 |nil=>cases h
 |cons a as=>
  have gen:(match zbi a with
    |some (g,first,captured)=>match sem F prim .fn g (first++as++captured) hp with
     |some (.ret v,hp')=>some (OpRes.val v hp')
     |some (.panic v,hp')=>some (.panic v hp')
     |none=>none
    |none=>none)=some r->∃n,(match zbi a with
    |some (g,first,captured)=>match asem F prim n .fn g (first++as++captured) hp with
     |some (.ret v,hp')=>some (OpRes.val v hp')
     |some (.panic v,hp')=>some (.panic v hp')
     |none=>none
    |none=>none)=some r:=by
   intro h
   split at h
   ·split at h
    ·rename_i hg
     obtain⟨n,hn⟩:=sem_iff.1 hg
     exact⟨n,by simp only[hn];exact h⟩
    ·rename_i hg
     obtain⟨n,hn⟩:=sem_iff.1 hg
     exact⟨n,by simp only[hn];exact h⟩
    ·cases h
   ·cases h
  cases a with
  |yield q=>
   simp only[zdr] at h ⊢
   split at h
   ·split at h
    ·rename_i hg
     obtain⟨n,hn⟩:=sem_iff.1 hg
     exact⟨n,by simp only[hn];exact h⟩
    ·cases h
   ·cases h
  |_=>exact gen h
theorem zh4{b:Nat}{op:AOp}{vs:List AV}{hp:Heap}{r:OpRes}(h:aOp (sem F prim) b op vs hp=some r):∃n,aOp (asem F prim n) b op vs hp=some r:=by
 cases op
 case call=>exact zff h
 case calln n=>
  simp only[aOp,zgL] at h ⊢
  cases hc:zdr (sem F prim) hp (vs.drop n) with
  |none=>rw[hc] at h;cases h
  |some q=>
   rw[hc] at h
   obtain⟨k,hk⟩:=zff hc
   exact⟨k,by rw[hk];exact h⟩
 case callg=>
  simp only[aOp,zgM] at h ⊢
  cases hc:zdr (sem F prim) hp vs with
  |none=>rw[hc] at h;cases h
  |some q=>
   rw[hc] at h
   obtain⟨k,hk⟩:=zff hc
   exact⟨k,by rw[hk];exact h⟩
 case callp=>
  simp only[aOp,zek] at h ⊢
  split at h
  ·split at h
   ·rename_i ps he
    split at h
    ·rename_i v hp' hg
     obtain⟨n,hn⟩:=sem_iff.1 hg
     exact⟨n,by simp only[hn];exact h⟩
    ·cases h
   ·cases h
  ·cases h
 case callh=>
  simp only[aOp,zgK] at h ⊢
  split at h
  ·split at h
   ·split at h
    ·rename_i v hp' hg
     obtain⟨n,hn⟩:=sem_iff.1 hg
     exact⟨n,by simp only[hn];exact h⟩
    ·cases h
   ·cases h
  ·cases h
 all_goals exact⟨0,h⟩

theorem zdD{b:Nat}:∀{ops:List AOper} {fr:Fr} {hp:Heap} {r:AExit × Fr × Heap},aops (sem F prim) b ops fr hp=some r->∃n,aops (asem F prim n) b ops fr hp=some r
 |[],_,_,_,h=>⟨0,h⟩
 |o::rest,fr,hp,r,h=>by
  simp only[aops] at h ⊢
  split at h
  ·cases h
  ·exact zdD h
  ·split at h
   ·cases h
   ·split at h
    ·rename_i ho
     obtain⟨n,hn⟩:=zh4 ho
     obtain⟨m,hm⟩:=zdD h
     refine⟨max n m,?_⟩
     rw[zeF (up (Nat.le_max_left n m)) hn]
     exact zcy (up (Nat.le_max_right n m)) hm
    ·rename_i ho
     obtain⟨n,hn⟩:=zh4 ho
     exact⟨n,by rw[hn];exact h⟩
    ·cases h

theorem zgl{hp:Heap}{vs:List AV}{r:OpRes}(h:zbJ (sem F prim) hp vs=some r):∃n,zbJ (asem F prim n) hp vs=some r:=by
 unfold zbJ at h ⊢
 split at h
 ·split at h
  ·split at h
   ·rename_i hg
    obtain⟨n,hn⟩:=sem_iff.1 hg
    exact⟨n,by simp only[hn];exact h⟩
   ·rename_i hg
    obtain⟨n,hn⟩:=sem_iff.1 hg
    exact⟨n,by simp only[hn];exact h⟩
   ·cases h
  ·cases h
 ·cases h
theorem zcS{b:Nat}:∀{l:List (AOper × Option (List AOper))} {fr:Fr} {hp:Heap} {r:AExit × Fr × Heap},zcs (sem F prim) b l fr hp=some r->∃n,zcs (asem F prim n) b l fr hp=some r
 |[],_,_,_,h=>⟨0,h⟩
 |(o,none)::rest,fr,hp,r,h=>by
  simp only[zcs] at h ⊢
  split at h
  ·cases h
  ·exact zcS h
  ·split at h
   ·cases h
   ·split at h
    ·rename_i ho
     obtain⟨n,hn⟩:=zh4 ho
     obtain⟨m,hm⟩:=zcS h
     refine⟨max n m,?_⟩
     rw[zeF (up (Nat.le_max_left n m)) hn]
     exact zbV (up (Nat.le_max_right n m)) hm
    ·cases h
 |(o,some later)::rest,fr,hp,r,h=>by
  simp only[zcs] at h ⊢
  split at h
  ·cases h
  ·split at h
   ·rename_i ho
    obtain⟨n,hn⟩:=zgl ho
    obtain⟨m,hm⟩:=zcS h
    refine⟨max n m,?_⟩
    simp only[zdf (up (Nat.le_max_left n m)) hn]
    exact zbV (up (Nat.le_max_right n m)) hm
   ·rename_i ho
    obtain⟨n,hn⟩:=zgl ho
    split at h
    ·rename_i hl
     obtain⟨m,hm⟩:=zdD hl
     refine⟨max n m,?_⟩
     simp only[zdf (up (Nat.le_max_left n m)) hn,zcy (up (Nat.le_max_right n m)) hm]
     exact h
    ·cases h
   ·cases h

theorem zaX{b:Nat}:∀{c:ACode} {st:St} {r:AExit × St},aexec (sem F prim) (sloop F prim) b c st=some r->∃n,aexec (asem F prim n) (aloop (asem F prim n) n) b c st=some r:=by
 intro c
 induction c with
 |skip=>intro st r h;exact⟨0,h⟩
 |settle l=>intro st r h;exact⟨0,h⟩
 |doom l keep=>
  intro st r h
  simp only[aexec] at h ⊢
  split at h
  ·rename_i ho
   obtain⟨n,hn⟩:=zcS ho
   exact⟨n,by rw[hn];exact h⟩
  ·rename_i ho
   obtain⟨n,hn⟩:=zcS ho
   exact⟨n,by rw[hn];exact h⟩
  ·cases h
 |region pan ops keep=>
  intro st r h
  simp only[aexec] at h ⊢
  split at h
  ·rename_i ho
   obtain⟨n,hn⟩:=zdD ho
   exact⟨n,by rw[hn];exact h⟩
  ·rename_i ho
   obtain⟨n,hn⟩:=zdD ho
   exact⟨n,by rw[hn];exact h⟩
  ·cases h
 |seq x y ihx ihy=>
  intro st r h
  simp only[aexec] at h ⊢
  split at h
  ·rename_i ho
   obtain⟨n,hn⟩:=ihx ho
   obtain⟨m,hm⟩:=ihy h
   refine⟨max n m,?_⟩
   rw[zax (up (Nat.le_max_left n m)) (upl (Nat.le_max_left n m)) hn]
   exact zax (up (Nat.le_max_right n m)) (upl (Nat.le_max_right n m)) hm
  ·rename_i hn
   obtain⟨n,h1⟩:=ihx h
   refine⟨n,?_⟩
   rw[h1]
   split
   ·rename_i e;cases e;exact(hn _ h).elim
   ·rfl
 |cond c x y ihx ihy=>
  intro st r h
  simp only[aexec] at h ⊢
  split at h
  ·exact ihx h
  ·exact ihy h
  ·cases h
 |block id c ih=>
  intro st r h
  simp only[aexec] at h ⊢
  split at h
  ·rename_i ho
   obtain⟨n,hn⟩:=ih ho
   exact⟨n,by rw[hn];exact h⟩
  ·rename_i hn
   obtain⟨n,h1⟩:=ih h
   refine⟨n,?_⟩
   rw[h1]
   split
   ·rename_i e;cases e;exact(hn _ _ h).elim
   ·rfl
 |loop keep c ih=>intro st r h;exact sloop_iff.1 h
 |exit id=>intro st r h;exact⟨0,h⟩
 |ret=>intro st r h;exact⟨0,h⟩

theorem zoz{op:ATop}{st:St}{ds:List AV}{r:AExit × St × List AV}(h:atop (sem F prim) op st ds=some r):∃n,atop (asem F prim n) op st ds=some r:=by
 cases op with
 |dfr s=>exact⟨0,h⟩
 |range self f ps env=>
  simp only[atop] at h ⊢
  split at h
  ·cases h
  ·split at h
   ·split at h
    ·rename_i hg
     obtain⟨n,hn⟩:=sem_iff.1 hg
     exact⟨n,by simp only[hn];exact h⟩
    ·cases h
   ·cases h
theorem zfA{b:Nat}:∀{l:List (ATop × ACode)} {c:ACode} {st:St} {ds:List AV} {r:AExit × St × List AV},apieces (sem F prim) (sloop F prim) b l c st ds=some r->∃n,apieces (asem F prim n) (aloop (asem F prim n) n) b l c st ds=some r
 |[],c,st,ds,r,h=>by
  simp only[apieces] at h ⊢
  split at h
  ·rename_i ho
   obtain⟨n,hn⟩:=zaX ho
   exact⟨n,by rw[hn];exact h⟩
  ·cases h
 |(op,c2)::l,c,st,ds,r,h=>by
  simp only[apieces] at h ⊢
  split at h
  ·rename_i ho
   obtain⟨n,hn⟩:=zaX ho
   split at h
   ·rename_i ha
    obtain⟨m,hm⟩:=zoz ha
    obtain⟨k,hk⟩:=zfA h
    refine⟨max n (max m k),?_⟩
    rw[zax (up (by omega:n<=max n (max m k))) (upl (by omega)) hn]
    simp only[zjr (up (by omega:m<=max n (max m k))) hm]
    exact zcI (up (by omega:k<=max n (max m k))) (upl (by omega)) hk
   ·cases h
  ·rename_i e st1 hne ho
   obtain⟨n,hn⟩:=zaX ho
   refine⟨n,?_⟩
   rw[hn]
   cases e with
   |normal=>exact(hne rfl).elim
   |_=>exact h
  ·cases h
theorem zb7:∀{ds:List AV} {p:Option PV} {hp:Heap} {r:Option PV × Heap},aunwind (sem F prim) ds p hp=some r->∃n,aunwind (asem F prim n) ds p hp=some r
 |[],p,hp,r,h=>⟨0,h⟩
 |c::ds,p,hp,r,h=>by
  simp only[aunwind] at h ⊢
  split at h
  ·split at h
   ·rename_i hg
    obtain⟨n,hn⟩:=sem_iff.1 hg
    obtain⟨m,hm⟩:=zb7 h
    refine⟨max n m,?_⟩
    simp only[up (F:=F) (prim:=prim) (Nat.le_max_left n m) _ _ _ _ _ hn]
    exact zbG (up (Nat.le_max_right n m)) hm
   ·cases h
  ·cases h
theorem zkE{fn:AFn}{q:AExit × St × List AV}{r:ARes × Heap}(h:aleave (sem F prim) fn (some q)=some r):∃n,aleave (asem F prim n) fn (some q)=some r:=by
 obtain⟨e,st,ds⟩:=q
 cases e with
 |exit i=>cases h
 |normal=>
  simp only[aleave] at h ⊢
  split at h
  ·rename_i hu
   obtain⟨n,hn⟩:=zb7 hu
   exact⟨n,by simp only[hn];exact h⟩
  ·cases h
 |ret=>
  simp only[aleave] at h ⊢
  split at h
  ·rename_i hu
   obtain⟨n,hn⟩:=zb7 hu
   exact⟨n,by simp only[hn];exact h⟩
  ·cases h
 |panic v=>
  simp only[aleave] at h ⊢
  split at h
  ·rename_i hu
   obtain⟨n,hn⟩:=zb7 hu
   exact⟨n,by simp only[hn];exact h⟩
  ·rename_i hu
   obtain⟨n,hn⟩:=zb7 hu
   exact⟨n,by simp only[hn];exact h⟩
  ·cases h
theorem zdW{fn:AFn}{args:List AV}{hp:Heap}{r:ARes × Heap}(h:abody (sem F prim) (sloop F prim) fn args hp=some r):∃n,abody (asem F prim n) (aloop (asem F prim n) n) fn args hp=some r:=by
 unfold abody at h ⊢
 split at h
 ·cases h
 ·rename_i hn
  simp only[if_neg hn]
  cases hmore:fn.more with
  |nil=>
   simp only[hmore] at h ⊢
   split at h
   ·rename_i ho
    obtain⟨n,hn⟩:=zaX ho
    exact⟨n,by rw[hn];exact h⟩
   ·rename_i ho
    obtain⟨n,hn⟩:=zaX ho
    exact⟨n,by rw[hn];exact h⟩
   ·rename_i ho
    obtain⟨n,hn⟩:=zaX ho
    exact⟨n,by rw[hn];exact h⟩
   ·cases h
  |cons x l=>
   simp only[hmore] at h ⊢
   cases hq:apieces (sem F prim) (sloop F prim) hp.length (x::l) fn.code ⟨params 0 args,hp⟩ [] with
   |none=>rw[hq] at h;cases h
   |some q=>
    rw[hq] at h
    obtain⟨n,hn⟩:=zfA hq
    obtain⟨m,hm⟩:=zkE h
    refine⟨max n m,?_⟩
    rw[zcI (up (Nat.le_max_left n m)) (upl (Nat.le_max_left n m)) hn]
    exact zgk (up (Nat.le_max_right n m)) hm

theorem zfB{f:FuncId}{as:List AV}{hp:Heap}{r:ARes × Heap}(h:zba F prim (sem F prim) (sloop F prim) f as hp=some r):∃n,zba F prim (asem F prim n) (aloop (asem F prim n) n) f as hp=some r:=by
 unfold zba at h ⊢
 split at h
 ·exact⟨0,h⟩
 ·split at h
  ·cases h
  ·rename_i fn _
   by_cases hr:fn.rcv.isSome=true
   ·rw[if_pos hr] at h;cases h
   simp only[if_neg hr] at h ⊢
   by_cases hm:fn.heapMode=true
   ·simp only[hm,if_true] at h ⊢
    split at h
    ·rename_i ho
     obtain⟨n,hn⟩:=zdW ho
     exact⟨n,by rw[hn];exact h⟩
    ·rename_i ho
     obtain⟨n,hn⟩:=zdW ho
     exact⟨n,by rw[hn];exact h⟩
    ·cases h
   ·simp only[if_neg hm] at h ⊢
    split at h
    ·cases h
    ·split at h
     ·rename_i ho
      obtain⟨n,hn⟩:=zdW ho
      exact⟨n,by rw[hn];exact h⟩
     ·rename_i ho
      obtain⟨n,hn⟩:=zdW ho
      exact⟨n,by rw[hn];exact h⟩
     ·cases h
theorem zkF{f:FuncId}{as:List AV}{hp:Heap}{r:ARes × Heap}(h:around F (sem F prim) (sloop F prim) f as hp=some r):∃n,around F (asem F prim n) (aloop (asem F prim n) n) f as hp=some r:=by
 unfold around at h ⊢
 split at h
 ·split at h
  ·split at h
   ·rename_i hc
    simp only[if_pos hc]
    split at h
    ·split at h
     ·split at h
      ·rename_i h1
       obtain⟨n,hn⟩:=zaX h1
       split at h
       ·split at h
        ·rename_i h2
         obtain⟨m,hm⟩:=zaX h2
         refine⟨max n m,?_⟩
         simp only[zax (up (Nat.le_max_left n m)) (upl (Nat.le_max_left n m)) hn,zax (up (Nat.le_max_right n m)) (upl (Nat.le_max_right n m)) hm]
         rename_i hlf _ _
         first|exact h|(simp only[hlf];exact h)
        ·cases h
       ·cases h
      ·cases h
     ·cases h
    ·cases h
   ·cases h
  ·cases h
 ·cases h
theorem zkG{f:FuncId}{as:List AV}{hp:Heap}{r:ARes × Heap}(h:adefer F (sem F prim) (sloop F prim) f as hp=some r):∃n,adefer F (asem F prim n) (aloop (asem F prim n) n) f as hp=some r:=by
 unfold adefer at h ⊢
 split at h
 ·split at h
  ·split at h
   ·split at h
    ·cases h
    ·rename_i hc
     simp only[if_neg hc]
     split at h
     ·rename_i h1
      obtain⟨n,hn⟩:=zaX h1
      exact⟨n,by simp only[hn];exact h⟩
     ·rename_i h1
      obtain⟨n,hn⟩:=zaX h1
      exact⟨n,by simp only[hn];exact h⟩
     ·cases h
   ·cases h
  ·cases h
 ·cases h
theorem zmK{k:Kind}{f:FuncId}{as:List AV}{hp:Heap}{r:ARes × Heap}(h:acall F prim (sem F prim) (sloop F prim) k f as hp=some r):∃n,acall F prim (asem F prim n) (aloop (asem F prim n) n) k f as hp=some r:=by
 cases k with
 |fn=>exact zfB h
 |rnd=>exact zkF h
 |dfr=>exact zkG h
 |seq=>
  simp only[acall] at h ⊢
  split at h
  ·rename_i hs
   simp only[if_pos hs]
   exact zfB h
  ·cases h

theorem zoA(k:Kind)(f:FuncId)(as:List AV)(hp:Heap):sem F prim k f as hp=acall F prim (sem F prim) (sloop F prim) k f as hp:=by
 have to:∀r,sem F prim k f as hp=some r↔acall F prim (sem F prim) (sloop F prim) k f as hp=some r:=fun r=>by
  constructor
  ·intro h
   obtain⟨n,hn⟩:=sem_iff.1 h
   cases n with
   |zero=>cases hn
   |succ n=>exact zhb zkD zlF _ _ _ _ _ hn
  ·intro h
   obtain⟨n,hn⟩:=zmK h
   exact sem_iff.2 ⟨n+1,hn⟩
 exact Option.ext fun r=>to r

theorem zgm(f:FuncId)(as:List AV)(hp:Heap):sem F prim .fn f as hp=zba F prim (sem F prim) (sloop F prim) f as hp:=zoA .fn f as hp
theorem zsl(f:FuncId)(as:List AV)(hp:Heap):sem F prim .dfr f as hp=adefer F (sem F prim) (sloop F prim) f as hp:=zoA .dfr f as hp

theorem zqA(b m:Nat)(keep:List Nat)(c:ACode)(st:St):sloop F prim b m keep c st=match aexec (sem F prim) (sloop F prim) b c st with
  |some (.normal,st')=>sloop F prim b m keep c ⟨st'.fr.keep keep,collect m b (st'.fr.keep keep) st'.hp⟩
  |r=>r:=by
 have to:∀r,sloop F prim b m keep c st=some r↔(match aexec (sem F prim) (sloop F prim) b c st with
  |some (.normal,st')=>sloop F prim b m keep c ⟨st'.fr.keep keep,collect m b (st'.fr.keep keep) st'.hp⟩
  |r=>r)=some r:=fun r=>by
  constructor
  ·intro h
   obtain⟨n,hn⟩:=sloop_iff.1 h
   cases n with
   |zero=>cases hn
   |succ n=>
    simp only[aloop] at hn
    have hle:LLe (aloop (asem F prim (n+1)) n) (sloop F prim):=(za6 (OLe.refl _) (by omega:n<=n+1)).trans zlF
    split at hn
    ·rename_i ho
     rw[zax zkD hle ho]
     exact hle _ _ _ _ _ _ hn
    ·rename_i hne
     rw[zax zkD hle hn]
     split
     ·rename_i e;cases e;exact(hne _ hn).elim
     ·rfl
  ·intro h
   split at h
   ·rename_i ho
    obtain⟨n,hn⟩:=zaX ho
    obtain⟨k,hk⟩:=sloop_iff.1 h
    refine sloop_iff.2 ⟨max n k+1,?_⟩
    simp only[aloop]
    rw[zax (up (by omega:n<=max n k+1)) (za6 (up (by omega)) (by omega)) hn]
    exact za6 (up (by omega:k<=max n k+1)) (by omega) _ _ _ _ _ _ hk
   ·rename_i hne
    obtain⟨n,hn⟩:=zaX h
    refine sloop_iff.2 ⟨n+1,?_⟩
    simp only[aloop]
    rw[zax (up (by omega:n<=n+1)) (za6 (up (by omega)) (by omega)) hn]
    split
    ·rename_i e;cases e;exact(hne _ h).elim
    ·rfl
 exact Option.ext fun r=>to r

theorem zoB{P:Program}(hmix:P.follows .mixedOrders=true)(hF:zky P F)(hP:zfx P prim):SoundO P (sem F prim) where
 fn f as hp r hp' h:=by
  obtain⟨n,hn⟩:=sem_iff.1 h
  exact(zcn hmix hF hP n).fn f as hp r hp' hn
 seq f as hp r hp' h:=by
  obtain⟨n,hn⟩:=sem_iff.1 h
  exact(zcn hmix hF hP n).seq f as hp r hp' hn
 rnd f q as hp v hp' ps env h:=by
  obtain⟨n,hn⟩:=sem_iff.1 h
  exact(zcn hmix hF hP n).rnd f q as hp v hp' ps env hn
 dfr g p as hp r hp' h:=by
  obtain⟨n,hn⟩:=sem_iff.1 h
  exact(zcn hmix hF hP n).dfr g p as hp r hp' hn
end Go.Am

/- A table of functions. -/
namespace Go.Am
def zoC(P:Program)(tab:List (Nat × AFn)):Prop:=∀x∈tab,∃fnc,P.funcs[x.1]? =some fnc/\trFn P x.2.heapMode x.1 fnc=some x.2
theorem zoD{P:Program}:zoC P []:=fun x h=>by simp at h
theorem zag{P:Program}{f:Nat}{g:AFn}{fnc:Func}{r:List (Nat × AFn)}(h:P.funcs[f]? =some fnc)(t:trFn P g.heapMode f fnc=some g)(k:zoC P r):zoC P ((f,g)::r):=by
 intro x hx
 simp only[List.mem_cons] at hx
 rcases hx with rfl|hx
 ·exact⟨fnc,h,t⟩
 ·exact k x hx
def find:List (Nat × AFn)->FuncId->Option AFn
 |[],_=>none
 |(k,g)::r,f=>bif Nat.beq k f then some g else find r f
theorem zlG:∀{tab:List (Nat × AFn)} {f:FuncId} {g:AFn},find tab f=some g->(f,g)∈tab
 |[],_,_,h=>by cases h
 |(k,x)::r,f,g,h=>by
  simp only[find] at h
  cases hk:Nat.beq k f with
  |true=>
   rw[hk] at h
   cases h
   simp[Nat.eq_of_beq_eq_true hk]
  |false=>
   rw[hk] at h
   exact List.mem_cons_of_mem _ (zlG h)
theorem zqB{P:Program}{tab:List (Nat × AFn)}(h:zoC P tab):zky P (find tab):=fun f fn hf=>h (f,fn) (zlG hf)
end Go.Am

/- Contracts by hand: what the library has no body for. -/
namespace Go.Am
variable{P:Program}

def zjs(P:Program)(f:FuncId)(p:zbf):Prop:=
 ∀args hp r hp',p f args hp=some (r,hp')->∀(w:World) (X:Xc P) (μ:Nat->Option Nat) (vs:List Value),HR w X μ hp->LR w X μ hp args vs->Called P f vs.toArray w (zbl hp.length w X μ hp r hp')

theorem zmL:zfx P (fun _=>none):=fun f p h=>by cases h
theorem zgn{prim:FuncId->Option zbf}{f:FuncId}{p:zbf}(h:zjs P f p)(k:zfx P prim):zfx P (fun g=>bif Nat.beq f g then some p else prim g):=by
 intro g q hq
 cases hk:Nat.beq f g with
 |true=>
  simp only[hk,cond_true] at hq
  cases hq
  have:=Nat.eq_of_beq_eq_true hk
  subst this
  exact h
 |false=>
  simp only[hk,cond_false] at hq
  exact k g q hq
end Go.Am

/- From a run of the abstract machine to what a law's row wants. -/
namespace Go.Am
open Go.ChangeShapes Go.WideShapes Go.ChangeAt Go.RowKit
variable{P:Program} {H:Type} {enc:TypeId × Value->H}

theorem zjt{f:FuncId}{fn:Func}{c:Code}{args:Array Value}{w:World}{R:Ending->World->Prop}(hf:P.funcs[f]? =some fn)(hb:fn.body=some c)(hn:fn.name≠ "runtime.NumGoroutine")
  (h:Called P f args w R):Calls P f args w R:=by
 rcases h with⟨_,h⟩|⟨v,w',h,_⟩
 ·exact h
 ·rw[zbF hf hb hn] at h;cases h

abbrev noX:Xc P:=⟨fun _=>False⟩
abbrev noμ:Nat->Option Nat:=fun _=>none

theorem zqC(w:World):HR w (noX (P:=P)) noμ []:=
 ⟨fun i _ _ hi=>by simp at hi,fun i _ hi=>by simp at hi,fun b hb=>hb.elim,fun i sh v h=>by simp at h,fun i sh es fz h=>by simp at h,fun i sh es h=>by simp at h,fun i f ps env bz h=>by simp at h,fun i sh es h=>by simp at h⟩

theorem zoE{b0:Nat}{X:Xc P}{μ μ':Nat->Option Nat}{hp':Heap}{w w':World}(h:Ext b0 X μ [] w μ' hp' w'):Below w.heap.size w w':=
 ⟨h.os,h.tape,h.output,h.size,fun k hk=>h.blk k hk fun i hi=>by simp[live] at hi⟩

theorem zmM{w w':World}(h:Below w.heap.size w w')(may:MemPlace->Prop):w.keptBut w' may:=by
 refine⟨h.os,h.output,fun i hi=> ?_⟩
 rw[h.block i hi]
 cases w.heap[i]? with
 |none=>trivial
 |some o=>cases o <;> simp

theorem zeG(hl:laidOutB P=true){W W':World}(hb:Below W.heap.size W W'):∀{ts:List TypeId} {vs:List Value} {ds:List (DataW H)} {p:List MemPlace},
  (∀t∈ts,P.readableRec t=true/\t<P.types.size)->(∀x∈p,x.block<W.heap.size)->DataW.TrodAll enc P W 0 (fun _=>true) true ts vs ds p->DataW.TrodAll enc P W' 0 (fun b=>decide (b<W.heap.size)) true ts vs ds p
 |[],_,_,_,_,_,h=>by
  obtain⟨rfl,rfl,rfl⟩:=trodAll_nil h
  exact trodAll_mk0
 |t::ts,_,_,_,ht,hp,h=>by
  obtain⟨v,vs,d,ds,a,b,rfl,rfl,rfl,h1,h2⟩:=trodAll_cons h
  obtain⟨k1,k2⟩:=ht t (by simp)
  exact⟨a,b,Below.trod hl k1 k2 h1 hb fun x hx=>hp x (by simp[hx]),zeG hl hb (fun t h=>ht t (by simp[h])) (fun x hx=>hp x (by simp[hx])) h2,rfl⟩

def zqD(P:Program)(fn:Func):Bool:=fn.params.toList.all fun t=>P.readableRec t && decide (t<P.types.size)
def zoF(P:Program)(fn:Func):Bool:=
 match fn.resultTypes.toList with
 |[t]=>zht P t
 |_=>false
def zs0(P:Program)(fn:Func):Bool:=zqD P fn && zoF P fn && fn.body.isSome && !(fn.name == "runtime.NumGoroutine")

theorem zju{Γ:Oracle}(hΓ:SoundO P Γ){f:FuncId}{fn:Func}(hf:P.funcs[f]? =some fn)(hfn:zs0 P fn=true)(hl:laidOutB P=true){s:ChangeSpec}(hv:s.vars=[])
  {W:World}{args:Array Value}{ds gs:List (DataW H)}{before:List MemPlace}(hs:s.fn H (ds++gs)={ results:=[.lit (.bool true)],args:=ds })
  (hW:DataW.Whole enc P fn.params.toList s.vars false W args.toList ds gs before)
  {avs:List AV}(hL:LR W (noX (P:=P)) noμ [] avs args.toList)(h:Γ .fn f avs []=some (.ret (.pv none (.bool true)),[])):
  Calls P f args W fun e W'=>∃v,e=.returned v/\s.post enc P fn false true false false W args v W':=by
 simp only[zs0,Bool.and_eq_true,Bool.not_eq_true',beq_eq_false_iff_ne,Option.isSome_iff_exists] at hfn
 obtain⟨⟨⟨hp,hbr⟩,c,hb⟩,hn⟩:=hfn
 obtain⟨tb,hr,htb⟩:∃tb,fn.resultTypes= #[tb]/\P.underlying tb=some .bool:=by
  unfold zoF at hbr
  split at hbr
  ·rename_i t ht
   exact⟨t,Array.toList_inj.1 ht,zgP hbr⟩
  ·cases hbr
 have k:=hΓ.fn f avs [] _ _ h W noX noμ args.toList (zqC W) hL
 refine(zjt hf hb hn k).mono fun e W' he=> ?_
 cases e with
 |returned u=>
  obtain⟨μ',v,e1,_,hE,hA⟩:=he
  cases e1
  cases hA with|pv _ _ _ _ hA=>
  cases hA
  have hB:=zoE hE
  refine⟨_,rfl,ds,gs,before,[],before,[],hW,?_,?_,?_,zmM hB _,fun h=>by cases h⟩
  ·rw[hs,hr]
   simp only[Value.resultList]
   exact trodAll_mk1 (shut_bool htb true)
  ·rw[hs]
   have hlt:=hW.lt
   obtain⟨p,q,k1,k2,k3,_,_⟩:=hW
   rw[hv] at k2
   obtain⟨_,rfl⟩:=trodVars_none k2
   rw[List.append_nil] at k3
   subst k3
   refine zeG hl hB (fun t ht=> ?_) hlt k1
   have:=List.all_eq_true.1 hp t ht
   simp only[Bool.and_eq_true,decide_eq_true_eq] at this
   exact this
  ·rw[hs,hv]
   rfl
 |panicked ch=>obtain⟨_,_,_,e1,_⟩:=he;cases e1
 |outgrown=>exact he.elim
end Go.Am

/- The contract of slices.Insert, out of its three roads. -/
namespace Go.Am
variable{P:Program}
def zdg(sh:Sh):zbf:=fun _ args hp=>match args with
 |[s,.pv _ (.int .i64 i),.tsl shx new]=>
  if shx=sh/\new≠[] then match s with
   | .sl s1 r ver off len=>
    if i=(len:Int) then(if len<=lim then match zbe sh hp [.sl s1 r ver off len,.tsl shx new] with
     |some (v,hp')=>some (.ret v,hp')
     |none=>none else none)
    else match hp[r]? with
     |some (.arr s' es false)=>if s1=sh/\s'=sh/\ver=es.length/\off=0/\len=es.length/\0<=i/\i<len/\len+new.length<=lim then
       some (.ret (.sl sh r (len+new.length) 0 (len+new.length)),hp.set r (.arr sh (es.take i.toNat++new++es.drop i.toNat) false)) else none
     |_=>none
   | .tsl s1 es=>if i=(es.length:Int)/\es.length<=lim then match zbe sh hp [.tsl s1 es,.tsl shx new] with
     |some (v,hp')=>some (.ret v,hp')
     |none=>none
    else none
   |_=>none
  else none
 |_=>none

structure InsRoads(P:Program)(f:FuncId)(t e:TypeId)(k:Nat):Prop where
 endr:∀(base:Option Addr) (n c vb voff m vc:Nat) (w w':World) (v':Value),0<m->n<=c->n<=lim->(Builtin.append_ #[t,t] t #[.slice base n c,.slice (some ⟨vb,voff,none⟩) m vc]).run P w=.ok v' w'->
  Calls P f #[.slice base n c,.int .i64 n,.slice (some ⟨vb,voff,none⟩) m vc] w fun E W=>E=.returned v'/\W=w'
 shift:∀(b n c i vb voff m vc:Nat) (cur:Array Value) (t0:TypeId) (vs:List Value) (w:World),i<n->0<m->n+m<=c->n+m<=lim->vb≠b->w.heap[b]? =some (.cells cur t0 (0,0))->cur.size=c*k->vs.length=m*k->
  (∀v∈(cur.toList.drop (i*k)).take ((n - i)*k),v.oneCell'=true)->(∀j v,vs[j]? =some v->w.cell? ⟨vb,voff+j,none⟩=some v)->(∀v∈vs,v.oneCell'=true)->∀(tA:TypeId) (kA:Nat),w.shape? vb=some (tA,kA)->kA≠0->
  ∃cur2:Array Value,cur2.toList=cur.toList.take (i*k)++vs++(cur.toList.drop (i*k)).take ((n - i)*k)++cur.toList.drop ((n+m)*k)/\
  Calls P f #[.slice (some ⟨b,0,none⟩) n c,.int .i64 i,.slice (some ⟨vb,voff,none⟩) m vc] w fun E w'=>E=.returned (.slice (some ⟨b,0,none⟩) (n+m) c)/\∃cur1,w'=(w.drew.setRow b cur1).setRow b cur2
 grow:∀(b n c i vb voff m vc:Nat) (cur:Array Value) (t0:TypeId) (vs:List Value) (w:World),i<n->0<m->n<=c->c<n+m->n+m<=lim->vb<w.heap.size->w.heap[b]? =some (.cells cur t0 (0,0))->cur.size=c*k->vs.length=m*k->
  (∀v∈(cur.toList.drop (i*k)).take ((n - i)*k),v.oneCell'=true)->(∀j v,vs[j]? =some v->w.cell? ⟨vb,voff+j,none⟩=some v)->(∀v∈vs,v.oneCell'=true)->
  ∃(row:Array Value) (G:Nat),n+m<=G/\row.size=G*k/\row.toList.take ((n+m)*k)=cur.toList.take (i*k)++vs++(cur.toList.drop (i*k)).take ((n - i)*k)/\
  Calls P f #[.slice (some ⟨b,0,none⟩) n c,.int .i64 i,.slice (some ⟨vb,voff,none⟩) m vc] w fun E w'=>
   E=.returned (.slice (some ⟨w.heap.size,0,none⟩) (n+m) G)/\w'.heap[w.heap.size]? =some (.cells row e (0,0))/\w'.heap.size=w.heap.size+1/\(∀x,x<w.heap.size->w'.heap[x]? =w.heap[x]?)/\w'.os=w.os/\w'.tape=w.tape/\w'.output=w.output

theorem zhc{b:Nat}{t e:TypeId}{x y:Value}{s q v:AV}{hp hp':Heap}{w:World}{X:Xc P}{μ:Nat->Option Nat}(ht:P.underlying t=some (.slice e))(hok:okT P e=true)(hz:zaS P e=true)(hby:za1 P e=true)(hH:HR w X μ hp)
  (h1:AR w X μ hp s x)(h2:AR w X μ hp q y)(h:zbe (shOf P e) hp [s,q]=some (v,hp')):
  ∃v' w' μ',(Builtin.append_ #[t,t] t #[x,y]).run P w=.ok v' w'/\AR w' X μ' hp' v v'/\HR w' X μ' hp'/\Ext b X μ hp w μ' hp' w':=by
 obtain⟨n,v',w',μ',hr,hn,k1,k2,k3⟩:=zfr (b:=b) (ty:=t) ht hok hz hby hH (.cons h1 (.cons h2 .nil)) h
 simp only[Sem.run_bind] at hr
 cases hq:(Builtin.append_ #[t,t] t #[x,y]).run P w with
 |ok u w2=>
  rw[hq] at hr
  simp only[Result.andThen_ok,Sem.run_pure] at hr
  cases hr
  rcases hn with hn|⟨hn,_⟩
  ·cases hn
   exact⟨_,_,_,rfl,k1,k2,k3⟩
  ·cases hn
 |_=>rw[hq] at hr;simp at hr
theorem zdh(W:World)(x:Nat)(r:Array Value):(W.setRow x r).heap.size=W.heap.size:=by simp[World.setRow]
theorem zlH{w w':World}{X:Xc P}{μ:Nat->Option Nat}{hp:Heap}{sh:Sh}{rr b nb i G:Nat}{es new:List PV}{vals nvals:List Value}{cs row:Array Value}{t0 t1:TypeId}
  (hH:HR w X μ hp)(ho:hp[rr]? =some (.arr sh es false))(hpos:0<sh.size)(hE:ER w (Im X μ hp) sh es vals)(hN:ER w (Im X μ hp) sh new nvals)(hmu:μ rr=some b)(hb:w.heap[b]? =some (.cells cs t0 (0,0)))
  (hcells:cellsOf vals=cs.toList.take (es.length*sh.size))(hi:i<=es.length)(hm:0<new.length)(hnb:nb=b\/nb=w.heap.size)(hrow:w'.heap[nb]? =some (.cells row t1 (0,0)))
  (hoth:∀x,x<w.heap.size->x≠nb->w'.heap[x]? =w.heap[x]?)(hsz:w.heap.size<=w'.heap.size)(hos:w'.os=w.os)(htp:w'.tape=w.tape)(hout:w'.output=w.output)
  (hsame:nb=b->row.size=cs.size/\t1=t0)(hrs:row.size=G*sh.size)(hG:es.length+new.length<=G)
  (htk:row.toList.take ((es.length+new.length)*sh.size)=cs.toList.take (i*sh.size)++cellsOf nvals++(cs.toList.drop (i*sh.size)).take ((es.length - i)*sh.size)):
  zbl hp.length w X μ hp (.ret (.sl sh rr (es.length+new.length) 0 (es.length+new.length))) (hp.set rr (.arr sh (es.take i++new++es.drop i) false)) (.returned (.slice (some ⟨nb,0,none⟩) (es.length+new.length) G)) w':=by
 have hrl:=(List.getElem?_eq_some_iff.1 ho).1
 have hbN:=zaz hb
 have hel:(es.take i++new++es.drop i).length=es.length+new.length:=by simp;omega
 have hnbl:=zaz hrow
 have E:∀b0,Ext b0 X μ hp w (upd μ rr (some nb)) (hp.set rr (.arr sh (es.take i++new++es.drop i) false)) w':=fun b0=>
  Ext.setArr ho (by rw[hel];omega) (fun h=>by cases h) (fun h=>by rw[hel] at h;omega) (fun k hk=>by
   cases hk
   rcases hnb with h|h
   ·exact .inl (by rw[h];exact hmu)
   ·exact .inr (by omega)) hos htp hout hsz (fun k hk hne=>hoth k hk (fun e=>by
    rcases hnb with h|h
    ·exact hne rfl (by rw[e,h];exact hmu)
    ·omega)) (fun k cs' t fr hk=>by
    by_cases e:k=nb
    ·rcases hnb with h|h
     ·obtain⟨h1,h2⟩:=hsame h
      have:k=b:=e.trans h
      subst this
      rw[hb] at hk
      cases hk
      exact⟨row,by rw[e,hrow,h2],h1⟩
     ·have:=zaz hk
      omega
    ·exact⟨cs',by rw[hoth k (zaz hk) e];exact hk,rfl⟩)
 have hER:=((hE.take i).append hN).append (hE.drop i)
 have H:=hH.setArr ho (E 0) (fun k hk hne=>hoth k hk (fun e=>by
   rcases hnb with h|h
   ·exact hne (by rw[e,h];exact hmu)
   ·omega)) (fun k hk=>by
   cases hk
   refine⟨?_,hnbl⟩
   rcases hnb with h|h
   ·exact .inl (by rw[h];exact hmu)
   ·exact .inr (by omega)) (.inr ⟨nb,row,t1,vals.take i++nvals++vals.drop i,rfl,hrow,hER.1,(ER.ext (E 0) hER).2,?_⟩)
 ·refine⟨_,_,rfl,H,E _,?_⟩
  refine .sl _ _ _ _ _ _ _ (es.take i++new++es.drop i) false (List.getElem?_set_self hrl) (by omega) ⟨hG,by omega⟩ (fun _=>rfl) fun _=>⟨by omega,.inr ⟨nb,row,t1,zam _ _ _,hrow,by rw[Nat.zero_add];exact hrs.symm,fun _=>by simp⟩⟩
 ·rw[hel,htk,zas,zas,hE.cells_take i hi,hE.cells_drop i hi,hcells]
  have e1:(cs.toList.take (es.length*sh.size)).take (i*sh.size)=cs.toList.take (i*sh.size):=by
   rw[List.take_take]
   congr 1
   exact Nat.min_eq_left (Nat.mul_le_mul hi (Nat.le_refl _))
  have e2:(cs.toList.take (es.length*sh.size)).drop (i*sh.size)=(cs.toList.drop (i*sh.size)).take ((es.length - i)*sh.size):=by
   rw[List.drop_take,Nat.sub_mul]
  rw[e1,e2]
theorem zmN{f:FuncId}{fn:Func}{c:Code}{t e:TypeId}(R:InsRoads P f t e (shOf P e).size)(hf:P.funcs[f]? =some fn)(hb:fn.body=some c)(hn:fn.name≠ "runtime.NumGoroutine")(ht:P.underlying t=some (.slice e))(hok:okT P e=true)(hz:zaS P e=true)(hby:za1 P e=true):
  zjs P f (zdg (shOf P e)):=by
 intro args hp r hp' h w X μ vs hH hl
 have hlift:∀{K:Ending->World->Prop},Calls P f vs.toArray w K->Called P f vs.toArray w K:=fun h=>.inl ⟨zbF hf hb hn,h⟩
 unfold zdg at h
 split at h
 ·rename_i s sh0 i shx new
  split at h
  ·rename_i hc
   obtain⟨rfl,hnew⟩:=hc
   have hm:0<new.length:=List.length_pos_iff.2 hnew
   cases hl with|cons h1 hl=>
   cases hl with|cons h2 hl=>
   cases hl with|cons h3 hl=>
   cases hl
   rename_i vs1 vs2 vs3
   cases h2 with|pv _ _ _ _ h2=>
   cases h2
   have h3':=h3
   cases h3 with|tsl _ _ a hq=>
   have hq':=hq
   cases hq with
   |nilsl=>exact(hnew rfl).elim
   |sl _ _ vb vo vn vcs vt vfr vvals hvl hvI hvb hv1 hv2 hvc hvn=>
   split at h
   ·rename_i s1 rr ver off len
    split at h
    ·rename_i hi
     split at h
     ·rename_i hlen
      split at h
      ·rename_i v hp1 hap
       cases h
       obtain⟨v',w',μ',g1,g2,g3,g4⟩:=zhc (b:=hp.length) ht hok hz hby hH h1 h3' hap
       cases h1 with|sl _ _ _ _ _ ba cap es fz ho hv hlc ha hcc=>
       subst hi
       refine hlift ((R.endr ba len cap vb vo new.length new.length w w' v' hm hlc.1 hlen g1).mono fun E W hE=> ?_)
       obtain⟨rfl,rfl⟩:=hE
       exact⟨μ',_,rfl,g3,g4,g2⟩
      ·cases h
     ·cases h
    ·rename_i hi
     split at h
     ·rename_i s' es ho
      split at h
      ·rename_i hcc
       obtain⟨rfl,rfl,rfl,rfl,rfl,hi0,hil,hlim⟩:=hcc
       cases h
       obtain⟨j,rfl⟩:∃j:Nat,i=(j:Int):=⟨i.toNat,by omega⟩
       have hjl:j<es.length:=by omega
       obtain⟨hpos,harr⟩:=hH.arr rr _ es false ho
       have hN:ER w (Im X μ hp) (shOf P e) new vvals:=⟨hvl,fun k p v hp hv=>⟨hv1 k p v hp hv,hv2 k p v hp hv⟩⟩
       have hNl:=hN.length
       have hNc:=zcu hvb hvc
       cases h1 with|sl _ _ _ _ _ ba cap es1 fz1 ho1 hv1' hlc ha hcc=>
       rw[ho] at ho1
       cases ho1
       obtain⟨_,c2⟩:=hcc rfl
       rcases harr with⟨h1,h2⟩|⟨b,cs,t0,vals,h1,h2,h3,h4,h5⟩
       ·rw[h2] at hjl;simp at hjl
       have hE:ER w (Im X μ hp) (shOf P e) es vals:=⟨h3,h4⟩
       have hEl:=hE.length
       rcases c2 with⟨c3,_⟩|⟨b',cs',t',c3,c4,c5,c6⟩
       ·rw[h1] at c3;cases c3
       rw[h1] at c3
       cases c3
       rw[h2] at c4
       cases c4
       rw[Nat.zero_add] at c5
       have hba:=c6 (by omega)
       rw[Nat.zero_mul] at hba
       subst hba
       have hlive:live hp rr=true:=by simp[live,ho]
       have hne:vb≠b:=fun e=>hvI.2 rr hlive (by rw[e];exact h1)
       have hvcell:∀(k:Nat) v,(cellsOf vvals)[k]? =some v->w.cell? ⟨vb,vo+k,none⟩=some v:=fun k v hk=>by
        have:=hNc k v hk
        have ha:(⟨vb,vo,none⟩:Addr).add k=⟨vb,vo+k,none⟩:=by unfold Addr.add;split <;> simp_all
        rwa [ha] at this
       have hoc:∀v∈(cs.toList.drop (j*(shOf P e).size)).take ((es.length - j)*(shOf P e).size),v.oneCell'=true:=fun v hv=>by
        have e2:(cs.toList.take (es.length*(shOf P e).size)).drop (j*(shOf P e).size)=(cs.toList.drop (j*(shOf P e).size)).take ((es.length - j)*(shOf P e).size):=by rw[List.drop_take,Nat.sub_mul]
        rw[<-e2,<-h5] at hv
        exact hE.flat v (List.mem_of_mem_drop hv)
       simp only[Int.toNat_natCast]
       by_cases hroom:es.length+new.length<=cap
       ·have hkA:vcs.size≠0:=by
         intro h0
         have:=congrArg List.length hvc
         have h00:vcs.toList=[]:=List.length_eq_zero_iff.1 (by simpa using h0)
         rw[hNl,h00] at this
         simp at this
         have:=Nat.mul_pos hm hpos
         omega
        obtain⟨cur2,hc2,hcall⟩:=R.shift b es.length cap j vb vo new.length new.length cs t0 (cellsOf vvals) w hjl hm hroom hlim hne h2 c5.symm hNl hoc hvcell hN.flat vt vcs.size (by simp[World.shape?,hvb]) hkA
        refine hlift (hcall.mono fun E W hE'=> ?_)
        obtain⟨rfl,cur1,rfl⟩:=hE'
        have hrow1:(w.drew.setRow b cur1).heap[b]? =some (.cells cur1 t0 (0,0)):=setRow_heap w.drew b cs cur1 t0 _ h2
        have hrow2:=setRow_heap (w.drew.setRow b cur1) b cur1 cur2 t0 _ hrow1
        have hc2l:cur2.size=cs.size:=by
         have:=congrArg List.length hc2
         have hb1:j*(shOf P e).size<=es.length*(shOf P e).size:=Nat.mul_le_mul (by omega) (Nat.le_refl _)
         have hb2:(es.length+new.length)*(shOf P e).size<=cap*(shOf P e).size:=Nat.mul_le_mul hroom (Nat.le_refl _)
         simp only[List.length_append,List.length_take,List.length_drop,Array.length_toList,hNl,Nat.sub_mul,Nat.add_mul] at this hb2
         omega
        refine zlH hH ho hpos hE hN h1 h2 h5 (by omega) hm (.inl rfl) hrow2 (fun x _ hx=> ?_) (by rw[zdh,zdh];exact Nat.le_of_eq rfl) rfl rfl rfl (fun _=>⟨hc2l,rfl⟩) (by rw[hc2l];exact c5.symm) hroom ?_
        ·simp[World.setRow,Array.getElem?_modify,Ne.symm hx]
         rfl
        ·rw[hc2]
         exact List.take_left' (by
          have hb1:j*(shOf P e).size<=es.length*(shOf P e).size:=Nat.mul_le_mul (by omega) (Nat.le_refl _)
          have hb2:(es.length+new.length)*(shOf P e).size<=cap*(shOf P e).size:=Nat.mul_le_mul hroom (Nat.le_refl _)
          simp only[List.length_append,List.length_take,List.length_drop,Array.length_toList,hNl,Nat.sub_mul,Nat.add_mul] at hb2 ⊢
          omega)
       ·obtain⟨row,G,g1,g2,g3,hcall⟩:=R.grow b es.length cap j vb vo new.length new.length cs t0 (cellsOf vvals) w hjl hm hlc.1 (by omega) hlim (zaz hvb) h2 c5.symm hNl hoc hvcell hN.flat
        refine hlift (hcall.mono fun E W hE'=> ?_)
        obtain⟨rfl,k1,k2,k3,k4,k5,k6⟩:=hE'
        exact zlH hH ho hpos hE hN h1 h2 h5 (by omega) hm (.inr rfl) k1 (fun x hx _=>k3 x hx) (by omega) k4 k5 k6 (fun e=>by have:=zaz h2;omega) g2 g1 g3
      ·cases h
     ·cases h
   ·rename_i s1 es
    split at h
    ·rename_i hi
     obtain⟨hi,hlen⟩:=hi
     split at h
     ·rename_i v hp1 hap
      cases h
      obtain⟨v',w',μ',g1,g2,g3,g4⟩:=zhc (b:=hp.length) ht hok hz hby hH h1 h3' hap
      cases h1 with|tsl _ _ a1 hq1=>
      subst hi
      refine hlift ((R.endr a1 es.length es.length vb vo new.length new.length w w' v' hm (Nat.le_refl _) hlen g1).mono fun E W hE=> ?_)
      obtain⟨rfl,rfl⟩:=hE
      exact⟨μ',_,rfl,g3,g4,g2⟩
     ·cases h
    ·cases h
   ·cases h
  ·cases h
 ·cases h
end Go.Am

/- slices.Insert at arrays of the run's own that hold what shows references. -/
namespace Go.Am
variable{P:Program}
def zdX(sh:Sh):zbf:=fun _ args hp=>match args with
 |[.slv s1 r ver off len,.pv _ (.int .i64 i),.slv sx rx verx offx lenx]=>match hp[r]?,hp[rx]? with
  |some (.arv s' es),some (.arv shx new)=>if(s1=sh/\s'=sh/\shx=sh)/\(ver=es.length/\off=0/\len=es.length)/\(verx=new.length/\offx=0/\lenx=new.length)/\r≠rx/\new≠[]/\(0<=i/\i<=len)/\len+new.length<=lim/\zgJ hp.length r es new=true then
    some (.ret (.slv sh r (len+new.length) 0 (len+new.length)),hp.set r (.arv sh (es.take i.toNat++new++es.drop i.toNat))) else none
  |_,_=>none
 |_=>none
theorem zkH{f:FuncId}{fn:Func}{c:Code}{t e:TypeId}(R:InsRoads P f t e (shOf P e).size)(hf:P.funcs[f]? =some fn)(hb:fn.body=some c)(hn:fn.name≠ "runtime.NumGoroutine")(ht:P.underlying t=some (.slice e))(hok:okT P e=true)(hz:zaS P e=true)(hby:za1 P e=true):
  zjs P f (zdX (shOf P e)):=by
 intro args hp r hp' h w X μ vs hH hl
 have hlift:∀{K:Ending->World->Prop},Calls P f vs.toArray w K->Called P f vs.toArray w K:=fun h=>.inl ⟨zbF hf hb hn,h⟩
 unfold zdX at h
 split at h
 ·rename_i s1 rr ver off len sh0 i sx rx verx offx lenx
  split at h
  ·rename_i s' es shx new ho hox
   split at h
   ·rename_i hcond
    obtain⟨⟨rfl,rfl,rfl⟩,⟨rfl,rfl,rfl⟩,⟨rfl,rfl,rfl⟩,hne,hnew,⟨hi0,hil⟩,hlim,hrefs⟩:=hcond
    cases h
    have hm:0<new.length:=List.length_pos_iff.2 hnew
    cases hl with|cons h1 hl=>
    cases hl with|cons h2 hl=>
    cases hl with|cons h3 hl=>
    cases hl
    rename_i vs1 vs2 vs3
    cases h2 with|pv _ _ _ _ h2=>
    cases h2
    have h1':=h1
    have h3':=h3
    have hrl:=(List.getElem?_eq_some_iff.1 ho).1
    have hrx:=(List.getElem?_eq_some_iff.1 hox).1
    obtain⟨hpos,b,cs,t0,vals,g1,g2,g3,g4,g5⟩:=hH.arv rr _ es ho
    obtain⟨_,vb,vcs,vt,nvals,q1,q2,q3,q4,q5⟩:=hH.arv rx _ new hox
    have hE:EV w X μ hp (shOf P e) es vals:=⟨g3,g4⟩
    have hN:EV w X μ hp (shOf P e) new nvals:=⟨q3,q4⟩
    have hEl:=hE.length
    have hNl:=hN.length
    have hvb:vb≠b:=fun e=>hne (hH.inj rr rx b hrl hrx g1 (by rw[q1,e]))
    cases h1 with|slv _ _ _ _ _ base cap n ho1 hv1 hlc ha hcc=>
    rw[ho] at ho1
    simp only[zcg,Option.some.injEq,Prod.mk.injEq,true_and] at ho1
    subst ho1
    obtain⟨_,b',cs',t',c3,c4,c5,c6⟩:=hcc rfl
    rw[g1] at c3
    cases c3
    rw[g2] at c4
    cases c4
    rw[Nat.zero_add] at c5
    cases h3 with|slv _ _ _ _ _ vbase vcap vn ho3 hv3 hlc3 ha3 hcc3=>
    rw[hox] at ho3
    simp only[zcg,Option.some.injEq,Prod.mk.injEq] at ho3
    obtain⟨rfl,rfl⟩:=ho3
    obtain⟨_,vb',vcs',vt',d3,d4,d5,d6⟩:=hcc3 rfl
    rw[q1] at d3
    cases d3
    rw[q2] at d4
    cases d4
    have hvb0:=d6 (by have:=hlc3.1;omega)
    rw[Nat.zero_mul] at hvb0
    subst hvb0
    obtain⟨j,rfl⟩:∃j:Nat,i=(j:Int):=⟨i.toNat,by omega⟩
    simp only[Int.toNat_natCast]
    have hqn:rr<hp.length->∀q∈AV.refsIn.gol new,q∈AV.refsIn.gol es:=zg1 hrefs
    have hqq:rr<hp.length->∀q∈AV.refsIn.gol (es.take j++new++es.drop j),q∈AV.refsIn.gol es:=by
     intro hlt q hq'
     rcases(zcm _ _ _).1 hq' with h|h
     ·rcases(zcm _ _ _).1 h with h|h
      ·exact ze4 (fun x hx=>List.mem_of_mem_take hx) h
      ·exact hqn hlt q h
     ·exact ze4 (fun x hx=>List.mem_of_mem_drop hx) h
    by_cases hjl:j=es.length
    ·subst hjl
     have hcells:new≠[]->∃ad,some (⟨vb,0,none⟩:Addr)=some ad/\∀(k:Nat) (u:Value),(cellsOf nvals)[k]? =some u->w.cell? (ad.add k)=some u:=fun _=>⟨_,rfl,zcu (n:=new.length*(shOf P e).size) q2 (by rw[q5,List.drop_zero])⟩
     obtain⟨v',w',μ',a1,a2,a3,a4⟩:=zf6 (b:=hp.length) (ty:=t) (c:=vcap) ht hok hz hby hH ho h1' hN hcells hlim hqn
     have e1:es.take es.length++new++es.drop (es.length+new.length)=es.take es.length++new++es.drop es.length:=by rw[List.drop_of_length_le (by omega),List.drop_length]
     have e2:(es.take es.length++new++es.drop es.length).length=es.length+new.length:=by simp
     rw[e1] at a2 a3 a4
     rw[e2] at a4
     refine hlift ((R.endr base es.length cap vb 0 new.length vcap w w' v' hm hlc.1 (by omega) a1).mono fun E W hE'=> ?_)
     obtain⟨rfl,rfl⟩:=hE'
     exact⟨μ',_,rfl,a2,a3,a4⟩
    ·have hjlt:j<es.length:=by omega
     have hba:=c6 (by have:=hlc.1;omega)
     rw[Nat.zero_mul] at hba
     subst hba
     have hEV:=((hE.take j).append hN).append (hE.drop j)
     have hel:(es.take j++new++es.drop j).length=es.length+new.length:=by simp;omega
     have hcl:cs.toList.length=cs.size:=Array.length_toList
     have hvcell:∀(k:Nat) v,(cellsOf nvals)[k]? =some v->w.cell? ⟨vb,0+k,none⟩=some v:=fun k v hk=>by
      have:=zcu (o:=0) (n:=new.length*(shOf P e).size) q2 (vals:=nvals) (by rw[q5,List.drop_zero]) k v hk
      have ha:(⟨vb,0,none⟩:Addr).add k=⟨vb,0+k,none⟩:=by unfold Addr.add;split <;> simp_all
      rwa [ha] at this
     have hdt:(cs.toList.take (es.length*(shOf P e).size)).drop (j*(shOf P e).size)=(cs.toList.drop (j*(shOf P e).size)).take ((es.length - j)*(shOf P e).size):=by rw[List.drop_take,Nat.sub_mul]
     have hoc:∀v∈(cs.toList.drop (j*(shOf P e).size)).take ((es.length - j)*(shOf P e).size),v.oneCell'=true:=fun v hv=>by
      rw[<-hdt,<-g5] at hv
      exact hE.flat v (List.mem_of_mem_drop hv)
     have hcc':cellsOf (vals.take j++nvals++vals.drop j)=cs.toList.take (j*(shOf P e).size)++cellsOf nvals++(cs.toList.drop (j*(shOf P e).size)).take ((es.length - j)*(shOf P e).size):=by
      rw[zas,zas,hE.cells_take j (by omega),hE.cells_drop j (by omega),g5,hdt,List.take_take,Nat.min_eq_left (Nat.mul_le_mul (by omega) (Nat.le_refl _))]
     by_cases hroom:es.length+new.length<=cap
     ·have hkA:vcs.size≠0:=by
       intro h0
       have:=congrArg List.length q5
       have h00:vcs.toList=[]:=List.length_eq_zero_iff.1 (by simpa using h0)
       rw[hNl,h00] at this
       simp at this
       have:=Nat.mul_pos hm hpos
       omega
      obtain⟨cur2,hc2,hcall⟩:=R.shift b es.length cap j vb 0 new.length vcap cs t0 (cellsOf nvals) w hjlt hm hroom hlim hvb g2 c5.symm hNl hoc hvcell hN.flat vt vcs.size (by simp[World.shape?,q2]) hkA
      refine hlift (hcall.mono fun E W hE'=> ?_)
      obtain⟨rfl,cur1,rfl⟩:=hE'
      have hrow1:(w.drew.setRow b cur1).heap[b]? =some (.cells cur1 t0 (0,0)):=setRow_heap w.drew b cs cur1 t0 _ g2
      have hrow2:=setRow_heap (w.drew.setRow b cur1) b cur1 cur2 t0 _ hrow1
      have hb1:j*(shOf P e).size<=es.length*(shOf P e).size:=Nat.mul_le_mul (by omega) (Nat.le_refl _)
      have hb2:(es.length+new.length)*(shOf P e).size<=cap*(shOf P e).size:=Nat.mul_le_mul hroom (Nat.le_refl _)
      have hc2l:cur2.size=cs.size:=by
       have:=congrArg List.length hc2
       simp only[List.length_append,List.length_take,List.length_drop,Array.length_toList,hNl,Nat.sub_mul,Nat.add_mul] at this hb2
       omega
      have hoth:∀x,x≠b->((w.drew.setRow b cur1).setRow b cur2).heap[x]? =w.heap[x]? :=fun x hx=>by
       simp[World.setRow,Array.getElem?_modify,Ne.symm hx]
       rfl
      obtain⟨k1,k2,k3⟩:=zf5 hp.length (w':=(w.drew.setRow b cur1).setRow b cur2) (row:=cur2) (nb:=b) (cap:=cap) (t:=t0) hH ho (by rw[hel];omega) hqq hEV (.inl g1) hrow2 (fun k _ hk=>hoth k fun e=>hk (by rw[e];exact g1)) (.inl (by have:=zaz g2;omega)) (fun cs0 t1 fr hk=>by
        rw[g2] at hk
        cases hk
        exact⟨rfl,rfl,hc2l⟩) (by rw[zdh,zdh];exact Nat.le_of_eq rfl) rfl rfl rfl (by
        rw[hcc',hel,hc2]
        refine(List.take_left' ?_).symm
        simp only[List.length_append,List.length_take,List.length_drop,Array.length_toList,hNl,Nat.sub_mul,Nat.add_mul] at hb2 ⊢
        omega) (by rw[hc2l];exact c5) (es.length+new.length) (by rw[hel];exact Nat.le_refl _) hroom (by rw[hel];exact hroom) (some ⟨b,0,none⟩) rfl
      rw[hel] at k3
      exact⟨_,_,rfl,k1,k2,k3⟩
     ·obtain⟨row,G,a1,a2,a3,hcall⟩:=R.grow b es.length cap j vb 0 new.length vcap cs t0 (cellsOf nvals) w hjlt hm hlc.1 (by omega) hlim (zaz q2) g2 c5.symm hNl hoc hvcell hN.flat
      refine hlift (hcall.mono fun E W hE'=> ?_)
      obtain⟨rfl,r1,r2,r3,r4,r5,r6⟩:=hE'
      obtain⟨k1,k2,k3⟩:=zf5 hp.length (w':=W) (row:=row) (nb:=w.heap.size) (cap:=G) (t:=e) hH ho (by rw[hel];omega) hqq hEV (.inr ⟨rfl,by rw[hel];omega⟩) r1 (fun k hk _=>r3 k hk) (.inr r3) (fun cs0 t1 fr hk=>by have:=zaz hk;omega) (by omega) r4 r5 r6 (by rw[hcc',hel];exact a3.symm) a2.symm (es.length+new.length) (by rw[hel];exact Nat.le_refl _) a1 (by rw[hel];exact a1) (some ⟨w.heap.size,0,none⟩) rfl
      rw[hel] at k3
      exact⟨_,_,rfl,k1,k2,k3⟩
   ·cases h
  ·cases h
 ·cases h
end Go.Am

/- Terms as plain data. -/
namespace Go.Am
inductive Tm where
 |mk (kind n:Int) (name:List UInt8) (args:List Tm)
 deriving Inhabited
mutual
def Tm.pv:Tm->PV
 | .mk k n s as=>.agg [(none,.int .i64 k),(none,.int .i64 n),(none,.str s),(none,.sl (some 4) (Tm.pvs as))]
def Tm.pvs:List Tm->List PV
 |[]=>[]
 |t::r=>t.pv::Tm.pvs r
end
def Tm.kind:Tm->Int| .mk k _ _ _=>k
def Tm.n:Tm->Int| .mk _ n _ _=>n
def Tm.name:Tm->List UInt8| .mk _ _ s _=>s
def Tm.args:Tm->List Tm| .mk _ _ _ as=>as
def Tm.av(t:Tm):AV:=.pv (some 4) t.pv
theorem Tm.zuu(t:Tm):t.pv=.agg [(none,.int .i64 t.kind),(none,.int .i64 t.n),(none,.str t.name),(none,.sl (some 4) (Tm.pvs t.args))]:=by cases t;rfl
end Go.Am

/- What code comes to: rules that a proof steps by. -/
namespace Go.Am
variable{Γ:Oracle} {Λ:zan} {b:Nat}

class Tag.{u} {α:Sort u} (a:α):Type where
instance tagAny.{u}{α:Sort u}(a:α):Tag a:=⟨⟩

def W(Γ:Oracle)(Λ:zan)(b:Nat)(c:ACode)(st:St)(Q:AExit->St->Prop)[Tag Q]:Prop:=
 match aexec Γ Λ b c st with
 |some (e,st')=>Q e st'
 |none=>False
def O(Γ:Oracle)(b:Nat)(ops:List AOper)(fr:Fr)(hp:Heap)(K:Fr->Heap->Prop)(Kp:PV->Fr->Heap->Prop)[Tag K][Tag Kp]:Prop:=
 match aops Γ b ops fr hp with
 |some (.normal,fr',hp')=>K fr' hp'
 |some (.panic v,fr',hp')=>Kp v fr' hp'
 |_=>False
def seqK(k:St->Prop)(Q:AExit->St->Prop)[Tag k][Tag Q]:AExit->St->Prop
 | .normal,st=>k st
 | .exit i,st=>Q (.exit i) st
 | .ret,st=>Q .ret st
 | .panic v,st=>Q (.panic v) st
def zhd(id:Nat)(Q:AExit->St->Prop)[Tag Q]:AExit->St->Prop
 | .exit i,st=>if i=id then Q .normal st else Q (.exit i) st
 | .normal,st=>Q .normal st
 | .ret,st=>Q .ret st
 | .panic v,st=>Q (.panic v) st
def zqE(v:Option AV)(A B:Prop)[Tag A][Tag B]:Prop:=
 match v with
 |some (.pv _ (.bool b))=>if b=true then A else B
 |_=>False
def panK(pan:Bool)(A:Prop)[Tag A]:Prop:=if pan=true then A else False
def zoG(v:Option Bool)(A B:Prop)[Tag A][Tag B]:Prop:=
 match v with
 |some b=>if b=true then A else B
 |none=>False
def argK(v:Option (List AV))(K:List AV->Prop)[Tag K]:Prop:=
 match v with
 |some l=>K l
 |none=>False
def opK(v:Option OpRes)(K:AV->Heap->Prop)(Kp:PV->Heap->Prop)[Tag K][Tag Kp]:Prop:=
 match v with
 |some (.val v hp)=>K v hp
 |some (.panic v hp)=>Kp v hp
 |none=>False
def zbP(v:Option (AV × Heap))(K:AV->Heap->Prop)[Tag K]:Prop:=
 match v with
 |some (v,hp)=>K v hp
 |none=>False
def zjv(v:Option (ARes × Heap))(K:AV->Heap->Prop)(Kp:PV->Heap->Prop)[Tag K][Tag Kp]:Prop:=
 match v with
 |some (.ret v,hp)=>K v hp
 |some (.panic v,hp)=>Kp v hp
 |none=>False

variable{st:St} {Q:AExit->St->Prop} {fr:Fr} {hp:Heap} {K:Fr->Heap->Prop} {Kp:PV->Fr->Heap->Prop}
theorem zs3:W Γ Λ b .skip st Q=Q .normal st:=rfl
theorem zs4(i:Nat):W Γ Λ b (.exit i) st Q=Q (.exit i) st:=rfl
theorem ztF:W Γ Λ b .ret st Q=Q .ret st:=rfl
theorem zqF(l:List Nat):W Γ Λ b (.settle l) st Q=(match settle l st with|some st'=>Q .normal st'|none=>False):=by
 unfold W
 simp only[aexec]
 cases settle l st <;> rfl
theorem ztG(x y:ACode):W Γ Λ b (.seq x y) st Q=W Γ Λ b x st (seqK (fun st'=>W Γ Λ b y st' Q) Q):=by
 unfold W
 simp only[aexec]
 cases aexec Γ Λ b x st with
 |none=>rfl
 |some r=>
  obtain⟨e,st'⟩:=r
  cases e <;> rfl
theorem zs5(c:AArg)(x y:ACode):W Γ Λ b (.cond c x y) st Q=zqE (st.fr.arg c) (W Γ Λ b x st Q) (W Γ Λ b y st Q):=by
 unfold W
 simp only[aexec]
 cases st.fr.arg c with
 |none=>rfl
 |some v=>
  cases v with
  |pv s p=>
   cases p with
   |bool v=>cases v <;> simp[zqE]
   |_=>rfl
  |_=>rfl
theorem zsm(id:Nat)(c:ACode):W Γ Λ b (.block id c) st Q=W Γ Λ b c st (zhd id Q):=by
 unfold W
 simp only[aexec]
 cases aexec Γ Λ b c st with
 |none=>rfl
 |some r=>
  obtain⟨e,st'⟩:=r
  cases e with
  |exit i=>
   simp only[zhd]
   by_cases h:i=id
   ·simp[h]
   ·simp[h]
  |_=>rfl
theorem zqG(pan:Bool)(ops:List AOper)(keep:List Nat):W Γ Λ b (.region pan ops keep) st Q=O Γ b ops st.fr st.hp (fun fr hp=>Q .normal ⟨fr.keep keep,hp⟩) (fun v fr hp=>panK pan (Q (.panic v) ⟨fr.keep keep,hp⟩)):=by
 unfold W O
 simp only[aexec]
 cases aops Γ b ops st.fr st.hp with
 |none=>rfl
 |some r=>
  obtain⟨e,fr,hp⟩:=r
  cases e with
  |panic v=>cases pan <;> simp[panK]
  |_=>rfl
def OD(Γ:Oracle)(b:Nat)(l:List (AOper × Option (List AOper)))(fr:Fr)(hp:Heap)(K:Fr->Heap->Prop)(Kp:PV->Prop)[Tag K][Tag Kp]:Prop:=
 match zcs Γ b l fr hp with
 |some (.normal,fr',hp')=>K fr' hp'
 |some (.panic v,_,_)=>Kp v
 |_=>False
theorem zs6(l:List (AOper × Option (List AOper)))(keep:List Nat):W Γ Λ b (.doom l keep) st Q=OD Γ b l st.fr st.hp (fun fr hp=>Q .normal ⟨fr.keep keep,hp⟩) (fun v=>Q (.panic v) ⟨[],st.hp⟩):=by
 unfold W OD
 simp only[aexec]
 cases zcs Γ b l st.fr st.hp with
 |none=>rfl
 |some r=>
  obtain⟨e,fr,hp⟩:=r
  cases e <;> rfl
theorem ztH:O Γ b [] fr hp K Kp=K fr hp:=rfl
theorem zrR(o:AOper)(r:List AOper):O Γ b (o::r) fr hp K Kp=zoG (wants fr o.guard) (argK (fr.argsOf o.args) fun vs=>opK (aOp Γ b o.op vs hp) (fun v hp'=>O Γ b r (fr.dst o.dst v) hp' K Kp) (fun v hp'=>Kp v fr hp')) (O Γ b r (fr.dst o.dst .undef) hp K Kp):=by
 unfold O
 simp only[aops]
 cases wants fr o.guard with
 |none=>rfl
 |some w=>
  cases w with
  |false=>simp[zoG]
  |true=>
   simp only[zoG,if_true]
   cases fr.argsOf o.args with
   |none=>rfl
   |some vs=>
    simp only[argK]
    cases aOp Γ b o.op vs hp with
    |none=>rfl
    |some r=>cases r <;> rfl
theorem zs7(d:Option Nat)(op:AOp)(as:List AArg)(r:List AOper):O Γ b (⟨d,op,as,none⟩::r) fr hp K Kp=argK (fr.argsOf as) fun vs=>opK (aOp Γ b op vs hp) (fun v hp'=>O Γ b r (fr.dst d v) hp' K Kp) (fun v hp'=>Kp v fr hp'):=by
 rw[zrR];rfl
theorem zs8{Kp:PV->Prop}:OD Γ b [] fr hp K Kp=K fr hp:=rfl
theorem zsn{Kp:PV->Prop}(d:Option Nat)(op:AOp)(as:List AArg)(r:List (AOper × Option (List AOper))):OD Γ b ((⟨d,op,as,none⟩,none)::r) fr hp K Kp=argK (fr.argsOf as) fun vs=>opK (aOp Γ b op vs hp) (fun v hp'=>OD Γ b r (fr.dst d v) hp' K Kp) (fun _ _=>False):=by
 unfold OD
 simp only[zcs,wants]
 cases fr.argsOf as with
 |none=>rfl
 |some vs=>
  simp only[argK]
  cases aOp Γ b op vs hp with
  |none=>rfl
  |some r=>cases r <;> rfl
theorem zso{Kp:PV->Prop}(d:Option Nat)(op:AOp)(as:List AArg)(l:List AOper)(r:List (AOper × Option (List AOper))):OD Γ b ((⟨d,op,as,none⟩,some l)::r) fr hp K Kp=argK (fr.argsOf as) fun vs=>opK (zbJ Γ hp vs) (fun v _=>OD Γ b r (fr.dst d v) hp K Kp) (fun p _=>O Γ b l fr hp (fun _ _=>Kp p) (fun _ _ _=>False)):=by
 unfold OD O
 simp only[zcs]
 cases fr.argsOf as with
 |none=>rfl
 |some vs=>
  simp only[argK]
  cases zbJ Γ hp vs with
  |none=>rfl
  |some r=>
   cases r with
   |val v hp'=>rfl
   |panic p hp'=>
    simp only[opK]
    cases aops Γ b l fr hp with
    |none=>rfl
    |some r=>
     obtain⟨e,fr',hp'⟩:=r
     cases e <;> rfl
def zhe(v:Option AV)(w:Bool)(A B:Prop)[Tag A][Tag B]:Prop:=
 match v with
 |some (.pv _ (.bool b))=>if b=w then A else B
 |some .undef=>B
 |_=>False
theorem zsp(d:Option Nat)(op:AOp)(as:List AArg)(s:Nat)(w:Bool)(r:List AOper):O Γ b (⟨d,op,as,some (s,w)⟩::r) fr hp K Kp=zhe (fr.look s) w (argK (fr.argsOf as) fun vs=>opK (aOp Γ b op vs hp) (fun v hp'=>O Γ b r (fr.dst d v) hp' K Kp) (fun v hp'=>Kp v fr hp')) (O Γ b r (fr.dst d .undef) hp K Kp):=by
 rw[zrR]
 simp only[wants]
 cases h:fr.look s with
 |none=>rfl
 |some v=>
  cases v with
  |pv sh p=>
   cases p with
   |bool c=>cases c <;> cases w <;> simp[zoG,zhe]
   |_=>rfl
  |undef=>simp[zoG,zhe]
  |_=>rfl
theorem ztI(s:Nat):fr.arg (.t s)=fr.look s:=rfl
theorem ztJ(v:AV):fr.arg (.c v)=some v:=rfl
theorem zoH(k s:Nat)(v:AV)(r:Fr):Fr.look ((k,v)::r) s=if k=s then some v else Fr.look r s:=rfl
theorem zqH(d:Nat)(v:AV):fr.dst (some d) v=(d,v)::fr:=rfl
theorem zqI(v:AV):fr.dst none v=fr:=rfl
theorem zqJ:fr.argsOf []=some []:=rfl
def zsq(v:Option AV)(l:Option (List AV)):Option (List AV):=
 match v with
 |none=>none
 |some v=>match l with
  |some l=>some (v::l)
  |none=>none
theorem zoI(a:AArg)(r:List AArg):fr.argsOf (a::r)=zsq (fr.arg a) (fr.argsOf r):=rfl
theorem zmO(v:AV)(l:List AV):zsq (some v) (some l)=some (v::l):=rfl
theorem zoJ(l:List AV)(K:List AV->Prop):argK (some l) K=K l:=rfl
def iteK(v:Prop)(A B:Prop)[Tag A][Tag B]:Prop:=(v->A)/\(¬v->B)
theorem zmP(s:Sh)(v:Bool)(A B:Prop):zqE (some (.pv s (.bool v))) A B=iteK (v=true) A B:=by
 cases v <;> simp[zqE,iteK]
theorem zkI(s:Sh)(v w:Bool)(A B:Prop):zhe (some (.pv s (.bool v))) w A B=iteK (v=w) A B:=by
 cases v <;> cases w <;> simp[zhe,iteK]
theorem zjw(w:Bool)(A B:Prop):zhe (some .undef) w A B=B:=rfl
theorem zoK(A B:Prop):iteK True A B=A:=by simp[iteK]
theorem zmQ(A B:Prop):iteK False A B=B:=by simp[iteK]
theorem zqK(v A B:Prop):iteK (¬v) A B=iteK v B A:=by
 by_cases h:v <;> simp[iteK,h]
theorem zaI{v A B:Prop}(hA:v->A)(hB:¬v->B):iteK v A B:=⟨hA,hB⟩
attribute [irreducible] iteK
theorem zmR(v:AV)(hp:Heap)(K:AV->Heap->Prop):zbP (some (v,hp)) K=K v hp:=rfl
theorem zoL(v:AV)(hp:Heap)(K:AV->Heap->Prop)(Kp:PV->Heap->Prop):zjv (some (.ret v,hp)) K Kp=K v hp:=rfl
theorem zkJ(v:PV)(hp:Heap)(K:AV->Heap->Prop)(Kp:PV->Heap->Prop):zjv (some (.panic v,hp)) K Kp=Kp v hp:=rfl
theorem zqL:fr.keep []=[]:=rfl
def zs9(k:Nat)(v:Option AV)(r:Fr):Fr:=
 match v with
 |some v=>(k,v)::r
 |none=>r
theorem zoM(k:Nat)(ks:List Nat):fr.keep (k::ks)=zs9 k (fr.look k) (fr.keep ks):=rfl
theorem zmS(k:Nat)(v:AV)(r:Fr):zs9 k (some v) r=(k,v)::r:=rfl
theorem zkK(k:St->Prop)(Q:AExit->St->Prop)(st:St):seqK k Q .normal st=k st:=rfl
theorem zoN(k:St->Prop)(Q:AExit->St->Prop)(i:Nat)(st:St):seqK k Q (.exit i) st=Q (.exit i) st:=rfl
theorem zqM(k:St->Prop)(Q:AExit->St->Prop)(st:St):seqK k Q .ret st=Q .ret st:=rfl
theorem zmT(k:St->Prop)(Q:AExit->St->Prop)(v:PV)(st:St):seqK k Q (.panic v) st=Q (.panic v) st:=rfl
theorem zh5(id:Nat)(Q:AExit->St->Prop)(st:St):zhd id Q .normal st=Q .normal st:=rfl
theorem zkL(id:Nat)(Q:AExit->St->Prop)(i:Nat)(st:St):zhd id Q (.exit i) st=if i=id then Q .normal st else Q (.exit i) st:=rfl
theorem zmU(id:Nat)(Q:AExit->St->Prop)(st:St):zhd id Q .ret st=Q .ret st:=rfl
theorem zjx(id:Nat)(Q:AExit->St->Prop)(v:PV)(st:St):zhd id Q (.panic v) st=Q (.panic v) st:=rfl
end Go.Am
