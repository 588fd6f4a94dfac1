/- What is proved: the reference's Valid; valid bindings are in order, their terms are valid, and they have ranks. -/
import Derived.Test.YtffecaafklpmhaaGreatRMt
import Derived.Test.YtffecaafklpmhaaGreatAm4
set_option linter.unusedSimpArgs false
set_option linter.unusedVariables false
namespace Go.Proofs.YtffecaafklpmhaaGreat
open Go.Am
def bools(D:List Bool):List PV:=D.map .bool
theorem zhB(D:List Bool):(bools D).length=D.length:=by simp[bools]
theorem zhC{D:List Bool}{i:Nat}{b:Bool}(h:D[i]? =some b):(bools D)[i]? =some (.bool b):=by simp[bools,h]
def mk1(l:List B)(D:List Bool)(w:Int):Bool:= !fndB l w || D.getD (lbB l w) false
def sttl(l:List B)(D:List Bool)(os:List Int):Bool:=os.all (mk1 l D)
theorem zjr(l:List B)(D:List Bool)(x y:List Int):sttl l D (x++y)=(sttl l D x && sttl l D y):=by simp[sttl]
theorem zrK{l:List B}{v:Int}(h:fndB l v=true):lbB l v<l.length:=by
 unfold fndB at h
 split at h
 ·rename_i b hb;exact(List.getElem?_eq_some_iff.1 hb).1
 ·cases h
theorem zkZ:∀(t:Tm) (l:List B) (D:List Bool),Srt' l->l.length<1000000000->D.length=l.length->t.size<1000000000->∀hp,S 127 [.pv none (.sl (some 5) (bds l)),.pv none (.sl none (bools D)),t.av] hp=some (.ret (.pv none (.bool (sttl l D t.occ))),hp):=by
 intro t
 induction t using Tm.zwV with
 |h t ih=>
  intro l D hs hl hD ht hp
  have hts:=t.size_eq
  have hlen:=Tm.zwT t.args
  have hfd:=zjp l t.n hs hl
  refine zao rfl rfl rfl (zac [(none,.sl (some 5) (bds l)),(none,.sl none (bools D)),(some 4,t.pv)]) rfl ?_
  rw[Tm.zw1]
  by_cases hk:t.kind=0
  ·rw[if_pos hk]
   by_cases hf:fndB l t.n=true
   ·have hlt:=zrK hf
    obtain⟨d,hd⟩:∃d,D[lbB l t.n]? =some d:=⟨_,List.getElem?_eq_getElem (by omega)⟩
    have hfi:fdI l t.n=(lbB l t.n:Int):=by unfold fdI;rw[if_pos hf]
    have hnn:¬((lbB l t.n:Nat):Int)<0:=by omega
    have e:sttl l D [t.n]=d:=by simp[sttl,mk1,hf,List.getD_eq_getElem?_getD,hd]
    rw[hfi] at hfd
    rw[e]
    simp -dsimp -implicitDefEqProofs only[go_sem,seval,↓reduceIte,zaj,zav,hk,hfd,hnn,zab (zhC hd)]
   ·have hf':fndB l t.n=false:=by simpa using hf
    have hfi:fdI l t.n= -1:=by unfold fdI;rw[if_neg hf]
    have hnn:(-1:Int)<0:=by omega
    have e:sttl l D [t.n]=true:=by simp[sttl,mk1,hf']
    rw[hfi] at hfd
    rw[e]
    simp -dsimp -implicitDefEqProofs only[go_sem,seval,↓reduceIte,zaj,zav,hk,hfd,hnn]
  ·rw[if_neg hk]
   simp -dsimp -implicitDefEqProofs only[go_sem,seval,↓reduceIte,zaj,zav,hk]
   refine zbQ (α:=Unit) t.args.length (fun i _=>sttl l D (Tm.occs (t.args.take i))=true) (fun i _=>⟨[(0,.pv none (.sl (some 5) (bds l))),(1,.pv none (.sl none (bools D))),(5,.ptr 0 0),(8,.pv none (.int .i64 i))],[.box (some 4) (.pv (some 4) t.pv)]⟩) () ⟨rfl,rfl⟩ ?_ ?_
   ·rintro i - h hinv
    have hc:(i:Int)<(t.args.length:Int):=by omega
    obtain⟨u,hu⟩:∃u,t.args[i]? =some u:=⟨_,List.getElem?_eq_getElem h⟩
    have hum:=List.mem_of_getElem? hu
    have husz:=Tm.zwY hum
    have hcall:=ih u hum l D hs hl hD (by omega)
    simp only[Tm.av] at hcall
    have w2:IntKind.i64.wrap ((i:Int)+1)=((i+1:Nat):Int):=by rw[zan (by omega) (by omega)];omega
    by_cases h0:sttl l D u.occ=true
    ·simp -dsimp -implicitDefEqProofs only[go_sem,seval,↓reduceIte,zad,Tm.pvs_len,hc,zab (Tm.pvs_get hu),hcall,h0,w2]
     exact⟨(),by rw[Tm.zw6 hu,zjr,hinv,h0];rfl⟩
    ·have h0':sttl l D u.occ=false:=by simpa using h0
     have e:sttl l D (Tm.occs t.args)=false:=by
      have e1:Tm.occs t.args=Tm.occs (t.args.take (i+1))++Tm.occs (t.args.drop (i+1)):=by rw[<-Tm.zxg,List.take_append_drop]
      rw[e1,Tm.zw6 hu,zjr,zjr,h0']
      simp
     rw[e]
     simp -dsimp -implicitDefEqProofs only[go_sem,seval,↓reduceIte,zad,Tm.pvs_len,hc,zab (Tm.pvs_get hu),hcall,h0']
   ·rintro - hinv
    have hc:¬(t.args.length:Int)<(t.args.length:Int):=by omega
    rw[List.take_length] at hinv
    simp -dsimp -implicitDefEqProofs only[go_sem,seval,↓reduceIte,zad,Tm.pvs_len,hc,hinv]
theorem zoW(t:Tm)(l:List B)(D:List Bool)(hs:Srt' l)(hl:l.length<1000000000)(hD:D.length=l.length)(ht:t.size<1000000000){hp:Heap}{r:Nat}(hr:hp[r]? =some (.arr none (bools D) false)):
  S 127 [.pv none (.sl (some 5) (bds l)),.sl none r l.length 0 l.length,t.av] hp=some (.ret (.pv none (.bool (sttl l D t.occ))),hp):=by
 have h1:AV.freeze deep (.sl none r l.length 0 l.length) hp=some (.sl none (bools D),hp.set r (.arr none (bools D) true)):=by simp[AV.freeze,deep,hr,zhB,hD]
 have e1:∀H:Heap,AV.freeze deep (.pv none (.sl (some 5) (bds l))) H=some (.sl (some 5) (bds l),H):=fun _=>rfl
 have e2:∀H:Heap,AV.freeze deep t.av H=some (t.pv,H):=fun _=>rfl
 exact zcc (F:=find tab) (prim:=prim) (f:=127) (args:=[.pv none (.sl (some 5) (bds l)),.sl none r l.length 0 l.length,t.av]) (ps:=[(none,.sl (some 5) (bds l)),(none,.sl none (bools D)),(some 4,t.pv)]) (hp:=hp) (hp1:=hp.set r (.arr none (bools D) true)) rfl rfl rfl (by simp only[zap,e1,h1,e2];rfl) (zkZ t l D hs hl hD ht [])
structure OKB(l:List B):Prop where
 good:Good l
 rng:∀b∈l,0<=b.1/\b.1<=1099511627776
 acyc:∃rk:Nat->Nat,∀(i:Nat) (b:B),l[i]? =some b->∀w∈b.2.occ,fndB l w=true->rk (lbB l w)<rk i
structure InvD(l:List B)(D:List Bool)(left:Nat):Prop where
 len:D.length=l.length
 cnt:D.count false=left
 rk:∃(rk:Nat->Nat) (c:Nat),∀(i:Nat) (b:B),D[i]? =some true->l[i]? =some b->rk i<c/\∀w∈b.2.occ,fndB l w=true->D[lbB l w]? =some true/\rk (lbB l w)<rk i
theorem InvD.zxz(l:List B):InvD l (List.replicate l.length false) l.length:=
 ⟨by simp,by simp,fun _=>0,0,fun i b h=>by
  rw[List.getElem?_replicate] at h
  split at h <;> cases h⟩
theorem zrL{D:List Bool}{i:Nat}(h:D[i]? =some false):(D.set i true).count false+1=D.count false:=by
 induction D generalizing i with
 |nil=>simp at h
 |cons x r ih=>
  cases i with
  |zero=>simp at h;subst h;simp
  |succ i=>
   have:=ih (i:=i) (by simpa using h)
   simp only[List.set_cons_succ,List.count_cons]
   omega
theorem InvD.mark{l:List B}{D:List Bool}{left i:Nat}{b:B}(h:InvD l D left)(hi:D[i]? =some false)(hb:l[i]? =some b)(hs:sttl l D b.2.occ=true):InvD l (D.set i true) (left - 1):=by
 obtain⟨h1,h2,rk,c,h3⟩:=h
 have hlt:=(List.getElem?_eq_some_iff.1 hi).1
 refine⟨by simp[h1],by have:=zrL hi;omega,fun j=>if j=i then c else rk j,c+1,fun j b' hj hb'=> ?_⟩
 by_cases e:j=i
 ·subst e
  rw[hb] at hb'
  cases hb'
  refine⟨by simp,fun w hw hf=> ?_⟩
  have hm:=List.all_eq_true.1 hs w hw
  have hd:D[lbB l w]? =some true:=by
   simp only[mk1,hf,Bool.not_true,Bool.false_or,List.getD_eq_getElem?_getD] at hm
   cases hx:D[lbB l w]? with
   |none=>rw[hx] at hm;cases hm
   |some d=>rw[hx] at hm;simp at hm;rw[hm]
  have hne:lbB l w≠j:=by intro e;rw[e,hi] at hd;cases hd
  obtain⟨x,hx⟩:∃x,l[lbB l w]? =some x:=⟨_,List.getElem?_eq_getElem (zrK hf)⟩
  obtain⟨k1,_⟩:=h3 _ x hd hx
  refine⟨by rw[List.getElem?_set_ne (Ne.symm hne)];exact hd,?_⟩
  simp only[if_neg hne,if_true]
  exact k1
 ·rw[List.getElem?_set_ne (Ne.symm e)] at hj
  obtain⟨k1,k2⟩:=h3 j b' hj hb'
  refine⟨by simp only[if_neg e];omega,fun w hw hf=> ?_⟩
  obtain⟨m1,m2⟩:=k2 w hw hf
  have hne:lbB l w≠i:=by intro e;rw[e,hi] at m1;cases m1
  refine⟨by rw[List.getElem?_set_ne (Ne.symm hne)];exact m1,?_⟩
  simp only[if_neg hne,if_neg e]
  exact m2
theorem InvD.done{l:List B}{D:List Bool}(h:InvD l D 0):∃rk:Nat->Nat,∀(i:Nat) (b:B),l[i]? =some b->∀w∈b.2.occ,fndB l w=true->rk (lbB l w)<rk i:=by
 obtain⟨h1,h2,rk,c,h3⟩:=h
 refine⟨rk,fun i b hb w hw hf=> ?_⟩
 have hlt:=(List.getElem?_eq_some_iff.1 hb).1
 have hd:D[i]? =some true:=by
  rw[List.getElem?_eq_getElem (by omega)]
  cases hx:D[i] with
  |true=>rfl
  |false=>
   have:false∈D:=by rw[<-hx];exact List.getElem_mem _
   have:=List.count_pos_iff.2 this
   omega
 exact((h3 i b hd hb).2 w hw hf).2
def WfAt(l:List B)(i:Nat):Prop:=∀b,l[i]? =some b->0<=b.1/\b.1<=1099511627776/\b.2.valid=true/\(0<i->∀c,l[i - 1]? =some c->c.1<b.1)
theorem zrM{l:List B}(h:∀i,i<l.length->WfAt l i):Srt' l:=by
 have key:∀(n i:Nat) (a b:B),l[i]? =some a->l[i+n+1]? =some b->a.1<b.1:=by
  intro n
  induction n with
  |zero=>
   intro i a b ha hb
   have hlt:=(List.getElem?_eq_some_iff.1 hb).1
   exact(h (i+0+1) hlt b hb).2.2.2 (by omega) a (by simpa using ha)
  |succ n ih=>
   intro i a b ha hb
   have hlt:=(List.getElem?_eq_some_iff.1 hb).1
   obtain⟨c,hc⟩:∃c,l[i+n+1]? =some c:=⟨_,List.getElem?_eq_getElem (by omega)⟩
   have h1:=ih i a c ha hc
   have h2:=(h (i+(n+1)+1) hlt b hb).2.2.2 (by omega) c (by rw[show i+(n+1)+1 - 1=i+n+1 by omega];exact hc)
   omega
 refine List.pairwise_iff_getElem.2 fun i j hi hj hij=> ?_
 exact key (j - i - 1) i _ _ (List.getElem?_eq_getElem hi) (by rw[show i+(j - i - 1)+1=j by omega];exact List.getElem?_eq_getElem hj)
theorem OKB.wf{l:List B}(h:OKB l)(i:Nat):WfAt l i:=fun b hb=>by
 have hm:=List.mem_of_getElem? hb
 obtain⟨h1,h2⟩:=h.rng b hm
 refine⟨h1,h2,(h.good.2 b hm).1,fun hi c hc=> ?_⟩
 obtain⟨hlt,hb'⟩:=List.getElem?_eq_some_iff.1 hb
 obtain⟨hlt2,hc'⟩:=List.getElem?_eq_some_iff.1 hc
 have:=List.pairwise_iff_getElem.1 h.good.1 (i - 1) i hlt2 hlt (by omega)
 rw[hb',hc'] at this
 exact this
theorem ztA{l:List B}{D:List Bool}{n:Nat}(h:InvD l D n):n<=l.length:=by
 have h1:=h.len
 have h2:=h.cnt
 have:=List.count_le_length (a:=false) (l:=D)
 omega
theorem InvD.stuck{l:List B}{D:List Bool}{n:Nat}(h:InvD l D n)(hn:0<n)(hs:∀(j:Nat) (b:B),l[j]? =some b->D[j]? =some false->sttl l D b.2.occ=false):¬OKB l:=by
 rintro⟨_,_,rk,ha⟩
 have key:∀(m j:Nat),rk j=m->D[j]? =some false->False:=by
  intro m
  induction m using Nat.strongRecOn with
  |_ m ih=>
   intro j hm hj
   have hlt:=(List.getElem?_eq_some_iff.1 hj).1
   have hl:=h.len
   obtain⟨b,hb⟩:∃b,l[j]? =some b:=⟨_,List.getElem?_eq_getElem (by omega)⟩
   have:=hs j b hb hj
   obtain⟨w,hw,hm1⟩:=List.all_eq_false.1 this
   have hf:fndB l w=true:=by
    cases e:fndB l w with
    |true=>rfl
    |false=>simp[mk1,e] at hm1
   have hd:D.getD (lbB l w) false=false:=by
    cases e:D.getD (lbB l w) false with
    |false=>rfl
    |true=>simp[mk1,e] at hm1;rw[List.getD_eq_getElem?_getD,hm1.2] at e;cases e
   have hlt2:=zrK hf
   have hd2:D[lbB l w]? =some false:=by
    rw[List.getD_eq_getElem?_getD,List.getElem?_eq_getElem (by omega)] at hd
    rw[List.getElem?_eq_getElem (by omega)]
    simpa using hd
   exact ih (rk (lbB l w)) (by have:=ha j b hb w hw hf;omega) _ rfl hd2
 have:0<D.count false:=by have:=h.cnt;omega
 obtain⟨j,hlt,hj⟩:=List.getElem_of_mem (List.count_pos_iff.1 this)
 exact key _ j rfl (by rw[List.getElem?_eq_getElem hlt,hj])
def VP(l:List B)(v:AV):Prop:=∃b:Bool,v=.pv none (.bool b)/\(b=true↔OKB l)
theorem zgt{l:List B}(h:¬OKB l):∃v',AV.pv none (.bool false)=v'/\VP l v':=⟨_,rfl,false,rfl,(fun e=>by cases e),fun e=>absurd e h⟩
theorem zt5{l:List B}(h:OKB l):∃v',AV.pv none (.bool true)=v'/\VP l v':=⟨_,rfl,true,rfl,(fun _=>h),fun _=>rfl⟩
theorem zoX(l:List B)(hl:l.length<100000000)(hsz:∀b∈l,b.2.size<1000000000):∃v,(∀hp,S 91 [.pv none (.sl (some 5) (bds l))] hp=some (.ret v,hp))/\VP l v:=by
 refine zcT (ps:=[(none,.sl (some 5) (bds l))]) (VP l) rfl rfl rfl (fun hp=>rfl) rfl ?_
 have hgood:(∀i,i<l.length->WfAt l i)->Good l/\∀b∈l,0<=b.1/\b.1<=1099511627776:=fun h=>by
  refine⟨⟨zrM h,fun b hb=> ?_⟩,fun b hb=> ?_⟩
  ·obtain⟨i,hlt,rfl⟩:=List.getElem_of_mem hb
   exact⟨(h i hlt _ (List.getElem?_eq_getElem hlt)).2.2.1,hsz _ hb⟩
  ·obtain⟨i,hlt,rfl⟩:=List.getElem_of_mem hb
   exact⟨(h i hlt _ (List.getElem?_eq_getElem hlt)).1,(h i hlt _ (List.getElem?_eq_getElem hlt)).2.1⟩
 simp -dsimp -implicitDefEqProofs only[go_sem,seval,↓reduceIte,zau]
 refine zbQ (α:=Unit) l.length (fun i _=>∀j,j<i->WfAt l j) (fun i _=>⟨[(0,.pv none (.sl (some 5) (bds l))),(3,.pv none (.int .i64 i))],[]⟩) () ⟨fun j hj=>by omega,rfl⟩ ?_ ?_
 ·rintro i - h hinv
  have hc:(i:Int)<(l.length:Int):=by omega
  obtain⟨b,hb⟩:∃b,l[i]? =some b:=⟨_,List.getElem?_eq_getElem h⟩
  have hbs:=hsz b (List.mem_of_getElem? hb)
  have hv:=fun hp=>zbK b.2 hp hbs
  simp only[Tm.av] at hv
  have w2:IntKind.i64.wrap ((i:Int)+1)=((i+1:Nat):Int):=by rw[zan (by omega) (by omega)];omega
  have next:WfAt l i->∀j,j<i+1->WfAt l j:=fun hw j hj=>by
   rcases Nat.lt_or_ge j i with h|h
   ·exact hinv j h
   ·have:j=i:=by omega
    subst this;exact hw
  by_cases h1:b.1<0
  ·simp -dsimp -implicitDefEqProofs only[go_sem,seval,↓reduceIte,zau,hc,zab (zaH hb),zaP,h1]
   exact zgt fun h=>by have:=(h.wf i b hb).1;omega
  ·by_cases h2:1099511627776<b.1
   ·simp -dsimp -implicitDefEqProofs only[go_sem,seval,↓reduceIte,zau,hc,zab (zaH hb),zaP,h1,h2]
    exact zgt fun h=>by have:=(h.wf i b hb).2.1;omega
   ·by_cases h3:0<i
    ·have h3':(0:Int)<(i:Int):=by omega
     obtain⟨c,hcc⟩:∃c,l[i - 1]? =some c:=⟨_,List.getElem?_eq_getElem (by omega)⟩
     have w3:IntKind.i64.wrap ((i:Int) - 1)=((i - 1:Nat):Int):=by rw[zan (by omega) (by omega)];omega
     by_cases h4:b.1<=c.1
     ·simp -dsimp -implicitDefEqProofs only[go_sem,seval,↓reduceIte,zau,hc,zab (zaH hb),zab (zaH hcc),zaP,h1,h2,h3',h4,w3]
      exact zgt fun h=>by have:=(h.wf i b hb).2.2.2 h3 c hcc;omega
     ·by_cases h5:b.2.valid=true
      ·simp -dsimp -implicitDefEqProofs only[go_sem,seval,↓reduceIte,zau,hc,zab (zaH hb),zab (zaH hcc),zaP,zbO,h1,h2,h3',h4,w3,hv,h5,w2]
       exact⟨(),next fun b' hb'=>by rw[hb] at hb';cases hb';exact⟨by omega,by omega,h5,fun _ c' hc'=>by rw[hcc] at hc';cases hc';omega⟩⟩
      ·have h5':b.2.valid=false:=by simpa using h5
       simp -dsimp -implicitDefEqProofs only[go_sem,seval,↓reduceIte,zau,hc,zab (zaH hb),zab (zaH hcc),zaP,zbO,h1,h2,h3',h4,w3,hv,h5']
       exact zgt fun h=>by have:=(h.wf i b hb).2.2.1;rw[h5'] at this;cases this
    ·have h3':¬(0:Int)<(i:Int):=by omega
     by_cases h5:b.2.valid=true
     ·simp -dsimp -implicitDefEqProofs only[go_sem,seval,↓reduceIte,zau,hc,zab (zaH hb),zaP,zbO,h1,h2,h3',hv,h5,w2]
      exact⟨(),next fun b' hb'=>by rw[hb] at hb';cases hb';exact⟨by omega,by omega,h5,fun h=>absurd h h3⟩⟩
     ·have h5':b.2.valid=false:=by simpa using h5
      simp -dsimp -implicitDefEqProofs only[go_sem,seval,↓reduceIte,zau,hc,zab (zaH hb),zaP,zbO,h1,h2,h3',hv,h5']
      exact zgt fun h=>by have:=(h.wf i b hb).2.2.1;rw[h5'] at this;cases this
 ·rintro - hinv
  have hc:¬(l.length:Int)<(l.length:Int):=by omega
  have hs:=zrM hinv
  have hmk:zbR none (.bool false) [] [.pv none (.int .i64 l.length),.pv none (.int .i64 l.length)]=some (.sl none 0 l.length 0 l.length,[.arr none (bools (List.replicate l.length false)) false]):=by
   have:(l.length:Int)<=(lim:Nat):=by unfold lim;omega
   simp[zbR,this,bools,Sh.size]
  simp -dsimp -implicitDefEqProofs only[go_sem,seval,↓reduceIte,zau,hc,hmk]
  simp -dsimp -implicitDefEqProofs only[c91k32,go_sem,seval,↓reduceIte]
  refine za0 (fun n st=>∃(left:Nat) (D:List Bool),n=left/\InvD l D left/\st=⟨[(0,.pv none (.sl (some 5) (bds l))),(4,.sl none 0 l.length 0 l.length),(5,.pv none (.int .i64 left))],[.arr none (bools D) false]⟩) (n:=l.length) ⟨l.length,_,rfl,InvD.zxz l,?_⟩ ?_
  ·simp -dsimp -implicitDefEqProofs only[go_sem,seval,↓reduceIte]
   try rfl
  rintro n st ⟨left,D,rfl,hD,rfl⟩
  by_cases h0:0<n
  ·have h0':(0:Int)<(n:Int):=by omega
   simp -dsimp -implicitDefEqProofs only[c91b31,c91k32,go_sem,seval,↓reduceIte,zau,h0']
   refine zbQ (α:=Nat × List Bool) l.length (fun i a=>InvD l a.2 a.1/\a.1<=n/\(a.1=n->a.2=D/\∀j,j<i->∀b,l[j]? =some b->D[j]? =some false->sttl l D b.2.occ=false))
    (fun i a=>⟨[(0,.pv none (.sl (some 5) (bds l))),(4,.sl none 0 l.length 0 l.length),(5,.pv none (.int .i64 a.1)),(6,.pv none (.int .i64 n)),(7,.pv none (.int .i64 i))],[.arr none (bools a.2) false]⟩) (n,D) ⟨⟨hD,Nat.le_refl _,fun _=>⟨rfl,fun j hj=>by omega⟩⟩,rfl⟩ ?_ ?_
   ·rintro i ⟨left,D1⟩ h ⟨hI,hle,hq⟩
    simp only at hI hle hq
    have hc:(i:Int)<(l.length:Int):=by omega
    obtain⟨b,hb⟩:∃b,l[i]? =some b:=⟨_,List.getElem?_eq_getElem h⟩
    have hlen:=hI.len
    obtain⟨d,hd⟩:∃d,D1[i]? =some d:=⟨_,List.getElem?_eq_getElem (by omega)⟩
    have hld:aload none [.arr none (bools D1) false] (.eptr none 0 l.length i 0)=some (.pv none (.bool d)):=by
     simp[aload,zhB,hlen,zhC hd]
    have hst:zaU none 0 [.arr none (bools D1) false] [.eptr none 0 l.length i 0,.pv none (.bool true)]=some (.undef,[.arr none (bools (D1.set i true)) false]):=by
     have e:AV.freeze deep (.pv none (.bool true)) [.arr none (bools D1) false]=some (.bool true,[.arr none (bools D1) false]):=rfl
     simp[zaU,astore,zhB,hlen,zhC hd,AV.shp,e]
     simp[bools]
    have hset:=zoW b.2 l D1 hs (by omega) hlen (hsz b (List.mem_of_getElem? hb)) (hp:=[.arr none (bools D1) false]) (r:=0) rfl
    simp only[Tm.av] at hset
    have w2:IntKind.i64.wrap ((i:Int)+1)=((i+1:Nat):Int):=by rw[zan (by omega) (by omega)];omega
    have hcl:=ztA hI
    cases d with
    |true=>
     simp -dsimp -implicitDefEqProofs only[c91b31,c91k32,go_sem,seval,↓reduceIte,zau,hc,zar h,hld,w2]
     refine⟨(left,D1),⟨hI,hle,fun e=> ?_⟩,rfl⟩
     obtain⟨rfl,hq2⟩:=hq e
     refine⟨rfl,fun j hj b' hb' hf=> ?_⟩
     rcases Nat.lt_or_ge j i with h|h
     ·exact hq2 j h b' hb' hf
     ·have:j=i:=by omega
      subst this
      rw[hd] at hf;cases hf
    |false=>
     by_cases hsb:sttl l D1 b.2.occ=true
     ·have hlp:0<left:=by
       have:false∈D1:=List.mem_of_getElem? hd
       have:=List.count_pos_iff.2 this
       have:=hI.cnt
       omega
      have w4:IntKind.i64.wrap ((left:Int) - 1)=((left - 1:Nat):Int):=by rw[zan (by omega) (by omega)];omega
      simp -dsimp -implicitDefEqProofs only[c91b31,c91k32,go_sem,seval,↓reduceIte,zau,hc,zar h,hld,w2,zab (zaH hb),zbO,hset,hsb,hst,w4]
      exact⟨(left - 1,D1.set i true),⟨hI.mark hd hb hsb,by omega,fun e=>by omega⟩,rfl⟩
     ·have hsb':sttl l D1 b.2.occ=false:=by simpa using hsb
      simp -dsimp -implicitDefEqProofs only[c91b31,c91k32,go_sem,seval,↓reduceIte,zau,hc,zar h,hld,w2,zab (zaH hb),zbO,hset,hsb']
      refine⟨(left,D1),⟨hI,hle,fun e=> ?_⟩,rfl⟩
      obtain⟨rfl,hq2⟩:=hq e
      refine⟨rfl,fun j hj b' hb' hf=> ?_⟩
      rcases Nat.lt_or_ge j i with h|h
      ·exact hq2 j h b' hb' hf
      ·have:j=i:=by omega
       subst this
       rw[hb] at hb';cases hb'
       exact hsb'
   ·rintro⟨left,D1⟩ ⟨hI,hle,hq⟩
    simp only at hI hle hq
    have hc:¬(l.length:Int)<(l.length:Int):=by omega
    by_cases e:left=n
    ·obtain⟨rfl,hq2⟩:=hq e
     subst e
     simp -dsimp -implicitDefEqProofs only[c91b31,c91k32,go_sem,seval,↓reduceIte,zau,hc]
     exact zgt (hI.stuck h0 fun j b hb hf=>hq2 j (List.getElem?_eq_some_iff.1 hb).1 b hb hf)
    ·have e':¬(left:Int)=(n:Int):=by omega
     simp -dsimp -implicitDefEqProofs only[c91b31,c91k32,go_sem,seval,↓reduceIte,zau,hc,e']
     exact⟨left,by omega,left,D1,rfl,hI,rfl⟩
  ·have h0':¬(0:Int)<(n:Int):=by omega
   obtain rfl:n=0:=by omega
   simp -dsimp -implicitDefEqProofs only[c91b31,c91k32,go_sem,seval,↓reduceIte,zau,h0']
   exact zt5 ⟨(hgood hinv).1,(hgood hinv).2,hD.done⟩
mutual
def Tm.sub(f:Int->Tm):Tm->Tm
 | .mk k n s ts=>if k=0 then f n else .mk k n s (Tm.subs f ts)
def Tm.subs(f:Int->Tm):List Tm->List Tm
 |[]=>[]
 |t::r=>Tm.sub f t::Tm.subs f r
end
theorem Tm.zxo(f:Int->Tm):∀l:List Tm,Tm.subs f l=l.map (Tm.sub f)
 |[]=>rfl
 |t::r=>by rw[Tm.subs,Tm.zxo f r];rfl
theorem Tm.zw3(f:Int->Tm)(t:Tm):Tm.sub f t=if t.kind=0 then f t.n else .mk t.kind t.n t.name (t.args.map (Tm.sub f)):=by
 cases t with
 |mk k n s ts=>
  simp only[Tm.sub,Tm.kind,Tm.n,Tm.name,Tm.args,Tm.zxo]
  by_cases h:k=0 <;> simp[h]
mutual
def Tm.wt(f:Int->Nat):Tm->Nat
 | .mk k n _ ts=>1+(if k=0 then f n else Tm.wts f ts)
def Tm.wts(f:Int->Nat):List Tm->Nat
 |[]=>0
 |t::r=>Tm.wt f t+Tm.wts f r
end
theorem Tm.zxq(f:Int->Nat)(t:Tm):Tm.wt f t=1+(if t.kind=0 then f t.n else Tm.wts f t.args):=by
 cases t;rfl
theorem Tm.zxr{f:Int->Nat}:∀{l:List Tm} {t:Tm},t∈l->Tm.wt f t<=Tm.wts f l
 |[],_,h=>by cases h
 |x::r,t,h=>by
  rw[Tm.wts]
  rcases List.mem_cons.1 h with rfl|h
  ·omega
  ·have:=Tm.zxr (f:=f) h;omega
theorem Tm.zxe{l:List Tm}{u:Tm}(h:u∈l){w:Int}(hw:w∈u.occ):w∈Tm.occs l:=by
 induction l with
 |nil=>cases h
 |cons x r ih=>
  rw[Tm.occs]
  rcases List.mem_cons.1 h with rfl|h
  ·exact List.mem_append_left _ hw
  ·exact List.mem_append_right _ (ih h)
theorem Tm.zxf{l:List Tm}{w:Int}(hw:w∈Tm.occs l):∃u∈l,w∈u.occ:=by
 induction l with
 |nil=>cases hw
 |cons x r ih=>
  rw[Tm.occs] at hw
  rcases List.mem_append.1 hw with h|h
  ·exact⟨x,List.mem_cons_self,h⟩
  ·obtain⟨u,hu,h⟩:=ih h
   exact⟨u,List.mem_cons_of_mem _ hu,h⟩
theorem Tm.zxc{t u:Tm}(hk:¬t.kind=0)(h:u∈t.args){w:Int}(hw:w∈u.occ):w∈t.occ:=by
 rw[Tm.zw1,if_neg hk]
 exact Tm.zxe h hw
theorem Tm.zxi{f g:Int->Tm}:∀t:Tm,(∀w∈t.occ,f w=g w)->Tm.sub f t=Tm.sub g t:=by
 intro t
 induction t using Tm.zwV with
 |h t ih=>
  intro h
  rw[Tm.zw3,Tm.zw3]
  by_cases hk:t.kind=0
  ·rw[if_pos hk,if_pos hk]
   exact h _ (by rw[Tm.zw1,if_pos hk];simp)
  ·rw[if_neg hk,if_neg hk]
   congr 1
   exact List.map_congr_left fun u hu=>ih u hu fun w hw=>h w (Tm.zxc hk hu hw)
theorem Tm.zxj{f g:Int->Nat}:∀l:List Tm,(∀u∈l,Tm.wt f u=Tm.wt g u)->Tm.wts f l=Tm.wts g l
 |[],_=>rfl
 |x::r,h=>by rw[Tm.wts,Tm.wts,h x List.mem_cons_self,Tm.zxj r fun u hu=>h u (List.mem_cons_of_mem _ hu)]
theorem Tm.zxp{f g:Int->Nat}:∀t:Tm,(∀w∈t.occ,f w=g w)->Tm.wt f t=Tm.wt g t:=by
 intro t
 induction t using Tm.zwV with
 |h t ih=>
  intro h
  rw[Tm.zxq,Tm.zxq]
  by_cases hk:t.kind=0
  ·rw[if_pos hk,if_pos hk,h _ (by rw[Tm.zw1,if_pos hk];simp)]
  ·rw[if_neg hk,if_neg hk]
   rw[Tm.zxj t.args fun u hu=>ih u hu fun w hw=>h w (Tm.zxc hk hu hw)]
def toB(l:List B)(v:Int):Tm:=match l[lbB l v]? with
 |some b=>b.2
 |none=>default
theorem zcU{l:List B}{v:Int}(h:fndB l v=true):l[lbB l v]? =some (v,toB l v):=by
 unfold fndB at h
 unfold toB
 cases e:l[lbB l v]? with
 |none=>rw[e] at h;cases h
 |some b=>
  rw[e] at h
  have:b.1=v:=by simpa using h
  rw[<-this]
def Acyc(l:List B):Prop:=∃r:Int->Nat,∀v,fndB l v=true->∀w∈(toB l v).occ,fndB l w=true->r w<r v
theorem zrP{l:List B}(hs:Srt' l){i:Nat}{b:B}(hb:l[i]? =some b):fndB l b.1=true/\lbB l b.1=i:=by
 have hlt:=(List.getElem?_eq_some_iff.1 hb).1
 have h1:¬i<lbB l b.1:=fun h=>by have:=(zdw (v:=b.1) hs hb).2 h;omega
 have h2:¬lbB l b.1<i:=fun h=>by
  obtain⟨c,hc⟩:∃c,l[lbB l b.1]? =some c:=⟨_,List.getElem?_eq_getElem (by omega)⟩
  have h3:c.1<b.1:=by
   obtain⟨l1,e1⟩:=List.getElem?_eq_some_iff.1 hc
   obtain⟨l2,e2⟩:=List.getElem?_eq_some_iff.1 hb
   have:=List.pairwise_iff_getElem.1 hs _ _ l1 l2 h
   rw[e1,e2] at this
   exact this
  have:=(zdw (v:=b.1) hs hc).1 h3
  omega
 have e:lbB l b.1=i:=by omega
 refine⟨?_,e⟩
 unfold fndB
 rw[e,hb]
 simp
theorem OKB.Acyc{l:List B}(h:OKB l):Acyc l:=by
 obtain⟨rk,hr⟩:=h.acyc
 refine⟨fun v=>rk (lbB l v),fun v hv w hw hf=> ?_⟩
 exact hr _ _ (zcU hv) w hw hf
theorem zt6{l:List B}(hG:Good l)(hr:∀b∈l,0<=b.1/\b.1<=1099511627776)(ha:Acyc l):OKB l:=by
 obtain⟨r,ha⟩:=ha
 refine⟨hG,hr,fun i=>match l[i]? with|some b=>r b.1|none=>0,fun i b hb w hw hf=> ?_⟩
 obtain⟨h1,h2⟩:=zrP hG.1 hb
 have h3:=zcU h1
 rw[h2,hb] at h3
 have h4:toB l b.1=b.2:=by cases e:toB l b.1;rw[e] at h3;cases b;cases h3;rfl
 simp only[zcU hf,hb]
 exact ha b.1 h1 w (by rw[h4];exact hw) hf
theorem ziz{X:Type}{l:List B}(h:Acyc l)(u:Int->X)(s:(Int->X)->Tm->X)(cg:∀f g t,(∀w∈t.occ,f w=g w)->s f t=s g t):
  ∃f:Int->X,∀v,f v=if fndB l v=true then s f (toB l v) else u v:=by
 obtain⟨rk,ha⟩:=h
 obtain⟨it,h0,h1⟩:∃it:Nat->Int->X,(∀v,it 0 v=u v)/\∀n v,it (n+1) v=if fndB l v=true then s (it n) (toB l v) else u v:=
  ⟨fun n=>Nat.rec u (fun _ f v=>if fndB l v=true then s f (toB l v) else u v) n,fun _=>rfl,fun _ _=>rfl⟩
 have hu:∀n v,¬fndB l v=true->it n v=u v:=fun n v hv=>by
  cases n with
  |zero=>exact h0 v
  |succ n=>rw[h1,if_neg hv]
 have stab:∀k n m v,rk v=k->k<n->k<m->it n v=it m v:=by
  intro k
  induction k using Nat.strongRecOn with
  |_ k ih=>
   intro n m v hk hn hm
   by_cases hv:fndB l v=true
   ·obtain⟨n',rfl⟩:∃n',n=n'+1:=⟨n - 1,by omega⟩
    obtain⟨m',rfl⟩:∃m',m=m'+1:=⟨m - 1,by omega⟩
    rw[h1,h1,if_pos hv,if_pos hv]
    refine cg _ _ _ fun w hw=> ?_
    by_cases hf:fndB l w=true
    ·have:=ha v hv w hw hf
     exact ih (rk w) (by omega) n' m' w rfl (by omega) (by omega)
    ·rw[hu _ _ hf,hu _ _ hf]
   ·rw[hu _ _ hv,hu _ _ hv]
 refine⟨fun v=>it (rk v+1) v,fun v=> ?_⟩
 by_cases hv:fndB l v=true
 ·rw[if_pos hv]
  show it (rk v+1) v=_
  rw[h1,if_pos hv]
  refine cg _ _ _ fun w hw=> ?_
  by_cases hf:fndB l w=true
  ·have:=ha v hv w hw hf
   exact stab (rk w) _ _ w rfl (by omega) (by omega)
  ·rw[hu _ _ hf,hu _ _ hf]
 ·rw[if_neg hv]
  exact hu _ _ hv
def tvar(v:Int):Tm:=.mk 0 v [] []
open Classical in
noncomputable def rsv(l:List B):Int->Tm:=if h:Acyc l then Classical.choose (ziz h tvar Tm.sub fun _ _ t h=>Tm.zxi t h) else tvar
theorem zv4{l:List B}(h:Acyc l)(v:Int):rsv l v=if fndB l v=true then Tm.sub (rsv l) (toB l v) else tvar v:=by
 unfold rsv
 rw[dif_pos h]
 exact Classical.choose_spec (ziz h tvar Tm.sub fun _ _ t h=>Tm.zxi t h) v
open Classical in
noncomputable def muv(l:List B):Int->Nat:=if h:Acyc l then Classical.choose (ziz h (fun _=>0) Tm.wt fun _ _ t h=>Tm.zxp t h) else fun _=>0
theorem zv5{l:List B}(h:Acyc l)(v:Int):muv l v=if fndB l v=true then Tm.wt (muv l) (toB l v) else 0:=by
 unfold muv
 rw[dif_pos h]
 exact Classical.choose_spec (ziz h (fun _=>0) Tm.wt fun _ _ t h=>Tm.zxp t h) v
noncomputable def rs(l:List B)(t:Tm):Tm:=Tm.sub (rsv l) t
noncomputable def mu(l:List B)(t:Tm):Nat:=Tm.wt (muv l) t
theorem zfs(l:List B){t u:Tm}(hk:¬t.kind=0)(h:u∈t.args):mu l u<mu l t:=by
 unfold mu
 rw[Tm.zxq _ t,if_neg hk]
 have:=Tm.zxr (f:=muv l) h
 omega
theorem zes{l:List B}(h:Acyc l){t:Tm}(hk:t.kind=0)(hf:fndB l t.n=true):mu l (toB l t.n)<mu l t:=by
 unfold mu
 rw[Tm.zxq _ t,if_pos hk,zv5 h,if_pos hf]
 omega
theorem zhD{l:List B}(h:Acyc l){t:Tm}(hk:t.kind=0):rs l t=if fndB l t.n=true then rs l (toB l t.n) else tvar t.n:=by
 unfold rs
 rw[Tm.zw3,if_pos hk]
 exact zv4 h t.n
theorem zft(l:List B){t:Tm}(hk:¬t.kind=0):rs l t=.mk t.kind t.n t.name (t.args.map (rs l)):=by
 unfold rs
 rw[Tm.zw3,if_neg hk]
theorem za1{t:Tm}(h:t.fits=true)(hk:t.kind=0):t=tvar t.n:=by
 rw[Tm.fits_eq] at h
 have h1:t.node=true:=by simp at h;exact h.1
 cases t with
 |mk k n s ts=>
  simp only[Tm.kind] at hk
  subst hk
  simp[Tm.node,Tm.kind,Tm.n,Tm.name,Tm.args] at h1
  obtain⟨⟨_,h3⟩,h4⟩:=h1
  rw[h4,of_decide_eq_true h3]
  rfl
theorem valid_fits{t:Tm}(h:t.valid=true):t.fits=true:=by simp[Tm.valid] at h;exact h.2
theorem valid_size{t:Tm}(h:t.valid=true):t.size<=2000:=by simp[Tm.valid] at h;exact h.1
theorem zgD{t:Tm}(h:t.fits=true)(h2:t.size<=2000):t.valid=true:=by simp[Tm.valid,h,h2]
theorem OKB.to{l:List B}(h:OKB l){v:Int}(hf:fndB l v=true):(toB l v).valid=true/\(toB l v).size<1000000000:=h.good.2 _ (List.mem_of_getElem? (zcU hf))
def fstep(f:Int->Tm)(t:Tm):Tm:=if t.kind=0 then f t.n else t
theorem zhE{f g:Int->Tm}(t:Tm)(h:∀w∈t.occ,f w=g w):fstep f t=fstep g t:=by
 unfold fstep
 by_cases hk:t.kind=0
 ·rw[if_pos hk,if_pos hk]
  exact h _ (by rw[Tm.zw1,if_pos hk];simp)
 ·rw[if_neg hk,if_neg hk]
open Classical in
noncomputable def flv(l:List B):Int->Tm:=if h:Acyc l then Classical.choose (ziz h tvar fstep fun _ _ t h=>zhE t h) else tvar
theorem zt7{l:List B}(h:Acyc l)(v:Int):flv l v=if fndB l v=true then fstep (flv l) (toB l v) else tvar v:=by
 unfold flv
 simp only[dif_pos h]
 exact Classical.choose_spec (ziz h tvar fstep fun _ _ t h=>zhE t h) v
noncomputable def flw(l:List B)(t:Tm):Tm:=fstep (flv l) t
theorem zd4(l:List B){t:Tm}(hk:¬t.kind=0):flw l t=t:=by unfold flw fstep;rw[if_neg hk]
theorem zhF{l:List B}(h:Acyc l){t:Tm}(hk:t.kind=0)(hf:fndB l t.n=true):flw l t=flw l (toB l t.n):=by
 unfold flw
 rw[fstep,if_pos hk,zt7 h,if_pos hf]
theorem zdA{l:List B}(h:Acyc l){t:Tm}(hv:t.fits=true)(hk:t.kind=0)(hf:¬fndB l t.n=true):flw l t=t:=by
 unfold flw
 rw[fstep,if_pos hk,zt7 h,if_neg hf,<-za1 hv hk]
theorem znp{l:List B}(h:OKB l):∀(m:Nat) (t:Tm),mu l t=m->t.valid=true->(flw l t).valid=true/\rs l (flw l t)=rs l t/\mu l (flw l t)<=mu l t/\¬((flw l t).kind=0/\fndB l (flw l t).n=true):=by
 intro m
 induction m using Nat.strongRecOn with
 |_ m ih=>
  intro t hm hv
  by_cases hk:t.kind=0
  ·by_cases hf:fndB l t.n=true
   ·have hlt:=zes h.Acyc hk hf
    obtain⟨h1,h2,h3,h4⟩:=ih _ (by omega) (toB l t.n) rfl (h.to hf).1
    rw[zhF h.Acyc hk hf]
    exact⟨h1,by rw[h2,zhD h.Acyc hk,if_pos hf],by omega,h4⟩
   ·rw[zdA h.Acyc (valid_fits hv) hk hf]
    exact⟨hv,rfl,Nat.le_refl _,fun e=>hf e.2⟩
  ·rw[zd4 l hk]
   exact⟨hv,rfl,Nat.le_refl _,fun e=>hk e.1⟩
theorem zfX{l:List B}(h:Acyc l){t:Tm}(hv:t.fits=true)(hk:t.kind=0)(hf:¬fndB l t.n=true):rs l t=t:=by
 rw[zhD h hk,if_neg hf,<-za1 hv hk]
theorem zu7{l:List B}(h:OKB l):∀(m:Nat) (t:Tm),mu l t=m->t.fits=true->(rs l t).fits=true:=by
 intro m
 induction m using Nat.strongRecOn with
 |_ m ih=>
  intro t hm hv
  by_cases hk:t.kind=0
  ·by_cases hf:fndB l t.n=true
   ·have hlt:=zes h.Acyc hk hf
    rw[zhD h.Acyc hk,if_pos hf]
    exact ih _ (by omega) _ rfl (valid_fits (h.to hf).1)
   ·rw[zfX h.Acyc hv hk hf];exact hv
  ·rw[zft l hk,Tm.fits_eq]
   have h1:=hv
   rw[Tm.fits_eq] at h1
   simp only[Bool.and_eq_true] at h1 ⊢
   refine⟨?_,Tm.fitsAll_iff.2 fun u hu=> ?_⟩
   ·have:=h1.1
    cases t
    simp only[Tm.node,Tm.kind,Tm.n,Tm.name,Tm.args,List.length_map] at this ⊢
    exact this
   ·obtain⟨w,hw,rfl⟩:=List.mem_map.1 hu
    have:=zfs l hk hw
    exact ih _ (by omega) w rfl (Tm.zwU hv hw)
theorem zfV(l:List B)(t:Tm)(h:OKB l)(hl:l.length<1000000000)(hv:t.valid=true)(hp:Heap):
  S 147 [.pv none (.sl (some 5) (bds l)),t.av] hp=some (.ret (flw l t).av,hp):=by
 refine zao rfl rfl rfl (zac [(none,.sl (some 5) (bds l)),(some 4,t.pv)]) rfl ?_
 simp -dsimp -implicitDefEqProofs only[go_sem,seval,↓reduceIte,Tm.av]
 refine za0 (fun n st=>∃t1:Tm,n=mu l t1/\t1.valid=true/\flw l t1=flw l t/\st=⟨[(0,.pv none (.sl (some 5) (bds l))),(3,.ptr 0 0),(4,.ptr 1 0)],[.box (some 4) (.pv (some 4) t1.pv),.box (some 4) (.agg [(none,.pv none (.int .i64 0)),(none,.pv none (.int .i64 0)),(none,.pv none (.str [])),(none,.sl (some 4) 2 0 0 0)]),.arr (some 4) [] false]⟩) (n:=mu l t) ⟨t,rfl,hv,rfl,?_⟩ ?_
 ·simp -dsimp -implicitDefEqProofs only[go_sem,seval,↓reduceIte]
  try rfl
 ·rintro n st ⟨t1,rfl,hv1,he,rfl⟩
  by_cases hk:t1.kind=0
  ·have hfd:=zjp l t1.n h.good.1 hl
   by_cases hf:fndB l t1.n=true
   ·have hfi:fdI l t1.n=(lbB l t1.n:Int):=by unfold fdI;rw[if_pos hf]
    have hnn:¬((lbB l t1.n:Nat):Int)<0:=by omega
    rw[hfi] at hfd
    have hlt:=zes h.Acyc hk hf
    simp -dsimp -implicitDefEqProofs only[go_sem,seval,↓reduceIte,zaj,zav,hk,hfd,hnn,zab (zaH (zcU hf)),zbO]
    refine⟨mu l (toB l t1.n),hlt,toB l t1.n,rfl,(h.to hf).1,by rw[<-he,zhF h.Acyc hk hf],rfl⟩
   ·have hfi:fdI l t1.n= -1:=by unfold fdI;rw[if_neg hf]
    have hnn:(-1:Int)<0:=by omega
    rw[hfi] at hfd
    rw[zdA h.Acyc (valid_fits hv1) hk hf] at he
    rw[<-he]
    simp -dsimp -implicitDefEqProofs only[go_sem,seval,↓reduceIte,zaj,zav,hk,hfd,hnn]
    rfl
  ·rw[zd4 l hk] at he
   rw[<-he]
   simp -dsimp -implicitDefEqProofs only[go_sem,seval,↓reduceIte,zaj,zav,hk]
   rfl
theorem zvZ{l:List B}(h:OKB l){t:Tm}(hv:t.valid=true):rs l t=.mk (flw l t).kind (flw l t).n (flw l t).name ((flw l t).args.map (rs l)):=by
 obtain⟨h1,h2,h3,h4⟩:=znp h _ t rfl hv
 rw[<-h2]
 by_cases hk:(flw l t).kind=0
 ·have e:=za1 (valid_fits h1) hk
  rw[zfX h.Acyc (valid_fits h1) hk fun e=>h4 ⟨hk,e⟩]
  rw[e]
  rfl
 ·exact zft l hk
theorem zu5{l:List B}(h:OKB l){t u:Tm}(hv:t.valid=true)(hu:u∈(flw l t).args):mu l u<mu l t/\u.valid=true:=by
 obtain⟨h1,h2,h3,h4⟩:=znp h _ t rfl hv
 have hk:¬(flw l t).kind=0:=fun hk=>by
  rw[za1 (valid_fits h1) hk] at hu
  cases hu
 have:=zfs l hk hu
 exact⟨by omega,zaR h1 hu⟩
def rawP(k n:Int)(s:List UInt8)(es:List PV):PV:=.agg [(none,.int .i64 k),(none,.int .i64 n),(none,.str s),(none,.sl (some 4) es)]
theorem zfW{hp:Heap}{r:Nat}(k n:Int)(s:List UInt8)(es:List PV)(m:Nat)(hm:m=es.length)(h:hp[r]? =some (.arr (some 4) es false)):Am.frozen (.pv (some 4) (rawP k n s es)) (.agg [(none,.pv none (.int .i64 k)),(none,.pv none (.int .i64 n)),(none,.pv none (.str s)),(none,.sl (some 4) r m 0 m)]) hp:=by
 subst hm
 refine⟨hp.set r (.arr (some 4) es true),?_⟩
 show(match AV.freeze (7+1) (.agg _) hp with|some (p,hp')=>some (AV.pv _ p,hp')|none=>none)=_
 have e:∀l hp,AV.freeze (7+1) (.agg l) hp=match AV.freeze.go 7 l hp with|some (ps,hp')=>some (.agg ps,hp')|none=>none:=fun _ _=>rfl
 simp[e,AV.freeze.go,AV.freeze,h,rawP]
 rfl
def appG(t:Tm)(es:List PV):Heap:=[.box (some 4) (.pv (some 4) t.pv),.box (some 4) (.agg [(none,.pv none (.int .i64 0)),(none,.pv none (.int .i64 0)),(none,.pv none (.str [])),(none,.sl (some 4) 2 0 0 0)]),.arr (some 4) [] false,.box (some 4) (.agg [(none,.pv none (.int .i64 t.kind)),(none,.pv none (.int .i64 t.n)),(none,.pv none (.str t.name)),(none,.sl (some 4) 5 es.length 0 es.length)]),.arr (some 4) [] false,.arr (some 4) es false]
def RV(R:Tm)(left:Nat)(v:AV):Prop:=∃(p:PV) (e:Int),v=.tuple [.pv (some 4) p,.pv none (.int .i64 e)]/\(R.size<=left->p=R.pv/\e=(left:Int) - R.size)/\(left<R.size->e= -1)
theorem zkY(l:List B)(h:OKB l)(hl:l.length<1000000000):∀(m:Nat) (t:Tm) (left:Nat),mu l t=m->t.valid=true->left<=2000->
  ∃v,(∀hp,S 131 [.pv none (.sl (some 5) (bds l)),t.av,.pv none (.int .i64 left)] hp=some (.ret v,hp))/\RV (rs l t) left v:=by
 intro m
 induction m using Nat.strongRecOn with
 |_ m ih=>
  intro t left hm hv hleft
  have hfo:=zfV l t h hl hv
  have hR:=zvZ h hv
  have hA:=fun u=>zu5 (u:=u) h hv
  obtain⟨hv1,_,_,_⟩:=znp h _ t rfl hv
  generalize ht':flw l t=t' at hfo hR hA hv1
  have hs1:=valid_size hv1
  have hlen:=Tm.zwT t'.args
  have hse:=t'.size_eq
  have hRs:(rs l t).size=1+Tm.sizes (t'.args.map (rs l)):=by rw[hR,Tm.size_eq];rfl
  refine zcT (ps:=[(none,.sl (some 5) (bds l)),(some 4,t.pv),(none,.int .i64 left)]) (RV (rs l t) left) rfl rfl rfl (fun hp=>rfl) rfl ?_
  have hb:zaY [(none,.pv none (.int .i64 0)),(none,.pv none (.int .i64 0)),(none,.pv none (.str [])),(none,.tsl (some 4) [])] [0,1,2] [.pv none (.int .i64 t'.kind),.pv none (.int .i64 t'.n),.pv none (.str t'.name)]=some (.agg [(none,.pv none (.int .i64 t'.kind)),(none,.pv none (.int .i64 t'.n)),(none,.pv none (.str t'.name)),(none,.tsl (some 4) [])]):=rfl
  simp only[Tm.av] at hfo
  have w1:IntKind.i64.wrap ((left:Int) - 1)=(left:Int) - 1:=zan (by omega) (by omega)
  simp -dsimp -implicitDefEqProofs only[go_sem,seval,↓reduceIte,Tm.av,hfo,zaj,zav,zat,zad,Tm.pvs_len,hb,zag (Nat.zero_le _),w1]
  refine za0 (fun n st=>∃(i:Nat) (es:List PV) (e:Int),n=t'.args.length - i/\i<=t'.args.length/\es.length=i/\-1<=e/\e<2000/\
   (1+Tm.sizes ((t'.args.map (rs l)).take i)<=left->es=Tm.pvs ((t'.args.map (rs l)).take i)/\e=(left:Int) - 1 - Tm.sizes ((t'.args.map (rs l)).take i))/\(left<1+Tm.sizes ((t'.args.map (rs l)).take i)->e= -1)/\
   st=⟨[(0,.pv none (.sl (some 5) (bds l))),(2,.pv none (.int .i64 e)),(4,.ptr 0 0),(6,.ptr 1 0),(8,.ptr 3 0),(9,.pv none (.int .i64 i))],appG t' es⟩) (n:=t'.args.length) ⟨0,[],(left:Int) - 1,rfl,Nat.zero_le _,rfl,by omega,by omega,fun _=>⟨rfl,by simp[Tm.sizes]⟩,fun hx=>by simp[Tm.sizes] at hx;omega,?_⟩ ?_
  ·simp -dsimp -implicitDefEqProofs only[go_sem,seval,↓reduceIte]
   try rfl
  ·rintro n st ⟨i,es,e,rfl,hi,hel,he1,he2,hg,hbad,rfl⟩
   by_cases hc0:i<t'.args.length/\0<=e
   ·obtain⟨hc1,hc2⟩:=hc0
    have hc:(i:Int)<(t'.args.length:Int):=by omega
    have hgood:1+Tm.sizes ((t'.args.map (rs l)).take i)<=left:=by
     rcases Nat.lt_or_ge left (1+Tm.sizes ((t'.args.map (rs l)).take i)) with hx|hx
     ·have:=hbad hx;omega
     ·exact hx
    obtain⟨rfl,he⟩:=hg hgood
    obtain⟨u,hu⟩:∃u,t'.args[i]? =some u:=⟨_,List.getElem?_eq_getElem hc1⟩
    have hum:=List.mem_of_getElem? hu
    have hrt:=Tm.zw0 (l:=t'.args.map (rs l)) (i:=i) (t:=rs l u) (by simp[hu])
    have hpt:=Tm.zwX (l:=t'.args.map (rs l)) (i:=i) (t:=rs l u) (by simp[hu])
    obtain⟨ha1,ha2⟩:=hA u hum
    obtain⟨e0,rfl⟩:∃e0:Nat,e=(e0:Int):=⟨e.toNat,by omega⟩
    obtain⟨v,hcall,p,e1,rfl,hy,hn⟩:=ih _ (by omega) u e0 rfl ha2 (by omega)
    simp only[Tm.av] at hcall
    have w2:IntKind.i64.wrap ((i:Int)+1)=((i+1:Nat):Int):=by rw[zan (by omega) (by omega)];omega
    have hlim:i+1<=lim:=by unfold lim;omega
    have hge:(0:Int)<=(e0:Int):=by omega
    simp -dsimp -implicitDefEqProofs only[go_sem,seval,↓reduceIte,appG,zad,Tm.pvs_len,hc,hge,zab (Tm.pvs_get hu),hcall,w2,hel,hlim,zag (Nat.zero_le _),zaX (Nat.zero_le _)]
    refine⟨t'.args.length - (i+1),by omega,i+1,Tm.pvs ((t'.args.map (rs l)).take i)++[p],e1,rfl,by omega,by rw[List.length_append,hel];rfl,?_,?_,?_,?_,?_⟩
    ·rcases Nat.lt_or_ge e0 (rs l u).size with hx|hx
     ·have:=hn hx;omega
     ·have:=(hy hx).2;omega
    ·rcases Nat.lt_or_ge e0 (rs l u).size with hx|hx
     ·have:=hn hx;omega
     ·have:=(hy hx).2;omega
    ·intro hx
     rw[hrt] at hx ⊢
     obtain⟨y1,y2⟩:=hy (by omega)
     exact⟨by rw[y1,hpt],by omega⟩
    ·intro hx
     rw[hrt] at hx
     exact hn (by omega)
    ·rw[List.length_append,hel]
     rfl
   ·have hz:e= -1\/(rs l t).size<=left:=by
     rcases Nat.lt_or_ge left (1+Tm.sizes ((t'.args.map (rs l)).take i)) with hx|hx
     ·exact .inl (hbad hx)
     ·have hy:=(hg hx).2
      have hi2:i=t'.args.length:=by omega
      have:(t'.args.map (rs l)).take i=t'.args.map (rs l):=List.take_of_length_le (by rw[List.length_map];omega)
      rw[this] at hx
      exact .inr (by omega)
    have hRV:∃p,p=rawP t'.kind t'.n t'.name es/\RV (rs l t) left (.tuple [.pv (some 4) p,.pv none (.int .i64 e)]):=by
     refine⟨_,rfl,_,e,rfl,fun hx=> ?_,fun hx=> ?_⟩
     ·have h2:=Tm.zwW (t'.args.map (rs l)) i
      obtain⟨y1,y2⟩:=hg (by omega)
      have hi2:i=t'.args.length:=by omega
      have:(t'.args.map (rs l)).take i=t'.args.map (rs l):=List.take_of_length_le (by rw[List.length_map];omega)
      rw[this] at y1 y2
      refine⟨?_,by omega⟩
      rw[y1,hR]
      rfl
     ·rcases hz with hz|hz
      ·exact hz
      ·omega
    obtain⟨p,rfl,hRV⟩:=hRV
    have hfz:∀a0 a1 a2 a3 a4,Am.frozen (.tuple [.pv (some 4) (rawP t'.kind t'.n t'.name es),.pv none (.int .i64 e)]) (.tuple [.agg [(none,.pv none (.int .i64 t'.kind)),(none,.pv none (.int .i64 t'.n)),(none,.pv none (.str t'.name)),(none,.sl (some 4) 5 es.length 0 es.length)],.pv none (.int .i64 e)]) [a0,a1,a2,a3,a4,.arr (some 4) es false]:=fun a0 a1 a2 a3 a4=>by
     refine⟨[a0,a1,a2,a3,a4,.arr (some 4) es true],?_⟩
     have e:∀l hp,AV.freeze (7+1) (.agg l) hp=match AV.freeze.go 7 l hp with|some (ps,hp')=>some (.agg ps,hp')|none=>none:=fun _ _=>rfl
     have e2:∀p hp,AV.freeze (7+1) (.pv none p) hp=some (p,hp):=fun _ _=>rfl
     simp[AV.freezeRes,zap,deep,e,e2,AV.freeze.go,AV.freeze,rawP,pvs,AV.shp]
     try rfl
    by_cases hc1:i<t'.args.length
    ·have hc:(i:Int)<(t'.args.length:Int):=by omega
     have hge:¬(0:Int)<=e:=fun hx=>hc0 ⟨hc1,hx⟩
     simp -dsimp -implicitDefEqProofs only[go_sem,seval,↓reduceIte,appG,zad,Tm.pvs_len,hc,hge,zag (Nat.zero_le _),zaX (Nat.zero_le _),zay]
     exact⟨_,hfz _ _ _ _ _,hRV⟩
    ·have hc:¬(i:Int)<(t'.args.length:Int):=by omega
     simp -dsimp -implicitDefEqProofs only[go_sem,seval,↓reduceIte,appG,zad,Tm.pvs_len,hc,zag (Nat.zero_le _),zaX (Nat.zero_le _),zay]
     exact⟨_,hfz _ _ _ _ _,hRV⟩
def zt:Tm:=.mk 0 0 [] []
noncomputable def rsd(l:List B)(t:Tm):Tm × Bool:=if(rs l t).size<=2000 then(rs l t,true) else(zt,false)
theorem zep(p q:PV)(s s':Sh)(hp:Heap):Am.frozen (.tuple [.pv s p,.pv s' q]) (.tuple [.pv s p,.pv s' q]) hp:=by
 refine⟨hp,?_⟩
 have:=zac (hp:=hp) [(s,p),(s',q)]
 simp only[pvs,List.map_cons,List.map_nil] at this
 simp only[AV.freezeRes,this]
 rfl
theorem zbo(q:PV)(hp:Heap)(r:Nat)(h:hp[r]? =some (.arr (some 4) [] false)):Am.frozen (.tuple [zt.av,.pv none q]) (.tuple [.agg [(none,.pv none (.int .i64 0)),(none,.pv none (.int .i64 0)),(none,.pv none (.str [])),(none,.sl (some 4) r 0 0 0)],.pv none q]) hp:=by
 refine⟨hp.set r (.arr (some 4) [] true),?_⟩
 have e:∀l hp,AV.freeze (7+1) (.agg l) hp=match AV.freeze.go 7 l hp with|some (ps,hp')=>some (.agg ps,hp')|none=>none:=fun _ _=>rfl
 have e2:∀p hp,AV.freeze (7+1) (.pv none p) hp=some (p,hp):=fun _ _=>rfl
 simp[AV.freezeRes,zap,deep,e,e2,AV.freeze.go,AV.freeze,h,pvs,AV.shp]
 rfl
theorem hb0:zaY [(none,.pv none (.int .i64 0)),(none,.pv none (.int .i64 0)),(none,.pv none (.str [])),(none,.tsl (some 4) [])] [] []=some (.agg [(none,.pv none (.int .i64 0)),(none,.pv none (.int .i64 0)),(none,.pv none (.str [])),(none,.tsl (some 4) [])]):=rfl
theorem zty(l:List B)(h:OKB l)(hl:l.length<1000000000)(t:Tm)(hv:t.valid=true)(hp:Heap):
  S 95 [.pv none (.sl (some 5) (bds l)),t.av] hp=some (.ret (.tuple [(rsd l t).1.av,.pv none (.bool (rsd l t).2)]),hp):=by
 refine zao rfl rfl rfl (zac [(none,.sl (some 5) (bds l)),(some 4,t.pv)]) rfl ?_
 obtain⟨v,hcall,p,e,rfl,hy,hn⟩:=zkY l h hl _ t 2000 rfl hv (Nat.le_refl _)
 have e2:((2000:Nat):Int)=2000:=rfl
 simp only[Tm.av,e2] at hcall hy
 unfold rsd
 by_cases hs:(rs l t).size<=2000
 ·obtain⟨rfl,rfl⟩:=hy hs
  have hc:¬(2000:Int) - ((rs l t).size:Int)<0:=by omega
  rw[if_pos hs];dsimp only
  simp -dsimp -implicitDefEqProofs only[go_sem,seval,↓reduceIte,Tm.av,hcall,hc,zag (Nat.zero_le _)]
  exact zep _ _ _ _ _
 ·obtain rfl:=hn (by omega)
  rw[if_neg hs];dsimp only
  simp -dsimp -implicitDefEqProofs only[go_sem,seval,↓reduceIte,Tm.av,hcall,zag (Nat.zero_le _),hb0]
  exact zbo _ _ _ rfl
def ints(l:List Int):List PV:=l.map (.int .i64)
theorem za7(l:List Int):(ints l).length=l.length:=by simp[ints]
theorem zc6{l:List Int}{i:Nat}{x:Int}(h:l[i]? =some x):(ints l)[i]? =some (.int .i64 x):=by simp[ints,h]
theorem zr2(l:List Int)(x:Int):ints l++[.int .i64 x]=ints (l++[x]):=by simp[ints]
theorem zmv(l:List Int)(x:Int)(hl:l.length<1000000000)(hp:Heap):∃y:Int,(∀hp,S 137 [.pv none (.sl none (ints l)),.pv none (.int .i64 x)] hp=some (.ret (.pv none (.int .i64 y)),hp))/\(y<0↔x ∉ l):=by
 obtain⟨v,h1,y,rfl,h2⟩:=zcT (F:=find tab) (prim:=prim) (f:=137) (ps:=[(none,.sl none (ints l)),(none,.int .i64 x)]) (args:=[.pv none (.sl none (ints l)),.pv none (.int .i64 x)]) (fun v=>∃y:Int,v=.pv none (.int .i64 y)/\(y<0↔x ∉ l)) rfl rfl rfl (fun hp=>rfl) rfl (by
  simp -dsimp -implicitDefEqProofs only[go_sem,seval,↓reduceIte,za7]
  refine zbQ (α:=Unit) l.length (fun i _=>∀j,j<i->l[j]?≠some x) (fun i _=>⟨[(0,.pv none (.sl none (ints l))),(1,.pv none (.int .i64 x)),(5,.pv none (.int .i64 i))],[]⟩) () ⟨fun j hj=>by omega,rfl⟩ ?_ ?_
  ·rintro i - h hinv
   have hc:(i:Int)<(l.length:Int):=by omega
   obtain⟨b,hb⟩:∃b,l[i]? =some b:=⟨_,List.getElem?_eq_getElem h⟩
   have w2:IntKind.i64.wrap ((i:Int)+1)=((i+1:Nat):Int):=by rw[zan (by omega) (by omega)];omega
   by_cases hbx:b=x
   ·simp -dsimp -implicitDefEqProofs only[go_sem,seval,↓reduceIte,za7,hc,zab (zc6 hb),hbx]
    refine⟨_,rfl,i,rfl,?_⟩
    have:x∈l:=by rw[<-hbx];exact List.mem_of_getElem? hb
    constructor
    ·intro h;omega
    ·intro h;exact absurd this h
   ·simp -dsimp -implicitDefEqProofs only[go_sem,seval,↓reduceIte,za7,hc,zab (zc6 hb),hbx,w2]
    refine⟨(),fun j hj=> ?_⟩
    rcases Nat.lt_or_ge j i with h|h
    ·exact hinv j h
    ·have:j=i:=by omega
     subst this
     rw[hb]
     intro e
     cases e
     exact hbx rfl
  ·rintro - hinv
   have hc:¬(l.length:Int)<(l.length:Int):=by omega
   simp -dsimp -implicitDefEqProofs only[go_sem,seval,↓reduceIte,za7,hc]
   refine⟨_,rfl,-1,rfl,?_⟩
   constructor
   ·intro _ hm
    obtain⟨j,hlt,hj⟩:=List.getElem_of_mem hm
    exact hinv j hlt (by rw[List.getElem?_eq_getElem hlt,hj])
   ·intro _;omega)
 exact⟨y,h1,h2⟩
def vadd(s:List Int)(w:Int):List Int:=if w∈s then s else s++[w]
def vads(s:List Int)(ws:List Int):List Int:=ws.foldl vadd s
theorem zfu(s a b:List Int):vads s (a++b)=vads (vads s a) b:=by simp[vads]
theorem zfv(ws:List Int):∀s:List Int,(vads s ws).length<=s.length+ws.length:=by
 induction ws with
 |nil=>intro s;simp[vads]
 |cons w r ih=>
  intro s
  have:=ih (vadd s w)
  have h2:(vadd s w).length<=s.length+1:=by unfold vadd;split <;> simp
  simp only[vads,List.foldl_cons,List.length_cons] at this ⊢
  omega
theorem znq(ws:List Int):∀(s:List Int) (x:Int),x∈vads s ws↔x∈s\/x∈ws:=by
 induction ws with
 |nil=>intro s x;simp[vads]
 |cons w r ih=>
  intro s x
  have:=ih (vadd s w) x
  simp only[vads,List.foldl_cons] at this ⊢
  rw[this]
  unfold vadd
  split
  ·rename_i h
   simp only[List.mem_cons]
   constructor
   ·rintro(h1|h1) <;> simp[h1]
   ·rintro(h1|rfl|h1)
    ·exact .inl h1
    ·exact .inl h
    ·exact .inr h1
  ·simp only[List.mem_append,List.mem_cons,List.not_mem_nil,or_false]
   constructor
   ·rintro((h1|h1)|h1) <;> simp[h1]
   ·rintro(h1|h1|h1) <;> simp[h1]
def IsV(s:AV)(hp:Heap)(l:List Int):Prop:=(s=.tsl none []/\l=[])\/∃r,s=.sl none r l.length 0 l.length/\hp[r]? =some (.arr none (ints l) false)
def PresV(s:AV)(hp hp':Heap):Prop:=hp.length<=hp'.length/\∀(i:Nat) (x:AObj),hp[i]? =some x->(∀v o n,s≠.sl none i v o n)->hp'[i]? =some x
def OwnV(s:AV)(hp:Heap)(s':AV):Prop:=∀r v o n,s'=.sl none r v o n->(∃v o n,s=.sl none r v o n)\/hp.length<=r
theorem PresV.refl(s:AV)(hp:Heap):PresV s hp hp:=⟨Nat.le_refl _,fun _ _ h _=>h⟩
theorem OwnV.refl(s:AV)(hp:Heap):OwnV s hp s:=fun r v o n h=>.inl ⟨v,o,n,h⟩
theorem IsV.more{s:AV}{hp:Heap}{l:List Int}(h:IsV s hp l)(e:Heap):IsV s (hp++e) l:=by
 rcases h with h|⟨r,h1,h2⟩
 ·exact .inl h
 ·exact .inr ⟨r,h1,by rw[List.getElem?_append_left (zbI h2)];exact h2⟩
theorem IsV.not_box{s:AV}{hp:Heap}{l:List Int}(h:IsV s hp l){i:Nat}{sh:Sh}{v:AV}(hi:hp[i]? =some (.box sh v)):∀v o n,s≠.sl none i v o n:=by
 rcases h with⟨rfl,_⟩|⟨r,rfl,h2⟩
 ·intro v o n e;cases e
 ·intro v o n e;cases e;rw[hi] at h2;cases h2
theorem OwnV.trans{s s1 s2:AV}{hp hp1:Heap}(h1:OwnV s hp s1)(hl:hp.length<=hp1.length)(h2:OwnV s1 hp1 s2):OwnV s hp s2:=fun r v o n e=>by
 rcases h2 r v o n e with⟨v',o',n',e'⟩|h
 ·exact h1 r v' o' n' e'
 ·exact .inr (by omega)
theorem PresV.trans{s s1:AV}{hp hp1 hp2:Heap}(h1:PresV s hp hp1)(ho:OwnV s hp s1)(h2:PresV s1 hp1 hp2):PresV s hp hp2:=
 ⟨Nat.le_trans h1.1 h2.1,fun i x hx hne=>h2.2 i x (h1.2 i x hx hne) fun v o n e=>by
  rcases ho i v o n e with⟨v',o',n',e'⟩|h
  ·exact hne v' o' n' e'
  ·have:=zbI hx;omega⟩
theorem PresV.take{s:AV}{hp hp1:Heap}{n:Nat}(h:PresV s hp hp1)(hn:hp.length<=n):PresV s hp (hp1.take n):=
 ⟨by rw[List.length_take];have:=h.1;omega,fun i x hx hne=>by
  have:=zbI hx
  rw[List.getElem?_take,if_pos (by omega)]
  exact h.2 i x hx hne⟩
theorem PresV.less{s:AV}{hp e hp1:Heap}(h:PresV s (hp++e) hp1):PresV s hp hp1:=
 ⟨by have:=h.1;simp at this;omega,fun i x hx hne=>h.2 i x (by rw[List.getElem?_append_left (zbI hx)];exact hx) hne⟩
theorem OwnV.less{s s':AV}{hp e:Heap}(h:OwnV s (hp++e) s'):OwnV s hp s':=fun r v o n h1=>by
 rcases h r v o n h1 with h|h
 ·exact .inl h
 ·exact .inr (by simp at h;omega)
theorem IsV.take{s:AV}{hp:Heap}{l:List Int}{n:Nat}(h:IsV s hp l)(hr:∀q∈s.refsIn,q<n):IsV s (hp.take n) l:=by
 rcases h with h|⟨r,rfl,h2⟩
 ·exact .inl h
 ·have:r<n:=hr r (by simp[AV.refsIn])
  exact .inr ⟨r,rfl,by rw[List.getElem?_take,if_pos this];exact h2⟩
theorem IsV.freeze{s:AV}{hp:Heap}{l:List Int}(h:IsV s hp l):∃hp1,AV.freeze deep s hp=some (.sl none (ints l),hp1)/\s.shp=none/\s.plain=true:=by
 rcases h with⟨rfl,rfl⟩|⟨r,rfl,h⟩
 ·exact⟨hp,rfl,rfl,rfl⟩
 ·exact⟨hp.set r (.arr none (ints l) true),by simp[AV.freeze,deep,h,za7],rfl,rfl⟩
theorem zvb{s:AV}{hp:Heap}{l:List Int}(h:IsV s hp l)(x:Int)(hl:l.length<1000000000):∃s' H',za8 none hp [s,.tsl none [.int .i64 x]]=some (s',H')/\IsV s' H' (l++[x])/\PresV s hp H'/\OwnV s hp s':=by
 have hlim:l.length+1<=lim:=by unfold lim;omega
 rcases h with⟨rfl,rfl⟩|⟨r,rfl,h⟩
 ·refine⟨_,_,rfl,.inr ⟨hp.length,rfl,?_⟩,⟨by simp,fun i x hx _=>by rw[List.getElem?_append_left (zbI hx)];exact hx⟩,fun r v o n e=>by cases e;exact .inr (Nat.le_refl _)⟩
  rw[List.getElem?_append_right (Nat.le_refl _),Nat.sub_self]
  rfl
 ·have hlt:=zbI h
  refine⟨.sl none r (l.length+1) 0 (l.length+1),hp.set r (.arr none (ints (l++[x])) false),?_,.inr ⟨r,by simp,by rw[List.getElem?_set_self hlt]⟩,⟨by simp,fun i x hx hne=> ?_⟩,fun r v o n e=>by cases e;exact .inl ⟨_,_,_,rfl⟩⟩
  ·simp[za8,aappend,elems,h,za7,hlim]
   simp[ints]
  ·have:i≠r:=fun e=>hne _ _ _ (by rw[e])
   rw[List.getElem?_set_ne (Ne.symm this)]
   exact hx
theorem zo3{s:AV}{hp:Heap}{l:List Int}(h:IsV s hp l)(x:Int)(hl:l.length<1000000000):∃y:Int,S 137 [s,.pv none (.int .i64 x)] hp=some (.ret (.pv none (.int .i64 y)),hp)/\(y<0↔x ∉ l):=by
 obtain⟨y,h1,h2⟩:=zmv l x hl hp
 obtain⟨hp1,z1,z2,_⟩:=h.freeze
 refine⟨y,?_,h2⟩
 have:=zcc (F:=find tab) (prim:=prim) (f:=137) (args:=[s,.pv none (.int .i64 x)]) (ps:=[(none,.sl none (ints l)),(none,.int .i64 x)]) (hp:=hp) (hp1:=hp1) rfl rfl rfl (by
  have e:∀H:Heap,AV.freeze deep (.pv none (.int .i64 x)) H=some (.int .i64 x,H):=fun _=>rfl
  simp only[zap,z1,e,z2];rfl) (h1 [])
 exact this
theorem zjx{s s1:AV}{hp e H:Heap}{l:List Int}(h1:IsV s1 H l)(h2:PresV s (hp++e) H)(h3:OwnV s (hp++e) s1):
  IsV s1 (if s1.refsIn.all (fun q=>decide (q<hp.length))=true then H.take hp.length else H) l/\PresV s hp (if s1.refsIn.all (fun q=>decide (q<hp.length))=true then H.take hp.length else H)/\OwnV s hp s1:=by
 refine⟨?_,?_,h3.less⟩
 ·split
  ·rename_i hr
   exact h1.take fun q hq=>by simpa using List.all_eq_true.1 hr q hq
  ·exact h1
 ·split
  ·exact h2.less.take (Nat.le_refl _)
  ·exact h2.less
theorem zhI(t:Tm)(ih:∀u∈t.args,∀(s:AV) (hp:Heap) (l:List Int),IsV s hp l->u.fits=true->l.length+u.size<100000000->∃s' hp',S 113 [s,u.av] hp=some (.ret s',hp')/\IsV s' hp' (vads l u.occ)/\PresV s hp hp'/\OwnV s hp s')
  (s:AV)(H0:Heap)(n0 b:Nat)(l:List Int)(hB:IsV s H0 l)(h1:H0[n0]? =some (.box (some 4) (.pv (some 4) t.pv)))(hf:t.fits=true)(hl:l.length+Tm.sizes t.args<100000000)(Q:AExit->St->Prop)
  (hQ:∀(s1:AV) (H:Heap) (r:Fr),IsV s1 H (vads l (Tm.occs t.args))->PresV s H0 H->OwnV s H0 s1->Q .normal ⟨(0,s1)::r,H⟩):
  W Z L b c113k11 ⟨[(0,s),(3,.ptr n0 0),(5,.pv none (.int .i64 0))],H0⟩ Q:=by
 have hts:=t.size_eq
 have hlen:=Tm.zwT t.args
 have nb1:=hB.not_box h1
 simp -dsimp -implicitDefEqProofs only[c113b10,c113k11,go_sem,seval,↓reduceIte]
 refine zbQ (α:=AV × Heap) t.args.length (fun i a=>IsV a.1 a.2 (vads l (Tm.occs (t.args.take i)))/\PresV s H0 a.2/\OwnV s H0 a.1)
  (fun i a=>⟨[(0,a.1),(3,.ptr n0 0),(5,.pv none (.int .i64 i))],a.2⟩) (s,H0) ⟨⟨hB,PresV.refl _ _,OwnV.refl _ _⟩,rfl⟩ ?_ ?_
 ·rintro i ⟨s1,H⟩ h ⟨k1,k2,k3⟩
  dsimp only at k1 k2 k3
  have hc:(i:Int)<(t.args.length:Int):=by omega
  have b1:=k2.2 n0 _ h1 nb1
  obtain⟨u,hu⟩:∃u,t.args[i]? =some u:=⟨_,List.getElem?_eq_getElem h⟩
  have hum:=List.mem_of_getElem? hu
  have hst:=Tm.zw0 hu
  have hle:=Tm.zwW t.args (i+1)
  have hvl:=zfv (Tm.occs (t.args.take i)) l
  have hol:=Tm.zw9 (t.args.take i)
  obtain⟨s2,H2,hcall,p1,p2,p3⟩:=ih u hum s1 H _ k1 (Tm.zwU hf hum) (by omega)
  simp only[Tm.av] at hcall
  have w2:IntKind.i64.wrap ((i:Int)+1)=((i+1:Nat):Int):=by rw[zan (by omega) (by omega)];omega
  simp -dsimp -implicitDefEqProofs only[c113b10,c113k11,go_sem,seval,↓reduceIte,zad,Tm.pvs_len,hc,b1,zab (Tm.pvs_get hu),hcall,w2]
  have hcc:=zjl H0.length b [(0,s2),(3,.ptr n0 0),(5,.pv none (.int .i64 ((i+1:Nat):Int)))] H2
  refine⟨(s2,collect H0.length b [(0,s2),(3,.ptr n0 0),(5,.pv none (.int .i64 ((i+1:Nat):Int)))] H2),?_,rfl⟩
  generalize collect H0.length b [(0,s2),(3,.ptr n0 0),(5,.pv none (.int .i64 ((i+1:Nat):Int)))] H2=HC at hcc
  have q1:=k2.trans k3 p2
  have q2:=k3.trans k2.1 p3
  rw[Tm.zw6 hu,zfu]
  rcases hcc with rfl|⟨rfl,hr⟩
  ·exact⟨p1,q1,q2⟩
  ·exact⟨p1.take (hr (0,s2) (by simp)),q1.take (Nat.le_refl _),q2⟩
 ·rintro⟨s1,H⟩ ⟨k1,k2,k3⟩
  dsimp only at k1 k2 k3
  have hc:¬(t.args.length:Int)<(t.args.length:Int):=by omega
  have b1:=k2.2 n0 _ h1 nb1
  rw[List.take_length] at k1
  simp -dsimp -implicitDefEqProofs only[c113b10,c113k11,go_sem,seval,↓reduceIte,zad,Tm.pvs_len,hc,b1]
  exact hQ s1 H _ k1 k2 k3
theorem ztK:∀(t:Tm) (s:AV) (hp:Heap) (l:List Int),IsV s hp l->t.fits=true->l.length+t.size<100000000->∃s' hp',S 113 [s,t.av] hp=some (.ret s',hp')/\IsV s' hp' (vads l t.occ)/\PresV s hp hp'/\OwnV s hp s':=by
 intro t
 induction t using Tm.zwV with
 |h t ih=>
  intro s hp l hB hf ht
  have hts:=t.size_eq
  have hn0:∀H:Heap,zbD none H=some (.sl none H.length 0 0 0,H++[.arr none [] false]):=fun H=>zbH (sh:=none) (by decide)
  have hB1:=hB.more [.box (some 4) (.pv (some 4) t.pv),.arr none [] false]
  obtain⟨y,hpos,hy⟩:=zo3 hB1 t.n (by omega)
  refine zbu (fun v hp'=>IsV v hp' (vads l t.occ)/\PresV s hp hp'/\OwnV s hp v) rfl rfl rfl rfl ?_
  have hbox:(hp++([.box (some 4) (.pv (some 4) t.pv),.arr none [] false]:Heap))[hp.length]? =some (.box (some 4) (.pv (some 4) t.pv)):=by rw[zae];rfl
  rw[Tm.zw1]
  by_cases hk:t.kind=0
  ·rw[if_pos hk]
   have ha:t.args=[]:=by rw[za1 hf hk];rfl
   by_cases hm:t.n∈l
   ·have e:vads l [t.n]=l:=by simp[vads,vadd,hm]
    have hy':¬y<0:=fun h=>hy.1 h hm
    rw[e]
    simp -dsimp -implicitDefEqProofs only[go_sem,seval,↓reduceIte,Tm.av,zaj,zav,zad,hk,hn0,hpos,hy',List.append_assoc,zah,zae,zai,zaf,Nat.add_assoc,List.length_append]
    refine zhI t ih s _ hp.length hp.length l hB1 hbox hf (by omega) _ fun s1 H r k1 k2 k3=> ?_
    rw[ha] at k1
    simp -dsimp -implicitDefEqProofs only[go_sem,seval,↓reduceIte]
    exact zjx k1 k2 k3
   ·have e:vads l [t.n]=l++[t.n]:=by simp[vads,vadd,hm]
    have hy':y<0:=hy.2 hm
    rw[e]
    obtain⟨s1,H1,happ,k1,k2,k3⟩:=zvb hB1 t.n (by omega)
    have b1:=k2.2 hp.length _ hbox (hB1.not_box hbox)
    simp -dsimp -implicitDefEqProofs only[go_sem,seval,↓reduceIte,Tm.av,zaj,zav,zad,hk,hn0,hpos,hy',happ,List.append_assoc,zah,zae,zai,zaf,Nat.add_assoc,List.length_append]
    refine zhI t ih s1 _ hp.length hp.length _ k1 b1 hf (by rw[List.length_append,List.length_singleton];omega) _ fun s2 H r j1 j2 j3=> ?_
    rw[ha] at j1
    simp -dsimp -implicitDefEqProofs only[go_sem,seval,↓reduceIte]
    exact zjx j1 (k2.trans k3 j2) (k3.trans k2.1 j3)
  ·rw[if_neg hk]
   simp -dsimp -implicitDefEqProofs only[go_sem,seval,↓reduceIte,Tm.av,zaj,zav,zad,hk,hn0,List.append_assoc,zah,zae,zai,zaf,Nat.add_assoc,List.length_append]
   refine zhI t ih s _ hp.length hp.length l hB1 hbox hf (by omega) _ fun s1 H r k1 k2 k3=> ?_
   simp -dsimp -implicitDefEqProofs only[go_sem,seval,↓reduceIte]
   exact zjx k1 k2 k3
theorem zo4{s:AV}{H:Heap}{l:List Int}(h:IsV s H l):Am.frozen (.pv none (.sl none (ints l))) s H:=by
 rcases h with⟨rfl,rfl⟩|⟨r,rfl,h⟩
 ·exact⟨H,rfl⟩
 ·exact⟨H.set r (.arr none (ints l) true),by simp[AV.freezeRes,AV.freeze,deep,h,za7,AV.shp]⟩
theorem zf2{st:St}{o r:Nat}{sh:Sh}{v q:AV}{K:AV->Prop}[Tag K](h1:st.fr.look o=some (.ptr r 0))(h2:st.hp[r]? =some (.box sh v)):valK (tupO (zsA (zdk st (o,some sh)) (some [q]))) K=K (.tuple [v,q]):=by
 rw[zok,h1]
 simp only[zq4 h2]
 rfl
theorem zwm{t:Tm}(h:t.fits=true)(hk:t.kind=0):0<=t.n/\t.n<=1099511627776:=by
 rw[Tm.fits_eq] at h
 have h1:t.node=true:=by simp at h;exact h.1
 cases t with
 |mk k n s ts=>
  simp only[Tm.kind] at hk
  subst hk
  simp[Tm.node,Tm.kind,Tm.n,Tm.name,Tm.args] at h1
  obtain⟨⟨⟨h2,h3⟩,_⟩,_⟩:=h1
  exact⟨of_decide_eq_true h2,of_decide_eq_true h3⟩
theorem zvc:∀{t:Tm},t.fits=true->∀w∈t.occ,0<=w/\w<=1099511627776:=by
 intro t
 induction t using Tm.zwV with
 |h t ih=>
  intro hf w hw
  rw[Tm.zw1] at hw
  by_cases hk:t.kind=0
  ·rw[if_pos hk,List.mem_singleton] at hw
   rw[hw]
   exact zwm hf hk
  ·rw[if_neg hk] at hw
   obtain⟨u,hu,h⟩:=Tm.zxf hw
   exact ih u hu (Tm.zwU hf hu) w h
def zdd(v:Int):List (Int × PV)->Option PV
 |[]=>none
 |x::r=>if x.1=v then some x.2 else zdd v r
def mPut(v:Int)(p:PV):List (Int × PV)->List (Int × PV)
 |[]=>[(v,p)]
 |x::r=>if x.1=v then(v,p)::r else x::mPut v p r
def za5(m:List (Int × PV)):List (PV × PV):=m.map fun x=>(.int .i64 x.1,x.2)
theorem zfU(v:Int):∀m,afind false (.int .i64 v) (za5 m)=some (zdd v m)
 |[]=>rfl
 |x::r=>by
  have ih:=zfU v r
  unfold za5 at ih ⊢
  simp only[List.map_cons,afind,PV.same,if_true,zdd]
  by_cases h:x.1=v
  ·simp[h]
  ·have h':¬v=x.1:=fun e=>h e.symm
   simp only[decide_eq_false h',if_neg h]
   exact ih
theorem zde(v:Int)(p:PV):∀m,aput false (.int .i64 v) p (za5 m)=some (za5 (mPut v p m))
 |[]=>rfl
 |x::r=>by
  have ih:=zde v p r
  unfold za5 at ih ⊢
  simp only[List.map_cons,aput,PV.same,if_true,mPut]
  by_cases h:x.1=v
  ·simp[h]
  ·have h':¬v=x.1:=fun e=>h e.symm
   simp only[decide_eq_false h',if_neg h,List.map_cons]
   rw[ih]
theorem zd1(v w:Int)(p:PV):∀m,zdd v (mPut w p m)=if v=w then some p else zdd v m
 |[]=>by
  by_cases h:v=w
  ·simp[mPut,zdd,h]
  ·have h':¬w=v:=fun e=>h e.symm
   simp[mPut,zdd,h,h']
 |x::r=>by
  have ih:=zd1 v w p r
  unfold mPut
  by_cases h:x.1=w
  ·rw[if_pos h]
   by_cases e:v=w
   ·simp[zdd,e]
   ·have e':¬w=v:=fun q=>e q.symm
    have e2:¬x.1=v:=fun q=>e (q.symm.trans h)
    simp[zdd,e,e',e2]
  ·rw[if_neg h]
   simp only[zdd,ih]
   by_cases e:x.1=v
   ·have e2:¬v=w:=fun q=>h (e.trans q)
    simp[e,e2]
   ·simp[e]
theorem zht{m:List (Int × PV)}{z:PV}{hp:Heap}{r:Nat}{s:Sh}{v:Int}(h:hp[r]? =some (.map none (za5 m))):zbh false none (.pv none z) false hp [.map r,.pv s (.int .i64 v)]=some (.pv none ((zdd v m).getD z)):=by
 have hf:=zfU v m
 cases hm:zdd v m with
 |none=>rw[hm] at hf;exact zff h hf
 |some x=>rw[hm] at hf;exact zfe h hf
def zf0(l:List Int):List (Int × PV):=l.map fun v=>(v,.int .i64 1)
theorem zf1(v:Int):∀l:List Int,(zdd v (zf0 l)).getD (.int .i64 0)=.int .i64 (if v∈l then 1 else 0)
 |[]=>rfl
 |x::r=>by
  have ih:=zf1 v r
  unfold zf0 at ih ⊢
  simp only[List.map_cons,zdd]
  by_cases h:x=v
  ·subst h;simp
  ·have h':¬v=x:=fun e=>h e.symm
   rw[if_neg h,ih]
   simp[h']
theorem zk4(v:Int):∀l:List Int,v ∉ l->mPut v (.int .i64 1) (zf0 l)=zf0 (l++[v])
 |[],_=>rfl
 |x::r,h=>by
  have ih:=zk4 v r fun hm=>h (List.mem_cons_of_mem _ hm)
  unfold zf0 at ih ⊢
  simp only[List.map_cons,mPut,List.cons_append]
  have h':¬x=v:=fun e=>h (by rw[e];exact List.mem_cons_self)
  rw[if_neg h',ih]
def gV(t:Tm)(l:List Int):Heap:=[.box (some 4) (.pv (some 4) t.pv),.arr none [] false,.box none (.sl none 3 l.length 0 l.length),.arr none (ints l) false,.map none (za5 (zf0 l)),.box none (.map 4)]
theorem ztH(t0 u:Tm)(l:List Int)(ext:Heap)(hl:l.length<100000000):
  S 108 [u.av,.ptr 5 0,.ptr 2 0] (gV t0 l++ext)=some (.ret u.av,gV t0 (vadd l u.n)++ext):=by
 refine zaO rfl rfl rfl rfl ?_
 have hlim:l.length+1<=lim:=by unfold lim;omega
 by_cases hm:u.n∈l
 ·have e:vadd l u.n=l:=by simp[vadd,hm]
  rw[e]
  have hlk:∀(a0 a1 a2 a3 a5:AObj) (e:Heap),zbh false none (.pv none (.int .i64 0)) false (a0::a1::a2::a3::.map none (za5 (zf0 l))::a5::e) [.map 4,.pv none (.int .i64 u.n)]=some (.pv none (.int .i64 1)):=fun a0 a1 a2 a3 a5 e=>by
   rw[zht (m:=zf0 l) rfl,zf1,if_pos hm]
  simp -dsimp -implicitDefEqProofs only[go_sem,seval,↓reduceIte,gV,List.append_assoc,zah,zae,zai,zaf,Nat.add_assoc,List.length_append,Tm.av,zav,hlk]
  rw[if_pos (by simp[AV.refsIn])]
  simp
 ·have e:vadd l u.n=l++[u.n]:=by simp[vadd,hm]
  rw[e]
  have hlk:∀(a0 a1 a2 a3 a5:AObj) (e:Heap),zbh false none (.pv none (.int .i64 0)) false (a0::a1::a2::a3::.map none (za5 (zf0 l))::a5::e) [.map 4,.pv none (.int .i64 u.n)]=some (.pv none (.int .i64 0)):=fun a0 a1 a2 a3 a5 e=>by
   rw[zht (m:=zf0 l) rfl,zf1,if_neg hm]
  have hms:∀(a0 a1 a2 a3 a5:AObj) (e:Heap),zb7 false none (a0::a1::a2::a3::.map none (za5 (zf0 l))::a5::e) [.map 4,.pv none (.int .i64 u.n),.pv none (.int .i64 1)]=some (.undef,a0::a1::a2::a3::.map none (za5 (zf0 (l++[u.n])))::a5::e):=fun a0 a1 a2 a3 a5 e=>by
   rw[zcQ (es:=za5 (zf0 l)) rfl (zde _ _ _),zk4 _ _ hm]
   rfl
  have hst:∀(n o' n':Nat) (a0 a1 a3 a4 a5:AObj) (e:Heap) (b:Nat),zaU none (b+6) (a0::a1::.box none (.sl none 3 n 0 n)::a3::a4::a5::e) [.ptr 2 0,.sl none 3 n' o' n']=some (.undef,a0::a1::.box none (.sl none 3 n' o' n')::a3::a4::a5::e):=fun n o' n' a0 a1 a3 a4 a5 e b=>zex (by omega) rfl
  simp -dsimp -implicitDefEqProofs only[go_sem,seval,↓reduceIte,gV,List.append_assoc,zah,zae,zai,zaf,Nat.add_assoc,List.length_append,Tm.av,zav,hlk,hms,hst,za7,hlim,zr2]
  rw[if_pos (by simp[AV.refsIn])]
  simp
theorem zo1(t0:Tm):∀(t:Tm) (l:List Int) (ext:Heap),t.fits=true->t.size<10000000->l.length+t.size<100000000->
  ∃v e,S 88 [t.av,.func (.func 108) [] [.ptr 5 0,.ptr 2 0]] (gV t0 l++ext)=some (.ret v,gV t0 (vads l t.occ)++(ext++e))/\v.shp=some 4/\v.plain=true/\
   ∃e2,AV.freeze deep v (gV t0 (vads l t.occ)++(ext++e))=some (t.pv,gV t0 (vads l t.occ)++(ext++e2)):=by
 intro t
 induction t using Tm.zwV with
 |h t ih=>
  intro l ext hf ht hl
  have hts:=t.size_eq
  have hlen:=Tm.zwT t.args
  obtain⟨K,hK⟩:∃K:List Int->Heap,K=fun l=>gV t0 l++ext:=⟨_,rfl⟩
  have hKs:∀l,gV t0 l++ext=K l:=fun l=>by rw[hK]
  have hKl:∀l,(K l).length=ext.length+6:=fun l=>by rw[<-hKs];simp[gV]
  have hKa:∀l X,gV t0 l++(ext++X)=K l++X:=fun l X=>by rw[<-hKs,List.append_assoc]
  simp only[hKa,hKs]
  obtain⟨n,hn⟩:∃n,n=ext.length+6:=⟨_,rfl⟩
  rw[<-hn] at hKl
  rw[Tm.zw1]
  by_cases hk:t.kind=0
  ·rw[if_pos hk]
   have h1:=fun X=>ztH t0 t l (ext++X) (by omega)
   simp only[hKa] at h1
   have e1:vads l [t.n]=vadd l t.n:=rfl
   rw[e1]
   refine⟨t.av,[],?_,rfl,rfl,⟨[],rfl⟩⟩
   rw[List.append_nil]
   refine zaO rfl rfl rfl rfl ?_
   have hk':=eq_true hk
   simp only[Tm.av] at h1
   simp -dsimp -implicitDefEqProofs only[go_sem,seval,↓reduceIte,Tm.av,zaj,hk',h1,List.append_assoc,zah,zae,zai,zaf,Nat.add_assoc,List.length_append,hKl,getN (hKl _),zct (hKl _),setN (hKl _),zdV (hKl _)]
   rw[if_pos (by simp[AV.refsIn]),<-hKl (vadd l t.n)]
   exact List.take_left
  ·rw[if_neg hk]
   refine⟨.agg [(none,.pv none (.int .i64 t.kind)),(none,.pv none (.int .i64 t.n)),(none,.pv none (.str t.name)),(none,.sl (some 4) (n+5) t.args.length 0 t.args.length)],
    [.box (some 4) (.pv (some 4) t.pv),.box (some 4) (.agg [(none,.pv none (.int .i64 t.kind)),(none,.pv none (.int .i64 t.n)),(none,.pv none (.str t.name)),(none,.sl (some 4) (n+5) t.args.length 0 t.args.length)]),.arr (some 4) [] false,.box (some 4) (.agg [(none,.pv none (.int .i64 t.kind)),(none,.pv none (.int .i64 t.n)),(none,.pv none (.str t.name)),(none,.sl (some 4) (n+5) t.args.length 0 t.args.length)]),.arr (some 4) [] false,.arr (some 4) (Tm.pvs t.args) false],?_,rfl,rfl,?_⟩
   ·refine zaO rfl rfl rfl rfl ?_
    have hk':=eq_false hk
    have hb:zaY [(none,.pv none (.int .i64 0)),(none,.pv none (.int .i64 0)),(none,.pv none (.str [])),(none,.tsl (some 4) [])] [0,1,2] [.pv none (.int .i64 t.kind),.pv none (.int .i64 t.n),.pv none (.str t.name)]=some (.agg [(none,.pv none (.int .i64 t.kind)),(none,.pv none (.int .i64 t.n)),(none,.pv none (.str t.name)),(none,.tsl (some 4) [])]):=rfl
    have hle:∀k,n<=n+k:=fun k=>Nat.le_add_right _ _
    rw[hKl]
    simp -dsimp -implicitDefEqProofs only[go_sem,seval,↓reduceIte,Tm.av,zaj,zav,zat,zad,hk',Tm.pvs_len,hb,zag (Nat.le_add_right _ _),List.append_assoc,zah,zae,zai,zaf,Nat.add_assoc,List.length_append,hKl,getN (hKl _),zct (hKl _),setN (hKl _),zdV (hKl _)]
    refine zbQ (α:=Unit) t.args.length (fun _ _=>True) (fun i _=>⟨[(1,.func (.func 108) [] [.ptr 5 0,.ptr 2 0]),(4,.ptr (n+1) 0),(5,.ptr (n+3) 0),(22,.pv none (.sl (some 4) (Tm.pvs t.args))),(23,.pv none (.int .i64 t.args.length)),(24,.pv none (.int .i64 i))],K (vads l (Tm.occs (t.args.take i)))++appH n t i⟩) () ⟨trivial,?_⟩ ?_ ?_
    ·rw[List.take_zero]
     rfl
    ·rintro i - h -
     have hc:(i:Int)<(t.args.length:Int):=by omega
     obtain⟨u,hu⟩:∃u,t.args[i]? =some u:=⟨_,List.getElem?_eq_getElem h⟩
     have hum:=List.mem_of_getElem? hu
     have husz:=Tm.zwY hum
     have hst:=Tm.zw0 hu
     have hle2:=Tm.zwW t.args (i+1)
     have hvl:=zfv (Tm.occs (t.args.take i)) l
     have hol:=Tm.zw9 (t.args.take i)
     obtain⟨v,e,hcall,hvs,hvp,e2,hfz⟩:=ih u hum (vads l (Tm.occs (t.args.take i))) (ext++(appH n t i++[.box (some 4) (.pv (some 4) u.pv),.arr (some 4) [] false])) (Tm.zwU hf hum) (by omega) (by omega)
     rw[<-zfu,<-Tm.zw6 hu] at hcall hfz
     simp only[List.append_assoc,hKa] at hcall hfz
     generalize vads l (Tm.occs (t.args.take (i+1)))=l2 at hcall hfz ⊢
     generalize vads l (Tm.occs (t.args.take i))=l1 at hcall hfz hvl ⊢
     have w2:IntKind.i64.wrap ((i:Int)+1)=((i+1:Nat):Int):=by rw[zan (by omega) (by omega)];omega
     have hl:(Tm.pvs (t.args.take i)).length=i:=by rw[Tm.pvs_len,List.length_take];omega
     have hlim:i+1<=lim:=by unfold lim;omega
     have hbs:zbr (some 4) (K l2++(appH n t i++([.box (some 4) (.pv (some 4) u.pv),.arr (some 4) [] false]++e))) [v]=some (.tsl (some 4) [u.pv],K l2++(appH n t i++([.box (some 4) (.pv (some 4) u.pv),.arr (some 4) [] false]++e2))):=by
      simp only[zbr,zap,hfz,hvs,zbg,if_true]
     have hs1:∀(k k':List Int) (e e':Heap),zbx (K k++(appH n t i++e)) (K k'++(appH n t i++e')) (.ptr (n+3) 3)=true:=fun k k' e e'=>zhj (t:=t) (q:=n+5) (i:=i) (by rw[getN (hKl _)];rfl) (by rw[getN (hKl _)];rfl)
     simp only[Tm.av] at hcall
     simp only[appH,List.append_assoc,List.cons_append,List.nil_append] at hcall hbs hs1
     simp -dsimp -implicitDefEqProofs only[go_sem,seval,↓reduceIte,appH,hc,zab (Tm.pvs_get hu),zcH,List.take_succ_cons,List.drop_succ_cons,List.all_cons,List.all_nil,hcall,hbs,hs1,w2,hl,hlim,Tm.zwX hu,zag (Nat.le_add_right _ _),zaX (Nat.le_add_right _ _),List.append_assoc,zah,zae,zai,zaf,Nat.add_assoc,List.length_append,hKl,getN (hKl _),zct (hKl _),setN (hKl _),zdV (hKl _)]
     refine⟨(),?_⟩
     rw[zaQ 6 (hKl _) rfl (by simp[AObj.refs,AV.ofComps,pures,AV.refsIn,AV.refsIn.go]) (by simp[AV.refsIn,AV.refsIn.gol])]
     rfl
    ·rintro - -
     have hc:¬(t.args.length:Int)<(t.args.length:Int):=by omega
     simp -dsimp -implicitDefEqProofs only[go_sem,seval,↓reduceIte,appH,hc,List.take_length,zay,zag (Nat.le_add_right _ _),zaX (Nat.le_add_right _ _),List.append_assoc,zah,zae,zai,zaf,Nat.add_assoc,List.length_append,hKl,getN (hKl _),zct (hKl _),setN (hKl _),zdV (hKl _)]
     rw[if_neg (by simp[AV.refsIn,AV.refsIn.go])]
   ·have e:∀l hp,AV.freeze (7+1) (.agg l) hp=match AV.freeze.go 7 l hp with|some (ps,hp')=>some (.agg ps,hp')|none=>none:=fun _ _=>rfl
    cases t with
    |mk k n' s ts=>
     refine⟨[.box (some 4) (.pv (some 4) (Tm.mk k n' s ts).pv),.box (some 4) (.agg [(none,.pv none (.int .i64 k)),(none,.pv none (.int .i64 n')),(none,.pv none (.str s)),(none,.sl (some 4) (n+5) ts.length 0 ts.length)]),.arr (some 4) [] false,.box (some 4) (.agg [(none,.pv none (.int .i64 k)),(none,.pv none (.int .i64 n')),(none,.pv none (.str s)),(none,.sl (some 4) (n+5) ts.length 0 ts.length)]),.arr (some 4) [] false,.arr (some 4) (Tm.pvs ts) true],?_⟩
     show AV.freeze (7+1) (.agg _) _=_
     simp[e,AV.freeze.go,AV.freeze,getN (hKl _),setN (hKl _),Tm.kind,Tm.n,Tm.name,Tm.args,Tm.pvs_len,Tm.pv]
theorem ztI(t:Tm)(hv:t.valid=true)(hp:Heap):S 64 [t.av] hp=some (.ret (.pv none (.sl none (ints (vads [] t.occ)))),hp):=by
 refine zao rfl rfl rfl (zac [(some 4,t.pv)]) rfl ?_
 have hsz:=valid_size hv
 have h1:=fun hp=>zci t hp (by omega)
 rw[hv] at h1
 have hn0:∀H:Heap,zbD none H=some (.sl none H.length 0 0 0,H++[.arr none [] false]):=fun H=>zbH (sh:=none) (by decide)
 obtain⟨v,e,h2,_,_,e2,hfz⟩:=zo1 t t [] [] (valid_fits hv) (by omega) (by simp;omega)
 generalize vads [] t.occ=l at*
 simp only[Tm.av] at h1 h2
 have hmk:∀(a0 a1 a2 a3:AObj),zaU none 0 [a0,a1,a2,a3,.map none [],.box none (.pv none .nilmap)] [.ptr 5 0,.map 4]=some (.undef,[a0,a1,a2,a3,.map none [],.box none (.map 4)]):=fun _ _ _ _=>rfl
 have e0:gV t []++[]=[.box (some 4) (.pv (some 4) t.pv),.arr none [] false,.box none (.sl none 3 0 0 0),.arr none [] false,.map none [],.box none (.map 4)]:=rfl
 rw[e0] at h2
 simp only[gV,List.nil_append,List.cons_append] at h2
 have hal:∀a0 a1:AObj,zcJ none (.tsl none []) [a0,a1] []=some (.ptr 2 0,[a0,a1,.box none (.sl none 3 0 0 0),.arr none [] false]):=fun _ _=>rfl
 have hfr:∀(a0 a1 a2 a4 a5:AObj),Am.frozen (.pv none (.sl none (ints l))) (.sl none 3 l.length 0 l.length) (a0::a1::a2::.arr none (ints l) false::a4::a5::e):=fun a0 a1 a2 a4 a5=>zo4 (.inr ⟨3,rfl,rfl⟩)
 simp -dsimp -implicitDefEqProofs only[go_sem,seval,↓reduceIte,Tm.av,h1,hn0,hal,hmk,h2]
 exact hfr _ _ _ _ _
def posF:Nat->List Int->List (Int × PV)
 |_,[]=>[]
 |k,x::r=>(x,.int .i64 (k:Int))::posF (k+1) r
theorem zm9:∀(l:List Int) (k:Nat),(posF k l).length=l.length
 |[],_=>rfl
 |x::r,k=>by rw[posF,List.length_cons,zm9 r];rfl
theorem zhl(v:Int):∀(l:List Int) (k:Nat),zdd v (posF k l)=if v∈l then some (.int .i64 ((k+l.idxOf v:Nat):Int)) else none
 |[],_=>rfl
 |x::r,k=>by
  rw[posF,zdd,zhl v r]
  by_cases h:x=v
  ·subst h
   simp
  ·have h':¬v=x:=fun e=>h e.symm
   simp only[if_neg h,List.mem_cons,h',false_or]
   rw[List.idxOf_cons]
   have hb:(x == v)=false:=by simpa using h
   rw[hb]
   simp only[cond_false]
   split
   ·congr 2
    omega
   ·rfl
theorem zna(v:Int):∀(l:List Int) (k:Nat),v ∉ l->mPut v (.int .i64 ((k+l.length:Nat):Int)) (posF k l)=posF k (l++[v])
 |[],k,_=>rfl
 |x::r,k,h=>by
  have h':¬x=v:=fun e=>h (by rw[e];exact List.mem_cons_self)
  have ih:=zna v r (k+1) fun hm=>h (List.mem_cons_of_mem _ hm)
  rw[posF,mPut,if_neg h',List.cons_append,posF,<-ih,List.length_cons]
  congr 4
  omega
theorem zrf{v:Int}:∀{l L:List Int},v∈l->l <+: L->L.idxOf v=l.idxOf v
 |[],_,h,_=>by cases h
 |x::r,L,h,hp=>by
  obtain⟨m,rfl⟩:=hp
  rw[List.cons_append,List.idxOf_cons,List.idxOf_cons]
  cases hb:x == v with
  |true=>rfl
  |false=>
   simp only[cond_false]
   have hx:¬x=v:=by simpa using hb
   have hm:v∈r:=(List.mem_cons.1 h).resolve_left fun e=>hx e.symm
   rw[zrf hm ⟨m,rfl⟩]
theorem znb{v:Int}:∀{l:List Int},v ∉ l->(l++[v]).idxOf v=l.length
 |[],_=>by simp[List.idxOf_cons]
 |x::r,h=>by
  have h':¬x=v:=fun e=>h (by rw[e];exact List.mem_cons_self)
  rw[List.cons_append,List.idxOf_cons,beq_eq_false_iff_ne.2 h',List.length_cons]
  simp only[cond_false]
  rw[znb fun hm=>h (List.mem_cons_of_mem _ hm)]
theorem ztc(l:List Int)(v:Int):l <+: vadd l v:=by
 unfold vadd
 split
 ·exact List.prefix_refl _
 ·exact List.prefix_append _ _
theorem znc:∀(ws l:List Int),l <+: vads l ws
 |[],l=>List.prefix_refl _
 |w::r,l=>(ztc l w).trans (znc r (vadd l w))
def cPos(L:List Int)(v:Int):Tm:=tvar (L.idxOf v:Int)
def canT(t:Tm):Tm:=Tm.sub (cPos (vads [] t.occ)) t
theorem ztd(l:List Int)(v:Int):v∈vadd l v:=by
 unfold vadd
 split
 ·assumption
 ·simp
theorem zhm{L:List Int}{t:Tm}(hk:¬t.kind=0):Tm.sub (cPos L) t=.mk t.kind t.n t.name (t.args.map (Tm.sub (cPos L))):=by
 rw[Tm.zw3,if_neg hk]
def cagg(k:Int)(q:Nat):AV:=.agg [(none,.pv none (.int .i64 0)),(none,.pv none (.int .i64 k)),(none,.pv none (.str [])),(none,.sl (some 4) q 0 0 0)]
def gC(t:Tm)(l:List Int):Heap:=[.box (some 4) (.pv (some 4) t.pv),.box (some 4) (cagg 0 2),.arr (some 4) [] false,.map none (za5 (posF 0 l)),.box none (.map 3)]
theorem zvG{m:List (Int × PV)}{hp:Heap}{r:Nat}{s:Sh}{v:Int}(h:hp[r]? =some (.map none (za5 m))):zbh false none (.pv none (.int .i64 0)) true hp [.map r,.pv s (.int .i64 v)]=some (match zdd v m with|some x=>.tuple [.pv none x,.pv none (.bool true)]|none=>.tuple [.pv none (.int .i64 0),.pv none (.bool false)]):=by
 have hf:=zfU v m
 cases hm:zdd v m with
 |none=>rw[hm] at hf;exact zff h hf
 |some x=>rw[hm] at hf;exact zfe h hf
theorem zhk{k:Int}{q:Nat}{H:Heap}(h:H[q]? =some (.arr (some 4) [] false)):AV.freeze deep (cagg k q) H=some ((tvar k).pv,H.set q (.arr (some 4) [] true)):=by
 have e:∀l hp,AV.freeze (7+1) (.agg l) hp=match AV.freeze.go 7 l hp with|some (ps,hp')=>some (.agg ps,hp')|none=>none:=fun _ _=>rfl
 show AV.freeze (7+1) (.agg _) _=_
 simp[e,AV.freeze.go,AV.freeze,h]
 rfl
theorem ztV(t:Tm)(l:List Int)(ext:Heap):(gC t l++ext).length=ext.length+5:=by simp[gC]
theorem gC_4(t:Tm)(l:List Int)(ext X:Heap):(gC t l++ext++X)[4]? =some (.box none (.map 3)):=rfl
theorem gC_3(t:Tm)(l:List Int)(ext X:Heap):(gC t l++ext++X)[3]? =some (.map none (za5 (posF 0 l))):=rfl
theorem zvH(t:Tm)(l l':List Int)(ext X:Heap):(gC t l++ext++X).set 3 (.map none (za5 (posF 0 l')))=gC t l'++ext++X:=rfl
theorem zre(t0 u:Tm)(l:List Int)(ext:Heap)(hl:l.length<100000000)(n:Nat)(hn:n=ext.length+5):
  S 97 [u.av,.ptr 4 0] (gC t0 l++ext)=some (.ret (cagg ((vadd l u.n).idxOf u.n:Nat) (n+3)),gC t0 (vadd l u.n)++(ext++[.box (some 4) (.pv (some 4) u.pv),.box (some 4) (cagg ((vadd l u.n).idxOf u.n:Nat) (n+3)),.arr (some 4) [] false,.arr (some 4) [] false])):=by
 obtain⟨K,hK⟩:∃K:List Int->Heap,K=fun l=>gC t0 l++ext:=⟨_,rfl⟩
 have hKs:∀l,gC t0 l++ext=K l:=fun l=>by rw[hK]
 have hKl:∀l,(K l).length=n:=fun l=>by rw[<-hKs,ztV,hn]
 have hKa:∀l X,gC t0 l++(ext++X)=K l++X:=fun l X=>by rw[<-hKs,List.append_assoc]
 have hK4:∀l X,(K l++X)[4]? =some (.box none (.map 3)):=fun l X=>by rw[<-hKs];exact gC_4 t0 l ext X
 have hK3:∀l X,(K l++X)[3]? =some (.map none (za5 (posF 0 l))):=fun l X=>by rw[<-hKs];exact gC_3 t0 l ext X
 have hKS:∀l l' X,(K l++X).set 3 (.map none (za5 (posF 0 l')))=K l'++X:=fun l l' X=>by rw[<-hKs,<-hKs];exact zvH t0 l l' ext X
 have hle:∀k,n<=n+k:=fun k=>Nat.le_add_right _ _
 rw[hKa,hKs]
 unfold cagg
 refine zaO rfl rfl rfl rfl ?_
 rw[hKl]
 have hb:∀k:Int,zaY [(none,.pv none (.int .i64 0)),(none,.pv none (.int .i64 0)),(none,.pv none (.str [])),(none,.tsl (some 4) [])] [1] [.pv none (.int .i64 k)]=some (.agg [(none,.pv none (.int .i64 0)),(none,.pv none (.int .i64 k)),(none,.pv none (.str [])),(none,.tsl (some 4) [])]):=fun _=>rfl
 by_cases hm:u.n∈l
 ·have e:vadd l u.n=l:=by simp[vadd,hm]
  rw[e]
  have hlk:∀X:Heap,zbh false none (.pv none (.int .i64 0)) true (K l++X) [.map 3,.pv none (.int .i64 u.n)]=some (.tuple [.pv none (.int .i64 ((l.idxOf u.n:Nat):Int)),.pv none (.bool true)]):=fun X=>by
   rw[zvG (m:=posF 0 l) (hK3 _ _),zhl,if_pos hm,Nat.zero_add]
  simp -dsimp -implicitDefEqProofs only[go_sem,seval,↓reduceIte,cagg,List.append_assoc,zah,zae,zai,zaf,Nat.add_assoc,List.length_append,Tm.av,zav,hlk,hb,zay,zag (Nat.le_add_right _ _),hK4,hKl,getN (hKl _),zct (hKl _),setN (hKl _),zdV (hKl _)]
  rw[if_neg (by simp[AV.refsIn,AV.refsIn.go])]
 ·have e:vadd l u.n=l++[u.n]:=by simp[vadd,hm]
  rw[e,znb hm]
  have hlk:∀X:Heap,zbh false none (.pv none (.int .i64 0)) true (K l++X) [.map 3,.pv none (.int .i64 u.n)]=some (.tuple [.pv none (.int .i64 0),.pv none (.bool false)]):=fun X=>by
   rw[zvG (m:=posF 0 l) (hK3 _ _),zhl,if_neg hm]
  have hml:∀X:Heap,ziA (K l++X) [.map 3]=some (.pv none (.int .i64 (l.length:Int))):=fun X=>by
   simp[ziA,hK3,za5,zm9]
  have hms:∀X:Heap,zb7 false none (K l++X) [.map 3,.pv none (.int .i64 u.n),.pv none (.int .i64 (l.length:Int))]=some (.undef,K (l++[u.n])++X):=fun X=>by
   have:=zna u.n l 0 hm
   rw[Nat.zero_add] at this
   rw[zcQ (es:=za5 (posF 0 l)) (hK3 _ _) (zde _ _ _),this,hKS]
  simp -dsimp -implicitDefEqProofs only[go_sem,seval,↓reduceIte,cagg,List.append_assoc,zah,zae,zai,zaf,Nat.add_assoc,List.length_append,Tm.av,zav,hlk,hml,hms,hb,zay,zag (Nat.le_add_right _ _),hK4,hKl,getN (hKl _),zct (hKl _),setN (hKl _),zdV (hKl _)]
  rw[if_neg (by simp[AV.refsIn,AV.refsIn.go])]
def appC(n:Nat)(t:Tm)(ts:List Tm)(i:Nat):Heap:=[.box (some 4) (.pv (some 4) t.pv),.box (some 4) (.agg [(none,.pv none (.int .i64 0)),(none,.pv none (.int .i64 0)),(none,.pv none (.str [])),(none,.sl (some 4) (n+2) 0 0 0)]),.arr (some 4) [] false,.box (some 4) (.agg [(none,.pv none (.int .i64 t.kind)),(none,.pv none (.int .i64 t.n)),(none,.pv none (.str t.name)),(none,.sl (some 4) (n+5) i 0 i)]),.arr (some 4) [] false,.arr (some 4) (Tm.pvs (ts.take i)) false]
theorem ztb(a b:List Tm):Tm.occs (a++b)=Tm.occs a++Tm.occs b:=by
 induction a with
 |nil=>rfl
 |cons x r ih=>rw[List.cons_append,Tm.occs,Tm.occs,ih,List.append_assoc]
theorem zma(t0:Tm):∀(t:Tm) (l L:List Int) (ext:Heap),t.fits=true->t.size<10000000->l.length+t.size<100000000->vads l t.occ <+: L->
  ∃v e,S 88 [t.av,.func (.func 97) [] [.ptr 4 0]] (gC t0 l++ext)=some (.ret v,gC t0 (vads l t.occ)++(ext++e))/\v.shp=some 4/\v.plain=true/\(∀H,v.own H=(v,H))/\
   (∃e2,AV.freeze deep v (gC t0 (vads l t.occ)++(ext++e))=some ((Tm.sub (cPos L) t).pv,gC t0 (vads l t.occ)++(ext++e2)))/\
   ∀H:Heap,(∀j,ext.length+5<=j->H[j]? =(gC t0 (vads l t.occ)++(ext++e))[j]?)->∃H2,AV.freeze deep v H=some ((Tm.sub (cPos L) t).pv,H2):=by
 intro t
 induction t using Tm.zwV with
 |h t ih=>
  intro l L ext hf ht hl hp
  have hts:=t.size_eq
  have hlen:=Tm.zwT t.args
  obtain⟨n,hn⟩:∃n,n=ext.length+5:=⟨_,rfl⟩
  have h1:=fun X=>zre t0 t l (ext++X) (by omega)
  obtain⟨K,hK⟩:∃K:List Int->Heap,K=fun l=>gC t0 l++ext:=⟨_,rfl⟩
  have hKs:∀l,gC t0 l++ext=K l:=fun l=>by rw[hK]
  have hKl:∀l,(K l).length=n:=fun l=>by rw[<-hKs,ztV,hn]
  have hKa:∀l X,gC t0 l++(ext++X)=K l++X:=fun l X=>by rw[<-hKs,List.append_assoc]
  simp only[<-hn]
  simp only[List.append_assoc] at h1
  simp only[hKa] at h1
  simp only[hKa,hKs]
  rw[Tm.zw1] at hp ⊢
  by_cases hk:t.kind=0
  ·rw[if_pos hk] at hp ⊢
   have e1:vads l [t.n]=vadd l t.n:=rfl
   rw[e1] at hp ⊢
   have e2:Tm.sub (cPos L) t=tvar ((vadd l t.n).idxOf t.n:Nat):=by
    rw[Tm.zw3,if_pos hk]
    unfold cPos
    rw[zrf (ztd l t.n) hp]
   rw[e2]
   generalize (((vadd l t.n).idxOf t.n:Nat):Int)=k at*
   generalize vadd l t.n=l2 at*
   refine⟨cagg k (n+6),[.box (some 4) (.pv (some 4) t.pv),.box (some 4) (cagg k (n+6)),.arr (some 4) [] false,.box (some 4) (.pv (some 4) t.pv),.box (some 4) (cagg k (n+6)),.arr (some 4) [] false,.arr (some 4) [] false],?_,rfl,rfl,fun _=>rfl,?_,fun H hH=> ?_⟩
   ·unfold cagg
    refine zaO rfl rfl rfl rfl ?_
    have hk':=eq_true hk
    have h2:=h1 [.box (some 4) (.pv (some 4) t.pv),.box (some 4) (cagg 0 (n+2)),.arr (some 4) [] false] (n+3) (by rw[hn];simp)
    simp only[Tm.av,cagg,List.cons_append,List.nil_append] at h2
    rw[hKl]
    simp -dsimp -implicitDefEqProofs only[go_sem,seval,↓reduceIte,Tm.av,cagg,zaj,hk',h2,zay,List.append_assoc,zah,zae,zai,zaf,Nat.add_assoc,List.length_append,hKl,getN (hKl _),zct (hKl _),setN (hKl _),zdV (hKl _),zag (Nat.le_add_right _ _)]
    rw[if_neg (by simp[AV.refsIn,AV.refsIn.go])]
   ·refine⟨[.box (some 4) (.pv (some 4) t.pv),.box (some 4) (cagg k (n+6)),.arr (some 4) [] false,.box (some 4) (.pv (some 4) t.pv),.box (some 4) (cagg k (n+6)),.arr (some 4) [] false,.arr (some 4) [] true],?_⟩
    rw[zhk (by rw[getN (hKl _)];rfl),setN (hKl _)]
    rfl
   ·exact⟨_,zhk (by rw[hH _ (by omega),getN (hKl _)];rfl)⟩
  ·rw[if_neg hk] at hp ⊢
   rw[zhm hk]
   obtain⟨ts',hts'⟩:∃ts',ts'=t.args.map (Tm.sub (cPos L)):=⟨_,rfl⟩
   have htl:ts'.length=t.args.length:=by rw[hts',List.length_map]
   rw[<-hts']
   refine⟨.agg [(none,.pv none (.int .i64 t.kind)),(none,.pv none (.int .i64 t.n)),(none,.pv none (.str t.name)),(none,.sl (some 4) (n+5) t.args.length 0 t.args.length)],
    [.box (some 4) (.pv (some 4) t.pv),.box (some 4) (.agg [(none,.pv none (.int .i64 t.kind)),(none,.pv none (.int .i64 t.n)),(none,.pv none (.str t.name)),(none,.sl (some 4) (n+5) t.args.length 0 t.args.length)]),.arr (some 4) [] false,.box (some 4) (.agg [(none,.pv none (.int .i64 t.kind)),(none,.pv none (.int .i64 t.n)),(none,.pv none (.str t.name)),(none,.sl (some 4) (n+5) t.args.length 0 t.args.length)]),.arr (some 4) [] false,.arr (some 4) (Tm.pvs ts') false],?_,rfl,rfl,fun _=>rfl,?_,?_⟩
   ·refine zaO rfl rfl rfl rfl ?_
    have hk':=eq_false hk
    have hb:zaY [(none,.pv none (.int .i64 0)),(none,.pv none (.int .i64 0)),(none,.pv none (.str [])),(none,.tsl (some 4) [])] [0,1,2] [.pv none (.int .i64 t.kind),.pv none (.int .i64 t.n),.pv none (.str t.name)]=some (.agg [(none,.pv none (.int .i64 t.kind)),(none,.pv none (.int .i64 t.n)),(none,.pv none (.str t.name)),(none,.tsl (some 4) [])]):=rfl
    have hle:∀k,n<=n+k:=fun k=>Nat.le_add_right _ _
    rw[hKl]
    simp -dsimp -implicitDefEqProofs only[go_sem,seval,↓reduceIte,Tm.av,zaj,zav,zat,zad,hk',Tm.pvs_len,hb,zag (Nat.le_add_right _ _),List.append_assoc,zah,zae,zai,zaf,Nat.add_assoc,List.length_append,hKl,getN (hKl _),zct (hKl _),setN (hKl _),zdV (hKl _)]
    refine zbQ (α:=Unit) t.args.length (fun _ _=>True) (fun i _=>⟨[(1,.func (.func 97) [] [.ptr 4 0]),(4,.ptr (n+1) 0),(5,.ptr (n+3) 0),(22,.pv none (.sl (some 4) (Tm.pvs t.args))),(23,.pv none (.int .i64 t.args.length)),(24,.pv none (.int .i64 i))],K (vads l (Tm.occs (t.args.take i)))++appC n t ts' i⟩) () ⟨trivial,?_⟩ ?_ ?_
    ·rw[List.take_zero]
     rfl
    ·rintro i - h -
     have hc:(i:Int)<(t.args.length:Int):=by omega
     obtain⟨u,hu⟩:∃u,t.args[i]? =some u:=⟨_,List.getElem?_eq_getElem h⟩
     have hum:=List.mem_of_getElem? hu
     have husz:=Tm.zwY hum
     have hst:=Tm.zw0 hu
     have hle2:=Tm.zwW t.args (i+1)
     have hvl:=zfv (Tm.occs (t.args.take i)) l
     have hol:=Tm.zw9 (t.args.take i)
     have hpre:vads (vads l (Tm.occs (t.args.take i))) u.occ <+: L:=by
      rw[<-zfu,<-Tm.zw6 hu]
      refine List.IsPrefix.trans ?_ hp
      have e:=List.take_append_drop (i+1) t.args
      rw[<-e,ztb,zfu,e]
      exact znc _ _
     obtain⟨v,e,hcall,hvs,hvp,_,⟨e2,hfz⟩,_⟩:=ih u hum (vads l (Tm.occs (t.args.take i))) L (ext++(appC n t ts' i++[.box (some 4) (.pv (some 4) u.pv),.arr (some 4) [] false])) (Tm.zwU hf hum) (by omega) (by omega) hpre
     rw[<-zfu,<-Tm.zw6 hu] at hcall hfz
     simp only[List.append_assoc,hKa] at hcall hfz
     generalize vads l (Tm.occs (t.args.take (i+1)))=l2 at hcall hfz ⊢
     generalize vads l (Tm.occs (t.args.take i))=l1 at hcall hfz hvl ⊢
     have w2:IntKind.i64.wrap ((i:Int)+1)=((i+1:Nat):Int):=by rw[zan (by omega) (by omega)];omega
     have hl:(Tm.pvs (ts'.take i)).length=i:=by rw[Tm.pvs_len,List.length_take];omega
     have hlim:i+1<=lim:=by unfold lim;omega
     have hus:ts'[i]? =some (Tm.sub (cPos L) u):=by rw[hts'];simp[hu]
     have hbs:zbr (some 4) (K l2++(appC n t ts' i++([.box (some 4) (.pv (some 4) u.pv),.arr (some 4) [] false]++e))) [v]=some (.tsl (some 4) [(Tm.sub (cPos L) u).pv],K l2++(appC n t ts' i++([.box (some 4) (.pv (some 4) u.pv),.arr (some 4) [] false]++e2))):=by
      simp only[zbr,zap,hfz,hvs,zbg,if_true]
     have hs1:∀(k k':List Int) (e e':Heap),zbx (K k++(appC n t ts' i++e)) (K k'++(appC n t ts' i++e')) (.ptr (n+3) 3)=true:=fun k k' e e'=>zhj (t:=t) (q:=n+5) (i:=i) (by rw[getN (hKl _)];rfl) (by rw[getN (hKl _)];rfl)
     simp only[Tm.av] at hcall
     simp only[appC,List.append_assoc,List.cons_append,List.nil_append] at hcall hbs hs1
     simp -dsimp -implicitDefEqProofs only[go_sem,seval,↓reduceIte,appC,hc,zab (Tm.pvs_get hu),zcH,List.take_succ_cons,List.drop_succ_cons,List.all_cons,List.all_nil,hcall,hbs,hs1,w2,hl,hlim,Tm.zwX hus,zag (Nat.le_add_right _ _),zaX (Nat.le_add_right _ _),List.append_assoc,zah,zae,zai,zaf,Nat.add_assoc,List.length_append,hKl,getN (hKl _),zct (hKl _),setN (hKl _),zdV (hKl _)]
     refine⟨(),?_⟩
     rw[zaQ 6 (hKl _) rfl (by simp[AObj.refs,AV.ofComps,pures,AV.refsIn,AV.refsIn.go]) (by simp[AV.refsIn,AV.refsIn.gol])]
     rfl
    ·rintro - -
     have hc:¬(t.args.length:Int)<(t.args.length:Int):=by omega
     have htk:ts'.take t.args.length=ts':=List.take_of_length_le (by omega)
     simp -dsimp -implicitDefEqProofs only[go_sem,seval,↓reduceIte,appC,hc,List.take_length,htk,zay,zag (Nat.le_add_right _ _),zaX (Nat.le_add_right _ _),List.append_assoc,zah,zae,zai,zaf,Nat.add_assoc,List.length_append,hKl,getN (hKl _),zct (hKl _),setN (hKl _),zdV (hKl _)]
     rw[if_neg (by simp[AV.refsIn,AV.refsIn.go])]
   ·have e:∀l hp,AV.freeze (7+1) (.agg l) hp=match AV.freeze.go 7 l hp with|some (ps,hp')=>some (.agg ps,hp')|none=>none:=fun _ _=>rfl
    refine⟨[.box (some 4) (.pv (some 4) t.pv),.box (some 4) (.agg [(none,.pv none (.int .i64 t.kind)),(none,.pv none (.int .i64 t.n)),(none,.pv none (.str t.name)),(none,.sl (some 4) (n+5) t.args.length 0 t.args.length)]),.arr (some 4) [] false,.box (some 4) (.agg [(none,.pv none (.int .i64 t.kind)),(none,.pv none (.int .i64 t.n)),(none,.pv none (.str t.name)),(none,.sl (some 4) (n+5) t.args.length 0 t.args.length)]),.arr (some 4) [] false,.arr (some 4) (Tm.pvs ts') true],?_⟩
    show AV.freeze (7+1) (.agg _) _=_
    simp[e,AV.freeze.go,AV.freeze,getN (hKl _),setN (hKl _),htl,Tm.pvs_len,Tm.pv]
   ·intro H hH
    have h5:=hH (n+5) (by omega)
    rw[getN (hKl _)] at h5
    have e:∀l hp,AV.freeze (7+1) (.agg l) hp=match AV.freeze.go 7 l hp with|some (ps,hp')=>some (.agg ps,hp')|none=>none:=fun _ _=>rfl
    refine⟨H.set (n+5) (.arr (some 4) (Tm.pvs ts') true),?_⟩
    show AV.freeze (7+1) (.agg _) _=_
    simp only[List.getElem?_cons_succ,List.getElem?_cons_zero] at h5
    simp[e,AV.freeze.go,AV.freeze,h5,htl,Tm.pvs_len,Tm.pv]
def canR(t:Tm):Tm:=if t.valid=true then canT t else zt
theorem zm8(t:Tm)(hp:Heap)(ht:t.size<1000000000):S 47 [t.av] hp=some (.ret (canR t).av,hp):=by
 refine zao rfl rfl rfl (zac [(some 4,t.pv)]) rfl ?_
 have h1:=fun hp=>zci t hp ht
 unfold canR
 by_cases hv:t.valid=true
 ·rw[if_pos hv]
  have hsz:=valid_size hv
  obtain⟨v,e,h2,h3,h4,h5,_,h6⟩:=zma t t [] (vads [] t.occ) [] (valid_fits hv) (by omega) (by simp;omega) (List.prefix_refl _)
  rw[hv] at h1
  simp only[Tm.av,gC,cagg,List.cons_append,List.nil_append] at h1 h2
  have hmk:∀(a0 a1 a2:AObj),zaU none 0 [a0,a1,a2,.map none [],.box none (.pv none .nilmap)] [.ptr 4 0,.map 3]=some (.undef,[a0,a1,a2,.map none [],.box none (.map 3)]):=fun _ _ _=>rfl
  have e0:za5 (posF 0 [])=[]:=rfl
  rw[e0] at h2
  have hst:∀(a0 a2 a3 a4:AObj),zaU (some 4) 0 (a0::.box (some 4) (.agg [(none,.pv none (.int .i64 0)),(none,.pv none (.int .i64 0)),(none,.pv none (.str [])),(none,.sl (some 4) 2 0 0 0)])::a2::a3::a4::e) [.ptr 1 0,v]=some (.undef,a0::.box (some 4) v::a2::a3::a4::e):=fun _ _ _ _=>by
   simp[zaU,astore,h3,h4,h5]
  have hfr:∀(a0 a1 a2 a3 a4:AObj),Am.frozen (canT t).av v (a0::a1::a2::a3::a4::e):=fun a0 a1 a2 a3 a4=>by
   obtain⟨H2,k⟩:=h6 (a0::a1::a2::a3::a4::e) fun j hj=>by
    match j,hj with
    |j+5,_=>rfl
   exact zkI h3 h4 k
  simp -dsimp -implicitDefEqProofs only[go_sem,seval,↓reduceIte,Tm.av,h1,h2,hst,hmk,zag (Nat.zero_le _)]
  exact hfr _ _ _ _ _
 ·rw[if_neg hv]
  have hv':t.valid=false:=by simpa using hv
  rw[hv'] at h1
  simp only[Tm.av] at h1
  simp -dsimp -implicitDefEqProofs only[go_sem,seval,↓reduceIte,Tm.av,h1,zag (Nat.zero_le _),zt]
  exact⟨_,rfl⟩
end Go.Proofs.YtffecaafklpmhaaGreat
