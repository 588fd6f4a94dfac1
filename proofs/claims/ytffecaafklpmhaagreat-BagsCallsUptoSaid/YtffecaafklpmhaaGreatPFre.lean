/- What is proved: the reference's Valid; valid bindings are in order, their terms are valid, and they have ranks. -/
import Derived.Test.YtffecaafklpmhaaGreatRMt
import Derived.Test.YtffecaafklpmhaaGreatAm4
set_option linter.unusedSimpArgs false
set_option linter.unusedVariables false
namespace Go.Proofs.YtffecaafklpmhaaGreat
open Go.Am
def bools(D:List Bool):List PV:=D.map .bool
theorem kQ(D:List Bool):(bools D).length=D.length:=by simp[bools]
theorem kR{D:List Bool}{i:Nat}{b:Bool}(h:D[i]? =some b):(bools D)[i]? =some (.bool b):=by simp[bools,h]
def mk1(l:List B)(D:List Bool)(w:Int):Bool:= !fndB l w || D.getD (lbB l w) false
def sttl(l:List B)(D:List Bool)(os:List Int):Bool:=os.all (mk1 l D)
theorem kS(l:List B)(D:List Bool)(x y:List Int):sttl l D (x++y)=(sttl l D x && sttl l D y):=by simp[sttl]
theorem kT{l:List B}{v:Int}(h:fndB l v=true):lbB l v<l.length:=by
 unfold fndB at h;split at h
 ·rename_i b hb;exact(Ze.1 hb).1
 ·cases h
theorem MO:∀(t:Tm) (l:List B) (D:List Bool),Srt' l->l.length<1000000000->D.length=l.length->t.size<1000000000->∀hp,S 127 [.pv none (.sl (some 5) (bds l)),.pv none (.sl none (bools D)),t.av] hp=some (.ret (O9 (sttl l D t.occ)),hp):=by
 intro t
 induction t using Tm.zyR with
 |h t ih=>
  intro l D hs hl hD ht hp;have hts:=t.size_eq;have hlen:=Tm.zyN t.args;have hfd:=kP l t.n hs hl;refine Yb rfl rfl rfl (Yd [(none,.sl (some 5) (bds l)),(none,.sl none (bools D)),(some 4,t.pv)]) rfl ?_;rw[Tm.zyW];by_cases hk:t.kind=0
  ·rw[Zb hk];by_cases hf:fndB l t.n=true
   ·have hlt:=kT hf;obtain⟨d,hd⟩:∃d,D[lbB l t.n]? =some d:=⟨_,Zf (by omega)⟩;have hfi:fdI l t.n=(lbB l t.n:Int):=by unfold fdI;rw[Zb hf]
    have hnn:¬((lbB l t.n:Nat):Int)<0:=by omega
    have e:sttl l D [t.n]=d:=by simp[sttl,mk1,hf,zM,hd]
    rw[hfi] at hfd;rw[e];simp -dsimp -implicitDefEqProofs only[go_sem,seval,↓reduceIte,Ya,Yh,hk,hfd,hnn,zY (kR hd)]
   ·have hf':fndB l t.n=false:=by simpa using hf
    have hfi:fdI l t.n= -1:=by unfold fdI;rw[Za hf]
    have hnn:(-1:Int)<0:=by omega
    have e:sttl l D [t.n]=true:=by simp[sttl,mk1,hf']
    rw[hfi] at hfd;rw[e];simp -dsimp -implicitDefEqProofs only[go_sem,seval,↓reduceIte,Ya,Yh,hk,hfd,hnn]
  ·rw[Za hk];simp -dsimp -implicitDefEqProofs only[go_sem,seval,↓reduceIte,Ya,Yh,hk];refine Yv (α:=Unit) t.args.length (fun i _=>sttl l D (Tm.occs (t.args.take i))=true) (fun i _=>⟨[(0,.pv none (.sl (some 5) (bds l))),(1,.pv none (.sl none (bools D))),(5,.ptr 0 0),(8,O8 i)],[.box (some 4) (.pv (some 4) t.pv)]⟩) () ⟨rfl,rfl⟩ ?_ ?_
   ·rintro i - h hinv;have hc:(i:Int)<(t.args.length:Int):=by omega
    obtain⟨u,hu⟩:∃u,t.args[i]? =some u:=⟨_,Zf h⟩;have hum:=Zk hu;have husz:=Tm.zyQ hum;have hcall:=ih u hum l D hs hl hD (by omega);simp only[Tm.av] at hcall;have w2:=O0 i (by omega)
    by_cases h0:sttl l D u.occ=true
    ·simp -dsimp -implicitDefEqProofs only[go_sem,seval,↓reduceIte,zV,Tm.pvs_len,hc,zY (Tm.pvs_get hu),hcall,h0,w2];exact⟨(),by rw[Tm.zy0 hu,kS,hinv,h0];rfl⟩
    ·have h0':sttl l D u.occ=false:=by simpa using h0
     have e:sttl l D (Tm.occs t.args)=false:=by
      have e1:Tm.occs t.args=Tm.occs (t.args.take (i+1))++Tm.occs (t.args.drop (i+1)):=by rw[<-Tm.zzb,ZK]
      rw[e1,Tm.zy0 hu,kS,kS,h0'];simp
     rw[e];simp -dsimp -implicitDefEqProofs only[go_sem,seval,↓reduceIte,zV,Tm.pvs_len,hc,zY (Tm.pvs_get hu),hcall,h0']
   ·rintro - hinv;have hc:¬(t.args.length:Int)<(t.args.length:Int):=by omega
    rw[ZC] at hinv;simp -dsimp -implicitDefEqProofs only[go_sem,seval,↓reduceIte,zV,Tm.pvs_len,hc,hinv]
theorem MP(t:Tm)(l:List B)(D:List Bool)(hs:Srt' l)(hl:l.length<1000000000)(hD:D.length=l.length)(ht:t.size<1000000000){hp:Heap}{r:Nat}(hr:hp[r]? =some (.arr none (bools D) false)):
  S 127 [.pv none (.sl (some 5) (bds l)),.sl none r l.length 0 l.length,t.av] hp=some (.ret (O9 (sttl l D t.occ)),hp):=by
 have h1:AV.freeze deep (.sl none r l.length 0 l.length) hp=some (.sl none (bools D),hp.set r (.arr none (bools D) true)):=by simp[AV.freeze,deep,hr,kQ,hD]
 have e1:∀H:Heap,AV.freeze deep (.pv none (.sl (some 5) (bds l))) H=some (.sl (some 5) (bds l),H):=fun _=>rfl;have e2:∀H:Heap,AV.freeze deep t.av H=some (t.pv,H):=fun _=>rfl;exact yG (F:=find tab) (prim:=prim) (f:=127) (args:=[.pv none (.sl (some 5) (bds l)),.sl none r l.length 0 l.length,t.av]) (ps:=[(none,.sl (some 5) (bds l)),(none,.sl none (bools D)),(some 4,t.pv)]) (hp:=hp) (hp1:=hp.set r (.arr none (bools D) true)) rfl rfl rfl (by simp only[Yi,e1,h1,e2];rfl) (MO t l D hs hl hD ht [])
structure OKB(l:List B):Prop where
 good:Good l
 rng:∀b∈l,0<=b.1/\b.1<=1099511627776
 acyc:∃rk:Nat->Nat,∀(i:Nat) (b:B),l[i]? =some b->∀w∈b.2.occ,fndB l w=true->rk (lbB l w)<rk i
structure InvD(l:List B)(D:List Bool)(left:Nat):Prop where
 len:D.length=l.length
 cnt:D.count false=left
 rk:∃(rk:Nat->Nat) (c:Nat),∀(i:Nat) (b:B),D[i]? =some true->l[i]? =some b->rk i<c/\∀w∈b.2.occ,fndB l w=true->D[lbB l w]? =some true/\rk (lbB l w)<rk i
theorem InvD.zzu(l:List B):InvD l (List.replicate l.length false) l.length:=
 ⟨by simp,by simp,fun _=>0,0,fun i b h=>by
  rw[List.getElem?_replicate] at h;split at h <;> cases h⟩
theorem MQ{D:List Bool}{i:Nat}(h:D[i]? =some false):(D.set i true).count false+1=D.count false:=by
 induction D generalizing i with
 |nil=>simp at h
 |cons x r ih=>
  cases i with
  |zero=>simp at h;subst h;simp
  |succ i=>
   have:=ih (i:=i) (by simpa using h);simp only[zJ,List.count_cons];omega
theorem InvD.mark{l:List B}{D:List Bool}{left i:Nat}{b:B}(h:InvD l D left)(hi:D[i]? =some false)(hb:l[i]? =some b)(hs:sttl l D b.2.occ=true):InvD l (D.set i true) (left - 1):=by
 obtain⟨h1,h2,rk,c,h3⟩:=h;have hlt:=(Ze.1 hi).1;refine⟨by simp[h1],by have:=MQ hi;omega,fun j=>if j=i then c else rk j,c+1,fun j b' hj hb'=> ?_⟩;by_cases e:j=i
 ·subst e;rw[hb] at hb';cases hb';refine⟨by simp,fun w hw hf=> ?_⟩;have hm:=Zo.1 hs w hw;have hd:D[lbB l w]? =some true:=by
   simp only[mk1,hf,Bool.not_true,Bool.false_or,zM] at hm;cases hx:D[lbB l w]? with
   |none=>rw[hx] at hm;cases hm
   |some d=>rw[hx] at hm;simp at hm;rw[hm]
  have hne:lbB l w≠j:=by intro e;rw[e,hi] at hd;cases hd
  obtain⟨x,hx⟩:∃x,l[lbB l w]? =some x:=⟨_,Zf (kT hf)⟩;obtain⟨k1,_⟩:=h3 _ x hd hx;refine⟨by rw[Zy (Ne.symm hne)];exact hd,?_⟩;simp only[Za hne,if_true];exact k1
 ·rw[Zy (Ne.symm e)] at hj;obtain⟨k1,k2⟩:=h3 j b' hj hb';refine⟨by simp only[Za e];omega,fun w hw hf=> ?_⟩;obtain⟨m1,m2⟩:=k2 w hw hf;have hne:lbB l w≠i:=by intro e;rw[e,hi] at m1;cases m1
  refine⟨by rw[Zy (Ne.symm hne)];exact m1,?_⟩;simp only[Za hne,Za e];exact m2
theorem InvD.done{l:List B}{D:List Bool}(h:InvD l D 0):∃rk:Nat->Nat,∀(i:Nat) (b:B),l[i]? =some b->∀w∈b.2.occ,fndB l w=true->rk (lbB l w)<rk i:=by
 obtain⟨h1,h2,rk,c,h3⟩:=h;refine⟨rk,fun i b hb w hw hf=> ?_⟩;have hlt:=(Ze.1 hb).1;have hd:D[i]? =some true:=by
  rw[Zf (by omega)];cases hx:D[i] with
  |true=>rfl
  |false=>
   have:false∈D:=by rw[<-hx];exact List.getElem_mem _
   have:=List.count_pos_iff.2 this;omega
 exact((h3 i b hd hb).2 w hw hf).2
def WfAt(l:List B)(i:Nat):Prop:=∀b,l[i]? =some b->0<=b.1/\b.1<=1099511627776/\b.2.valid=true/\(0<i->∀c,l[i - 1]? =some c->c.1<b.1)
theorem kU{l:List B}(h:∀i,i<l.length->WfAt l i):Srt' l:=by
 have key:∀(n i:Nat) (a b:B),l[i]? =some a->l[i+n+1]? =some b->a.1<b.1:=by
  intro n
  induction n with
  |zero=>
   intro i a b ha hb;have hlt:=(Ze.1 hb).1;exact(h (i+0+1) hlt b hb).2.2.2 (by omega) a (by simpa using ha)
  |succ n ih=>
   intro i a b ha hb;have hlt:=(Ze.1 hb).1;obtain⟨c,hc⟩:∃c,l[i+n+1]? =some c:=⟨_,Zf (by omega)⟩;have h1:=ih i a c ha hc;have h2:=(h (i+(n+1)+1) hlt b hb).2.2.2 (by omega) c (by rw[show i+(n+1)+1 - 1=i+n+1 by omega];exact hc);omega
 refine List.pairwise_iff_getElem.2 fun i j hi hj hij=> ?_;exact key (j - i - 1) i _ _ (Zf hi) (by rw[show i+(j - i - 1)+1=j by omega];exact Zf hj)
theorem OKB.wf{l:List B}(h:OKB l)(i:Nat):WfAt l i:=fun b hb=>by
 have hm:=Zk hb;obtain⟨h1,h2⟩:=h.rng b hm;refine⟨h1,h2,(h.good.2 b hm).1,fun hi c hc=> ?_⟩;obtain⟨hlt,hb'⟩:=Ze.1 hb;obtain⟨hlt2,hc'⟩:=Ze.1 hc;have:=List.pairwise_iff_getElem.1 h.good.1 (i - 1) i hlt2 hlt (by omega);rw[hb',hc'] at this;exact this
theorem MS{l:List B}{D:List Bool}{n:Nat}(h:InvD l D n):n<=l.length:=by
 have h1:=h.len;have h2:=h.cnt;have:=List.count_le_length (a:=false) (l:=D);omega
theorem InvD.stuck{l:List B}{D:List Bool}{n:Nat}(h:InvD l D n)(hn:0<n)(hs:∀(j:Nat) (b:B),l[j]? =some b->D[j]? =some false->sttl l D b.2.occ=false):¬OKB l:=by
 rintro⟨_,_,rk,ha⟩;have key:∀(m j:Nat),rk j=m->D[j]? =some false->False:=by
  intro m
  induction m using Nat.strongRecOn with
  |_ m ih=>
   intro j hm hj;have hlt:=(Ze.1 hj).1;have hl:=h.len;obtain⟨b,hb⟩:∃b,l[j]? =some b:=⟨_,Zf (by omega)⟩;have:=hs j b hb hj;obtain⟨w,hw,hm1⟩:=List.all_eq_false.1 this;have hf:fndB l w=true:=by
    cases e:fndB l w with
    |true=>rfl
    |false=>simp[mk1,e] at hm1
   have hd:D.getD (lbB l w) false=false:=by
    cases e:D.getD (lbB l w) false with
    |false=>rfl
    |true=>simp[mk1,e] at hm1;rw[zM,hm1.2] at e;cases e
   have hlt2:=kT hf;have hd2:D[lbB l w]? =some false:=by
    rw[zM,Zf (by omega)] at hd;rw[Zf (by omega)];simpa using hd
   exact ih (rk (lbB l w)) (by have:=ha j b hb w hw hf;omega) _ rfl hd2
 have:0<D.count false:=by have:=h.cnt;omega
 obtain⟨j,hlt,hj⟩:=zi (List.count_pos_iff.1 this);exact key _ j rfl (by rw[Zf hlt,hj])
def VP(l:List B)(v:AV):Prop:=∃b:Bool,v=O9 b/\(b=true↔OKB l)
theorem XM{l:List B}(h:¬OKB l):∃v',AV.pv none (.bool false)=v'/\VP l v':=⟨_,rfl,false,rfl,(fun e=>by cases e),fun e=>absurd e h⟩
theorem Gb{l:List B}(h:OKB l):∃v',AV.pv none (.bool true)=v'/\VP l v':=⟨_,rfl,true,rfl,(fun _=>h),fun _=>rfl⟩
theorem MT(l:List B)(hl:l.length<100000000)(hsz:∀b∈l,b.2.size<1000000000):∃v,(∀hp,S 91 [.pv none (.sl (some 5) (bds l))] hp=some (.ret v,hp))/\VP l v:=by
 refine Jg (ps:=[(none,.sl (some 5) (bds l))]) (VP l) rfl rfl rfl (fun hp=>rfl) rfl ?_;have hgood:(∀i,i<l.length->WfAt l i)->Good l/\∀b∈l,0<=b.1/\b.1<=1099511627776:=fun h=>by
  refine⟨⟨kU h,fun b hb=> ?_⟩,fun b hb=> ?_⟩
  ·obtain⟨i,hlt,rfl⟩:=zi hb;exact⟨(h i hlt _ (Zf hlt)).2.2.1,hsz _ hb⟩
  ·obtain⟨i,hlt,rfl⟩:=zi hb;exact⟨(h i hlt _ (Zf hlt)).1,(h i hlt _ (Zf hlt)).2.1⟩
 simp -dsimp -implicitDefEqProofs only[go_sem,seval,↓reduceIte,Yk];refine Yv (α:=Unit) l.length (fun i _=>∀j,j<i->WfAt l j) (fun i _=>⟨[(0,.pv none (.sl (some 5) (bds l))),(3,O8 i)],[]⟩) () ⟨fun j hj=>by omega,rfl⟩ ?_ ?_
 ·rintro i - h hinv;have hc:(i:Int)<(l.length:Int):=by omega
  obtain⟨b,hb⟩:∃b,l[i]? =some b:=⟨_,Zf h⟩;have hbs:=hsz b (Zk hb);have hv:=fun hp=>yS b.2 hp hbs;simp only[Tm.av] at hv;have w2:=O0 i (by omega)
  have next:WfAt l i->∀j,j<i+1->WfAt l j:=fun hw j hj=>by
   rcases Zq j i with h|h
   ·exact hinv j h
   ·have:j=i:=by omega
    subst this;exact hw
  by_cases h1:b.1<0
  ·simp -dsimp -implicitDefEqProofs only[go_sem,seval,↓reduceIte,Yk,hc,zY (Yx hb),Y3,h1];exact XM fun h=>by have:=(h.wf i b hb).1;omega
  ·by_cases h2:1099511627776<b.1
   ·simp -dsimp -implicitDefEqProofs only[go_sem,seval,↓reduceIte,Yk,hc,zY (Yx hb),Y3,h1,h2];exact XM fun h=>by have:=(h.wf i b hb).2.1;omega
   ·by_cases h3:0<i
    ·have h3':(0:Int)<(i:Int):=by omega
     obtain⟨c,hcc⟩:∃c,l[i - 1]? =some c:=⟨_,Zf (by omega)⟩;have w3:IntKind.i64.wrap ((i:Int) - 1)=((i - 1:Nat):Int):=by rw[zZ (by omega) (by omega)];omega
     by_cases h4:b.1<=c.1
     ·simp -dsimp -implicitDefEqProofs only[go_sem,seval,↓reduceIte,Yk,hc,zY (Yx hb),zY (Yx hcc),Y3,h1,h2,h3',h4,w3];exact XM fun h=>by have:=(h.wf i b hb).2.2.2 h3 c hcc;omega
     ·by_cases h5:b.2.valid=true
      ·simp -dsimp -implicitDefEqProofs only[go_sem,seval,↓reduceIte,Yk,hc,zY (Yx hb),zY (Yx hcc),Y3,yY,h1,h2,h3',h4,w3,hv,h5,w2];exact⟨(),next fun b' hb'=>by rw[hb] at hb';cases hb';exact⟨by omega,by omega,h5,fun _ c' hc'=>by rw[hcc] at hc';cases hc';omega⟩⟩
      ·have h5':b.2.valid=false:=by simpa using h5
       simp -dsimp -implicitDefEqProofs only[go_sem,seval,↓reduceIte,Yk,hc,zY (Yx hb),zY (Yx hcc),Y3,yY,h1,h2,h3',h4,w3,hv,h5'];exact XM fun h=>by have:=(h.wf i b hb).2.2.1;rw[h5'] at this;cases this
    ·have h3':¬(0:Int)<(i:Int):=by omega
     by_cases h5:b.2.valid=true
     ·simp -dsimp -implicitDefEqProofs only[go_sem,seval,↓reduceIte,Yk,hc,zY (Yx hb),Y3,yY,h1,h2,h3',hv,h5,w2];exact⟨(),next fun b' hb'=>by rw[hb] at hb';cases hb';exact⟨by omega,by omega,h5,fun h=>absurd h h3⟩⟩
     ·have h5':b.2.valid=false:=by simpa using h5
      simp -dsimp -implicitDefEqProofs only[go_sem,seval,↓reduceIte,Yk,hc,zY (Yx hb),Y3,yY,h1,h2,h3',hv,h5'];exact XM fun h=>by have:=(h.wf i b hb).2.2.1;rw[h5'] at this;cases this
 ·rintro - hinv;have hc:¬(l.length:Int)<(l.length:Int):=by omega
  have hs:=kU hinv;have hmk:XA none (.bool false) [] [O8 l.length,O8 l.length]=some (.sl none 0 l.length 0 l.length,[.arr none (bools (List.replicate l.length false)) false]):=by
   have:(l.length:Int)<=(lim:Nat):=by unfold lim;omega
   simp[XA,this,bools,Sh.size]
  simp -dsimp -implicitDefEqProofs only[go_sem,seval,↓reduceIte,Yk,hc,hmk];simp -dsimp -implicitDefEqProofs only[c91k32,go_sem,seval,↓reduceIte];refine Yr (fun n st=>∃(left:Nat) (D:List Bool),n=left/\InvD l D left/\st=⟨[(0,.pv none (.sl (some 5) (bds l))),(4,.sl none 0 l.length 0 l.length),(5,O8 left)],[.arr none (bools D) false]⟩) (n:=l.length) ⟨l.length,_,rfl,InvD.zzu l,?_⟩ ?_
  ·simp -dsimp -implicitDefEqProofs only[go_sem,seval,↓reduceIte]
   try rfl
  rintro n st ⟨left,D,rfl,hD,rfl⟩;by_cases h0:0<n
  ·have h0':(0:Int)<(n:Int):=by omega
   simp -dsimp -implicitDefEqProofs only[c91b31,c91k32,go_sem,seval,↓reduceIte,Yk,h0'];refine Yv (α:=Nat × List Bool) l.length (fun i a=>InvD l a.2 a.1/\a.1<=n/\(a.1=n->a.2=D/\∀j,j<i->∀b,l[j]? =some b->D[j]? =some false->sttl l D b.2.occ=false))
    (fun i a=>⟨[(0,.pv none (.sl (some 5) (bds l))),(4,.sl none 0 l.length 0 l.length),(5,O8 a.1),(6,O8 n),(7,O8 i)],[.arr none (bools a.2) false]⟩) (n,D) ⟨⟨hD,Zi _,fun _=>⟨rfl,fun j hj=>by omega⟩⟩,rfl⟩ ?_ ?_
   ·rintro i ⟨left,D1⟩ h ⟨hI,hle,hq⟩;simp only at hI hle hq;have hc:(i:Int)<(l.length:Int):=by omega
    obtain⟨b,hb⟩:∃b,l[i]? =some b:=⟨_,Zf h⟩;have hlen:=hI.len;obtain⟨d,hd⟩:∃d,D1[i]? =some d:=⟨_,Zf (by omega)⟩;have hld:aload none [.arr none (bools D1) false] (.eptr none 0 l.length i 0)=some (O9 d):=by
     simp[aload,kQ,hlen,kR hd]
    have hst:Yw none 0 [.arr none (bools D1) false] [.eptr none 0 l.length i 0,O9 true]=some (.undef,[.arr none (bools (D1.set i true)) false]):=by
     have e:AV.freeze deep (O9 true) [.arr none (bools D1) false]=some (.bool true,[.arr none (bools D1) false]):=rfl;simp[Yw,astore,kQ,hlen,kR hd,AV.shp,e];simp[bools]
    have hset:=MP b.2 l D1 hs (by omega) hlen (hsz b (Zk hb)) (hp:=[.arr none (bools D1) false]) (r:=0) rfl;simp only[Tm.av] at hset;have w2:=O0 i (by omega)
    have hcl:=MS hI;cases d with
    |true=>
     simp -dsimp -implicitDefEqProofs only[c91b31,c91k32,go_sem,seval,↓reduceIte,Yk,hc,Yp h,hld,w2];refine⟨(left,D1),⟨hI,hle,fun e=> ?_⟩,rfl⟩;obtain⟨rfl,hq2⟩:=hq e;refine⟨rfl,fun j hj b' hb' hf=> ?_⟩;rcases Zq j i with h|h
     ·exact hq2 j h b' hb' hf
     ·have:j=i:=by omega
      subst this;rw[hd] at hf;cases hf
    |false=>
     by_cases hsb:sttl l D1 b.2.occ=true
     ·have hlp:0<left:=by
       have:false∈D1:=Zk hd;have:=List.count_pos_iff.2 this;have:=hI.cnt;omega
      have w4:IntKind.i64.wrap ((left:Int) - 1)=((left - 1:Nat):Int):=by rw[zZ (by omega) (by omega)];omega
      simp -dsimp -implicitDefEqProofs only[c91b31,c91k32,go_sem,seval,↓reduceIte,Yk,hc,Yp h,hld,w2,zY (Yx hb),yY,hset,hsb,hst,w4];exact⟨(left - 1,D1.set i true),⟨hI.mark hd hb hsb,by omega,fun e=>by omega⟩,rfl⟩
     ·have hsb':sttl l D1 b.2.occ=false:=by simpa using hsb
      simp -dsimp -implicitDefEqProofs only[c91b31,c91k32,go_sem,seval,↓reduceIte,Yk,hc,Yp h,hld,w2,zY (Yx hb),yY,hset,hsb'];refine⟨(left,D1),⟨hI,hle,fun e=> ?_⟩,rfl⟩;obtain⟨rfl,hq2⟩:=hq e;refine⟨rfl,fun j hj b' hb' hf=> ?_⟩;rcases Zq j i with h|h
      ·exact hq2 j h b' hb' hf
      ·have:j=i:=by omega
       subst this;rw[hb] at hb';cases hb';exact hsb'
   ·rintro⟨left,D1⟩ ⟨hI,hle,hq⟩;simp only at hI hle hq;have hc:¬(l.length:Int)<(l.length:Int):=by omega
    by_cases e:left=n
    ·obtain⟨rfl,hq2⟩:=hq e;subst e;simp -dsimp -implicitDefEqProofs only[c91b31,c91k32,go_sem,seval,↓reduceIte,Yk,hc];exact XM (hI.stuck h0 fun j b hb hf=>hq2 j (Ze.1 hb).1 b hb hf)
    ·have e':¬(left:Int)=(n:Int):=by omega
     simp -dsimp -implicitDefEqProofs only[c91b31,c91k32,go_sem,seval,↓reduceIte,Yk,hc,e'];exact⟨left,by omega,left,D1,rfl,hI,rfl⟩
  ·have h0':¬(0:Int)<(n:Int):=by omega
   obtain rfl:n=0:=by omega
   simp -dsimp -implicitDefEqProofs only[c91b31,c91k32,go_sem,seval,↓reduceIte,Yk,h0'];exact Gb ⟨(hgood hinv).1,(hgood hinv).2,hD.done⟩
mutual
def Tm.sub(f:Int->Tm):Tm->Tm
 | .mk k n s ts=>if k=0 then f n else .mk k n s (Tm.subs f ts)
def Tm.subs(f:Int->Tm):List Tm->List Tm
 |[]=>[]
 |t::r=>Tm.sub f t::Tm.subs f r
end
theorem Tm.zzj(f:Int->Tm):∀l:List Tm,Tm.subs f l=l.map (Tm.sub f)
 |[]=>rfl
 |t::r=>by rw[Tm.subs,Tm.zzj f r];rfl
theorem Tm.zyX(f:Int->Tm)(t:Tm):Tm.sub f t=if t.kind=0 then f t.n else .mk t.kind t.n t.name (t.args.map (Tm.sub f)):=by
 cases t with
 |mk k n s ts=>
  simp only[Tm.sub,Tm.kind,Tm.n,Tm.name,Tm.args,Tm.zzj];by_cases h:k=0 <;> simp[h]
mutual
def Tm.wt(f:Int->Nat):Tm->Nat
 | .mk k n _ ts=>1+(if k=0 then f n else Tm.wts f ts)
def Tm.wts(f:Int->Nat):List Tm->Nat
 |[]=>0
 |t::r=>Tm.wt f t+Tm.wts f r
end
theorem Tm.zzl(f:Int->Nat)(t:Tm):Tm.wt f t=1+(if t.kind=0 then f t.n else Tm.wts f t.args):=by
 cases t;rfl
theorem Tm.zzm{f:Int->Nat}:∀{l:List Tm} {t:Tm},t∈l->Tm.wt f t<=Tm.wts f l
 |[],_,h=>by cases h
 |x::r,t,h=>by
  rw[Tm.wts];rcases Zt.1 h with rfl|h
  ·omega
  ·have:=Tm.zzm (f:=f) h;omega
theorem Tm.zy9{l:List Tm}{u:Tm}(h:u∈l){w:Int}(hw:w∈u.occ):w∈Tm.occs l:=by
 induction l with
 |nil=>cases h
 |cons x r ih=>
  rw[Tm.occs];rcases Zt.1 h with rfl|h
  ·exact List.mem_append_left _ hw
  ·exact List.mem_append_right _ (ih h)
theorem Tm.zza{l:List Tm}{w:Int}(hw:w∈Tm.occs l):∃u∈l,w∈u.occ:=by
 induction l with
 |nil=>cases hw
 |cons x r ih=>
  rw[Tm.occs] at hw;rcases Zr.1 hw with h|h
  ·exact⟨x,Zv,h⟩
  ·obtain⟨u,hu,h⟩:=ih h;exact⟨u,Zu _ hu,h⟩
theorem Tm.zy7{t u:Tm}(hk:¬t.kind=0)(h:u∈t.args){w:Int}(hw:w∈u.occ):w∈t.occ:=by
 rw[Tm.zyW,Za hk];exact Tm.zy9 h hw
theorem Tm.zzf{f g:Int->Tm}:∀t:Tm,(∀w∈t.occ,f w=g w)->Tm.sub f t=Tm.sub g t:=by
 intro t
 induction t using Tm.zyR with
 |h t ih=>
  intro h;rw[Tm.zyX,Tm.zyX];by_cases hk:t.kind=0
  ·rw[Zb hk,Zb hk];exact h _ (by rw[Tm.zyW,Zb hk];simp)
  ·rw[Za hk,Za hk]
   congr 1
   exact List.map_congr_left fun u hu=>ih u hu fun w hw=>h w (Tm.zy7 hk hu hw)
theorem Tm.zzg{f g:Int->Nat}:∀l:List Tm,(∀u∈l,Tm.wt f u=Tm.wt g u)->Tm.wts f l=Tm.wts g l
 |[],_=>rfl
 |x::r,h=>by rw[Tm.wts,Tm.wts,h x Zv,Tm.zzg r fun u hu=>h u (Zu _ hu)]
theorem Tm.zzk{f g:Int->Nat}:∀t:Tm,(∀w∈t.occ,f w=g w)->Tm.wt f t=Tm.wt g t:=by
 intro t
 induction t using Tm.zyR with
 |h t ih=>
  intro h;rw[Tm.zzl,Tm.zzl];by_cases hk:t.kind=0
  ·rw[Zb hk,Zb hk,h _ (by rw[Tm.zyW,Zb hk];simp)]
  ·rw[Za hk,Za hk];rw[Tm.zzg t.args fun u hu=>ih u hu fun w hw=>h w (Tm.zy7 hk hu hw)]
def toB(l:List B)(v:Int):Tm:=match l[lbB l v]? with
 |some b=>b.2
 |none=>default
theorem XV{l:List B}{v:Int}(h:fndB l v=true):l[lbB l v]? =some (v,toB l v):=by
 unfold fndB at h;unfold toB;cases e:l[lbB l v]? with
 |none=>rw[e] at h;cases h
 |some b=>
  rw[e] at h;have:b.1=v:=by simpa using h
  rw[<-this]
def Acyc(l:List B):Prop:=∃r:Int->Nat,∀v,fndB l v=true->∀w∈(toB l v).occ,fndB l w=true->r w<r v
theorem kV{l:List B}(hs:Srt' l){i:Nat}{b:B}(hb:l[i]? =some b):fndB l b.1=true/\lbB l b.1=i:=by
 have hlt:=(Ze.1 hb).1;have h1:¬i<lbB l b.1:=fun h=>by have:=(QD (v:=b.1) hs hb).2 h;omega
 have h2:¬lbB l b.1<i:=fun h=>by
  obtain⟨c,hc⟩:∃c,l[lbB l b.1]? =some c:=⟨_,Zf (by omega)⟩;have h3:c.1<b.1:=by
   obtain⟨l1,e1⟩:=Ze.1 hc;obtain⟨l2,e2⟩:=Ze.1 hb;have:=List.pairwise_iff_getElem.1 hs _ _ l1 l2 h;rw[e1,e2] at this;exact this
  have:=(QD (v:=b.1) hs hc).1 h3;omega
 have e:lbB l b.1=i:=by omega
 refine⟨?_,e⟩;unfold fndB;rw[e,hb];simp
theorem OKB.Acyc{l:List B}(h:OKB l):Acyc l:=by
 obtain⟨rk,hr⟩:=h.acyc;refine⟨fun v=>rk (lbB l v),fun v hv w hw hf=> ?_⟩;exact hr _ _ (XV hv) w hw hf
theorem Gc{l:List B}(hG:Good l)(hr:∀b∈l,0<=b.1/\b.1<=1099511627776)(ha:Acyc l):OKB l:=by
 obtain⟨r,ha⟩:=ha;refine⟨hG,hr,fun i=>match l[i]? with|some b=>r b.1|none=>0,fun i b hb w hw hf=> ?_⟩;obtain⟨h1,h2⟩:=kV hG.1 hb;have h3:=XV h1;rw[h2,hb] at h3;have h4:toB l b.1=b.2:=by cases e:toB l b.1;rw[e] at h3;cases b;cases h3;rfl
 simp only[XV hf,hb];exact ha b.1 h1 w (by rw[h4];exact hw) hf
theorem qj{X:Type}{l:List B}(h:Acyc l)(u:Int->X)(s:(Int->X)->Tm->X)(cg:∀f g t,(∀w∈t.occ,f w=g w)->s f t=s g t):
  ∃f:Int->X,∀v,f v=if fndB l v=true then s f (toB l v) else u v:=by
 obtain⟨rk,ha⟩:=h;obtain⟨it,h0,h1⟩:∃it:Nat->Int->X,(∀v,it 0 v=u v)/\∀n v,it (n+1) v=if fndB l v=true then s (it n) (toB l v) else u v:=
  ⟨fun n=>Nat.rec u (fun _ f v=>if fndB l v=true then s f (toB l v) else u v) n,fun _=>rfl,fun _ _=>rfl⟩
 have hu:∀n v,¬fndB l v=true->it n v=u v:=fun n v hv=>by
  cases n with
  |zero=>exact h0 v
  |succ n=>rw[h1,Za hv]
 have stab:∀k n m v,rk v=k->k<n->k<m->it n v=it m v:=by
  intro k
  induction k using Nat.strongRecOn with
  |_ k ih=>
   intro n m v hk hn hm;by_cases hv:fndB l v=true
   ·obtain⟨n',rfl⟩:∃n',n=n'+1:=⟨n - 1,by omega⟩;obtain⟨m',rfl⟩:∃m',m=m'+1:=⟨m - 1,by omega⟩;rw[h1,h1,Zb hv,Zb hv];refine cg _ _ _ fun w hw=> ?_;by_cases hf:fndB l w=true
    ·have:=ha v hv w hw hf;exact ih (rk w) (by omega) n' m' w rfl (by omega) (by omega)
    ·rw[hu _ _ hf,hu _ _ hf]
   ·rw[hu _ _ hv,hu _ _ hv]
 refine⟨fun v=>it (rk v+1) v,fun v=> ?_⟩;by_cases hv:fndB l v=true
 ·rw[Zb hv];show it (rk v+1) v=_;rw[h1,Zb hv];refine cg _ _ _ fun w hw=> ?_;by_cases hf:fndB l w=true
  ·have:=ha v hv w hw hf;exact stab (rk w) _ _ w rfl (by omega) (by omega)
  ·rw[hu _ _ hf,hu _ _ hf]
 ·rw[Za hv];exact hu _ _ hv
def tvar(v:Int):Tm:=.mk 0 v [] []
open Classical in
noncomputable def rsv(l:List B):Int->Tm:=if h:Acyc l then Classical.choose (qj h tvar Tm.sub fun _ _ t h=>Tm.zzf t h) else tvar
theorem MU{l:List B}(h:Acyc l)(v:Int):rsv l v=if fndB l v=true then Tm.sub (rsv l) (toB l v) else tvar v:=by
 unfold rsv;rw[dif_pos h];exact Classical.choose_spec (qj h tvar Tm.sub fun _ _ t h=>Tm.zzf t h) v
open Classical in
noncomputable def muv(l:List B):Int->Nat:=if h:Acyc l then Classical.choose (qj h (fun _=>0) Tm.wt fun _ _ t h=>Tm.zzk t h) else fun _=>0
theorem MV{l:List B}(h:Acyc l)(v:Int):muv l v=if fndB l v=true then Tm.wt (muv l) (toB l v) else 0:=by
 unfold muv;rw[dif_pos h];exact Classical.choose_spec (qj h (fun _=>0) Tm.wt fun _ _ t h=>Tm.zzk t h) v
noncomputable def rs(l:List B)(t:Tm):Tm:=Tm.sub (rsv l) t
noncomputable def mu(l:List B)(t:Tm):Nat:=Tm.wt (muv l) t
theorem xr(l:List B){t u:Tm}(hk:¬t.kind=0)(h:u∈t.args):mu l u<mu l t:=by
 unfold mu;rw[Tm.zzl _ t,Za hk];have:=Tm.zzm (f:=muv l) h;omega
theorem yZ{l:List B}(h:Acyc l){t:Tm}(hk:t.kind=0)(hf:fndB l t.n=true):mu l (toB l t.n)<mu l t:=by
 unfold mu;rw[Tm.zzl _ t,Zb hk,MV h,Zb hf];omega
theorem QF{l:List B}(h:Acyc l){t:Tm}(hk:t.kind=0):rs l t=if fndB l t.n=true then rs l (toB l t.n) else tvar t.n:=by
 unfold rs;rw[Tm.zyX,Zb hk];exact MU h t.n
theorem xu(l:List B){t:Tm}(hk:¬t.kind=0):rs l t=.mk t.kind t.n t.name (t.args.map (rs l)):=by
 unfold rs;rw[Tm.zyX,Za hk]
theorem yn{t:Tm}(h:t.fits=true)(hk:t.kind=0):t=tvar t.n:=by
 rw[Tm.fits_eq] at h;have h1:t.node=true:=by simp at h;exact h.1
 cases t with
 |mk k n s ts=>
  simp only[Tm.kind] at hk;subst hk;simp[Tm.node,Tm.kind,Tm.n,Tm.name,Tm.args] at h1;obtain⟨⟨_,h3⟩,h4⟩:=h1;rw[h4,ze h3];rfl
theorem valid_fits{t:Tm}(h:t.valid=true):t.fits=true:=by simp[Tm.valid] at h;exact h.2
theorem valid_size{t:Tm}(h:t.valid=true):t.size<=2000:=by simp[Tm.valid] at h;exact h.1
theorem QG{t:Tm}(h:t.fits=true)(h2:t.size<=2000):t.valid=true:=by simp[Tm.valid,h,h2]
theorem OKB.to{l:List B}(h:OKB l){v:Int}(hf:fndB l v=true):(toB l v).valid=true/\(toB l v).size<1000000000:=h.good.2 _ (Zk (XV hf))
def fstep(f:Int->Tm)(t:Tm):Tm:=if t.kind=0 then f t.n else t
theorem Gd{f g:Int->Tm}(t:Tm)(h:∀w∈t.occ,f w=g w):fstep f t=fstep g t:=by
 unfold fstep;by_cases hk:t.kind=0
 ·rw[Zb hk,Zb hk];exact h _ (by rw[Tm.zyW,Zb hk];simp)
 ·rw[Za hk,Za hk]
open Classical in
noncomputable def flv(l:List B):Int->Tm:=if h:Acyc l then Classical.choose (qj h tvar fstep fun _ _ t h=>Gd t h) else tvar
theorem Ge{l:List B}(h:Acyc l)(v:Int):flv l v=if fndB l v=true then fstep (flv l) (toB l v) else tvar v:=by
 unfold flv;simp only[dif_pos h];exact Classical.choose_spec (qj h tvar fstep fun _ _ t h=>Gd t h) v
noncomputable def flw(l:List B)(t:Tm):Tm:=fstep (flv l) t
theorem xV(l:List B){t:Tm}(hk:¬t.kind=0):flw l t=t:=by unfold flw fstep;rw[Za hk]
theorem QH{l:List B}(h:Acyc l){t:Tm}(hk:t.kind=0)(hf:fndB l t.n=true):flw l t=flw l (toB l t.n):=by
 unfold flw;rw[fstep,Zb hk,Ge h,Zb hf]
theorem QI{l:List B}(h:Acyc l){t:Tm}(hv:t.fits=true)(hk:t.kind=0)(hf:¬fndB l t.n=true):flw l t=t:=by
 unfold flw;rw[fstep,Zb hk,Ge h,Za hf,<-yn hv hk]
theorem jt{l:List B}(h:OKB l):∀(m:Nat) (t:Tm),mu l t=m->t.valid=true->(flw l t).valid=true/\rs l (flw l t)=rs l t/\mu l (flw l t)<=mu l t/\¬((flw l t).kind=0/\fndB l (flw l t).n=true):=by
 intro m
 induction m using Nat.strongRecOn with
 |_ m ih=>
  intro t hm hv;by_cases hk:t.kind=0
  ·by_cases hf:fndB l t.n=true
   ·have hlt:=yZ h.Acyc hk hf;obtain⟨h1,h2,h3,h4⟩:=ih _ (by omega) (toB l t.n) rfl (h.to hf).1;rw[QH h.Acyc hk hf];exact⟨h1,by rw[h2,QF h.Acyc hk,Zb hf],by omega,h4⟩
   ·rw[QI h.Acyc (valid_fits hv) hk hf];exact⟨hv,rfl,Zi _,fun e=>hf e.2⟩
  ·rw[xV l hk];exact⟨hv,rfl,Zi _,fun e=>hk e.1⟩
theorem qk{l:List B}(h:Acyc l){t:Tm}(hv:t.fits=true)(hk:t.kind=0)(hf:¬fndB l t.n=true):rs l t=t:=by
 rw[QF h hk,Za hf,<-yn hv hk]
theorem MW{l:List B}(h:OKB l):∀(m:Nat) (t:Tm),mu l t=m->t.fits=true->(rs l t).fits=true:=by
 intro m
 induction m using Nat.strongRecOn with
 |_ m ih=>
  intro t hm hv;by_cases hk:t.kind=0
  ·by_cases hf:fndB l t.n=true
   ·have hlt:=yZ h.Acyc hk hf;rw[QF h.Acyc hk,Zb hf];exact ih _ (by omega) _ rfl (valid_fits (h.to hf).1)
   ·rw[qk h.Acyc hv hk hf];exact hv
  ·rw[xu l hk,Tm.fits_eq];have h1:=hv;rw[Tm.fits_eq] at h1;simp only[Zm] at h1 ⊢;refine⟨?_,Tm.fitsAll_iff.2 fun u hu=> ?_⟩
   ·have:=h1.1;cases t;simp only[Tm.node,Tm.kind,Tm.n,Tm.name,Tm.args,ZO] at this ⊢;exact this
   ·obtain⟨w,hw,rfl⟩:=Z2.1 hu;have:=xr l hk hw;exact ih _ (by omega) w rfl (Tm.zyP hv hw)
theorem fit9{t:Tm}(h:t.valid=true):t.size<1000000000:=by have:=valid_size h;omega
theorem kW(l:List B)(t:Tm)(h:OKB l)(hl:l.length<1000000000)(hv:t.valid=true)(hp:Heap):
  S 147 [.pv none (.sl (some 5) (bds l)),t.av] hp=some (.ret (flw l t).av,hp):=by
 refine Yb rfl rfl rfl (Yd [(none,.sl (some 5) (bds l)),(some 4,t.pv)]) rfl ?_;simp -dsimp -implicitDefEqProofs only[go_sem,seval,↓reduceIte,Tm.av];refine Yr (fun n st=>∃t1:Tm,n=mu l t1/\t1.valid=true/\flw l t1=flw l t/\st=⟨[(0,.pv none (.sl (some 5) (bds l))),(3,.ptr 0 0),(4,.ptr 1 0)],[.box (some 4) (.pv (some 4) t1.pv),.box (some 4) (.agg [(none,O8 0),(none,O8 0),(none,Oh []),(none,.sl (some 4) 2 0 0 0)]),.arr (some 4) [] false]⟩) (n:=mu l t) ⟨t,rfl,hv,rfl,?_⟩ ?_
 ·simp -dsimp -implicitDefEqProofs only[go_sem,seval,↓reduceIte]
  try rfl
 ·rintro n st ⟨t1,rfl,hv1,he,rfl⟩;by_cases hk:t1.kind=0
  ·have hfd:=kP l t1.n h.good.1 hl;by_cases hf:fndB l t1.n=true
   ·have hfi:fdI l t1.n=(lbB l t1.n:Int):=by unfold fdI;rw[Zb hf]
    have hnn:¬((lbB l t1.n:Nat):Int)<0:=by omega
    rw[hfi] at hfd;have hlt:=yZ h.Acyc hk hf;simp -dsimp -implicitDefEqProofs only[go_sem,seval,↓reduceIte,Ya,Yh,hk,hfd,hnn,zY (Yx (XV hf)),yY];refine⟨mu l (toB l t1.n),hlt,toB l t1.n,rfl,(h.to hf).1,by rw[<-he,QH h.Acyc hk hf],rfl⟩
   ·have hfi:fdI l t1.n= -1:=by unfold fdI;rw[Za hf]
    have hnn:(-1:Int)<0:=by omega
    rw[hfi] at hfd;rw[QI h.Acyc (valid_fits hv1) hk hf] at he;rw[<-he];simp -dsimp -implicitDefEqProofs only[go_sem,seval,↓reduceIte,Ya,Yh,hk,hfd,hnn];rfl
  ·rw[xV l hk] at he;rw[<-he];simp -dsimp -implicitDefEqProofs only[go_sem,seval,↓reduceIte,Ya,Yh,hk];rfl
theorem MX{l:List B}(h:OKB l){t:Tm}(hv:t.valid=true):rs l t=.mk (flw l t).kind (flw l t).n (flw l t).name ((flw l t).args.map (rs l)):=by
 obtain⟨h1,h2,h3,h4⟩:=jt h _ t rfl hv;rw[<-h2];by_cases hk:(flw l t).kind=0
 ·have e:=yn (valid_fits h1) hk;rw[qk h.Acyc (valid_fits h1) hk fun e=>h4 ⟨hk,e⟩];rw[e];rfl
 ·exact xu l hk
theorem MY{l:List B}(h:OKB l){t u:Tm}(hv:t.valid=true)(hu:u∈(flw l t).args):mu l u<mu l t/\u.valid=true:=by
 obtain⟨h1,h2,h3,h4⟩:=jt h _ t rfl hv;have hk:¬(flw l t).kind=0:=fun hk=>by
  rw[yn (valid_fits h1) hk] at hu;cases hu
 have:=xr l hk hu;exact⟨by omega,YK h1 hu⟩
def rawP(k n:Int)(s:List UInt8)(es:List PV):PV:=.agg [(none,.int .i64 k),(none,.int .i64 n),(none,.str s),(none,.sl (some 4) es)]
theorem kX{hp:Heap}{r:Nat}(k n:Int)(s:List UInt8)(es:List PV)(m:Nat)(hm:m=es.length)(h:hp[r]? =some (.arr (some 4) es false)):Am.frozen (.pv (some 4) (rawP k n s es)) (.agg [(none,O8 k),(none,O8 n),(none,Oh s),(none,.sl (some 4) r m 0 m)]) hp:=by
 subst hm;refine⟨hp.set r (.arr (some 4) es true),?_⟩;show(match AV.freeze (7+1) (.agg _) hp with|some (p,hp')=>some (AV.pv _ p,hp')|none=>none)=_;have e:=O3
 simp[e,AV.freeze.go,AV.freeze,h,rawP];rfl
def appG(t:Tm)(es:List PV):Heap:=[.box (some 4) (.pv (some 4) t.pv),.box (some 4) (.agg [(none,O8 0),(none,O8 0),(none,Oh []),(none,.sl (some 4) 2 0 0 0)]),.arr (some 4) [] false,.box (some 4) (.agg [(none,O8 t.kind),(none,O8 t.n),(none,Oh t.name),(none,.sl (some 4) 5 es.length 0 es.length)]),.arr (some 4) [] false,.arr (some 4) es false]
def RV(R:Tm)(left:Nat)(v:AV):Prop:=∃(p:PV) (e:Int),v=.tuple [.pv (some 4) p,O8 e]/\(R.size<=left->p=R.pv/\e=(left:Int) - R.size)/\(left<R.size->e= -1)
theorem MZ(l:List B)(h:OKB l)(hl:l.length<1000000000):∀(m:Nat) (t:Tm) (left:Nat),mu l t=m->t.valid=true->left<=2000->
  ∃v,(∀hp,S 131 [.pv none (.sl (some 5) (bds l)),t.av,O8 left] hp=some (.ret v,hp))/\RV (rs l t) left v:=by
 intro m
 induction m using Nat.strongRecOn with
 |_ m ih=>
  intro t left hm hv hleft;have hfo:=kW l t h hl hv;have hR:=MX h hv;have hA:=fun u=>MY (u:=u) h hv;obtain⟨hv1,_,_,_⟩:=jt h _ t rfl hv;generalize ht':flw l t=t' at hfo hR hA hv1;have hs1:=valid_size hv1;have hlen:=Tm.zyN t'.args;have hse:=t'.size_eq;have hRs:(rs l t).size=1+Tm.sizes (t'.args.map (rs l)):=by rw[hR,Tm.size_eq];rfl
  refine Jg (ps:=[(none,.sl (some 5) (bds l)),(some 4,t.pv),(none,.int .i64 left)]) (RV (rs l t) left) rfl rfl rfl (fun hp=>rfl) rfl ?_;have hb:Ym A0 [0,1,2] [O8 t'.kind,O8 t'.n,Oh t'.name]=some (.agg [(none,O8 t'.kind),(none,O8 t'.n),(none,Oh t'.name),(none,.tsl (some 4) [])]):=rfl;simp only[Tm.av] at hfo;have w1:IntKind.i64.wrap ((left:Int) - 1)=(left:Int) - 1:=zZ (by omega) (by omega);simp -dsimp -implicitDefEqProofs only[go_sem,seval,↓reduceIte,Tm.av,hfo,Ya,Yh,Ye,zV,Tm.pvs_len,hb,Yc (Zg _),w1];refine Yr (fun n st=>∃(i:Nat) (es:List PV) (e:Int),n=t'.args.length - i/\i<=t'.args.length/\es.length=i/\-1<=e/\e<2000/\
   (1+Tm.sizes ((t'.args.map (rs l)).take i)<=left->es=Tm.pvs ((t'.args.map (rs l)).take i)/\e=(left:Int) - 1 - Tm.sizes ((t'.args.map (rs l)).take i))/\(left<1+Tm.sizes ((t'.args.map (rs l)).take i)->e= -1)/\
   st=⟨[(0,.pv none (.sl (some 5) (bds l))),(2,O8 e),(4,.ptr 0 0),(6,.ptr 1 0),(8,.ptr 3 0),(9,O8 i)],appG t' es⟩) (n:=t'.args.length) ⟨0,[],(left:Int) - 1,rfl,Zg _,rfl,by omega,by omega,fun _=>⟨rfl,by simp[Tm.sizes]⟩,fun hx=>by simp[Tm.sizes] at hx;omega,?_⟩ ?_
  ·simp -dsimp -implicitDefEqProofs only[go_sem,seval,↓reduceIte]
   try rfl
  ·rintro n st ⟨i,es,e,rfl,hi,hel,he1,he2,hg,hbad,rfl⟩;by_cases hc0:i<t'.args.length/\0<=e
   ·obtain⟨hc1,hc2⟩:=hc0;have hc:(i:Int)<(t'.args.length:Int):=by omega
    have hgood:1+Tm.sizes ((t'.args.map (rs l)).take i)<=left:=by
     rcases Zq left (1+Tm.sizes ((t'.args.map (rs l)).take i)) with hx|hx
     ·have:=hbad hx;omega
     ·exact hx
    obtain⟨rfl,he⟩:=hg hgood;obtain⟨u,hu⟩:∃u,t'.args[i]? =some u:=⟨_,Zf hc1⟩;have hum:=Zk hu;have hrt:=Tm.zyV (l:=t'.args.map (rs l)) (i:=i) (t:=rs l u) (by simp[hu]);have hpt:=Tm.zyT (l:=t'.args.map (rs l)) (i:=i) (t:=rs l u) (by simp[hu]);obtain⟨ha1,ha2⟩:=hA u hum;obtain⟨e0,rfl⟩:∃e0:Nat,e=(e0:Int):=⟨e.toNat,by omega⟩;obtain⟨v,hcall,p,e1,rfl,hy,hn⟩:=ih _ (by omega) u e0 rfl ha2 (by omega);simp only[Tm.av] at hcall;have w2:=O0 i (by omega)
    have hlim:i+1<=lim:=by unfold lim;omega
    have hge:(0:Int)<=(e0:Int):=by omega
    simp -dsimp -implicitDefEqProofs only[go_sem,seval,↓reduceIte,appG,zV,Tm.pvs_len,hc,hge,zY (Tm.pvs_get hu),hcall,w2,hel,hlim,Yc (Zg _),yF (Zg _)];refine⟨t'.args.length - (i+1),by omega,i+1,Tm.pvs ((t'.args.map (rs l)).take i)++[p],e1,rfl,by omega,by rw[Zc,hel];rfl,?_,?_,?_,?_,?_⟩
    ·rcases Zq e0 (rs l u).size with hx|hx
     ·have:=hn hx;omega
     ·have:=(hy hx).2;omega
    ·rcases Zq e0 (rs l u).size with hx|hx
     ·have:=hn hx;omega
     ·have:=(hy hx).2;omega
    ·intro hx;rw[hrt] at hx ⊢;obtain⟨y1,y2⟩:=hy (by omega);exact⟨by rw[y1,hpt],by omega⟩
    ·intro hx;rw[hrt] at hx;exact hn (by omega)
    ·rw[Zc,hel];rfl
   ·have hz:e= -1\/(rs l t).size<=left:=by
     rcases Zq left (1+Tm.sizes ((t'.args.map (rs l)).take i)) with hx|hx
     ·exact .inl (hbad hx)
     ·have hy:=(hg hx).2;have hi2:i=t'.args.length:=by omega
      have:(t'.args.map (rs l)).take i=t'.args.map (rs l):=Zp (by rw[ZO];omega);rw[this] at hx;exact .inr (by omega)
    have hRV:∃p,p=rawP t'.kind t'.n t'.name es/\RV (rs l t) left (.tuple [.pv (some 4) p,O8 e]):=by
     refine⟨_,rfl,_,e,rfl,fun hx=> ?_,fun hx=> ?_⟩
     ·have h2:=Tm.zyS (t'.args.map (rs l)) i;obtain⟨y1,y2⟩:=hg (by omega);have hi2:i=t'.args.length:=by omega
      have:(t'.args.map (rs l)).take i=t'.args.map (rs l):=Zp (by rw[ZO];omega);rw[this] at y1 y2;refine⟨?_,by omega⟩;rw[y1,hR];rfl
     ·rcases hz with hz|hz
      ·exact hz
      ·omega
    obtain⟨p,rfl,hRV⟩:=hRV;have hfz:∀a0 a1 a2 a3 a4,Am.frozen (.tuple [.pv (some 4) (rawP t'.kind t'.n t'.name es),O8 e]) (.tuple [.agg [(none,O8 t'.kind),(none,O8 t'.n),(none,Oh t'.name),(none,.sl (some 4) 5 es.length 0 es.length)],O8 e]) [a0,a1,a2,a3,a4,.arr (some 4) es false]:=fun a0 a1 a2 a3 a4=>by
     refine⟨[a0,a1,a2,a3,a4,.arr (some 4) es true],?_⟩;have e:=O3
     have e2:∀p hp,AV.freeze (7+1) (.pv none p) hp=some (p,hp):=fun _ _=>rfl;simp[AV.freezeRes,Yi,deep,e,e2,AV.freeze.go,AV.freeze,rawP,pvs,AV.shp]
     try rfl
    by_cases hc1:i<t'.args.length
    ·have hc:(i:Int)<(t'.args.length:Int):=by omega
     have hge:¬(0:Int)<=e:=fun hx=>hc0 ⟨hc1,hx⟩;simp -dsimp -implicitDefEqProofs only[go_sem,seval,↓reduceIte,appG,zV,Tm.pvs_len,hc,hge,Yc (Zg _),yF (Zg _),Y0];exact⟨_,hfz _ _ _ _ _,hRV⟩
    ·have hc:¬(i:Int)<(t'.args.length:Int):=by omega
     simp -dsimp -implicitDefEqProofs only[go_sem,seval,↓reduceIte,appG,zV,Tm.pvs_len,hc,Yc (Zg _),yF (Zg _),Y0];exact⟨_,hfz _ _ _ _ _,hRV⟩
def zt:Tm:=.mk 0 0 [] []
noncomputable def rsd(l:List B)(t:Tm):Tm × Bool:=if(rs l t).size<=2000 then(rs l t,true) else(zt,false)
theorem ju(p q:PV)(s s':Sh)(hp:Heap):Am.frozen (.tuple [.pv s p,.pv s' q]) (.tuple [.pv s p,.pv s' q]) hp:=by
 refine⟨hp,?_⟩;have:=Yd (hp:=hp) [(s,p),(s',q)];simp only[pvs,ZP,List.map_nil] at this;simp only[AV.freezeRes,this];rfl
theorem XN(q:PV)(hp:Heap)(r:Nat)(h:hp[r]? =some (.arr (some 4) [] false)):Am.frozen (.tuple [zt.av,.pv none q]) (.tuple [.agg [(none,O8 0),(none,O8 0),(none,Oh []),(none,.sl (some 4) r 0 0 0)],.pv none q]) hp:=by
 refine⟨hp.set r (.arr (some 4) [] true),?_⟩;have e:=O3
 have e2:∀p hp,AV.freeze (7+1) (.pv none p) hp=some (p,hp):=fun _ _=>rfl;simp[AV.freezeRes,Yi,deep,e,e2,AV.freeze.go,AV.freeze,h,pvs,AV.shp];rfl
theorem O4:Ym A0 [] []=some (.agg A0):=rfl
theorem hb0:Ym A0 [] []=some (.agg A0):=rfl
theorem M0(l:List B)(h:OKB l)(hl:l.length<1000000000)(t:Tm)(hv:t.valid=true)(hp:Heap):
  S 95 [.pv none (.sl (some 5) (bds l)),t.av] hp=some (.ret (.tuple [(rsd l t).1.av,.pv none (.bool (rsd l t).2)]),hp):=by
 refine Yb rfl rfl rfl (Yd [(none,.sl (some 5) (bds l)),(some 4,t.pv)]) rfl ?_;obtain⟨v,hcall,p,e,rfl,hy,hn⟩:=MZ l h hl _ t 2000 rfl hv (Zi _);have e2:((2000:Nat):Int)=2000:=rfl;simp only[Tm.av,e2] at hcall hy;unfold rsd;by_cases hs:(rs l t).size<=2000
 ·obtain⟨rfl,rfl⟩:=hy hs;have hc:¬(2000:Int) - ((rs l t).size:Int)<0:=by omega
  rw[Zb hs];dsimp only;simp -dsimp -implicitDefEqProofs only[go_sem,seval,↓reduceIte,Tm.av,hcall,hc,Yc (Zg _)];exact ju _ _ _ _ _
 ·obtain rfl:=hn (by omega);rw[Za hs];dsimp only;simp -dsimp -implicitDefEqProofs only[go_sem,seval,↓reduceIte,Tm.av,hcall,Yc (Zg _),hb0];exact XN _ _ _ rfl
def ints(l:List Int):List PV:=l.map (.int .i64)
theorem yz(l:List Int):(ints l).length=l.length:=by simp[ints]
theorem xW{l:List Int}{i:Nat}{x:Int}(h:l[i]? =some x):(ints l)[i]? =some (.int .i64 x):=by simp[ints,h]
theorem M3(l:List Int)(x:Int):ints l++[.int .i64 x]=ints (l++[x]):=by simp[ints]
theorem M4(l:List Int)(x:Int)(hl:l.length<1000000000)(hp:Heap):∃y:Int,(∀hp,S 137 [.pv none (.sl none (ints l)),O8 x] hp=some (.ret (O8 y),hp))/\(y<0↔x ∉ l):=by
 obtain⟨v,h1,y,rfl,h2⟩:=Jg (F:=find tab) (prim:=prim) (f:=137) (ps:=[(none,.sl none (ints l)),(none,.int .i64 x)]) (args:=[.pv none (.sl none (ints l)),O8 x]) (fun v=>∃y:Int,v=O8 y/\(y<0↔x ∉ l)) rfl rfl rfl (fun hp=>rfl) rfl (by
  simp -dsimp -implicitDefEqProofs only[go_sem,seval,↓reduceIte,yz];refine Yv (α:=Unit) l.length (fun i _=>∀j,j<i->l[j]?≠some x) (fun i _=>⟨[(0,.pv none (.sl none (ints l))),(1,O8 x),(5,O8 i)],[]⟩) () ⟨fun j hj=>by omega,rfl⟩ ?_ ?_
  ·rintro i - h hinv;have hc:(i:Int)<(l.length:Int):=by omega
   obtain⟨b,hb⟩:∃b,l[i]? =some b:=⟨_,Zf h⟩;have w2:=O0 i (by omega)
   by_cases hbx:b=x
   ·simp -dsimp -implicitDefEqProofs only[go_sem,seval,↓reduceIte,yz,hc,zY (xW hb),hbx];refine⟨_,rfl,i,rfl,?_⟩;have:x∈l:=by rw[<-hbx];exact Zk hb
    constructor
    ·intro h;omega
    ·intro h;exact absurd this h
   ·simp -dsimp -implicitDefEqProofs only[go_sem,seval,↓reduceIte,yz,hc,zY (xW hb),hbx,w2];refine⟨(),fun j hj=> ?_⟩;rcases Zq j i with h|h
    ·exact hinv j h
    ·have:j=i:=by omega
     subst this;rw[hb];intro e;cases e;exact hbx rfl
  ·rintro - hinv;have hc:¬(l.length:Int)<(l.length:Int):=by omega
   simp -dsimp -implicitDefEqProofs only[go_sem,seval,↓reduceIte,yz,hc];refine⟨_,rfl,-1,rfl,?_⟩;constructor
   ·intro _ hm;obtain⟨j,hlt,hj⟩:=zi hm;exact hinv j hlt (by rw[Zf hlt,hj])
   ·intro _;omega)
 exact⟨y,h1,h2⟩
def vadd(s:List Int)(w:Int):List Int:=if w∈s then s else s++[w]
def vads(s:List Int)(ws:List Int):List Int:=ws.foldl vadd s
theorem Jh(s a b:List Int):vads s (a++b)=vads (vads s a) b:=by simp[vads]
theorem Ji(ws:List Int):∀s:List Int,(vads s ws).length<=s.length+ws.length:=by
 induction ws with
 |nil=>intro s;simp[vads]
 |cons w r ih=>
  intro s;have:=ih (vadd s w);have h2:(vadd s w).length<=s.length+1:=by unfold vadd;split <;> simp
  simp only[vads,zD,ZB] at this ⊢;omega
theorem Gf(ws:List Int):∀(s:List Int) (x:Int),x∈vads s ws↔x∈s\/x∈ws:=by
 induction ws with
 |nil=>intro s x;simp[vads]
 |cons w r ih=>
  intro s x;have:=ih (vadd s w) x;simp only[vads,zD] at this ⊢;rw[this];unfold vadd;split
  ·rename_i h;simp only[Zt];constructor
   ·rintro(h1|h1) <;> simp[h1]
   ·rintro(h1|rfl|h1)
    ·exact .inl h1
    ·exact .inl h
    ·exact .inr h1
  ·simp only[Zr,Zt,List.not_mem_nil,or_false];constructor
   ·rintro((h1|h1)|h1) <;> simp[h1]
   ·rintro(h1|h1|h1) <;> simp[h1]
def IsV(s:AV)(hp:Heap)(l:List Int):Prop:=(s=.tsl none []/\l=[])\/∃r,s=.sl none r l.length 0 l.length/\hp[r]? =some (.arr none (ints l) false)
def PresV(s:AV)(hp hp':Heap):Prop:=hp.length<=hp'.length/\∀(i:Nat) (x:AObj),hp[i]? =some x->(∀v o n,s≠.sl none i v o n)->hp'[i]? =some x
def OwnV(s:AV)(hp:Heap)(s':AV):Prop:=∀r v o n,s'=.sl none r v o n->(∃v o n,s=.sl none r v o n)\/hp.length<=r
theorem PresV.refl(s:AV)(hp:Heap):PresV s hp hp:=⟨Zi _,fun _ _ h _=>h⟩
theorem OwnV.refl(s:AV)(hp:Heap):OwnV s hp s:=fun r v o n h=>.inl ⟨v,o,n,h⟩
theorem IsV.more{s:AV}{hp:Heap}{l:List Int}(h:IsV s hp l)(e:Heap):IsV s (hp++e) l:=by
 rcases h with h|⟨r,h1,h2⟩
 ·exact .inl h
 ·exact .inr ⟨r,h1,by rw[Zx (Y9 h2)];exact h2⟩
theorem IsV.not_box{s:AV}{hp:Heap}{l:List Int}(h:IsV s hp l){i:Nat}{sh:Sh}{v:AV}(hi:hp[i]? =some (.box sh v)):∀v o n,s≠.sl none i v o n:=by
 rcases h with⟨rfl,_⟩|⟨r,rfl,h2⟩
 ·intro v o n e;cases e
 ·intro v o n e;cases e;rw[hi] at h2;cases h2
theorem OwnV.trans{s s1 s2:AV}{hp hp1:Heap}(h1:OwnV s hp s1)(hl:hp.length<=hp1.length)(h2:OwnV s1 hp1 s2):OwnV s hp s2:=fun r v o n e=>by
 rcases h2 r v o n e with⟨v',o',n',e'⟩|h
 ·exact h1 r v' o' n' e'
 ·exact .inr (by omega)
theorem PresV.trans{s s1:AV}{hp hp1 hp2:Heap}(h1:PresV s hp hp1)(ho:OwnV s hp s1)(h2:PresV s1 hp1 hp2):PresV s hp hp2:=
 ⟨ZJ h1.1 h2.1,fun i x hx hne=>h2.2 i x (h1.2 i x hx hne) fun v o n e=>by
  rcases ho i v o n e with⟨v',o',n',e'⟩|h
  ·exact hne v' o' n' e'
  ·have:=Y9 hx;omega⟩
theorem PresV.take{s:AV}{hp hp1:Heap}{n:Nat}(h:PresV s hp hp1)(hn:hp.length<=n):PresV s hp (hp1.take n):=
 ⟨by rw[Zn];have:=h.1;omega,fun i x hx hne=>by
  have:=Y9 hx;rw[ZU,Zb (by omega)];exact h.2 i x hx hne⟩
theorem PresV.less{s:AV}{hp e hp1:Heap}(h:PresV s (hp++e) hp1):PresV s hp hp1:=
 ⟨by have:=h.1;simp at this;omega,fun i x hx hne=>h.2 i x (by rw[Zx (Y9 hx)];exact hx) hne⟩
theorem OwnV.less{s s':AV}{hp e:Heap}(h:OwnV s (hp++e) s'):OwnV s hp s':=fun r v o n h1=>by
 rcases h r v o n h1 with h|h
 ·exact .inl h
 ·exact .inr (by simp at h;omega)
theorem IsV.take{s:AV}{hp:Heap}{l:List Int}{n:Nat}(h:IsV s hp l)(hr:∀q∈s.refsIn,q<n):IsV s (hp.take n) l:=by
 rcases h with h|⟨r,rfl,h2⟩
 ·exact .inl h
 ·have:r<n:=hr r (by simp[AV.refsIn]);exact .inr ⟨r,rfl,by rw[ZU,Zb this];exact h2⟩
theorem IsV.freeze{s:AV}{hp:Heap}{l:List Int}(h:IsV s hp l):∃hp1,AV.freeze deep s hp=some (.sl none (ints l),hp1)/\s.shp=none/\s.plain=true:=by
 rcases h with⟨rfl,rfl⟩|⟨r,rfl,h⟩
 ·exact⟨hp,rfl,rfl,rfl⟩
 ·exact⟨hp.set r (.arr none (ints l) true),by simp[AV.freeze,deep,h,yz],rfl,rfl⟩
theorem M5{s:AV}{hp:Heap}{l:List Int}(h:IsV s hp l)(x:Int)(hl:l.length<1000000000):∃s' H',YN none hp [s,.tsl none [.int .i64 x]]=some (s',H')/\IsV s' H' (l++[x])/\PresV s hp H'/\OwnV s hp s':=by
 have hlim:l.length+1<=lim:=by unfold lim;omega
 rcases h with⟨rfl,rfl⟩|⟨r,rfl,h⟩
 ·refine⟨_,_,rfl,.inr ⟨hp.length,rfl,?_⟩,⟨by simp,fun i x hx _=>by rw[Zx (Y9 hx)];exact hx⟩,fun r v o n e=>by cases e;exact .inr (Zi _)⟩;rw[zq (Zi _),Nat.sub_self];rfl
 ·have hlt:=Y9 h;refine⟨.sl none r (l.length+1) 0 (l.length+1),hp.set r (.arr none (ints (l++[x])) false),?_,.inr ⟨r,by simp,by rw[ZG hlt]⟩,⟨by simp,fun i x hx hne=> ?_⟩,fun r v o n e=>by cases e;exact .inl ⟨_,_,_,rfl⟩⟩
  ·simp[YN,aappend,elems,h,yz,hlim];simp[ints]
  ·have:i≠r:=fun e=>hne _ _ _ (by rw[e]);rw[Zy (Ne.symm this)];exact hx
theorem M6{s:AV}{hp:Heap}{l:List Int}(h:IsV s hp l)(x:Int)(hl:l.length<1000000000):∃y:Int,S 137 [s,O8 x] hp=some (.ret (O8 y),hp)/\(y<0↔x ∉ l):=by
 obtain⟨y,h1,h2⟩:=M4 l x hl hp;obtain⟨hp1,z1,z2,_⟩:=h.freeze;refine⟨y,?_,h2⟩;have:=yG (F:=find tab) (prim:=prim) (f:=137) (args:=[s,O8 x]) (ps:=[(none,.sl none (ints l)),(none,.int .i64 x)]) (hp:=hp) (hp1:=hp1) rfl rfl rfl (by
  have e:∀H:Heap,AV.freeze deep (O8 x) H=some (.int .i64 x,H):=fun _=>rfl;simp only[Yi,z1,e,z2];rfl) (h1 [])
 exact this
theorem kY{s s1:AV}{hp e H:Heap}{l:List Int}(h1:IsV s1 H l)(h2:PresV s (hp++e) H)(h3:OwnV s (hp++e) s1):
  IsV s1 (if s1.refsIn.all (fun q=>decide (q<hp.length))=true then H.take hp.length else H) l/\PresV s hp (if s1.refsIn.all (fun q=>decide (q<hp.length))=true then H.take hp.length else H)/\OwnV s hp s1:=by
 refine⟨?_,?_,h3.less⟩
 ·split
  ·rename_i hr;exact h1.take fun q hq=>by simpa using Zo.1 hr q hq
  ·exact h1
 ·split
  ·exact h2.less.take (Zi _)
  ·exact h2.less
theorem kZ(t:Tm)(ih:∀u∈t.args,∀(s:AV) (hp:Heap) (l:List Int),IsV s hp l->u.fits=true->l.length+u.size<100000000->∃s' hp',S 113 [s,u.av] hp=some (.ret s',hp')/\IsV s' hp' (vads l u.occ)/\PresV s hp hp'/\OwnV s hp s')
  (s:AV)(H0:Heap)(n0 b:Nat)(l:List Int)(hB:IsV s H0 l)(h1:H0[n0]? =some (.box (some 4) (.pv (some 4) t.pv)))(hf:t.fits=true)(hl:l.length+Tm.sizes t.args<100000000)(Q:AExit->St->Prop)
  (hQ:∀(s1:AV) (H:Heap) (r:Fr),IsV s1 H (vads l (Tm.occs t.args))->PresV s H0 H->OwnV s H0 s1->Q .normal ⟨(0,s1)::r,H⟩):
  W Z L b c113k11 ⟨[(0,s),(3,.ptr n0 0),(5,O8 0)],H0⟩ Q:=by
 have hts:=t.size_eq;have hlen:=Tm.zyN t.args;have nb1:=hB.not_box h1;simp -dsimp -implicitDefEqProofs only[c113b10,c113k11,go_sem,seval,↓reduceIte];refine Yv (α:=AV × Heap) t.args.length (fun i a=>IsV a.1 a.2 (vads l (Tm.occs (t.args.take i)))/\PresV s H0 a.2/\OwnV s H0 a.1)
  (fun i a=>⟨[(0,a.1),(3,.ptr n0 0),(5,O8 i)],a.2⟩) (s,H0) ⟨⟨hB,PresV.refl _ _,OwnV.refl _ _⟩,rfl⟩ ?_ ?_
 ·rintro i ⟨s1,H⟩ h ⟨k1,k2,k3⟩;dsimp only at k1 k2 k3;have hc:(i:Int)<(t.args.length:Int):=by omega
  have b1:=k2.2 n0 _ h1 nb1;obtain⟨u,hu⟩:∃u,t.args[i]? =some u:=⟨_,Zf h⟩;have hum:=Zk hu;have hst:=Tm.zyV hu;have hle:=Tm.zyS t.args (i+1);have hvl:=Ji (Tm.occs (t.args.take i)) l;have hol:=Tm.zy4 (t.args.take i);obtain⟨s2,H2,hcall,p1,p2,p3⟩:=ih u hum s1 H _ k1 (Tm.zyP hf hum) (by omega);simp only[Tm.av] at hcall;have w2:=O0 i (by omega)
  simp -dsimp -implicitDefEqProofs only[c113b10,c113k11,go_sem,seval,↓reduceIte,zV,Tm.pvs_len,hc,b1,zY (Tm.pvs_get hu),hcall,w2];have hcc:=MD H0.length b [(0,s2),(3,.ptr n0 0),(5,O8 ((i+1:Nat):Int))] H2;refine⟨(s2,collect H0.length b [(0,s2),(3,.ptr n0 0),(5,O8 ((i+1:Nat):Int))] H2),?_,rfl⟩;generalize collect H0.length b [(0,s2),(3,.ptr n0 0),(5,O8 ((i+1:Nat):Int))] H2=HC at hcc;have q1:=k2.trans k3 p2;have q2:=k3.trans k2.1 p3;rw[Tm.zy0 hu,Jh];rcases hcc with rfl|⟨rfl,hr⟩
  ·exact⟨p1,q1,q2⟩
  ·exact⟨p1.take (hr (0,s2) (by simp)),q1.take (Zi _),q2⟩
 ·rintro⟨s1,H⟩ ⟨k1,k2,k3⟩;dsimp only at k1 k2 k3;have hc:¬(t.args.length:Int)<(t.args.length:Int):=by omega
  have b1:=k2.2 n0 _ h1 nb1;rw[ZC] at k1;simp -dsimp -implicitDefEqProofs only[c113b10,c113k11,go_sem,seval,↓reduceIte,zV,Tm.pvs_len,hc,b1];exact hQ s1 H _ k1 k2 k3
theorem M7:∀(t:Tm) (s:AV) (hp:Heap) (l:List Int),IsV s hp l->t.fits=true->l.length+t.size<100000000->∃s' hp',S 113 [s,t.av] hp=some (.ret s',hp')/\IsV s' hp' (vads l t.occ)/\PresV s hp hp'/\OwnV s hp s':=by
 intro t
 induction t using Tm.zyR with
 |h t ih=>
  intro s hp l hB hf ht;have hts:=t.size_eq;have hn0:∀H:Heap,YB none H=some (.sl none H.length 0 0 0,H++[.arr none [] false]):=fun H=>YA (sh:=none) (by decide);have hB1:=hB.more [.box (some 4) (.pv (some 4) t.pv),.arr none [] false];obtain⟨y,hpos,hy⟩:=M6 hB1 t.n (by omega);refine xp (fun v hp'=>IsV v hp' (vads l t.occ)/\PresV s hp hp'/\OwnV s hp v) rfl rfl rfl rfl ?_;have hbox:(hp++([.box (some 4) (.pv (some 4) t.pv),.arr none [] false]:Heap))[hp.length]? =some (.box (some 4) (.pv (some 4) t.pv)):=by rw[z6];rfl
  rw[Tm.zyW];by_cases hk:t.kind=0
  ·rw[Zb hk];have ha:t.args=[]:=by rw[yn hf hk];rfl
   by_cases hm:t.n∈l
   ·have e:vads l [t.n]=l:=by simp[vads,vadd,hm]
    have hy':¬y<0:=fun h=>hy.1 h hm;rw[e];simp -dsimp -implicitDefEqProofs only[go_sem,seval,↓reduceIte,Tm.av,Ya,Yh,zV,hk,hn0,hpos,hy',Zd,zW,z6,z7,z9,Zh,Zc];refine kZ t ih s _ hp.length hp.length l hB1 hbox hf (by omega) _ fun s1 H r k1 k2 k3=> ?_;rw[ha] at k1;simp -dsimp -implicitDefEqProofs only[go_sem,seval,↓reduceIte];exact kY k1 k2 k3
   ·have e:vads l [t.n]=l++[t.n]:=by simp[vads,vadd,hm]
    have hy':y<0:=hy.2 hm;rw[e];obtain⟨s1,H1,happ,k1,k2,k3⟩:=M5 hB1 t.n (by omega);have b1:=k2.2 hp.length _ hbox (hB1.not_box hbox);simp -dsimp -implicitDefEqProofs only[go_sem,seval,↓reduceIte,Tm.av,Ya,Yh,zV,hk,hn0,hpos,hy',happ,Zd,zW,z6,z7,z9,Zh,Zc];refine kZ t ih s1 _ hp.length hp.length _ k1 b1 hf (by rw[Zc,List.length_singleton];omega) _ fun s2 H r j1 j2 j3=> ?_;rw[ha] at j1;simp -dsimp -implicitDefEqProofs only[go_sem,seval,↓reduceIte];exact kY j1 (k2.trans k3 j2) (k3.trans k2.1 j3)
  ·rw[Za hk];simp -dsimp -implicitDefEqProofs only[go_sem,seval,↓reduceIte,Tm.av,Ya,Yh,zV,hk,hn0,Zd,zW,z6,z7,z9,Zh,Zc];refine kZ t ih s _ hp.length hp.length l hB1 hbox hf (by omega) _ fun s1 H r k1 k2 k3=> ?_;simp -dsimp -implicitDefEqProofs only[go_sem,seval,↓reduceIte];exact kY k1 k2 k3
theorem M8{s:AV}{H:Heap}{l:List Int}(h:IsV s H l):Am.frozen (.pv none (.sl none (ints l))) s H:=by
 rcases h with⟨rfl,rfl⟩|⟨r,rfl,h⟩
 ·exact⟨H,rfl⟩
 ·exact⟨H.set r (.arr none (ints l) true),by simp[AV.freezeRes,AV.freeze,deep,h,yz,AV.shp]⟩
theorem ql{st:St}{o r:Nat}{sh:Sh}{v q:AV}{K:AV->Prop}[Tag K](h1:st.fr.look o=some (.ptr r 0))(h2:st.hp[r]? =some (.box sh v)):valK (tupO (je (Ql st (o,some sh)) (some [q]))) K=K (.tuple [v,q]):=by
 rw[Lu,h1];simp only[l8 h2];rfl
theorem M9{t:Tm}(h:t.fits=true)(hk:t.kind=0):0<=t.n/\t.n<=1099511627776:=by
 rw[Tm.fits_eq] at h;have h1:t.node=true:=by simp at h;exact h.1
 cases t with
 |mk k n s ts=>
  simp only[Tm.kind] at hk;subst hk;simp[Tm.node,Tm.kind,Tm.n,Tm.name,Tm.args] at h1;obtain⟨⟨⟨h2,h3⟩,_⟩,_⟩:=h1;exact⟨ze h2,ze h3⟩
theorem ma:∀{t:Tm},t.fits=true->∀w∈t.occ,0<=w/\w<=1099511627776:=by
 intro t
 induction t using Tm.zyR with
 |h t ih=>
  intro hf w hw;rw[Tm.zyW] at hw;by_cases hk:t.kind=0
  ·rw[Zb hk,ZV] at hw;rw[hw];exact M9 hf hk
  ·rw[Za hk] at hw;obtain⟨u,hu,h⟩:=Tm.zza hw;exact ih u hu (Tm.zyP hf hu) w h
def qd(t:Tm):Prop:=t.kind=3/\t.name=[94]/\t.args.length=2
instance (t:Tm):Decidable (qd t):=inferInstanceAs (Decidable (_/\_))
def arg0(t:Tm):Tm:=match t.args with
 |x::_=>x
 |_=>.mk 0 0 [] []
def arg1(t:Tm):Tm:=match t.args with
 |_::y::_=>y
 |_=>.mk 0 0 [] []
theorem args_two{t:Tm}(h:t.args.length=2):t.args=[arg0 t,arg1 t]:=by
 unfold arg0 arg1
 match e:t.args,h with
 |[x,y],_=>rfl
theorem Jj{t:Tm}(h:t.args.length=2):t.args[0]? =some (arg0 t):=by rw[args_two h];rfl
theorem Jk{t:Tm}(h:t.args.length=2):t.args[1]? =some (arg1 t):=by rw[args_two h];rfl
theorem jv{t:Tm}(h:t.args.length=2):arg0 t∈t.args:=Zk (Jj h)
theorem Xx{t:Tm}(h:t.args.length=2):arg1 t∈t.args:=Zk (Jk h)
def quants(t:Tm):List Tm:=if h:qd t then arg0 t::quants (arg1 t) else[]
termination_by t.size
decreasing_by exact Tm.zyQ (Xx h.2.2)
def hid(p g:Tm):List Int:=p.occ++Tm.occs (quants g)
def free(p g:Tm):List Int:=(vads [] g.occ).filter fun v=>decide (v ∉ hid p g)
def nilT:Tm:=.mk 2 0 [91,93] []
def xw(x y:Tm):Tm:=.mk 3 0 [46] [x,y]
def lst:List Tm->Tm
 |[]=>nilT
 |x::r=>xw x (lst r)
theorem ia0{es:List PV}{p:PV}(h:es[0]? =some p):yg (some 4) [.pv none (.sl (some 4) es),O8 0]=some (.iptr (some 4) p 0):=yc h
theorem ia1{es:List PV}{p:PV}(h:es[1]? =some p):yg (some 4) [.pv none (.sl (some 4) es),O8 1]=some (.iptr (some 4) p 0):=by
 simp[yg,aindex,h]
def zg(q:Nat):AV:=.agg [(none,O8 0),(none,O8 0),(none,Oh []),(none,.sl (some 4) q 0 0 0)]
def lh(l:List Tm):Nat->Heap
 |0=>[.box (some 4) (zg 1),.arr (some 4) [] false,.box (some 4) (.agg [(none,O8 2),(none,O8 0),(none,Oh [91,93]),(none,.sl (some 4) 4 0 0 0)]),.arr (some 4) [] false,.arr (some 4) [] false]
 |i+1=>[.box (some 4) (zg 1),.arr (some 4) [] false,.box (some 4) (.pv (some 4) (lst (l.drop (l.length - (i+1)))).pv),.arr (some 4) [] false,.arr (some 4) [] true]
theorem mb(x y:Tm)(hp:Heap):S 51 [Oh [46],.tsl (some 4) [x.pv,y.pv]] hp=some (.ret (xw x y).av,hp):=by
 refine Yb (ps:=[(none,.str [46]),(none,.sl (some 4) [x.pv,y.pv])]) rfl rfl rfl rfl rfl ?_;have hb:Ym A0 [0,2,3] [O8 3,Oh [46],.pv none (.sl (some 4) [x.pv,y.pv])]=some (.pv (some 4) (xw x y).pv):=rfl;simp -dsimp -implicitDefEqProofs only[go_sem,seval,↓reduceIte,hb]
 try rfl
theorem Gg(l:List Tm)(hl:l.length<1000000000)(hp:Heap):S 52 [.pv none (.sl (some 4) (Tm.pvs l))] hp=some (.ret (lst l).av,hp):=by
 refine Yb rfl rfl rfl (Yd [(none,.sl (some 4) (Tm.pvs l))]) rfl ?_;have hb:Ym A0 [0,2] [O8 2,Oh [91,93]]=some (.agg A5):=rfl;have hw:IntKind.i64.wrap ((l.length:Int) - 1)=(l.length:Int) - 1:=zZ (by omega) (by omega);simp -dsimp -implicitDefEqProofs only[go_sem,seval,↓reduceIte,hb,hw,Tm.pvs_len,Yc (Zg _)];refine Yv (α:=Unit) l.length (fun _ _=>True) (fun i _=>⟨[(0,.pv none (.sl (some 4) (Tm.pvs l))),(2,.ptr 0 0),(3,.ptr 2 0),(4,O8 ((l.length:Int) - 1 - (i:Int)))],lh l i⟩) () ⟨trivial,?_⟩ ?_ ?_
 ·rw[show(l.length:Int) - 1 - ((0:Nat):Int)=(l.length:Int) - 1 by omega];rfl
 ·rintro i - h -;obtain⟨j,hj⟩:∃j,j=l.length - 1 - i:=⟨_,rfl⟩;have ej:(l.length:Int) - 1 - (i:Int)=(j:Int):=by omega
  have hc:(0:Int)<=(j:Int):=by omega
  obtain⟨u,hu⟩:∃u,l[j]? =some u:=⟨_,Zf (by omega)⟩;have hdr:l.drop (l.length - (i+1))=u::l.drop (l.length - i):=by
   obtain⟨q1,e1⟩:=Ze.1 hu;have ea:l.length - (i+1)=j:=by omega
   have eb:l.length - i=j+1:=by omega
   rw[ea,eb,ZS (by omega),e1]
  have w5:IntKind.i64.wrap ((j:Int) - 1)=(l.length:Int) - 1 - ((i+1:Nat):Int):=by rw[zZ (by omega) (by omega)];omega
  have hst:=fun hp=>mb u (lst (l.drop (l.length - i))) hp;simp only[Tm.av] at hst;cases i with
  |zero=>
   have ej0:(l.length:Int) - 1 - 0=(j:Int):=by omega
   have hd0:l.drop (l.length - 0)=[]:=by rw[Nat.sub_zero,zh]
   rw[hd0] at hst hdr;have hbs:∀a0 a1 a3:AObj,yp (some 4) [a0,a1,.box (some 4) (.agg [(none,O8 2),(none,O8 0),(none,Oh [91,93]),(none,.sl (some 4) 4 0 0 0)]),a3,.arr (some 4) [] false] [.pv (some 4) u.pv,.agg [(none,O8 2),(none,O8 0),(none,Oh [91,93]),(none,.sl (some 4) 4 0 0 0)]]=some (.tsl (some 4) [u.pv,(lst []).pv],[a0,a1,.box (some 4) (.agg [(none,O8 2),(none,O8 0),(none,Oh [91,93]),(none,.sl (some 4) 4 0 0 0)]),a3,.arr (some 4) [] true]):=fun _ _ _=>rfl;simp -dsimp -implicitDefEqProofs only[ej0,lh,go_sem,seval,↓reduceIte,hc,w5,zY (Tm.pvs_get hu),hst,hbs,Yc (Zg _)];rw[hdr];exact⟨(),rfl⟩
  |succ i=>
   simp -dsimp -implicitDefEqProofs only[ej,lh,go_sem,seval,↓reduceIte,hc,w5,zY (Tm.pvs_get hu),hst,Yc (Zg _)];rw[hdr];exact⟨(),rfl⟩
 ·rintro - -;have hc:¬(0:Int)<=(l.length:Int) - 1 - (l.length:Int):=by omega
  cases hn:l.length with
  |zero=>
   rw[hn] at hc;have:l=[]:=Z9 hn;subst this;simp -dsimp -implicitDefEqProofs only[go_sem,seval,↓reduceIte,lh,hc,Y0,Yc (Zg _)];exact⟨_,rfl⟩
  |succ n=>
   rw[hn] at hc;have e:l.drop (l.length - (n+1))=l:=by rw[hn,Nat.sub_self,Z4]
   simp -dsimp -implicitDefEqProofs only[go_sem,seval,↓reduceIte,lh,hc,e,Yc (Zg _)]
   try rfl
theorem mc(x y:Tm)(hp:Heap):S 41 [Oh [46],.tsl (some 4) [x.pv,y.pv]] hp=some (.ret (xw x y).av,hp):=by
 refine Yb (ps:=[(none,.str [46]),(none,.sl (some 4) [x.pv,y.pv])]) rfl rfl rfl rfl rfl ?_;have hb:Ym A0 [0,2,3] [O8 3,Oh [46],.pv none (.sl (some 4) [x.pv,y.pv])]=some (.pv (some 4) (xw x y).pv):=rfl;simp -dsimp -implicitDefEqProofs only[go_sem,seval,↓reduceIte,hb]
 try rfl
theorem Gh(l:List Tm)(hl:l.length<1000000000)(hp:Heap):S 42 [.pv none (.sl (some 4) (Tm.pvs l))] hp=some (.ret (lst l).av,hp):=by
 refine Yb rfl rfl rfl (Yd [(none,.sl (some 4) (Tm.pvs l))]) rfl ?_;have hb:Ym A0 [0,2] [O8 2,Oh [91,93]]=some (.agg A5):=rfl;have hw:IntKind.i64.wrap ((l.length:Int) - 1)=(l.length:Int) - 1:=zZ (by omega) (by omega);simp -dsimp -implicitDefEqProofs only[go_sem,seval,↓reduceIte,hb,hw,Tm.pvs_len,Yc (Zg _)];refine Yv (α:=Unit) l.length (fun _ _=>True) (fun i _=>⟨[(0,.pv none (.sl (some 4) (Tm.pvs l))),(2,.ptr 0 0),(3,.ptr 2 0),(4,O8 ((l.length:Int) - 1 - (i:Int)))],lh l i⟩) () ⟨trivial,?_⟩ ?_ ?_
 ·rw[show(l.length:Int) - 1 - ((0:Nat):Int)=(l.length:Int) - 1 by omega];rfl
 ·rintro i - h -;obtain⟨j,hj⟩:∃j,j=l.length - 1 - i:=⟨_,rfl⟩;have ej:(l.length:Int) - 1 - (i:Int)=(j:Int):=by omega
  have hc:(0:Int)<=(j:Int):=by omega
  obtain⟨u,hu⟩:∃u,l[j]? =some u:=⟨_,Zf (by omega)⟩;have hdr:l.drop (l.length - (i+1))=u::l.drop (l.length - i):=by
   obtain⟨q1,e1⟩:=Ze.1 hu;have ea:l.length - (i+1)=j:=by omega
   have eb:l.length - i=j+1:=by omega
   rw[ea,eb,ZS (by omega),e1]
  have w5:IntKind.i64.wrap ((j:Int) - 1)=(l.length:Int) - 1 - ((i+1:Nat):Int):=by rw[zZ (by omega) (by omega)];omega
  have hst:=fun hp=>mc u (lst (l.drop (l.length - i))) hp;simp only[Tm.av] at hst;cases i with
  |zero=>
   have ej0:(l.length:Int) - 1 - 0=(j:Int):=by omega
   have hd0:l.drop (l.length - 0)=[]:=by rw[Nat.sub_zero,zh]
   rw[hd0] at hst hdr;have hbs:∀a0 a1 a3:AObj,yp (some 4) [a0,a1,.box (some 4) (.agg [(none,O8 2),(none,O8 0),(none,Oh [91,93]),(none,.sl (some 4) 4 0 0 0)]),a3,.arr (some 4) [] false] [.pv (some 4) u.pv,.agg [(none,O8 2),(none,O8 0),(none,Oh [91,93]),(none,.sl (some 4) 4 0 0 0)]]=some (.tsl (some 4) [u.pv,(lst []).pv],[a0,a1,.box (some 4) (.agg [(none,O8 2),(none,O8 0),(none,Oh [91,93]),(none,.sl (some 4) 4 0 0 0)]),a3,.arr (some 4) [] true]):=fun _ _ _=>rfl;simp -dsimp -implicitDefEqProofs only[ej0,lh,go_sem,seval,↓reduceIte,hc,w5,zY (Tm.pvs_get hu),hst,hbs,Yc (Zg _)];rw[hdr];exact⟨(),rfl⟩
  |succ i=>
   simp -dsimp -implicitDefEqProofs only[ej,lh,go_sem,seval,↓reduceIte,hc,w5,zY (Tm.pvs_get hu),hst,Yc (Zg _)];rw[hdr];exact⟨(),rfl⟩
 ·rintro - -;have hc:¬(0:Int)<=(l.length:Int) - 1 - (l.length:Int):=by omega
  cases hn:l.length with
  |zero=>
   rw[hn] at hc;have:l=[]:=Z9 hn;subst this;simp -dsimp -implicitDefEqProofs only[go_sem,seval,↓reduceIte,lh,hc,Y0,Yc (Zg _)];exact⟨_,rfl⟩
  |succ n=>
   rw[hn] at hc;have e:l.drop (l.length - (n+1))=l:=by rw[hn,Nat.sub_self,Z4]
   simp -dsimp -implicitDefEqProofs only[go_sem,seval,↓reduceIte,lh,hc,e,Yc (Zg _)]
   try rfl
def md(g:Tm):List Int:=(quants g).flatMap fun q=>vads [] q.occ
def hl(p g:Tm):List Int:=vads [] p.occ++md g
theorem IsV.keep{s:AV}{hp hp':Heap}{l:List Int}(h:IsV s hp l)(hP:PresV (.tsl none []) hp hp'):IsV s hp' l:=by
 rcases h with h|⟨r,h1,h2⟩
 ·exact .inl h
 ·exact .inr ⟨r,h1,hP.2 r _ h2 (fun v o n e=>by cases e)⟩
theorem IsV.len{s:AV}{hp:Heap}{l:List Int}(h:IsV s hp l):sLen [s]=some (O8 l.length):=by
 rcases h with⟨rfl,rfl⟩|⟨r,rfl,_⟩ <;> rfl
theorem IsV.get{s:AV}{hp:Heap}{l:List Int}(h:IsV s hp l){i:Nat}{x:Int}(hx:l[i]? =some x):∃a,yg none [s,O8 i]=some a/\aload none hp a=some (O8 x):=by
 rcases h with⟨rfl,rfl⟩|⟨r,rfl,h⟩
 ·simp at hx
 ·have hlt:=(Ze.1 hx).1;refine⟨_,Yp hlt,?_⟩;simp[aload,h,yz,xW hx,toAV]
def yt(v:Int):List (Int × PV)->Option PV
 |[]=>none
 |x::r=>if x.1=v then some x.2 else yt v r
def mPut(v:Int)(p:PV):List (Int × PV)->List (Int × PV)
 |[]=>[(v,p)]
 |x::r=>if x.1=v then(v,p)::r else x::mPut v p r
def Yl(m:List (Int × PV)):List (PV × PV):=m.map fun x=>(.int .i64 x.1,x.2)
theorem k8(v:Int):∀m,afind false (.int .i64 v) (Yl m)=some (yt v m)
 |[]=>rfl
 |x::r=>by
  have ih:=k8 v r;unfold Yl at ih ⊢;simp only[ZP,afind,PV.same,if_true,yt];by_cases h:x.1=v
  ·simp[h]
  ·have h':¬v=x.1:=fun e=>h e.symm;simp only[decide_eq_false h',Za h];exact ih
theorem qm(v:Int)(p:PV):∀m,aput false (.int .i64 v) p (Yl m)=some (Yl (mPut v p m))
 |[]=>rfl
 |x::r=>by
  have ih:=qm v p r;unfold Yl at ih ⊢;simp only[ZP,aput,PV.same,if_true,mPut];by_cases h:x.1=v
  ·simp[h]
  ·have h':¬v=x.1:=fun e=>h e.symm;simp only[decide_eq_false h',Za h,ZP];rw[ih]
theorem Jl(v w:Int)(p:PV):∀m,yt v (mPut w p m)=if v=w then some p else yt v m
 |[]=>by
  by_cases h:v=w
  ·simp[mPut,yt,h]
  ·have h':¬w=v:=fun e=>h e.symm;simp[mPut,yt,h,h']
 |x::r=>by
  have ih:=Jl v w p r;unfold mPut;by_cases h:x.1=w
  ·rw[Zb h];by_cases e:v=w
   ·simp[yt,e]
   ·have e':¬w=v:=fun q=>e q.symm;have e2:¬x.1=v:=fun q=>e (q.symm.trans h);simp[yt,e,e',e2]
  ·rw[Za h];simp only[yt,ih];by_cases e:x.1=v
   ·have e2:¬v=w:=fun q=>h (e.trans q);simp[e,e2]
   ·simp[e]
theorem QJ{m:List (Int × PV)}{z:PV}{hp:Heap}{r:Nat}{s:Sh}{v:Int}(h:hp[r]? =some (.map none (Yl m))):yh false none (.pv none z) false hp [.map r,.pv s (.int .i64 v)]=some (.pv none ((yt v m).getD z)):=by
 have hf:=k8 v m;cases hm:yt v m with
 |none=>rw[hm] at hf;exact uj h hf
 |some x=>rw[hm] at hf;exact ui h hf
def Xy(l:List Int):List (Int × PV):=l.map fun v=>(v,.int .i64 1)
theorem k9(v:Int):∀l:List Int,(yt v (Xy l)).getD (.int .i64 0)=.int .i64 (if v∈l then 1 else 0)
 |[]=>rfl
 |x::r=>by
  have ih:=k9 v r;unfold Xy at ih ⊢;simp only[ZP,yt];by_cases h:x=v
  ·subst h;simp
  ·have h':¬v=x:=fun e=>h e.symm;rw[Za h,ih];simp[h']
theorem Gi(v:Int):∀l:List Int,v ∉ l->mPut v (.int .i64 1) (Xy l)=Xy (l++[v])
 |[],_=>rfl
 |x::r,h=>by
  have ih:=Gi v r fun hm=>h (Zu _ hm);unfold Xy at ih ⊢;simp only[ZP,mPut,Zw];have h':¬x=v:=fun e=>h (by rw[e];exact Zv);rw[Za h',ih]
def gV(t:Tm)(l:List Int):Heap:=[.box (some 4) (.pv (some 4) t.pv),.arr none [] false,.box none (.sl none 3 l.length 0 l.length),.arr none (ints l) false,.map none (Yl (Xy l)),.box none (.map 4)]
theorem mf(t0 u:Tm)(l:List Int)(ext:Heap)(hl:l.length<100000000):
  S 108 [u.av,.ptr 5 0,.ptr 2 0] (gV t0 l++ext)=some (.ret u.av,gV t0 (vadd l u.n)++ext):=by
 refine YR rfl rfl rfl rfl ?_;have hlim:l.length+1<=lim:=by unfold lim;omega
 by_cases hm:u.n∈l
 ·have e:vadd l u.n=l:=by simp[vadd,hm]
  rw[e];have hlk:∀(a0 a1 a2 a3 a5:AObj) (e:Heap),yh false none (O8 0) false (a0::a1::a2::a3::.map none (Yl (Xy l))::a5::e) [.map 4,O8 u.n]=some (O8 1):=fun a0 a1 a2 a3 a5 e=>by
   rw[QJ (m:=Xy l) rfl,k9,Zb hm]
  simp -dsimp -implicitDefEqProofs only[go_sem,seval,↓reduceIte,gV,Zd,zW,z6,z7,z9,Zh,Zc,Tm.av,Yh,hlk];rw[Zb (by simp[AV.refsIn])];simp
 ·have e:vadd l u.n=l++[u.n]:=by simp[vadd,hm]
  rw[e];have hlk:∀(a0 a1 a2 a3 a5:AObj) (e:Heap),yh false none (O8 0) false (a0::a1::a2::a3::.map none (Yl (Xy l))::a5::e) [.map 4,O8 u.n]=some (O8 0):=fun a0 a1 a2 a3 a5 e=>by
   rw[QJ (m:=Xy l) rfl,k9,Za hm]
  have hms:∀(a0 a1 a2 a3 a5:AObj) (e:Heap),Xr false none (a0::a1::a2::a3::.map none (Yl (Xy l))::a5::e) [.map 4,O8 u.n,O8 1]=some (.undef,a0::a1::a2::a3::.map none (Yl (Xy (l++[u.n])))::a5::e):=fun a0 a1 a2 a3 a5 e=>by
   rw[q9 (es:=Yl (Xy l)) rfl (qm _ _ _),Gi _ _ hm];rfl
  have hst:∀(n o' n':Nat) (a0 a1 a3 a4 a5:AObj) (e:Heap) (b:Nat),Yw none (b+6) (a0::a1::.box none (.sl none 3 n 0 n)::a3::a4::a5::e) [.ptr 2 0,.sl none 3 n' o' n']=some (.undef,a0::a1::.box none (.sl none 3 n' o' n')::a3::a4::a5::e):=fun n o' n' a0 a1 a3 a4 a5 e b=>uk (by omega) rfl;simp -dsimp -implicitDefEqProofs only[go_sem,seval,↓reduceIte,gV,Zd,zW,z6,z7,z9,Zh,Zc,Tm.av,Yh,hlk,hms,hst,yz,hlim,M3];rw[Zb (by simp[AV.refsIn])];simp
theorem mg(t0:Tm):∀(t:Tm) (l:List Int) (ext:Heap),t.fits=true->t.size<10000000->l.length+t.size<100000000->
  ∃v e,S 88 [t.av,.func (.func 108) [] [.ptr 5 0,.ptr 2 0]] (gV t0 l++ext)=some (.ret v,gV t0 (vads l t.occ)++(ext++e))/\v.shp=some 4/\v.plain=true/\
   ∃e2,AV.freeze deep v (gV t0 (vads l t.occ)++(ext++e))=some (t.pv,gV t0 (vads l t.occ)++(ext++e2)):=by
 intro t
 induction t using Tm.zyR with
 |h t ih=>
  intro l ext hf ht hl;have hts:=t.size_eq;have hlen:=Tm.zyN t.args;obtain⟨K,hK⟩:∃K:List Int->Heap,K=fun l=>gV t0 l++ext:=⟨_,rfl⟩;have hKs:∀l,gV t0 l++ext=K l:=fun l=>by rw[hK]
  have hKl:∀l,(K l).length=ext.length+6:=fun l=>by rw[<-hKs];simp[gV]
  have hKa:∀l X,gV t0 l++(ext++X)=K l++X:=fun l X=>by rw[<-hKs,Zd]
  simp only[hKa,hKs];obtain⟨n,hn⟩:∃n,n=ext.length+6:=⟨_,rfl⟩;rw[<-hn] at hKl;rw[Tm.zyW];by_cases hk:t.kind=0
  ·rw[Zb hk];have h1:=fun X=>mf t0 t l (ext++X) (by omega);simp only[hKa] at h1;have e1:vads l [t.n]=vadd l t.n:=rfl;rw[e1];refine⟨t.av,[],?_,rfl,rfl,⟨[],rfl⟩⟩;rw[ZF];refine YR rfl rfl rfl rfl ?_;have hk':=Zj hk;simp only[Tm.av] at h1;simp -dsimp -implicitDefEqProofs only[go_sem,seval,↓reduceIte,Tm.av,Ya,hk',h1,Zd,zW,z6,z7,z9,Zh,Zc,hKl,getN (hKl _),YY (hKl _),setN (hKl _),yQ (hKl _)];rw[Zb (by simp[AV.refsIn]),<-hKl (vadd l t.n)];exact zj
  ·rw[Za hk];refine⟨.agg [(none,O8 t.kind),(none,O8 t.n),(none,Oh t.name),(none,.sl (some 4) (n+5) t.args.length 0 t.args.length)],
    [.box (some 4) (.pv (some 4) t.pv),.box (some 4) (.agg [(none,O8 t.kind),(none,O8 t.n),(none,Oh t.name),(none,.sl (some 4) (n+5) t.args.length 0 t.args.length)]),.arr (some 4) [] false,.box (some 4) (.agg [(none,O8 t.kind),(none,O8 t.n),(none,Oh t.name),(none,.sl (some 4) (n+5) t.args.length 0 t.args.length)]),.arr (some 4) [] false,.arr (some 4) (Tm.pvs t.args) false],?_,rfl,rfl,?_⟩
   ·refine YR rfl rfl rfl rfl ?_;have hk':=Zl hk;have hb:Ym A0 [0,1,2] [O8 t.kind,O8 t.n,Oh t.name]=some (.agg [(none,O8 t.kind),(none,O8 t.n),(none,Oh t.name),(none,.tsl (some 4) [])]):=rfl;have hle:∀k,n<=n+k:=fun k=>ZA _ _;rw[hKl];simp -dsimp -implicitDefEqProofs only[go_sem,seval,↓reduceIte,Tm.av,Ya,Yh,Ye,zV,hk',Tm.pvs_len,hb,Yc (ZA _ _),Zd,zW,z6,z7,z9,Zh,Zc,hKl,getN (hKl _),YY (hKl _),setN (hKl _),yQ (hKl _)];refine Yv (α:=Unit) t.args.length (fun _ _=>True) (fun i _=>⟨[(1,.func (.func 108) [] [.ptr 5 0,.ptr 2 0]),(4,.ptr (n+1) 0),(5,.ptr (n+3) 0),(22,.pv none (.sl (some 4) (Tm.pvs t.args))),(23,O8 t.args.length),(24,O8 i)],K (vads l (Tm.occs (t.args.take i)))++appH n t i⟩) () ⟨trivial,?_⟩ ?_ ?_
    ·rw[zd];rfl
    ·rintro i - h -;have hc:(i:Int)<(t.args.length:Int):=by omega
     obtain⟨u,hu⟩:∃u,t.args[i]? =some u:=⟨_,Zf h⟩;have hum:=Zk hu;have husz:=Tm.zyQ hum;have hst:=Tm.zyV hu;have hle2:=Tm.zyS t.args (i+1);have hvl:=Ji (Tm.occs (t.args.take i)) l;have hol:=Tm.zy4 (t.args.take i);obtain⟨v,e,hcall,hvs,hvp,e2,hfz⟩:=ih u hum (vads l (Tm.occs (t.args.take i))) (ext++(appH n t i++[.box (some 4) (.pv (some 4) u.pv),.arr (some 4) [] false])) (Tm.zyP hf hum) (by omega) (by omega);rw[<-Jh,<-Tm.zy0 hu] at hcall hfz;simp only[Zd,hKa] at hcall hfz;generalize vads l (Tm.occs (t.args.take (i+1)))=l2 at hcall hfz ⊢;generalize vads l (Tm.occs (t.args.take i))=l1 at hcall hfz hvl ⊢;have w2:=O0 i (by omega)
     have hl:(Tm.pvs (t.args.take i)).length=i:=by rw[Tm.pvs_len,Zn];omega
     have hlim:i+1<=lim:=by unfold lim;omega
     have hbs:yp (some 4) (K l2++(appH n t i++([.box (some 4) (.pv (some 4) u.pv),.arr (some 4) [] false]++e))) [v]=some (.tsl (some 4) [u.pv],K l2++(appH n t i++([.box (some 4) (.pv (some 4) u.pv),.arr (some 4) [] false]++e2))):=by
      simp only[yp,Yi,hfz,hvs,yf,if_true]
     have hs1:∀(k k':List Int) (e e':Heap),yC (K k++(appH n t i++e)) (K k'++(appH n t i++e')) (.ptr (n+3) 3)=true:=fun k k' e e'=>kJ (t:=t) (q:=n+5) (i:=i) (by rw[getN (hKl _)];rfl) (by rw[getN (hKl _)];rfl);simp only[Tm.av] at hcall;simp only[appH,Zd,Zw,ZE] at hcall hbs hs1;simp -dsimp -implicitDefEqProofs only[go_sem,seval,↓reduceIte,appH,hc,zY (Tm.pvs_get hu),qh,ZZ,zA,List.all_cons,List.all_nil,hcall,hbs,hs1,w2,hl,hlim,Tm.zyT hu,Yc (ZA _ _),yF (ZA _ _),Zd,zW,z6,z7,z9,Zh,Zc,hKl,getN (hKl _),YY (hKl _),setN (hKl _),yQ (hKl _)];refine⟨(),?_⟩;rw[Xd 6 (hKl _) rfl (by simp[AObj.refs,AV.ofComps,pures,AV.refsIn,AV.refsIn.go]) (by simp[AV.refsIn,AV.refsIn.gol])];rfl
    ·rintro - -;have hc:¬(t.args.length:Int)<(t.args.length:Int):=by omega
     simp -dsimp -implicitDefEqProofs only[go_sem,seval,↓reduceIte,appH,hc,ZC,Y0,Yc (ZA _ _),yF (ZA _ _),Zd,zW,z6,z7,z9,Zh,Zc,hKl,getN (hKl _),YY (hKl _),setN (hKl _),yQ (hKl _)];rw[Za (by simp[AV.refsIn,AV.refsIn.go])]
   ·have e:=O3
    cases t with
    |mk k n' s ts=>
     refine⟨[.box (some 4) (.pv (some 4) (Tm.mk k n' s ts).pv),.box (some 4) (.agg [(none,O8 k),(none,O8 n'),(none,Oh s),(none,.sl (some 4) (n+5) ts.length 0 ts.length)]),.arr (some 4) [] false,.box (some 4) (.agg [(none,O8 k),(none,O8 n'),(none,Oh s),(none,.sl (some 4) (n+5) ts.length 0 ts.length)]),.arr (some 4) [] false,.arr (some 4) (Tm.pvs ts) true],?_⟩;show AV.freeze (7+1) (.agg _) _=_;simp[e,AV.freeze.go,AV.freeze,getN (hKl _),setN (hKl _),Tm.kind,Tm.n,Tm.name,Tm.args,Tm.pvs_len,Tm.pv]
theorem mh(t:Tm)(hv:t.valid=true)(hp:Heap):S 64 [t.av] hp=some (.ret (.pv none (.sl none (ints (vads [] t.occ)))),hp):=by
 refine Yb rfl rfl rfl (Yd [(some 4,t.pv)]) rfl ?_;have hsz:=valid_size hv;have h1:=fun hp=>yR t hp (by omega);rw[hv] at h1;have hn0:∀H:Heap,YB none H=some (.sl none H.length 0 0 0,H++[.arr none [] false]):=fun H=>YA (sh:=none) (by decide);obtain⟨v,e,h2,_,_,e2,hfz⟩:=mg t t [] [] (valid_fits hv) (by omega) (by simp;omega);generalize vads [] t.occ=l at*;simp only[Tm.av] at h1 h2;have hmk:∀(a0 a1 a2 a3:AObj),Yw none 0 [a0,a1,a2,a3,.map none [],.box none (.pv none .nilmap)] [.ptr 5 0,.map 4]=some (.undef,[a0,a1,a2,a3,.map none [],.box none (.map 4)]):=fun _ _ _ _=>rfl;have e0:gV t []++[]=[.box (some 4) (.pv (some 4) t.pv),.arr none [] false,.box none (.sl none 3 0 0 0),.arr none [] false,.map none [],.box none (.map 4)]:=rfl;rw[e0] at h2;simp only[gV,ZE,Zw] at h2;have hal:∀a0 a1:AObj,y9 none (.tsl none []) [a0,a1] []=some (.ptr 2 0,[a0,a1,.box none (.sl none 3 0 0 0),.arr none [] false]):=fun _ _=>rfl;have hfr:∀(a0 a1 a2 a4 a5:AObj),Am.frozen (.pv none (.sl none (ints l))) (.sl none 3 l.length 0 l.length) (a0::a1::a2::.arr none (ints l) false::a4::a5::e):=fun a0 a1 a2 a4 a5=>M8 (.inr ⟨3,rfl,rfl⟩);simp -dsimp -implicitDefEqProofs only[go_sem,seval,↓reduceIte,Tm.av,h1,hn0,hal,hmk,h2];exact hfr _ _ _ _ _
def MapB(m:List (Int × PV))(s:List Int):Prop:=∀v,(yt v m).getD (.bool false)=.bool (decide (v∈s))
theorem MapB.put{m:List (Int × PV)}{s:List Int}(h:MapB m s)(v:Int):MapB (mPut v (.bool true) m) (s++[v]):=fun w=>by
 rw[Jl];by_cases e:w=v
 ·rw[Zb e];simp[e]
 ·rw[Za e,h w];simp[e]
end Go.Proofs.YtffecaafklpmhaaGreat
