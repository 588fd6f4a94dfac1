/- What is proved: the reference's Vars and Rename. -/
import Derived.Test.YtligpohiokpnhaaGreatSml
set_option linter.unusedSimpArgs false
set_option linter.unusedVariables false
namespace Go.Proofs.YtligpohiokpnhaaGreat
open Go.Am
def ints(l:List Int):List PV:=l.map (.int .i64)
theorem yu(l:List Int):(ints l).length=l.length:=by simp[ints]
theorem qT{l:List Int}{i:Nat}{x:Int}(h:l[i]? =some x):(ints l)[i]? =some (.int .i64 x):=by simp[ints,h]
theorem L0(l:List Int)(x:Int):ints l++[.int .i64 x]=ints (l++[x]):=by simp[ints]
theorem L1(l:List Int)(x:Int)(hl:l.length<1000000000)(hp:Heap):∃y:Int,(∀hp,S 96 [.pv none (.sl none (ints l)),.pv none (.int .i64 x)] hp=some (.ret (.pv none (.int .i64 y)),hp))/\(y<0↔x ∉ l):=by
 obtain⟨v,h1,y,rfl,h2⟩:=LZ (F:=find tab) (prim:=prim) (f:=96) (ps:=[(none,.sl none (ints l)),(none,.int .i64 x)]) (args:=[.pv none (.sl none (ints l)),.pv none (.int .i64 x)]) (fun v=>∃y:Int,v=.pv none (.int .i64 y)/\(y<0↔x ∉ l)) rfl rfl rfl (fun hp=>rfl) rfl (by
  simp -dsimp -implicitDefEqProofs only[go_sem,seval,↓reduceIte,yu];refine Yv (α:=Unit) l.length (fun i _=>∀j,j<i->l[j]?≠some x) (fun i _=>⟨[(0,.pv none (.sl none (ints l))),(1,.pv none (.int .i64 x)),(5,.pv none (.int .i64 i))],[]⟩) () ⟨fun j hj=>by omega,rfl⟩ ?_ ?_
  ·rintro i - h hinv;have hc:(i:Int)<(l.length:Int):=by omega
   obtain⟨b,hb⟩:∃b,l[i]? =some b:=⟨_,Zf h⟩;have w2:IntKind.i64.wrap ((i:Int)+1)=((i+1:Nat):Int):=by rw[Yf (by omega) (by omega)];omega
   by_cases hbx:b=x
   ·simp -dsimp -implicitDefEqProofs only[go_sem,seval,↓reduceIte,yu,hc,Yd (qT hb),hbx];refine⟨_,rfl,i,rfl,?_⟩;have:x∈l:=by rw[<-hbx];exact Zi hb
    constructor
    ·intro h;omega
    ·intro h;exact absurd this h
   ·simp -dsimp -implicitDefEqProofs only[go_sem,seval,↓reduceIte,yu,hc,Yd (qT hb),hbx,w2];refine⟨(),fun j hj=> ?_⟩;rcases Zv j i with h|h
    ·exact hinv j h
    ·have:j=i:=by omega
     subst this;rw[hb];intro e;cases e;exact hbx rfl
  ·rintro - hinv;have hc:¬(l.length:Int)<(l.length:Int):=by omega
   simp -dsimp -implicitDefEqProofs only[go_sem,seval,↓reduceIte,yu,hc];refine⟨_,rfl,-1,rfl,?_⟩;constructor
   ·intro _ hm;obtain⟨j,hlt,hj⟩:=List.getElem_of_mem hm;exact hinv j hlt (by rw[Zf hlt,hj])
   ·intro _;omega)
 exact⟨y,h1,h2⟩
def vadd(s:List Int)(w:Int):List Int:=if w∈s then s else s++[w]
def vads(s:List Int)(ws:List Int):List Int:=ws.foldl vadd s
theorem Q3(s a b:List Int):vads s (a++b)=vads (vads s a) b:=by simp[vads]
theorem qU(ws:List Int):∀s:List Int,(vads s ws).length<=s.length+ws.length:=by
 induction ws with
 |nil=>intro s;simp[vads]
 |cons w r ih=>
  intro s;have:=ih (vadd s w);have h2:(vadd s w).length<=s.length+1:=by unfold vadd;split <;> simp
  simp only[vads,List.foldl_cons,ZO] at this ⊢;omega
theorem L2(ws:List Int):∀(s:List Int) (x:Int),x∈vads s ws↔x∈s\/x∈ws:=by
 induction ws with
 |nil=>intro s x;simp[vads]
 |cons w r ih=>
  intro s x;have:=ih (vadd s w) x;simp only[vads,List.foldl_cons] at this ⊢;rw[this];unfold vadd;split
  ·rename_i h;simp only[Zu];constructor
   ·rintro(h1|h1) <;> simp[h1]
   ·rintro(h1|rfl|h1)
    ·exact .inl h1
    ·exact .inl h
    ·exact .inr h1
  ·simp only[ZF,Zu,List.not_mem_nil,or_false];constructor
   ·rintro((h1|h1)|h1) <;> simp[h1]
   ·rintro(h1|h1|h1) <;> simp[h1]
def IsV(s:AV)(hp:Heap)(l:List Int):Prop:=(s=.tsl none []/\l=[])\/∃r,s=.sl none r l.length 0 l.length/\hp[r]? =some (.arr none (ints l) false)
def PresV(s:AV)(hp hp':Heap):Prop:=hp.length<=hp'.length/\∀(i:Nat) (x:AObj),hp[i]? =some x->(∀v o n,s≠.sl none i v o n)->hp'[i]? =some x
def OwnV(s:AV)(hp:Heap)(s':AV):Prop:=∀r v o n,s'=.sl none r v o n->(∃v o n,s=.sl none r v o n)\/hp.length<=r
theorem PresV.refl(s:AV)(hp:Heap):PresV s hp hp:=⟨Ze _,fun _ _ h _=>h⟩
theorem OwnV.refl(s:AV)(hp:Heap):OwnV s hp s:=fun r v o n h=>.inl ⟨v,o,n,h⟩
theorem IsV.more{s:AV}{hp:Heap}{l:List Int}(h:IsV s hp l)(e:Heap):IsV s (hp++e) l:=by
 rcases h with h|⟨r,h1,h2⟩
 ·exact .inl h
 ·exact .inr ⟨r,h1,by rw[Zn (YT h2)];exact h2⟩
theorem IsV.not_box{s:AV}{hp:Heap}{l:List Int}(h:IsV s hp l){i:Nat}{sh:Sh}{v:AV}(hi:hp[i]? =some (.box sh v)):∀v o n,s≠.sl none i v o n:=by
 rcases h with⟨rfl,_⟩|⟨r,rfl,h2⟩
 ·intro v o n e;cases e
 ·intro v o n e;cases e;rw[hi] at h2;cases h2
theorem OwnV.trans{s s1 s2:AV}{hp hp1:Heap}(h1:OwnV s hp s1)(hl:hp.length<=hp1.length)(h2:OwnV s1 hp1 s2):OwnV s hp s2:=fun r v o n e=>by
 rcases h2 r v o n e with⟨v',o',n',e'⟩|h
 ·exact h1 r v' o' n' e'
 ·exact .inr (by omega)
theorem PresV.trans{s s1:AV}{hp hp1 hp2:Heap}(h1:PresV s hp hp1)(ho:OwnV s hp s1)(h2:PresV s1 hp1 hp2):PresV s hp hp2:=
 ⟨ZY h1.1 h2.1,fun i x hx hne=>h2.2 i x (h1.2 i x hx hne) fun v o n e=>by
  rcases ho i v o n e with⟨v',o',n',e'⟩|h
  ·exact hne v' o' n' e'
  ·have:=YT hx;omega⟩
theorem PresV.take{s:AV}{hp hp1:Heap}{n:Nat}(h:PresV s hp hp1)(hn:hp.length<=n):PresV s hp (hp1.take n):=
 ⟨by rw[Zh];have:=h.1;omega,fun i x hx hne=>by
  have:=YT hx;rw[ZG,Zc (by omega)];exact h.2 i x hx hne⟩
theorem PresV.less{s:AV}{hp e hp1:Heap}(h:PresV s (hp++e) hp1):PresV s hp hp1:=
 ⟨by have:=h.1;simp at this;omega,fun i x hx hne=>h.2 i x (by rw[Zn (YT hx)];exact hx) hne⟩
theorem OwnV.less{s s':AV}{hp e:Heap}(h:OwnV s (hp++e) s'):OwnV s hp s':=fun r v o n h1=>by
 rcases h r v o n h1 with h|h
 ·exact .inl h
 ·exact .inr (by simp at h;omega)
theorem IsV.take{s:AV}{hp:Heap}{l:List Int}{n:Nat}(h:IsV s hp l)(hr:∀q∈s.refsIn,q<n):IsV s (hp.take n) l:=by
 rcases h with h|⟨r,rfl,h2⟩
 ·exact .inl h
 ·have:r<n:=hr r (by simp[AV.refsIn]);exact .inr ⟨r,rfl,by rw[ZG,Zc this];exact h2⟩
theorem IsV.freeze{s:AV}{hp:Heap}{l:List Int}(h:IsV s hp l):∃hp1,AV.freeze deep s hp=some (.sl none (ints l),hp1)/\s.shp=none/\s.plain=true:=by
 rcases h with⟨rfl,rfl⟩|⟨r,rfl,h⟩
 ·exact⟨hp,rfl,rfl,rfl⟩
 ·exact⟨hp.set r (.arr none (ints l) true),by simp[AV.freeze,deep,h,yu],rfl,rfl⟩
theorem L3{s:AV}{hp:Heap}{l:List Int}(h:IsV s hp l)(x:Int)(hl:l.length<1000000000):∃s' H',YC none hp [s,.tsl none [.int .i64 x]]=some (s',H')/\IsV s' H' (l++[x])/\PresV s hp H'/\OwnV s hp s':=by
 have hlim:l.length+1<=lim:=by unfold lim;omega
 rcases h with⟨rfl,rfl⟩|⟨r,rfl,h⟩
 ·refine⟨_,_,rfl,.inr ⟨hp.length,rfl,?_⟩,⟨by simp,fun i x hx _=>by rw[Zn (YT hx)];exact hx⟩,fun r v o n e=>by cases e;exact .inr (Ze _)⟩;rw[Zp (Ze _),ZX];rfl
 ·have hlt:=YT h;refine⟨.sl none r (l.length+1) 0 (l.length+1),hp.set r (.arr none (ints (l++[x])) false),?_,.inr ⟨r,by simp,by rw[Zr hlt]⟩,⟨by simp,fun i x hx hne=> ?_⟩,fun r v o n e=>by cases e;exact .inl ⟨_,_,_,rfl⟩⟩
  ·simp[YC,aappend,elems,h,yu,hlim];simp[ints]
  ·have:i≠r:=fun e=>hne _ _ _ (by rw[e]);rw[Zk (Ne.symm this)];exact hx
theorem L4{s:AV}{hp:Heap}{l:List Int}(h:IsV s hp l)(x:Int)(hl:l.length<1000000000):∃y:Int,S 96 [s,.pv none (.int .i64 x)] hp=some (.ret (.pv none (.int .i64 y)),hp)/\(y<0↔x ∉ l):=by
 obtain⟨y,h1,h2⟩:=L1 l x hl hp;obtain⟨hp1,z1,z2,_⟩:=h.freeze;refine⟨y,?_,h2⟩;have:=Xa (F:=find tab) (prim:=prim) (f:=96) (args:=[s,.pv none (.int .i64 x)]) (ps:=[(none,.sl none (ints l)),(none,.int .i64 x)]) (hp:=hp) (hp1:=hp1) rfl rfl rfl (by
  have e:∀H:Heap,AV.freeze deep (.pv none (.int .i64 x)) H=some (.int .i64 x,H):=fun _=>rfl;simp only[Yn,z1,e,z2];rfl) (h1 [])
 exact this
theorem kw{s s1:AV}{hp e H:Heap}{l:List Int}(h1:IsV s1 H l)(h2:PresV s (hp++e) H)(h3:OwnV s (hp++e) s1):
  IsV s1 (if s1.refsIn.all (fun q=>decide (q<hp.length))=true then H.take hp.length else H) l/\PresV s hp (if s1.refsIn.all (fun q=>decide (q<hp.length))=true then H.take hp.length else H)/\OwnV s hp s1:=by
 refine⟨?_,?_,h3.less⟩
 ·split
  ·rename_i hr;exact h1.take fun q hq=>by simpa using Zx.1 hr q hq
  ·exact h1
 ·split
  ·exact h2.less.take (Ze _)
  ·exact h2.less
theorem kx(t:Tm)(ih:∀u∈t.args,∀(s:AV) (hp:Heap) (l:List Int),IsV s hp l->u.fits=true->l.length+u.size<100000000->∃s' hp',S 75 [s,u.av] hp=some (.ret s',hp')/\IsV s' hp' (vads l u.occ)/\PresV s hp hp'/\OwnV s hp s')
  (s:AV)(H0:Heap)(n0 b:Nat)(l:List Int)(hB:IsV s H0 l)(h1:H0[n0]? =some (.box (some 4) (.pv (some 4) t.pv)))(hf:t.fits=true)(hl:l.length+Tm.sizes t.args<100000000)(Q:AExit->St->Prop)
  (hQ:∀(s1:AV) (H:Heap) (r:Fr),IsV s1 H (vads l (Tm.occs t.args))->PresV s H0 H->OwnV s H0 s1->Q .normal ⟨(0,s1)::r,H⟩):
  W Z L b c75k11 ⟨[(0,s),(3,.ptr n0 0),(5,.pv none (.int .i64 0))],H0⟩ Q:=by
 have hts:=t.size_eq;have hlen:=Tm.zw9 t.args;have nb1:=hB.not_box h1;simp -dsimp -implicitDefEqProofs only[c75b10,c75k11,go_sem,seval,↓reduceIte];refine Yv (α:=AV × Heap) t.args.length (fun i a=>IsV a.1 a.2 (vads l (Tm.occs (t.args.take i)))/\PresV s H0 a.2/\OwnV s H0 a.1)
  (fun i a=>⟨[(0,a.1),(3,.ptr n0 0),(5,.pv none (.int .i64 i))],a.2⟩) (s,H0) ⟨⟨hB,PresV.refl _ _,OwnV.refl _ _⟩,rfl⟩ ?_ ?_
 ·rintro i ⟨s1,H⟩ h ⟨k1,k2,k3⟩;dsimp only at k1 k2 k3;have hc:(i:Int)<(t.args.length:Int):=by omega
  have b1:=k2.2 n0 _ h1 nb1;obtain⟨u,hu⟩:∃u,t.args[i]? =some u:=⟨_,Zf h⟩;have hum:=Zi hu;have hst:=Tm.zxg hu;have hle:=Tm.zxb t.args (i+1);have hvl:=qU (Tm.occs (t.args.take i)) l;have hol:=Tm.zxm (t.args.take i);obtain⟨s2,H2,hcall,p1,p2,p3⟩:=ih u hum s1 H _ k1 (Tm.zxe hf hum) (by omega);simp only[Tm.av] at hcall;have w2:IntKind.i64.wrap ((i:Int)+1)=((i+1:Nat):Int):=by rw[Yf (by omega) (by omega)];omega
  simp -dsimp -implicitDefEqProofs only[c75b10,c75k11,go_sem,seval,↓reduceIte,Yh,Tm.pvs_len,hc,b1,Yd (Tm.pvs_get hu),hcall,w2];have hcc:=uD H0.length b [(0,s2),(3,.ptr n0 0),(5,.pv none (.int .i64 ((i+1:Nat):Int)))] H2;refine⟨(s2,collect H0.length b [(0,s2),(3,.ptr n0 0),(5,.pv none (.int .i64 ((i+1:Nat):Int)))] H2),?_,rfl⟩;generalize collect H0.length b [(0,s2),(3,.ptr n0 0),(5,.pv none (.int .i64 ((i+1:Nat):Int)))] H2=HC at hcc;have q1:=k2.trans k3 p2;have q2:=k3.trans k2.1 p3;rw[Tm.zxi hu,Q3];rcases hcc with rfl|⟨rfl,hr⟩
  ·exact⟨p1,q1,q2⟩
  ·exact⟨p1.take (hr (0,s2) (by simp)),q1.take (Ze _),q2⟩
 ·rintro⟨s1,H⟩ ⟨k1,k2,k3⟩;dsimp only at k1 k2 k3;have hc:¬(t.args.length:Int)<(t.args.length:Int):=by omega
  have b1:=k2.2 n0 _ h1 nb1;rw[ZP] at k1;simp -dsimp -implicitDefEqProofs only[c75b10,c75k11,go_sem,seval,↓reduceIte,Yh,Tm.pvs_len,hc,b1];exact hQ s1 H _ k1 k2 k3
theorem L5:∀(t:Tm) (s:AV) (hp:Heap) (l:List Int),IsV s hp l->t.fits=true->l.length+t.size<100000000->∃s' hp',S 75 [s,t.av] hp=some (.ret s',hp')/\IsV s' hp' (vads l t.occ)/\PresV s hp hp'/\OwnV s hp s':=by
 intro t
 induction t using Tm.zxd with
 |h t ih=>
  intro s hp l hB hf ht;have hts:=t.size_eq;have hn0:∀H:Heap,yJ none H=some (.sl none H.length 0 0 0,H++[.arr none [] false]):=fun H=>je (sh:=none) (by decide);have hB1:=hB.more [.box (some 4) (.pv (some 4) t.pv),.arr none [] false];obtain⟨y,hpos,hy⟩:=L4 hB1 t.n (by omega);refine kt (fun v hp'=>IsV v hp' (vads l t.occ)/\PresV s hp hp'/\OwnV s hp v) rfl rfl rfl rfl ?_;have hbox:(hp++([.box (some 4) (.pv (some 4) t.pv),.arr none [] false]:Heap))[hp.length]? =some (.box (some 4) (.pv (some 4) t.pv)):=by rw[uz];rfl
  rw[Tm.zxo];by_cases hk:t.kind=0
  ·rw[Zc hk];have ha:t.args=[]:=by rw[qS hf hk];rfl
   by_cases hm:t.n∈l
   ·have e:vads l [t.n]=l:=by simp[vads,vadd,hm]
    have hy':¬y<0:=fun h=>hy.1 h hm;rw[e];simp -dsimp -implicitDefEqProofs only[go_sem,seval,↓reduceIte,Tm.av,Yo,yt,Yh,hk,hn0,hpos,hy'];refine kx t ih s _ hp.length hp.length l hB1 hbox hf (by omega) _ fun s1 H r k1 k2 k3=> ?_;rw[ha] at k1;simp -dsimp -implicitDefEqProofs only[go_sem,seval,↓reduceIte];exact kw k1 k2 k3
   ·have e:vads l [t.n]=l++[t.n]:=by simp[vads,vadd,hm]
    have hy':y<0:=hy.2 hm;rw[e];obtain⟨s1,H1,happ,k1,k2,k3⟩:=L3 hB1 t.n (by omega);have b1:=k2.2 hp.length _ hbox (hB1.not_box hbox);simp -dsimp -implicitDefEqProofs only[go_sem,seval,↓reduceIte,Tm.av,Yo,yt,Yh,hk,hn0,hpos,hy',happ];refine kx t ih s1 _ hp.length hp.length _ k1 b1 hf (by rw[Zj,List.length_singleton];omega) _ fun s2 H r j1 j2 j3=> ?_;rw[ha] at j1;simp -dsimp -implicitDefEqProofs only[go_sem,seval,↓reduceIte];exact kw j1 (k2.trans k3 j2) (k3.trans k2.1 j3)
  ·rw[Za hk];simp -dsimp -implicitDefEqProofs only[go_sem,seval,↓reduceIte,Tm.av,Yo,yt,Yh,hk,hn0];refine kx t ih s _ hp.length hp.length l hB1 hbox hf (by omega) _ fun s1 H r k1 k2 k3=> ?_;simp -dsimp -implicitDefEqProofs only[go_sem,seval,↓reduceIte];exact kw k1 k2 k3
theorem L6{s:AV}{H:Heap}{l:List Int}(h:IsV s H l):Am.frozen (.pv none (.sl none (ints l))) s H:=by
 rcases h with⟨rfl,rfl⟩|⟨r,rfl,h⟩
 ·exact⟨H,rfl⟩
 ·exact⟨H.set r (.arr none (ints l) true),by simp[AV.freezeRes,AV.freeze,deep,h,yu,AV.shp]⟩
def yl(v:Int):List (Int × PV)->Option PV
 |[]=>none
 |x::r=>if x.1=v then some x.2 else yl v r
def mPut(v:Int)(p:PV):List (Int × PV)->List (Int × PV)
 |[]=>[(v,p)]
 |x::r=>if x.1=v then(v,p)::r else x::mPut v p r
def YK(m:List (Int × PV)):List (PV × PV):=m.map fun x=>(.int .i64 x.1,x.2)
theorem ky(v:Int):∀m,afind false (.int .i64 v) (YK m)=some (yl v m)
 |[]=>rfl
 |x::r=>by
  have ih:=ky v r;unfold YK at ih ⊢;simp only[Z3,afind,PV.same,if_true,yl];by_cases h:x.1=v
  ·simp[h]
  ·have h':¬v=x.1:=fun e=>h e.symm;simp only[ZL h',Za h];exact ih
theorem jr(v:Int)(p:PV):∀m,aput false (.int .i64 v) p (YK m)=some (YK (mPut v p m))
 |[]=>rfl
 |x::r=>by
  have ih:=jr v p r;unfold YK at ih ⊢;simp only[Z3,aput,PV.same,if_true,mPut];by_cases h:x.1=v
  ·simp[h]
  ·have h':¬v=x.1:=fun e=>h e.symm;simp only[ZL h',Za h,Z3];rw[ih]
theorem kz(v w:Int)(p:PV):∀m,yl v (mPut w p m)=if v=w then some p else yl v m
 |[]=>by
  by_cases h:v=w
  ·simp[mPut,yl,h]
  ·have h':¬w=v:=fun e=>h e.symm;simp[mPut,yl,h,h']
 |x::r=>by
  have ih:=kz v w p r;unfold mPut;by_cases h:x.1=w
  ·rw[Zc h];by_cases e:v=w
   ·simp[yl,e]
   ·have e':¬w=v:=fun q=>e q.symm;have e2:¬x.1=v:=fun q=>e (q.symm.trans h);simp[yl,e,e',e2]
  ·rw[Za h];simp only[yl,ih];by_cases e:x.1=v
   ·have e2:¬v=w:=fun q=>h (e.trans q);simp[e,e2]
   ·simp[e]
def posF:Nat->List Int->List (Int × PV)
 |_,[]=>[]
 |k,x::r=>(x,.int .i64 (k:Int))::posF (k+1) r
theorem kC:∀(l:List Int) (k:Nat),(posF k l).length=l.length
 |[],_=>rfl
 |x::r,k=>by rw[posF,ZO,kC r];rfl
theorem kD(v:Int):∀(l:List Int) (k:Nat),yl v (posF k l)=if v∈l then some (.int .i64 ((k+l.idxOf v:Nat):Int)) else none
 |[],_=>rfl
 |x::r,k=>by
  rw[posF,yl,kD v r];by_cases h:x=v
  ·subst h;simp
  ·have h':¬v=x:=fun e=>h e.symm;simp only[Za h,Zu,h',false_or];rw[List.idxOf_cons];have hb:(x == v)=false:=by simpa using h
   rw[hb];simp only[cond_false];split
   ·congr 2
    omega
   ·rfl
theorem uE(v:Int):∀(l:List Int) (k:Nat),v ∉ l->mPut v (.int .i64 ((k+l.length:Nat):Int)) (posF k l)=posF k (l++[v])
 |[],k,_=>rfl
 |x::r,k,h=>by
  have h':¬x=v:=fun e=>h (by rw[e];exact ZV);have ih:=uE v r (k+1) fun hm=>h (ZQ _ hm);rw[posF,mPut,Za h',ZK,posF,<-ih,ZO]
  congr 4
  omega
theorem uF{v:Int}:∀{l L:List Int},v∈l->l <+: L->L.idxOf v=l.idxOf v
 |[],_,h,_=>by cases h
 |x::r,L,h,hp=>by
  obtain⟨m,rfl⟩:=hp;rw[ZK,List.idxOf_cons,List.idxOf_cons];cases hb:x == v with
  |true=>rfl
  |false=>
   simp only[cond_false];have hx:¬x=v:=by simpa using hb
   have hm:v∈r:=(Zu.1 h).resolve_left fun e=>hx e.symm;rw[uF hm ⟨m,rfl⟩]
theorem uG{v:Int}:∀{l:List Int},v ∉ l->(l++[v]).idxOf v=l.length
 |[],_=>by simp[List.idxOf_cons]
 |x::r,h=>by
  have h':¬x=v:=fun e=>h (by rw[e];exact ZV);rw[ZK,List.idxOf_cons,beq_eq_false_iff_ne.2 h',ZO];simp only[cond_false];rw[uG fun hm=>h (ZQ _ hm)]
theorem L7(l:List Int)(v:Int):l <+: vadd l v:=by
 unfold vadd;split
 ·exact List.prefix_refl _
 ·exact List.prefix_append _ _
theorem kE:∀(ws l:List Int),l <+: vads l ws
 |[],l=>List.prefix_refl _
 |w::r,l=>(L7 l w).trans (kE r (vadd l w))
def cPos(L:List Int)(v:Int):Tm:=tvar (L.idxOf v:Int)
theorem L8(l:List Int)(v:Int):v∈vadd l v:=by
 unfold vadd;split
 ·assumption
 ·simp
theorem L9{L:List Int}{t:Tm}(hk:¬t.kind=0):Tm.sub (cPos L) t=.mk t.kind t.n t.name (t.args.map (Tm.sub (cPos L))):=by
 rw[Tm.zxp,Za hk]
theorem uH{m:List (Int × PV)}{hp:Heap}{r:Nat}{s:Sh}{v:Int}(h:hp[r]? =some (.map none (YK m))):yf false none (.pv none (.int .i64 0)) true hp [.map r,.pv s (.int .i64 v)]=some (match yl v m with|some x=>.tuple [.pv none x,.pv none (.bool true)]|none=>.tuple [.pv none (.int .i64 0),.pv none (.bool false)]):=by
 have hf:=ky v m;cases hm:yl v m with
 |none=>rw[hm] at hf;exact U4 h hf
 |some x=>rw[hm] at hf;exact U3 h hf
def appC(n:Nat)(t:Tm)(ts:List Tm)(i:Nat):Heap:=[.box (some 4) (.pv (some 4) t.pv),.box (some 4) (.agg [(none,.pv none (.int .i64 0)),(none,.pv none (.int .i64 0)),(none,.pv none (.str [])),(none,.sl (some 4) (n+2) 0 0 0)]),.arr (some 4) [] false,.box (some 4) (.agg [(none,.pv none (.int .i64 t.kind)),(none,.pv none (.int .i64 t.n)),(none,.pv none (.str t.name)),(none,.sl (some 4) (n+5) i 0 i)]),.arr (some 4) [] false,.arr (some 4) (Tm.pvs (ts.take i)) false]
theorem lc(a b:List Tm):Tm.occs (a++b)=Tm.occs a++Tm.occs b:=by
 induction a with
 |nil=>rfl
 |cons x r ih=>rw[ZK,Tm.occs,Tm.occs,ih,ZD]
def sgg(u:Tm)(q:Nat):AV:=.agg [(none,.pv none (.int .i64 u.kind)),(none,.pv none (.int .i64 u.n)),(none,.pv none (.str u.name)),(none,.sl (some 4) q u.args.length 0 u.args.length)]
theorem ld{u:Tm}{q:Nat}{H:Heap}{z:Bool}(h:H[q]? =some (.arr (some 4) (Tm.pvs u.args) z)):AV.freeze deep (sgg u q) H=some (u.pv,H.set q (.arr (some 4) (Tm.pvs u.args) true)):=by
 have e:∀l hp,AV.freeze (7+1) (.agg l) hp=match AV.freeze.go 7 l hp with|some (ps,hp')=>some (.agg ps,hp')|none=>none:=fun _ _=>rfl
 show AV.freeze (7+1) (.agg _) _=_;simp[e,AV.freeze.go,AV.freeze,h,Tm.pvs_len];cases u;rfl
def CopR(v:AV)(u:Tm)(n:Nat)(H:Heap):Prop:=v=.pv (some 4) u.pv\/∃q z,n<=q/\v=sgg u q/\H[q]? =some (.arr (some 4) (Tm.pvs u.args) z)
theorem CopR.shp{v:AV}{u:Tm}{n:Nat}{H:Heap}(h:CopR v u n H):v.shp=some 4:=by
 rcases h with rfl|⟨q,z,_,rfl,_⟩ <;> rfl
theorem CopR.frz{v:AV}{u:Tm}{n:Nat}{B e:Heap}(h:CopR v u n (B++e))(hn:B.length=n):∃e2,e2.length=e.length/\AV.freeze deep v (B++e)=some (u.pv,B++e2):=by
 rcases h with rfl|⟨q,z,hq,rfl,hH⟩
 ·exact⟨e,rfl,rfl⟩
 ·obtain⟨j,rfl⟩:∃j,q=n+j:=⟨q - n,by omega⟩;refine⟨e.set j (.arr (some 4) (Tm.pvs u.args) true),by simp,?_⟩;rw[ld hH,setN hn]
def NumR(v:AV)(u:Tm)(n:Nat)(H:Heap):Prop:=∃q z,n<=q/\v=sgg u q/\H[q]? =some (.arr (some 4) (Tm.pvs u.args) z)
def nH(hp:Heap)(m:Nat)(l:List Int):Heap:=hp.set m (.map none (YK (posF 0 l)))
theorem kF(hp:Heap)(m:Nat)(l:List Int):(nH hp m l).length=hp.length:=by simp[nH]
theorem lf{hp:Heap}{m:Nat}(hm:m<hp.length)(l:List Int)(X:Heap):(nH hp m l++X)[m]? =some (.map none (YK (posF 0 l))):=by
 rw[Zn (by rw[kF];exact hm)];simp[nH,hm]
theorem lg{hp:Heap}{m:Nat}(hm:m<hp.length)(l l':List Int)(X:Heap):(nH hp m l++X).set m (.map none (YK (posF 0 l')))=nH hp m l'++X:=by
 rw[zm _ _ (by rw[kF];exact hm)];simp[nH]
theorem lh{t:Tm}(h:t.fits=true)(hk:t.kind=0):t.name=[]/\t.args=[]:=by
 have:=qS h hk;rw[this];exact⟨rfl,rfl⟩
set_option maxHeartbeats 1000000 in
theorem uI(hp:Heap)(m:Nat)(hm:m<hp.length):∀(t:Tm) (l L:List Int) (ext:Heap),t.fits=true->t.size<100000->l.length+t.size<200000->vads l t.occ <+: L->
  ∃v e,S 92 [t.av,.map m] (nH hp m l++ext)=some (.ret v,nH hp m (vads l t.occ)++(ext++e))/\NumR v (Tm.sub (cPos L) t) (hp.length+ext.length) (nH hp m (vads l t.occ)++(ext++e)):=by
 intro t
 induction t using Tm.zxd with
 |h t ih=>
  intro l L ext hf ht hl hp2;have hts:=t.size_eq;have hlen:=Tm.zw9 t.args;obtain⟨n,hn⟩:∃n,n=hp.length+ext.length:=⟨_,rfl⟩;obtain⟨P,hP⟩:∃P:List Int->Heap,P=fun l=>nH hp m l++ext:=⟨_,rfl⟩;have hPs:∀l,nH hp m l++ext=P l:=fun l=>by rw[hP]
  have hPa:∀l X,nH hp m l++(ext++X)=P l++X:=fun l X=>by rw[<-hPs,ZD]
  have hPl:∀l,(P l).length=n:=fun l=>by rw[<-hPs,Zj,kF,hn]
  have hPm:∀l X,(P l++X)[m]? =some (.map none (YK (posF 0 l))):=fun l X=>by rw[<-hPa];exact lf hm l _
  have hPsm:∀l l' X,(P l++X).set m (.map none (YK (posF 0 l')))=P l'++X:=fun l l' X=>by rw[<-hPa,<-hPa];exact lg hm l l' _
  simp only[<-hn];simp only[hPa,hPs];rw[Tm.zxo] at hp2 ⊢;have hb:Yi A0 [0,1,2] [.pv none (.int .i64 t.kind),.pv none (.int .i64 t.n),.pv none (.str t.name)]=some (.agg [(none,.pv none (.int .i64 t.kind)),(none,.pv none (.int .i64 t.n)),(none,.pv none (.str t.name)),(none,.tsl (some 4) [])]):=rfl;by_cases hk:t.kind=0
  ·rw[Zc hk] at hp2 ⊢;have hk':=Zo hk;obtain⟨vn,va⟩:=lh hf hk;have hta:Tm.pvs t.args=[]:=by rw[va];rfl
   have e1:vads l [t.n]=vadd l t.n:=rfl;rw[e1] at hp2 ⊢;have e2:Tm.sub (cPos L) t=tvar ((vadd l t.n).idxOf t.n:Nat):=by
    rw[Tm.zxp,Zc hk];unfold cPos;rw[uF (L8 l t.n) hp2]
   rw[e2];have hz:∀k:Int,AV.upd deep (.agg [(none,.pv none (.int .i64 t.kind)),(none,.pv none (.int .i64 t.n)),(none,.pv none (.str t.name)),(none,.sl (some 4) (n+5) 0 0 0)]) 1 none (.pv none (.int .i64 k))=some (.agg [(none,.pv none (.int .i64 t.kind)),(none,.pv none (.int .i64 k)),(none,.pv none (.str t.name)),(none,.sl (some 4) (n+5) 0 0 0)]):=fun _=>rfl;by_cases hmem:t.n∈l
   ·have e:vadd l t.n=l:=by simp[vadd,hmem]
    rw[e];have hlk:∀X:Heap,yf false none (.pv none (.int .i64 0)) true (P l++X) [.map m,.pv none (.int .i64 t.n)]=some (.tuple [.pv none (.int .i64 ((l.idxOf t.n:Nat):Int)),.pv none (.bool true)]):=fun X=>by
     rw[uH (m:=posF 0 l) (hPm _ _),kD,Zc hmem,Zy]
    obtain⟨k,hkk⟩:∃k:Int,k=((l.idxOf t.n:Nat):Int):=⟨_,rfl⟩;rw[<-hkk] at hlk ⊢;refine⟨sgg (tvar k) (n+5),[.box (some 4) (.pv (some 4) t.pv),.box (some 4) (sgg (tvar k) (n+5)),.arr (some 4) [] false,.box (some 4) (sgg (tvar k) (n+5)),.arr (some 4) [] false,.arr (some 4) [] false],?_,⟨n+5,false,by omega,rfl,by rw[getN (hPl _)];rfl⟩⟩;refine Xn rfl rfl rfl rfl ?_;rw[hPl];simp -dsimp -implicitDefEqProofs only[go_sem,seval,↓reduceIte,Tm.av,Yo,yt,YJ,Yh,hk',hta,hlk,Tm.pvs_len,hb,hz,z7 (ZB _ _),Xf,hPl,getN (hPl _),Xd (hPl _),setN (hPl _),Xe (hPl _)];refine Yv (α:=Unit) 0 (fun _ _=>True) (fun _ _=>⟨[(1,.map m),(4,.ptr (n+1) 0),(5,.ptr (n+3) 0),(38,.pv none (.sl (some 4) [])),(39,.pv none (.int .i64 0)),(40,.pv none (.int .i64 0))],P l++[.box (some 4) (.pv (some 4) t.pv),.box (some 4) (.agg [(none,.pv none (.int .i64 0)),(none,.pv none (.int .i64 0)),(none,.pv none (.str [])),(none,.sl (some 4) (n+2) 0 0 0)]),.arr (some 4) [] false,.box (some 4) (.agg [(none,.pv none (.int .i64 t.kind)),(none,.pv none (.int .i64 k)),(none,.pv none (.str t.name)),(none,.sl (some 4) (n+5) 0 0 0)]),.arr (some 4) [] false,.arr (some 4) [] false]⟩) () ⟨trivial,rfl⟩ (by intros;omega) ?_;rintro - -;have hc0:¬(0:Int)<(0:Int):=by decide
    simp -dsimp -implicitDefEqProofs only[go_sem,seval,↓reduceIte,hc0,Xf,z7 (ZB _ _),Xm (ZB _ _),hPl,getN (hPl _),Xd (hPl _),setN (hPl _),Xe (hPl _)];rw[hk,vn];refine⟨rfl,?_⟩;rw[Za (by simp[sgg,AV.refsIn,AV.refsIn.go])];rfl
   ·have e:vadd l t.n=l++[t.n]:=by simp[vadd,hmem]
    rw[e,uG hmem];have hlk:∀X:Heap,yf false none (.pv none (.int .i64 0)) true (P l++X) [.map m,.pv none (.int .i64 t.n)]=some (.tuple [.pv none (.int .i64 0),.pv none (.bool false)]):=fun X=>by
     rw[uH (m:=posF 0 l) (hPm _ _),kD,Za hmem]
    have hml:∀X:Heap,XD (P l++X) [.map m]=some (.pv none (.int .i64 (l.length:Int))):=fun X=>by
     simp[XD,hPm,YK,kC]
    have hms:∀X:Heap,XE false none (P l++X) [.map m,.pv none (.int .i64 t.n),.pv none (.int .i64 (l.length:Int))]=some (.undef,P (l++[t.n])++X):=fun X=>by
     have:=uE t.n l 0 hmem;rw[Zy] at this;rw[kd (es:=YK (posF 0 l)) (hPm _ _) (jr _ _ _),this,hPsm]
    obtain⟨k,hkk⟩:∃k:Int,k=(l.length:Int):=⟨_,rfl⟩;rw[<-hkk] at hml hms ⊢;refine⟨sgg (tvar k) (n+5),[.box (some 4) (.pv (some 4) t.pv),.box (some 4) (sgg (tvar k) (n+5)),.arr (some 4) [] false,.box (some 4) (sgg (tvar k) (n+5)),.arr (some 4) [] false,.arr (some 4) [] false],?_,⟨n+5,false,by omega,rfl,by rw[getN (hPl _)];rfl⟩⟩;refine Xn rfl rfl rfl rfl ?_;rw[hPl];simp -dsimp -implicitDefEqProofs only[go_sem,seval,↓reduceIte,Tm.av,Yo,yt,YJ,Yh,hk',hta,hlk,hml,hms,Tm.pvs_len,hb,hz,z7 (ZB _ _),Xf,hPl,getN (hPl _),Xd (hPl _),setN (hPl _),Xe (hPl _)];refine Yv (α:=Unit) 0 (fun _ _=>True) (fun _ _=>⟨[(1,.map m),(4,.ptr (n+1) 0),(5,.ptr (n+3) 0),(38,.pv none (.sl (some 4) [])),(39,.pv none (.int .i64 0)),(40,.pv none (.int .i64 0))],P (l++[t.n])++[.box (some 4) (.pv (some 4) t.pv),.box (some 4) (.agg [(none,.pv none (.int .i64 0)),(none,.pv none (.int .i64 0)),(none,.pv none (.str [])),(none,.sl (some 4) (n+2) 0 0 0)]),.arr (some 4) [] false,.box (some 4) (.agg [(none,.pv none (.int .i64 t.kind)),(none,.pv none (.int .i64 k)),(none,.pv none (.str t.name)),(none,.sl (some 4) (n+5) 0 0 0)]),.arr (some 4) [] false,.arr (some 4) [] false]⟩) () ⟨trivial,rfl⟩ (by intros;omega) ?_;rintro - -;have hc0:¬(0:Int)<(0:Int):=by decide
    simp -dsimp -implicitDefEqProofs only[go_sem,seval,↓reduceIte,hc0,Xf,z7 (ZB _ _),Xm (ZB _ _),hPl,getN (hPl _),Xd (hPl _),setN (hPl _),Xe (hPl _)];rw[hk,vn];refine⟨rfl,?_⟩;rw[Za (by simp[sgg,AV.refsIn,AV.refsIn.go])];rfl
  ·rw[Za hk] at hp2 ⊢;have hk':=Zl hk;have e2:Tm.sub (cPos L) t=.mk t.kind t.n t.name (t.args.map (Tm.sub (cPos L))):=by rw[Tm.zxp,Za hk]
   rw[e2];obtain⟨ts',hts'⟩:∃ts',ts'=t.args.map (Tm.sub (cPos L)):=⟨_,rfl⟩;have htl:ts'.length=t.args.length:=by rw[hts',zx]
   rw[<-hts'];refine⟨.agg [(none,.pv none (.int .i64 t.kind)),(none,.pv none (.int .i64 t.n)),(none,.pv none (.str t.name)),(none,.sl (some 4) (n+5) t.args.length 0 t.args.length)],
    [.box (some 4) (.pv (some 4) t.pv),.box (some 4) (.agg [(none,.pv none (.int .i64 t.kind)),(none,.pv none (.int .i64 t.n)),(none,.pv none (.str t.name)),(none,.sl (some 4) (n+5) t.args.length 0 t.args.length)]),.arr (some 4) [] false,.box (some 4) (.agg [(none,.pv none (.int .i64 t.kind)),(none,.pv none (.int .i64 t.n)),(none,.pv none (.str t.name)),(none,.sl (some 4) (n+5) t.args.length 0 t.args.length)]),.arr (some 4) [] false,.arr (some 4) (Tm.pvs ts') false],?_,⟨n+5,false,by omega,?_,?_⟩⟩
   ·refine Xn rfl rfl rfl rfl ?_;rw[hPl];simp -dsimp -implicitDefEqProofs only[go_sem,seval,↓reduceIte,Tm.av,Yo,yt,YJ,Yh,hk',Tm.pvs_len,hb,z7 (ZB _ _),Xf,hPl,getN (hPl _),Xd (hPl _),setN (hPl _),Xe (hPl _)];refine Yv (α:=Unit) t.args.length (fun _ _=>True) (fun i _=>⟨[(1,.map m),(4,.ptr (n+1) 0),(5,.ptr (n+3) 0),(38,.pv none (.sl (some 4) (Tm.pvs t.args))),(39,.pv none (.int .i64 t.args.length)),(40,.pv none (.int .i64 i))],P (vads l (Tm.occs (t.args.take i)))++appC n t ts' i⟩) () ⟨trivial,?_⟩ ?_ ?_
    ·rw[zo];rfl
    ·rintro i - h -;have hc:(i:Int)<(t.args.length:Int):=by omega
     obtain⟨u,hu⟩:∃u,t.args[i]? =some u:=⟨_,Zf h⟩;have hum:=Zi hu;have husz:=Tm.zxa hum;have hst:=Tm.zxg hu;have hle2:=Tm.zxb t.args (i+1);have hvl:=qU (Tm.occs (t.args.take i)) l;have hol:=Tm.zxm (t.args.take i);have hpre:vads (vads l (Tm.occs (t.args.take i))) u.occ <+: L:=by
      rw[<-Q3,<-Tm.zxi hu];refine List.IsPrefix.trans ?_ hp2;have e:=Z6 (i+1) t.args;rw[<-e,lc,Q3,e];exact kE _ _
     obtain⟨v,e,hcall,hcop0⟩:=ih u hum (vads l (Tm.occs (t.args.take i))) L (ext++(appC n t ts' i++[.box (some 4) (.pv (some 4) u.pv),.arr (some 4) [] false])) (Tm.zxe hf hum) (by omega) (by omega) hpre;have hcop:CopR _ _ _ _:=.inr hcop0;rw[<-Q3,<-Tm.zxi hu] at hcall hcop;have hus:ts'[i]? =some (Tm.sub (cPos L) u):=by rw[hts'];simp[hu]
     simp only[ZD,hPa] at hcall hcop;obtain⟨e2,he2,hfz⟩:∃e2,e2.length=e.length/\AV.freeze deep v (P (vads l (Tm.occs (t.args.take (i+1))))++(appC n t ts' i++([.box (some 4) (.pv (some 4) u.pv),.arr (some 4) [] false]++e)))=some ((Tm.sub (cPos L) u).pv,P (vads l (Tm.occs (t.args.take (i+1))))++(appC n t ts' i++([.box (some 4) (.pv (some 4) u.pv),.arr (some 4) [] false]++e2))):=by
      have h:=CopR.frz (B:=P (vads l (Tm.occs (t.args.take (i+1))))++(appC n t ts' i++[.box (some 4) (.pv (some 4) u.pv),.arr (some 4) [] false])) (e:=e) (v:=v) (u:=Tm.sub (cPos L) u) (n:=hp.length+(ext++(appC n t ts' i++([.box (some 4) (.pv (some 4) u.pv),.arr (some 4) [] false]:Heap))).length) (by simpa only[ZD] using hcop) (by simp only[Zj,hPl,hn];omega);obtain⟨e2,h1,h2⟩:=h;exact⟨e2,h1,by simpa only[ZD] using h2⟩
     have hvs:=hcop.shp;generalize vads l (Tm.occs (t.args.take (i+1)))=l2 at hcall hfz ⊢;generalize vads l (Tm.occs (t.args.take i))=l1 at hcall hvl ⊢;have w2:IntKind.i64.wrap ((i:Int)+1)=((i+1:Nat):Int):=by rw[Yf (by omega) (by omega)];omega
     have hll:(Tm.pvs (ts'.take i)).length=i:=by rw[Tm.pvs_len,Zh];omega
     have hlim:i+1<=lim:=by unfold lim;omega
     have hbs:yI (some 4) (P l2++(appC n t ts' i++([.box (some 4) (.pv (some 4) u.pv),.arr (some 4) [] false]++e))) [v]=some (.tsl (some 4) [(Tm.sub (cPos L) u).pv],P l2++(appC n t ts' i++([.box (some 4) (.pv (some 4) u.pv),.arr (some 4) [] false]++e2))):=by
      simp only[yI,Yn,hfz,hvs,yb,if_true]
     have hs1:∀(a a':List Int) (e e':Heap),Yr (P a++(appC n t ts' i++e)) (P a'++(appC n t ts' i++e')) (.ptr (n+3) 3)=true:=fun a a' e e'=>uB (t:=t) (q:=n+5) (i:=i) (by rw[getN (hPl _)];rfl) (by rw[getN (hPl _)];rfl);simp only[Tm.av] at hcall;simp only[appC,ZD,ZK,ZJ] at hcall hbs hs1;simp -dsimp -implicitDefEqProofs only[go_sem,seval,↓reduceIte,appC,hc,Yd (Tm.pvs_get hu),km,ZN,ze,zj,Z9,hcall,hbs,hs1,w2,hll,hlim,Tm.zxc hus,z7 (ZB _ _),Xm (ZB _ _),hPl,getN (hPl _),Xd (hPl _),setN (hPl _),Xe (hPl _)];refine⟨(),?_⟩;rw[jk 6 (hPl _) rfl (by simp[AObj.refs,AV.ofComps,pures,AV.refsIn,AV.refsIn.go]) (by simp[AV.refsIn,AV.refsIn.gol];omega)];rfl
    ·rintro - -;have hc:¬(t.args.length:Int)<(t.args.length:Int):=by omega
     have htk:ts'.take t.args.length=ts':=Zq (by omega);simp -dsimp -implicitDefEqProofs only[go_sem,seval,↓reduceIte,appC,hc,ZP,htk,Xf,z7 (ZB _ _),Xm (ZB _ _),hPl,getN (hPl _),Xd (hPl _),setN (hPl _),Xe (hPl _)];rw[Za (by simp[AV.refsIn,AV.refsIn.go])]
   ·unfold sgg;show _=AV.agg [(none,.pv none (.int .i64 t.kind)),(none,.pv none (.int .i64 t.n)),(none,.pv none (.str t.name)),(none,.sl (some 4) (n+5) ts'.length 0 ts'.length)];rw[htl]
   ·rw[getN (hPl _)];rfl
structure Cz where
 head:Tm
 body:Tm
def Cz.pv(c:Cz):PV:=.agg [(some 4,c.head.pv),(some 4,c.body.pv)]
def Cz.av(c:Cz):AV:=.pv (some 8) c.pv
theorem YX(c:Cz):PV.part deep c.pv 0 (some 4)=some c.head.pv:=by cases c with|mk h b=>cases h;rfl
theorem YY(c:Cz):PV.part deep c.pv 4 (some 4)=some c.body.pv:=by cases c with|mk h b=>cases h;cases b;rfl
def Cz.vars(c:Cz):List Int:=vads [] (c.head.occ++c.body.occ)
def Cz.can(c:Cz):Cz:=⟨Tm.sub (cPos c.vars) c.head,Tm.sub (cPos c.vars) c.body⟩
theorem li{u w:Tm}{q1 q2:Nat}{H:Heap}{z1 z2:Bool}(h1:H[q1]? =some (.arr (some 4) (Tm.pvs u.args) z1))(h2:H[q2]? =some (.arr (some 4) (Tm.pvs w.args) z2))(hne:q1≠q2):AV.freeze deep (.agg [(some 4,sgg u q1),(some 4,sgg w q2)]) H=some ((Cz.mk u w).pv,(H.set q1 (.arr (some 4) (Tm.pvs u.args) true)).set q2 (.arr (some 4) (Tm.pvs w.args) true)):=by
 have e:∀n l hp,AV.freeze (n+1) (.agg l) hp=match AV.freeze.go n l hp with|some (ps,hp')=>some (.agg ps,hp')|none=>none:=fun _ _ _=>rfl
 have h2':(H.set q1 (.arr (some 4) (Tm.pvs u.args) true))[q2]? =some (.arr (some 4) (Tm.pvs w.args) z2):=by rw[Zk hne,h2]
 show AV.freeze (7+1) (.agg _) _=_;simp[sgg,e,AV.freeze.go,AV.freeze,h1,h2',Tm.pvs_len];cases u;cases w;rfl
def zagV:AV:=.agg A0
def cN(c:Cz)(l:List Int)(a:AV):Heap:=[.box (some 8) (.pv (some 8) c.pv),.box (some 8) a,.map none (YK (posF 0 l))]
theorem lj(c:Cz)(fh:c.head.fits=true)(fb:c.body.fits=true)(hz:c.head.size+c.body.size<90000)(hp:Heap):S 69 [c.av] hp=some (.ret (.tuple [c.can.av,.pv none (.int .i64 (c.vars.length:Int))]),hp):=by
 refine Ya rfl rfl rfl (z9 [(some 8,c.pv)]) rfl ?_;obtain⟨L,hL⟩:∃L,L=c.vars:=⟨_,rfl⟩;have hLa:L=vads (vads [] c.head.occ) c.body.occ:=by rw[hL,Cz.vars,Q3]
 have hp1:vads [] c.head.occ <+: L:=by rw[hLa];exact kE _ _
 obtain⟨v1,e1,hc1,q1,z1,hq1,hv1,ha1⟩:=uI (cN c [] (.agg [(some 4,zagV),(some 4,zagV)])) 2 (by show 2<3;omega) c.head [] L [] fh (by omega) (by simp;omega) hp1;have hl1:=qU c.head.occ [];have ho1:=Tm.occ_len c.head;simp only[List.length_nil] at hl1;obtain⟨v2,e2,hc2,q2,z2,hq2,hv2,ha2⟩:=uI (cN c (vads [] c.head.occ) (.agg [(some 4,v1),(some 4,zagV)])) 2 (by show 2<3;omega) c.body (vads [] c.head.occ) L e1 fb (by omega) (by omega) (by rw[<-hLa];exact List.prefix_refl _);rw[<-hLa] at hc2 ha2;have hcan:c.can=⟨Tm.sub (cPos L) c.head,Tm.sub (cPos L) c.body⟩:=by rw[hL];rfl
 obtain⟨u,hu⟩:∃u,u=Tm.sub (cPos L) c.head:=⟨_,rfl⟩;obtain⟨w,hw⟩:∃w,w=Tm.sub (cPos L) c.body:=⟨_,rfl⟩;rw[<-hu] at hv1 ha1 hcan;rw[<-hw] at hv2 ha2 hcan;subst hv1 hv2;rw[hcan,<-hL];have n1:∀(l l':List Int) (a:AV),nH (cN c l a) 2 l'=cN c l' a:=fun _ _ _=>rfl;simp only[n1,ZJ,ZC] at hc1 hc2 ha1 ha2;have up0:AV.upd deep (.agg [(some 4,zagV),(some 4,zagV)]) 0 (some 4) (sgg u q1)=some (.agg [(some 4,sgg u q1),(some 4,zagV)]):=rfl;have up4:AV.upd deep (.agg [(some 4,sgg u q1),(some 4,zagV)]) 4 (some 4) (sgg w q2)=some (.agg [(some 4,sgg u q1),(some 4,sgg w q2)]):=rfl;simp only[zagV,sgg] at up0 up4;have st1:∀(l:List Int) (e:Heap),z8 (some 4) 0 (cN c l (.agg [(some 4,zagV),(some 4,zagV)])++e) [.ptr 1 0,sgg u q1]=some (.undef,cN c l (.agg [(some 4,sgg u q1),(some 4,zagV)])++e):=fun l e=>by
  simp[z8,astore,cN,sgg,zagV,AV.plain,AV.shp,AV.own,Yb,YQ,total,Sh.size,up0,up4]
 have st2:∀(l:List Int) (e:Heap),z8 (some 4) 0 (cN c l (.agg [(some 4,sgg u q1),(some 4,zagV)])++e) [.ptr 1 4,sgg w q2]=some (.undef,cN c l (.agg [(some 4,sgg u q1),(some 4,sgg w q2)])++e):=fun l e=>by
  simp[z8,astore,cN,sgg,zagV,AV.plain,AV.shp,AV.own,Yb,YQ,total,Sh.size,up0,up4]
 have st3:∀(l:List Int) (e:Heap),z8 (some 8) 0 (cN c l (.agg [(some 4,sgg u q1),(some 4,sgg w q2)])++e) [.ptr 1 0,.agg [(some 4,sgg u q1),(some 4,sgg w q2)]]=some (.undef,cN c l (.agg [(some 4,sgg u q1),(some 4,sgg w q2)])++e):=fun l e=>by
  simp[z8,astore,cN,sgg,zagV,AV.plain,AV.shp,AV.own,Yb,YQ,total,Sh.size]
 have g0:∀(l:List Int) (a:AV) (e:Heap),(cN c l a++e)[0]? =some (.box (some 8) (.pv (some 8) c.pv)):=fun _ _ _=>rfl;have g1:∀(l:List Int) (a:AV) (e:Heap),(cN c l a++e)[1]? =some (.box (some 8) a):=fun _ _ _=>rfl;have ml:∀(l:List Int) (a:AV) (e:Heap),XD (cN c l a++e) [.map 2]=some (.pv none (.int .i64 (l.length:Int))):=fun l a e=>by
  simp[XD,cN,YK,kC]
 have k0:YK (posF 0 [])=[]:=rfl;have hc1':=hc1;simp only[cN,k0,zagV,Tm.av] at hc1';have hc3:S 92 [.pv (some 4) c.head.pv,.map 2] [.box (some 8) (.pv (some 8) c.pv),.box (some 8) (.agg [(some 4,.agg A0),(some 4,.agg A0)]),.map none []]=some (.ret (sgg u q1),cN c (vads [] c.head.occ) (.agg [(some 4,zagV),(some 4,zagV)])++e1):=hc1';simp only[Tm.av] at hc2;obtain⟨s1,hs1⟩:∃s1,s1=sgg u q1:=⟨_,rfl⟩;obtain⟨s2,hs2⟩:∃s2,s2=sgg w q2:=⟨_,rfl⟩;rw[<-hs1] at hc3 hc2 st1 st2 st3;rw[<-hs2] at hc2 st2 st3;clear hc1 hc1' up0 up4;simp -dsimp -implicitDefEqProofs only[go_sem,seval,↓reduceIte,Cz.av,YX,YY,hc3,hc2,st1,st2,st3,g0,g1,ml,z7 (Zd _)];obtain⟨j1,rfl⟩:∃j,q1=3+j:=⟨q1 - 3,by have:3<=q1:=hq1;omega⟩;obtain⟨j2,rfl⟩:∃j,q2=3+j:=⟨q2 - 3,by have:3+e1.length<=q2:=hq2;omega⟩;have g3:∀(l:List Int) (a:AV) (e:Heap) (j:Nat),(cN c l a++e)[3+j]? =e[j]? :=fun l a e j=>getN (l:=cN c l a) rfl j;rw[g3] at ha1 ha2;have hj1:=(Zb.1 ha1).1;have hq2':3+e1.length<=3+j2:=hq2;have h1:(cN c L (.agg [(some 4,s1),(some 4,s2)])++(e1++e2))[3+j1]? =some (.arr (some 4) (Tm.pvs u.args) z1):=by rw[g3,Zn hj1,ha1]
 have h2:(cN c L (.agg [(some 4,s1),(some 4,s2)])++(e1++e2))[3+j2]? =some (.arr (some 4) (Tm.pvs w.args) z2):=by rw[g3,ha2]
 have hf:=li h1 h2 (by omega);rw[<-hs1,<-hs2] at hf;have hr:∀H:Heap,H[1]? =some (.box (some 8) (.agg [(some 4,s1),(some 4,s2)]))->YL ⟨[(2,.ptr 1 0),(3,.pv none (.int .i64 (L.length:Int)))],H⟩ (2,some (some 8))=some (.agg [(some 4,s1),(some 4,s2)]):=fun H h=>by
  simp[YL,Fr.look,aload,h]
 rw[hr _ (g1 _ _ _)];have hsh:(AV.agg [(some 4,s1),(some 4,s2)]).shp=some 8:=rfl;have e3:∀X,AV.freeze deep (.pv none (.int .i64 (L.length:Int))) X=some (.int .i64 (L.length:Int),X):=fun _=>rfl;obtain⟨HH,hHH⟩:∃HH,HH=cN c L (.agg [(some 4,s1),(some 4,s2)])++(e1++e2):=⟨_,rfl⟩;rw[<-hHH] at hf;show Am.frozen _ (.tuple [.agg [(some 4,s1),(some 4,s2)],.pv none (.int .i64 (L.length:Int))]) (cN c L (.agg [(some 4,s1),(some 4,s2)])++(e1++e2));rw[<-hHH];refine⟨(HH.set (3+j1) (.arr (some 4) (Tm.pvs u.args) true)).set (3+j2) (.arr (some 4) (Tm.pvs w.args) true),?_⟩;simp only[AV.freezeRes,Yn,hf,e3,hsh];rfl
def outD(F:FuncId->Option AFn)(prim:FuncId->Option Yw)(rs:List RSlot)(s:Nat)(v:AV)(st:St)(p:PV)(st2:St):Prop:=
 ∃g fs cs,st.fr.look s=some (.func (.func g) fs cs)/\∃r hp' v',sem F prim .dfr g (.pv none p::(fs++cs)) st2.hp=some (.ret r,hp')/\YM ⟨st2.fr,hp'⟩ rs=some v'/\Am.frozen v v' hp'
def outK(F:FuncId->Option AFn)(prim:FuncId->Option Yw)(rs:List RSlot)(s:Nat)(v:AV)(st:St):AExit->St->Prop
 | .normal,st2=>outD F prim rs s v st .niliface st2
 | .ret,st2=>outD F prim rs s v st .niliface st2
 | .panic w,st2=>outD F prim rs s v st w st2
 | .exit _,_=>False
def dfrK(F:FuncId->Option AFn)(prim:FuncId->Option Yw)(rs:List RSlot)(s:Nat)(c2:ACode)(v:AV):AExit->St->Prop
 | .normal,st=>(st.fr.look s).isSome=true/\W (sem F prim) (sloop F prim) 0 c2 st (outK F prim rs s v st)
 | .ret,st=>endK rs (Am.frozen v) .ret st
 |_,_=>False
theorem uJ{F:FuncId->Option AFn}{prim:FuncId->Option Yw}{rs:List RSlot}{s:Nat}{c2:ACode}{v:AV}{st:St}:dfrK F prim rs s c2 v .normal st=((st.fr.look s).isSome=true/\W (sem F prim) (sloop F prim) 0 c2 st (outK F prim rs s v st)):=rfl
theorem kG{F:FuncId->Option AFn}{prim:FuncId->Option Yw}{rs:List RSlot}{s:Nat}{c2:ACode}{v:AV}{st:St}:dfrK F prim rs s c2 v .ret st=endK rs (Am.frozen v) .ret st:=rfl
theorem uK{F:FuncId->Option AFn}{prim:FuncId->Option Yw}{rs:List RSlot}{s:Nat}{v:AV}{st st2:St}:outK F prim rs s v st .ret st2=outD F prim rs s v st .niliface st2:=rfl
theorem uL{F:FuncId->Option AFn}{prim:FuncId->Option Yw}{rs:List RSlot}{s:Nat}{v:AV}{st st2:St}{w:PV}:outK F prim rs s v st (.panic w) st2=outD F prim rs s v st w st2:=rfl
theorem lk{F:FuncId->Option AFn}{prim:FuncId->Option Yw}{f:FuncId}{fn:AFn}{args:List AV}{ps:List (Sh × PV)}{hp:Heap}{v:AV}{s:Nat}{c2:ACode}(hp0:prim f=none)(hf:F f=some fn)(hm:fn.heapMode=false)(hz:Yn args hp=some (ps,hp))(hn:(pvs ps).length=fn.nparams)(hmo:fn.more=[(.dfr s,c2)])
  (h:W (sem F prim) (sloop F prim) 0 fn.code ⟨params 0 (pvs ps),[]⟩ (dfrK F prim fn.results s c2 v))(hr:fn.rcv=none:=by rfl):sem F prim .fn f args hp=some (.ret v,hp):=by
 rw[Ql];unfold yh;rw[hp0,hf];have hl:([]:Heap).length=0:=rfl
 suffices hB:∃v' hp2,abody (sem F prim) (sloop F prim) fn (pvs ps) []=some (.ret v',hp2)/\Am.frozen v v' hp2 by
  obtain⟨v',hp2,h1,hp3,h2⟩:=hB;simp only[hr,zH,hm,Z4,if_false,hz,h1,h2];cases v.scalar <;> rfl
 unfold abody;rw[Za (by simpa using hn),hmo];simp only[hl];unfold W at h;split at h
 ·rename_i e st1 he;cases e with
  |normal=>
   obtain⟨-,hW⟩:=h;unfold W at hW;split at hW
   ·rename_i e2 st2 he2;have fin:∀p:Option PV,outD F prim fn.results s v st1 (p.getD .niliface) st2->∀e:AExit,(e=.normal\/e=.ret->p=none)->(∀w,e=.panic w->p=some w)->(∀i,e≠.exit i)->e=e2->∃v' hp2,aleave (sem F prim) fn (apieces (sem F prim) (sloop F prim) 0 [(.dfr s,c2)] fn.code ⟨params 0 (pvs ps),[]⟩ [])=some (.ret v',hp2)/\Am.frozen v v' hp2:=by
     rintro p ⟨g,fs,cs,k1,r,hp',v',k2,k3,k4⟩ e n1 n2 n3 rfl;refine⟨v',hp',?_,k4⟩;have k5:atop (sem F prim) (.dfr s) st1 []=some (.normal,st1,[.func (.func g) fs cs]):=by simp[atop,k1]
     have ka:apieces (sem F prim) (sloop F prim) 0 [(.dfr s,c2)] fn.code ⟨params 0 (pvs ps),[]⟩ []=some (e,st2,[.func (.func g) fs cs]):=by
      simp only[apieces,he,k5,he2]
     have ku:∀p':Option PV,p'=p->aunwind (sem F prim) [.func (.func g) fs cs] p' st2.hp=some (none,hp'):=by
      rintro p' rfl;simp only[aunwind,y3,k2]
     rw[ka];cases e with
     |normal=>simp only[aleave,ku none (n1 (.inl rfl)).symm,aresult,k3]
     |ret=>simp only[aleave,ku none (n1 (.inr rfl)).symm,aresult,k3]
     |panic w=>simp only[aleave,ku (some w) (n2 w rfl).symm,aresult,k3]
     |exit i=>exact absurd rfl (n3 i)
    cases e2 with
    |normal=>exact fin none hW .normal (fun _=>rfl) (fun w e=>by cases e) (fun i e=>by cases e) rfl
    |ret=>exact fin none hW .ret (fun _=>rfl) (fun w e=>by cases e) (fun i e=>by cases e) rfl
    |panic w=>exact fin (some w) hW (.panic w) (fun e=>by rcases e with e|e <;> cases e) (fun w e=>by cases e;rfl) (fun i e=>by cases e) rfl
    |exit i=>exact hW.elim
   ·exact hW.elim
  |ret=>
   rw[kG,Qm] at h;cases hr:YM st1 fn.results with
   |none=>rw[hr] at h;exact h.elim
   |some u=>
    rw[hr] at h;exact⟨u,st1.hp,by simp only[aleave,apieces,he,aunwind,aresult,hr],h⟩
  |exit i=>exact h.elim
  |panic v=>exact h.elim
 ·exact h.elim
def uM(n:Nat)(H:Heap):AExit->St->Prop
 | .normal,st=>st.hp.take n=H
 | .ret,st=>st.hp.take n=H
 |_,_=>False
theorem uN{n:Nat}{H:Heap}{st:St}:uM n H .normal st=(st.hp.take n=H):=rfl
theorem uO{F:FuncId->Option AFn}{prim:FuncId->Option Yw}{g:FuncId}{fn:AFn}{ws:List AV}{hp H:Heap}{s:Sh}{p:PV}{t:Nat}(hf:F g=some fn)(hr:fn.rcv=some t)(hmo:fn.more=[])(hn:ws.length=fn.nparams)
  (h:W (sem F prim) (sloop F prim) hp.length fn.code ⟨(t,.pv s p)::params 0 ws,hp⟩ (uM hp.length H)):sem F prim .dfr g (.pv s p::ws) hp=some (.ret (.tuple []),H):=by
 rw[D9];unfold adefer;simp only[hf,hr,hmo,hn,ne_eq,not_true_eq_false,if_false];unfold W at h;split at h
 ·rename_i e st he;rw[he];cases e with
  |normal=>rw[<-h]
  |ret=>rw[<-h]
  |exit i=>exact h.elim
  |panic v=>exact h.elim
 ·exact h.elim
def zt:Tm:=.mk 0 0 [] []
theorem ll(H:Heap):sem (find tab) prim .dfr 102 [.pv none .niliface,.ptr 1 0,.ptr 3 0] H=some (.ret (.tuple []),H):=by
 refine uO (t:=5) rfl rfl rfl rfl ?_;have hin:xu true [.pv none .niliface]=some (.pv none (.bool false)):=rfl;simp -dsimp -implicitDefEqProofs only[go_sem,seval,↓reduceIte,hin,uN]
 try simp
def zG:AV:=.agg A0
theorem lm(x0 x2:AObj)(v:AV)(c:Bool):sem (find tab) prim .dfr 102 [.pv none noG,.ptr 1 0,.ptr 3 0] [x0,.box (some 4) v,x2,.box none (.pv none (.bool c))]=some (.ret (.tuple []),[x0,.box (some 4) zG,x2,.box none (.pv none (.bool false))]):=by
 refine uO (t:=5) rfl rfl rfl rfl ?_;have hin:xu true [.pv none noG]=some (.pv none (.bool true)):=rfl;have has:∀z,xX 116 (some 0) z true [.pv none noG]=some (.tuple [.pv (some 0) (.agg []),.pv none (.bool true)]):=fun _=>rfl;have hz0:Yi A0 [] []=some zG:=rfl;have hst:∀X:AObj,z8 (some 4) 4 [x0,.box (some 4) v,x2,.box none (.pv none (.bool c)),X] [.ptr 1 0,zG]=some (.undef,[x0,.box (some 4) zG,x2,.box none (.pv none (.bool c)),X]):=fun X=>by
  simp[z8,astore,zG,AV.plain,AV.shp,AV.refsIn,AV.refsIn.go,total,Sh.size]
 simp -dsimp -implicitDefEqProofs only[go_sem,seval,↓reduceIte,hin,has,hz0,hst,uN,z7 (Zd _)]
 try rfl
def cv(t:Tm):Option Tm:=cvF t.size t
theorem ln(t:Tm)(hv:t.valid=true)(hp:Heap):S 90 [t.av] hp=some (.ret (.tuple [((cv t).getD zt).av,.pv none (.bool (cv t).isSome)]),hp):=by
 refine lk rfl rfl rfl (z9 [(some 4,t.pv)]) rfl rfl ?_;have h1:=fun hp=>LY t.size t (Ze _) hv hp;have hz0:Yi A0 [] []=some zG:=rfl;unfold cv;cases e:cvF t.size t with
 |none=>
  rw[e] at h1;simp only[resB,Tm.av] at h1;simp -dsimp -implicitDefEqProofs only[go_sem,seval,↓reduceIte,Tm.av,h1,hz0,(fun A=>rfl:∀A:Prop,panK true A=A),z7 (Zd _),Xf,kG,uJ,uK,uL];refine⟨rfl,102,[],[.ptr 1 0,.ptr 3 0],rfl,_,_,_,lm _ _ _ _,rfl,?_⟩;exact⟨_,rfl⟩
 |some g=>
  rw[e] at h1;simp only[resB,Tm.av] at h1;simp -dsimp -implicitDefEqProofs only[go_sem,seval,↓reduceIte,Tm.av,h1,hz0,(fun A=>rfl:∀A:Prop,panK true A=A),z7 (Zd _),Xf,kG,uJ,uK,uL];refine⟨rfl,102,[],[.ptr 1 0,.ptr 3 0],rfl,_,_,_,ll _,rfl,?_⟩;exact⟨_,rfl⟩
def yG(t:Tm):Option Tm:=if t.valid=true then match cv t with
 |some g=>if 2000<g.size then none else some g
 |none=>none
 else none
theorem lq:∀(n:Nat) (t g:Tm),cvF n t=some g->g.size<=2*t.size:=by
 intro n
 induction n with
 |zero=>intro t g h;cases h
 |succ n ih=>
  intro t g h;rw[cvF] at h;split at h
  ·cases h;rw[Tm.size_eq];show 1+(t.size+0)<=_;have:=t.size_eq;omega
  ·split at h
   ·split at h
    ·rename_i a b hab;split at h
     ·cases h
     ·rename_i x hx;split at h
      ·cases h
      ·rename_i y hy;cases h;have h1:=ih _ _ hx;have h2:=ih _ _ hy;have e:t.size=1+(a.size+(b.size+0)):=by rw[Tm.size_eq,hab];rfl
       rw[Tm.size_eq];show 1+(x.size+(y.size+0))<=_;omega
    ·cases h
   ·split at h
    ·cases h;omega
    ·cases h
theorem lu(t:Tm)(hz:t.size<100000000)(hp:Heap):S 67 [t.av] hp=some (.ret (.tuple [((yG t).getD zt).av,.pv none (.bool (yG t).isSome)]),hp):=by
 refine Ya rfl rfl rfl (z9 [(some 4,t.pv)]) rfl ?_;have h1:=fun hp=>qQ t hp (by omega);have hz0:Yi A0 [] []=some (.agg A0):=rfl;simp only[Tm.av] at h1;by_cases hv:t.valid=true
 rotate_left
 ·have hv':t.valid=false:=by simpa using hv
  have e:yG t=none:=by unfold yG;rw[Za hv]
  rw[e];simp -dsimp -implicitDefEqProofs only[go_sem,seval,↓reduceIte,Tm.av,h1,hv',hz0,z7 (Zd _)];exact⟨_,rfl⟩
 have h2:=fun hp=>ln t hv hp;have vz:=Xb hv;cases ec:cv t with
 |none=>
  have e:yG t=none:=by unfold yG;rw[Zc hv,ec]
  rw[ec] at h2;simp only[Option.getD_none,zH,Tm.av] at h2;rw[e];simp -dsimp -implicitDefEqProofs only[go_sem,seval,↓reduceIte,Tm.av,h1,h2,hv,hz0,z7 (Zd _)];exact⟨_,rfl⟩
 |some g=>
  have gz:=lq _ _ _ ec;rw[ec] at h2;have h3:=fun hp=>jm g hp (by omega);simp only[Option.getD_some,Option.isSome_some,Tm.av] at h2 h3;by_cases hg:2000<g.size
  ·have e:yG t=none:=by unfold yG;rw[Zc hv,ec];exact Zc hg
   have hm:min g.size 2001=2001:=by omega
   rw[hm] at h3;have hc:(2000:Int)<((2001:Nat):Int):=by decide
   rw[e];simp -dsimp -implicitDefEqProofs only[go_sem,seval,↓reduceIte,Tm.av,h1,h2,h3,hc,hv,hz0,z7 (Zd _)];exact⟨_,rfl⟩
  ·have e:yG t=some g:=by unfold yG;rw[Zc hv,ec];exact Za hg
   have hm:min g.size 2001=g.size:=by omega
   rw[hm] at h3;have hc:¬(2000:Int)<(g.size:Int):=by omega
   rw[e];simp -dsimp -implicitDefEqProofs only[go_sem,seval,↓reduceIte,Tm.av,h1,h2,h3,hc,hv,hz0,z7 (Zd _)];exact⟨_,rfl⟩
theorem lw:∀(t:Tm) (hp:Heap),t.size<1000000000->S 93 [t.av] hp=some (.ret t.av,hp):=by
 intro t
 induction t using Tm.zxd with
 |h t ih=>
  intro hp ht;have hts:=t.size_eq;have hlen:=Tm.zw9 t.args;refine Ya rfl rfl rfl (z9 [(some 4,t.pv)]) rfl ?_;have hb:Yi A0 [0,1,2] [.pv none (.int .i64 t.kind),.pv none (.int .i64 t.n),.pv none (.str t.name)]=some (.agg [(none,.pv none (.int .i64 t.kind)),(none,.pv none (.int .i64 t.n)),(none,.pv none (.str t.name)),(none,.tsl (some 4) [])]):=rfl;simp -dsimp -implicitDefEqProofs only[go_sem,seval,↓reduceIte,Tm.av,Yo,yt,YJ,Yh,Tm.pvs_len,hb,z7 (Zd _)];refine Yv (α:=Unit) t.args.length (fun _ _=>True) (fun i _=>⟨[(1,.ptr 0 0),(2,.ptr 1 0),(3,.ptr 3 0),(4,.pv none (.int .i64 i))],appH 0 t i⟩) () ⟨trivial,rfl⟩ ?_ ?_
  ·rintro i - h -;have hc:(i:Int)<(t.args.length:Int):=by omega
   obtain⟨u,hu⟩:∃u,t.args[i]? =some u:=⟨_,Zf h⟩;have hum:=Zi hu;have husz:=Tm.zxa hum;have hcall:=fun hp=>ih u hum hp (by omega);simp only[Tm.av] at hcall;have w2:IntKind.i64.wrap ((i:Int)+1)=((i+1:Nat):Int):=by rw[Yf (by omega) (by omega)];omega
   have hl:(Tm.pvs (t.args.take i)).length=i:=by rw[Tm.pvs_len,Zh];omega
   have hlim:i+1<=lim:=by unfold lim;omega
   simp -dsimp -implicitDefEqProofs only[go_sem,seval,↓reduceIte,appH,Yh,Tm.pvs_len,hc,Yd (Tm.pvs_get hu),hcall,w2,hl,hlim,Tm.zxc hu,z7 (Zd _),Xm (Zd _)];exact⟨(),rfl⟩
  ·rintro - -;have hc:¬(t.args.length:Int)<(t.args.length:Int):=by omega
   simp -dsimp -implicitDefEqProofs only[go_sem,seval,↓reduceIte,appH,Yh,Tm.pvs_len,hc,ZP,Xf,z7 (Zd _),Xm (Zd _)];exact LU t rfl
def rawP(k n:Int)(s:List UInt8)(es:List PV):PV:=.agg [(none,.int .i64 k),(none,.int .i64 n),(none,.str s),(none,.sl (some 4) es)]
theorem uP{hp:Heap}{r:Nat}(k n:Int)(s:List UInt8)(es:List PV)(m:Nat)(hm:m=es.length)(h:hp[r]? =some (.arr (some 4) es false)):Am.frozen (.pv (some 4) (rawP k n s es)) (.agg [(none,.pv none (.int .i64 k)),(none,.pv none (.int .i64 n)),(none,.pv none (.str s)),(none,.sl (some 4) r m 0 m)]) hp:=by
 subst hm;refine⟨hp.set r (.arr (some 4) es true),?_⟩;show(match AV.freeze (7+1) (.agg _) hp with|some (p,hp')=>some (AV.pv _ p,hp')|none=>none)=_;have e:∀l hp,AV.freeze (7+1) (.agg l) hp=match AV.freeze.go 7 l hp with|some (ps,hp')=>some (.agg ps,hp')|none=>none:=fun _ _=>rfl
 simp[e,AV.freeze.go,AV.freeze,h,rawP];rfl
theorem uQ(t:Tm)(hp:Heap)(hv:t.valid=true)(ht:t.size<1000000000):S 70 [t.av] hp=some (.ret t.av,hp):=by
 refine Ya rfl rfl rfl (z9 [(some 4,t.pv)]) rfl ?_;have h1:=fun hp=>xI t hp ht;have h2:=fun hp=>lw t hp ht;rw[hv] at h1;simp only[Tm.av] at h1 h2;simp -dsimp -implicitDefEqProofs only[go_sem,seval,↓reduceIte,Tm.av,h1,h2,z7 (Zd _)]
theorem uR{x:Int}:∀{l:List Int} {i:Nat},l[i]? =some x->(∀j,j<i->l[j]?≠some x)->l.idxOf x=i
 |[],_,h,_=>by simp at h
 |y::r,0,h,_=>by
  simp at h;simp[h]
 |y::r,i+1,h,hn=>by
  have h0:=hn 0 (by omega);have hy:¬y=x:=fun e=>h0 (by simp[e]);rw[List.idxOf_cons,beq_eq_false_iff_ne.2 hy];simp only[cond_false];rw[uR (l:=r) (i:=i) (by simpa using h) fun j hj=>by simpa using hn (j+1) (by omega)]
theorem lz(l:List Int)(x:Int)(hl:l.length<1000000000)(hm:x∈l)(hp:Heap):S 96 [.pv none (.sl none (ints l)),.pv none (.int .i64 x)] hp=some (.ret (.pv none (.int .i64 ((l.idxOf x:Nat):Int))),hp):=by
 refine Ya rfl rfl rfl (z9 [(none,.sl none (ints l)),(none,.int .i64 x)]) rfl ?_;simp -dsimp -implicitDefEqProofs only[go_sem,seval,↓reduceIte,yu];refine Yv (α:=Unit) l.length (fun i _=>∀j,j<i->l[j]?≠some x) (fun i _=>⟨[(0,.pv none (.sl none (ints l))),(1,.pv none (.int .i64 x)),(5,.pv none (.int .i64 i))],[]⟩) () ⟨fun j hj=>by omega,rfl⟩ ?_ ?_
 ·rintro i - h hinv;have hc:(i:Int)<(l.length:Int):=by omega
  obtain⟨b,hb⟩:∃b,l[i]? =some b:=⟨_,Zf h⟩;have w2:IntKind.i64.wrap ((i:Int)+1)=((i+1:Nat):Int):=by rw[Yf (by omega) (by omega)];omega
  by_cases hbx:b=x
  ·have hi:=uR (by rw[hb,hbx]) hinv;simp -dsimp -implicitDefEqProofs only[go_sem,seval,↓reduceIte,yu,hc,Yd (qT hb),hbx,hi]
  ·simp -dsimp -implicitDefEqProofs only[go_sem,seval,↓reduceIte,yu,hc,Yd (qT hb),hbx,w2];refine⟨(),fun j hj=> ?_⟩;rcases Zv j i with h|h
   ·exact hinv j h
   ·have:j=i:=by omega
    subst this;rw[hb];intro e;cases e;exact hbx rfl
 ·rintro - hinv;obtain⟨j,hlt,hj⟩:=List.getElem_of_mem hm;exact absurd (by rw[Zf hlt,hj]) (hinv j hlt)
def appR(t:Tm)(ts:List Tm)(i:Nat):Heap:=[.box (some 4) (.pv (some 4) t.pv),.box (some 4) (.agg [(none,.pv none (.int .i64 0)),(none,.pv none (.int .i64 0)),(none,.pv none (.str [])),(none,.sl (some 4) 2 0 0 0)]),.arr (some 4) [] false,.box (some 4) (.agg [(none,.pv none (.int .i64 t.kind)),(none,.pv none (.int .i64 t.n)),(none,.pv none (.str t.name)),(none,.sl (some 4) 5 i 0 i)]),.arr (some 4) [] false,.arr (some 4) (Tm.pvs (ts.take i)) false]
theorem lA(L:List Int)(hL:L.length<100000000):∀(t:Tm) (hp:Heap),t.fits=true->t.size<1000000000->(∀w∈t.occ,w∈L)->S 76 [.pv none (.sl none (ints L)),t.av] hp=some (.ret (Tm.sub (cPos L) t).av,hp):=by
 intro t
 induction t using Tm.zxd with
 |h t ih=>
  intro hp hf ht ho;have hts:=t.size_eq;have hlen:=Tm.zw9 t.args;refine Ya rfl rfl rfl (z9 [(none,.sl none (ints L)),(some 4,t.pv)]) rfl ?_;have hb:Yi A0 [0,1,2] [.pv none (.int .i64 t.kind),.pv none (.int .i64 t.n),.pv none (.str t.name)]=some (.agg [(none,.pv none (.int .i64 t.kind)),(none,.pv none (.int .i64 t.n)),(none,.pv none (.str t.name)),(none,.tsl (some 4) [])]):=rfl;by_cases hk:t.kind=0
  ·have hk':=Zo hk;have hm:t.n∈L:=ho _ (by rw[Tm.zxo,Zc hk];simp);have hpos:=fun hp=>lz L t.n (by omega) hm hp;have ha:t.args=[]:=by rw[qS hf hk];rfl
   have hnm:t.name=[]:=by rw[qS hf hk];rfl
   have e:Tm.sub (cPos L) t=tvar (L.idxOf t.n:Nat):=by rw[Tm.zxp,Zc hk];rfl
   rw[e];generalize ((L.idxOf t.n:Nat):Int)=k at hpos ⊢;simp -dsimp -implicitDefEqProofs only[go_sem,seval,↓reduceIte,Tm.av,Yo,yt,YJ,Yh,Tm.pvs_len,hk',hb,hpos,z7 (Zd _)];refine Yv (α:=Unit) 0 (fun _ _=>True) (fun i _=>⟨[(0,.pv none (.sl none (ints L))),(3,.ptr 0 0),(4,.ptr 1 0),(5,.ptr 3 0),(6,.pv none (.int .i64 i))],[.box (some 4) (.pv (some 4) t.pv),.box (some 4) (.agg [(none,.pv none (.int .i64 0)),(none,.pv none (.int .i64 0)),(none,.pv none (.str [])),(none,.sl (some 4) 2 0 0 0)]),.arr (some 4) [] false,.box (some 4) (.agg [(none,.pv none (.int .i64 t.kind)),(none,.pv none (.int .i64 k)),(none,.pv none (.str t.name)),(none,.sl (some 4) 5 0 0 0)]),.arr (some 4) [] false,.arr (some 4) [] false]⟩) () ⟨trivial,rfl⟩ ?_ ?_
   ·rintro i - h -;omega
   ·rintro - -;have hc:¬(0:Int)<(t.args.length:Int):=by rw[ha];simp
    simp -dsimp -implicitDefEqProofs only[go_sem,seval,↓reduceIte,Yh,Tm.pvs_len,hc,Xf,z7 (Zd _),Xm (Zd _)];rw[hk,hnm];exact uP _ _ _ [] _ rfl rfl
  ·have hk':=Zl hk;rw[L9 hk];obtain⟨ts',hts'⟩:∃ts',ts'=t.args.map (Tm.sub (cPos L)):=⟨_,rfl⟩;have htl:ts'.length=t.args.length:=by rw[hts',zx]
   rw[<-hts'];simp -dsimp -implicitDefEqProofs only[go_sem,seval,↓reduceIte,Tm.av,Yo,yt,YJ,Yh,Tm.pvs_len,hk',hb,z7 (Zd _)];refine Yv (α:=Unit) t.args.length (fun _ _=>True) (fun i _=>⟨[(0,.pv none (.sl none (ints L))),(3,.ptr 0 0),(4,.ptr 1 0),(5,.ptr 3 0),(6,.pv none (.int .i64 i))],appR t ts' i⟩) () ⟨trivial,rfl⟩ ?_ ?_
   ·rintro i - h -;have hc:(i:Int)<(t.args.length:Int):=by omega
    obtain⟨u,hu⟩:∃u,t.args[i]? =some u:=⟨_,Zf h⟩;have hum:=Zi hu;have husz:=Tm.zxa hum;have hcall:=fun hp=>ih u hum hp (Tm.zxe hf hum) (by omega) fun w hw=>ho w (Tm.zxA hk hum hw);simp only[Tm.av] at hcall;have w2:IntKind.i64.wrap ((i:Int)+1)=((i+1:Nat):Int):=by rw[Yf (by omega) (by omega)];omega
    have hl:(Tm.pvs (ts'.take i)).length=i:=by rw[Tm.pvs_len,Zh];omega
    have hlim:i+1<=lim:=by unfold lim;omega
    have hus:ts'[i]? =some (Tm.sub (cPos L) u):=by rw[hts'];simp[hu]
    simp -dsimp -implicitDefEqProofs only[go_sem,seval,↓reduceIte,appR,Yh,Tm.pvs_len,hc,Yd (Tm.pvs_get hu),hcall,w2,hl,hlim,Tm.zxc hus,z7 (Zd _),Xm (Zd _)];exact⟨(),rfl⟩
   ·rintro - -;have hc:¬(t.args.length:Int)<(t.args.length:Int):=by omega
    have htk:ts'.take t.args.length=ts':=Zq (by omega);simp -dsimp -implicitDefEqProofs only[go_sem,seval,↓reduceIte,appR,Yh,Tm.pvs_len,hc,htk,Xf,z7 (Zd _),Xm (Zd _)];exact uP _ _ _ (Tm.pvs ts') _ (by rw[Tm.pvs_len,htl]) rfl
theorem lB(t:Tm)(s:List UInt8)(n:Int)(hp:Heap):S 95 [t.av,.pv none (.str s),.pv none (.int .i64 n)] hp=some (.ret (.pv none (.bool (decide ((t.kind=2\/t.kind=3)/\t.name=s/\(t.args.length:Int)=n)))),hp):=by
 refine Ya rfl rfl rfl (z9 [(some 4,t.pv),(none,.str s),(none,.int .i64 n)]) rfl ?_;by_cases h2:t.kind=2
 ·have h2':=Zo h2;by_cases hn:t.name=s
  ·have hn':=Zo hn;simp -dsimp -implicitDefEqProofs only[go_sem,seval,↓reduceIte,Tm.av,Yo,YJ,Yh,Tm.pvs_len,h2',hn',true_or]
  ·have hn':=Zl hn;simp -dsimp -implicitDefEqProofs only[go_sem,seval,↓reduceIte,Tm.av,Yo,YJ,Yh,Tm.pvs_len,h2',hn',true_or]
 ·have h2':=Zl h2;by_cases h3:t.kind=3
  ·have h3':=Zo h3;by_cases hn:t.name=s
   ·have hn':=Zo hn;simp -dsimp -implicitDefEqProofs only[go_sem,seval,↓reduceIte,Tm.av,Yo,YJ,Yh,Tm.pvs_len,h2',h3',hn',false_or]
   ·have hn':=Zl hn;simp -dsimp -implicitDefEqProofs only[go_sem,seval,↓reduceIte,Tm.av,Yo,YJ,Yh,Tm.pvs_len,h2',h3',hn',false_or]
  ·have h3':=Zl h3;simp -dsimp -implicitDefEqProofs only[go_sem,seval,↓reduceIte,Tm.av,Yo,YJ,Yh,Tm.pvs_len,h2',h3',false_or]
theorem lC{t:Tm}(hf:t.fits=true)(s:List UInt8):((t.kind=2\/t.kind=3)/\t.name=s/\(t.args.length:Int)=2)↔(t.kind=3/\t.args.length=2/\t.name=s):=by
 constructor
 ·rintro⟨hk,hn,ha⟩;refine⟨?_,by omega,hn⟩;rcases hk with hk|hk
  ·rw[Tm.zxf,Zg] at hf;have h:=hf.1;unfold Tm.node at h;rw[hk] at h;simp at h;rw[h.2] at ha;simp at ha
  ·exact hk
 ·rintro⟨hk,ha,hn⟩;exact⟨.inr hk,hn,by omega⟩
theorem uT(t:Tm)(hf:t.fits=true)(hp:Heap):S 72 [t.av] hp=some (.ret (.pv none (.bool (decide (jn t)))),hp):=by
 refine Ya rfl rfl rfl (z9 [(some 4,t.pv)]) rfl ?_;have h1:=fun s hp=>lB t s 2 hp;simp only[lC hf,Tm.av] at h1;have e:decide (jn t)=(decide (t.kind=3/\t.args.length=2/\t.name=[44]) || (decide (t.kind=3/\t.args.length=2/\t.name=[59]) || decide (t.kind=3/\t.args.length=2/\t.name=[45,62]))):=by
  unfold jn;by_cases a:t.kind=3 <;> by_cases b:t.args.length=2 <;> simp[a,b]
 rw[e];have g1:=h1 [44];have g2:=h1 [59];have g3:=h1 [45,62];generalize decide (t.kind=3/\t.args.length=2/\t.name=[44])=x at g1;generalize decide (t.kind=3/\t.args.length=2/\t.name=[59])=y at g2;generalize decide (t.kind=3/\t.args.length=2/\t.name=[45,62])=z at g3;clear e h1;cases x
 ·cases y
  ·simp -dsimp -implicitDefEqProofs only[go_sem,seval,↓reduceIte,Tm.av,g1,g2,g3,Bool.false_or]
  ·simp -dsimp -implicitDefEqProofs only[go_sem,seval,↓reduceIte,Tm.av,g1,g2,g3,Bool.false_or,Bool.true_or]
 ·simp -dsimp -implicitDefEqProofs only[go_sem,seval,↓reduceIte,Tm.av,g1,g2,g3,Bool.true_or]
def rcF:Nat->Tm->Tm × Bool
 |0,_=>(zt,false)
 |n+1,t=>if t.kind=0 then(tstr Q2 [t],true) else if t.kind=1 then(zt,false) else if jn t then(match t.args with
   |[a,b]=>(tstr t.name [(rcF n a).1,(rcF n b).1],(rcF n a).2 && (rcF n b).2)
   |_=>(zt,false)) else(t,true)
theorem lD(t a b ga gb:Tm)(oa ob:Bool)(hab:t.args=[a,b])(hf:t.fits=true)(k0:¬t.kind=0)(k1:¬t.kind=1)(hjn:jn t)(h1:∀hp,S 44 [a.av] hp=some (.ret (.tuple [ga.av,.pv none (.bool oa)]),hp))(h2:∀hp,S 44 [b.av] hp=some (.ret (.tuple [gb.av,.pv none (.bool ob)]),hp))(hp:Heap):S 44 [t.av] hp=some (.ret (.tuple [(tstr t.name [ga,gb]).av,.pv none (.bool (oa && ob))]),hp):=by
 refine Ya rfl rfl rfl (z9 [(some 4,t.pv)]) rfl ?_;have k0':=Zl k0;have k1':=Zl k1;have hj:=fun hp=>uT t hf hp;rw[Zs hjn] at hj;have pa:PV.part deep t.pv 3 none=some (.sl (some 4) [a.pv,b.pv]):=by rw[Yh,hab];rfl
 have i0:Yl (some 4) [.pv none (.sl (some 4) [a.pv,b.pv]),.pv none (.int .i64 0)]=some (.iptr (some 4) a.pv 0):=rfl;have i1:Yl (some 4) [.pv none (.sl (some 4) [a.pv,b.pv]),.pv none (.int .i64 1)]=some (.iptr (some 4) b.pv 0):=rfl;have hb:Yi A0 [0,2,3] [.pv none (.int .i64 3),.pv none (.str t.name),.tsl (some 4) [ga.pv,gb.pv]]=some (cV t.name [ga.pv,gb.pv]):=rfl;have hst:=fun x0 v r=>jq x0 v r t.name ga.pv [gb.pv];simp only[Tm.av] at h1 h2 hj;cases oa
 ·simp -dsimp -implicitDefEqProofs only[go_sem,seval,↓reduceIte,Tm.av,Yo,YJ,k0',k1',hj,h1,h2,pa,i0,i1,hb,hst,z7 (Zd _)];exact⟨_,rfl⟩
 ·simp -dsimp -implicitDefEqProofs only[go_sem,seval,↓reduceIte,Tm.av,Yo,YJ,k0',k1',hj,h1,h2,pa,i0,i1,hb,hst,z7 (Zd _)];exact⟨_,rfl⟩
theorem uU:∀(n:Nat) (t:Tm),t.size<=n->t.valid=true->∀hp,S 44 [t.av] hp=some (.ret (.tuple [(rcF n t).1.av,.pv none (.bool (rcF n t).2)]),hp):=by
 intro n
 induction n with
 |zero=>
  intro t h;have:=t.size_eq;omega
 |succ n ih=>
  intro t hs hv hp;have hf:=valid_fits hv;have hts:=t.size_eq;have hsz:=Xb hv;rw[rcF];by_cases k0:t.kind=0
  ·rw[Zc k0];refine Ya rfl rfl rfl (z9 [(some 4,t.pv)]) rfl ?_;have k0':=Zo k0;have hb:Yi A0 [0,2,3] [.pv none (.int .i64 3),.pv none (.str [99,97,108,108]),.tsl (some 4) [t.pv]]=some (cV Q2 [t.pv]):=rfl;have hst:=fun x0 v r=>jq x0 v r Q2 t.pv [];simp -dsimp -implicitDefEqProofs only[go_sem,seval,↓reduceIte,Tm.av,Yo,k0',hb,hst,z7 (Zd _)];exact⟨_,rfl⟩
  have k0':=Zl k0;rw[Za k0];by_cases k1:t.kind=1
  ·rw[Zc k1];refine Ya rfl rfl rfl (z9 [(some 4,t.pv)]) rfl ?_;have k1':=Zo k1;have hb:Yi A0 [] []=some (.agg A0):=rfl;simp -dsimp -implicitDefEqProofs only[go_sem,seval,↓reduceIte,Tm.av,Yo,k0',k1',hb,z7 (Zd _)];exact⟨_,rfl⟩
  have k1':=Zl k1;rw[Za k1];by_cases hjn:jn t
  ·rw[Zc hjn];obtain⟨a,b,hab⟩:=jp hjn.2.1;have ha:a∈t.args:=by rw[hab];simp
   have hbm:b∈t.args:=by rw[hab];simp
   have z1:=Tm.zxa ha;have z2:=Tm.zxa hbm;rw[hab];exact lD t a b _ _ _ _ hab hf k0 k1 hjn (fun hp=>ih a (by omega) (jo hv ha) hp) (fun hp=>ih b (by omega) (jo hv hbm) hp) hp
  ·rw[Za hjn];refine Ya rfl rfl rfl (z9 [(some 4,t.pv)]) rfl ?_;have hj:=fun hp=>uT t hf hp;rw[ZL hjn] at hj;have hcl:=fun hp=>uQ t hp hv (by omega);simp only[Tm.av] at hj hcl;simp -dsimp -implicitDefEqProofs only[go_sem,seval,↓reduceIte,Tm.av,Yo,k0',k1',hj,hcl,z7 (Zd _)];exact⟨_,rfl⟩
theorem lE:∀(n:Nat) (t:Tm),(rcF n t).2=true->t.fits=true->cvF n t=some (rcF n t).1:=by
 intro n
 induction n with
 |zero=>intro t h;cases h
 |succ n ih=>
  intro t h hf;rw[rcF] at h ⊢;rw[cvF];by_cases k0:t.kind=0
  ·rw[Zc k0,Zc k0]
  rw[Za k0] at h ⊢;rw[Za k0];by_cases k1:t.kind=1
  ·rw[Zc k1] at h;cases h
  rw[Za k1] at h ⊢;by_cases hj:jn t
  ·rw[Zc hj] at h ⊢;rw[Zc hj];obtain⟨a,b,hab⟩:=jp hj.2.1;have fa:a.fits=true:=Tm.zxe hf (by rw[hab];simp);have fb:b.fits=true:=Tm.zxe hf (by rw[hab];simp);rw[hab] at h ⊢;simp only[Zg] at h ⊢;rw[ih a h.1 fa,ih b h.2 fb]
  ·rw[Za hj] at h ⊢;rw[Za hj];have hk:t.kind=2\/t.kind=3:=by
    rw[Tm.zxf,Zg] at hf;have hn:=hf.1;unfold Tm.node at hn;rw[Za k0,Za k1] at hn;by_cases k2:t.kind=2
    ·exact .inl k2
    ·rw[Za k2] at hn;by_cases k3:t.kind=3
     ·exact .inr k3
     ·rw[Za k3] at hn;cases hn
   rw[Zc hk]
theorem uV:∀(n:Nat) (t:Tm),(rcF n t).1.size<=2*t.size:=by
 intro n
 induction n with
 |zero=>
  intro t;have:=t.size_eq;show 1<=_;omega
 |succ n ih=>
  intro t;have hts:=t.size_eq;rw[rcF];split
  ·show 1+(t.size+0)<=_;omega
  ·split
   ·show 1<=_;omega
   ·split
    ·split
     ·rename_i a b hab;have h1:=ih a;have h2:=ih b;rw[hab] at hts;have e:Tm.sizes [a,b]=a.size+(b.size+0):=rfl;rw[e] at hts;show 1+((rcF n a).1.size+((rcF n b).1.size+0))<=_;omega
     ·show 1<=_;omega
    ·show t.size<=_;omega
theorem kH(l:List Tm)(hf:∀t∈l,t.fits=true)(hz:Tm.sizes l<50000000)(hp:Heap):S 47 [.pv none (.sl (some 4) (Tm.pvs l))] hp=some (.ret (.pv none (.sl none (ints (vads [] (Tm.occs l))))),hp):=by
 refine Ya rfl rfl rfl (z9 [(none,.sl (some 4) (Tm.pvs l))]) rfl ?_;have hlen:=Tm.zw9 l;have hn0:∀H:Heap,yJ none H=some (.sl none H.length 0 0 0,H++[.arr none [] false]):=fun H=>je (sh:=none) (by decide);simp -dsimp -implicitDefEqProofs only[go_sem,seval,↓reduceIte,hn0];refine Yv (α:=AV × Heap) l.length (fun i a=>IsV a.1 a.2 (vads [] (Tm.occs (l.take i)))) (fun i a=>⟨[(0,.pv none (.sl (some 4) (Tm.pvs l))),(3,a.1),(4,.pv none (.int .i64 i))],a.2⟩) (.sl none 1 0 0 0,[.arr none [] false,.arr none [] false]) ⟨.inr ⟨1,rfl,rfl⟩,rfl⟩ ?_ ?_
 ·rintro i ⟨s1,H⟩ h k1;dsimp only at k1;have hc:(i:Int)<(l.length:Int):=by omega
  obtain⟨u,hu⟩:∃u,l[i]? =some u:=⟨_,Zf h⟩;have hum:=Zi hu;have hst:=Tm.zxg hu;have hle:=Tm.zxb l (i+1);have hvl:=qU (Tm.occs (l.take i)) [];have hol:=Tm.zxm (l.take i);simp only[List.length_nil] at hvl;obtain⟨s2,H2,hcall,p1,p2,p3⟩:=L5 u s1 H _ k1 (hf u hum) (by omega);simp only[Tm.av] at hcall;have w2:IntKind.i64.wrap ((i:Int)+1)=((i+1:Nat):Int):=by rw[Yf (by omega) (by omega)];omega
  simp -dsimp -implicitDefEqProofs only[go_sem,seval,↓reduceIte,Tm.pvs_len,hc,Yd (Tm.pvs_get hu),hcall,w2];have hcc:=uD 2 0 [(0,.pv none (.sl (some 4) (Tm.pvs l))),(3,s2),(4,.pv none (.int .i64 ((i+1:Nat):Int)))] H2;refine⟨(s2,collect 2 0 [(0,.pv none (.sl (some 4) (Tm.pvs l))),(3,s2),(4,.pv none (.int .i64 ((i+1:Nat):Int)))] H2),?_,rfl⟩;generalize collect 2 0 [(0,.pv none (.sl (some 4) (Tm.pvs l))),(3,s2),(4,.pv none (.int .i64 ((i+1:Nat):Int)))] H2=HC at hcc;rw[Tm.zxi hu,Q3];rcases hcc with rfl|⟨rfl,hr⟩
  ·exact p1
  ·exact p1.take (hr (3,s2) (by simp))
 ·rintro⟨s1,H⟩ k1;dsimp only at k1;have hc:¬(l.length:Int)<(l.length:Int):=by omega
  rw[ZP] at k1;simp -dsimp -implicitDefEqProofs only[go_sem,seval,↓reduceIte,Tm.pvs_len,hc];exact L6 k1
theorem uW(l:List Tm)(hf:∀t∈l,t.fits=true)(hz:Tm.sizes l<50000000)(hp:Heap):S 49 [.pv none (.sl (some 4) (Tm.pvs l))] hp=some (.ret (.pv none (.sl (some 4) (Tm.pvs (l.map (Tm.sub (cPos (vads [] (Tm.occs l)))))))),hp):=by
 refine Ya rfl rfl rfl (z9 [(none,.sl (some 4) (Tm.pvs l))]) rfl ?_;have hlen:=Tm.zw9 l;have hn4:∀H:Heap,yJ (some 4) H=some (.sl (some 4) H.length 0 0 0,H++[.arr (some 4) [] false]):=fun H=>je (sh:=some 4) (by decide);have h1:=fun hp=>kH l hf hz hp;have hvl:=qU (Tm.occs l) [];have hol:=Tm.zxm l;simp only[List.length_nil] at hvl;have hnum:=fun(u:Tm) (hu:u∈l) hp=>lA (vads [] (Tm.occs l)) (by omega) u hp (hf u hu) (by have:=Tm.zxn hu;omega) fun w hw=>(L2 _ [] w).2 (.inr (Tm.zxw hu hw));generalize vads [] (Tm.occs l)=L at*;obtain⟨ts',hts'⟩:∃ts',ts'=l.map (Tm.sub (cPos L)):=⟨_,rfl⟩;have htl:ts'.length=l.length:=by rw[hts',zx]
 rw[<-hts'];simp -dsimp -implicitDefEqProofs only[go_sem,seval,↓reduceIte,hn4,h1];refine Yv (α:=Unit) l.length (fun _ _=>True) (fun i _=>⟨[(0,.pv none (.sl (some 4) (Tm.pvs l))),(3,.pv none (.sl none (ints L))),(4,.sl (some 4) 1 i 0 i),(5,.pv none (.int .i64 i))],[.arr (some 4) [] false,.arr (some 4) (Tm.pvs (ts'.take i)) false]⟩) () ⟨trivial,rfl⟩ ?_ ?_
 ·rintro i - h -;have hc:(i:Int)<(l.length:Int):=by omega
  obtain⟨u,hu⟩:∃u,l[i]? =some u:=⟨_,Zf h⟩;have hum:=Zi hu;have hcall:=fun hp=>hnum u hum hp;simp only[Tm.av] at hcall;have w2:IntKind.i64.wrap ((i:Int)+1)=((i+1:Nat):Int):=by rw[Yf (by omega) (by omega)];omega
  have hll:(Tm.pvs (ts'.take i)).length=i:=by rw[Tm.pvs_len,Zh];omega
  have hlim:i+1<=lim:=by unfold lim;omega
  have hus:ts'[i]? =some (Tm.sub (cPos L) u):=by rw[hts'];simp[hu]
  simp -dsimp -implicitDefEqProofs only[go_sem,seval,↓reduceIte,Tm.pvs_len,hc,Yd (Tm.pvs_get hu),hcall,w2,hll,hlim,Tm.zxc hus];exact⟨(),trivial⟩
 ·rintro - -;have hc:¬(l.length:Int)<(l.length:Int):=by omega
  have htk:ts'.take l.length=ts':=Zq (by omega);simp -dsimp -implicitDefEqProofs only[go_sem,seval,↓reduceIte,Tm.pvs_len,hc,htk];have hlp:(Tm.pvs ts').length=l.length:=by rw[Tm.pvs_len,htl]
  rw[UW (sh:=some 4) (hp:=[AObj.arr (some 4) [] false,AObj.arr (some 4) (Tm.pvs ts') false]) (r:=1) (n:=l.length) hlp];rfl
theorem uX(a a' b b':Tm)(z1:a.size<1000000000)(z2:a'.size<1000000000)(z3:b.size<1000000000)(z4:b'.size<1000000000)(hp:Heap):S 48 [.pv none (.sl (some 4) (Tm.pvs [a',b'])),.pv none (.sl (some 4) (Tm.pvs [a,b]))] hp=some (.ret (.pv none (.bool (same a' a && same b' b))),hp):=by
 refine Ya rfl rfl rfl (z9 [(none,.sl (some 4) (Tm.pvs [a',b'])),(none,.sl (some 4) (Tm.pvs [a,b]))]) rfl ?_;have h1:=fun hp=>Q1 a' a hp z2 z1;have h2:=fun hp=>Q1 b' b hp z4 z3;have e2:((2:Nat):Int)=2:=rfl;have e1:((1:Nat):Int)=1:=rfl;have e0:((0:Nat):Int)=0:=rfl;have p1:Tm.pvs [a',b']=[a'.pv,b'.pv]:=rfl;have p2:Tm.pvs [a,b]=[a.pv,b.pv]:=rfl;have hl:∀x y:PV,(([x,y]:List PV).length:Int)=2:=fun _ _=>rfl;simp only[Tm.av] at h1 h2;rw[p1,p2];simp -dsimp -implicitDefEqProofs only[go_sem,seval,↓reduceIte,hl,e2];refine Yv (α:=Unit) 2 (fun i _=>(0<i->same a' a=true)/\(1<i->same b' b=true)) (fun i _=>⟨[(0,.pv none (.sl (some 4) [a'.pv,b'.pv])),(1,.pv none (.sl (some 4) [a.pv,b.pv])),(5,.pv none (.int .i64 i))],[]⟩) () ⟨⟨by omega,by omega⟩,rfl⟩ ?_ ?_
 ·rintro i - h ⟨ha,hb⟩
  match i,h with
  |0,_=>
   have c2:(0:Int)<2:=by decide
   have w2:IntKind.i64.wrap ((0:Int)+1)=((0+1:Nat):Int):=by decide
   have i0:Yl (some 4) [.pv none (.sl (some 4) [a'.pv,b'.pv]),.pv none (.int .i64 0)]=some (.iptr (some 4) a'.pv 0):=rfl;have i1:Yl (some 4) [.pv none (.sl (some 4) [a.pv,b.pv]),.pv none (.int .i64 0)]=some (.iptr (some 4) a.pv 0):=rfl;cases hs:same a' a with
   |true=>
    rw[hs] at h1;simp -dsimp -implicitDefEqProofs only[go_sem,seval,↓reduceIte,hl,e2,e0,c2,w2,i0,i1,h1];exact⟨(),⟨fun _=>trivial,fun h=>absurd h (by decide)⟩,rfl⟩
   |false=>
    rw[hs] at h1;simp -dsimp -implicitDefEqProofs only[go_sem,seval,↓reduceIte,hl,e2,e0,c2,w2,i0,i1,h1]
    try exact⟨_,rfl⟩
  |1,_=>
   have h0:=ha (by omega);have c2:(1:Int)<2:=by decide
   have w2:IntKind.i64.wrap ((1:Int)+1)=((1+1:Nat):Int):=by decide
   have i0:Yl (some 4) [.pv none (.sl (some 4) [a'.pv,b'.pv]),.pv none (.int .i64 1)]=some (.iptr (some 4) b'.pv 0):=rfl;have i1:Yl (some 4) [.pv none (.sl (some 4) [a.pv,b.pv]),.pv none (.int .i64 1)]=some (.iptr (some 4) b.pv 0):=rfl;rw[h0];cases hs:same b' b with
   |true=>
    rw[hs] at h2;simp -dsimp -implicitDefEqProofs only[go_sem,seval,↓reduceIte,hl,e2,e1,c2,w2,i0,i1,h2]
    first|exact⟨(),⟨fun _=>trivial,fun _=>trivial⟩,rfl⟩|exact⟨(),fun _=>trivial,rfl⟩|exact⟨(),fun _=>trivial⟩
   |false=>
    rw[hs] at h2;simp -dsimp -implicitDefEqProofs only[go_sem,seval,↓reduceIte,hl,e2,e1,c2,w2,i0,i1,h2]
    try exact⟨_,rfl⟩
 ·rintro - ⟨ha,hb⟩;have h0:=ha (by omega);have h1':=hb (by omega);have c2:¬(2:Int)<2:=by decide
  rw[h0,h1'];simp -dsimp -implicitDefEqProofs only[go_sem,seval,↓reduceIte,hl,e2,c2]
  try exact⟨_,rfl⟩
theorem Q4{L:List Int}:∀t:Tm,t.fits=true->(Tm.sub (cPos L) t).size=t.size:=by
 intro t
 induction t using Tm.zxd with
 |h t ih=>
  intro hf;rw[Tm.zxp];by_cases hk:t.kind=0
  ·rw[Zc hk,qS hf hk];rfl
  ·rw[Za hk,Tm.size_eq,t.size_eq]
   congr 1
   have hargs:∀u∈t.args,(Tm.sub (cPos L) u).size=u.size:=fun u hu=>ih u hu (Tm.zxe hf hu);show Tm.sizes (t.args.map (Tm.sub (cPos L)))=_;generalize t.args=l at hargs;clear ih
   induction l with
   |nil=>rfl
   |cons x r ihl=>
    rw[Z3,Tm.sizes,Tm.sizes,hargs x ZV,ihl fun u hu=>hargs u (ZQ _ hu)]
theorem lF(c:Cz)(h1:c.head.size<100000000)(h2:c.body.size<100000000)(hp:Heap):S 66 [c.av] hp=some (.ret (.pv none (.bool (decide (c.head.size+c.body.size<=2000)))),hp):=by
 refine Ya rfl rfl rfl (z9 [(some 8,c.pv)]) rfl ?_;have a1:=fun hp=>jm c.head hp (by omega);have a2:=fun hp=>jm c.body hp (by omega);have w1:IntKind.i64.wrap (((min c.head.size 2001:Nat):Int)+((min c.body.size 2001:Nat):Int))=((min c.head.size 2001+min c.body.size 2001:Nat):Int):=by rw[Yf (by omega) (by omega)];omega
 simp only[Tm.av] at a1 a2;have e:decide (c.head.size+c.body.size<=2000)=decide (((min c.head.size 2001+min c.body.size 2001:Nat):Int)<=2000):=by
  rw[decide_eq_decide];omega
 rw[e];simp -dsimp -implicitDefEqProofs only[go_sem,seval,↓reduceIte,Cz.av,YX,YY,a1,a2,w1]
def okC(c:Cz):Bool:=c.head.valid && ((decide (c.head.kind=2) || decide (c.head.kind=3)) && (decide (c.head.size+c.body.size<=2000) && ((match yG c.body with|some g=>same g c.body|none=>false) && (decide (c.vars.length<=64) && (same c.can.head c.head && same c.can.body c.body)))))
theorem uY{t g:Tm}(h:yG t=some g):t.valid=true/\g.size<=2000:=by
 unfold yG at h;split at h
 ·rename_i hv;split at h
  ·split at h
   ·cases h
   ·cases h;exact⟨hv,by omega⟩
  ·cases h
 ·cases h
theorem xK(c:Cz)(z1:c.head.size<100000000)(z2:c.body.size<100000000)(hp:Heap):S 41 [c.av] hp=some (.ret (.pv none (.bool (okC c))),hp):=by
 refine Ya rfl rfl rfl (z9 [(some 8,c.pv)]) rfl ?_;have h1:=fun hp=>qQ c.head hp (by omega);have h2:=fun hp=>uC c.head hp;have h3:=fun hp=>lF c z1 z2 hp;have h4:=fun hp=>lu c.body z2 hp;simp only[Tm.av,Cz.av] at h1 h2 h3 h4;by_cases b1:c.head.valid=true
 rotate_left
 ·have b1':c.head.valid=false:=by simpa using b1
  have e:okC c=false:=by simp[okC,b1']
  rw[e];simp -dsimp -implicitDefEqProofs only[go_sem,seval,↓reduceIte,Cz.av,YX,YY,h1,b1']
  done
 cases b2:(decide (c.head.kind=2) || decide (c.head.kind=3)) with
 |false=>
  have e:okC c=false:=by simp only[okC,b2,Bool.false_and,Bool.and_false]
  rw[e];rw[b2] at h2;simp -dsimp -implicitDefEqProofs only[go_sem,seval,↓reduceIte,Cz.av,YX,YY,h1,b1,h2]
  done
 |true=>
 rw[b2] at h2;cases b3:decide (c.head.size+c.body.size<=2000) with
 |false=>
  have e:okC c=false:=by simp only[okC,b3,Bool.false_and,Bool.and_false]
  rw[e];rw[b3] at h3;simp -dsimp -implicitDefEqProofs only[go_sem,seval,↓reduceIte,Cz.av,YX,YY,h1,b1,h2,h3]
  done
 |true=>
 rw[b3] at h3;have b3':=zi b3;cases b4:yG c.body with
 |none=>
  have e:okC c=false:=by simp only[okC,b4,Bool.false_and,Bool.and_false]
  rw[e];rw[b4] at h4;simp only[Option.getD_none,zH,Tm.av] at h4;simp -dsimp -implicitDefEqProofs only[go_sem,seval,↓reduceIte,Cz.av,YX,YY,h1,b1,h2,h3,h4,z7 (Zd _)]
  done
 |some g=>
 obtain⟨vb,zg⟩:=uY b4;rw[b4] at h4;have h5:=fun hp=>kl g c.body hp (by omega) (by omega);have fh:=valid_fits b1;have fb:=valid_fits vb;have h6:=fun hp=>lj c fh fb (by omega) hp;have zh:c.can.head.size=c.head.size:=Q4 _ fh;have zb:c.can.body.size=c.body.size:=Q4 _ fb;have h7:=fun hp=>kl c.can.head c.head hp (by omega) (by omega);have h8:=fun hp=>kl c.can.body c.body hp (by omega) (by omega);simp only[Option.getD_some,Option.isSome_some,Tm.av,Cz.av] at h4 h5 h6 h7 h8;cases b5:same g c.body with
 |false=>
  have e:okC c=false:=by simp only[okC,b4,b5,Bool.false_and,Bool.and_false]
  rw[e];rw[b5] at h5;simp -dsimp -implicitDefEqProofs only[go_sem,seval,↓reduceIte,Cz.av,YX,YY,h1,b1,h2,h3,h4,h5,z7 (Zd _)]
  done
 |true=>
 rw[b5] at h5;have e:okC c=(decide (c.vars.length<=64) && (same c.can.head c.head && same c.can.body c.body)):=by simp only[okC,b1,b2,b3,b4,b5,Bool.true_and]
 rw[e];by_cases b6:c.vars.length<=64
 ·have b6':(c.vars.length:Int)<=64:=by omega
  cases b7:same c.can.head c.head with
  |false=>
   rw[b7] at h7;simp -dsimp -implicitDefEqProofs only[go_sem,seval,↓reduceIte,Cz.av,YX,YY,h1,b1,h2,h3,h4,h5,h6,h7,b6,b6',z7 (Zd _)]
   done
  |true=>
   rw[b7] at h7;simp -dsimp -implicitDefEqProofs only[go_sem,seval,↓reduceIte,Cz.av,YX,YY,h1,b1,h2,h3,h4,h5,h6,h7,h8,b6,b6',z7 (Zd _)]
   done
 ·have b6':¬(c.vars.length:Int)<=64:=by omega
  simp -dsimp -implicitDefEqProofs only[go_sem,seval,↓reduceIte,Cz.av,YX,YY,h1,b1,h2,h3,h4,h5,h6,b6,b6',z7 (Zd _)]
  done
end Go.Proofs.YtligpohiokpnhaaGreat
