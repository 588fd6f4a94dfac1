/- What is proved: the reference's Vars and Rename. -/
import Derived.Test.YtligpohiokpnhaaSml
set_option linter.unusedSimpArgs false
set_option linter.unusedVariables false
namespace Go.Proofs.Ytligpohiokpnhaa
open Go.Am
def ints(l:List Int):List PV:=l.map (.int .i64)
theorem zbn(l:List Int):(ints l).length=l.length:=by simp[ints]
theorem zfP{l:List Int}{i:Nat}{x:Int}(h:l[i]? =some x):(ints l)[i]? =some (.int .i64 x):=by simp[ints,h]
theorem zlf(l:List Int)(x:Int)(hl:l.length<1000000000)(hp:Heap):∃y:Int,(∀hp,S 72 [.pv none (.sl none (ints l)),.pv none (.int .i64 x)] hp=some (.ret (.pv none (.int .i64 y)),hp))/\(y<0↔x ∉ l):=by
 obtain⟨v,h1,y,rfl,h2⟩:=zld (F:=find tab) (prim:=prim) (f:=72) (ps:=[(none,.sl none (ints l)),(none,.int .i64 x)]) (args:=[.pv none (.sl none (ints l)),.pv none (.int .i64 x)]) (fun v=>∃y:Int,v=.pv none (.int .i64 y)/\(y<0↔x ∉ l)) rfl rfl rfl (fun hp=>rfl) rfl (by
  simp -dsimp -implicitDefEqProofs only[go_sem,seval,↓reduceIte,zbn]
  refine zcj (α:=Unit) l.length (fun i _=>∀j,j<i->l[j]?≠some x) (fun i _=>⟨[(0,.pv none (.sl none (ints l))),(1,.pv none (.int .i64 x)),(5,.pv none (.int .i64 i))],[]⟩) () ⟨fun j hj=>by omega,rfl⟩ ?_ ?_
  ·rintro i - h hinv
   have hc:(i:Int)<(l.length:Int):=by omega
   obtain⟨b,hb⟩:∃b,l[i]? =some b:=⟨_,List.getElem?_eq_getElem h⟩
   have w2:IntKind.i64.wrap ((i:Int)+1)=((i+1:Nat):Int):=by rw[zaF (by omega) (by omega)];omega
   by_cases hbx:b=x
   ·simp -dsimp -implicitDefEqProofs only[go_sem,seval,↓reduceIte,zbn,hc,zai (zfP hb),hbx]
    refine⟨_,rfl,i,rfl,?_⟩
    have:x∈l:=by rw[<-hbx];exact List.mem_of_getElem? hb
    constructor
    ·intro h;omega
    ·intro h;exact absurd this h
   ·simp -dsimp -implicitDefEqProofs only[go_sem,seval,↓reduceIte,zbn,hc,zai (zfP hb),hbx,w2]
    refine⟨(),fun j hj=> ?_⟩
    rcases Nat.lt_or_ge j i with h|h
    ·exact hinv j h
    ·have:j=i:=by omega
     subst this
     rw[hb]
     intro e
     cases e
     exact hbx rfl
  ·rintro - hinv
   have hc:¬(l.length:Int)<(l.length:Int):=by omega
   simp -dsimp -implicitDefEqProofs only[go_sem,seval,↓reduceIte,zbn,hc]
   refine⟨_,rfl,-1,rfl,?_⟩
   constructor
   ·intro _ hm
    obtain⟨j,hlt,hj⟩:=List.getElem_of_mem hm
    exact hinv j hlt (by rw[List.getElem?_eq_getElem hlt,hj])
   ·intro _;omega)
 exact⟨y,h1,h2⟩
def vadd(s:List Int)(w:Int):List Int:=if w∈s then s else s++[w]
def vads(s:List Int)(ws:List Int):List Int:=ws.foldl vadd s
theorem zd1(s a b:List Int):vads s (a++b)=vads (vads s a) b:=by simp[vads]
theorem zeW(ws:List Int):∀s:List Int,(vads s ws).length<=s.length+ws.length:=by
 induction ws with
 |nil=>intro s;simp[vads]
 |cons w r ih=>
  intro s
  have:=ih (vadd s w)
  have h2:(vadd s w).length<=s.length+1:=by unfold vadd;split <;> simp
  simp only[vads,List.foldl_cons,List.length_cons] at this ⊢
  omega
theorem zrK(ws:List Int):∀(s:List Int) (x:Int),x∈vads s ws↔x∈s\/x∈ws:=by
 induction ws with
 |nil=>intro s x;simp[vads]
 |cons w r ih=>
  intro s x
  have:=ih (vadd s w) x
  simp only[vads,List.foldl_cons] at this ⊢
  rw[this]
  unfold vadd
  split
  ·rename_i h
   simp only[List.mem_cons]
   constructor
   ·rintro(h1|h1) <;> simp[h1]
   ·rintro(h1|rfl|h1)
    ·exact .inl h1
    ·exact .inl h
    ·exact .inr h1
  ·simp only[List.mem_append,List.mem_cons,List.not_mem_nil,or_false]
   constructor
   ·rintro((h1|h1)|h1) <;> simp[h1]
   ·rintro(h1|h1|h1) <;> simp[h1]
def IsV(s:AV)(hp:Heap)(l:List Int):Prop:=(s=.tsl none []/\l=[])\/∃r,s=.sl none r l.length 0 l.length/\hp[r]? =some (.arr none (ints l) false)
def PresV(s:AV)(hp hp':Heap):Prop:=hp.length<=hp'.length/\∀(i:Nat) (x:AObj),hp[i]? =some x->(∀v o n,s≠.sl none i v o n)->hp'[i]? =some x
def OwnV(s:AV)(hp:Heap)(s':AV):Prop:=∀r v o n,s'=.sl none r v o n->(∃v o n,s=.sl none r v o n)\/hp.length<=r
theorem PresV.refl(s:AV)(hp:Heap):PresV s hp hp:=⟨Nat.le_refl _,fun _ _ h _=>h⟩
theorem OwnV.refl(s:AV)(hp:Heap):OwnV s hp s:=fun r v o n h=>.inl ⟨v,o,n,h⟩
theorem IsV.more{s:AV}{hp:Heap}{l:List Int}(h:IsV s hp l)(e:Heap):IsV s (hp++e) l:=by
 rcases h with h|⟨r,h1,h2⟩
 ·exact .inl h
 ·exact .inr ⟨r,h1,by rw[List.getElem?_append_left (zdF h2)];exact h2⟩
theorem IsV.not_box{s:AV}{hp:Heap}{l:List Int}(h:IsV s hp l){i:Nat}{sh:Sh}{v:AV}(hi:hp[i]? =some (.box sh v)):∀v o n,s≠.sl none i v o n:=by
 rcases h with⟨rfl,_⟩|⟨r,rfl,h2⟩
 ·intro v o n e;cases e
 ·intro v o n e;cases e;rw[hi] at h2;cases h2
theorem OwnV.trans{s s1 s2:AV}{hp hp1:Heap}(h1:OwnV s hp s1)(hl:hp.length<=hp1.length)(h2:OwnV s1 hp1 s2):OwnV s hp s2:=fun r v o n e=>by
 rcases h2 r v o n e with⟨v',o',n',e'⟩|h
 ·exact h1 r v' o' n' e'
 ·exact .inr (by omega)
theorem PresV.trans{s s1:AV}{hp hp1 hp2:Heap}(h1:PresV s hp hp1)(ho:OwnV s hp s1)(h2:PresV s1 hp1 hp2):PresV s hp hp2:=
 ⟨Nat.le_trans h1.1 h2.1,fun i x hx hne=>h2.2 i x (h1.2 i x hx hne) fun v o n e=>by
  rcases ho i v o n e with⟨v',o',n',e'⟩|h
  ·exact hne v' o' n' e'
  ·have:=zdF hx;omega⟩
theorem PresV.take{s:AV}{hp hp1:Heap}{n:Nat}(h:PresV s hp hp1)(hn:hp.length<=n):PresV s hp (hp1.take n):=
 ⟨by rw[List.length_take];have:=h.1;omega,fun i x hx hne=>by
  have:=zdF hx
  rw[List.getElem?_take,if_pos (by omega)]
  exact h.2 i x hx hne⟩
theorem PresV.less{s:AV}{hp e hp1:Heap}(h:PresV s (hp++e) hp1):PresV s hp hp1:=
 ⟨by have:=h.1;simp at this;omega,fun i x hx hne=>h.2 i x (by rw[List.getElem?_append_left (zdF hx)];exact hx) hne⟩
theorem OwnV.less{s s':AV}{hp e:Heap}(h:OwnV s (hp++e) s'):OwnV s hp s':=fun r v o n h1=>by
 rcases h r v o n h1 with h|h
 ·exact .inl h
 ·exact .inr (by simp at h;omega)
theorem IsV.take{s:AV}{hp:Heap}{l:List Int}{n:Nat}(h:IsV s hp l)(hr:∀q∈s.refsIn,q<n):IsV s (hp.take n) l:=by
 rcases h with h|⟨r,rfl,h2⟩
 ·exact .inl h
 ·have:r<n:=hr r (by simp[AV.refsIn])
  exact .inr ⟨r,rfl,by rw[List.getElem?_take,if_pos this];exact h2⟩
theorem IsV.freeze{s:AV}{hp:Heap}{l:List Int}(h:IsV s hp l):∃hp1,AV.freeze deep s hp=some (.sl none (ints l),hp1)/\s.shp=none/\s.plain=true:=by
 rcases h with⟨rfl,rfl⟩|⟨r,rfl,h⟩
 ·exact⟨hp,rfl,rfl,rfl⟩
 ·exact⟨hp.set r (.arr none (ints l) true),by simp[AV.freeze,deep,h,zbn],rfl,rfl⟩
theorem zsV{s:AV}{hp:Heap}{l:List Int}(h:IsV s hp l)(x:Int)(hl:l.length<1000000000):∃s' H',zbe none hp [s,.tsl none [.int .i64 x]]=some (s',H')/\IsV s' H' (l++[x])/\PresV s hp H'/\OwnV s hp s':=by
 have hlim:l.length+1<=lim:=by unfold lim;omega
 rcases h with⟨rfl,rfl⟩|⟨r,rfl,h⟩
 ·refine⟨_,_,rfl,.inr ⟨hp.length,rfl,?_⟩,⟨by simp,fun i x hx _=>by rw[List.getElem?_append_left (zdF hx)];exact hx⟩,fun r v o n e=>by cases e;exact .inr (Nat.le_refl _)⟩
  rw[List.getElem?_append_right (Nat.le_refl _),Nat.sub_self]
  rfl
 ·have hlt:=zdF h
  refine⟨.sl none r (l.length+1) 0 (l.length+1),hp.set r (.arr none (ints (l++[x])) false),?_,.inr ⟨r,by simp,by rw[List.getElem?_set_self hlt]⟩,⟨by simp,fun i x hx hne=> ?_⟩,fun r v o n e=>by cases e;exact .inl ⟨_,_,_,rfl⟩⟩
  ·simp[zbe,aappend,elems,h,zbn,hlim]
   simp[ints]
  ·have:i≠r:=fun e=>hne _ _ _ (by rw[e])
   rw[List.getElem?_set_ne (Ne.symm this)]
   exact hx
theorem znv{s:AV}{hp:Heap}{l:List Int}(h:IsV s hp l)(x:Int)(hl:l.length<1000000000):∃y:Int,S 72 [s,.pv none (.int .i64 x)] hp=some (.ret (.pv none (.int .i64 y)),hp)/\(y<0↔x ∉ l):=by
 obtain⟨y,h1,h2⟩:=zlf l x hl hp
 obtain⟨hp1,z1,z2,_⟩:=h.freeze
 refine⟨y,?_,h2⟩
 have:=zcL (F:=find tab) (prim:=prim) (f:=72) (args:=[s,.pv none (.int .i64 x)]) (ps:=[(none,.sl none (ints l)),(none,.int .i64 x)]) (hp:=hp) (hp1:=hp1) rfl rfl rfl (by
  have e:∀H:Heap,AV.freeze deep (.pv none (.int .i64 x)) H=some (.int .i64 x,H):=fun _=>rfl
  simp only[zaq,z1,e,z2];rfl) (h1 [])
 exact this
theorem zit{s s1:AV}{hp e H:Heap}{l:List Int}(h1:IsV s1 H l)(h2:PresV s (hp++e) H)(h3:OwnV s (hp++e) s1):
  IsV s1 (if s1.refsIn.all (fun q=>decide (q<hp.length))=true then H.take hp.length else H) l/\PresV s hp (if s1.refsIn.all (fun q=>decide (q<hp.length))=true then H.take hp.length else H)/\OwnV s hp s1:=by
 refine⟨?_,?_,h3.less⟩
 ·split
  ·rename_i hr
   exact h1.take fun q hq=>by simpa using List.all_eq_true.1 hr q hq
  ·exact h1
 ·split
  ·exact h2.less.take (Nat.le_refl _)
  ·exact h2.less
theorem zgA(t:Tm)(ih:∀u∈t.args,∀(s:AV) (hp:Heap) (l:List Int),IsV s hp l->u.fits=true->l.length+u.size<100000000->∃s' hp',S 49 [s,u.av] hp=some (.ret s',hp')/\IsV s' hp' (vads l u.occ)/\PresV s hp hp'/\OwnV s hp s')
  (s:AV)(H0:Heap)(n0 b:Nat)(l:List Int)(hB:IsV s H0 l)(h1:H0[n0]? =some (.box (some 4) (.pv (some 4) t.pv)))(hf:t.fits=true)(hl:l.length+Tm.sizes t.args<100000000)(Q:AExit->St->Prop)
  (hQ:∀(s1:AV) (H:Heap) (r:Fr),IsV s1 H (vads l (Tm.occs t.args))->PresV s H0 H->OwnV s H0 s1->Q .normal ⟨(0,s1)::r,H⟩):
  W Z L b c49k11 ⟨[(0,s),(3,.ptr n0 0),(5,.pv none (.int .i64 0))],H0⟩ Q:=by
 have hts:=t.size_eq
 have hlen:=Tm.zt2 t.args
 have nb1:=hB.not_box h1
 simp -dsimp -implicitDefEqProofs only[c49b10,c49k11,go_sem,seval,↓reduceIte]
 refine zcj (α:=AV × Heap) t.args.length (fun i a=>IsV a.1 a.2 (vads l (Tm.occs (t.args.take i)))/\PresV s H0 a.2/\OwnV s H0 a.1)
  (fun i a=>⟨[(0,a.1),(3,.ptr n0 0),(5,.pv none (.int .i64 i))],a.2⟩) (s,H0) ⟨⟨hB,PresV.refl _ _,OwnV.refl _ _⟩,rfl⟩ ?_ ?_
 ·rintro i ⟨s1,H⟩ h ⟨k1,k2,k3⟩
  dsimp only at k1 k2 k3
  have hc:(i:Int)<(t.args.length:Int):=by omega
  have b1:=k2.2 n0 _ h1 nb1
  obtain⟨u,hu⟩:∃u,t.args[i]? =some u:=⟨_,List.getElem?_eq_getElem h⟩
  have hum:=List.mem_of_getElem? hu
  have hst:=Tm.zt8 hu
  have hle:=Tm.zt4 t.args (i+1)
  have hvl:=zeW (Tm.occs (t.args.take i)) l
  have hol:=Tm.zuf (t.args.take i)
  obtain⟨s2,H2,hcall,p1,p2,p3⟩:=ih u hum s1 H _ k1 (Tm.zt7 hf hum) (by omega)
  simp only[Tm.av] at hcall
  have w2:IntKind.i64.wrap ((i:Int)+1)=((i+1:Nat):Int):=by rw[zaF (by omega) (by omega)];omega
  simp -dsimp -implicitDefEqProofs only[c49b10,c49k11,go_sem,seval,↓reduceIte,zak,Tm.pvs_len,hc,b1,zai (Tm.pvs_get hu),hcall,w2]
  have hcc:=zeT H0.length b [(0,s2),(3,.ptr n0 0),(5,.pv none (.int .i64 ((i+1:Nat):Int)))] H2
  refine⟨(s2,collect H0.length b [(0,s2),(3,.ptr n0 0),(5,.pv none (.int .i64 ((i+1:Nat):Int)))] H2),?_,rfl⟩
  generalize collect H0.length b [(0,s2),(3,.ptr n0 0),(5,.pv none (.int .i64 ((i+1:Nat):Int)))] H2=HC at hcc
  have q1:=k2.trans k3 p2
  have q2:=k3.trans k2.1 p3
  rw[Tm.zub hu,zd1]
  rcases hcc with rfl|⟨rfl,hr⟩
  ·exact⟨p1,q1,q2⟩
  ·exact⟨p1.take (hr (0,s2) (by simp)),q1.take (Nat.le_refl _),q2⟩
 ·rintro⟨s1,H⟩ ⟨k1,k2,k3⟩
  dsimp only at k1 k2 k3
  have hc:¬(t.args.length:Int)<(t.args.length:Int):=by omega
  have b1:=k2.2 n0 _ h1 nb1
  rw[List.take_length] at k1
  simp -dsimp -implicitDefEqProofs only[c49b10,c49k11,go_sem,seval,↓reduceIte,zak,Tm.pvs_len,hc,b1]
  exact hQ s1 H _ k1 k2 k3
theorem zrL:∀(t:Tm) (s:AV) (hp:Heap) (l:List Int),IsV s hp l->t.fits=true->l.length+t.size<100000000->∃s' hp',S 49 [s,t.av] hp=some (.ret s',hp')/\IsV s' hp' (vads l t.occ)/\PresV s hp hp'/\OwnV s hp s':=by
 intro t
 induction t using Tm.zt6 with
 |h t ih=>
  intro s hp l hB hf ht
  have hts:=t.size_eq
  have hn0:∀H:Heap,zcr none H=some (.sl none H.length 0 0 0,H++[.arr none [] false]):=fun H=>zkU (sh:=none) (by decide)
  have hB1:=hB.more [.box (some 4) (.pv (some 4) t.pv),.arr none [] false]
  obtain⟨y,hpos,hy⟩:=znv hB1 t.n (by omega)
  refine zle (fun v hp'=>IsV v hp' (vads l t.occ)/\PresV s hp hp'/\OwnV s hp v) rfl rfl rfl rfl ?_
  have hbox:(hp++([.box (some 4) (.pv (some 4) t.pv),.arr none [] false]:Heap))[hp.length]? =some (.box (some 4) (.pv (some 4) t.pv)):=by rw[zac];rfl
  rw[Tm.zuh]
  by_cases hk:t.kind=0
  ·rw[if_pos hk]
   have ha:t.args=[]:=by rw[zeS hf hk];rfl
   by_cases hm:t.n∈l
   ·have e:vads l [t.n]=l:=by simp[vads,vadd,hm]
    have hy':¬y<0:=fun h=>hy.1 h hm
    rw[e]
    simp -dsimp -implicitDefEqProofs only[go_sem,seval,↓reduceIte,Tm.av,zao,zbS,zak,hk,hn0,hpos,hy',List.append_assoc,zae,zac,zaf,zad,Nat.add_assoc,List.length_append]
    refine zgA t ih s _ hp.length hp.length l hB1 hbox hf (by omega) _ fun s1 H r k1 k2 k3=> ?_
    rw[ha] at k1
    simp -dsimp -implicitDefEqProofs only[go_sem,seval,↓reduceIte]
    exact zit k1 k2 k3
   ·have e:vads l [t.n]=l++[t.n]:=by simp[vads,vadd,hm]
    have hy':y<0:=hy.2 hm
    rw[e]
    obtain⟨s1,H1,happ,k1,k2,k3⟩:=zsV hB1 t.n (by omega)
    have b1:=k2.2 hp.length _ hbox (hB1.not_box hbox)
    simp -dsimp -implicitDefEqProofs only[go_sem,seval,↓reduceIte,Tm.av,zao,zbS,zak,hk,hn0,hpos,hy',happ,List.append_assoc,zae,zac,zaf,zad,Nat.add_assoc,List.length_append]
    refine zgA t ih s1 _ hp.length hp.length _ k1 b1 hf (by rw[List.length_append,List.length_singleton];omega) _ fun s2 H r j1 j2 j3=> ?_
    rw[ha] at j1
    simp -dsimp -implicitDefEqProofs only[go_sem,seval,↓reduceIte]
    exact zit j1 (k2.trans k3 j2) (k3.trans k2.1 j3)
  ·rw[if_neg hk]
   simp -dsimp -implicitDefEqProofs only[go_sem,seval,↓reduceIte,Tm.av,zao,zbS,zak,hk,hn0,List.append_assoc,zae,zac,zaf,zad,Nat.add_assoc,List.length_append]
   refine zgA t ih s _ hp.length hp.length l hB1 hbox hf (by omega) _ fun s1 H r k1 k2 k3=> ?_
   simp -dsimp -implicitDefEqProofs only[go_sem,seval,↓reduceIte]
   exact zit k1 k2 k3
theorem znw{s:AV}{H:Heap}{l:List Int}(h:IsV s H l):Am.frozen (.pv none (.sl none (ints l))) s H:=by
 rcases h with⟨rfl,rfl⟩|⟨r,rfl,h⟩
 ·exact⟨H,rfl⟩
 ·exact⟨H.set r (.arr none (ints l) true),by simp[AV.freezeRes,AV.freeze,deep,h,zbn,AV.shp]⟩
def zdl(v:Int):List (Int × PV)->Option PV
 |[]=>none
 |x::r=>if x.1=v then some x.2 else zdl v r
def mPut(v:Int)(p:PV):List (Int × PV)->List (Int × PV)
 |[]=>[(v,p)]
 |x::r=>if x.1=v then(v,p)::r else x::mPut v p r
def zbI(m:List (Int × PV)):List (PV × PV):=m.map fun x=>(.int .i64 x.1,x.2)
theorem zfk(v:Int):∀m,afind false (.int .i64 v) (zbI m)=some (zdl v m)
 |[]=>rfl
 |x::r=>by
  have ih:=zfk v r
  unfold zbI at ih ⊢
  simp only[List.map_cons,afind,PV.same,if_true,zdl]
  by_cases h:x.1=v
  ·simp[h]
  ·have h':¬v=x.1:=fun e=>h e.symm
   simp only[decide_eq_false h',if_neg h]
   exact ih
theorem zeR(v:Int)(p:PV):∀m,aput false (.int .i64 v) p (zbI m)=some (zbI (mPut v p m))
 |[]=>rfl
 |x::r=>by
  have ih:=zeR v p r
  unfold zbI at ih ⊢
  simp only[List.map_cons,aput,PV.same,if_true,mPut]
  by_cases h:x.1=v
  ·simp[h]
  ·have h':¬v=x.1:=fun e=>h e.symm
   simp only[decide_eq_false h',if_neg h,List.map_cons]
   rw[ih]
theorem zgx(v w:Int)(p:PV):∀m,zdl v (mPut w p m)=if v=w then some p else zdl v m
 |[]=>by
  by_cases h:v=w
  ·simp[mPut,zdl,h]
  ·have h':¬w=v:=fun e=>h e.symm
   simp[mPut,zdl,h,h']
 |x::r=>by
  have ih:=zgx v w p r
  unfold mPut
  by_cases h:x.1=w
  ·rw[if_pos h]
   by_cases e:v=w
   ·simp[zdl,e]
   ·have e':¬w=v:=fun q=>e q.symm
    have e2:¬x.1=v:=fun q=>e (q.symm.trans h)
    simp[zdl,e,e',e2]
  ·rw[if_neg h]
   simp only[zdl,ih]
   by_cases e:x.1=v
   ·have e2:¬v=w:=fun q=>h (e.trans q)
    simp[e,e2]
   ·simp[e]
def posF:Nat->List Int->List (Int × PV)
 |_,[]=>[]
 |k,x::r=>(x,.int .i64 (k:Int))::posF (k+1) r
theorem zif:∀(l:List Int) (k:Nat),(posF k l).length=l.length
 |[],_=>rfl
 |x::r,k=>by rw[posF,List.length_cons,zif r];rfl
theorem zgs(v:Int):∀(l:List Int) (k:Nat),zdl v (posF k l)=if v∈l then some (.int .i64 ((k+l.idxOf v:Nat):Int)) else none
 |[],_=>rfl
 |x::r,k=>by
  rw[posF,zdl,zgs v r]
  by_cases h:x=v
  ·subst h
   simp
  ·have h':¬v=x:=fun e=>h e.symm
   simp only[if_neg h,List.mem_cons,h',false_or]
   rw[List.idxOf_cons]
   have hb:(x == v)=false:=by simpa using h
   rw[hb]
   simp only[cond_false]
   split
   ·congr 2
    omega
   ·rfl
theorem zlS(v:Int):∀(l:List Int) (k:Nat),v ∉ l->mPut v (.int .i64 ((k+l.length:Nat):Int)) (posF k l)=posF k (l++[v])
 |[],k,_=>rfl
 |x::r,k,h=>by
  have h':¬x=v:=fun e=>h (by rw[e];exact List.mem_cons_self)
  have ih:=zlS v r (k+1) fun hm=>h (List.mem_cons_of_mem _ hm)
  rw[posF,mPut,if_neg h',List.cons_append,posF,<-ih,List.length_cons]
  congr 4
  omega
theorem zpz{v:Int}:∀{l L:List Int},v∈l->l <+: L->L.idxOf v=l.idxOf v
 |[],_,h,_=>by cases h
 |x::r,L,h,hp=>by
  obtain⟨m,rfl⟩:=hp
  rw[List.cons_append,List.idxOf_cons,List.idxOf_cons]
  cases hb:x == v with
  |true=>rfl
  |false=>
   simp only[cond_false]
   have hx:¬x=v:=by simpa using hb
   have hm:v∈r:=(List.mem_cons.1 h).resolve_left fun e=>hx e.symm
   rw[zpz hm ⟨m,rfl⟩]
theorem zlT{v:Int}:∀{l:List Int},v ∉ l->(l++[v]).idxOf v=l.length
 |[],_=>by simp[List.idxOf_cons]
 |x::r,h=>by
  have h':¬x=v:=fun e=>h (by rw[e];exact List.mem_cons_self)
  rw[List.cons_append,List.idxOf_cons,beq_eq_false_iff_ne.2 h',List.length_cons]
  simp only[cond_false]
  rw[zlT fun hm=>h (List.mem_cons_of_mem _ hm)]
theorem zrl(l:List Int)(v:Int):l <+: vadd l v:=by
 unfold vadd
 split
 ·exact List.prefix_refl _
 ·exact List.prefix_append _ _
theorem zig:∀(ws l:List Int),l <+: vads l ws
 |[],l=>List.prefix_refl _
 |w::r,l=>(zrl l w).trans (zig r (vadd l w))
def cPos(L:List Int)(v:Int):Tm:=tvar (L.idxOf v:Int)
theorem zrm(l:List Int)(v:Int):v∈vadd l v:=by
 unfold vadd
 split
 ·assumption
 ·simp
theorem zk4{L:List Int}{t:Tm}(hk:¬t.kind=0):Tm.sub (cPos L) t=.mk t.kind t.n t.name (t.args.map (Tm.sub (cPos L))):=by
 rw[Tm.zui,if_neg hk]
theorem zty{m:List (Int × PV)}{hp:Heap}{r:Nat}{s:Sh}{v:Int}(h:hp[r]? =some (.map none (zbI m))):za8 false none (.pv none (.int .i64 0)) true hp [.map r,.pv s (.int .i64 v)]=some (match zdl v m with|some x=>.tuple [.pv none x,.pv none (.bool true)]|none=>.tuple [.pv none (.int .i64 0),.pv none (.bool false)]):=by
 have hf:=zfk v m
 cases hm:zdl v m with
 |none=>rw[hm] at hf;exact zeL h hf
 |some x=>rw[hm] at hf;exact zeK h hf
def appC(n:Nat)(t:Tm)(ts:List Tm)(i:Nat):Heap:=[.box (some 4) (.pv (some 4) t.pv),.box (some 4) (.agg [(none,.pv none (.int .i64 0)),(none,.pv none (.int .i64 0)),(none,.pv none (.str [])),(none,.sl (some 4) (n+2) 0 0 0)]),.arr (some 4) [] false,.box (some 4) (.agg [(none,.pv none (.int .i64 t.kind)),(none,.pv none (.int .i64 t.n)),(none,.pv none (.str t.name)),(none,.sl (some 4) (n+5) i 0 i)]),.arr (some 4) [] false,.arr (some 4) (Tm.pvs (ts.take i)) false]
theorem zrC(a b:List Tm):Tm.occs (a++b)=Tm.occs a++Tm.occs b:=by
 induction a with
 |nil=>rfl
 |cons x r ih=>rw[List.cons_append,Tm.occs,Tm.occs,ih,List.append_assoc]
def sgg(u:Tm)(q:Nat):AV:=.agg [(none,.pv none (.int .i64 u.kind)),(none,.pv none (.int .i64 u.n)),(none,.pv none (.str u.name)),(none,.sl (some 4) q u.args.length 0 u.args.length)]
theorem znr{u:Tm}{q:Nat}{H:Heap}{z:Bool}(h:H[q]? =some (.arr (some 4) (Tm.pvs u.args) z)):AV.freeze deep (sgg u q) H=some (u.pv,H.set q (.arr (some 4) (Tm.pvs u.args) true)):=by
 have e:∀l hp,AV.freeze (7+1) (.agg l) hp=match AV.freeze.go 7 l hp with|some (ps,hp')=>some (.agg ps,hp')|none=>none:=fun _ _=>rfl
 show AV.freeze (7+1) (.agg _) _=_
 simp[e,AV.freeze.go,AV.freeze,h,Tm.pvs_len]
 cases u
 rfl
def CopR(v:AV)(u:Tm)(n:Nat)(H:Heap):Prop:=v=.pv (some 4) u.pv\/∃q z,n<=q/\v=sgg u q/\H[q]? =some (.arr (some 4) (Tm.pvs u.args) z)
theorem CopR.shp{v:AV}{u:Tm}{n:Nat}{H:Heap}(h:CopR v u n H):v.shp=some 4:=by
 rcases h with rfl|⟨q,z,_,rfl,_⟩ <;> rfl
theorem CopR.frz{v:AV}{u:Tm}{n:Nat}{B e:Heap}(h:CopR v u n (B++e))(hn:B.length=n):∃e2,e2.length=e.length/\AV.freeze deep v (B++e)=some (u.pv,B++e2):=by
 rcases h with rfl|⟨q,z,hq,rfl,hH⟩
 ·exact⟨e,rfl,rfl⟩
 ·obtain⟨j,rfl⟩:∃j,q=n+j:=⟨q - n,by omega⟩
  refine⟨e.set j (.arr (some 4) (Tm.pvs u.args) true),by simp,?_⟩
  rw[znr hH,setN hn]
def NumR(v:AV)(u:Tm)(n:Nat)(H:Heap):Prop:=∃q z,n<=q/\v=sgg u q/\H[q]? =some (.arr (some 4) (Tm.pvs u.args) z)
def nH(hp:Heap)(m:Nat)(l:List Int):Heap:=hp.set m (.map none (zbI (posF 0 l)))
theorem zpR(hp:Heap)(m:Nat)(l:List Int):(nH hp m l).length=hp.length:=by simp[nH]
theorem ztz{hp:Heap}{m:Nat}(hm:m<hp.length)(l:List Int)(X:Heap):(nH hp m l++X)[m]? =some (.map none (zbI (posF 0 l))):=by
 rw[List.getElem?_append_left (by rw[zpR];exact hm)]
 simp[nH,hm]
theorem ztA{hp:Heap}{m:Nat}(hm:m<hp.length)(l l':List Int)(X:Heap):(nH hp m l++X).set m (.map none (zbI (posF 0 l')))=nH hp m l'++X:=by
 rw[List.set_append_left _ _ (by rw[zpR];exact hm)]
 simp[nH]
theorem zpS{t:Tm}(h:t.fits=true)(hk:t.kind=0):t.name=[]/\t.args=[]:=by
 have:=zeS h hk
 rw[this]
 exact⟨rfl,rfl⟩
set_option maxHeartbeats 1000000 in
theorem zjT(hp:Heap)(m:Nat)(hm:m<hp.length):∀(t:Tm) (l L:List Int) (ext:Heap),t.fits=true->t.size<100000->l.length+t.size<200000->vads l t.occ <+: L->
  ∃v e,S 77 [t.av,.map m] (nH hp m l++ext)=some (.ret v,nH hp m (vads l t.occ)++(ext++e))/\NumR v (Tm.sub (cPos L) t) (hp.length+ext.length) (nH hp m (vads l t.occ)++(ext++e)):=by
 intro t
 induction t using Tm.zt6 with
 |h t ih=>
  intro l L ext hf ht hl hp2
  have hts:=t.size_eq
  have hlen:=Tm.zt2 t.args
  obtain⟨n,hn⟩:∃n,n=hp.length+ext.length:=⟨_,rfl⟩
  obtain⟨P,hP⟩:∃P:List Int->Heap,P=fun l=>nH hp m l++ext:=⟨_,rfl⟩
  have hPs:∀l,nH hp m l++ext=P l:=fun l=>by rw[hP]
  have hPa:∀l X,nH hp m l++(ext++X)=P l++X:=fun l X=>by rw[<-hPs,List.append_assoc]
  have hPl:∀l,(P l).length=n:=fun l=>by rw[<-hPs,List.length_append,zpR,hn]
  have hPm:∀l X,(P l++X)[m]? =some (.map none (zbI (posF 0 l))):=fun l X=>by rw[<-hPa];exact ztz hm l _
  have hPsm:∀l l' X,(P l++X).set m (.map none (zbI (posF 0 l')))=P l'++X:=fun l l' X=>by rw[<-hPa,<-hPa];exact ztA hm l l' _
  simp only[<-hn]
  simp only[hPa,hPs]
  rw[Tm.zuh] at hp2 ⊢
  have hb:zaJ [(none,.pv none (.int .i64 0)),(none,.pv none (.int .i64 0)),(none,.pv none (.str [])),(none,.tsl (some 4) [])] [0,1,2] [.pv none (.int .i64 t.kind),.pv none (.int .i64 t.n),.pv none (.str t.name)]=some (.agg [(none,.pv none (.int .i64 t.kind)),(none,.pv none (.int .i64 t.n)),(none,.pv none (.str t.name)),(none,.tsl (some 4) [])]):=rfl
  by_cases hk:t.kind=0
  ·rw[if_pos hk] at hp2 ⊢
   have hk':=eq_true hk
   obtain⟨vn,va⟩:=zpS hf hk
   have hta:Tm.pvs t.args=[]:=by rw[va];rfl
   have e1:vads l [t.n]=vadd l t.n:=rfl
   rw[e1] at hp2 ⊢
   have e2:Tm.sub (cPos L) t=tvar ((vadd l t.n).idxOf t.n:Nat):=by
    rw[Tm.zui,if_pos hk]
    unfold cPos
    rw[zpz (zrm l t.n) hp2]
   rw[e2]
   have hz:∀k:Int,AV.upd deep (.agg [(none,.pv none (.int .i64 t.kind)),(none,.pv none (.int .i64 t.n)),(none,.pv none (.str t.name)),(none,.sl (some 4) (n+5) 0 0 0)]) 1 none (.pv none (.int .i64 k))=some (.agg [(none,.pv none (.int .i64 t.kind)),(none,.pv none (.int .i64 k)),(none,.pv none (.str t.name)),(none,.sl (some 4) (n+5) 0 0 0)]):=fun _=>rfl
   by_cases hmem:t.n∈l
   ·have e:vadd l t.n=l:=by simp[vadd,hmem]
    rw[e]
    have hlk:∀X:Heap,za8 false none (.pv none (.int .i64 0)) true (P l++X) [.map m,.pv none (.int .i64 t.n)]=some (.tuple [.pv none (.int .i64 ((l.idxOf t.n:Nat):Int)),.pv none (.bool true)]):=fun X=>by
     rw[zty (m:=posF 0 l) (hPm _ _),zgs,if_pos hmem,Nat.zero_add]
    obtain⟨k,hkk⟩:∃k:Int,k=((l.idxOf t.n:Nat):Int):=⟨_,rfl⟩
    rw[<-hkk] at hlk ⊢
    refine⟨sgg (tvar k) (n+5),[.box (some 4) (.pv (some 4) t.pv),.box (some 4) (sgg (tvar k) (n+5)),.arr (some 4) [] false,.box (some 4) (sgg (tvar k) (n+5)),.arr (some 4) [] false,.arr (some 4) [] false],?_,⟨n+5,false,by omega,rfl,by rw[getN (hPl _)];rfl⟩⟩
    refine zbO rfl rfl rfl rfl ?_
    rw[hPl]
    simp -dsimp -implicitDefEqProofs only[go_sem,seval,↓reduceIte,Tm.av,zao,zbS,zat,zak,hk',hta,hlk,Tm.pvs_len,hb,hz,zab (Nat.le_add_right _ _),zaL,List.append_assoc,zae,zac,zaf,zad,Nat.add_assoc,List.length_append,hPl,getN (hPl _),zeI (hPl _),setN (hPl _),zeJ (hPl _)]
    refine zcj (α:=Unit) 0 (fun _ _=>True) (fun _ _=>⟨[(1,.map m),(4,.ptr (n+1) 0),(5,.ptr (n+3) 0),(38,.pv none (.sl (some 4) [])),(39,.pv none (.int .i64 0)),(40,.pv none (.int .i64 0))],P l++[.box (some 4) (.pv (some 4) t.pv),.box (some 4) (.agg [(none,.pv none (.int .i64 0)),(none,.pv none (.int .i64 0)),(none,.pv none (.str [])),(none,.sl (some 4) (n+2) 0 0 0)]),.arr (some 4) [] false,.box (some 4) (.agg [(none,.pv none (.int .i64 t.kind)),(none,.pv none (.int .i64 k)),(none,.pv none (.str t.name)),(none,.sl (some 4) (n+5) 0 0 0)]),.arr (some 4) [] false,.arr (some 4) [] false]⟩) () ⟨trivial,rfl⟩ (by intros;omega) ?_
    rintro - -
    have hc0:¬(0:Int)<(0:Int):=by decide
    simp -dsimp -implicitDefEqProofs only[go_sem,seval,↓reduceIte,hc0,zaL,zab (Nat.le_add_right _ _),zaQ (Nat.le_add_right _ _),List.append_assoc,zae,zac,zaf,zad,Nat.add_assoc,List.length_append,hPl,getN (hPl _),zeI (hPl _),setN (hPl _),zeJ (hPl _)]
    rw[hk,vn]
    refine⟨rfl,?_⟩
    rw[if_neg (by simp[sgg,AV.refsIn,AV.refsIn.go])]
    rfl
   ·have e:vadd l t.n=l++[t.n]:=by simp[vadd,hmem]
    rw[e,zlT hmem]
    have hlk:∀X:Heap,za8 false none (.pv none (.int .i64 0)) true (P l++X) [.map m,.pv none (.int .i64 t.n)]=some (.tuple [.pv none (.int .i64 0),.pv none (.bool false)]):=fun X=>by
     rw[zty (m:=posF 0 l) (hPm _ _),zgs,if_neg hmem]
    have hml:∀X:Heap,zfQ (P l++X) [.map m]=some (.pv none (.int .i64 (l.length:Int))):=fun X=>by
     simp[zfQ,hPm,zbI,zif]
    have hms:∀X:Heap,zcq false none (P l++X) [.map m,.pv none (.int .i64 t.n),.pv none (.int .i64 (l.length:Int))]=some (.undef,P (l++[t.n])++X):=fun X=>by
     have:=zlS t.n l 0 hmem
     rw[Nat.zero_add] at this
     rw[zeh (es:=zbI (posF 0 l)) (hPm _ _) (zeR _ _ _),this,hPsm]
    obtain⟨k,hkk⟩:∃k:Int,k=(l.length:Int):=⟨_,rfl⟩
    rw[<-hkk] at hml hms ⊢
    refine⟨sgg (tvar k) (n+5),[.box (some 4) (.pv (some 4) t.pv),.box (some 4) (sgg (tvar k) (n+5)),.arr (some 4) [] false,.box (some 4) (sgg (tvar k) (n+5)),.arr (some 4) [] false,.arr (some 4) [] false],?_,⟨n+5,false,by omega,rfl,by rw[getN (hPl _)];rfl⟩⟩
    refine zbO rfl rfl rfl rfl ?_
    rw[hPl]
    simp -dsimp -implicitDefEqProofs only[go_sem,seval,↓reduceIte,Tm.av,zao,zbS,zat,zak,hk',hta,hlk,hml,hms,Tm.pvs_len,hb,hz,zab (Nat.le_add_right _ _),zaL,List.append_assoc,zae,zac,zaf,zad,Nat.add_assoc,List.length_append,hPl,getN (hPl _),zeI (hPl _),setN (hPl _),zeJ (hPl _)]
    refine zcj (α:=Unit) 0 (fun _ _=>True) (fun _ _=>⟨[(1,.map m),(4,.ptr (n+1) 0),(5,.ptr (n+3) 0),(38,.pv none (.sl (some 4) [])),(39,.pv none (.int .i64 0)),(40,.pv none (.int .i64 0))],P (l++[t.n])++[.box (some 4) (.pv (some 4) t.pv),.box (some 4) (.agg [(none,.pv none (.int .i64 0)),(none,.pv none (.int .i64 0)),(none,.pv none (.str [])),(none,.sl (some 4) (n+2) 0 0 0)]),.arr (some 4) [] false,.box (some 4) (.agg [(none,.pv none (.int .i64 t.kind)),(none,.pv none (.int .i64 k)),(none,.pv none (.str t.name)),(none,.sl (some 4) (n+5) 0 0 0)]),.arr (some 4) [] false,.arr (some 4) [] false]⟩) () ⟨trivial,rfl⟩ (by intros;omega) ?_
    rintro - -
    have hc0:¬(0:Int)<(0:Int):=by decide
    simp -dsimp -implicitDefEqProofs only[go_sem,seval,↓reduceIte,hc0,zaL,zab (Nat.le_add_right _ _),zaQ (Nat.le_add_right _ _),List.append_assoc,zae,zac,zaf,zad,Nat.add_assoc,List.length_append,hPl,getN (hPl _),zeI (hPl _),setN (hPl _),zeJ (hPl _)]
    rw[hk,vn]
    refine⟨rfl,?_⟩
    rw[if_neg (by simp[sgg,AV.refsIn,AV.refsIn.go])]
    rfl
  ·rw[if_neg hk] at hp2 ⊢
   have hk':=eq_false hk
   have e2:Tm.sub (cPos L) t=.mk t.kind t.n t.name (t.args.map (Tm.sub (cPos L))):=by rw[Tm.zui,if_neg hk]
   rw[e2]
   obtain⟨ts',hts'⟩:∃ts',ts'=t.args.map (Tm.sub (cPos L)):=⟨_,rfl⟩
   have htl:ts'.length=t.args.length:=by rw[hts',List.length_map]
   rw[<-hts']
   refine⟨.agg [(none,.pv none (.int .i64 t.kind)),(none,.pv none (.int .i64 t.n)),(none,.pv none (.str t.name)),(none,.sl (some 4) (n+5) t.args.length 0 t.args.length)],
    [.box (some 4) (.pv (some 4) t.pv),.box (some 4) (.agg [(none,.pv none (.int .i64 t.kind)),(none,.pv none (.int .i64 t.n)),(none,.pv none (.str t.name)),(none,.sl (some 4) (n+5) t.args.length 0 t.args.length)]),.arr (some 4) [] false,.box (some 4) (.agg [(none,.pv none (.int .i64 t.kind)),(none,.pv none (.int .i64 t.n)),(none,.pv none (.str t.name)),(none,.sl (some 4) (n+5) t.args.length 0 t.args.length)]),.arr (some 4) [] false,.arr (some 4) (Tm.pvs ts') false],?_,⟨n+5,false,by omega,?_,?_⟩⟩
   ·refine zbO rfl rfl rfl rfl ?_
    rw[hPl]
    simp -dsimp -implicitDefEqProofs only[go_sem,seval,↓reduceIte,Tm.av,zao,zbS,zat,zak,hk',Tm.pvs_len,hb,zab (Nat.le_add_right _ _),zaL,List.append_assoc,zae,zac,zaf,zad,Nat.add_assoc,List.length_append,hPl,getN (hPl _),zeI (hPl _),setN (hPl _),zeJ (hPl _)]
    refine zcj (α:=Unit) t.args.length (fun _ _=>True) (fun i _=>⟨[(1,.map m),(4,.ptr (n+1) 0),(5,.ptr (n+3) 0),(38,.pv none (.sl (some 4) (Tm.pvs t.args))),(39,.pv none (.int .i64 t.args.length)),(40,.pv none (.int .i64 i))],P (vads l (Tm.occs (t.args.take i)))++appC n t ts' i⟩) () ⟨trivial,?_⟩ ?_ ?_
    ·rw[List.take_zero]
     rfl
    ·rintro i - h -
     have hc:(i:Int)<(t.args.length:Int):=by omega
     obtain⟨u,hu⟩:∃u,t.args[i]? =some u:=⟨_,List.getElem?_eq_getElem h⟩
     have hum:=List.mem_of_getElem? hu
     have husz:=Tm.zt3 hum
     have hst:=Tm.zt8 hu
     have hle2:=Tm.zt4 t.args (i+1)
     have hvl:=zeW (Tm.occs (t.args.take i)) l
     have hol:=Tm.zuf (t.args.take i)
     have hpre:vads (vads l (Tm.occs (t.args.take i))) u.occ <+: L:=by
      rw[<-zd1,<-Tm.zub hu]
      refine List.IsPrefix.trans ?_ hp2
      have e:=List.take_append_drop (i+1) t.args
      rw[<-e,zrC,zd1,e]
      exact zig _ _
     obtain⟨v,e,hcall,hcop0⟩:=ih u hum (vads l (Tm.occs (t.args.take i))) L (ext++(appC n t ts' i++[.box (some 4) (.pv (some 4) u.pv),.arr (some 4) [] false])) (Tm.zt7 hf hum) (by omega) (by omega) hpre
     have hcop:CopR _ _ _ _:=.inr hcop0
     rw[<-zd1,<-Tm.zub hu] at hcall hcop
     have hus:ts'[i]? =some (Tm.sub (cPos L) u):=by rw[hts'];simp[hu]
     simp only[List.append_assoc,hPa] at hcall hcop
     obtain⟨e2,he2,hfz⟩:∃e2,e2.length=e.length/\AV.freeze deep v (P (vads l (Tm.occs (t.args.take (i+1))))++(appC n t ts' i++([.box (some 4) (.pv (some 4) u.pv),.arr (some 4) [] false]++e)))=some ((Tm.sub (cPos L) u).pv,P (vads l (Tm.occs (t.args.take (i+1))))++(appC n t ts' i++([.box (some 4) (.pv (some 4) u.pv),.arr (some 4) [] false]++e2))):=by
      have h:=CopR.frz (B:=P (vads l (Tm.occs (t.args.take (i+1))))++(appC n t ts' i++[.box (some 4) (.pv (some 4) u.pv),.arr (some 4) [] false])) (e:=e) (v:=v) (u:=Tm.sub (cPos L) u) (n:=hp.length+(ext++(appC n t ts' i++([.box (some 4) (.pv (some 4) u.pv),.arr (some 4) [] false]:Heap))).length) (by simpa only[List.append_assoc] using hcop) (by simp only[List.length_append,hPl,hn];omega)
      obtain⟨e2,h1,h2⟩:=h
      exact⟨e2,h1,by simpa only[List.append_assoc] using h2⟩
     have hvs:=hcop.shp
     generalize vads l (Tm.occs (t.args.take (i+1)))=l2 at hcall hfz ⊢
     generalize vads l (Tm.occs (t.args.take i))=l1 at hcall hvl ⊢
     have w2:IntKind.i64.wrap ((i:Int)+1)=((i+1:Nat):Int):=by rw[zaF (by omega) (by omega)];omega
     have hll:(Tm.pvs (ts'.take i)).length=i:=by rw[Tm.pvs_len,List.length_take];omega
     have hlim:i+1<=lim:=by unfold lim;omega
     have hbs:zbu (some 4) (P l2++(appC n t ts' i++([.box (some 4) (.pv (some 4) u.pv),.arr (some 4) [] false]++e))) [v]=some (.tsl (some 4) [(Tm.sub (cPos L) u).pv],P l2++(appC n t ts' i++([.box (some 4) (.pv (some 4) u.pv),.arr (some 4) [] false]++e2))):=by
      simp only[zbu,zaq,hfz,hvs,za3,if_true]
     have hs1:∀(a a':List Int) (e e':Heap),zca (P a++(appC n t ts' i++e)) (P a'++(appC n t ts' i++e')) (.ptr (n+3) 3)=true:=fun a a' e e'=>zjO (t:=t) (q:=n+5) (i:=i) (by rw[getN (hPl _)];rfl) (by rw[getN (hPl _)];rfl)
     simp only[Tm.av] at hcall
     simp only[appC,List.append_assoc,List.cons_append,List.nil_append] at hcall hbs hs1
     simp -dsimp -implicitDefEqProofs only[go_sem,seval,↓reduceIte,appC,hc,zai (Tm.pvs_get hu),zhk,List.take_succ_cons,List.drop_succ_cons,List.all_cons,List.all_nil,hcall,hbs,hs1,w2,hll,hlim,Tm.zt5 hus,zab (Nat.le_add_right _ _),zaQ (Nat.le_add_right _ _),List.append_assoc,zae,zac,zaf,zad,Nat.add_assoc,List.length_append,hPl,getN (hPl _),zeI (hPl _),setN (hPl _),zeJ (hPl _)]
     refine⟨(),?_⟩
     rw[zeg 6 (hPl _) rfl (by simp[AObj.refs,AV.ofComps,pures,AV.refsIn,AV.refsIn.go]) (by simp[AV.refsIn,AV.refsIn.gol];omega)]
     rfl
    ·rintro - -
     have hc:¬(t.args.length:Int)<(t.args.length:Int):=by omega
     have htk:ts'.take t.args.length=ts':=List.take_of_length_le (by omega)
     simp -dsimp -implicitDefEqProofs only[go_sem,seval,↓reduceIte,appC,hc,List.take_length,htk,zaL,zab (Nat.le_add_right _ _),zaQ (Nat.le_add_right _ _),List.append_assoc,zae,zac,zaf,zad,Nat.add_assoc,List.length_append,hPl,getN (hPl _),zeI (hPl _),setN (hPl _),zeJ (hPl _)]
     rw[if_neg (by simp[AV.refsIn,AV.refsIn.go])]
   ·unfold sgg
    show _=AV.agg [(none,.pv none (.int .i64 t.kind)),(none,.pv none (.int .i64 t.n)),(none,.pv none (.str t.name)),(none,.sl (some 4) (n+5) ts'.length 0 ts'.length)]
    rw[htl]
   ·rw[getN (hPl _)]
    rfl
structure Cz where
 head:Tm
 body:Tm
def Cz.pv(c:Cz):PV:=.agg [(some 4,c.head.pv),(some 4,c.body.pv)]
def Cz.av(c:Cz):AV:=.pv (some 8) c.pv
theorem zaT(c:Cz):PV.part deep c.pv 0 (some 4)=some c.head.pv:=by cases c with|mk h b=>cases h;rfl
theorem zaU(c:Cz):PV.part deep c.pv 4 (some 4)=some c.body.pv:=by cases c with|mk h b=>cases h;cases b;rfl
def Cz.vars(c:Cz):List Int:=vads [] (c.head.occ++c.body.occ)
def Cz.can(c:Cz):Cz:=⟨Tm.sub (cPos c.vars) c.head,Tm.sub (cPos c.vars) c.body⟩
theorem zsI{u w:Tm}{q1 q2:Nat}{H:Heap}{z1 z2:Bool}(h1:H[q1]? =some (.arr (some 4) (Tm.pvs u.args) z1))(h2:H[q2]? =some (.arr (some 4) (Tm.pvs w.args) z2))(hne:q1≠q2):AV.freeze deep (.agg [(some 4,sgg u q1),(some 4,sgg w q2)]) H=some ((Cz.mk u w).pv,(H.set q1 (.arr (some 4) (Tm.pvs u.args) true)).set q2 (.arr (some 4) (Tm.pvs w.args) true)):=by
 have e:∀n l hp,AV.freeze (n+1) (.agg l) hp=match AV.freeze.go n l hp with|some (ps,hp')=>some (.agg ps,hp')|none=>none:=fun _ _ _=>rfl
 have h2':(H.set q1 (.arr (some 4) (Tm.pvs u.args) true))[q2]? =some (.arr (some 4) (Tm.pvs w.args) z2):=by rw[List.getElem?_set_ne hne,h2]
 show AV.freeze (7+1) (.agg _) _=_
 simp[sgg,e,AV.freeze.go,AV.freeze,h1,h2',Tm.pvs_len]
 cases u
 cases w
 rfl
def zagV:AV:=.agg [(none,.pv none (.int .i64 0)),(none,.pv none (.int .i64 0)),(none,.pv none (.str [])),(none,.tsl (some 4) [])]
def cN(c:Cz)(l:List Int)(a:AV):Heap:=[.box (some 8) (.pv (some 8) c.pv),.box (some 8) a,.map none (zbI (posF 0 l))]
theorem zjN(c:Cz)(fh:c.head.fits=true)(fb:c.body.fits=true)(hz:c.head.size+c.body.size<90000)(hp:Heap):S 56 [c.av] hp=some (.ret (.tuple [c.can.av,.pv none (.int .i64 (c.vars.length:Int))]),hp):=by
 refine zaj rfl rfl rfl (zaa [(some 8,c.pv)]) rfl ?_
 obtain⟨L,hL⟩:∃L,L=c.vars:=⟨_,rfl⟩
 have hLa:L=vads (vads [] c.head.occ) c.body.occ:=by rw[hL,Cz.vars,zd1]
 have hp1:vads [] c.head.occ <+: L:=by rw[hLa];exact zig _ _
 obtain⟨v1,e1,hc1,q1,z1,hq1,hv1,ha1⟩:=zjT (cN c [] (.agg [(some 4,zagV),(some 4,zagV)])) 2 (by show 2<3;omega) c.head [] L [] fh (by omega) (by simp;omega) hp1
 have hl1:=zeW c.head.occ []
 have ho1:=Tm.occ_len c.head
 simp only[List.length_nil] at hl1
 obtain⟨v2,e2,hc2,q2,z2,hq2,hv2,ha2⟩:=zjT (cN c (vads [] c.head.occ) (.agg [(some 4,v1),(some 4,zagV)])) 2 (by show 2<3;omega) c.body (vads [] c.head.occ) L e1 fb (by omega) (by omega) (by rw[<-hLa];exact List.prefix_refl _)
 rw[<-hLa] at hc2 ha2
 have hcan:c.can=⟨Tm.sub (cPos L) c.head,Tm.sub (cPos L) c.body⟩:=by rw[hL];rfl
 obtain⟨u,hu⟩:∃u,u=Tm.sub (cPos L) c.head:=⟨_,rfl⟩
 obtain⟨w,hw⟩:∃w,w=Tm.sub (cPos L) c.body:=⟨_,rfl⟩
 rw[<-hu] at hv1 ha1 hcan
 rw[<-hw] at hv2 ha2 hcan
 subst hv1 hv2
 rw[hcan,<-hL]
 have n1:∀(l l':List Int) (a:AV),nH (cN c l a) 2 l'=cN c l' a:=fun _ _ _=>rfl
 simp only[n1,List.nil_append,List.append_nil] at hc1 hc2 ha1 ha2
 have up0:AV.upd deep (.agg [(some 4,zagV),(some 4,zagV)]) 0 (some 4) (sgg u q1)=some (.agg [(some 4,sgg u q1),(some 4,zagV)]):=rfl
 have up4:AV.upd deep (.agg [(some 4,sgg u q1),(some 4,zagV)]) 4 (some 4) (sgg w q2)=some (.agg [(some 4,sgg u q1),(some 4,sgg w q2)]):=rfl
 simp only[zagV,sgg] at up0 up4
 have st1:∀(l:List Int) (e:Heap),zar (some 4) 0 (cN c l (.agg [(some 4,zagV),(some 4,zagV)])++e) [.ptr 1 0,sgg u q1]=some (.undef,cN c l (.agg [(some 4,sgg u q1),(some 4,zagV)])++e):=fun l e=>by
  simp[zar,astore,cN,sgg,zagV,AV.plain,AV.shp,AV.own,zal,zbh,total,Sh.size,up0,up4]
 have st2:∀(l:List Int) (e:Heap),zar (some 4) 0 (cN c l (.agg [(some 4,sgg u q1),(some 4,zagV)])++e) [.ptr 1 4,sgg w q2]=some (.undef,cN c l (.agg [(some 4,sgg u q1),(some 4,sgg w q2)])++e):=fun l e=>by
  simp[zar,astore,cN,sgg,zagV,AV.plain,AV.shp,AV.own,zal,zbh,total,Sh.size,up0,up4]
 have st3:∀(l:List Int) (e:Heap),zar (some 8) 0 (cN c l (.agg [(some 4,sgg u q1),(some 4,sgg w q2)])++e) [.ptr 1 0,.agg [(some 4,sgg u q1),(some 4,sgg w q2)]]=some (.undef,cN c l (.agg [(some 4,sgg u q1),(some 4,sgg w q2)])++e):=fun l e=>by
  simp[zar,astore,cN,sgg,zagV,AV.plain,AV.shp,AV.own,zal,zbh,total,Sh.size]
 have g0:∀(l:List Int) (a:AV) (e:Heap),(cN c l a++e)[0]? =some (.box (some 8) (.pv (some 8) c.pv)):=fun _ _ _=>rfl
 have g1:∀(l:List Int) (a:AV) (e:Heap),(cN c l a++e)[1]? =some (.box (some 8) a):=fun _ _ _=>rfl
 have ml:∀(l:List Int) (a:AV) (e:Heap),zfQ (cN c l a++e) [.map 2]=some (.pv none (.int .i64 (l.length:Int))):=fun l a e=>by
  simp[zfQ,cN,zbI,zif]
 have k0:zbI (posF 0 [])=[]:=rfl
 have hc1':=hc1
 simp only[cN,k0,zagV,Tm.av] at hc1'
 have hc3:S 77 [.pv (some 4) c.head.pv,.map 2] [.box (some 8) (.pv (some 8) c.pv),.box (some 8) (.agg [(some 4,.agg [(none,.pv none (.int .i64 0)),(none,.pv none (.int .i64 0)),(none,.pv none (.str [])),(none,.tsl (some 4) [])]),(some 4,.agg [(none,.pv none (.int .i64 0)),(none,.pv none (.int .i64 0)),(none,.pv none (.str [])),(none,.tsl (some 4) [])])]),.map none []]=some (.ret (sgg u q1),cN c (vads [] c.head.occ) (.agg [(some 4,zagV),(some 4,zagV)])++e1):=hc1'
 simp only[Tm.av] at hc2
 obtain⟨s1,hs1⟩:∃s1,s1=sgg u q1:=⟨_,rfl⟩
 obtain⟨s2,hs2⟩:∃s2,s2=sgg w q2:=⟨_,rfl⟩
 rw[<-hs1] at hc3 hc2 st1 st2 st3
 rw[<-hs2] at hc2 st2 st3
 clear hc1 hc1' up0 up4
 simp -dsimp -implicitDefEqProofs only[go_sem,seval,↓reduceIte,Cz.av,zaT,zaU,hc3,hc2,st1,st2,st3,g0,g1,ml,zab (Nat.zero_le _),List.append_assoc,zae,zac,zaf,zad,Nat.add_assoc,List.length_append]
 obtain⟨j1,rfl⟩:∃j,q1=3+j:=⟨q1 - 3,by have:3<=q1:=hq1;omega⟩
 obtain⟨j2,rfl⟩:∃j,q2=3+j:=⟨q2 - 3,by have:3+e1.length<=q2:=hq2;omega⟩
 have g3:∀(l:List Int) (a:AV) (e:Heap) (j:Nat),(cN c l a++e)[3+j]? =e[j]? :=fun l a e j=>getN (l:=cN c l a) rfl j
 rw[g3] at ha1 ha2
 have hj1:=(List.getElem?_eq_some_iff.1 ha1).1
 have hq2':3+e1.length<=3+j2:=hq2
 have h1:(cN c L (.agg [(some 4,s1),(some 4,s2)])++(e1++e2))[3+j1]? =some (.arr (some 4) (Tm.pvs u.args) z1):=by rw[g3,List.getElem?_append_left hj1,ha1]
 have h2:(cN c L (.agg [(some 4,s1),(some 4,s2)])++(e1++e2))[3+j2]? =some (.arr (some 4) (Tm.pvs w.args) z2):=by rw[g3,ha2]
 have hf:=zsI h1 h2 (by omega)
 rw[<-hs1,<-hs2] at hf
 have hr:∀H:Heap,H[1]? =some (.box (some 8) (.agg [(some 4,s1),(some 4,s2)]))->za9 ⟨[(2,.ptr 1 0),(3,.pv none (.int .i64 (L.length:Int)))],H⟩ (2,some (some 8))=some (.agg [(some 4,s1),(some 4,s2)]):=fun H h=>by
  simp[za9,Fr.look,aload,h]
 rw[hr _ (g1 _ _ _)]
 have hsh:(AV.agg [(some 4,s1),(some 4,s2)]).shp=some 8:=rfl
 have e3:∀X,AV.freeze deep (.pv none (.int .i64 (L.length:Int))) X=some (.int .i64 (L.length:Int),X):=fun _=>rfl
 obtain⟨HH,hHH⟩:∃HH,HH=cN c L (.agg [(some 4,s1),(some 4,s2)])++(e1++e2):=⟨_,rfl⟩
 rw[<-hHH] at hf
 show Am.frozen _ (.tuple [.agg [(some 4,s1),(some 4,s2)],.pv none (.int .i64 (L.length:Int))]) (cN c L (.agg [(some 4,s1),(some 4,s2)])++(e1++e2))
 rw[<-hHH]
 refine⟨(HH.set (3+j1) (.arr (some 4) (Tm.pvs u.args) true)).set (3+j2) (.arr (some 4) (Tm.pvs w.args) true),?_⟩
 simp only[AV.freezeRes,zaq,hf,e3,hsh]
 rfl
def outD(F:FuncId->Option AFn)(prim:FuncId->Option zbf)(rs:List RSlot)(s:Nat)(v:AV)(st:St)(p:PV)(st2:St):Prop:=
 ∃g fs cs,st.fr.look s=some (.func (.func g) fs cs)/\∃r hp' v',sem F prim .dfr g (.pv none p::(fs++cs)) st2.hp=some (.ret r,hp')/\zaA ⟨st2.fr,hp'⟩ rs=some v'/\Am.frozen v v' hp'
def outK(F:FuncId->Option AFn)(prim:FuncId->Option zbf)(rs:List RSlot)(s:Nat)(v:AV)(st:St):AExit->St->Prop
 | .normal,st2=>outD F prim rs s v st .niliface st2
 | .ret,st2=>outD F prim rs s v st .niliface st2
 | .panic w,st2=>outD F prim rs s v st w st2
 | .exit _,_=>False
def dfrK(F:FuncId->Option AFn)(prim:FuncId->Option zbf)(rs:List RSlot)(s:Nat)(c2:ACode)(v:AV):AExit->St->Prop
 | .normal,st=>(st.fr.look s).isSome=true/\W (sem F prim) (sloop F prim) 0 c2 st (outK F prim rs s v st)
 | .ret,st=>endK rs (Am.frozen v) .ret st
 |_,_=>False
theorem zgw{F:FuncId->Option AFn}{prim:FuncId->Option zbf}{rs:List RSlot}{s:Nat}{c2:ACode}{v:AV}{st:St}:dfrK F prim rs s c2 v .normal st=((st.fr.look s).isSome=true/\W (sem F prim) (sloop F prim) 0 c2 st (outK F prim rs s v st)):=rfl
theorem zik{F:FuncId->Option AFn}{prim:FuncId->Option zbf}{rs:List RSlot}{s:Nat}{c2:ACode}{v:AV}{st:St}:dfrK F prim rs s c2 v .ret st=endK rs (Am.frozen v) .ret st:=rfl
theorem zl5{F:FuncId->Option AFn}{prim:FuncId->Option zbf}{rs:List RSlot}{s:Nat}{v:AV}{st st2:St}:outK F prim rs s v st .ret st2=outD F prim rs s v st .niliface st2:=rfl
theorem zhm{F:FuncId->Option AFn}{prim:FuncId->Option zbf}{rs:List RSlot}{s:Nat}{v:AV}{st st2:St}{w:PV}:outK F prim rs s v st (.panic w) st2=outD F prim rs s v st w st2:=rfl
theorem zjR{F:FuncId->Option AFn}{prim:FuncId->Option zbf}{f:FuncId}{fn:AFn}{args:List AV}{ps:List (Sh × PV)}{hp:Heap}{v:AV}{s:Nat}{c2:ACode}(hp0:prim f=none)(hf:F f=some fn)(hm:fn.heapMode=false)(hz:zaq args hp=some (ps,hp))(hn:(pvs ps).length=fn.nparams)(hmo:fn.more=[(.dfr s,c2)])
  (h:W (sem F prim) (sloop F prim) 0 fn.code ⟨params 0 (pvs ps),[]⟩ (dfrK F prim fn.results s c2 v))(hr:fn.rcv=none:=by rfl):sem F prim .fn f args hp=some (.ret v,hp):=by
 rw[zgm]
 unfold zba
 rw[hp0,hf]
 have hl:([]:Heap).length=0:=rfl
 suffices hB:∃v' hp2,abody (sem F prim) (sloop F prim) fn (pvs ps) []=some (.ret v',hp2)/\Am.frozen v v' hp2 by
  obtain⟨v',hp2,h1,hp3,h2⟩:=hB
  simp only[hr,Option.isSome_none,hm,Bool.false_eq_true,if_false,hz,h1,h2]
  cases v.scalar <;> rfl
 unfold abody
 rw[if_neg (by simpa using hn),hmo]
 simp only[hl]
 unfold W at h
 split at h
 ·rename_i e st1 he
  cases e with
  |normal=>
   obtain⟨-,hW⟩:=h
   unfold W at hW
   split at hW
   ·rename_i e2 st2 he2
    have fin:∀p:Option PV,outD F prim fn.results s v st1 (p.getD .niliface) st2->∀e:AExit,(e=.normal\/e=.ret->p=none)->(∀w,e=.panic w->p=some w)->(∀i,e≠.exit i)->e=e2->∃v' hp2,aleave (sem F prim) fn (apieces (sem F prim) (sloop F prim) 0 [(.dfr s,c2)] fn.code ⟨params 0 (pvs ps),[]⟩ [])=some (.ret v',hp2)/\Am.frozen v v' hp2:=by
     rintro p ⟨g,fs,cs,k1,r,hp',v',k2,k3,k4⟩ e n1 n2 n3 rfl
     refine⟨v',hp',?_,k4⟩
     have k5:atop (sem F prim) (.dfr s) st1 []=some (.normal,st1,[.func (.func g) fs cs]):=by simp[atop,k1]
     have ka:apieces (sem F prim) (sloop F prim) 0 [(.dfr s,c2)] fn.code ⟨params 0 (pvs ps),[]⟩ []=some (e,st2,[.func (.func g) fs cs]):=by
      simp only[apieces,he,k5,he2]
     have ku:∀p':Option PV,p'=p->aunwind (sem F prim) [.func (.func g) fs cs] p' st2.hp=some (none,hp'):=by
      rintro p' rfl
      simp only[aunwind,zbi,k2]
     rw[ka]
     cases e with
     |normal=>simp only[aleave,ku none (n1 (.inl rfl)).symm,aresult,k3]
     |ret=>simp only[aleave,ku none (n1 (.inr rfl)).symm,aresult,k3]
     |panic w=>simp only[aleave,ku (some w) (n2 w rfl).symm,aresult,k3]
     |exit i=>exact absurd rfl (n3 i)
    cases e2 with
    |normal=>exact fin none hW .normal (fun _=>rfl) (fun w e=>by cases e) (fun i e=>by cases e) rfl
    |ret=>exact fin none hW .ret (fun _=>rfl) (fun w e=>by cases e) (fun i e=>by cases e) rfl
    |panic w=>exact fin (some w) hW (.panic w) (fun e=>by rcases e with e|e <;> cases e) (fun w e=>by cases e;rfl) (fun i e=>by cases e) rfl
    |exit i=>exact hW.elim
   ·exact hW.elim
  |ret=>
   rw[zik,zdi] at h
   cases hr:zaA st1 fn.results with
   |none=>rw[hr] at h;exact h.elim
   |some u=>
    rw[hr] at h
    exact⟨u,st1.hp,by simp only[aleave,apieces,he,aunwind,aresult,hr],h⟩
  |exit i=>exact h.elim
  |panic v=>exact h.elim
 ·exact h.elim
def ztv(n:Nat)(H:Heap):AExit->St->Prop
 | .normal,st=>st.hp.take n=H
 | .ret,st=>st.hp.take n=H
 |_,_=>False
theorem zfD{n:Nat}{H:Heap}{st:St}:ztv n H .normal st=(st.hp.take n=H):=rfl
theorem zl6{F:FuncId->Option AFn}{prim:FuncId->Option zbf}{g:FuncId}{fn:AFn}{ws:List AV}{hp H:Heap}{s:Sh}{p:PV}{t:Nat}(hf:F g=some fn)(hr:fn.rcv=some t)(hmo:fn.more=[])(hn:ws.length=fn.nparams)
  (h:W (sem F prim) (sloop F prim) hp.length fn.code ⟨(t,.pv s p)::params 0 ws,hp⟩ (ztv hp.length H)):sem F prim .dfr g (.pv s p::ws) hp=some (.ret (.tuple []),H):=by
 rw[zsl]
 unfold adefer
 simp only[hf,hr,hmo,hn,ne_eq,not_true_eq_false,if_false]
 unfold W at h
 split at h
 ·rename_i e st he
  rw[he]
  cases e with
  |normal=>rw[<-h]
  |ret=>rw[<-h]
  |exit i=>exact h.elim
  |panic v=>exact h.elim
 ·exact h.elim
def zt:Tm:=.mk 0 0 [] []
theorem zrn(H:Heap):sem (find tab) prim .dfr 85 [.pv none .niliface,.ptr 1 0,.ptr 3 0] H=some (.ret (.tuple []),H):=by
 refine zl6 (t:=5) rfl rfl rfl rfl ?_
 have hin:zfl true [.pv none .niliface]=some (.pv none (.bool false)):=rfl
 simp -dsimp -implicitDefEqProofs only[go_sem,seval,↓reduceIte,hin,zfD,List.append_assoc,zae,zac,zaf,zad,Nat.add_assoc,List.length_append]
 try simp
def zG:AV:=.agg [(none,.pv none (.int .i64 0)),(none,.pv none (.int .i64 0)),(none,.pv none (.str [])),(none,.tsl (some 4) [])]
theorem zpA(x0 x2:AObj)(v:AV)(c:Bool):sem (find tab) prim .dfr 85 [.pv none noG,.ptr 1 0,.ptr 3 0] [x0,.box (some 4) v,x2,.box none (.pv none (.bool c))]=some (.ret (.tuple []),[x0,.box (some 4) zG,x2,.box none (.pv none (.bool false))]):=by
 refine zl6 (t:=5) rfl rfl rfl rfl ?_
 have hin:zfl true [.pv none noG]=some (.pv none (.bool true)):=rfl
 have has:∀z,zd7 116 (some 0) z true [.pv none noG]=some (.tuple [.pv (some 0) (.agg []),.pv none (.bool true)]):=fun _=>rfl
 have hz0:zaJ [(none,.pv none (.int .i64 0)),(none,.pv none (.int .i64 0)),(none,.pv none (.str [])),(none,.tsl (some 4) [])] [] []=some zG:=rfl
 have hst:∀X:AObj,zar (some 4) 4 [x0,.box (some 4) v,x2,.box none (.pv none (.bool c)),X] [.ptr 1 0,zG]=some (.undef,[x0,.box (some 4) zG,x2,.box none (.pv none (.bool c)),X]):=fun X=>by
  simp[zar,astore,zG,AV.plain,AV.shp,AV.refsIn,AV.refsIn.go,total,Sh.size]
 simp -dsimp -implicitDefEqProofs only[go_sem,seval,↓reduceIte,hin,has,hz0,hst,zfD,zab (Nat.zero_le _),List.append_assoc,zae,zac,zaf,zad,Nat.add_assoc,List.length_append]
 try rfl
def cv(t:Tm):Option Tm:=cvF t.size t
theorem znl(t:Tm)(hv:t.valid=true)(hp:Heap):S 75 [t.av] hp=some (.ret (.tuple [((cv t).getD zt).av,.pv none (.bool (cv t).isSome)]),hp):=by
 refine zjR rfl rfl rfl (zaa [(some 4,t.pv)]) rfl rfl ?_
 have h1:=fun hp=>zri t.size t (Nat.le_refl _) hv hp
 have hz0:zaJ [(none,.pv none (.int .i64 0)),(none,.pv none (.int .i64 0)),(none,.pv none (.str [])),(none,.tsl (some 4) [])] [] []=some zG:=rfl
 unfold cv
 cases e:cvF t.size t with
 |none=>
  rw[e] at h1
  simp only[resB,Tm.av] at h1
  simp -dsimp -implicitDefEqProofs only[go_sem,seval,↓reduceIte,Tm.av,h1,hz0,(fun A=>rfl:∀A:Prop,panK true A=A),zab (Nat.zero_le _),zaL,zik,zgw,zl5,zhm,List.append_assoc,zae,zac,zaf,zad,Nat.add_assoc,List.length_append]
  refine⟨rfl,85,[],[.ptr 1 0,.ptr 3 0],rfl,_,_,_,zpA _ _ _ _,rfl,?_⟩
  exact⟨_,rfl⟩
 |some g=>
  rw[e] at h1
  simp only[resB,Tm.av] at h1
  simp -dsimp -implicitDefEqProofs only[go_sem,seval,↓reduceIte,Tm.av,h1,hz0,(fun A=>rfl:∀A:Prop,panK true A=A),zab (Nat.zero_le _),zaL,zik,zgw,zl5,zhm,List.append_assoc,zae,zac,zaf,zad,Nat.add_assoc,List.length_append]
  refine⟨rfl,85,[],[.ptr 1 0,.ptr 3 0],rfl,_,_,_,zrn _,rfl,?_⟩
  exact⟨_,rfl⟩
def zd3(t:Tm):Option Tm:=if t.valid=true then match cv t with
 |some g=>if 2000<g.size then none else some g
 |none=>none
 else none
theorem zro:∀(n:Nat) (t g:Tm),cvF n t=some g->g.size<=2*t.size:=by
 intro n
 induction n with
 |zero=>intro t g h;cases h
 |succ n ih=>
  intro t g h
  rw[cvF] at h
  split at h
  ·cases h
   rw[Tm.size_eq]
   show 1+(t.size+0)<=_
   have:=t.size_eq
   omega
  ·split at h
   ·split at h
    ·rename_i a b hab
     split at h
     ·cases h
     ·rename_i x hx
      split at h
      ·cases h
      ·rename_i y hy
       cases h
       have h1:=ih _ _ hx
       have h2:=ih _ _ hy
       have e:t.size=1+(a.size+(b.size+0)):=by rw[Tm.size_eq,hab];rfl
       rw[Tm.size_eq]
       show 1+(x.size+(y.size+0))<=_
       omega
    ·cases h
   ·split at h
    ·cases h
     omega
    ·cases h
theorem zsK(t:Tm)(hz:t.size<100000000)(hp:Heap):S 54 [t.av] hp=some (.ret (.tuple [((zd3 t).getD zt).av,.pv none (.bool (zd3 t).isSome)]),hp):=by
 refine zaj rfl rfl rfl (zaa [(some 4,t.pv)]) rfl ?_
 have h1:=fun hp=>zeU t hp (by omega)
 have hz0:zaJ [(none,.pv none (.int .i64 0)),(none,.pv none (.int .i64 0)),(none,.pv none (.str [])),(none,.tsl (some 4) [])] [] []=some (.agg [(none,.pv none (.int .i64 0)),(none,.pv none (.int .i64 0)),(none,.pv none (.str [])),(none,.tsl (some 4) [])]):=rfl
 simp only[Tm.av] at h1
 by_cases hv:t.valid=true
 rotate_left
 ·have hv':t.valid=false:=by simpa using hv
  have e:zd3 t=none:=by unfold zd3;rw[if_neg hv]
  rw[e]
  simp -dsimp -implicitDefEqProofs only[go_sem,seval,↓reduceIte,Tm.av,h1,hv',hz0,zab (Nat.zero_le _),List.append_assoc,zae,zac,zaf,zad,Nat.add_assoc,List.length_append]
  exact⟨_,rfl⟩
 have h2:=fun hp=>znl t hv hp
 have vz:=zbd hv
 cases ec:cv t with
 |none=>
  have e:zd3 t=none:=by unfold zd3;rw[if_pos hv,ec]
  rw[ec] at h2
  simp only[Option.getD_none,Option.isSome_none,Tm.av] at h2
  rw[e]
  simp -dsimp -implicitDefEqProofs only[go_sem,seval,↓reduceIte,Tm.av,h1,h2,hv,hz0,zab (Nat.zero_le _),List.append_assoc,zae,zac,zaf,zad,Nat.add_assoc,List.length_append]
  exact⟨_,rfl⟩
 |some g=>
  have gz:=zro _ _ _ ec
  rw[ec] at h2
  have h3:=fun hp=>zir g hp (by omega)
  simp only[Option.getD_some,Option.isSome_some,Tm.av] at h2 h3
  by_cases hg:2000<g.size
  ·have e:zd3 t=none:=by unfold zd3;rw[if_pos hv,ec];exact if_pos hg
   have hm:min g.size 2001=2001:=by omega
   rw[hm] at h3
   have hc:(2000:Int)<((2001:Nat):Int):=by decide
   rw[e]
   simp -dsimp -implicitDefEqProofs only[go_sem,seval,↓reduceIte,Tm.av,h1,h2,h3,hc,hv,hz0,zab (Nat.zero_le _),List.append_assoc,zae,zac,zaf,zad,Nat.add_assoc,List.length_append]
   exact⟨_,rfl⟩
  ·have e:zd3 t=some g:=by unfold zd3;rw[if_pos hv,ec];exact if_neg hg
   have hm:min g.size 2001=g.size:=by omega
   rw[hm] at h3
   have hc:¬(2000:Int)<(g.size:Int):=by omega
   rw[e]
   simp -dsimp -implicitDefEqProofs only[go_sem,seval,↓reduceIte,Tm.av,h1,h2,h3,hc,hv,hz0,zab (Nat.zero_le _),List.append_assoc,zae,zac,zaf,zad,Nat.add_assoc,List.length_append]
   exact⟨_,rfl⟩
theorem zeV{L:List Int}:∀t:Tm,t.fits=true->(Tm.sub (cPos L) t).size=t.size:=by
 intro t
 induction t using Tm.zt6 with
 |h t ih=>
  intro hf
  rw[Tm.zui]
  by_cases hk:t.kind=0
  ·rw[if_pos hk,zeS hf hk]
   rfl
  ·rw[if_neg hk,Tm.size_eq,t.size_eq]
   congr 1
   have hargs:∀u∈t.args,(Tm.sub (cPos L) u).size=u.size:=fun u hu=>ih u hu (Tm.zt7 hf hu)
   show Tm.sizes (t.args.map (Tm.sub (cPos L)))=_
   generalize t.args=l at hargs
   clear ih
   induction l with
   |nil=>rfl
   |cons x r ihl=>
    rw[List.map_cons,Tm.sizes,Tm.sizes,hargs x List.mem_cons_self,ihl fun u hu=>hargs u (List.mem_cons_of_mem _ hu)]
theorem zrJ(c:Cz)(h1:c.head.size<100000000)(h2:c.body.size<100000000)(hp:Heap):S 53 [c.av] hp=some (.ret (.pv none (.bool (decide (c.head.size+c.body.size<=2000)))),hp):=by
 refine zaj rfl rfl rfl (zaa [(some 8,c.pv)]) rfl ?_
 have a1:=fun hp=>zir c.head hp (by omega)
 have a2:=fun hp=>zir c.body hp (by omega)
 have w1:IntKind.i64.wrap (((min c.head.size 2001:Nat):Int)+((min c.body.size 2001:Nat):Int))=((min c.head.size 2001+min c.body.size 2001:Nat):Int):=by rw[zaF (by omega) (by omega)];omega
 simp only[Tm.av] at a1 a2
 have e:decide (c.head.size+c.body.size<=2000)=decide (((min c.head.size 2001+min c.body.size 2001:Nat):Int)<=2000):=by
  rw[decide_eq_decide]
  omega
 rw[e]
 simp -dsimp -implicitDefEqProofs only[go_sem,seval,↓reduceIte,Cz.av,zaT,zaU,a1,a2,w1,List.append_assoc,zae,zac,zaf,zad,Nat.add_assoc,List.length_append]
def okC(c:Cz):Bool:=c.head.valid && ((decide (c.head.kind=2) || decide (c.head.kind=3)) && (decide (c.head.size+c.body.size<=2000) && ((match zd3 c.body with|some g=>same g c.body|none=>false) && (decide (c.vars.length<=64) && (same c.can.head c.head && same c.can.body c.body)))))
theorem zho{t g:Tm}(h:zd3 t=some g):t.valid=true/\g.size<=2000:=by
 unfold zd3 at h
 split at h
 ·rename_i hv
  split at h
  ·split at h
   ·cases h
   ·cases h
    exact⟨hv,by omega⟩
  ·cases h
 ·cases h
theorem zb9(c:Cz)(z1:c.head.size<100000000)(z2:c.body.size<100000000)(hp:Heap):S 30 [c.av] hp=some (.ret (.pv none (.bool (okC c))),hp):=by
 refine zaj rfl rfl rfl (zaa [(some 8,c.pv)]) rfl ?_
 have h1:=fun hp=>zeU c.head hp (by omega)
 have h2:=fun hp=>zgr c.head hp
 have h3:=fun hp=>zrJ c z1 z2 hp
 have h4:=fun hp=>zsK c.body z2 hp
 simp only[Tm.av,Cz.av] at h1 h2 h3 h4
 by_cases b1:c.head.valid=true
 rotate_left
 ·have b1':c.head.valid=false:=by simpa using b1
  have e:okC c=false:=by simp[okC,b1']
  rw[e]
  simp -dsimp -implicitDefEqProofs only[go_sem,seval,↓reduceIte,Cz.av,zaT,zaU,h1,b1',List.append_assoc,zae,zac,zaf,zad,Nat.add_assoc,List.length_append]
  done
 cases b2:(decide (c.head.kind=2) || decide (c.head.kind=3)) with
 |false=>
  have e:okC c=false:=by simp only[okC,b2,Bool.false_and,Bool.and_false]
  rw[e]
  rw[b2] at h2
  simp -dsimp -implicitDefEqProofs only[go_sem,seval,↓reduceIte,Cz.av,zaT,zaU,h1,b1,h2,List.append_assoc,zae,zac,zaf,zad,Nat.add_assoc,List.length_append]
  done
 |true=>
 rw[b2] at h2
 cases b3:decide (c.head.size+c.body.size<=2000) with
 |false=>
  have e:okC c=false:=by simp only[okC,b3,Bool.false_and,Bool.and_false]
  rw[e]
  rw[b3] at h3
  simp -dsimp -implicitDefEqProofs only[go_sem,seval,↓reduceIte,Cz.av,zaT,zaU,h1,b1,h2,h3,List.append_assoc,zae,zac,zaf,zad,Nat.add_assoc,List.length_append]
  done
 |true=>
 rw[b3] at h3
 have b3':=of_decide_eq_true b3
 cases b4:zd3 c.body with
 |none=>
  have e:okC c=false:=by simp only[okC,b4,Bool.false_and,Bool.and_false]
  rw[e]
  rw[b4] at h4
  simp only[Option.getD_none,Option.isSome_none,Tm.av] at h4
  simp -dsimp -implicitDefEqProofs only[go_sem,seval,↓reduceIte,Cz.av,zaT,zaU,h1,b1,h2,h3,h4,zab (Nat.zero_le _),List.append_assoc,zae,zac,zaf,zad,Nat.add_assoc,List.length_append]
  done
 |some g=>
 obtain⟨vb,zg⟩:=zho b4
 rw[b4] at h4
 have h5:=fun hp=>ziq g c.body hp (by omega) (by omega)
 have fh:=valid_fits b1
 have fb:=valid_fits vb
 have h6:=fun hp=>zjN c fh fb (by omega) hp
 have zh:c.can.head.size=c.head.size:=zeV _ fh
 have zb:c.can.body.size=c.body.size:=zeV _ fb
 have h7:=fun hp=>ziq c.can.head c.head hp (by omega) (by omega)
 have h8:=fun hp=>ziq c.can.body c.body hp (by omega) (by omega)
 simp only[Option.getD_some,Option.isSome_some,Tm.av,Cz.av] at h4 h5 h6 h7 h8
 cases b5:same g c.body with
 |false=>
  have e:okC c=false:=by simp only[okC,b4,b5,Bool.false_and,Bool.and_false]
  rw[e]
  rw[b5] at h5
  simp -dsimp -implicitDefEqProofs only[go_sem,seval,↓reduceIte,Cz.av,zaT,zaU,h1,b1,h2,h3,h4,h5,zab (Nat.zero_le _),List.append_assoc,zae,zac,zaf,zad,Nat.add_assoc,List.length_append]
  done
 |true=>
 rw[b5] at h5
 have e:okC c=(decide (c.vars.length<=64) && (same c.can.head c.head && same c.can.body c.body)):=by simp only[okC,b1,b2,b3,b4,b5,Bool.true_and]
 rw[e]
 by_cases b6:c.vars.length<=64
 ·have b6':(c.vars.length:Int)<=64:=by omega
  cases b7:same c.can.head c.head with
  |false=>
   rw[b7] at h7
   simp -dsimp -implicitDefEqProofs only[go_sem,seval,↓reduceIte,Cz.av,zaT,zaU,h1,b1,h2,h3,h4,h5,h6,h7,b6,b6',zab (Nat.zero_le _),List.append_assoc,zae,zac,zaf,zad,Nat.add_assoc,List.length_append]
   done
  |true=>
   rw[b7] at h7
   simp -dsimp -implicitDefEqProofs only[go_sem,seval,↓reduceIte,Cz.av,zaT,zaU,h1,b1,h2,h3,h4,h5,h6,h7,h8,b6,b6',zab (Nat.zero_le _),List.append_assoc,zae,zac,zaf,zad,Nat.add_assoc,List.length_append]
   done
 ·have b6':¬(c.vars.length:Int)<=64:=by omega
  simp -dsimp -implicitDefEqProofs only[go_sem,seval,↓reduceIte,Cz.av,zaT,zaU,h1,b1,h2,h3,h4,h5,h6,b6,b6',zab (Nat.zero_le _),List.append_assoc,zae,zac,zaf,zad,Nat.add_assoc,List.length_append]
  done
structure Sto where
 id:Int
 cl:Cz
def Sto.pv(s:Sto):PV:=.agg [(none,.int .i64 s.id),(some 8,s.cl.pv)]
def Sto.pvs(l:List Sto):List PV:=l.map Sto.pv
structure Prc where
 name:List UInt8
 ar:Int
 dyn:Bool
 cls:List Sto
def Prc.pv(p:Prc):PV:=.agg [(none,.str p.name),(none,.int .i64 p.ar),(none,.bool p.dyn),(none,.sl (some 9) (Sto.pvs p.cls))]
def Prc.av(p:Prc):AV:=.pv (some 4) p.pv
def Prc.pvs(l:List Prc):List PV:=l.map Prc.pv
structure Dbs where
 next:Int
 procs:List Prc
def Dbs.pv(d:Dbs):PV:=.agg [(none,.int .i64 d.next),(none,.sl (some 4) (Prc.pvs d.procs))]
def Dbs.av(d:Dbs):AV:=.pv (some 2) d.pv
theorem Sto.pvs_len(l:List Sto):(Sto.pvs l).length=l.length:=by simp[Sto.pvs]
theorem Prc.pvs_len(l:List Prc):(Prc.pvs l).length=l.length:=by simp[Prc.pvs]
theorem Sto.pvs_get{l:List Sto}{i:Nat}{s:Sto}(h:l[i]? =some s):(Sto.pvs l)[i]? =some s.pv:=by simp[Sto.pvs,h]
theorem Prc.pvs_get{l:List Prc}{i:Nat}{s:Prc}(h:l[i]? =some s):(Prc.pvs l)[i]? =some s.pv:=by simp[Prc.pvs,h]
theorem zcf(s:Sto):PV.part deep s.pv 0 none=some (.int .i64 s.id):=rfl
theorem zcW(s:Sto):PV.part deep s.pv 1 (some 8)=some s.cl.pv:=by cases s with|mk i c=>cases c;rfl
theorem za0(p:Prc):PV.part deep p.pv 0 none=some (.str p.name):=rfl
theorem zb8(p:Prc):PV.part deep p.pv 1 none=some (.int .i64 p.ar):=rfl
theorem zei(p:Prc):PV.part deep p.pv 3 none=some (.sl (some 9) (Sto.pvs p.cls)):=rfl
theorem zaE(d:Dbs):PV.part deep d.pv 0 none=some (.int .i64 d.next):=rfl
theorem zaH(d:Dbs):PV.part deep d.pv 1 none=some (.sl (some 4) (Prc.pvs d.procs)):=rfl
def strC(a b:List UInt8):Int:=if Op.bytesLess a b=true then -1 else if a=b then 0 else 1
def intC(a b:Int):Int:=if a<b then -1 else if b<a then 1 else 0
theorem zsL(a b:List UInt8)(hp:Heap):S 67 [.pv none (.str a),.pv none (.str b)] hp=some (.ret (.pv none (.int .i64 (strC a b))),hp):=by
 refine zaj rfl rfl rfl (zaa [(none,.str a),(none,.str b)]) rfl ?_
 have hn:∀(x:List UInt8) (hp:Heap),S 82 [.pv none (.str x)] hp=some (.ret (.pv none (.bool false)),hp):=fun x hp=>by
  refine zaj rfl rfl rfl (zaa [(none,.str x)]) rfl ?_
  simp -dsimp -implicitDefEqProofs only[go_sem,seval,↓reduceIte,List.append_assoc,zae,zac,zaf,zad,Nat.add_assoc,List.length_append]
  try simp
 have hg:zdp .gtr a b=some (.bool (!(Op.bytesLess a b || decide (a=b)))):=rfl
 unfold strC
 cases h1:Op.bytesLess a b with
 |true=>simp -dsimp -implicitDefEqProofs only[go_sem,seval,↓reduceIte,hn,h1,List.append_assoc,zae,zac,zaf,zad,Nat.add_assoc,List.length_append]
 |false=>
  rw[h1] at hg
  by_cases h2:a=b
  ·rw[decide_eq_true h2] at hg
   have hg':zdp .gtr a b=some (.bool false):=hg
   rw[if_neg (by decide),if_pos h2]
   simp -dsimp -implicitDefEqProofs only[go_sem,seval,↓reduceIte,hn,h1,hg',List.append_assoc,zae,zac,zaf,zad,Nat.add_assoc,List.length_append]
  ·rw[decide_eq_false h2] at hg
   have hg':zdp .gtr a b=some (.bool true):=hg
   rw[if_neg (by decide),if_neg h2]
   simp -dsimp -implicitDefEqProofs only[go_sem,seval,↓reduceIte,hn,h1,hg',List.append_assoc,zae,zac,zaf,zad,Nat.add_assoc,List.length_append]
theorem zsM(a b:Int)(hp:Heap):S 68 [.pv none (.int .i64 a),.pv none (.int .i64 b)] hp=some (.ret (.pv none (.int .i64 (intC a b))),hp):=by
 refine zaj rfl rfl rfl (zaa [(none,.int .i64 a),(none,.int .i64 b)]) rfl ?_
 have hn:∀(x:Int) (hp:Heap),S 83 [.pv none (.int .i64 x)] hp=some (.ret (.pv none (.bool false)),hp):=fun x hp=>by
  refine zaj rfl rfl rfl (zaa [(none,.int .i64 x)]) rfl ?_
  simp -dsimp -implicitDefEqProofs only[go_sem,seval,↓reduceIte,List.append_assoc,zae,zac,zaf,zad,Nat.add_assoc,List.length_append]
  try simp
 unfold intC
 by_cases h1:a<b
 ·simp -dsimp -implicitDefEqProofs only[go_sem,seval,↓reduceIte,hn,h1,List.append_assoc,zae,zac,zaf,zad,Nat.add_assoc,List.length_append]
 ·by_cases h2:b<a
  ·simp -dsimp -implicitDefEqProofs only[go_sem,seval,↓reduceIte,hn,h1,h2,List.append_assoc,zae,zac,zaf,zad,Nat.add_assoc,List.length_append]
  ·simp -dsimp -implicitDefEqProofs only[go_sem,seval,↓reduceIte,hn,h1,h2,List.append_assoc,zae,zac,zaf,zad,Nat.add_assoc,List.length_append]
theorem zrq(s:List UInt8)(a:Int)(hp:Heap):S 40 [.pv none (.str s),.pv none (.int .i64 a)] hp=some (.ret (.pv none (.bool (decide (s.length<=100) && (decide (0<=a) && decide (a<=8))))),hp):=by
 refine zaj rfl rfl rfl (zaa [(none,.str s),(none,.int .i64 a)]) rfl ?_
 by_cases h1:s.length<=100
 ·have h1':(s.length:Int)<=100:=by omega
  by_cases h2:0<=a
  ·simp -dsimp -implicitDefEqProofs only[go_sem,seval,↓reduceIte,h1,h1',h2,List.append_assoc,zae,zac,zaf,zad,Nat.add_assoc,List.length_append]
  ·simp -dsimp -implicitDefEqProofs only[go_sem,seval,↓reduceIte,h1,h1',h2,List.append_assoc,zae,zac,zaf,zad,Nat.add_assoc,List.length_append]
 ·have h1':¬(s.length:Int)<=100:=by omega
  simp -dsimp -implicitDefEqProofs only[go_sem,seval,↓reduceIte,h1,h1',List.append_assoc,zae,zac,zaf,zad,Nat.add_assoc,List.length_append]
def ordP(p q:Prc):Int:=if strC p.name q.name=0 then intC p.ar q.ar else strC p.name q.name
theorem ztW(a b:Int)(hp:Heap):S 66 [.pv none (.sl none [.int .i64 a,.int .i64 b])] hp=some (.ret (.pv none (.int .i64 (if a=0 then b else a))),hp):=by
 refine zaj rfl rfl rfl (zaa [(none,.sl none [.int .i64 a,.int .i64 b])]) rfl ?_
 have hl:([.int .i64 a,.int .i64 b]:List PV).length=2:=rfl
 simp -dsimp -implicitDefEqProofs only[go_sem,seval,↓reduceIte,hl,List.append_assoc,zae,zac,zaf,zad,Nat.add_assoc,List.length_append]
 have e2:((2:Nat):Int)=2:=rfl
 have e1:((1:Nat):Int)=1:=rfl
 have e0:((0:Nat):Int)=0:=rfl
 refine zcj (α:=Unit) 2 (fun i _=>(0<i->a=0)/\(1<i->b=0)) (fun i _=>⟨[(3,.pv none (.int .i64 0)),(6,.pv none (.sl none [.int .i64 a,.int .i64 b])),(7,.pv none (.int .i64 2)),(8,.pv none (.int .i64 i))],[]⟩) () ⟨⟨by omega,by omega⟩,rfl⟩ ?_ ?_
 ·rintro i - h ⟨ha,hb⟩
  match i,h with
  |0,_=>
   have c2:(0:Int)<2:=by decide
   have w2:IntKind.i64.wrap ((0:Int)+1)=((0+1:Nat):Int):=by decide
   have g:zaR none [.pv none (.sl none [.int .i64 a,.int .i64 b]),.pv none (.int .i64 0)]=some (.iptr none (.int .i64 a) 0):=rfl
   by_cases h0:a=0
   ·have h0':=eq_true h0
    simp -dsimp -implicitDefEqProofs only[go_sem,seval,↓reduceIte,e0,c2,w2,g,h0',List.append_assoc,zae,zac,zaf,zad,Nat.add_assoc,List.length_append]
    refine⟨(),⟨fun _=>trivial,fun h=>absurd h (by decide)⟩,rfl⟩
   ·simp -dsimp -implicitDefEqProofs only[go_sem,seval,↓reduceIte,e0,c2,w2,g,h0,List.append_assoc,zae,zac,zaf,zad,Nat.add_assoc,List.length_append]
    try rw[if_neg h0]
    try exact⟨_,rfl⟩
  |1,_=>
   have h0:=ha (by omega)
   have c2:(1:Int)<2:=by decide
   have w2:IntKind.i64.wrap ((1:Int)+1)=((1+1:Nat):Int):=by decide
   have g:zaR none [.pv none (.sl none [.int .i64 a,.int .i64 b]),.pv none (.int .i64 1)]=some (.iptr none (.int .i64 b) 0):=rfl
   by_cases h1:b=0
   ·have h1':=eq_true h1
    simp -dsimp -implicitDefEqProofs only[go_sem,seval,↓reduceIte,e1,c2,w2,g,h1',List.append_assoc,zae,zac,zaf,zad,Nat.add_assoc,List.length_append]
    refine⟨(),⟨fun _=>h0,fun _=>trivial⟩,rfl⟩
   ·rw[if_pos h0]
    simp -dsimp -implicitDefEqProofs only[go_sem,seval,↓reduceIte,e1,c2,w2,g,h1,List.append_assoc,zae,zac,zaf,zad,Nat.add_assoc,List.length_append]
    try exact⟨_,rfl⟩
 ·rintro - ⟨ha,hb⟩
  have h0:=ha (by omega)
  have h1:=hb (by omega)
  have c2:¬(2:Int)<2:=by decide
  rw[if_pos h0,h1]
  simp -dsimp -implicitDefEqProofs only[go_sem,seval,↓reduceIte,e2,c2,List.append_assoc,zae,zac,zaf,zad,Nat.add_assoc,List.length_append]
  try exact⟨_,rfl⟩
theorem zlW(p q:Prc)(hp:Heap):S 41 [p.av,q.av] hp=some (.ret (.pv none (.int .i64 (ordP p q))),hp):=by
 refine zaj rfl rfl rfl (zaa [(some 4,p.pv),(some 4,q.pv)]) rfl ?_
 have h1:=fun hp=>zsL p.name q.name hp
 have h2:=fun hp=>zsM p.ar q.ar hp
 have h3:=fun hp=>ztW (strC p.name q.name) (intC p.ar q.ar) hp
 unfold ordP
 simp -dsimp -implicitDefEqProofs only[go_sem,seval,↓reduceIte,Prc.av,za0,zb8,h1,h2,h3,List.append_assoc,zae,zac,zaf,zad,Nat.add_assoc,List.length_append]
 done
def totD(l:List Prc):Nat:=(l.map fun p=>p.cls.length).sum
theorem zpE{l:List Prc}{i:Nat}{p:Prc}(h:l[i]? =some p):totD (l.take (i+1))=totD (l.take i)+p.cls.length:=by
 unfold totD
 rw[List.take_add_one,h]
 simp
theorem zsN{l:List Prc}(i:Nat):totD (l.take i)<=totD l:=by
 have:=List.take_append_drop i l
 have e:totD l=totD (l.take i)+totD (l.drop i):=by
  unfold totD
  rw[<-List.sum_append,<-List.map_append,this]
 omega
theorem zdk(d:Dbs)(h1:d.procs.length<1000000000)(h2:totD d.procs<1000000000)(hp:Heap):S 32 [d.av] hp=some (.ret (.pv none (.int .i64 (totD d.procs:Int))),hp):=by
 refine zaj rfl rfl rfl (zaa [(some 2,d.pv)]) rfl ?_
 simp -dsimp -implicitDefEqProofs only[go_sem,seval,↓reduceIte,Dbs.av,zaH,Prc.pvs_len,List.append_assoc,zae,zac,zaf,zad,Nat.add_assoc,List.length_append]
 refine zcj (α:=Unit) d.procs.length (fun _ _=>True) (fun i _=>⟨[(3,.pv none (.int .i64 (totD (d.procs.take i):Int))),(7,.pv none (.sl (some 4) (Prc.pvs d.procs))),(8,.pv none (.int .i64 d.procs.length)),(9,.pv none (.int .i64 i))],[.box (some 2) (.pv (some 2) d.pv)]⟩) () ⟨trivial,rfl⟩ ?_ ?_
 ·rintro i - h -
  have hc:(i:Int)<(d.procs.length:Int):=by omega
  obtain⟨p,hpp⟩:∃p,d.procs[i]? =some p:=⟨_,List.getElem?_eq_getElem h⟩
  have ht:=zpE hpp
  have hle:=zsN (l:=d.procs) (i+1)
  have w1:IntKind.i64.wrap ((i:Int)+1)=((i+1:Nat):Int):=by rw[zaF (by omega) (by omega)];omega
  have w2:IntKind.i64.wrap ((totD (d.procs.take i):Int)+(p.cls.length:Int))=(totD (d.procs.take (i+1)):Int):=by rw[zaF (by omega) (by omega)];omega
  simp -dsimp -implicitDefEqProofs only[go_sem,seval,↓reduceIte,hc,w1,w2,zai (Prc.pvs_get hpp),zei,Sto.pvs_len,zab (Nat.zero_le _),List.append_assoc,zae,zac,zaf,zad,Nat.add_assoc,List.length_append]
  exact⟨(),rfl⟩
 ·rintro - -
  have hc:¬(d.procs.length:Int)<(d.procs.length:Int):=by omega
  simp -dsimp -implicitDefEqProofs only[go_sem,seval,↓reduceIte,hc,List.take_length,List.append_assoc,zae,zac,zaf,zad,Nat.add_assoc,List.length_append]
  done
def zcX(l:List Int):List (Int × PV):=l.map fun v=>(v,.int .i64 1)
theorem zhl(v:Int)(l:List Int):zdl v (zcX l)=if v∈l then some (.int .i64 1) else none:=by
 induction l with
 |nil=>rfl
 |cons x r ih=>
  show zdl v ((x,.int .i64 1)::zcX r)=_
  rw[zdl,ih]
  by_cases h:x=v
  ·subst h
   simp
  ·have h':¬v=x:=fun e=>h e.symm
   simp[h,h']
theorem zgu(v:Int):∀(l:List Int),v ∉ l->mPut v (.int .i64 1) (zcX l)=zcX (l++[v])
 |[],_=>rfl
 |x::r,h=>by
  have h':¬x=v:=fun e=>h (by rw[e];exact List.mem_cons_self)
  have ih:=zgu v r fun hm=>h (List.mem_cons_of_mem _ hm)
  show mPut v (.int .i64 1) ((x,.int .i64 1)::zcX r)=_
  rw[mPut,if_neg h',ih]
  rfl
def namB(p:Prc):Bool:=decide (p.name.length<=100) && (decide (0<=p.ar) && decide (p.ar<=8))
def okSt(next:Int)(p:Prc)(seen:List Int)(s:Sto):Bool:=decide (1<=s.id) && (decide (s.id<next) && (decide (s.id ∉ seen) && (okC s.cl && (decide (s.cl.head.name=p.name) && decide ((s.cl.head.args.length:Int)=p.ar)))))
def okSs(next:Int)(p:Prc):List Int->List Sto->Option (List Int)
 |seen,[]=>some seen
 |seen,s::r=>if okSt next p seen s=true then okSs next p (seen++[s.id]) r else none
def preB:Option Prc->Prc->Bool
 |none,_=>true
 |some q,p=>decide (ordP q p<0)
def okPs(next:Int):Option Prc->List Int->List Prc->Bool
 |_,_,[]=>true
 |q,seen,p::r=>namB p && (preB q p && match okSs next p seen p.cls with
  |none=>false
  |some s=>okPs next (some p) s r)
def okD(d:Dbs):Bool:=decide (1<=d.next) && (decide (d.next<=4294967296) && (decide (d.procs.length<=500) && (decide (totD d.procs<=500) && okPs d.next none [] d.procs)))
theorem zcJ{l:List Prc}{p:Prc}(h:p∈l):p.cls.length<=totD l:=by
 induction l with
 |nil=>cases h
 |cons x r ih=>
  have e:totD (x::r)=x.cls.length+totD r:=by simp[totD]
  rcases List.mem_cons.1 h with rfl|h
  ·omega
  ·have:=ih h
   omega
theorem zfO{α:Type}{l:List α}{i:Nat}{x:α}(h:l[i]? =some x):l.drop i=x::l.drop (i+1):=by
 have hlt:=(List.getElem?_eq_some_iff.1 h).1
 rw[List.drop_eq_getElem_cons hlt,(List.getElem?_eq_some_iff.1 h).2]
def vM(d:Dbs)(m:List (Int × PV)):Heap:=[.box (some 2) (.pv (some 2) d.pv),.map none (zbI m)]
def vH(d:Dbs)(seen:List Int):Heap:=vM d (zcX seen)
theorem zbb(s:Sto):PV.part deep s.pv 3 none=some (.str s.cl.head.name):=by
 cases s with|mk i c=>cases c with|mk h b=>cases h;rfl
theorem zbc(s:Sto):PV.part deep s.pv 4 none=some (.sl (some 4) (Tm.pvs s.cl.head.args)):=by
 cases s with|mk i c=>cases c with|mk h b=>cases h;rfl
theorem zrr{m:List (Int × PV)}{hp:Heap}{r:Nat}{s:Sh}{v:Int}(h:hp[r]? =some (.map none (zbI m))):za8 false none (.pv none (.int .i64 0)) false hp [.map r,.pv s (.int .i64 v)]=some (match zdl v m with|some x=>.pv none x|none=>.pv none (.int .i64 0)):=by
 have hf:=zfk v m
 cases hm:zdl v m with
 |none=>rw[hm] at hf;exact zeL h hf
 |some x=>rw[hm] at hf;exact zeK h hf
set_option maxRecDepth 20000 in
theorem zby(d:Dbs)(hl:d.procs.length<1000000000)(ht:totD d.procs<1000000000)(hz:∀p∈d.procs,∀s∈p.cls,s.cl.head.size<100000000/\s.cl.body.size<100000000)(hp:Heap):S 15 [d.av] hp=some (.ret (.pv none (.bool (okD d))),hp):=by
 refine zaj rfl rfl rfl (zaa [(some 2,d.pv)]) rfl ?_
 have h1:=fun hp=>zdk d hl ht hp
 simp only[Dbs.av] at h1
 by_cases b1:d.next<1
 ·have e:okD d=false:=by
   have:¬1<=d.next:=by omega
   simp[okD,this]
  rw[e]
  simp -dsimp -implicitDefEqProofs only[go_sem,seval,↓reduceIte,Dbs.av,zaE,zaH,b1,Prc.pvs_len,List.append_assoc,zae,zac,zaf,zad,Nat.add_assoc,List.length_append]
  done
 by_cases b2:4294967296<d.next
 ·have e:okD d=false:=by
   have:¬d.next<=4294967296:=by omega
   simp[okD,this]
  rw[e]
  simp -dsimp -implicitDefEqProofs only[go_sem,seval,↓reduceIte,Dbs.av,zaE,zaH,b1,b2,Prc.pvs_len,List.append_assoc,zae,zac,zaf,zad,Nat.add_assoc,List.length_append]
  done
 by_cases b3:(500:Int)<(d.procs.length:Int)
 ·have e:okD d=false:=by
   have:¬d.procs.length<=500:=by omega
   simp[okD,this]
  rw[e]
  simp -dsimp -implicitDefEqProofs only[go_sem,seval,↓reduceIte,Dbs.av,zaE,zaH,b1,b2,b3,Prc.pvs_len,List.append_assoc,zae,zac,zaf,zad,Nat.add_assoc,List.length_append]
  done
 by_cases b4:(500:Int)<(totD d.procs:Int)
 ·have e:okD d=false:=by
   have:¬totD d.procs<=500:=by omega
   simp[okD,this]
  rw[e]
  simp -dsimp -implicitDefEqProofs only[go_sem,seval,↓reduceIte,Dbs.av,zaE,zaH,b1,b2,b3,b4,h1,Prc.pvs_len,List.append_assoc,zae,zac,zaf,zad,Nat.add_assoc,List.length_append]
  done
 obtain⟨R,hR⟩:∃R,R=okPs d.next none [] d.procs:=⟨_,rfl⟩
 have e:okD d=R:=by
  have c1:1<=d.next:=by omega
  have c2:d.next<=4294967296:=by omega
  have c3:d.procs.length<=500:=by omega
  have c4:totD d.procs<=500:=by omega
  rw[hR]
  simp[okD,c1,c2,c3,c4]
 rw[e]
 simp -dsimp -implicitDefEqProofs only[go_sem,seval,↓reduceIte,Dbs.av,zaE,zaH,b1,b2,b3,b4,h1,Prc.pvs_len,List.append_assoc,zae,zac,zaf,zad,Nat.add_assoc,List.length_append]
 refine zcj (α:=List Int) d.procs.length (fun i seen=>R=okPs d.next (if i=0 then none else d.procs[i - 1]?) seen (d.procs.drop i)) (fun i seen=>⟨[(1,.ptr 0 0),(3,.map 1),(4,.pv none (.bool true)),(30,.pv none (.sl (some 4) (Prc.pvs d.procs))),(31,.pv none (.int .i64 d.procs.length)),(32,.pv none (.int .i64 i))],vH d seen⟩) [] ⟨by rw[hR];rfl,rfl⟩ ?_ ?_
 ·rintro i seen h hinv
  have hc:(i:Int)<(d.procs.length:Int):=by omega
  have w1:IntKind.i64.wrap ((i:Int)+1)=((i+1:Nat):Int):=by rw[zaF (by omega) (by omega)];omega
  obtain⟨p,hpp⟩:∃p,d.procs[i]? =some p:=⟨_,List.getElem?_eq_getElem h⟩
  have hpm:=List.mem_of_getElem? hpp
  have hpl:=zcJ hpm
  have h2:=fun hp=>zrq p.name p.ar hp
  rw[zfO hpp,okPs] at hinv
  have hvl:(vH d seen).length=2:=rfl
  have hg0:∀X,(vH d seen++X)[0]? =some (.box (some 2) (.pv (some 2) d.pv)):=fun _=>rfl
  obtain⟨V,hV⟩:∃V,V=vH d seen:=⟨_,rfl⟩
  rw[<-hV] at hvl hg0 ⊢
  have h2:∀hp,S 40 [.pv none (.str p.name),.pv none (.int .i64 p.ar)] hp=some (.ret (.pv none (.bool (namB p))),hp):=h2
  by_cases nb:namB p=true
  rotate_left
  ·have nb':namB p=false:=by simpa using nb
   have hR0:R=false:=by rw[hinv,nb'];rfl
   rw[nb'] at h2
   rw[hR0]
   simp -dsimp -implicitDefEqProofs only[go_sem,seval,↓reduceIte,hc,w1,zai (Prc.pvs_get hpp),za0,zb8,h2,hvl,hg0,zab (Nat.zero_le _),List.append_assoc,zae,zac,zaf,zad,Nat.add_assoc,List.length_append,getN hvl,zeI hvl,setN hvl,zeJ hvl]
   done
  rw[nb,Bool.true_and] at hinv
  rw[nb] at h2
  have hcase:(¬0<(i:Int)/\preB (if i=0 then none else d.procs[i - 1]?) p=true)\/∃q,0<(i:Int)/\zaR (some 4) [.pv none (.sl (some 4) (Prc.pvs d.procs)),.pv none (.int .i64 (IntKind.i64.wrap ((i:Int) - 1)))]=some (.iptr (some 4) q.pv 0)/\(∀hp,S 41 [.pv (some 4) q.pv,.pv (some 4) p.pv] hp=some (.ret (.pv none (.int .i64 (ordP q p))),hp))/\preB (if i=0 then none else d.procs[i - 1]?) p=decide (ordP q p<0):=by
   by_cases i0:i=0
   ·left
    refine⟨by omega,?_⟩
    rw[if_pos i0]
    rfl
   ·right
    obtain⟨q,hq⟩:∃q,d.procs[i - 1]? =some q:=⟨_,List.getElem?_eq_getElem (by omega)⟩
    have w3:IntKind.i64.wrap ((i:Int) - 1)=((i - 1:Nat):Int):=by rw[zaF (by omega) (by omega)];omega
    refine⟨q,by omega,by rw[w3];exact zai (Prc.pvs_get hq),fun hp=>zlW q p hp,?_⟩
    rw[if_neg i0,hq]
    rfl
  have hbad:∀q:Prc,preB (if i=0 then none else d.procs[i - 1]?) p=decide (ordP q p<0)->0<=ordP q p->R=false:=fun q h1 h2=>by
   rw[hinv,h1,decide_eq_false (by omega)]
   rfl
  have hgood:preB (if i=0 then none else d.procs[i - 1]?) p=true->R=match okSs d.next p seen p.cls with|none=>false|some s=>okPs d.next (some p) s (d.procs.drop (i+1)):=fun h1=>by
   rw[hinv,h1,Bool.true_and]
  rcases hcase with⟨i0,hpb⟩|⟨q,i0,hia,hoq,hpb⟩
  rotate_left
  ·by_cases ho:0<=ordP q p
   ·rw[hbad q hpb ho]
    simp -dsimp -implicitDefEqProofs only[go_sem,seval,↓reduceIte,hc,w1,i0,hia,hoq,ho,zai (Prc.pvs_get hpp),za0,zb8,zaH,h2,hvl,hg0,zab (Nat.zero_le _),List.append_assoc,zae,zac,zaf,zad,Nat.add_assoc,List.length_append,getN hvl,zeI hvl,setN hvl,zeJ hvl]
    done
   have hRR:=hgood (by rw[hpb];exact decide_eq_true (by omega))
   simp -dsimp -implicitDefEqProofs only[go_sem,seval,↓reduceIte,hc,w1,i0,hia,hoq,ho,zai (Prc.pvs_get hpp),za0,zb8,zei,zaH,Sto.pvs_len,h2,hvl,hg0,zab (Nat.zero_le _),List.append_assoc,zae,zac,zaf,zad,Nat.add_assoc,List.length_append,getN hvl,zeI hvl,setN hvl,zeJ hvl]
   clear hinv hbad hgood h1 h2
   have hV2:V=vH d seen:=hV
   rw[hV2]
   refine zcj (α:=List Int) p.cls.length (fun k sn=>okSs d.next p seen p.cls=okSs d.next p sn (p.cls.drop k)) (fun k sn=>⟨[(1,.ptr 0 0),(3,.map 1),(4,.pv none (.bool true)),(6,.ptr 2 0),(30,.pv none (.sl (some 4) (Prc.pvs d.procs))),(31,.pv none (.int .i64 d.procs.length)),(32,.pv none (.int .i64 i)),(59,.pv none (.sl (some 9) (Sto.pvs p.cls))),(60,.pv none (.int .i64 p.cls.length)),(61,.pv none (.int .i64 k))],[.box (some 2) (.pv (some 2) d.pv),.map none (zbI (zcX sn)),.box (some 4) (.pv (some 4) p.pv),.arr (some 9) [] false]⟩) seen ⟨rfl,rfl⟩ ?_ ?_
   ·rintro k sn hk hin
    have hck:(k:Int)<(p.cls.length:Int):=by omega
    have wk:IntKind.i64.wrap ((k:Int)+1)=((k+1:Nat):Int):=by rw[zaF (by omega) (by omega)];omega
    obtain⟨s,hs⟩:∃s,p.cls[k]? =some s:=⟨_,List.getElem?_eq_getElem hk⟩
    obtain⟨zs1,zs2⟩:=hz p hpm s (List.mem_of_getElem? hs)
    have h3:=fun hp=>zb9 s.cl zs1 zs2 hp
    simp only[Cz.av] at h3
    rw[zfO hs,okSs] at hin
    obtain⟨c,hcc⟩:∃c:Int,c=if s.id∈sn then 1 else 0:=⟨_,rfl⟩
    have hc01:c=0\/c=1:=by rw[hcc];split <;> simp
    have wc:IntKind.i64.wrap (c+1)=c+1:=zaF (by omega) (by omega)
    obtain⟨m2,hm2⟩:∃m2,m2=mPut s.id (.int .i64 (c+1)) (zcX sn):=⟨_,rfl⟩
    have hl1:∀X,za8 false none (.pv none (.int .i64 0)) false (.box (some 2) (.pv (some 2) d.pv)::.map none (zbI (zcX sn))::X) [.map 1,.pv none (.int .i64 s.id)]=some (.pv none (.int .i64 c)):=fun X=>by
     rw[zrr (m:=zcX sn) rfl,zhl,hcc]
     by_cases hm:s.id∈sn
     ·rw[if_pos hm,if_pos hm]
     ·rw[if_neg hm,if_neg hm]
    have hl2:∀X,za8 false none (.pv none (.int .i64 0)) false (.box (some 2) (.pv (some 2) d.pv)::.map none (zbI m2)::X) [.map 1,.pv none (.int .i64 s.id)]=some (.pv none (.int .i64 (c+1))):=fun X=>by
     rw[zrr (m:=m2) rfl,hm2,zgx,if_pos rfl]
    have hms:∀X,zcq false none (.box (some 2) (.pv (some 2) d.pv)::.map none (zbI (zcX sn))::X) [.map 1,.pv none (.int .i64 s.id),.pv none (.int .i64 (c+1))]=some (.undef,.box (some 2) (.pv (some 2) d.pv)::.map none (zbI m2)::X):=fun X=>by
     rw[zeh (es:=zbI (zcX sn)) rfl (zeR _ _ _),<-hm2]
     rfl
    have hbadS:okSt d.next p sn s=false->R=false:=fun h=>by
     rw[hRR,hin,h]
     rfl
    by_cases a1:s.id<1
    ·rw[hbadS (by unfold okSt;rw[decide_eq_false (by omega)];rfl)]
     simp -dsimp -implicitDefEqProofs only[go_sem,seval,↓reduceIte,hck,wk,wc,a1,zai (Sto.pvs_get hs),zcf,hl1,hl2,hms,zaE,zab (Nat.zero_le _),List.append_assoc,zae,zac,zaf,zad,Nat.add_assoc,List.length_append]
     done
    by_cases a2:d.next<=s.id
    ·rw[hbadS (by unfold okSt;rw[decide_eq_true (by omega),decide_eq_false (show ¬s.id<d.next by omega)];rfl)]
     simp -dsimp -implicitDefEqProofs only[go_sem,seval,↓reduceIte,hck,wk,wc,a1,a2,zai (Sto.pvs_get hs),zcf,zcW,zbb,zbc,za0,zb8,Tm.pvs_len,hl1,hl2,hms,zaE,zab (Nat.zero_le _),List.append_assoc,zae,zac,zaf,zad,Nat.add_assoc,List.length_append]
     done
    have p1:decide (1<=s.id)=true:=decide_eq_true (by omega)
    have p2:decide (s.id<d.next)=true:=decide_eq_true (by omega)
    by_cases a3:s.id∈sn
    ·have hc1:c=1:=by rw[hcc,if_pos a3]
     have a3':1<c+1:=by omega
     rw[hbadS (by unfold okSt;rw[p1,p2,decide_eq_false (by simpa using a3)];rfl)]
     simp -dsimp -implicitDefEqProofs only[go_sem,seval,↓reduceIte,hck,wk,wc,a1,a2,a3',zai (Sto.pvs_get hs),zcf,zcW,zbb,zbc,za0,zb8,Tm.pvs_len,hl1,hl2,hms,zaE,zab (Nat.zero_le _),List.append_assoc,zae,zac,zaf,zad,Nat.add_assoc,List.length_append]
     done
    have hc0:c=0:=by rw[hcc,if_neg a3]
    have a3':¬1<c+1:=by omega
    have p3:decide (s.id ∉ sn)=true:=decide_eq_true a3
    cases a4:okC s.cl with
    |false=>
     rw[hbadS (by unfold okSt;rw[p1,p2,p3,a4];rfl)]
     rw[a4] at h3
     simp -dsimp -implicitDefEqProofs only[go_sem,seval,↓reduceIte,hck,wk,wc,a1,a2,a3',h3,zai (Sto.pvs_get hs),zcf,zcW,zbb,zbc,za0,zb8,Tm.pvs_len,hl1,hl2,hms,zaE,zab (Nat.zero_le _),List.append_assoc,zae,zac,zaf,zad,Nat.add_assoc,List.length_append]
     done
    |true=>
    rw[a4] at h3
    by_cases a5:s.cl.head.name=p.name
    rotate_left
    ·rw[hbadS (by unfold okSt;rw[p1,p2,p3,a4,decide_eq_false a5];rfl)]
     have a5':=eq_false a5
     simp -dsimp -implicitDefEqProofs only[go_sem,seval,↓reduceIte,hck,wk,wc,a1,a2,a3',h3,a5',zai (Sto.pvs_get hs),zcf,zcW,zbb,zbc,za0,zb8,Tm.pvs_len,hl1,hl2,hms,zaE,zab (Nat.zero_le _),List.append_assoc,zae,zac,zaf,zad,Nat.add_assoc,List.length_append]
     done
    have a5':=eq_true a5
    by_cases a6:(s.cl.head.args.length:Int)=p.ar
    rotate_left
    ·rw[hbadS (by unfold okSt;rw[p1,p2,p3,a4,decide_eq_true a5,decide_eq_false a6];rfl)]
     have a6':=eq_false a6
     simp -dsimp -implicitDefEqProofs only[go_sem,seval,↓reduceIte,hck,wk,wc,a1,a2,a3',h3,a5',a6',zai (Sto.pvs_get hs),zcf,zcW,zbb,zbc,za0,zb8,Tm.pvs_len,hl1,hl2,hms,zaE,zab (Nat.zero_le _),List.append_assoc,zae,zac,zaf,zad,Nat.add_assoc,List.length_append]
     done
    have a6':=eq_true a6
    have hok:okSt d.next p sn s=true:=by unfold okSt;rw[p1,p2,p3,a4,decide_eq_true a5,decide_eq_true a6];rfl
    rw[if_pos hok] at hin
    have hm3:m2=zcX (sn++[s.id]):=by rw[hm2,hc0];exact zgu s.id sn a3
    simp -dsimp -implicitDefEqProofs only[go_sem,seval,↓reduceIte,hck,wk,wc,a1,a2,a3',h3,a5',a6',zai (Sto.pvs_get hs),zcf,zcW,zbb,zbc,za0,zb8,Tm.pvs_len,hl1,hl2,hms,zaE,zab (Nat.zero_le _),List.append_assoc,zae,zac,zaf,zad,Nat.add_assoc,List.length_append]
    refine⟨sn++[s.id],hin,?_⟩
    rw[hm3]
    rfl
   ·rintro sn hin
    have hck:¬(p.cls.length:Int)<(p.cls.length:Int):=by omega
    rw[List.drop_length,okSs] at hin
    rw[hin] at hRR
    simp -dsimp -implicitDefEqProofs only[go_sem,seval,↓reduceIte,hck,w1,List.append_assoc,zae,zac,zaf,zad,Nat.add_assoc,List.length_append]
    refine⟨sn,?_,?_⟩
    ·rw[hpp]
     exact hRR
    ·rfl
  ·have hRR:=hgood hpb
   simp -dsimp -implicitDefEqProofs only[go_sem,seval,↓reduceIte,hc,w1,i0,zai (Prc.pvs_get hpp),za0,zb8,zei,zaH,Sto.pvs_len,h2,hvl,hg0,zab (Nat.zero_le _),List.append_assoc,zae,zac,zaf,zad,Nat.add_assoc,List.length_append,getN hvl,zeI hvl,setN hvl,zeJ hvl]
   clear hinv hbad hgood h1 h2
   have hV2:V=vH d seen:=hV
   rw[hV2]
   refine zcj (α:=List Int) p.cls.length (fun k sn=>okSs d.next p seen p.cls=okSs d.next p sn (p.cls.drop k)) (fun k sn=>⟨[(1,.ptr 0 0),(3,.map 1),(4,.pv none (.bool true)),(6,.ptr 2 0),(30,.pv none (.sl (some 4) (Prc.pvs d.procs))),(31,.pv none (.int .i64 d.procs.length)),(32,.pv none (.int .i64 i)),(59,.pv none (.sl (some 9) (Sto.pvs p.cls))),(60,.pv none (.int .i64 p.cls.length)),(61,.pv none (.int .i64 k))],[.box (some 2) (.pv (some 2) d.pv),.map none (zbI (zcX sn)),.box (some 4) (.pv (some 4) p.pv),.arr (some 9) [] false]⟩) seen ⟨rfl,rfl⟩ ?_ ?_
   ·rintro k sn hk hin
    have hck:(k:Int)<(p.cls.length:Int):=by omega
    have wk:IntKind.i64.wrap ((k:Int)+1)=((k+1:Nat):Int):=by rw[zaF (by omega) (by omega)];omega
    obtain⟨s,hs⟩:∃s,p.cls[k]? =some s:=⟨_,List.getElem?_eq_getElem hk⟩
    obtain⟨zs1,zs2⟩:=hz p hpm s (List.mem_of_getElem? hs)
    have h3:=fun hp=>zb9 s.cl zs1 zs2 hp
    simp only[Cz.av] at h3
    rw[zfO hs,okSs] at hin
    obtain⟨c,hcc⟩:∃c:Int,c=if s.id∈sn then 1 else 0:=⟨_,rfl⟩
    have hc01:c=0\/c=1:=by rw[hcc];split <;> simp
    have wc:IntKind.i64.wrap (c+1)=c+1:=zaF (by omega) (by omega)
    obtain⟨m2,hm2⟩:∃m2,m2=mPut s.id (.int .i64 (c+1)) (zcX sn):=⟨_,rfl⟩
    have hl1:∀X,za8 false none (.pv none (.int .i64 0)) false (.box (some 2) (.pv (some 2) d.pv)::.map none (zbI (zcX sn))::X) [.map 1,.pv none (.int .i64 s.id)]=some (.pv none (.int .i64 c)):=fun X=>by
     rw[zrr (m:=zcX sn) rfl,zhl,hcc]
     by_cases hm:s.id∈sn
     ·rw[if_pos hm,if_pos hm]
     ·rw[if_neg hm,if_neg hm]
    have hl2:∀X,za8 false none (.pv none (.int .i64 0)) false (.box (some 2) (.pv (some 2) d.pv)::.map none (zbI m2)::X) [.map 1,.pv none (.int .i64 s.id)]=some (.pv none (.int .i64 (c+1))):=fun X=>by
     rw[zrr (m:=m2) rfl,hm2,zgx,if_pos rfl]
    have hms:∀X,zcq false none (.box (some 2) (.pv (some 2) d.pv)::.map none (zbI (zcX sn))::X) [.map 1,.pv none (.int .i64 s.id),.pv none (.int .i64 (c+1))]=some (.undef,.box (some 2) (.pv (some 2) d.pv)::.map none (zbI m2)::X):=fun X=>by
     rw[zeh (es:=zbI (zcX sn)) rfl (zeR _ _ _),<-hm2]
     rfl
    have hbadS:okSt d.next p sn s=false->R=false:=fun h=>by
     rw[hRR,hin,h]
     rfl
    by_cases a1:s.id<1
    ·rw[hbadS (by unfold okSt;rw[decide_eq_false (by omega)];rfl)]
     simp -dsimp -implicitDefEqProofs only[go_sem,seval,↓reduceIte,hck,wk,wc,a1,zai (Sto.pvs_get hs),zcf,hl1,hl2,hms,zaE,zab (Nat.zero_le _),List.append_assoc,zae,zac,zaf,zad,Nat.add_assoc,List.length_append]
     done
    by_cases a2:d.next<=s.id
    ·rw[hbadS (by unfold okSt;rw[decide_eq_true (by omega),decide_eq_false (show ¬s.id<d.next by omega)];rfl)]
     simp -dsimp -implicitDefEqProofs only[go_sem,seval,↓reduceIte,hck,wk,wc,a1,a2,zai (Sto.pvs_get hs),zcf,zcW,zbb,zbc,za0,zb8,Tm.pvs_len,hl1,hl2,hms,zaE,zab (Nat.zero_le _),List.append_assoc,zae,zac,zaf,zad,Nat.add_assoc,List.length_append]
     done
    have p1:decide (1<=s.id)=true:=decide_eq_true (by omega)
    have p2:decide (s.id<d.next)=true:=decide_eq_true (by omega)
    by_cases a3:s.id∈sn
    ·have hc1:c=1:=by rw[hcc,if_pos a3]
     have a3':1<c+1:=by omega
     rw[hbadS (by unfold okSt;rw[p1,p2,decide_eq_false (by simpa using a3)];rfl)]
     simp -dsimp -implicitDefEqProofs only[go_sem,seval,↓reduceIte,hck,wk,wc,a1,a2,a3',zai (Sto.pvs_get hs),zcf,zcW,zbb,zbc,za0,zb8,Tm.pvs_len,hl1,hl2,hms,zaE,zab (Nat.zero_le _),List.append_assoc,zae,zac,zaf,zad,Nat.add_assoc,List.length_append]
     done
    have hc0:c=0:=by rw[hcc,if_neg a3]
    have a3':¬1<c+1:=by omega
    have p3:decide (s.id ∉ sn)=true:=decide_eq_true a3
    cases a4:okC s.cl with
    |false=>
     rw[hbadS (by unfold okSt;rw[p1,p2,p3,a4];rfl)]
     rw[a4] at h3
     simp -dsimp -implicitDefEqProofs only[go_sem,seval,↓reduceIte,hck,wk,wc,a1,a2,a3',h3,zai (Sto.pvs_get hs),zcf,zcW,zbb,zbc,za0,zb8,Tm.pvs_len,hl1,hl2,hms,zaE,zab (Nat.zero_le _),List.append_assoc,zae,zac,zaf,zad,Nat.add_assoc,List.length_append]
     done
    |true=>
    rw[a4] at h3
    by_cases a5:s.cl.head.name=p.name
    rotate_left
    ·rw[hbadS (by unfold okSt;rw[p1,p2,p3,a4,decide_eq_false a5];rfl)]
     have a5':=eq_false a5
     simp -dsimp -implicitDefEqProofs only[go_sem,seval,↓reduceIte,hck,wk,wc,a1,a2,a3',h3,a5',zai (Sto.pvs_get hs),zcf,zcW,zbb,zbc,za0,zb8,Tm.pvs_len,hl1,hl2,hms,zaE,zab (Nat.zero_le _),List.append_assoc,zae,zac,zaf,zad,Nat.add_assoc,List.length_append]
     done
    have a5':=eq_true a5
    by_cases a6:(s.cl.head.args.length:Int)=p.ar
    rotate_left
    ·rw[hbadS (by unfold okSt;rw[p1,p2,p3,a4,decide_eq_true a5,decide_eq_false a6];rfl)]
     have a6':=eq_false a6
     simp -dsimp -implicitDefEqProofs only[go_sem,seval,↓reduceIte,hck,wk,wc,a1,a2,a3',h3,a5',a6',zai (Sto.pvs_get hs),zcf,zcW,zbb,zbc,za0,zb8,Tm.pvs_len,hl1,hl2,hms,zaE,zab (Nat.zero_le _),List.append_assoc,zae,zac,zaf,zad,Nat.add_assoc,List.length_append]
     done
    have a6':=eq_true a6
    have hok:okSt d.next p sn s=true:=by unfold okSt;rw[p1,p2,p3,a4,decide_eq_true a5,decide_eq_true a6];rfl
    rw[if_pos hok] at hin
    have hm3:m2=zcX (sn++[s.id]):=by rw[hm2,hc0];exact zgu s.id sn a3
    simp -dsimp -implicitDefEqProofs only[go_sem,seval,↓reduceIte,hck,wk,wc,a1,a2,a3',h3,a5',a6',zai (Sto.pvs_get hs),zcf,zcW,zbb,zbc,za0,zb8,Tm.pvs_len,hl1,hl2,hms,zaE,zab (Nat.zero_le _),List.append_assoc,zae,zac,zaf,zad,Nat.add_assoc,List.length_append]
    refine⟨sn++[s.id],hin,?_⟩
    rw[hm3]
    rfl
   ·rintro sn hin
    have hck:¬(p.cls.length:Int)<(p.cls.length:Int):=by omega
    rw[List.drop_length,okSs] at hin
    rw[hin] at hRR
    simp -dsimp -implicitDefEqProofs only[go_sem,seval,↓reduceIte,hck,w1,List.append_assoc,zae,zac,zaf,zad,Nat.add_assoc,List.length_append]
    refine⟨sn,?_,?_⟩
    ·rw[hpp]
     exact hRR
    ·rfl
 ·rintro seen hinv
  have hc:¬(d.procs.length:Int)<(d.procs.length:Int):=by omega
  rw[List.drop_length] at hinv
  have:R=true:=by rw[hinv];rfl
  rw[this]
  simp -dsimp -implicitDefEqProofs only[go_sem,seval,↓reduceIte,hc,List.append_assoc,zae,zac,zaf,zad,Nat.add_assoc,List.length_append]
  done
end Go.Proofs.Ytligpohiokpnhaa
