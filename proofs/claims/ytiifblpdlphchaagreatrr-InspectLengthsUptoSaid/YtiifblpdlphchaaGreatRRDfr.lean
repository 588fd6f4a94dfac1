/- What is proved: the reference's Vars and Rename. -/
import Derived.Test.YtiifblpdlphchaaGreatRRSml
import Derived.Test.YtiifblpdlphchaaGreatRRAm5
set_option linter.unusedSimpArgs false
set_option linter.unusedVariables false
namespace Go.Proofs.YtiifblpdlphchaaGreatRR
open Go.Am
def ints(l:List Int):List PV:=l.map (.int .i64)
theorem zbb(l:List Int):(ints l).length=l.length:=by simp[ints]
theorem zeL{l:List Int}{i:Nat}{x:Int}(h:l[i]? =some x):(ints l)[i]? =some (.int .i64 x):=by simp[ints,h]
theorem zqT(l:List Int)(x:Int):ints l++[.int .i64 x]=ints (l++[x]):=by simp[ints]
theorem zlC(l:List Int)(x:Int)(hl:l.length<1000000000)(hp:Heap):∃y:Int,(∀hp,S 112 [.pv none (.sl none (ints l)),.pv none (.int .i64 x)] hp=some (.ret (.pv none (.int .i64 y)),hp))/\(y<0↔x ∉ l):=by
 obtain⟨v,h1,y,rfl,h2⟩:=zlA (F:=find tab) (prim:=prim) (f:=112) (ps:=[(none,.sl none (ints l)),(none,.int .i64 x)]) (args:=[.pv none (.sl none (ints l)),.pv none (.int .i64 x)]) (fun v=>∃y:Int,v=.pv none (.int .i64 y)/\(y<0↔x ∉ l)) rfl rfl rfl (fun hp=>rfl) rfl (by
  simp -dsimp -implicitDefEqProofs only[go_sem,seval,↓reduceIte,zbb]
  refine zdn (α:=Unit) l.length (fun i _=>∀j,j<i->l[j]?≠some x) (fun i _=>⟨[(0,.pv none (.sl none (ints l))),(1,.pv none (.int .i64 x)),(5,.pv none (.int .i64 i))],[]⟩) () ⟨fun j hj=>by omega,rfl⟩ ?_ ?_
  ·rintro i - h hinv
   have hc:(i:Int)<(l.length:Int):=by omega
   obtain⟨b,hb⟩:∃b,l[i]? =some b:=⟨_,List.getElem?_eq_getElem h⟩
   have w2:IntKind.i64.wrap ((i:Int)+1)=((i+1:Nat):Int):=by rw[zaR (by omega) (by omega)];omega
   by_cases hbx:b=x
   ·simp -dsimp -implicitDefEqProofs only[go_sem,seval,↓reduceIte,zbb,hc,zap (zeL hb),hbx]
    refine⟨_,rfl,i,rfl,?_⟩
    have:x∈l:=by rw[<-hbx];exact List.mem_of_getElem? hb
    constructor
    ·intro h;omega
    ·intro h;exact absurd this h
   ·simp -dsimp -implicitDefEqProofs only[go_sem,seval,↓reduceIte,zbb,hc,zap (zeL hb),hbx,w2]
    refine⟨(),fun j hj=> ?_⟩
    rcases Nat.lt_or_ge j i with h|h
    ·exact hinv j h
    ·have:j=i:=by omega
     subst this
     rw[hb]
     intro e
     cases e
     exact hbx rfl
  ·rintro - hinv
   have hc:¬(l.length:Int)<(l.length:Int):=by omega
   simp -dsimp -implicitDefEqProofs only[go_sem,seval,↓reduceIte,zbb,hc]
   refine⟨_,rfl,-1,rfl,?_⟩
   constructor
   ·intro _ hm
    obtain⟨j,hlt,hj⟩:=List.getElem_of_mem hm
    exact hinv j hlt (by rw[List.getElem?_eq_getElem hlt,hj])
   ·intro _;omega)
 exact⟨y,h1,h2⟩
def vadd(s:List Int)(w:Int):List Int:=if w∈s then s else s++[w]
def vads(s:List Int)(ws:List Int):List Int:=ws.foldl vadd s
theorem zeM(s a b:List Int):vads s (a++b)=vads (vads s a) b:=by simp[vads]
theorem zcI(ws:List Int):∀s:List Int,(vads s ws).length<=s.length+ws.length:=by
 induction ws with
 |nil=>intro s;simp[vads]
 |cons w r ih=>
  intro s
  have:=ih (vadd s w)
  have h2:(vadd s w).length<=s.length+1:=by unfold vadd;split <;> simp
  simp only[vads,List.foldl_cons,List.length_cons] at this ⊢
  omega
theorem zmH(ws:List Int):∀(s:List Int) (x:Int),x∈vads s ws↔x∈s\/x∈ws:=by
 induction ws with
 |nil=>intro s x;simp[vads]
 |cons w r ih=>
  intro s x
  have:=ih (vadd s w) x
  simp only[vads,List.foldl_cons] at this ⊢
  rw[this]
  unfold vadd
  split
  ·rename_i h
   simp only[List.mem_cons]
   constructor
   ·rintro(h1|h1) <;> simp[h1]
   ·rintro(h1|rfl|h1)
    ·exact .inl h1
    ·exact .inl h
    ·exact .inr h1
  ·simp only[List.mem_append,List.mem_cons,List.not_mem_nil,or_false]
   constructor
   ·rintro((h1|h1)|h1) <;> simp[h1]
   ·rintro(h1|h1|h1) <;> simp[h1]
def IsV(s:AV)(hp:Heap)(l:List Int):Prop:=(s=.tsl none []/\l=[])\/∃r,s=.sl none r l.length 0 l.length/\hp[r]? =some (.arr none (ints l) false)
def PresV(s:AV)(hp hp':Heap):Prop:=hp.length<=hp'.length/\∀(i:Nat) (x:AObj),hp[i]? =some x->(∀v o n,s≠.sl none i v o n)->hp'[i]? =some x
def OwnV(s:AV)(hp:Heap)(s':AV):Prop:=∀r v o n,s'=.sl none r v o n->(∃v o n,s=.sl none r v o n)\/hp.length<=r
theorem PresV.refl(s:AV)(hp:Heap):PresV s hp hp:=⟨Nat.le_refl _,fun _ _ h _=>h⟩
theorem OwnV.refl(s:AV)(hp:Heap):OwnV s hp s:=fun r v o n h=>.inl ⟨v,o,n,h⟩
theorem IsV.more{s:AV}{hp:Heap}{l:List Int}(h:IsV s hp l)(e:Heap):IsV s (hp++e) l:=by
 rcases h with h|⟨r,h1,h2⟩
 ·exact .inl h
 ·exact .inr ⟨r,h1,by rw[List.getElem?_append_left (zbr h2)];exact h2⟩
theorem IsV.not_box{s:AV}{hp:Heap}{l:List Int}(h:IsV s hp l){i:Nat}{sh:Sh}{v:AV}(hi:hp[i]? =some (.box sh v)):∀v o n,s≠.sl none i v o n:=by
 rcases h with⟨rfl,_⟩|⟨r,rfl,h2⟩
 ·intro v o n e;cases e
 ·intro v o n e;cases e;rw[hi] at h2;cases h2
theorem OwnV.trans{s s1 s2:AV}{hp hp1:Heap}(h1:OwnV s hp s1)(hl:hp.length<=hp1.length)(h2:OwnV s1 hp1 s2):OwnV s hp s2:=fun r v o n e=>by
 rcases h2 r v o n e with⟨v',o',n',e'⟩|h
 ·exact h1 r v' o' n' e'
 ·exact .inr (by omega)
theorem PresV.trans{s s1:AV}{hp hp1 hp2:Heap}(h1:PresV s hp hp1)(ho:OwnV s hp s1)(h2:PresV s1 hp1 hp2):PresV s hp hp2:=
 ⟨Nat.le_trans h1.1 h2.1,fun i x hx hne=>h2.2 i x (h1.2 i x hx hne) fun v o n e=>by
  rcases ho i v o n e with⟨v',o',n',e'⟩|h
  ·exact hne v' o' n' e'
  ·have:=zbr hx;omega⟩
theorem PresV.take{s:AV}{hp hp1:Heap}{n:Nat}(h:PresV s hp hp1)(hn:hp.length<=n):PresV s hp (hp1.take n):=
 ⟨by rw[List.length_take];have:=h.1;omega,fun i x hx hne=>by
  have:=zbr hx
  rw[List.getElem?_take,if_pos (by omega)]
  exact h.2 i x hx hne⟩
theorem PresV.less{s:AV}{hp e hp1:Heap}(h:PresV s (hp++e) hp1):PresV s hp hp1:=
 ⟨by have:=h.1;simp at this;omega,fun i x hx hne=>h.2 i x (by rw[List.getElem?_append_left (zbr hx)];exact hx) hne⟩
theorem OwnV.less{s s':AV}{hp e:Heap}(h:OwnV s (hp++e) s'):OwnV s hp s':=fun r v o n h1=>by
 rcases h r v o n h1 with h|h
 ·exact .inl h
 ·exact .inr (by simp at h;omega)
theorem IsV.take{s:AV}{hp:Heap}{l:List Int}{n:Nat}(h:IsV s hp l)(hr:∀q∈s.refsIn,q<n):IsV s (hp.take n) l:=by
 rcases h with h|⟨r,rfl,h2⟩
 ·exact .inl h
 ·have:r<n:=hr r (by simp[AV.refsIn])
  exact .inr ⟨r,rfl,by rw[List.getElem?_take,if_pos this];exact h2⟩
theorem IsV.freeze{s:AV}{hp:Heap}{l:List Int}(h:IsV s hp l):∃hp1,AV.freeze deep s hp=some (.sl none (ints l),hp1)/\s.shp=none/\s.plain=true:=by
 rcases h with⟨rfl,rfl⟩|⟨r,rfl,h⟩
 ·exact⟨hp,rfl,rfl,rfl⟩
 ·exact⟨hp.set r (.arr none (ints l) true),by simp[AV.freeze,deep,h,zbb],rfl,rfl⟩
theorem zt8{s:AV}{hp:Heap}{l:List Int}(h:IsV s hp l)(x:Int)(hl:l.length<1000000000):∃s' H',zaB none hp [s,.tsl none [.int .i64 x]]=some (s',H')/\IsV s' H' (l++[x])/\PresV s hp H'/\OwnV s hp s':=by
 have hlim:l.length+1<=lim:=by unfold lim;omega
 rcases h with⟨rfl,rfl⟩|⟨r,rfl,h⟩
 ·refine⟨_,_,rfl,.inr ⟨hp.length,rfl,?_⟩,⟨by simp,fun i x hx _=>by rw[List.getElem?_append_left (zbr hx)];exact hx⟩,fun r v o n e=>by cases e;exact .inr (Nat.le_refl _)⟩
  rw[List.getElem?_append_right (Nat.le_refl _),Nat.sub_self]
  rfl
 ·have hlt:=zbr h
  refine⟨.sl none r (l.length+1) 0 (l.length+1),hp.set r (.arr none (ints (l++[x])) false),?_,.inr ⟨r,by simp,by rw[List.getElem?_set_self hlt]⟩,⟨by simp,fun i x hx hne=> ?_⟩,fun r v o n e=>by cases e;exact .inl ⟨_,_,_,rfl⟩⟩
  ·simp[zaB,aappend,elems,h,zbb,hlim]
   simp[ints]
  ·have:i≠r:=fun e=>hne _ _ _ (by rw[e])
   rw[List.getElem?_set_ne (Ne.symm this)]
   exact hx
theorem zn7{s:AV}{hp:Heap}{l:List Int}(h:IsV s hp l)(x:Int)(hl:l.length<1000000000):∃y:Int,S 112 [s,.pv none (.int .i64 x)] hp=some (.ret (.pv none (.int .i64 y)),hp)/\(y<0↔x ∉ l):=by
 obtain⟨y,h1,h2⟩:=zlC l x hl hp
 obtain⟨hp1,z1,z2,_⟩:=h.freeze
 refine⟨y,?_,h2⟩
 have:=zgn (F:=find tab) (prim:=prim) (f:=112) (args:=[s,.pv none (.int .i64 x)]) (ps:=[(none,.sl none (ints l)),(none,.int .i64 x)]) (hp:=hp) (hp1:=hp1) rfl rfl rfl (by
  have e:∀H:Heap,AV.freeze deep (.pv none (.int .i64 x)) H=some (.int .i64 x,H):=fun _=>rfl
  simp only[zam,z1,e,z2];rfl) (h1 [])
 exact this
theorem zfJ{s s1:AV}{hp e H:Heap}{l:List Int}(h1:IsV s1 H l)(h2:PresV s (hp++e) H)(h3:OwnV s (hp++e) s1):
  IsV s1 (if s1.refsIn.all (fun q=>decide (q<hp.length))=true then H.take hp.length else H) l/\PresV s hp (if s1.refsIn.all (fun q=>decide (q<hp.length))=true then H.take hp.length else H)/\OwnV s hp s1:=by
 refine⟨?_,?_,h3.less⟩
 ·split
  ·rename_i hr
   exact h1.take fun q hq=>by simpa using List.all_eq_true.1 hr q hq
  ·exact h1
 ·split
  ·exact h2.less.take (Nat.le_refl _)
  ·exact h2.less
theorem zgL(t:Tm)(ih:∀u∈t.args,∀(s:AV) (hp:Heap) (l:List Int),IsV s hp l->u.fits=true->l.length+u.size<100000000->∃s' hp',S 60 [s,u.av] hp=some (.ret s',hp')/\IsV s' hp' (vads l u.occ)/\PresV s hp hp'/\OwnV s hp s')
  (s:AV)(H0:Heap)(n0 b:Nat)(l:List Int)(hB:IsV s H0 l)(h1:H0[n0]? =some (.box (some 4) (.pv (some 4) t.pv)))(hf:t.fits=true)(hl:l.length+Tm.sizes t.args<100000000)(Q:AExit->St->Prop)
  (hQ:∀(s1:AV) (H:Heap) (r:Fr),IsV s1 H (vads l (Tm.occs t.args))->PresV s H0 H->OwnV s H0 s1->Q .normal ⟨(0,s1)::r,H⟩):
  W Z L b c60k11 ⟨[(0,s),(3,.ptr n0 0),(5,.pv none (.int .i64 0))],H0⟩ Q:=by
 have hts:=t.size_eq
 have hlen:=Tm.zvt t.args
 have nb1:=hB.not_box h1
 simp -dsimp -implicitDefEqProofs only[c60b10,c60k11,go_sem,seval,↓reduceIte]
 refine zdn (α:=AV × Heap) t.args.length (fun i a=>IsV a.1 a.2 (vads l (Tm.occs (t.args.take i)))/\PresV s H0 a.2/\OwnV s H0 a.1)
  (fun i a=>⟨[(0,a.1),(3,.ptr n0 0),(5,.pv none (.int .i64 i))],a.2⟩) (s,H0) ⟨⟨hB,PresV.refl _ _,OwnV.refl _ _⟩,rfl⟩ ?_ ?_
 ·rintro i ⟨s1,H⟩ h ⟨k1,k2,k3⟩
  dsimp only at k1 k2 k3
  have hc:(i:Int)<(t.args.length:Int):=by omega
  have b1:=k2.2 n0 _ h1 nb1
  obtain⟨u,hu⟩:∃u,t.args[i]? =some u:=⟨_,List.getElem?_eq_getElem h⟩
  have hum:=List.mem_of_getElem? hu
  have hst:=Tm.zvD hu
  have hle:=Tm.zvz t.args (i+1)
  have hvl:=zcI (Tm.occs (t.args.take i)) l
  have hol:=Tm.zvN (t.args.take i)
  obtain⟨s2,H2,hcall,p1,p2,p3⟩:=ih u hum s1 H _ k1 (Tm.zvw hf hum) (by omega)
  simp only[Tm.av] at hcall
  have w2:IntKind.i64.wrap ((i:Int)+1)=((i+1:Nat):Int):=by rw[zaR (by omega) (by omega)];omega
  simp -dsimp -implicitDefEqProofs only[c60b10,c60k11,go_sem,seval,↓reduceIte,zag,Tm.pvs_len,hc,b1,zap (Tm.pvs_get hu),hcall,w2]
  have hcc:=ziI H0.length b [(0,s2),(3,.ptr n0 0),(5,.pv none (.int .i64 ((i+1:Nat):Int)))] H2
  refine⟨(s2,collect H0.length b [(0,s2),(3,.ptr n0 0),(5,.pv none (.int .i64 ((i+1:Nat):Int)))] H2),?_,rfl⟩
  generalize collect H0.length b [(0,s2),(3,.ptr n0 0),(5,.pv none (.int .i64 ((i+1:Nat):Int)))] H2=HC at hcc
  have q1:=k2.trans k3 p2
  have q2:=k3.trans k2.1 p3
  rw[Tm.zvF hu,zeM]
  rcases hcc with rfl|⟨rfl,hr⟩
  ·exact⟨p1,q1,q2⟩
  ·exact⟨p1.take (hr (0,s2) (by simp)),q1.take (Nat.le_refl _),q2⟩
 ·rintro⟨s1,H⟩ ⟨k1,k2,k3⟩
  dsimp only at k1 k2 k3
  have hc:¬(t.args.length:Int)<(t.args.length:Int):=by omega
  have b1:=k2.2 n0 _ h1 nb1
  rw[List.take_length] at k1
  simp -dsimp -implicitDefEqProofs only[c60b10,c60k11,go_sem,seval,↓reduceIte,zag,Tm.pvs_len,hc,b1]
  exact hQ s1 H _ k1 k2 k3
theorem zmI:∀(t:Tm) (s:AV) (hp:Heap) (l:List Int),IsV s hp l->t.fits=true->l.length+t.size<100000000->∃s' hp',S 60 [s,t.av] hp=some (.ret s',hp')/\IsV s' hp' (vads l t.occ)/\PresV s hp hp'/\OwnV s hp s':=by
 intro t
 induction t using Tm.zvu with
 |h t ih=>
  intro s hp l hB hf ht
  have hts:=t.size_eq
  have hn0:∀H:Heap,zbZ none H=some (.sl none H.length 0 0 0,H++[.arr none [] false]):=fun H=>zbs (sh:=none) (by decide)
  have hB1:=hB.more [.box (some 4) (.pv (some 4) t.pv),.arr none [] false]
  obtain⟨y,hpos,hy⟩:=zn7 hB1 t.n (by omega)
  refine zgF (fun v hp'=>IsV v hp' (vads l t.occ)/\PresV s hp hp'/\OwnV s hp v) rfl rfl rfl rfl ?_
  have hbox:(hp++([.box (some 4) (.pv (some 4) t.pv),.arr none [] false]:Heap))[hp.length]? =some (.box (some 4) (.pv (some 4) t.pv)):=by rw[zae];rfl
  rw[Tm.occ_eq]
  by_cases hk:t.kind=0
  ·rw[if_pos hk]
   have ha:t.args=[]:=by rw[zbx hf hk];rfl
   by_cases hm:t.n∈l
   ·have e:vads l [t.n]=l:=by simp[vads,vadd,hm]
    have hy':¬y<0:=fun h=>hy.1 h hm
    rw[e]
    simp -dsimp -implicitDefEqProofs only[go_sem,seval,↓reduceIte,Tm.av,zaq,za3,zag,hk,hn0,hpos,hy',List.append_assoc,zah,zae,zai,zaf,Nat.add_assoc,List.length_append]
    refine zgL t ih s _ hp.length hp.length l hB1 hbox hf (by omega) _ fun s1 H r k1 k2 k3=> ?_
    rw[ha] at k1
    simp -dsimp -implicitDefEqProofs only[go_sem,seval,↓reduceIte]
    exact zfJ k1 k2 k3
   ·have e:vads l [t.n]=l++[t.n]:=by simp[vads,vadd,hm]
    have hy':y<0:=hy.2 hm
    rw[e]
    obtain⟨s1,H1,happ,k1,k2,k3⟩:=zt8 hB1 t.n (by omega)
    have b1:=k2.2 hp.length _ hbox (hB1.not_box hbox)
    simp -dsimp -implicitDefEqProofs only[go_sem,seval,↓reduceIte,Tm.av,zaq,za3,zag,hk,hn0,hpos,hy',happ,List.append_assoc,zah,zae,zai,zaf,Nat.add_assoc,List.length_append]
    refine zgL t ih s1 _ hp.length hp.length _ k1 b1 hf (by rw[List.length_append,List.length_singleton];omega) _ fun s2 H r j1 j2 j3=> ?_
    rw[ha] at j1
    simp -dsimp -implicitDefEqProofs only[go_sem,seval,↓reduceIte]
    exact zfJ j1 (k2.trans k3 j2) (k3.trans k2.1 j3)
  ·rw[if_neg hk]
   simp -dsimp -implicitDefEqProofs only[go_sem,seval,↓reduceIte,Tm.av,zaq,za3,zag,hk,hn0,List.append_assoc,zah,zae,zai,zaf,Nat.add_assoc,List.length_append]
   refine zgL t ih s _ hp.length hp.length l hB1 hbox hf (by omega) _ fun s1 H r k1 k2 k3=> ?_
   simp -dsimp -implicitDefEqProofs only[go_sem,seval,↓reduceIte]
   exact zfJ k1 k2 k3
theorem zn8{s:AV}{H:Heap}{l:List Int}(h:IsV s H l):Am.frozen (.pv none (.sl none (ints l))) s H:=by
 rcases h with⟨rfl,rfl⟩|⟨r,rfl,h⟩
 ·exact⟨H,rfl⟩
 ·exact⟨H.set r (.arr none (ints l) true),by simp[AV.freezeRes,AV.freeze,deep,h,zbb,AV.shp]⟩
theorem zt9(t:Tm)(hv:t.valid=true)(hp:Heap):∃s' hp',S 26 [t.av] hp=some (.ret s',hp')/\IsV s' hp' (vads [] t.occ)/\PresV (.tsl none []) hp hp'/\OwnV (.tsl none []) hp s':=by
 refine zgF (fun v hp'=>IsV v hp' (vads [] t.occ)/\PresV (.tsl none []) hp hp'/\OwnV (.tsl none []) hp v) rfl rfl rfl rfl ?_
 have hsz:=valid_size hv
 have h1:=fun hp=>zb4 t hp (by omega)
 simp only[Tm.av] at h1
 have hn0:∀H:Heap,zbZ none H=some (.sl none H.length 0 0 0,H++[.arr none [] false]):=fun H=>zbs (sh:=none) (by decide)
 obtain⟨s',H',hm,hB,hP,hW⟩:=zmI t (.tsl none []) (hp++[.box (some 4) (.pv (some 4) t.pv),.arr none [] false]) [] (.inl ⟨rfl,rfl⟩) (valid_fits hv) (by simp;omega)
 simp only[Tm.av] at hm
 simp -dsimp -implicitDefEqProofs only[go_sem,seval,↓reduceIte,Tm.av,h1,hv,hn0,hm,List.append_assoc,zah,zae,zai,zaf,Nat.add_assoc,List.length_append]
 exact zfJ hB hP hW
theorem zu2{t:Tm}(h:t.fits=true)(hk:t.kind=0):0<=t.n/\t.n<=1099511627776:=by
 rw[Tm.zvB] at h
 have h1:t.node=true:=by simp at h;exact h.1
 cases t with
 |mk k n s ts=>
  simp only[Tm.kind] at hk
  subst hk
  simp[Tm.node,Tm.kind,Tm.n,Tm.name,Tm.args] at h1
  obtain⟨⟨⟨h2,h3⟩,_⟩,_⟩:=h1
  exact⟨of_decide_eq_true h2,of_decide_eq_true h3⟩
theorem zua:∀{t:Tm},t.fits=true->∀w∈t.occ,0<=w/\w<=1099511627776:=by
 intro t
 induction t using Tm.zvu with
 |h t ih=>
  intro hf w hw
  rw[Tm.occ_eq] at hw
  by_cases hk:t.kind=0
  ·rw[if_pos hk,List.mem_singleton] at hw
   rw[hw]
   exact zu2 hf hk
  ·rw[if_neg hk] at hw
   obtain⟨u,hu,h⟩:=Tm.zvJ hw
   exact ih u hu (Tm.zvw hf hu) w h
def zdi(v:Int):List (Int × PV)->Option PV
 |[]=>none
 |x::r=>if x.1=v then some x.2 else zdi v r
def mPut(v:Int)(p:PV):List (Int × PV)->List (Int × PV)
 |[]=>[(v,p)]
 |x::r=>if x.1=v then(v,p)::r else x::mPut v p r
def zcK(m:List (Int × PV)):List (PV × PV):=m.map fun x=>(.int .i64 x.1,x.2)
theorem zfb(v:Int):∀m,afind false (.int .i64 v) (zcK m)=some (zdi v m)
 |[]=>rfl
 |x::r=>by
  have ih:=zfb v r
  unfold zcK at ih ⊢
  simp only[List.map_cons,afind,PV.same,if_true,zdi]
  by_cases h:x.1=v
  ·simp[h]
  ·have h':¬v=x.1:=fun e=>h e.symm
   simp only[decide_eq_false h',if_neg h]
   exact ih
theorem zgD(v:Int)(p:PV):∀m,aput false (.int .i64 v) p (zcK m)=some (zcK (mPut v p m))
 |[]=>rfl
 |x::r=>by
  have ih:=zgD v p r
  unfold zcK at ih ⊢
  simp only[List.map_cons,aput,PV.same,if_true,mPut]
  by_cases h:x.1=v
  ·simp[h]
  ·have h':¬v=x.1:=fun e=>h e.symm
   simp only[decide_eq_false h',if_neg h,List.map_cons]
   rw[ih]
theorem zka(v w:Int)(p:PV):∀m,zdi v (mPut w p m)=if v=w then some p else zdi v m
 |[]=>by
  by_cases h:v=w
  ·simp[mPut,zdi,h]
  ·have h':¬w=v:=fun e=>h e.symm
   simp[mPut,zdi,h,h']
 |x::r=>by
  have ih:=zka v w p r
  unfold mPut
  by_cases h:x.1=w
  ·rw[if_pos h]
   by_cases e:v=w
   ·simp[zdi,e]
   ·have e':¬w=v:=fun q=>e q.symm
    have e2:¬x.1=v:=fun q=>e (q.symm.trans h)
    simp[zdi,e,e',e2]
  ·rw[if_neg h]
   simp only[zdi,ih]
   by_cases e:x.1=v
   ·have e2:¬v=w:=fun q=>h (e.trans q)
    simp[e,e2]
   ·simp[e]
theorem zsZ{m:List (Int × PV)}{z:PV}{hp:Heap}{r:Nat}{s:Sh}{v:Int}(h:hp[r]? =some (.map none (zcK m))):za4 false none (.pv none z) false hp [.map r,.pv s (.int .i64 v)]=some (.pv none ((zdi v m).getD z)):=by
 have hf:=zfb v m
 cases hm:zdi v m with
 |none=>rw[hm] at hf;exact zbJ h hf
 |some x=>rw[hm] at hf;exact zdd h hf
def zfc(l:List Int):List (Int × PV):=l.map fun v=>(v,.int .i64 1)
theorem zfd(v:Int):∀l:List Int,(zdi v (zfc l)).getD (.int .i64 0)=.int .i64 (if v∈l then 1 else 0)
 |[]=>rfl
 |x::r=>by
  have ih:=zfd v r
  unfold zfc at ih ⊢
  simp only[List.map_cons,zdi]
  by_cases h:x=v
  ·subst h;simp
  ·have h':¬v=x:=fun e=>h e.symm
   rw[if_neg h,ih]
   simp[h']
theorem zke(v:Int):∀l:List Int,v ∉ l->mPut v (.int .i64 1) (zfc l)=zfc (l++[v])
 |[],_=>rfl
 |x::r,h=>by
  have ih:=zke v r fun hm=>h (List.mem_cons_of_mem _ hm)
  unfold zfc at ih ⊢
  simp only[List.map_cons,mPut,List.cons_append]
  have h':¬x=v:=fun e=>h (by rw[e];exact List.mem_cons_self)
  rw[if_neg h',ih]
def gV(t:Tm)(l:List Int):Heap:=[.box (some 4) (.pv (some 4) t.pv),.arr none [] false,.box none (.sl none 3 l.length 0 l.length),.arr none (ints l) false,.map none (zcK (zfc l)),.box none (.map 4)]
theorem zsB(t0 u:Tm)(l:List Int)(ext:Heap)(hl:l.length<100000000):
  S 94 [u.av,.ptr 5 0,.ptr 2 0] (gV t0 l++ext)=some (.ret u.av,gV t0 (vadd l u.n)++ext):=by
 refine zaE rfl rfl rfl rfl ?_
 have hlim:l.length+1<=lim:=by unfold lim;omega
 by_cases hm:u.n∈l
 ·have e:vadd l u.n=l:=by simp[vadd,hm]
  rw[e]
  have hlk:∀(a0 a1 a2 a3 a5:AObj) (e:Heap),za4 false none (.pv none (.int .i64 0)) false (a0::a1::a2::a3::.map none (zcK (zfc l))::a5::e) [.map 4,.pv none (.int .i64 u.n)]=some (.pv none (.int .i64 1)):=fun a0 a1 a2 a3 a5 e=>by
   rw[zsZ (m:=zfc l) rfl,zfd,if_pos hm]
  simp -dsimp -implicitDefEqProofs only[go_sem,seval,↓reduceIte,gV,List.append_assoc,zah,zae,zai,zaf,Nat.add_assoc,List.length_append,Tm.av,za3,hlk]
  rw[if_pos (by simp[AV.refsIn])]
  simp
 ·have e:vadd l u.n=l++[u.n]:=by simp[vadd,hm]
  rw[e]
  have hlk:∀(a0 a1 a2 a3 a5:AObj) (e:Heap),za4 false none (.pv none (.int .i64 0)) false (a0::a1::a2::a3::.map none (zcK (zfc l))::a5::e) [.map 4,.pv none (.int .i64 u.n)]=some (.pv none (.int .i64 0)):=fun a0 a1 a2 a3 a5 e=>by
   rw[zsZ (m:=zfc l) rfl,zfd,if_neg hm]
  have hms:∀(a0 a1 a2 a3 a5:AObj) (e:Heap),zb6 false none (a0::a1::a2::a3::.map none (zcK (zfc l))::a5::e) [.map 4,.pv none (.int .i64 u.n),.pv none (.int .i64 1)]=some (.undef,a0::a1::a2::a3::.map none (zcK (zfc (l++[u.n])))::a5::e):=fun a0 a1 a2 a3 a5 e=>by
   rw[zde (es:=zcK (zfc l)) rfl (zgD _ _ _),zke _ _ hm]
   rfl
  have hst:∀(n o' n':Nat) (a0 a1 a3 a4 a5:AObj) (e:Heap) (b:Nat),zaD none (b+6) (a0::a1::.box none (.sl none 3 n 0 n)::a3::a4::a5::e) [.ptr 2 0,.sl none 3 n' o' n']=some (.undef,a0::a1::.box none (.sl none 3 n' o' n')::a3::a4::a5::e):=fun n o' n' a0 a1 a3 a4 a5 e b=>zgU (by omega) rfl
  simp -dsimp -implicitDefEqProofs only[go_sem,seval,↓reduceIte,gV,List.append_assoc,zah,zae,zai,zaf,Nat.add_assoc,List.length_append,Tm.av,za3,hlk,hms,hst,zbb,hlim,zqT]
  rw[if_pos (by simp[AV.refsIn])]
  simp
theorem zn6(t0:Tm):∀(t:Tm) (l:List Int) (ext:Heap),t.fits=true->t.size<10000000->l.length+t.size<100000000->
  ∃v e,S 92 [t.av,.func (.func 94) [] [.ptr 5 0,.ptr 2 0]] (gV t0 l++ext)=some (.ret v,gV t0 (vads l t.occ)++(ext++e))/\v.shp=some 4/\v.plain=true/\
   ∃e2,AV.freeze deep v (gV t0 (vads l t.occ)++(ext++e))=some (t.pv,gV t0 (vads l t.occ)++(ext++e2)):=by
 intro t
 induction t using Tm.zvu with
 |h t ih=>
  intro l ext hf ht hl
  have hts:=t.size_eq
  have hlen:=Tm.zvt t.args
  obtain⟨K,hK⟩:∃K:List Int->Heap,K=fun l=>gV t0 l++ext:=⟨_,rfl⟩
  have hKs:∀l,gV t0 l++ext=K l:=fun l=>by rw[hK]
  have hKl:∀l,(K l).length=ext.length+6:=fun l=>by rw[<-hKs];simp[gV]
  have hKa:∀l X,gV t0 l++(ext++X)=K l++X:=fun l X=>by rw[<-hKs,List.append_assoc]
  simp only[hKa,hKs]
  obtain⟨n,hn⟩:∃n,n=ext.length+6:=⟨_,rfl⟩
  rw[<-hn] at hKl
  rw[Tm.occ_eq]
  by_cases hk:t.kind=0
  ·rw[if_pos hk]
   have h1:=fun X=>zsB t0 t l (ext++X) (by omega)
   simp only[hKa] at h1
   have e1:vads l [t.n]=vadd l t.n:=rfl
   rw[e1]
   refine⟨t.av,[],?_,rfl,rfl,⟨[],rfl⟩⟩
   rw[List.append_nil]
   refine zaE rfl rfl rfl rfl ?_
   have hk':=eq_true hk
   simp only[Tm.av] at h1
   simp -dsimp -implicitDefEqProofs only[go_sem,seval,↓reduceIte,Tm.av,zaq,hk',h1,List.append_assoc,zah,zae,zai,zaf,Nat.add_assoc,List.length_append,hKl,getN (hKl _),zdm (hKl _),setN (hKl _),zdV (hKl _)]
   rw[if_pos (by simp[AV.refsIn]),<-hKl (vadd l t.n)]
   exact List.take_left
  ·rw[if_neg hk]
   refine⟨.agg [(none,.pv none (.int .i64 t.kind)),(none,.pv none (.int .i64 t.n)),(none,.pv none (.str t.name)),(none,.sl (some 4) (n+5) t.args.length 0 t.args.length)],
    [.box (some 4) (.pv (some 4) t.pv),.box (some 4) (.agg [(none,.pv none (.int .i64 t.kind)),(none,.pv none (.int .i64 t.n)),(none,.pv none (.str t.name)),(none,.sl (some 4) (n+5) t.args.length 0 t.args.length)]),.arr (some 4) [] false,.box (some 4) (.agg [(none,.pv none (.int .i64 t.kind)),(none,.pv none (.int .i64 t.n)),(none,.pv none (.str t.name)),(none,.sl (some 4) (n+5) t.args.length 0 t.args.length)]),.arr (some 4) [] false,.arr (some 4) (Tm.pvs t.args) false],?_,rfl,rfl,?_⟩
   ·refine zaE rfl rfl rfl rfl ?_
    have hk':=eq_false hk
    have hb:zaN [(none,.pv none (.int .i64 0)),(none,.pv none (.int .i64 0)),(none,.pv none (.str [])),(none,.tsl (some 4) [])] [0,1,2] [.pv none (.int .i64 t.kind),.pv none (.int .i64 t.n),.pv none (.str t.name)]=some (.agg [(none,.pv none (.int .i64 t.kind)),(none,.pv none (.int .i64 t.n)),(none,.pv none (.str t.name)),(none,.tsl (some 4) [])]):=rfl
    have hle:∀k,n<=n+k:=fun k=>Nat.le_add_right _ _
    rw[hKl]
    simp -dsimp -implicitDefEqProofs only[go_sem,seval,↓reduceIte,Tm.av,zaq,za3,zar,zag,hk',Tm.pvs_len,hb,zac (Nat.le_add_right _ _),List.append_assoc,zah,zae,zai,zaf,Nat.add_assoc,List.length_append,hKl,getN (hKl _),zdm (hKl _),setN (hKl _),zdV (hKl _)]
    refine zdn (α:=Unit) t.args.length (fun _ _=>True) (fun i _=>⟨[(1,.func (.func 94) [] [.ptr 5 0,.ptr 2 0]),(4,.ptr (n+1) 0),(5,.ptr (n+3) 0),(22,.pv none (.sl (some 4) (Tm.pvs t.args))),(23,.pv none (.int .i64 t.args.length)),(24,.pv none (.int .i64 i))],K (vads l (Tm.occs (t.args.take i)))++appH n t i⟩) () ⟨trivial,?_⟩ ?_ ?_
    ·rw[List.take_zero]
     rfl
    ·rintro i - h -
     have hc:(i:Int)<(t.args.length:Int):=by omega
     obtain⟨u,hu⟩:∃u,t.args[i]? =some u:=⟨_,List.getElem?_eq_getElem h⟩
     have hum:=List.mem_of_getElem? hu
     have husz:=Tm.zvv hum
     have hst:=Tm.zvD hu
     have hle2:=Tm.zvz t.args (i+1)
     have hvl:=zcI (Tm.occs (t.args.take i)) l
     have hol:=Tm.zvN (t.args.take i)
     obtain⟨v,e,hcall,hvs,hvp,e2,hfz⟩:=ih u hum (vads l (Tm.occs (t.args.take i))) (ext++(appH n t i++[.box (some 4) (.pv (some 4) u.pv),.arr (some 4) [] false])) (Tm.zvw hf hum) (by omega) (by omega)
     rw[<-zeM,<-Tm.zvF hu] at hcall hfz
     simp only[List.append_assoc,hKa] at hcall hfz
     generalize vads l (Tm.occs (t.args.take (i+1)))=l2 at hcall hfz ⊢
     generalize vads l (Tm.occs (t.args.take i))=l1 at hcall hfz hvl ⊢
     have w2:IntKind.i64.wrap ((i:Int)+1)=((i+1:Nat):Int):=by rw[zaR (by omega) (by omega)];omega
     have hl:(Tm.pvs (t.args.take i)).length=i:=by rw[Tm.pvs_len,List.length_take];omega
     have hlim:i+1<=lim:=by unfold lim;omega
     have hbs:za0 (some 4) (K l2++(appH n t i++([.box (some 4) (.pv (some 4) u.pv),.arr (some 4) [] false]++e))) [v]=some (.tsl (some 4) [u.pv],K l2++(appH n t i++([.box (some 4) (.pv (some 4) u.pv),.arr (some 4) [] false]++e2))):=by
      simp only[za0,zam,hfz,hvs,zaP,if_true]
     have hs1:∀(k k':List Int) (e e':Heap),zcm (K k++(appH n t i++e)) (K k'++(appH n t i++e')) (.ptr (n+3) 3)=true:=fun k k' e e'=>zgt (t:=t) (q:=n+5) (i:=i) (by rw[getN (hKl _)];rfl) (by rw[getN (hKl _)];rfl)
     simp only[Tm.av] at hcall
     simp only[appH,List.append_assoc,List.cons_append,List.nil_append] at hcall hbs hs1
     simp -dsimp -implicitDefEqProofs only[go_sem,seval,↓reduceIte,appH,hc,zap (Tm.pvs_get hu),zfa,List.take_succ_cons,List.drop_succ_cons,List.all_cons,List.all_nil,hcall,hbs,hs1,w2,hl,hlim,Tm.zvx hu,zac (Nat.le_add_right _ _),zaO (Nat.le_add_right _ _),List.append_assoc,zah,zae,zai,zaf,Nat.add_assoc,List.length_append,hKl,getN (hKl _),zdm (hKl _),setN (hKl _),zdV (hKl _)]
     refine⟨(),?_⟩
     rw[zcr 6 (hKl _) rfl (by simp[AObj.refs,AV.ofComps,pures,AV.refsIn,AV.refsIn.go]) (by simp[AV.refsIn,AV.refsIn.gol])]
     rfl
    ·rintro - -
     have hc:¬(t.args.length:Int)<(t.args.length:Int):=by omega
     simp -dsimp -implicitDefEqProofs only[go_sem,seval,↓reduceIte,appH,hc,List.take_length,zaz,zac (Nat.le_add_right _ _),zaO (Nat.le_add_right _ _),List.append_assoc,zah,zae,zai,zaf,Nat.add_assoc,List.length_append,hKl,getN (hKl _),zdm (hKl _),setN (hKl _),zdV (hKl _)]
     rw[if_neg (by simp[AV.refsIn,AV.refsIn.go])]
   ·have e:∀l hp,AV.freeze (7+1) (.agg l) hp=match AV.freeze.go 7 l hp with|some (ps,hp')=>some (.agg ps,hp')|none=>none:=fun _ _=>rfl
    cases t with
    |mk k n' s ts=>
     refine⟨[.box (some 4) (.pv (some 4) (Tm.mk k n' s ts).pv),.box (some 4) (.agg [(none,.pv none (.int .i64 k)),(none,.pv none (.int .i64 n')),(none,.pv none (.str s)),(none,.sl (some 4) (n+5) ts.length 0 ts.length)]),.arr (some 4) [] false,.box (some 4) (.agg [(none,.pv none (.int .i64 k)),(none,.pv none (.int .i64 n')),(none,.pv none (.str s)),(none,.sl (some 4) (n+5) ts.length 0 ts.length)]),.arr (some 4) [] false,.arr (some 4) (Tm.pvs ts) true],?_⟩
     show AV.freeze (7+1) (.agg _) _=_
     simp[e,AV.freeze.go,AV.freeze,getN (hKl _),setN (hKl _),Tm.kind,Tm.n,Tm.name,Tm.args,Tm.pvs_len,Tm.pv]
theorem zmG(t:Tm)(hv:t.valid=true)(hp:Heap):S 49 [t.av] hp=some (.ret (.pv none (.sl none (ints (vads [] t.occ)))),hp):=by
 refine zal rfl rfl rfl (zab [(some 4,t.pv)]) rfl ?_
 have hsz:=valid_size hv
 have h1:=fun hp=>zbY t hp (by omega)
 rw[hv] at h1
 have hn0:∀H:Heap,zbZ none H=some (.sl none H.length 0 0 0,H++[.arr none [] false]):=fun H=>zbs (sh:=none) (by decide)
 obtain⟨v,e,h2,_,_,e2,hfz⟩:=zn6 t t [] [] (valid_fits hv) (by omega) (by simp;omega)
 generalize vads [] t.occ=l at*
 simp only[Tm.av] at h1 h2
 have hmk:∀(a0 a1 a2 a3:AObj),zaD none 0 [a0,a1,a2,a3,.map none [],.box none (.pv none .nilmap)] [.ptr 5 0,.map 4]=some (.undef,[a0,a1,a2,a3,.map none [],.box none (.map 4)]):=fun _ _ _ _=>rfl
 have e0:gV t []++[]=[.box (some 4) (.pv (some 4) t.pv),.arr none [] false,.box none (.sl none 3 0 0 0),.arr none [] false,.map none [],.box none (.map 4)]:=rfl
 rw[e0] at h2
 simp only[gV,List.nil_append,List.cons_append] at h2
 have hal:∀a0 a1:AObj,zcl none (.tsl none []) [a0,a1] []=some (.ptr 2 0,[a0,a1,.box none (.sl none 3 0 0 0),.arr none [] false]):=fun _ _=>rfl
 have hfr:∀(a0 a1 a2 a4 a5:AObj),Am.frozen (.pv none (.sl none (ints l))) (.sl none 3 l.length 0 l.length) (a0::a1::a2::.arr none (ints l) false::a4::a5::e):=fun a0 a1 a2 a4 a5=>zn8 (.inr ⟨3,rfl,rfl⟩)
 simp -dsimp -implicitDefEqProofs only[go_sem,seval,↓reduceIte,Tm.av,h1,hn0,hal,hmk,h2]
 exact hfr _ _ _ _ _
def posF:Nat->List Int->List (Int × PV)
 |_,[]=>[]
 |k,x::r=>(x,.int .i64 (k:Int))::posF (k+1) r
theorem zmk:∀(l:List Int) (k:Nat),(posF k l).length=l.length
 |[],_=>rfl
 |x::r,k=>by rw[posF,List.length_cons,zmk r];rfl
theorem zgw(v:Int):∀(l:List Int) (k:Nat),zdi v (posF k l)=if v∈l then some (.int .i64 ((k+l.idxOf v:Nat):Int)) else none
 |[],_=>rfl
 |x::r,k=>by
  rw[posF,zdi,zgw v r]
  by_cases h:x=v
  ·subst h
   simp
  ·have h':¬v=x:=fun e=>h e.symm
   simp only[if_neg h,List.mem_cons,h',false_or]
   rw[List.idxOf_cons]
   have hb:(x == v)=false:=by simpa using h
   rw[hb]
   simp only[cond_false]
   split
   ·congr 2
    omega
   ·rfl
theorem zml(v:Int):∀(l:List Int) (k:Nat),v ∉ l->mPut v (.int .i64 ((k+l.length:Nat):Int)) (posF k l)=posF k (l++[v])
 |[],k,_=>rfl
 |x::r,k,h=>by
  have h':¬x=v:=fun e=>h (by rw[e];exact List.mem_cons_self)
  have ih:=zml v r (k+1) fun hm=>h (List.mem_cons_of_mem _ hm)
  rw[posF,mPut,if_neg h',List.cons_append,posF,<-ih,List.length_cons]
  congr 4
  omega
theorem ziz{v:Int}:∀{l L:List Int},v∈l->l <+: L->L.idxOf v=l.idxOf v
 |[],_,h,_=>by cases h
 |x::r,L,h,hp=>by
  obtain⟨m,rfl⟩:=hp
  rw[List.cons_append,List.idxOf_cons,List.idxOf_cons]
  cases hb:x == v with
  |true=>rfl
  |false=>
   simp only[cond_false]
   have hx:¬x=v:=by simpa using hb
   have hm:v∈r:=(List.mem_cons.1 h).resolve_left fun e=>hx e.symm
   rw[ziz hm ⟨m,rfl⟩]
theorem zfF{v:Int}:∀{l:List Int},v ∉ l->(l++[v]).idxOf v=l.length
 |[],_=>by simp[List.idxOf_cons]
 |x::r,h=>by
  have h':¬x=v:=fun e=>h (by rw[e];exact List.mem_cons_self)
  rw[List.cons_append,List.idxOf_cons,beq_eq_false_iff_ne.2 h',List.length_cons]
  simp only[cond_false]
  rw[zfF fun hm=>h (List.mem_cons_of_mem _ hm)]
theorem zsa(l:List Int)(v:Int):l <+: vadd l v:=by
 unfold vadd
 split
 ·exact List.prefix_refl _
 ·exact List.prefix_append _ _
theorem ziA:∀(ws l:List Int),l <+: vads l ws
 |[],l=>List.prefix_refl _
 |w::r,l=>(zsa l w).trans (ziA r (vadd l w))
def cPos(L:List Int)(v:Int):Tm:=tvar (L.idxOf v:Int)
def canT(t:Tm):Tm:=Tm.sub (cPos (vads [] t.occ)) t
theorem zmm(l:List Int)(v:Int):v∈vadd l v:=by
 unfold vadd
 split
 ·assumption
 ·simp
theorem zcu{L:List Int}{t:Tm}(hk:¬t.kind=0):Tm.sub (cPos L) t=.mk t.kind t.n t.name (t.args.map (Tm.sub (cPos L))):=by
 rw[Tm.zvy,if_neg hk]
def cagg(k:Int)(q:Nat):AV:=.agg [(none,.pv none (.int .i64 0)),(none,.pv none (.int .i64 k)),(none,.pv none (.str [])),(none,.sl (some 4) q 0 0 0)]
def gC(t:Tm)(l:List Int):Heap:=[.box (some 4) (.pv (some 4) t.pv),.box (some 4) (cagg 0 2),.arr (some 4) [] false,.map none (zcK (posF 0 l)),.box none (.map 3)]
theorem zuG{m:List (Int × PV)}{hp:Heap}{r:Nat}{s:Sh}{v:Int}(h:hp[r]? =some (.map none (zcK m))):za4 false none (.pv none (.int .i64 0)) true hp [.map r,.pv s (.int .i64 v)]=some (match zdi v m with|some x=>.tuple [.pv none x,.pv none (.bool true)]|none=>.tuple [.pv none (.int .i64 0),.pv none (.bool false)]):=by
 have hf:=zfb v m
 cases hm:zdi v m with
 |none=>rw[hm] at hf;exact zbJ h hf
 |some x=>rw[hm] at hf;exact zdd h hf
theorem zgv{k:Int}{q:Nat}{H:Heap}(h:H[q]? =some (.arr (some 4) [] false)):AV.freeze deep (cagg k q) H=some ((tvar k).pv,H.set q (.arr (some 4) [] true)):=by
 have e:∀l hp,AV.freeze (7+1) (.agg l) hp=match AV.freeze.go 7 l hp with|some (ps,hp')=>some (.agg ps,hp')|none=>none:=fun _ _=>rfl
 show AV.freeze (7+1) (.agg _) _=_
 simp[e,AV.freeze.go,AV.freeze,h]
 rfl
theorem zsP(t:Tm)(l:List Int)(ext:Heap):(gC t l++ext).length=ext.length+5:=by simp[gC]
theorem gC_4(t:Tm)(l:List Int)(ext X:Heap):(gC t l++ext++X)[4]? =some (.box none (.map 3)):=rfl
theorem gC_3(t:Tm)(l:List Int)(ext X:Heap):(gC t l++ext++X)[3]? =some (.map none (zcK (posF 0 l))):=rfl
theorem zuH(t:Tm)(l l':List Int)(ext X:Heap):(gC t l++ext++X).set 3 (.map none (zcK (posF 0 l')))=gC t l'++ext++X:=rfl
theorem zqa(t0 u:Tm)(l:List Int)(ext:Heap)(hl:l.length<100000000)(n:Nat)(hn:n=ext.length+5):
  S 93 [u.av,.ptr 4 0] (gC t0 l++ext)=some (.ret (cagg ((vadd l u.n).idxOf u.n:Nat) (n+3)),gC t0 (vadd l u.n)++(ext++[.box (some 4) (.pv (some 4) u.pv),.box (some 4) (cagg ((vadd l u.n).idxOf u.n:Nat) (n+3)),.arr (some 4) [] false,.arr (some 4) [] false])):=by
 obtain⟨K,hK⟩:∃K:List Int->Heap,K=fun l=>gC t0 l++ext:=⟨_,rfl⟩
 have hKs:∀l,gC t0 l++ext=K l:=fun l=>by rw[hK]
 have hKl:∀l,(K l).length=n:=fun l=>by rw[<-hKs,zsP,hn]
 have hKa:∀l X,gC t0 l++(ext++X)=K l++X:=fun l X=>by rw[<-hKs,List.append_assoc]
 have hK4:∀l X,(K l++X)[4]? =some (.box none (.map 3)):=fun l X=>by rw[<-hKs];exact gC_4 t0 l ext X
 have hK3:∀l X,(K l++X)[3]? =some (.map none (zcK (posF 0 l))):=fun l X=>by rw[<-hKs];exact gC_3 t0 l ext X
 have hKS:∀l l' X,(K l++X).set 3 (.map none (zcK (posF 0 l')))=K l'++X:=fun l l' X=>by rw[<-hKs,<-hKs];exact zuH t0 l l' ext X
 have hle:∀k,n<=n+k:=fun k=>Nat.le_add_right _ _
 rw[hKa,hKs]
 unfold cagg
 refine zaE rfl rfl rfl rfl ?_
 rw[hKl]
 have hb:∀k:Int,zaN [(none,.pv none (.int .i64 0)),(none,.pv none (.int .i64 0)),(none,.pv none (.str [])),(none,.tsl (some 4) [])] [1] [.pv none (.int .i64 k)]=some (.agg [(none,.pv none (.int .i64 0)),(none,.pv none (.int .i64 k)),(none,.pv none (.str [])),(none,.tsl (some 4) [])]):=fun _=>rfl
 by_cases hm:u.n∈l
 ·have e:vadd l u.n=l:=by simp[vadd,hm]
  rw[e]
  have hlk:∀X:Heap,za4 false none (.pv none (.int .i64 0)) true (K l++X) [.map 3,.pv none (.int .i64 u.n)]=some (.tuple [.pv none (.int .i64 ((l.idxOf u.n:Nat):Int)),.pv none (.bool true)]):=fun X=>by
   rw[zuG (m:=posF 0 l) (hK3 _ _),zgw,if_pos hm,Nat.zero_add]
  simp -dsimp -implicitDefEqProofs only[go_sem,seval,↓reduceIte,cagg,List.append_assoc,zah,zae,zai,zaf,Nat.add_assoc,List.length_append,Tm.av,za3,hlk,hb,zaz,zac (Nat.le_add_right _ _),hK4,hKl,getN (hKl _),zdm (hKl _),setN (hKl _),zdV (hKl _)]
  rw[if_neg (by simp[AV.refsIn,AV.refsIn.go])]
 ·have e:vadd l u.n=l++[u.n]:=by simp[vadd,hm]
  rw[e,zfF hm]
  have hlk:∀X:Heap,za4 false none (.pv none (.int .i64 0)) true (K l++X) [.map 3,.pv none (.int .i64 u.n)]=some (.tuple [.pv none (.int .i64 0),.pv none (.bool false)]):=fun X=>by
   rw[zuG (m:=posF 0 l) (hK3 _ _),zgw,if_neg hm]
  have hml:∀X:Heap,zhz (K l++X) [.map 3]=some (.pv none (.int .i64 (l.length:Int))):=fun X=>by
   simp[zhz,hK3,zcK,zmk]
  have hms:∀X:Heap,zb6 false none (K l++X) [.map 3,.pv none (.int .i64 u.n),.pv none (.int .i64 (l.length:Int))]=some (.undef,K (l++[u.n])++X):=fun X=>by
   have:=zml u.n l 0 hm
   rw[Nat.zero_add] at this
   rw[zde (es:=zcK (posF 0 l)) (hK3 _ _) (zgD _ _ _),this,hKS]
  simp -dsimp -implicitDefEqProofs only[go_sem,seval,↓reduceIte,cagg,List.append_assoc,zah,zae,zai,zaf,Nat.add_assoc,List.length_append,Tm.av,za3,hlk,hml,hms,hb,zaz,zac (Nat.le_add_right _ _),hK4,hKl,getN (hKl _),zdm (hKl _),setN (hKl _),zdV (hKl _)]
  rw[if_neg (by simp[AV.refsIn,AV.refsIn.go])]
def appC(n:Nat)(t:Tm)(ts:List Tm)(i:Nat):Heap:=[.box (some 4) (.pv (some 4) t.pv),.box (some 4) (.agg [(none,.pv none (.int .i64 0)),(none,.pv none (.int .i64 0)),(none,.pv none (.str [])),(none,.sl (some 4) (n+2) 0 0 0)]),.arr (some 4) [] false,.box (some 4) (.agg [(none,.pv none (.int .i64 t.kind)),(none,.pv none (.int .i64 t.n)),(none,.pv none (.str t.name)),(none,.sl (some 4) (n+5) i 0 i)]),.arr (some 4) [] false,.arr (some 4) (Tm.pvs (ts.take i)) false]
theorem zr7(a b:List Tm):Tm.occs (a++b)=Tm.occs a++Tm.occs b:=by
 induction a with
 |nil=>rfl
 |cons x r ih=>rw[List.cons_append,Tm.occs,Tm.occs,ih,List.append_assoc]
theorem zli(t0:Tm):∀(t:Tm) (l L:List Int) (ext:Heap),t.fits=true->t.size<10000000->l.length+t.size<100000000->vads l t.occ <+: L->
  ∃v e,S 92 [t.av,.func (.func 93) [] [.ptr 4 0]] (gC t0 l++ext)=some (.ret v,gC t0 (vads l t.occ)++(ext++e))/\v.shp=some 4/\v.plain=true/\(∀H,v.own H=(v,H))/\
   (∃e2,AV.freeze deep v (gC t0 (vads l t.occ)++(ext++e))=some ((Tm.sub (cPos L) t).pv,gC t0 (vads l t.occ)++(ext++e2)))/\
   ∀H:Heap,(∀j,ext.length+5<=j->H[j]? =(gC t0 (vads l t.occ)++(ext++e))[j]?)->∃H2,AV.freeze deep v H=some ((Tm.sub (cPos L) t).pv,H2):=by
 intro t
 induction t using Tm.zvu with
 |h t ih=>
  intro l L ext hf ht hl hp
  have hts:=t.size_eq
  have hlen:=Tm.zvt t.args
  obtain⟨n,hn⟩:∃n,n=ext.length+5:=⟨_,rfl⟩
  have h1:=fun X=>zqa t0 t l (ext++X) (by omega)
  obtain⟨K,hK⟩:∃K:List Int->Heap,K=fun l=>gC t0 l++ext:=⟨_,rfl⟩
  have hKs:∀l,gC t0 l++ext=K l:=fun l=>by rw[hK]
  have hKl:∀l,(K l).length=n:=fun l=>by rw[<-hKs,zsP,hn]
  have hKa:∀l X,gC t0 l++(ext++X)=K l++X:=fun l X=>by rw[<-hKs,List.append_assoc]
  simp only[<-hn]
  simp only[List.append_assoc] at h1
  simp only[hKa] at h1
  simp only[hKa,hKs]
  rw[Tm.occ_eq] at hp ⊢
  by_cases hk:t.kind=0
  ·rw[if_pos hk] at hp ⊢
   have e1:vads l [t.n]=vadd l t.n:=rfl
   rw[e1] at hp ⊢
   have e2:Tm.sub (cPos L) t=tvar ((vadd l t.n).idxOf t.n:Nat):=by
    rw[Tm.zvy,if_pos hk]
    unfold cPos
    rw[ziz (zmm l t.n) hp]
   rw[e2]
   generalize (((vadd l t.n).idxOf t.n:Nat):Int)=k at*
   generalize vadd l t.n=l2 at*
   refine⟨cagg k (n+6),[.box (some 4) (.pv (some 4) t.pv),.box (some 4) (cagg k (n+6)),.arr (some 4) [] false,.box (some 4) (.pv (some 4) t.pv),.box (some 4) (cagg k (n+6)),.arr (some 4) [] false,.arr (some 4) [] false],?_,rfl,rfl,fun _=>rfl,?_,fun H hH=> ?_⟩
   ·unfold cagg
    refine zaE rfl rfl rfl rfl ?_
    have hk':=eq_true hk
    have h2:=h1 [.box (some 4) (.pv (some 4) t.pv),.box (some 4) (cagg 0 (n+2)),.arr (some 4) [] false] (n+3) (by rw[hn];simp)
    simp only[Tm.av,cagg,List.cons_append,List.nil_append] at h2
    rw[hKl]
    simp -dsimp -implicitDefEqProofs only[go_sem,seval,↓reduceIte,Tm.av,cagg,zaq,hk',h2,zaz,List.append_assoc,zah,zae,zai,zaf,Nat.add_assoc,List.length_append,hKl,getN (hKl _),zdm (hKl _),setN (hKl _),zdV (hKl _),zac (Nat.le_add_right _ _)]
    rw[if_neg (by simp[AV.refsIn,AV.refsIn.go])]
   ·refine⟨[.box (some 4) (.pv (some 4) t.pv),.box (some 4) (cagg k (n+6)),.arr (some 4) [] false,.box (some 4) (.pv (some 4) t.pv),.box (some 4) (cagg k (n+6)),.arr (some 4) [] false,.arr (some 4) [] true],?_⟩
    rw[zgv (by rw[getN (hKl _)];rfl),setN (hKl _)]
    rfl
   ·exact⟨_,zgv (by rw[hH _ (by omega),getN (hKl _)];rfl)⟩
  ·rw[if_neg hk] at hp ⊢
   rw[zcu hk]
   obtain⟨ts',hts'⟩:∃ts',ts'=t.args.map (Tm.sub (cPos L)):=⟨_,rfl⟩
   have htl:ts'.length=t.args.length:=by rw[hts',List.length_map]
   rw[<-hts']
   refine⟨.agg [(none,.pv none (.int .i64 t.kind)),(none,.pv none (.int .i64 t.n)),(none,.pv none (.str t.name)),(none,.sl (some 4) (n+5) t.args.length 0 t.args.length)],
    [.box (some 4) (.pv (some 4) t.pv),.box (some 4) (.agg [(none,.pv none (.int .i64 t.kind)),(none,.pv none (.int .i64 t.n)),(none,.pv none (.str t.name)),(none,.sl (some 4) (n+5) t.args.length 0 t.args.length)]),.arr (some 4) [] false,.box (some 4) (.agg [(none,.pv none (.int .i64 t.kind)),(none,.pv none (.int .i64 t.n)),(none,.pv none (.str t.name)),(none,.sl (some 4) (n+5) t.args.length 0 t.args.length)]),.arr (some 4) [] false,.arr (some 4) (Tm.pvs ts') false],?_,rfl,rfl,fun _=>rfl,?_,?_⟩
   ·refine zaE rfl rfl rfl rfl ?_
    have hk':=eq_false hk
    have hb:zaN [(none,.pv none (.int .i64 0)),(none,.pv none (.int .i64 0)),(none,.pv none (.str [])),(none,.tsl (some 4) [])] [0,1,2] [.pv none (.int .i64 t.kind),.pv none (.int .i64 t.n),.pv none (.str t.name)]=some (.agg [(none,.pv none (.int .i64 t.kind)),(none,.pv none (.int .i64 t.n)),(none,.pv none (.str t.name)),(none,.tsl (some 4) [])]):=rfl
    have hle:∀k,n<=n+k:=fun k=>Nat.le_add_right _ _
    rw[hKl]
    simp -dsimp -implicitDefEqProofs only[go_sem,seval,↓reduceIte,Tm.av,zaq,za3,zar,zag,hk',Tm.pvs_len,hb,zac (Nat.le_add_right _ _),List.append_assoc,zah,zae,zai,zaf,Nat.add_assoc,List.length_append,hKl,getN (hKl _),zdm (hKl _),setN (hKl _),zdV (hKl _)]
    refine zdn (α:=Unit) t.args.length (fun _ _=>True) (fun i _=>⟨[(1,.func (.func 93) [] [.ptr 4 0]),(4,.ptr (n+1) 0),(5,.ptr (n+3) 0),(22,.pv none (.sl (some 4) (Tm.pvs t.args))),(23,.pv none (.int .i64 t.args.length)),(24,.pv none (.int .i64 i))],K (vads l (Tm.occs (t.args.take i)))++appC n t ts' i⟩) () ⟨trivial,?_⟩ ?_ ?_
    ·rw[List.take_zero]
     rfl
    ·rintro i - h -
     have hc:(i:Int)<(t.args.length:Int):=by omega
     obtain⟨u,hu⟩:∃u,t.args[i]? =some u:=⟨_,List.getElem?_eq_getElem h⟩
     have hum:=List.mem_of_getElem? hu
     have husz:=Tm.zvv hum
     have hst:=Tm.zvD hu
     have hle2:=Tm.zvz t.args (i+1)
     have hvl:=zcI (Tm.occs (t.args.take i)) l
     have hol:=Tm.zvN (t.args.take i)
     have hpre:vads (vads l (Tm.occs (t.args.take i))) u.occ <+: L:=by
      rw[<-zeM,<-Tm.zvF hu]
      refine List.IsPrefix.trans ?_ hp
      have e:=List.take_append_drop (i+1) t.args
      rw[<-e,zr7,zeM,e]
      exact ziA _ _
     obtain⟨v,e,hcall,hvs,hvp,_,⟨e2,hfz⟩,_⟩:=ih u hum (vads l (Tm.occs (t.args.take i))) L (ext++(appC n t ts' i++[.box (some 4) (.pv (some 4) u.pv),.arr (some 4) [] false])) (Tm.zvw hf hum) (by omega) (by omega) hpre
     rw[<-zeM,<-Tm.zvF hu] at hcall hfz
     simp only[List.append_assoc,hKa] at hcall hfz
     generalize vads l (Tm.occs (t.args.take (i+1)))=l2 at hcall hfz ⊢
     generalize vads l (Tm.occs (t.args.take i))=l1 at hcall hfz hvl ⊢
     have w2:IntKind.i64.wrap ((i:Int)+1)=((i+1:Nat):Int):=by rw[zaR (by omega) (by omega)];omega
     have hl:(Tm.pvs (ts'.take i)).length=i:=by rw[Tm.pvs_len,List.length_take];omega
     have hlim:i+1<=lim:=by unfold lim;omega
     have hus:ts'[i]? =some (Tm.sub (cPos L) u):=by rw[hts'];simp[hu]
     have hbs:za0 (some 4) (K l2++(appC n t ts' i++([.box (some 4) (.pv (some 4) u.pv),.arr (some 4) [] false]++e))) [v]=some (.tsl (some 4) [(Tm.sub (cPos L) u).pv],K l2++(appC n t ts' i++([.box (some 4) (.pv (some 4) u.pv),.arr (some 4) [] false]++e2))):=by
      simp only[za0,zam,hfz,hvs,zaP,if_true]
     have hs1:∀(k k':List Int) (e e':Heap),zcm (K k++(appC n t ts' i++e)) (K k'++(appC n t ts' i++e')) (.ptr (n+3) 3)=true:=fun k k' e e'=>zgt (t:=t) (q:=n+5) (i:=i) (by rw[getN (hKl _)];rfl) (by rw[getN (hKl _)];rfl)
     simp only[Tm.av] at hcall
     simp only[appC,List.append_assoc,List.cons_append,List.nil_append] at hcall hbs hs1
     simp -dsimp -implicitDefEqProofs only[go_sem,seval,↓reduceIte,appC,hc,zap (Tm.pvs_get hu),zfa,List.take_succ_cons,List.drop_succ_cons,List.all_cons,List.all_nil,hcall,hbs,hs1,w2,hl,hlim,Tm.zvx hus,zac (Nat.le_add_right _ _),zaO (Nat.le_add_right _ _),List.append_assoc,zah,zae,zai,zaf,Nat.add_assoc,List.length_append,hKl,getN (hKl _),zdm (hKl _),setN (hKl _),zdV (hKl _)]
     refine⟨(),?_⟩
     rw[zcr 6 (hKl _) rfl (by simp[AObj.refs,AV.ofComps,pures,AV.refsIn,AV.refsIn.go]) (by simp[AV.refsIn,AV.refsIn.gol])]
     rfl
    ·rintro - -
     have hc:¬(t.args.length:Int)<(t.args.length:Int):=by omega
     have htk:ts'.take t.args.length=ts':=List.take_of_length_le (by omega)
     simp -dsimp -implicitDefEqProofs only[go_sem,seval,↓reduceIte,appC,hc,List.take_length,htk,zaz,zac (Nat.le_add_right _ _),zaO (Nat.le_add_right _ _),List.append_assoc,zah,zae,zai,zaf,Nat.add_assoc,List.length_append,hKl,getN (hKl _),zdm (hKl _),setN (hKl _),zdV (hKl _)]
     rw[if_neg (by simp[AV.refsIn,AV.refsIn.go])]
   ·have e:∀l hp,AV.freeze (7+1) (.agg l) hp=match AV.freeze.go 7 l hp with|some (ps,hp')=>some (.agg ps,hp')|none=>none:=fun _ _=>rfl
    refine⟨[.box (some 4) (.pv (some 4) t.pv),.box (some 4) (.agg [(none,.pv none (.int .i64 t.kind)),(none,.pv none (.int .i64 t.n)),(none,.pv none (.str t.name)),(none,.sl (some 4) (n+5) t.args.length 0 t.args.length)]),.arr (some 4) [] false,.box (some 4) (.agg [(none,.pv none (.int .i64 t.kind)),(none,.pv none (.int .i64 t.n)),(none,.pv none (.str t.name)),(none,.sl (some 4) (n+5) t.args.length 0 t.args.length)]),.arr (some 4) [] false,.arr (some 4) (Tm.pvs ts') true],?_⟩
    show AV.freeze (7+1) (.agg _) _=_
    simp[e,AV.freeze.go,AV.freeze,getN (hKl _),setN (hKl _),htl,Tm.pvs_len,Tm.pv]
   ·intro H hH
    have h5:=hH (n+5) (by omega)
    rw[getN (hKl _)] at h5
    have e:∀l hp,AV.freeze (7+1) (.agg l) hp=match AV.freeze.go 7 l hp with|some (ps,hp')=>some (.agg ps,hp')|none=>none:=fun _ _=>rfl
    refine⟨H.set (n+5) (.arr (some 4) (Tm.pvs ts') true),?_⟩
    show AV.freeze (7+1) (.agg _) _=_
    simp only[List.getElem?_cons_succ,List.getElem?_cons_zero] at h5
    simp[e,AV.freeze.go,AV.freeze,h5,htl,Tm.pvs_len,Tm.pv]
def canR(t:Tm):Tm:=if t.valid=true then canT t else zt
theorem zmg(t:Tm)(hp:Heap)(ht:t.size<1000000000):S 46 [t.av] hp=some (.ret (canR t).av,hp):=by
 refine zal rfl rfl rfl (zab [(some 4,t.pv)]) rfl ?_
 have h1:=fun hp=>zbY t hp ht
 unfold canR
 by_cases hv:t.valid=true
 ·rw[if_pos hv]
  have hsz:=valid_size hv
  obtain⟨v,e,h2,h3,h4,h5,_,h6⟩:=zli t t [] (vads [] t.occ) [] (valid_fits hv) (by omega) (by simp;omega) (List.prefix_refl _)
  rw[hv] at h1
  simp only[Tm.av,gC,cagg,List.cons_append,List.nil_append] at h1 h2
  have hmk:∀(a0 a1 a2:AObj),zaD none 0 [a0,a1,a2,.map none [],.box none (.pv none .nilmap)] [.ptr 4 0,.map 3]=some (.undef,[a0,a1,a2,.map none [],.box none (.map 3)]):=fun _ _ _=>rfl
  have e0:zcK (posF 0 [])=[]:=rfl
  rw[e0] at h2
  have hst:∀(a0 a2 a3 a4:AObj),zaD (some 4) 0 (a0::.box (some 4) (.agg [(none,.pv none (.int .i64 0)),(none,.pv none (.int .i64 0)),(none,.pv none (.str [])),(none,.sl (some 4) 2 0 0 0)])::a2::a3::a4::e) [.ptr 1 0,v]=some (.undef,a0::.box (some 4) v::a2::a3::a4::e):=fun _ _ _ _=>by
   simp[zaD,astore,h3,h4,h5]
  have hfr:∀(a0 a1 a2 a3 a4:AObj),Am.frozen (canT t).av v (a0::a1::a2::a3::a4::e):=fun a0 a1 a2 a3 a4=>by
   obtain⟨H2,k⟩:=h6 (a0::a1::a2::a3::a4::e) fun j hj=>by
    match j,hj with
    |j+5,_=>rfl
   exact zgu h3 h4 k
  simp -dsimp -implicitDefEqProofs only[go_sem,seval,↓reduceIte,Tm.av,h1,h2,hst,hmk,zac (Nat.zero_le _)]
  exact hfr _ _ _ _ _
 ·rw[if_neg hv]
  have hv':t.valid=false:=by simpa using hv
  rw[hv'] at h1
  simp only[Tm.av] at h1
  simp -dsimp -implicitDefEqProofs only[go_sem,seval,↓reduceIte,Tm.av,h1,zac (Nat.zero_le _),zt]
  exact⟨_,rfl⟩
theorem zgK{L:List Int}:∀t:Tm,t.fits=true->(Tm.sub (cPos L) t).size=t.size:=by
 intro t
 induction t using Tm.zvu with
 |h t ih=>
  intro hf
  rw[Tm.zvy]
  by_cases hk:t.kind=0
  ·rw[if_pos hk,zbx hf hk]
   rfl
  ·rw[if_neg hk,Tm.size_eq,t.size_eq]
   congr 1
   have hargs:∀u∈t.args,(Tm.sub (cPos L) u).size=u.size:=fun u hu=>ih u hu (Tm.zvw hf hu)
   show Tm.sizes (t.args.map (Tm.sub (cPos L)))=_
   generalize t.args=l at hargs
   clear ih
   induction l with
   |nil=>rfl
   |cons x r ihl=>
    rw[List.map_cons,Tm.sizes,Tm.sizes,hargs x List.mem_cons_self,ihl fun u hu=>hargs u (List.mem_cons_of_mem _ hu)]
theorem zqS{t:Tm}(h:t.valid=true):(canT t).size=t.size:=zgK t (valid_fits h)
theorem zkc{x:Int}:∀{l:List Int} {i:Nat},l[i]? =some x->(∀j,j<i->l[j]?≠some x)->l.idxOf x=i
 |[],_,h,_=>by simp at h
 |y::r,0,h,_=>by
  simp at h
  simp[h]
 |y::r,i+1,h,hn=>by
  have h0:=hn 0 (by omega)
  have hy:¬y=x:=fun e=>h0 (by simp[e])
  rw[List.idxOf_cons,beq_eq_false_iff_ne.2 hy]
  simp only[cond_false]
  rw[zkc (l:=r) (i:=i) (by simpa using h) fun j hj=>by simpa using hn (j+1) (by omega)]
theorem zt1(l:List Int)(x:Int)(hl:l.length<1000000000)(hm:x∈l)(hp:Heap):S 112 [.pv none (.sl none (ints l)),.pv none (.int .i64 x)] hp=some (.ret (.pv none (.int .i64 ((l.idxOf x:Nat):Int))),hp):=by
 refine zal rfl rfl rfl (zab [(none,.sl none (ints l)),(none,.int .i64 x)]) rfl ?_
 simp -dsimp -implicitDefEqProofs only[go_sem,seval,↓reduceIte,zbb]
 refine zdn (α:=Unit) l.length (fun i _=>∀j,j<i->l[j]?≠some x) (fun i _=>⟨[(0,.pv none (.sl none (ints l))),(1,.pv none (.int .i64 x)),(5,.pv none (.int .i64 i))],[]⟩) () ⟨fun j hj=>by omega,rfl⟩ ?_ ?_
 ·rintro i - h hinv
  have hc:(i:Int)<(l.length:Int):=by omega
  obtain⟨b,hb⟩:∃b,l[i]? =some b:=⟨_,List.getElem?_eq_getElem h⟩
  have w2:IntKind.i64.wrap ((i:Int)+1)=((i+1:Nat):Int):=by rw[zaR (by omega) (by omega)];omega
  by_cases hbx:b=x
  ·have hi:=zkc (by rw[hb,hbx]) hinv
   simp -dsimp -implicitDefEqProofs only[go_sem,seval,↓reduceIte,zbb,hc,zap (zeL hb),hbx,hi]
  ·simp -dsimp -implicitDefEqProofs only[go_sem,seval,↓reduceIte,zbb,hc,zap (zeL hb),hbx,w2]
   refine⟨(),fun j hj=> ?_⟩
   rcases Nat.lt_or_ge j i with h|h
   ·exact hinv j h
   ·have:j=i:=by omega
    subst this
    rw[hb]
    intro e
    cases e
    exact hbx rfl
 ·rintro - hinv
  obtain⟨j,hlt,hj⟩:=List.getElem_of_mem hm
  exact absurd (by rw[List.getElem?_eq_getElem hlt,hj]) (hinv j hlt)
def appN(t:Tm)(ts:List Tm)(i:Nat):Heap:=[.box (some 4) (.pv (some 4) t.pv),.box (some 4) (.agg [(none,.pv none (.int .i64 0)),(none,.pv none (.int .i64 0)),(none,.pv none (.str [])),(none,.sl (some 4) 2 0 0 0)]),.arr (some 4) [] false,.box (some 4) (.agg [(none,.pv none (.int .i64 t.kind)),(none,.pv none (.int .i64 t.n)),(none,.pv none (.str t.name)),(none,.sl (some 4) 5 i 0 i)]),.arr (some 4) [] false,.arr (some 4) (Tm.pvs (ts.take i)) false]
theorem zqF(L:List Int)(hL:L.length<100000000):∀(t:Tm) (hp:Heap),t.fits=true->t.size<1000000000->(∀w∈t.occ,w∈L)->S 59 [.pv none (.sl none (ints L)),t.av] hp=some (.ret (Tm.sub (cPos L) t).av,hp):=by
 intro t
 induction t using Tm.zvu with
 |h t ih=>
  intro hp hf ht ho
  have hts:=t.size_eq
  have hlen:=Tm.zvt t.args
  refine zal rfl rfl rfl (zab [(none,.sl none (ints L)),(some 4,t.pv)]) rfl ?_
  have hb:zaN [(none,.pv none (.int .i64 0)),(none,.pv none (.int .i64 0)),(none,.pv none (.str [])),(none,.tsl (some 4) [])] [0,1,2] [.pv none (.int .i64 t.kind),.pv none (.int .i64 t.n),.pv none (.str t.name)]=some (.agg [(none,.pv none (.int .i64 t.kind)),(none,.pv none (.int .i64 t.n)),(none,.pv none (.str t.name)),(none,.tsl (some 4) [])]):=rfl
  by_cases hk:t.kind=0
  ·have hk':=eq_true hk
   have hm:t.n∈L:=ho _ (by rw[Tm.occ_eq,if_pos hk];simp)
   have hpos:=fun hp=>zt1 L t.n (by omega) hm hp
   have ha:t.args=[]:=by rw[zbx hf hk];rfl
   have hnm:t.name=[]:=by rw[zbx hf hk];rfl
   have e:Tm.sub (cPos L) t=tvar (L.idxOf t.n:Nat):=by rw[Tm.zvy,if_pos hk];rfl
   rw[e]
   generalize ((L.idxOf t.n:Nat):Int)=k at hpos ⊢
   simp -dsimp -implicitDefEqProofs only[go_sem,seval,↓reduceIte,Tm.av,zaq,za3,zar,zag,Tm.pvs_len,hk',hb,hpos,zac (Nat.zero_le _)]
   refine zdn (α:=Unit) 0 (fun _ _=>True) (fun i _=>⟨[(0,.pv none (.sl none (ints L))),(3,.ptr 0 0),(4,.ptr 1 0),(5,.ptr 3 0),(6,.pv none (.int .i64 i))],[.box (some 4) (.pv (some 4) t.pv),.box (some 4) (.agg [(none,.pv none (.int .i64 0)),(none,.pv none (.int .i64 0)),(none,.pv none (.str [])),(none,.sl (some 4) 2 0 0 0)]),.arr (some 4) [] false,.box (some 4) (.agg [(none,.pv none (.int .i64 t.kind)),(none,.pv none (.int .i64 k)),(none,.pv none (.str t.name)),(none,.sl (some 4) 5 0 0 0)]),.arr (some 4) [] false,.arr (some 4) [] false]⟩) () ⟨trivial,rfl⟩ ?_ ?_
   ·rintro i - h -
    omega
   ·rintro - -
    have hc:¬(0:Int)<(t.args.length:Int):=by rw[ha];simp
    simp -dsimp -implicitDefEqProofs only[go_sem,seval,↓reduceIte,zag,Tm.pvs_len,hc,zaz,zac (Nat.zero_le _),zaO (Nat.zero_le _)]
    rw[hk,hnm]
    exact zhw _ _ _ [] _ rfl rfl
  ·have hk':=eq_false hk
   rw[zcu hk]
   obtain⟨ts',hts'⟩:∃ts',ts'=t.args.map (Tm.sub (cPos L)):=⟨_,rfl⟩
   have htl:ts'.length=t.args.length:=by rw[hts',List.length_map]
   rw[<-hts']
   simp -dsimp -implicitDefEqProofs only[go_sem,seval,↓reduceIte,Tm.av,zaq,za3,zar,zag,Tm.pvs_len,hk',hb,zac (Nat.zero_le _)]
   refine zdn (α:=Unit) t.args.length (fun _ _=>True) (fun i _=>⟨[(0,.pv none (.sl none (ints L))),(3,.ptr 0 0),(4,.ptr 1 0),(5,.ptr 3 0),(6,.pv none (.int .i64 i))],appN t ts' i⟩) () ⟨trivial,rfl⟩ ?_ ?_
   ·rintro i - h -
    have hc:(i:Int)<(t.args.length:Int):=by omega
    obtain⟨u,hu⟩:∃u,t.args[i]? =some u:=⟨_,List.getElem?_eq_getElem h⟩
    have hum:=List.mem_of_getElem? hu
    have husz:=Tm.zvv hum
    have hcall:=fun hp=>ih u hum hp (Tm.zvw hf hum) (by omega) fun w hw=>ho w (Tm.zvM hk hum hw)
    simp only[Tm.av] at hcall
    have w2:IntKind.i64.wrap ((i:Int)+1)=((i+1:Nat):Int):=by rw[zaR (by omega) (by omega)];omega
    have hl:(Tm.pvs (ts'.take i)).length=i:=by rw[Tm.pvs_len,List.length_take];omega
    have hlim:i+1<=lim:=by unfold lim;omega
    have hus:ts'[i]? =some (Tm.sub (cPos L) u):=by rw[hts'];simp[hu]
    simp -dsimp -implicitDefEqProofs only[go_sem,seval,↓reduceIte,appN,zag,Tm.pvs_len,hc,zap (Tm.pvs_get hu),hcall,w2,hl,hlim,Tm.zvx hus,zac (Nat.zero_le _),zaO (Nat.zero_le _)]
    exact⟨(),rfl⟩
   ·rintro - -
    have hc:¬(t.args.length:Int)<(t.args.length:Int):=by omega
    have htk:ts'.take t.args.length=ts':=List.take_of_length_le (by omega)
    simp -dsimp -implicitDefEqProofs only[go_sem,seval,↓reduceIte,appN,zag,Tm.pvs_len,hc,htk,zaz,zac (Nat.zero_le _),zaO (Nat.zero_le _)]
    exact zhw _ _ _ (Tm.pvs ts') _ (by rw[Tm.pvs_len,htl]) rfl
theorem zqG{s:AV}{H:Heap}{l:List Int}(h:IsV s H l):s.alone H=some (.pv none (.sl none (ints l))):=by
 rcases h with⟨rfl,rfl⟩|⟨r,rfl,h⟩
 ·rfl
 ·simp[AV.alone,AV.bare,AV.freeze,deep,h,zbb,AV.shp]
theorem zqH(t:Tm)(hp:Heap)(ht:t.size<1000000000):S 25 [t.av] hp=some (.ret (canR t).av,hp):=by
 refine zal rfl rfl rfl (zab [(some 4,t.pv)]) rfl ?_
 have h1:=fun hp=>zb4 t hp ht
 unfold canR
 by_cases hv:t.valid=true
 ·rw[if_pos hv]
  have hsz:=valid_size hv
  obtain⟨s',H',hcall,hI,_,_⟩:=zmI t (.tsl none []) [] [] (.inl ⟨rfl,rfl⟩) (valid_fits hv) (by simp;omega)
  have ha:=zqG hI
  have hll:=zcI t.occ []
  have hol:=Tm.occ_len t
  have hnum:=fun hp=>zqF (vads [] t.occ) (by simp only[List.length_nil] at hll;omega) t hp (valid_fits hv) ht fun w hw=>(zmH t.occ [] w).2 (.inr hw)
  rw[hv] at h1
  have e:Tm.sub (cPos (vads [] t.occ)) t=canT t:=rfl
  rw[e] at hnum
  generalize canT t=c at hnum ⊢
  generalize vads [] t.occ=l at*
  simp only[Tm.av] at h1 hcall hnum
  simp -dsimp -implicitDefEqProofs only[go_sem,seval,↓reduceIte,Tm.av,h1,hcall,ha,hnum,zac (Nat.zero_le _)]
 ·rw[if_neg hv]
  have hv':t.valid=false:=by simpa using hv
  rw[hv'] at h1
  simp only[Tm.av] at h1
  have hb0:zaN [(none,.pv none (.int .i64 0)),(none,.pv none (.int .i64 0)),(none,.pv none (.str [])),(none,.tsl (some 4) [])] [] []=some (.agg [(none,.pv none (.int .i64 0)),(none,.pv none (.int .i64 0)),(none,.pv none (.str [])),(none,.tsl (some 4) [])]):=rfl
  simp -dsimp -implicitDefEqProofs only[go_sem,seval,↓reduceIte,Tm.av,h1,hb0,zac (Nat.zero_le _),zt]
  exact⟨_,rfl⟩
def cntI(n:Nat):List Int:=(List.range n).map fun i:Nat=>(i:Int)
theorem zj1(n:Nat):cntI (n+1)=cntI n++[(n:Int)]:=by simp[cntI,List.range_succ]
theorem cntI_mem{n:Nat}{x:Int}:x∈cntI n↔∃i:Nat,i<n/\x=i:=by
 simp only[cntI,List.mem_map,List.mem_range]
 exact⟨fun⟨i,h,e⟩=>⟨i,h,e.symm⟩,fun⟨i,h,e⟩=>⟨i,h,e.symm⟩⟩
theorem zmh:∀{n i:Nat},i<n->(cntI n).idxOf (i:Int)=i
 |0,_,h=>absurd h (Nat.not_lt_zero _)
 |n+1,i,h=>by
  rw[zj1]
  rcases Nat.lt_or_ge i n with h1|h1
  ·rw[ziz (cntI_mem.2 ⟨i,h1,rfl⟩) (List.prefix_append _ _),zmh h1]
  ·obtain rfl:i=n:=by omega
   rw[zfF fun hm=>by obtain⟨j,hj,e⟩:=cntI_mem.1 hm;omega]
   simp[cntI]
theorem zmi(L:List Int):∀ws l:List Int,vads l ws <+: L->vads (cntI l.length) (ws.map fun w=>((L.idxOf w:Nat):Int))=cntI (vads l ws).length
 |[],l,_=>rfl
 |w::r,l,h=>by
  have h1:vads l (w::r)=vads (vadd l w) r:=rfl
  rw[h1] at h ⊢
  have ih:=zmi L r (vadd l w) h
  have hp:vadd l w <+: L:=(ziA r _).trans h
  show vads (vadd (cntI l.length) ((L.idxOf w:Nat):Int)) _=_
  have e:vadd (cntI l.length) ((L.idxOf w:Nat):Int)=cntI (vadd l w).length:=by
   rw[ziz (zmm l w) hp]
   by_cases hm:w∈l
   ·have e1:vadd l w=l:=by simp[vadd,hm]
    rw[e1]
    have hlt:l.idxOf w<l.length:=List.idxOf_lt_length_iff.2 hm
    unfold vadd
    rw[if_pos (cntI_mem.2 ⟨_,hlt,rfl⟩)]
   ·have e1:vadd l w=l++[w]:=by simp[vadd,hm]
    rw[e1,zfF hm,List.length_append,List.length_singleton,zj1]
    unfold vadd
    rw[if_neg fun hx=>by obtain⟨j,hj,e⟩:=cntI_mem.1 hx;omega]
  rw[e,ih]
theorem zr8(L:List Int):∀t:Tm,(Tm.sub (cPos L) t).occ=t.occ.map fun w=>((L.idxOf w:Nat):Int):=by
 intro t
 induction t using Tm.zvu with
 |h t ih=>
  rw[Tm.zvy,t.occ_eq]
  by_cases hk:t.kind=0
  ·rw[if_pos hk,if_pos hk]
   rfl
  ·rw[if_neg hk,if_neg hk,Tm.occ_eq,if_neg (by exact hk)]
   show Tm.occs (t.args.map (Tm.sub (cPos L)))=_
   generalize t.args=l at ih
   induction l with
   |nil=>rfl
   |cons x r ihl=>
    rw[List.map_cons,Tm.occs,Tm.occs,List.map_append,ih x List.mem_cons_self,ihl fun u hu=>ih u (List.mem_cons_of_mem _ hu)]
theorem ztO(f g:Int->Tm):∀t:Tm,Tm.sub f (Tm.sub g t)=Tm.sub (fun v=>Tm.sub f (g v)) t:=by
 intro t
 induction t using Tm.zvu with
 |h t ih=>
  rw[Tm.zvy g t,Tm.zvy (fun v=>Tm.sub f (g v)) t]
  by_cases hk:t.kind=0
  ·rw[if_pos hk,if_pos hk]
  ·rw[if_neg hk,if_neg hk,Tm.zvy,if_neg (by exact hk)]
   show Tm.mk t.kind t.n t.name ((t.args.map (Tm.sub g)).map (Tm.sub f))=_
   rw[List.map_map]
   congr 1
   exact List.map_congr_left fun u hu=>ih u hu
theorem zqb(t:Tm):vads [] (canT t).occ=cntI (vads [] t.occ).length:=by
 unfold canT
 rw[zr8]
 exact zmi _ _ [] (List.prefix_refl _)
theorem zmj(t:Tm):canT (canT t)=canT t:=by
 have h:=zqb t
 have e:canT (canT t)=Tm.sub (cPos (cntI (vads [] t.occ).length)) (canT t):=by
  conv=>lhs;unfold canT
  rw[<-h]
  rfl
 rw[e]
 unfold canT
 rw[ztO]
 refine Tm.zvL t fun w hw=> ?_
 have hm:w∈vads [] t.occ:=(zmH _ _ _).2 (.inr hw)
 have hlt:=List.idxOf_lt_length_iff.2 hm
 show Tm.sub _ (tvar _)=_
 rw[Tm.zvy,if_pos (by rfl)]
 show tvar ((cntI _).idxOf ((List.idxOf w _:Nat):Int):Nat)=tvar _
 rw[zmh hlt]
theorem zqc{L:List Int}(hL:L.length<=1000000):∀t:Tm,t.fits=true->(Tm.sub (cPos L) t).fits=true:=by
 intro t
 induction t using Tm.zvu with
 |h t ih=>
  intro hf
  rw[Tm.zvy]
  by_cases hk:t.kind=0
  ·rw[if_pos hk]
   have h1:L.idxOf t.n<=L.length:=List.idxOf_le_length
   have h2:((L.idxOf t.n:Nat):Int)<=1099511627776:=by omega
   show(tvar ((L.idxOf t.n:Nat):Int)).fits=true
   generalize L.idxOf t.n=j at h2 ⊢
   rw[Tm.zvB]
   simp[tvar,Tm.node,Tm.kind,Tm.n,Tm.name,Tm.args,Tm.fitsAll,h2]
  ·rw[if_neg hk]
   have hf0:=hf
   rw[Tm.zvB,Bool.and_eq_true] at hf ⊢
   refine⟨?_,Tm.fitsAll_iff.2 fun u hu=> ?_⟩
   ·have h1:=hf.1
    clear ih hf hf0
    cases t with
    |mk k n s ts=>
     have hk:¬k=0:=hk
     unfold Tm.node at h1 ⊢
     simp only[Tm.kind,Tm.n,Tm.name,Tm.args,hk,if_false,List.length_map] at h1 ⊢
     exact h1
   ·obtain⟨w,hw,rfl⟩:=List.mem_map.1 hu
    exact ih w hw (Tm.zvw hf0 hw)
theorem zhs{t:Tm}(h:t.valid=true):(canT t).valid=true:=by
 have hs:=valid_size h
 have hl:=zcI t.occ []
 have ho:=Tm.occ_len t
 unfold Tm.valid
 rw[zqS h]
 simp only[Bool.and_eq_true,decide_eq_true_eq]
 simp only[List.length_nil] at hl
 exact⟨hs,zqc (by omega) t (valid_fits h)⟩
def tP(k n:Int)(s:List UInt8)(l:List PV):PV:=.agg [(none,.int .i64 k),(none,.int .i64 n),(none,.str s),(none,.sl (some 4) l)]
theorem fok0:FactsOk (find tab) prim []:=.nil
def fq0:List (Sh × PV):=[((some 4),(tP 3 0 [97,116,111,109] [(tP 2 0 [102,111,111] [])]))]
def fv0:AV:=(.tuple [(.pv none (.sl (some 4) [(tP 3 0 [97,116,111,109] [(tP 2 0 [102,111,111] [])])])),(.pv (some 4) (tP 0 0 [] [])),(.pv none (.int .i64 (0)))])
theorem ff0:resV (sem (find tab) prim .fn 20 (pvs fq0) [])=some fv0:=zbt (n:=60) fok0 (by kernel_rfl)
def fK1:Facts:=(20,fq0,fv0)::[]
theorem fok1:FactsOk (find tab) prim fK1:=.cons (by kernel_rfl) ff0 fok0
def fq1:List (Sh × PV):=[((some 4),(tP 3 0 [97,116,111,109] [(tP 2 0 [102,111,111] [])])),((some 4),(tP 3 0 [97,116,111,109] [(tP 2 0 [102,111,111] [])]))]
def fv1:AV:=(.pv none (.bool true))
theorem ff1:resV (sem (find tab) prim .fn 18 (pvs fq1) [])=some fv1:=zbt (n:=60) fok1 (by kernel_rfl)
def fK2:Facts:=(18,fq1,fv1)::fK1
theorem fok2:FactsOk (find tab) prim fK2:=.cons (by kernel_rfl) ff1 fok1
def fq2:List (Sh × PV):=[((some 4),(tP 3 0 [97,116,111,109] [(tP 0 0 [] [])]))]
def fv2:AV:=(.tuple [(.pv none (.sl (some 4) [])),(.pv (some 4) (tP 0 0 [] [])),(.pv none (.int .i64 (0)))])
theorem ff2:resV (sem (find tab) prim .fn 20 (pvs fq2) [])=some fv2:=zbt (n:=60) fok2 (by kernel_rfl)
def fK3:Facts:=(20,fq2,fv2)::fK2
theorem fok3:FactsOk (find tab) prim fK3:=.cons (by kernel_rfl) ff2 fok2
def fq3:List (Sh × PV):=[((some 4),(tP 3 0 [97,116,111,109] [(tP 0 0 [] [])]))]
def fv3:AV:=(.pv none (.bool true))
theorem ff3:resV (sem (find tab) prim .fn 31 (pvs fq3) [])=some fv3:=zbt (n:=60) fok3 (by kernel_rfl)
def fK4:Facts:=(31,fq3,fv3)::fK3
theorem fok4:FactsOk (find tab) prim fK4:=.cons (by kernel_rfl) ff3 fok3
def fq4:List (Sh × PV):=[((some 4),(tP 3 0 [99,111,109,112,97,114,101] [(tP 0 0 [] []),(tP 3 0 [102] [(tP 0 1 [] [])]),(tP 1 3 [] [])]))]
def fv4:AV:=(.tuple [(.pv none (.sl (some 4) [(tP 3 0 [99,111,109,112,97,114,101] [(tP 2 0 [62] []),(tP 3 0 [102] [(tP 0 1 [] [])]),(tP 1 3 [] [])])])),(.pv (some 4) (tP 0 0 [] [])),(.pv none (.int .i64 (0)))])
theorem ff4:resV (sem (find tab) prim .fn 20 (pvs fq4) [])=some fv4:=zbt (n:=60) fok4 (by kernel_rfl)
def fK5:Facts:=(20,fq4,fv4)::fK4
theorem fok5:FactsOk (find tab) prim fK5:=.cons (by kernel_rfl) ff4 fok4
def fq5:List (Sh × PV):=[((some 4),(tP 3 0 [99,111,109,112,97,114,101] [(tP 0 0 [] []),(tP 3 0 [102] [(tP 0 1 [] [])]),(tP 1 3 [] [])])),((some 4),(tP 3 0 [99,111,109,112,97,114,101] [(tP 2 0 [62] []),(tP 3 0 [102] [(tP 0 1 [] [])]),(tP 1 3 [] [])]))]
def fv5:AV:=(.pv none (.bool true))
theorem ff5:resV (sem (find tab) prim .fn 18 (pvs fq5) [])=some fv5:=zbt (n:=60) fok5 (by kernel_rfl)
def fK6:Facts:=(18,fq5,fv5)::fK5
theorem fok6:FactsOk (find tab) prim fK6:=.cons (by kernel_rfl) ff5 fok5
def fq6:List (Sh × PV):=[((some 4),(tP 3 0 [102,117,110,99,116,111,114] [(tP 0 0 [] []),(tP 2 0 [102] []),(tP 1 2 [] [])]))]
def fv6:AV:=(.tuple [(.pv none (.sl (some 4) [(tP 3 0 [102,117,110,99,116,111,114] [(tP 3 0 [102] [(tP 0 1 [] []),(tP 0 2 [] [])]),(tP 2 0 [102] []),(tP 1 2 [] [])])])),(.pv (some 4) (tP 0 0 [] [])),(.pv none (.int .i64 (0)))])
theorem ff6:resV (sem (find tab) prim .fn 20 (pvs fq6) [])=some fv6:=zbt (n:=60) fok6 (by kernel_rfl)
def fK7:Facts:=(20,fq6,fv6)::fK6
theorem fok7:FactsOk (find tab) prim fK7:=.cons (by kernel_rfl) ff6 fok6
def fq7:List (Sh × PV):=[((some 4),(tP 3 0 [102,117,110,99,116,111,114] [(tP 0 0 [] []),(tP 2 0 [102] []),(tP 1 2 [] [])])),((some 4),(tP 3 0 [102,117,110,99,116,111,114] [(tP 3 0 [102] [(tP 0 1 [] []),(tP 0 2 [] [])]),(tP 2 0 [102] []),(tP 1 2 [] [])]))]
def fv7:AV:=(.pv none (.bool true))
theorem ff7:resV (sem (find tab) prim .fn 18 (pvs fq7) [])=some fv7:=zbt (n:=60) fok7 (by kernel_rfl)
def fK8:Facts:=(18,fq7,fv7)::fK7
theorem fok8:FactsOk (find tab) prim fK8:=.cons (by kernel_rfl) ff7 fok7
def fq8:List (Sh × PV):=[((some 4),(tP 3 0 [102,117,110,99,116,111,114] [(tP 0 0 [] []),(tP 2 0 [102] []),(tP 1 (-1) [] [])]))]
def fv8:AV:=(.tuple [(.pv none (.sl (some 4) [])),(.pv (some 4) (tP 3 0 [101,114,114,111,114] [(tP 3 0 [100,111,109,97,105,110,95,101,114,114,111,114] [(tP 2 0 [110,111,116,95,108,101,115,115,95,116,104,97,110,95,122,101,114,111] []),(tP 1 (-1) [] [])]),(tP 2 0 [91,93] [])])),(.pv none (.int .i64 (8)))])
theorem ff8:resV (sem (find tab) prim .fn 20 (pvs fq8) [])=some fv8:=zbt (n:=60) fok8 (by kernel_rfl)
def fK9:Facts:=(20,fq8,fv8)::fK8
theorem fok9:FactsOk (find tab) prim fK9:=.cons (by kernel_rfl) ff8 fok8
def fq9:List (Sh × PV):=[((some 4),(tP 3 0 [102,117,110,99,116,111,114] [(tP 0 0 [] []),(tP 2 0 [102] []),(tP 1 (-1) [] [])])),((some 4),(tP 3 0 [100,111,109,97,105,110,95,101,114,114,111,114] [(tP 2 0 [110,111,116,95,108,101,115,115,95,116,104,97,110,95,122,101,114,111] []),(tP 1 (-1) [] [])]))]
def fv9:AV:=(.pv none (.bool true))
theorem ff9:resV (sem (find tab) prim .fn 37 (pvs fq9) [])=some fv9:=zbt (n:=60) fok9 (by kernel_rfl)
def fK10:Facts:=(37,fq9,fv9)::fK9
theorem zuU:FactsOk (find tab) prim fK10:=.cons (by kernel_rfl) ff9 fok9
def fq10:List (Sh × PV):=[((some 4),(tP 3 0 [99,111,112,121,95,116,101,114,109] [(tP 3 0 [102] [(tP 0 0 [] []),(tP 0 1 [] []),(tP 0 0 [] [])]),(tP 0 2 [] [])]))]
def fv10:AV:=(.tuple [(.pv none (.sl (some 4) [(tP 3 0 [99,111,112,121,95,116,101,114,109] [(tP 3 0 [102] [(tP 0 0 [] []),(tP 0 1 [] []),(tP 0 0 [] [])]),(tP 3 0 [102] [(tP 0 3 [] []),(tP 0 4 [] []),(tP 0 3 [] [])])])])),(.pv (some 4) (tP 0 0 [] [])),(.pv none (.int .i64 (0)))])
theorem ff10:resV (sem (find tab) prim .fn 20 (pvs fq10) [])=some fv10:=zbt (n:=60) zuU (by kernel_rfl)
def fK11:Facts:=(20,fq10,fv10)::fK10
theorem zuV:FactsOk (find tab) prim fK11:=.cons (by kernel_rfl) ff10 zuU
def fq11:List (Sh × PV):=[((some 4),(tP 3 0 [99,111,112,121,95,116,101,114,109] [(tP 3 0 [102] [(tP 0 0 [] []),(tP 0 1 [] []),(tP 0 0 [] [])]),(tP 0 2 [] [])])),((some 4),(tP 3 0 [99,111,112,121,95,116,101,114,109] [(tP 3 0 [102] [(tP 0 0 [] []),(tP 0 1 [] []),(tP 0 0 [] [])]),(tP 3 0 [102] [(tP 0 3 [] []),(tP 0 4 [] []),(tP 0 3 [] [])])]))]
def fv11:AV:=(.pv none (.bool true))
theorem ff11:resV (sem (find tab) prim .fn 18 (pvs fq11) [])=some fv11:=zbt (n:=60) zuV (by kernel_rfl)
def fK12:Facts:=(18,fq11,fv11)::fK11
theorem zuW:FactsOk (find tab) prim fK12:=.cons (by kernel_rfl) ff11 zuV
def fq12:List (Sh × PV):=[((some 4),(tP 3 0 [115,111,114,116] [(tP 3 0 [46] [(tP 2 0 [99] []),(tP 3 0 [46] [(tP 1 1 [] []),(tP 3 0 [46] [(tP 2 0 [98] []),(tP 3 0 [46] [(tP 1 1 [] []),(tP 2 0 [91,93] [])])])])]),(tP 0 0 [] [])]))]
def fv12:AV:=(.tuple [(.pv none (.sl (some 4) [(tP 3 0 [115,111,114,116] [(tP 3 0 [46] [(tP 2 0 [99] []),(tP 3 0 [46] [(tP 1 1 [] []),(tP 3 0 [46] [(tP 2 0 [98] []),(tP 3 0 [46] [(tP 1 1 [] []),(tP 2 0 [91,93] [])])])])]),(tP 3 0 [46] [(tP 1 1 [] []),(tP 3 0 [46] [(tP 2 0 [98] []),(tP 3 0 [46] [(tP 2 0 [99] []),(tP 2 0 [91,93] [])])])])])])),(.pv (some 4) (tP 0 0 [] [])),(.pv none (.int .i64 (0)))])
theorem ff12:resV (sem (find tab) prim .fn 20 (pvs fq12) [])=some fv12:=zbt (n:=60) zuW (by kernel_rfl)
def fK13:Facts:=(20,fq12,fv12)::fK12
theorem zuX:FactsOk (find tab) prim fK13:=.cons (by kernel_rfl) ff12 zuW
def fq13:List (Sh × PV):=[((some 4),(tP 3 0 [115,111,114,116] [(tP 3 0 [46] [(tP 2 0 [99] []),(tP 3 0 [46] [(tP 1 1 [] []),(tP 3 0 [46] [(tP 2 0 [98] []),(tP 3 0 [46] [(tP 1 1 [] []),(tP 2 0 [91,93] [])])])])]),(tP 0 0 [] [])])),((some 4),(tP 3 0 [115,111,114,116] [(tP 3 0 [46] [(tP 2 0 [99] []),(tP 3 0 [46] [(tP 1 1 [] []),(tP 3 0 [46] [(tP 2 0 [98] []),(tP 3 0 [46] [(tP 1 1 [] []),(tP 2 0 [91,93] [])])])])]),(tP 3 0 [46] [(tP 1 1 [] []),(tP 3 0 [46] [(tP 2 0 [98] []),(tP 3 0 [46] [(tP 2 0 [99] []),(tP 2 0 [91,93] [])])])])]))]
def fv13:AV:=(.pv none (.bool true))
theorem ff13:resV (sem (find tab) prim .fn 18 (pvs fq13) [])=some fv13:=zbt (n:=60) zuX (by kernel_rfl)
def fK14:Facts:=(18,fq13,fv13)::fK13
theorem zuY:FactsOk (find tab) prim fK14:=.cons (by kernel_rfl) ff13 zuX
def fq14:List (Sh × PV):=[((some 4),(tP 3 0 [108,101,110,103,116,104] [(tP 0 0 [] []),(tP 0 1 [] [])]))]
def fv14:AV:=(.tuple [(.pv none (.sl (some 4) [])),(.pv (some 4) (tP 3 0 [101,114,114,111,114] [(tP 2 0 [105,110,115,116,97,110,116,105,97,116,105,111,110,95,101,114,114,111,114] []),(tP 2 0 [91,93] [])])),(.pv none (.int .i64 (8)))])
theorem ff14:resV (sem (find tab) prim .fn 20 (pvs fq14) [])=some fv14:=zbt (n:=60) zuY (by kernel_rfl)
def fK15:Facts:=(20,fq14,fv14)::fK14
theorem zuZ:FactsOk (find tab) prim fK15:=.cons (by kernel_rfl) ff14 zuY
def fq15:List (Sh × PV):=[((some 4),(tP 3 0 [108,101,110,103,116,104] [(tP 0 0 [] []),(tP 0 1 [] [])])),((some 4),(tP 2 0 [105,110,115,116,97,110,116,105,97,116,105,111,110,95,101,114,114,111,114] []))]
def fv15:AV:=(.pv none (.bool true))
theorem ff15:resV (sem (find tab) prim .fn 37 (pvs fq15) [])=some fv15:=zbt (n:=60) zuZ (by kernel_rfl)
def fK16:Facts:=(37,fq15,fv15)::fK15
theorem zvq:FactsOk (find tab) prim fK16:=.cons (by kernel_rfl) ff15 zuZ
theorem zvr:yes (ze8 fK16 (find tab) prim 60 .fn 13 [] [])=true:=by kernel_rfl
theorem zvs:sem (find tab) prim .fn 13 [] []=some (.ret (.pv none (.bool true)),[]):=zfE zvq 60 _ _ _ _ _ (zuC zvr)
def strs(l:List (List UInt8)):List PV:=l.map .str
theorem zsk(l:List (List UInt8)):(strs l).length=l.length:=by simp[strs]
theorem zmv{l:List (List UInt8)}{i:Nat}{s:List UInt8}(h:l[i]? =some s):(strs l)[i]? =some (.str s):=by simp[strs,h]
def idxI:List (List UInt8)->List UInt8->Nat->Int
 |[],_,_=> -1
 |x::r,s,k=>if s=x then k else idxI r s (k+1)
theorem zgz:∀(l:List (List UInt8)) (s:List UInt8) (k:Nat),0<=idxI l s k↔s∈l
 |[],s,k=>by simp[idxI]
 |x::r,s,k=>by
  unfold idxI
  split
  ·rename_i h;simp[h]
  ·rename_i h;rw[zgz r s (k+1)];simp[h]
theorem zsl(l:List (List UInt8))(s:List UInt8)(hl:l.length<=1000000)(hp:Heap):S 85 [.pv none (.sl none (strs l)),.pv none (.str s)] hp=some (.ret (.pv none (.int .i64 (idxI l s 0))),hp):=by
 refine zal rfl rfl rfl (zab [(none,.sl none (strs l)),(none,.str s)]) rfl ?_
 simp -dsimp -implicitDefEqProofs only[go_sem,seval,↓reduceIte,zsk]
 refine zdn (α:=Unit) l.length (fun i _=>idxI l s 0=idxI (l.drop i) s i) (fun i _=>⟨[(0,.pv none (.sl none (strs l))),(1,.pv none (.str s)),(7,.pv none (.int .i64 l.length)),(8,.pv none (.int .i64 i))],[]⟩) () ⟨rfl,rfl⟩ ?_ ?_
 ·rintro i - h hinv
  have hc:(i:Int)<(l.length:Int):=by omega
  obtain⟨u,hu⟩:∃u,l[i]? =some u:=⟨_,List.getElem?_eq_getElem h⟩
  have w2:IntKind.i64.wrap ((i:Int)+1)=((i+1:Nat):Int):=by rw[zaR (by omega) (by omega)];omega
  have hd:l.drop i=u::l.drop (i+1):=by
   have hlt:=(List.getElem?_eq_some_iff.1 hu).1
   rw[List.drop_eq_getElem_cons hlt]
   congr 1
   exact(List.getElem?_eq_some_iff.1 hu).2
  rw[hd,idxI] at hinv
  by_cases hs:s=u
  ·rw[if_pos hs] at hinv
   subst hs
   simp -dsimp -implicitDefEqProofs only[go_sem,seval,↓reduceIte,hc,zap (zmv hu),hinv]
  ·rw[if_neg hs] at hinv
   simp -dsimp -implicitDefEqProofs only[go_sem,seval,↓reduceIte,hc,zap (zmv hu),hs,w2]
   exact⟨(),hinv⟩
 ·rintro - hinv
  have hc:¬(l.length:Int)<(l.length:Int):=by omega
  rw[List.drop_length,idxI] at hinv
  simp -dsimp -implicitDefEqProofs only[go_sem,seval,↓reduceIte,hc,hinv]
theorem zfy(l:List (List UInt8))(s:List UInt8)(hl:l.length<=1000000)(hp:Heap):S 41 [.tsl none (strs l),.pv none (.str s)] hp=some (.ret (.pv none (.bool (decide (s∈l)))),hp):=by
 refine zal (ps:=[(none,.sl none (strs l)),(none,.str s)]) rfl rfl rfl rfl rfl ?_
 have h:=zsl l s hl
 have e:decide (0<=idxI l s 0)=decide (s∈l):=by simp[zgz]
 simp -dsimp -implicitDefEqProofs only[go_sem,seval,↓reduceIte,h,e]
def names1:List (List UInt8):=[[118,97,114],[110,111,110,118,97,114],[97,116,111,109],[105,110,116,101,103,101,114],[97,116,111,109,105,99],[99,111,109,112,111,117,110,100],[99,97,108,108,97,98,108,101],[105,115,95,108,105,115,116],[103,114,111,117,110,100]]
def names2a:List (List UInt8):=[[61,61],[92,61,61],[64,60],[64,61,60],[64,62],[64,62,61]]
def zeb:List (List UInt8):=[[92,61],[61,46,46],[99,111,112,121,95,116,101,114,109],[116,101,114,109,95,118,97,114,105,97,98,108,101,115],[108,101,110,103,116,104],[109,115,111,114,116],[115,111,114,116],[107,101,121,115,111,114,116]]
def zmw:List (List UInt8):=[[99,111,109,112,97,114,101],[102,117,110,99,116,111,114],[97,114,103],[98,101,116,119,101,101,110]]
def zbT(n:Int):List (List UInt8):=if n=1 then names1 else if n=2 then names2a++zeb else if n=3 then zmw else[]
theorem zqn:∃rows:List (List UInt8 × PV),rows.map (·.1)=names1/\S 39 [] []=some (.ret (.map 0),[.map none (rows.map fun x=>(.str x.1,x.2))]):=by
 refine⟨[(names1.getD 0 [],.func (.func 71)),(names1.getD 1 [],.func (.func 72)),(names1.getD 2 [],.func (.func 73)),(names1.getD 3 [],.func (.func 74)),(names1.getD 4 [],.func (.func 75)),(names1.getD 5 [],.func (.func 47)),(names1.getD 6 [],.func (.func 76)),(names1.getD 7 [],.func (.func 77)),(names1.getD 8 [],.func (.func 78))],by decide,sem_iff.2 ⟨60,by kernel_rfl⟩⟩
theorem zgA:∃rows:List (List UInt8 × PV),rows.map (·.1)=names2a/\S 40 [] []=some (.ret (.map 0),[.map none (rows.map fun x=>(.str x.1,x.2))]):=by
 refine⟨[(names2a.getD 0 [],.func (.func 79)),(names2a.getD 1 [],.func (.func 80)),(names2a.getD 2 [],.func (.func 81)),(names2a.getD 3 [],.func (.func 82)),(names2a.getD 4 [],.func (.func 83)),(names2a.getD 5 [],.func (.func 84))],by decide,sem_iff.2 ⟨60,by kernel_rfl⟩⟩
theorem zhu(s:List UInt8):∀rows:List (List UInt8 × PV),∃r,afind true (.str s) (rows.map fun x=>(.str x.1,x.2))=some r/\(r.isSome=decide (s∈rows.map (·.1)))
 |[]=>⟨none,rfl,rfl⟩
 |x::l=>by
  obtain⟨r,h1,h2⟩:=zhu s l
  by_cases h:s=x.1
  ·exact⟨some x.2,by simp[afind,PV.same,h],by simp[h]⟩
  ·exact⟨r,by simp[afind,PV.same,h,h1],by rw[h2];simp[h]⟩
theorem zgB(s:List UInt8)(z:AV)(rows:List (List UInt8 × PV))(hp:Heap)(h:hp[0]? =some (.map none (rows.map fun x=>(.str x.1,x.2)))):∃u,za4 true none z true hp [.map 0,.pv none (.str s)]=some (.tuple [u,.pv none (.bool (decide (s∈rows.map (·.1))))]):=by
 obtain⟨r,h1,h2⟩:=zhu s rows
 rw[<-h2]
 cases r with
 |none=>exact⟨z,zbJ h h1⟩
 |some p=>exact⟨.pv none p,zdd h h1⟩
theorem zsY(s:List UInt8)(n:Int)(hp:Heap):S 11 [.pv none (.str s),.pv none (.int .i64 n)] hp=some (.ret (.pv none (.bool (decide (s∈zbT n)))),hp):=by
 refine zal rfl rfl rfl (zab [(none,.str s),(none,.int .i64 n)]) rfl ?_
 by_cases h1:n=1
 ·subst h1
  obtain⟨rows,hr,ht⟩:=zqn
  obtain⟨u,hu⟩:=zgB s (.pv none .nilfunc) rows [.map none (rows.map fun x=>(.str x.1,x.2))] rfl
  rw[hr] at hu
  have e:zbT 1=names1:=rfl
  rw[e]
  simp -dsimp -implicitDefEqProofs only[go_sem,seval,↓reduceIte,ht,hu]
 ·by_cases h2:n=2
  ·subst h2
   obtain⟨rows,hr,ht⟩:=zgA
   obtain⟨u,hu⟩:=zgB s (.pv none .nilfunc) rows [.map none (rows.map fun x=>(.str x.1,x.2))] rfl
   rw[hr] at hu
   have e:zbT 2=names2a++zeb:=rfl
   rw[e]
   have hc:∀hp,S 41 [.tsl none [.str [92,61],.str [61,46,46],.str [99,111,112,121,95,116,101,114,109],.str [116,101,114,109,95,118,97,114,105,97,98,108,101,115],.str [108,101,110,103,116,104],.str [109,115,111,114,116],.str [115,111,114,116],.str [107,101,121,115,111,114,116]],.pv none (.str s)] hp=some (.ret (.pv none (.bool (decide (s∈zeb)))),hp):=zfy zeb s (by decide)
   by_cases hs:s∈names2a
   ·have e2:decide (s∈names2a++zeb)=true:=by simp[hs]
    simp -dsimp -implicitDefEqProofs only[go_sem,seval,↓reduceIte,ht,hu,hs,e2]
   ·have e2:decide (s∈names2a++zeb)=decide (s∈zeb):=by simp[hs]
    simp -dsimp -implicitDefEqProofs only[go_sem,seval,↓reduceIte,ht,hu,hs,e2,hc]
  ·by_cases h3:n=3
   ·subst h3
    have hc:∀hp,S 41 [.tsl none [.str [99,111,109,112,97,114,101],.str [102,117,110,99,116,111,114],.str [97,114,103],.str [98,101,116,119,101,101,110]],.pv none (.str s)] hp=some (.ret (.pv none (.bool (decide (s∈zmw)))),hp):=zfy zmw s (by decide)
    have e:zbT 3=zmw:=rfl
    rw[e]
    simp -dsimp -implicitDefEqProofs only[go_sem,seval,↓reduceIte,hc]
   ·have e:zbT n=[]:=by simp[zbT,h1,h2,h3]
    rw[e]
    simp -dsimp -implicitDefEqProofs only[go_sem,seval,↓reduceIte,h1,h2,h3]
    simp
def outD(F:FuncId->Option AFn)(prim:FuncId->Option za9)(rs:List RSlot)(s:Nat)(v:AV)(st:St)(p:PV)(st2:St):Prop:=
 ∃g fs cs,st.fr.look s=some (.func (.func g) fs cs)/\∃r hp' v',sem F prim .dfr g (.pv none p::(fs++cs)) st2.hp=some (.ret r,hp')/\zas ⟨st2.fr,hp'⟩ rs=some v'/\Am.frozen v v' hp'
def outK(F:FuncId->Option AFn)(prim:FuncId->Option za9)(rs:List RSlot)(s:Nat)(v:AV)(st:St):AExit->St->Prop
 | .normal,st2=>outD F prim rs s v st .niliface st2
 | .ret,st2=>outD F prim rs s v st .niliface st2
 | .panic w,st2=>outD F prim rs s v st w st2
 | .exit _,_=>False
def dfrK(F:FuncId->Option AFn)(prim:FuncId->Option za9)(rs:List RSlot)(s:Nat)(c2:ACode)(v:AV):AExit->St->Prop
 | .normal,st=>(st.fr.look s).isSome=true/\W (sem F prim) (sloop F prim) 0 c2 st (outK F prim rs s v st)
 | .ret,st=>endK rs (Am.frozen v) .ret st
 |_,_=>False
theorem zbm{F:FuncId->Option AFn}{prim:FuncId->Option za9}{rs:List RSlot}{s:Nat}{c2:ACode}{v:AV}{st:St}:dfrK F prim rs s c2 v .normal st=((st.fr.look s).isSome=true/\W (sem F prim) (sloop F prim) 0 c2 st (outK F prim rs s v st)):=rfl
theorem zch{F:FuncId->Option AFn}{prim:FuncId->Option za9}{rs:List RSlot}{s:Nat}{c2:ACode}{v:AV}{st:St}:dfrK F prim rs s c2 v .ret st=endK rs (Am.frozen v) .ret st:=rfl
theorem zcG{F:FuncId->Option AFn}{prim:FuncId->Option za9}{rs:List RSlot}{s:Nat}{v:AV}{st st2:St}:outK F prim rs s v st .ret st2=outD F prim rs s v st .niliface st2:=rfl
theorem zbD{F:FuncId->Option AFn}{prim:FuncId->Option za9}{rs:List RSlot}{s:Nat}{v:AV}{st st2:St}{w:PV}:outK F prim rs s v st (.panic w) st2=outD F prim rs s v st w st2:=rfl
theorem zfw{F:FuncId->Option AFn}{prim:FuncId->Option za9}{f:FuncId}{fn:AFn}{args:List AV}{ps:List (Sh × PV)}{hp:Heap}{v:AV}{s:Nat}{c2:ACode}(hp0:prim f=none)(hf:F f=some fn)(hm:fn.heapMode=false)(hz:zam args hp=some (ps,hp))(hn:(pvs ps).length=fn.nparams)(hmo:fn.more=[(.dfr s,c2)])
  (h:W (sem F prim) (sloop F prim) 0 fn.code ⟨params 0 (pvs ps),[]⟩ (dfrK F prim fn.results s c2 v))(hr:fn.rcv=none:=by rfl):sem F prim .fn f args hp=some (.ret v,hp):=by
 rw[zeA]
 unfold za5
 rw[hp0,hf]
 have hl:([]:Heap).length=0:=rfl
 suffices hB:∃v' hp2,abody (sem F prim) (sloop F prim) fn (pvs ps) []=some (.ret v',hp2)/\Am.frozen v v' hp2 by
  obtain⟨v',hp2,h1,hp3,h2⟩:=hB
  simp only[hr,Option.isSome_none,hm,Bool.false_eq_true,if_false,hz,h1,h2]
  cases v.scalar <;> rfl
 unfold abody
 rw[if_neg (by simpa using hn),hmo]
 simp only[hl]
 unfold W at h
 split at h
 ·rename_i e st1 he
  cases e with
  |normal=>
   obtain⟨-,hW⟩:=h
   unfold W at hW
   split at hW
   ·rename_i e2 st2 he2
    have fin:∀p:Option PV,outD F prim fn.results s v st1 (p.getD .niliface) st2->∀e:AExit,(e=.normal\/e=.ret->p=none)->(∀w,e=.panic w->p=some w)->(∀i,e≠.exit i)->e=e2->∃v' hp2,aleave (sem F prim) fn (apieces (sem F prim) (sloop F prim) 0 [(.dfr s,c2)] fn.code ⟨params 0 (pvs ps),[]⟩ [])=some (.ret v',hp2)/\Am.frozen v v' hp2:=by
     rintro p ⟨g,fs,cs,k1,r,hp',v',k2,k3,k4⟩ e n1 n2 n3 rfl
     refine⟨v',hp',?_,k4⟩
     have k5:atop (sem F prim) (.dfr s) st1 []=some (.normal,st1,[.func (.func g) fs cs]):=by simp[atop,k1]
     have ka:apieces (sem F prim) (sloop F prim) 0 [(.dfr s,c2)] fn.code ⟨params 0 (pvs ps),[]⟩ []=some (e,st2,[.func (.func g) fs cs]):=by
      simp only[apieces,he,k5,he2]
     have ku:∀p':Option PV,p'=p->aunwind (sem F prim) [.func (.func g) fs cs] p' st2.hp=some (none,hp'):=by
      rintro p' rfl
      simp only[aunwind,zaT,k2]
     rw[ka]
     cases e with
     |normal=>simp only[aleave,ku none (n1 (.inl rfl)).symm,aresult,k3]
     |ret=>simp only[aleave,ku none (n1 (.inr rfl)).symm,aresult,k3]
     |panic w=>simp only[aleave,ku (some w) (n2 w rfl).symm,aresult,k3]
     |exit i=>exact absurd rfl (n3 i)
    cases e2 with
    |normal=>exact fin none hW .normal (fun _=>rfl) (fun w e=>by cases e) (fun i e=>by cases e) rfl
    |ret=>exact fin none hW .ret (fun _=>rfl) (fun w e=>by cases e) (fun i e=>by cases e) rfl
    |panic w=>exact fin (some w) hW (.panic w) (fun e=>by rcases e with e|e <;> cases e) (fun w e=>by cases e;rfl) (fun i e=>by cases e) rfl
    |exit i=>exact hW.elim
   ·exact hW.elim
  |ret=>
   rw[zch,zcf] at h
   cases hr:zas st1 fn.results with
   |none=>rw[hr] at h;exact h.elim
   |some u=>
    rw[hr] at h
    exact⟨u,st1.hp,by simp only[aleave,apieces,he,aunwind,aresult,hr],h⟩
  |exit i=>exact h.elim
  |panic v=>exact h.elim
 ·exact h.elim
def zuJ(n:Nat)(H:Heap):AExit->St->Prop
 | .normal,st=>st.hp.take n=H
 | .ret,st=>st.hp.take n=H
 |_,_=>False
theorem zfx{n:Nat}{H:Heap}{st:St}:zuJ n H .normal st=(st.hp.take n=H):=rfl
theorem zmo{F:FuncId->Option AFn}{prim:FuncId->Option za9}{g:FuncId}{fn:AFn}{ws:List AV}{hp H:Heap}{s:Sh}{p:PV}{t:Nat}(hf:F g=some fn)(hr:fn.rcv=some t)(hmo:fn.more=[])(hn:ws.length=fn.nparams)
  (h:W (sem F prim) (sloop F prim) hp.length fn.code ⟨(t,.pv s p)::params 0 ws,hp⟩ (zuJ hp.length H)):sem F prim .dfr g (.pv s p::ws) hp=some (.ret (.tuple []),H):=by
 rw[ztm]
 unfold adefer
 simp only[hf,hr,hmo,hn,ne_eq,not_true_eq_false,if_false]
 unfold W at h
 split at h
 ·rename_i e st he
  rw[he]
  cases e with
  |normal=>rw[<-h]
  |ret=>rw[<-h]
  |exit i=>exact h.elim
  |panic v=>exact h.elim
 ·exact h.elim
def endA(rs:List RSlot)(n:Nat)(P:ARes->Heap->Prop):AExit->St->Prop
 | .panic v,st=>P (.panic v) (st.hp.take n)
 |e,st=>endK rs (fun v' h'=>P (.ret v') (if v'.refsIn.all (fun q=>decide (q<n))=true then h'.take n else h')) e st
theorem zdS(rs:List RSlot)(n:Nat)(P:ARes->Heap->Prop)(v:PV)(st:St):endA rs n P (.panic v) st=P (.panic v) (st.hp.take n):=rfl
theorem zdT(rs:List RSlot)(n:Nat)(P:ARes->Heap->Prop)(st:St):endA rs n P .ret st=endK rs (fun v' h'=>P (.ret v') (if v'.refsIn.all (fun q=>decide (q<n))=true then h'.take n else h')) .ret st:=rfl
theorem zbS(rs:List RSlot)(n:Nat)(P:ARes->Heap->Prop)(st:St):endA rs n P .normal st=endK rs (fun v' h'=>P (.ret v') (if v'.refsIn.all (fun q=>decide (q<n))=true then h'.take n else h')) .normal st:=rfl
theorem zcH{F:FuncId->Option AFn}{prim:FuncId->Option za9}{f:FuncId}{fn:AFn}{args:List AV}{hp:Heap}(P:ARes->Heap->Prop)(hp0:prim f=none)(hf:F f=some fn)(hm:fn.heapMode=true)(hn:args.length=fn.nparams)
  (h:W (sem F prim) (sloop F prim) hp.length fn.code ⟨params 0 args,hp⟩ (endA fn.results hp.length P))(hr:fn.rcv=none:=by rfl)(hmo:fn.more=[]:=by rfl):∃v hp',sem F prim .fn f args hp=some (v,hp')/\P v hp':=by
 rw[zeA]
 unfold za5
 rw[hp0,hf]
 simp only[hr,hmo,Option.isSome_none,Bool.false_eq_true,if_false,hm,if_true,abody,hn,ne_eq,not_true_eq_false,if_false]
 unfold W at h
 split at h
 ·rename_i e st' he
  rw[he]
  cases e with
  |normal=>
   rw[zbS,zbl] at h
   cases hr:zas st' fn.results with
   |none=>rw[hr] at h;exact h.elim
   |some u=>rw[hr] at h;exact⟨_,_,by simp only[hr],h⟩
  |ret=>
   rw[zdT,zcf] at h
   cases hr:zas st' fn.results with
   |none=>rw[hr] at h;exact h.elim
   |some u=>rw[hr] at h;exact⟨_,_,by simp only[hr],h⟩
  |exit i=>exact h.elim
  |panic v=>exact⟨_,_,rfl,h⟩
 ·exact h.elim
end Go.Proofs.YtiifblpdlphchaaGreatRR
