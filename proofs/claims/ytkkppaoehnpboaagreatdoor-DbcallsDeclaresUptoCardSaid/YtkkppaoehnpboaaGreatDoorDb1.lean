/- What is proved: the conversion of a term to a goal: body.build, where it may panic. -/
import Derived.Test.YtkkppaoehnpboaaGreatDoorCl
import Derived.Test.YtkkppaoehnpboaaGreatDoorAm5
set_option linter.unusedSimpArgs false
set_option linter.unusedVariables false
namespace Go.Proofs.YtkkppaoehnpboaaGreatDoor
open Go.Am
theorem yR{t u:Tm}(h:t.valid=true)(hu:u∈t.args):u.valid=true:=by
 unfold Tm.valid at h ⊢;simp only[Zg,Zr] at h ⊢;have:=Tm.zyC hu;exact⟨by omega,Tm.zyF h.2 hu⟩
theorem valid_fits{t:Tm}(h:t.valid=true):t.fits=true:=by simp[Tm.valid] at h;exact h.2
theorem xM{t:Tm}(h:t.fits=true)(h2:t.size<=2000):t.valid=true:=by simp[Tm.valid,h,h2]
def panE(p:PV):AExit->St->Prop
 | .panic v,_=>v=p
 |_,_=>False
theorem QU(p v:PV)(st:St):panE p (.panic v) st=(v=p):=rfl
theorem QV{F:FuncId->Option AFn}{prim:FuncId->Option Ym}{f:FuncId}{fn:AFn}{args:List AV}{ps:List (Sh × PV)}{hp:Heap}{p:PV}(hp0:prim f=none)(hf:F f=some fn)(hm:fn.heapMode=false)(hz:Yp args hp=some (ps,hp))(hn:(pvs ps).length=fn.nparams)
  (h:W (sem F prim) (sloop F prim) 0 fn.code ⟨params 0 (pvs ps),[]⟩ (panE p))(hr:fn.rcv=none:=by rfl)(hmo:fn.more=[]:=by rfl):sem F prim .fn f args hp=some (.panic p,hp):=by
 rw[XW];unfold Y6;rw[hp0,hf];simp only[hr,hmo,zm,hm,ZM,if_false,hz,abody,hn,ne_eq,not_true_eq_false];unfold W at h;split at h
 ·rename_i e st' he;have hl:([]:Heap).length=0:=rfl;rw[hl,he];cases e with
  |panic v=>
   have:v=p:=h;rw[this]
  |normal=>exact h.elim
  |ret=>exact h.elim
  |exit i=>exact h.elim
 ·exact h.elim
def jn(t:Tm):Prop:=t.kind=3/\t.args.length=2/\(t.name=[44]\/t.name=[59]\/t.name=[45,62])
instance (t:Tm):Decidable (jn t):=inferInstanceAs (Decidable (_/\_/\_))
theorem MO(t:Tm)(hp:Heap):S 153 [t.av] hp=some (.ret (O6 (decide (jn t))),hp):=by
 refine Ya rfl rfl rfl (z8 [(some 4,t.pv)]) rfl ?_;by_cases h1:t.kind=3
 ·have h1':=Zn h1;by_cases h2:t.args.length=2
  ·have h2':=Zn (show(t.args.length:Int)=2 by omega);by_cases h3:t.name=[44]
   ·have h3':=Zn h3;have e:decide (jn t)=true:=ZG ⟨h1,h2,.inl h3⟩;rw[e];simp -dsimp -implicitDefEqProofs only[go_sem,seval,Tm.av,Yk,Yt,Yd,Tm.pvs_len,h1',h2',h3']
   ·have h3':=Zp h3;by_cases h4:t.name=[59]
    ·have h4':=Zn h4;have e:decide (jn t)=true:=ZG ⟨h1,h2,.inr (.inl h4)⟩;rw[e];simp -dsimp -implicitDefEqProofs only[go_sem,seval,Tm.av,Yk,Yt,Yd,Tm.pvs_len,h1',h2',h3',h4']
    ·have h4':=Zp h4;have e:decide (jn t)=decide (t.name=[45,62]):=by simp[jn,h1,h2,h3,h4]
     rw[e];simp -dsimp -implicitDefEqProofs only[go_sem,seval,Tm.av,Yk,Yt,Yd,Tm.pvs_len,h1',h2',h3',h4']
  ·have h2':=Zp (show ¬(t.args.length:Int)=2 by omega);have e:decide (jn t)=false:=by simp[jn,h2]
   rw[e];simp -dsimp -implicitDefEqProofs only[go_sem,seval,Tm.av,Yk,Yt,Yd,Tm.pvs_len,h1',h2']
 ·have h1':=Zp h1;have e:decide (jn t)=false:=by simp[jn,h1]
  rw[e];simp -dsimp -implicitDefEqProofs only[go_sem,seval,Tm.av,Yk,Yt,Yd,Tm.pvs_len,h1']
theorem Gt(t:Tm)(hp:Heap):S 79 [t.av] hp=some (.ret (O6 (decide (t.kind=2) || decide (t.kind=3))),hp):=by
 refine Ya rfl rfl rfl (z8 [(some 4,t.pv)]) rfl ?_;by_cases h1:t.kind=2
 ·simp -dsimp -implicitDefEqProofs only[go_sem,seval,Tm.av,Yk,h1,Bool.true_or]
 ·simp -dsimp -implicitDefEqProofs only[go_sem,seval,Tm.av,Yk,h1,Bool.false_or]
def qU:List UInt8:=[99,97,108,108]
def tstr(s:List UInt8)(l:List Tm):Tm:=.mk 3 0 s l
def cvF:Nat->Tm->Option Tm
 |0,_=>none
 |n+1,t=>if t.kind=0 then some (tstr qU [t]) else if jn t then(match t.args with
   |[a,b]=>match cvF n a with
    |none=>none
    |some x=>match cvF n b with
     |none=>none
     |some y=>some (tstr t.name [x,y])
   |_=>none) else if t.kind=2\/t.kind=3 then some t else none
theorem kO{l:List Tm}(h:l.length=2):∃a b,l=[a,b]:=by
 match l,h with
 |[a,b],_=>exact⟨a,b,rfl⟩
def noG:PV:=.iface 184 (some 0) (.agg [])
def resB:Option Tm->ARes
 |some g=>.ret g.av
 |none=>.panic noG
def cV(s:List UInt8)(l:List PV):AV:=.agg [(none,O5 3),(none,O5 0),(none,O7 s),(none,.tsl (some 4) l)]
theorem ji(x0:AObj)(v:AV)(r:Heap)(s:List UInt8)(a:PV)(l:List PV):Yb (some 4) 0 (x0::.box (some 4) v::r) [.ptr 1 0,cV s (a::l)]=some (.undef,x0::.box (some 4) (cV s (a::l))::r):=by
 simp[Yb,astore,cV,AV.plain,AV.shp,AV.own,Yf,yI,total,Sh.size]
theorem MP:∀(n:Nat) (t:Tm),t.size<=n->t.valid=true->∀hp,S 139 [t.av] hp=some (resB (cvF n t),hp):=by
 intro n
 induction n with
 |zero=>
  intro t h;have:=t.size_eq;omega
 |succ n ih=>
  intro t hn hv hp;have hsz:=yb hv;have h1:=fun hp=>MO t hp;have h2:=fun hp=>Gt t hp;have h3:=fun hp=>XZ t hp hv (by omega);have hbu:∀(s:List UInt8) (l:List PV),Yi A0 [0,2,3] [O5 3,O7 s,.tsl (some 4) l]=some (cV s l):=fun _ _=>rfl;have hb0:Yi [] [] []=some (.pv (some 0) (.agg [])):=rfl;have hmi:∀(s:Sh) (p:PV),X4 184 [.pv s p]=some (.pv none (.iface 184 s p)):=fun _ _=>rfl;simp only[Tm.av] at h1 h2 h3;by_cases k0:t.kind=0
  ·have e:cvF (n+1) t=some (tstr qU [t]):=by rw[cvF,Zd k0]
   rw[e];refine Ya rfl rfl rfl (z8 [(some 4,t.pv)]) rfl ?_;have k0':=Zn k0;simp -dsimp -implicitDefEqProofs only[go_sem,seval,Tm.av,Yk,k0',hbu,ji];exact⟨_,rfl⟩
  have k0':=Zp k0;by_cases kj:jn t
  rotate_left
  ·have ej:decide (jn t)=false:=Z1 kj;rw[ej] at h1;by_cases kc:t.kind=2\/t.kind=3
   ·have e:cvF (n+1) t=some t:=by rw[cvF,Za k0,Za kj,Zd kc]
    have ec:(decide (t.kind=2) || decide (t.kind=3))=true:=by rcases kc with h|h <;> simp[h]
    rw[ec] at h2;rw[e];refine Ya rfl rfl rfl (z8 [(some 4,t.pv)]) rfl ?_;simp -dsimp -implicitDefEqProofs only[go_sem,seval,Tm.av,Yk,k0',h1,h2,h3,z7 (Ze _)]
    done
   ·have e:cvF (n+1) t=none:=by rw[cvF,Za k0,Za kj,Za kc]
    have ec:(decide (t.kind=2) || decide (t.kind=3))=false:=by
     have:¬t.kind=2/\¬t.kind=3:=by omega
     simp[this.1,this.2]
    rw[ec] at h2;rw[e];refine QV rfl rfl rfl (z8 [(some 4,t.pv)]) rfl ?_;simp -dsimp -implicitDefEqProofs only[go_sem,seval,Tm.av,Yk,k0',h1,h2,h3,hb0,hmi,z7 (Ze _),QU]
    try rfl
  ·have ej:decide (jn t)=true:=ZG kj;rw[ej] at h1;obtain⟨a,b,hab⟩:=kO kj.2.1;have ma:a∈t.args:=by rw[hab];simp
   have mb:b∈t.args:=by rw[hab];simp
   have za:=Tm.zyC ma;have zb:=Tm.zyC mb;have ha:=fun hp=>ih a (by omega) (yR hv ma) hp;have hb:=fun hp=>ih b (by omega) (yR hv mb) hp;have g0:Yq (some 4) [.pv none (.sl (some 4) (Tm.pvs t.args)),O5 0]=some (.iptr (some 4) a.pv 0):=by rw[hab];rfl
   have g1:Yq (some 4) [.pv none (.sl (some 4) (Tm.pvs t.args)),O5 1]=some (.iptr (some 4) b.pv 0):=by rw[hab];rfl
   have e:cvF (n+1) t=match cvF n a with
    |none=>none
    |some x=>match cvF n b with
     |none=>none
     |some y=>some (tstr t.name [x,y]):=by rw[cvF,Za k0,Zd kj,hab]
   rw[e];simp only[Tm.av] at ha hb;cases ea:cvF n a with
   |none=>
    rw[ea] at ha;simp only[resB] at ha;refine QV rfl rfl rfl (z8 [(some 4,t.pv)]) rfl ?_;simp -dsimp -implicitDefEqProofs only[go_sem,seval,Tm.av,Yk,Yt,Yd,k0',h1,h2,ha,g0,g1,z7 (Ze _),QU]
    done
   |some x=>
    rw[ea] at ha;simp only[resB,Tm.av] at ha;cases eb:cvF n b with
    |none=>
     rw[eb] at hb;simp only[resB] at hb;refine QV rfl rfl rfl (z8 [(some 4,t.pv)]) rfl ?_;simp -dsimp -implicitDefEqProofs only[go_sem,seval,Tm.av,Yk,Yt,Yd,k0',h1,h2,ha,hb,g0,g1,z7 (Ze _),QU]
     done
    |some y=>
     rw[eb] at hb;simp only[resB,Tm.av] at hb;refine Ya rfl rfl rfl (z8 [(some 4,t.pv)]) rfl ?_;simp -dsimp -implicitDefEqProofs only[go_sem,seval,Tm.av,Yk,Yt,Yd,k0',h1,h2,ha,hb,g0,g1,hbu,ji,z7 (Ze _)];exact⟨_,rfl⟩
mutual
def Tm.sub(f:Int->Tm):Tm->Tm
 | .mk k n s ts=>if k=0 then f n else .mk k n s (Tm.subs f ts)
def Tm.subs(f:Int->Tm):List Tm->List Tm
 |[]=>[]
 |t::r=>Tm.sub f t::Tm.subs f r
end
theorem Tm.zyX(f:Int->Tm):∀l:List Tm,Tm.subs f l=l.map (Tm.sub f)
 |[]=>rfl
 |t::r=>by rw[Tm.subs,Tm.zyX f r];rfl
theorem Tm.zyT(f:Int->Tm)(t:Tm):Tm.sub f t=if t.kind=0 then f t.n else .mk t.kind t.n t.name (t.args.map (Tm.sub f)):=by
 cases t with
 |mk k n s ts=>
  simp only[Tm.sub,Tm.kind,Tm.n,Tm.name,Tm.args,Tm.zyX];by_cases h:k=0 <;> simp[h]
def tvar(v:Int):Tm:=.mk 0 v [] []
theorem qV{t:Tm}(h:t.fits=true)(hk:t.kind=0):t=tvar t.n:=by
 rw[Tm.zyH] at h;have h1:t.node=true:=by simp at h;exact h.1
 cases t with
 |mk k n s ts=>
  simp only[Tm.kind] at hk;subst hk;simp[Tm.node,Tm.kind,Tm.n,Tm.name,Tm.args] at h1;obtain⟨⟨_,h3⟩,h4⟩:=h1;rw[h4,zl h3];rfl
theorem MQ{F:FuncId->Option AFn}{prim:FuncId->Option Ym}{f:FuncId}{fn:AFn}{args:List AV}{ps:List (Sh × PV)}(P:AV->Prop)(hp0:prim f=none)(hf:F f=some fn)(hm:fn.heapMode=false)(hz:∀hp,Yp args hp=some (ps,hp))(hn:(pvs ps).length=fn.nparams)
  (h:W (sem F prim) (sloop F prim) 0 fn.code ⟨params 0 (pvs ps),[]⟩ (endK fn.results (fun v hp=>∃v',Am.frozen v' v hp/\P v')))(hr:fn.rcv=none:=by rfl)(hmo:fn.more=[]:=by rfl):∃v,(∀hp,sem F prim .fn f args hp=some (.ret v,hp))/\P v:=by
 have key:∃v,P v/\W (sem F prim) (sloop F prim) 0 fn.code ⟨params 0 (pvs ps),[]⟩ (endK fn.results (Am.frozen v)):=by
  unfold W at h ⊢;split at h
  ·rename_i e st' he;cases e with
   |normal=>
    rw[xh] at h;cases hr:Yz st' fn.results with
    |none=>rw[hr] at h;exact h.elim
    |some u=>rw[hr] at h;obtain⟨v',h1,h2⟩:=h;exact⟨v',h2,by simp only[he,xh,hr];exact h1⟩
   |ret=>
    rw[XX] at h;cases hr:Yz st' fn.results with
    |none=>rw[hr] at h;exact h.elim
    |some u=>rw[hr] at h;obtain⟨v',h1,h2⟩:=h;exact⟨v',h2,by simp only[he,XX,hr];exact h1⟩
   |exit i=>exact h.elim
   |panic v=>exact h.elim
  ·exact h.elim
 obtain⟨v,h1,h2⟩:=key;exact⟨v,fun hp=>Ya hp0 hf hm (hz hp) hn h2 hr hmo,h1⟩
theorem MS{F:FuncId->Option AFn}{prim:FuncId->Option Ym}{f:FuncId}{fn:AFn}{args:List AV}{hp:Heap}(P:AV->Heap->Prop)(hp0:prim f=none)(hf:F f=some fn)(hm:fn.heapMode=true)(hn:args.length=fn.nparams)
  (h:W (sem F prim) (sloop F prim) hp.length fn.code ⟨params 0 args,hp⟩ (endK fn.results (fun v' h'=>P v' (if v'.refsIn.all (fun q=>decide (q<hp.length))=true then h'.take hp.length else h'))))(hr:fn.rcv=none:=by rfl)(hmo:fn.more=[]:=by rfl):∃v hp',sem F prim .fn f args hp=some (.ret v,hp')/\P v hp':=by
 rw[XW];unfold Y6;rw[hp0,hf];simp only[hr,hmo,zm,ZM,if_false,hm,if_true,abody,hn,ne_eq,not_true_eq_false,if_false];unfold W at h;split at h
 ·rename_i e st' he;rw[he];cases e with
  |normal=>
   rw[xh] at h;cases hr:Yz st' fn.results with
   |none=>rw[hr] at h;exact h.elim
   |some u=>rw[hr] at h;exact⟨_,_,by simp only[hr],h⟩
  |ret=>
   rw[XX] at h;cases hr:Yz st' fn.results with
   |none=>rw[hr] at h;exact h.elim
   |some u=>rw[hr] at h;exact⟨_,_,by simp only[hr],h⟩
  |exit i=>exact h.elim
  |panic v=>exact h.elim
 ·exact h.elim
theorem kQ(n b:Nat)(fr:Fr)(hp:Heap):collect n b fr hp=hp\/(collect n b fr hp=hp.take n/\∀x∈fr,∀q∈x.2.refsIn,q<n):=by
 unfold collect;split
 ·rename_i h;rw[Zg,Zm] at h;exact .inr ⟨rfl,fun x hx q hq=>by simpa using Zm.1 (h.1 x hx) q hq⟩
 ·exact .inl rfl
theorem Tm.zyY{l:List Tm}{u:Tm}(h:u∈l){w:Int}(hw:w∈u.occ):w∈Tm.occs l:=by
 induction l with
 |nil=>cases h
 |cons x r ih=>
  rw[Tm.occs];rcases Zl.1 h with rfl|h
  ·exact List.mem_append_left _ hw
  ·exact zR _ (ih h)
theorem Tm.zy2{t u:Tm}(hk:¬t.kind=0)(h:u∈t.args){w:Int}(hw:w∈u.occ):w∈t.occ:=by
 rw[Tm.zyI,Za hk];exact Tm.zyY h hw
def ints(l:List Int):List PV:=l.map (.int .i64)
theorem yS(l:List Int):(ints l).length=l.length:=by simp[ints]
theorem qW{l:List Int}{i:Nat}{x:Int}(h:l[i]? =some x):(ints l)[i]? =some (.int .i64 x):=by simp[ints,h]
theorem MT(l:List Int)(x:Int):ints l++[.int .i64 x]=ints (l++[x]):=by simp[ints]
theorem MU(l:List Int)(x:Int)(hl:l.length<1000000000)(hp:Heap):∃y:Int,(∀hp,S 110 [.pv none (.sl none (ints l)),O5 x] hp=some (.ret (O5 y),hp))/\(y<0↔x ∉ l):=by
 obtain⟨v,h1,y,rfl,h2⟩:=MQ (F:=find tab) (prim:=prim) (f:=110) (ps:=[(none,.sl none (ints l)),(none,.int .i64 x)]) (args:=[.pv none (.sl none (ints l)),O5 x]) (fun v=>∃y:Int,v=O5 y/\(y<0↔x ∉ l)) rfl rfl rfl (fun hp=>rfl) rfl (by
  simp -dsimp -implicitDefEqProofs only[go_sem,seval,yS];refine Yy (α:=Unit) l.length (fun i _=>∀j,j<i->l[j]?≠some x) (fun i _=>⟨[(0,.pv none (.sl none (ints l))),(1,O5 x),(5,O5 i)],[]⟩) () ⟨fun j hj=>by omega,rfl⟩ ?_ ?_
  ·rintro i - h hinv;have hc:(i:Int)<(l.length:Int):=by omega
   obtain⟨b,hb⟩:∃b,l[i]? =some b:=⟨_,Zf h⟩;have w2:=O0 i (by omega)
   by_cases hbx:b=x
   ·simp -dsimp -implicitDefEqProofs only[go_sem,seval,yS,hc,Yc (qW hb),hbx];refine⟨_,rfl,i,rfl,?_⟩;have:x∈l:=by rw[<-hbx];exact Zj hb
    constructor
    ·intro h;omega
    ·intro h;exact absurd this h
   ·simp -dsimp -implicitDefEqProofs only[go_sem,seval,yS,hc,Yc (qW hb),hbx,w2];refine⟨(),fun j hj=> ?_⟩;rcases Zt j i with h|h
    ·exact hinv j h
    ·have:j=i:=by omega
     subst this;rw[hb];intro e;cases e;exact hbx rfl
  ·rintro - hinv;have hc:¬(l.length:Int)<(l.length:Int):=by omega
   simp -dsimp -implicitDefEqProofs only[go_sem,seval,yS,hc];refine⟨_,rfl,-1,rfl,?_⟩;constructor
   ·intro _ hm;obtain⟨j,hlt,hj⟩:=List.getElem_of_mem hm;exact hinv j hlt (by rw[Zf hlt,hj])
   ·intro _;omega)
 exact⟨y,h1,h2⟩
def vadd(s:List Int)(w:Int):List Int:=if w∈s then s else s++[w]
def vads(s:List Int)(ws:List Int):List Int:=ws.foldl vadd s
theorem QW(s a b:List Int):vads s (a++b)=vads (vads s a) b:=by simp[vads]
theorem qX(ws:List Int):∀s:List Int,(vads s ws).length<=s.length+ws.length:=by
 induction ws with
 |nil=>intro s;simp[vads]
 |cons w r ih=>
  intro s;have:=ih (vadd s w);have h2:(vadd s w).length<=s.length+1:=by unfold vadd;split <;> simp
  simp only[vads,List.foldl_cons,ZF] at this ⊢;omega
theorem MV(ws:List Int):∀(s:List Int) (x:Int),x∈vads s ws↔x∈s\/x∈ws:=by
 induction ws with
 |nil=>intro s x;simp[vads]
 |cons w r ih=>
  intro s x;have:=ih (vadd s w) x;simp only[vads,List.foldl_cons] at this ⊢;rw[this];unfold vadd;split
  ·rename_i h;simp only[Zl];constructor
   ·rintro(h1|h1) <;> simp[h1]
   ·rintro(h1|rfl|h1)
    ·exact .inl h1
    ·exact .inl h
    ·exact .inr h1
  ·simp only[ZE,Zl,zj,or_false];constructor
   ·rintro((h1|h1)|h1) <;> simp[h1]
   ·rintro(h1|h1|h1) <;> simp[h1]
def IsV(s:AV)(hp:Heap)(l:List Int):Prop:=(s=.tsl none []/\l=[])\/∃r,s=.sl none r l.length 0 l.length/\hp[r]? =some (.arr none (ints l) false)
def PresV(s:AV)(hp hp':Heap):Prop:=hp.length<=hp'.length/\∀(i:Nat) (x:AObj),hp[i]? =some x->(∀v o n,s≠.sl none i v o n)->hp'[i]? =some x
def OwnV(s:AV)(hp:Heap)(s':AV):Prop:=∀r v o n,s'=.sl none r v o n->(∃v o n,s=.sl none r v o n)\/hp.length<=r
theorem PresV.refl(s:AV)(hp:Heap):PresV s hp hp:=⟨Zc _,fun _ _ h _=>h⟩
theorem OwnV.refl(s:AV)(hp:Heap):OwnV s hp s:=fun r v o n h=>.inl ⟨v,o,n,h⟩
theorem IsV.more{s:AV}{hp:Heap}{l:List Int}(h:IsV s hp l)(e:Heap):IsV s (hp++e) l:=by
 rcases h with h|⟨r,h1,h2⟩
 ·exact .inl h
 ·exact .inr ⟨r,h1,by rw[ZI (ya h2)];exact h2⟩
theorem IsV.not_box{s:AV}{hp:Heap}{l:List Int}(h:IsV s hp l){i:Nat}{sh:Sh}{v:AV}(hi:hp[i]? =some (.box sh v)):∀v o n,s≠.sl none i v o n:=by
 rcases h with⟨rfl,_⟩|⟨r,rfl,h2⟩
 ·intro v o n e;cases e
 ·intro v o n e;cases e;rw[hi] at h2;cases h2
theorem OwnV.trans{s s1 s2:AV}{hp hp1:Heap}(h1:OwnV s hp s1)(hl:hp.length<=hp1.length)(h2:OwnV s1 hp1 s2):OwnV s hp s2:=fun r v o n e=>by
 rcases h2 r v o n e with⟨v',o',n',e'⟩|h
 ·exact h1 r v' o' n' e'
 ·exact .inr (by omega)
theorem PresV.trans{s s1:AV}{hp hp1 hp2:Heap}(h1:PresV s hp hp1)(ho:OwnV s hp s1)(h2:PresV s1 hp1 hp2):PresV s hp hp2:=
 ⟨ZV h1.1 h2.1,fun i x hx hne=>h2.2 i x (h1.2 i x hx hne) fun v o n e=>by
  rcases ho i v o n e with⟨v',o',n',e'⟩|h
  ·exact hne v' o' n' e'
  ·have:=ya hx;omega⟩
theorem PresV.take{s:AV}{hp hp1:Heap}{n:Nat}(h:PresV s hp hp1)(hn:hp.length<=n):PresV s hp (hp1.take n):=
 ⟨by rw[Zh];have:=h.1;omega,fun i x hx hne=>by
  have:=ya hx;rw[ZN,Zd (by omega)];exact h.2 i x hx hne⟩
theorem PresV.less{s:AV}{hp e hp1:Heap}(h:PresV s (hp++e) hp1):PresV s hp hp1:=
 ⟨by have:=h.1;simp at this;omega,fun i x hx hne=>h.2 i x (by rw[ZI (ya hx)];exact hx) hne⟩
theorem OwnV.less{s s':AV}{hp e:Heap}(h:OwnV s (hp++e) s'):OwnV s hp s':=fun r v o n h1=>by
 rcases h r v o n h1 with h|h
 ·exact .inl h
 ·exact .inr (by simp at h;omega)
theorem IsV.take{s:AV}{hp:Heap}{l:List Int}{n:Nat}(h:IsV s hp l)(hr:∀q∈s.refsIn,q<n):IsV s (hp.take n) l:=by
 rcases h with h|⟨r,rfl,h2⟩
 ·exact .inl h
 ·have:r<n:=hr r (by simp[AV.refsIn]);exact .inr ⟨r,rfl,by rw[ZN,Zd this];exact h2⟩
theorem IsV.freeze{s:AV}{hp:Heap}{l:List Int}(h:IsV s hp l):∃hp1,AV.freeze deep s hp=some (.sl none (ints l),hp1)/\s.shp=none/\s.plain=true:=by
 rcases h with⟨rfl,rfl⟩|⟨r,rfl,h⟩
 ·exact⟨hp,rfl,rfl,rfl⟩
 ·exact⟨hp.set r (.arr none (ints l) true),by simp[AV.freeze,deep,h,yS],rfl,rfl⟩
theorem MW{s:AV}{hp:Heap}{l:List Int}(h:IsV s hp l)(x:Int)(hl:l.length<1000000000):∃s' H',YK none hp [s,.tsl none [.int .i64 x]]=some (s',H')/\IsV s' H' (l++[x])/\PresV s hp H'/\OwnV s hp s':=by
 have hlim:l.length+1<=lim:=by unfold lim;omega
 rcases h with⟨rfl,rfl⟩|⟨r,rfl,h⟩
 ·refine⟨_,_,rfl,.inr ⟨hp.length,rfl,?_⟩,⟨by simp,fun i x hx _=>by rw[ZI (ya hx)];exact hx⟩,fun r v o n e=>by cases e;exact .inr (Zc _)⟩;rw[ZZ (Zc _),zy];rfl
 ·have hlt:=ya h;refine⟨.sl none r (l.length+1) 0 (l.length+1),hp.set r (.arr none (ints (l++[x])) false),?_,.inr ⟨r,by simp,by rw[Zx hlt]⟩,⟨by simp,fun i x hx hne=> ?_⟩,fun r v o n e=>by cases e;exact .inl ⟨_,_,_,rfl⟩⟩
  ·simp[YK,aappend,elems,h,yS,hlim];simp[ints]
  ·have:i≠r:=fun e=>hne _ _ _ (by rw[e]);rw[Zo (Ne.symm this)];exact hx
theorem MX{s:AV}{hp:Heap}{l:List Int}(h:IsV s hp l)(x:Int)(hl:l.length<1000000000):∃y:Int,S 110 [s,O5 x] hp=some (.ret (O5 y),hp)/\(y<0↔x ∉ l):=by
 obtain⟨y,h1,h2⟩:=MU l x hl hp;obtain⟨hp1,z1,z2,_⟩:=h.freeze;refine⟨y,?_,h2⟩;have:=XF (F:=find tab) (prim:=prim) (f:=110) (args:=[s,O5 x]) (ps:=[(none,.sl none (ints l)),(none,.int .i64 x)]) (hp:=hp) (hp1:=hp1) rfl rfl rfl (by
  have e:∀H:Heap,AV.freeze deep (O5 x) H=some (.int .i64 x,H):=fun _=>rfl;simp only[Yp,z1,e,z2];rfl) (h1 [])
 exact this
theorem kR{s s1:AV}{hp e H:Heap}{l:List Int}(h1:IsV s1 H l)(h2:PresV s (hp++e) H)(h3:OwnV s (hp++e) s1):
  IsV s1 (if s1.refsIn.all (fun q=>decide (q<hp.length))=true then H.take hp.length else H) l/\PresV s hp (if s1.refsIn.all (fun q=>decide (q<hp.length))=true then H.take hp.length else H)/\OwnV s hp s1:=by
 refine⟨?_,?_,h3.less⟩
 ·split
  ·rename_i hr;exact h1.take fun q hq=>by simpa using Zm.1 hr q hq
  ·exact h1
 ·split
  ·exact h2.less.take (Zc _)
  ·exact h2.less
theorem kS(t:Tm)(ih:∀u∈t.args,∀(s:AV) (hp:Heap) (l:List Int),IsV s hp l->u.fits=true->l.length+u.size<100000000->∃s' hp',S 74 [s,u.av] hp=some (.ret s',hp')/\IsV s' hp' (vads l u.occ)/\PresV s hp hp'/\OwnV s hp s')
  (s:AV)(H0:Heap)(n0 b:Nat)(l:List Int)(hB:IsV s H0 l)(h1:H0[n0]? =some (.box (some 4) (.pv (some 4) t.pv)))(hf:t.fits=true)(hl:l.length+Tm.sizes t.args<100000000)(Q:AExit->St->Prop)
  (hQ:∀(s1:AV) (H:Heap) (r:Fr),IsV s1 H (vads l (Tm.occs t.args))->PresV s H0 H->OwnV s H0 s1->Q .normal ⟨(0,s1)::r,H⟩):
  W Z L b c74k11 ⟨[(0,s),(3,.ptr n0 0),(5,O5 0)],H0⟩ Q:=by
 have hts:=t.size_eq;have hlen:=Tm.zyA t.args;have nb1:=hB.not_box h1;simp -dsimp -implicitDefEqProofs only[c74b10,c74k11,go_sem,seval];refine Yy (α:=AV × Heap) t.args.length (fun i a=>IsV a.1 a.2 (vads l (Tm.occs (t.args.take i)))/\PresV s H0 a.2/\OwnV s H0 a.1)
  (fun i a=>⟨[(0,a.1),(3,.ptr n0 0),(5,O5 i)],a.2⟩) (s,H0) ⟨⟨hB,PresV.refl _ _,OwnV.refl _ _⟩,rfl⟩ ?_ ?_
 ·rintro i ⟨s1,H⟩ h ⟨k1,k2,k3⟩;dsimp only at k1 k2 k3;have hc:(i:Int)<(t.args.length:Int):=by omega
  have b1:=k2.2 n0 _ h1 nb1;obtain⟨u,hu⟩:∃u,t.args[i]? =some u:=⟨_,Zf h⟩;have hum:=Zj hu;have hst:=Tm.zyG hu;have hle:=Tm.zyD t.args (i+1);have hvl:=qX (Tm.occs (t.args.take i)) l;have hol:=Tm.zyP (t.args.take i);obtain⟨s2,H2,hcall,p1,p2,p3⟩:=ih u hum s1 H _ k1 (Tm.zyF hf hum) (by omega);simp only[Tm.av] at hcall;have w2:=O0 i (by omega)
  simp -dsimp -implicitDefEqProofs only[c74b10,c74k11,go_sem,seval,Yd,Tm.pvs_len,hc,b1,Yc (Tm.pvs_get hu),hcall,w2];have hcc:=kQ H0.length b [(0,s2),(3,.ptr n0 0),(5,O5 ((i+1:Nat):Int))] H2;refine⟨(s2,collect H0.length b [(0,s2),(3,.ptr n0 0),(5,O5 ((i+1:Nat):Int))] H2),?_,rfl⟩;generalize collect H0.length b [(0,s2),(3,.ptr n0 0),(5,O5 ((i+1:Nat):Int))] H2=HC at hcc;have q1:=k2.trans k3 p2;have q2:=k3.trans k2.1 p3;rw[Tm.zyK hu,QW];rcases hcc with rfl|⟨rfl,hr⟩
  ·exact⟨p1,q1,q2⟩
  ·exact⟨p1.take (hr (0,s2) (by simp)),q1.take (Zc _),q2⟩
 ·rintro⟨s1,H⟩ ⟨k1,k2,k3⟩;dsimp only at k1 k2 k3;have hc:¬(t.args.length:Int)<(t.args.length:Int):=by omega
  have b1:=k2.2 n0 _ h1 nb1;rw[ZS] at k1;simp -dsimp -implicitDefEqProofs only[c74b10,c74k11,go_sem,seval,Yd,Tm.pvs_len,hc,b1];exact hQ s1 H _ k1 k2 k3
theorem MY:∀(t:Tm) (s:AV) (hp:Heap) (l:List Int),IsV s hp l->t.fits=true->l.length+t.size<100000000->∃s' hp',S 74 [s,t.av] hp=some (.ret s',hp')/\IsV s' hp' (vads l t.occ)/\PresV s hp hp'/\OwnV s hp s':=by
 intro t
 induction t using Tm.zyE with
 |h t ih=>
  intro s hp l hB hf ht;have hts:=t.size_eq;have hn0:∀H:Heap,YU none H=some (.sl none H.length 0 0 0,H++[.arr none [] false]):=fun H=>Xd (sh:=none) (by decide);have hB1:=hB.more [.box (some 4) (.pv (some 4) t.pv),.arr none [] false];obtain⟨y,hpos,hy⟩:=MX hB1 t.n (by omega);refine MS (fun v hp'=>IsV v hp' (vads l t.occ)/\PresV s hp hp'/\OwnV s hp v) rfl rfl rfl rfl ?_;have hbox:(hp++([.box (some 4) (.pv (some 4) t.pv),.arr none [] false]:Heap))[hp.length]? =some (.box (some 4) (.pv (some 4) t.pv)):=by rw[XG];rfl
  rw[Tm.zyI];by_cases hk:t.kind=0
  ·rw[Zd hk];have ha:t.args=[]:=by rw[qV hf hk];rfl
   by_cases hm:t.n∈l
   ·have e:vads l [t.n]=l:=by simp[vads,vadd,hm]
    have hy':¬y<0:=fun h=>hy.1 h hm;rw[e];simp -dsimp -implicitDefEqProofs only[go_sem,seval,Tm.av,Yk,yD,Yd,hk,hn0,hpos,hy'];refine kS t ih s _ hp.length hp.length l hB1 hbox hf (by omega) _ fun s1 H r k1 k2 k3=> ?_;rw[ha] at k1;simp -dsimp -implicitDefEqProofs only[go_sem,seval];exact kR k1 k2 k3
   ·have e:vads l [t.n]=l++[t.n]:=by simp[vads,vadd,hm]
    have hy':y<0:=hy.2 hm;rw[e];obtain⟨s1,H1,happ,k1,k2,k3⟩:=MW hB1 t.n (by omega);have b1:=k2.2 hp.length _ hbox (hB1.not_box hbox);simp -dsimp -implicitDefEqProofs only[go_sem,seval,Tm.av,Yk,yD,Yd,hk,hn0,hpos,hy',happ];refine kS t ih s1 _ hp.length hp.length _ k1 b1 hf (by rw[Zi,List.length_singleton];omega) _ fun s2 H r j1 j2 j3=> ?_;rw[ha] at j1;simp -dsimp -implicitDefEqProofs only[go_sem,seval];exact kR j1 (k2.trans k3 j2) (k3.trans k2.1 j3)
  ·rw[Za hk];simp -dsimp -implicitDefEqProofs only[go_sem,seval,Tm.av,Yk,yD,Yd,hk,hn0];refine kS t ih s _ hp.length hp.length l hB1 hbox hf (by omega) _ fun s1 H r k1 k2 k3=> ?_;simp -dsimp -implicitDefEqProofs only[go_sem,seval];exact kR k1 k2 k3
theorem MZ{s:AV}{H:Heap}{l:List Int}(h:IsV s H l):Am.frozen (.pv none (.sl none (ints l))) s H:=by
 rcases h with⟨rfl,rfl⟩|⟨r,rfl,h⟩
 ·exact⟨H,rfl⟩
 ·exact⟨H.set r (.arr none (ints l) true),by simp[AV.freezeRes,AV.freeze,deep,h,yS,AV.shp]⟩
def yr(v:Int):List (Int × PV)->Option PV
 |[]=>none
 |x::r=>if x.1=v then some x.2 else yr v r
def mPut(v:Int)(p:PV):List (Int × PV)->List (Int × PV)
 |[]=>[(v,p)]
 |x::r=>if x.1=v then(v,p)::r else x::mPut v p r
def YM(m:List (Int × PV)):List (PV × PV):=m.map fun x=>(.int .i64 x.1,x.2)
theorem kT(v:Int):∀m,afind false (.int .i64 v) (YM m)=some (yr v m)
 |[]=>rfl
 |x::r=>by
  have ih:=kT v r;unfold YM at ih ⊢;simp only[ZX,afind,PV.same,if_true,yr];by_cases h:x.1=v
  ·simp[h]
  ·have h':¬v=x.1:=fun e=>h e.symm;simp only[Z1 h',Za h];exact ih
theorem jj(v:Int)(p:PV):∀m,aput false (.int .i64 v) p (YM m)=some (YM (mPut v p m))
 |[]=>rfl
 |x::r=>by
  have ih:=jj v p r;unfold YM at ih ⊢;simp only[ZX,aput,PV.same,if_true,mPut];by_cases h:x.1=v
  ·simp[h]
  ·have h':¬v=x.1:=fun e=>h e.symm;simp only[Z1 h',Za h,ZX];rw[ih]
theorem kU(v w:Int)(p:PV):∀m,yr v (mPut w p m)=if v=w then some p else yr v m
 |[]=>by
  by_cases h:v=w
  ·simp[mPut,yr,h]
  ·have h':¬w=v:=fun e=>h e.symm;simp[mPut,yr,h,h']
 |x::r=>by
  have ih:=kU v w p r;unfold mPut;by_cases h:x.1=w
  ·rw[Zd h];by_cases e:v=w
   ·simp[yr,e]
   ·have e':¬w=v:=fun q=>e q.symm;have e2:¬x.1=v:=fun q=>e (q.symm.trans h);simp[yr,e,e',e2]
  ·rw[Za h];simp only[yr,ih];by_cases e:x.1=v
   ·have e2:¬v=w:=fun q=>h (e.trans q);simp[e,e2]
   ·simp[e]
def posF:Nat->List Int->List (Int × PV)
 |_,[]=>[]
 |k,x::r=>(x,.int .i64 (k:Int))::posF (k+1) r
theorem kW:∀(l:List Int) (k:Nat),(posF k l).length=l.length
 |[],_=>rfl
 |x::r,k=>by rw[posF,ZF,kW r];rfl
theorem kX(v:Int):∀(l:List Int) (k:Nat),yr v (posF k l)=if v∈l then some (.int .i64 ((k+l.idxOf v:Nat):Int)) else none
 |[],_=>rfl
 |x::r,k=>by
  rw[posF,yr,kX v r];by_cases h:x=v
  ·subst h;simp
  ·have h':¬v=x:=fun e=>h e.symm;simp only[Za h,Zl,h',false_or];rw[List.idxOf_cons];have hb:(x == v)=false:=by simpa using h
   rw[hb];simp only[cond_false];split
   ·first|(congr 2;omega)|(congr 1;omega)|(congr 3;omega)
   ·rfl
theorem Gu(v:Int):∀(l:List Int) (k:Nat),v ∉ l->mPut v (.int .i64 ((k+l.length:Nat):Int)) (posF k l)=posF k (l++[v])
 |[],k,_=>rfl
 |x::r,k,h=>by
  have h':¬x=v:=fun e=>h (by rw[e];exact ZT);have ih:=Gu v r (k+1) fun hm=>h (Zy _ hm);rw[posF,mPut,Za h',ZJ,posF,<-ih,ZF]
  first|(congr 4;omega)|(congr 3;omega)|(congr 5;omega)
theorem Gv{v:Int}:∀{l L:List Int},v∈l->l <+: L->L.idxOf v=l.idxOf v
 |[],_,h,_=>by cases h
 |x::r,L,h,hp=>by
  obtain⟨m,rfl⟩:=hp;rw[ZJ,List.idxOf_cons,List.idxOf_cons];cases hb:x == v with
  |true=>rfl
  |false=>
   simp only[cond_false];have hx:¬x=v:=by simpa using hb
   have hm:v∈r:=(Zl.1 h).resolve_left fun e=>hx e.symm;rw[Gv hm ⟨m,rfl⟩]
theorem Gw{v:Int}:∀{l:List Int},v ∉ l->(l++[v]).idxOf v=l.length
 |[],_=>by simp[List.idxOf_cons]
 |x::r,h=>by
  have h':¬x=v:=fun e=>h (by rw[e];exact ZT);rw[ZJ,List.idxOf_cons,beq_eq_false_iff_ne.2 h',ZF];simp only[cond_false];rw[Gw fun hm=>h (Zy _ hm)]
theorem M0(l:List Int)(v:Int):l <+: vadd l v:=by
 unfold vadd;split
 ·exact List.prefix_refl _
 ·exact List.prefix_append _ _
theorem kY:∀(ws l:List Int),l <+: vads l ws
 |[],l=>List.prefix_refl _
 |w::r,l=>(M0 l w).trans (kY r (vadd l w))
def cPos(L:List Int)(v:Int):Tm:=tvar (L.idxOf v:Int)
theorem M3(l:List Int)(v:Int):v∈vadd l v:=by
 unfold vadd;split
 ·assumption
 ·simp
theorem M4{L:List Int}{t:Tm}(hk:¬t.kind=0):Tm.sub (cPos L) t=.mk t.kind t.n t.name (t.args.map (Tm.sub (cPos L))):=by
 rw[Tm.zyT,Za hk]
theorem Gx{m:List (Int × PV)}{hp:Heap}{r:Nat}{s:Sh}{v:Int}(h:hp[r]? =some (.map none (YM m))):yh false none (O5 0) true hp [.map r,.pv s (.int .i64 v)]=some (match yr v m with|some x=>.tuple [.pv none x,O6 true]|none=>.tuple [O5 0,O6 false]):=by
 have hf:=kT v m;cases hm:yr v m with
 |none=>rw[hm] at hf;exact Gd h hf
 |some x=>rw[hm] at hf;exact Gc h hf
def appC(n:Nat)(t:Tm)(ts:List Tm)(i:Nat):Heap:=[.box (some 4) (.pv (some 4) t.pv),.box (some 4) (.agg [(none,O5 0),(none,O5 0),(none,O7 []),(none,.sl (some 4) (n+2) 0 0 0)]),.arr (some 4) [] false,.box (some 4) (.agg [(none,O5 t.kind),(none,O5 t.n),(none,O7 t.name),(none,.sl (some 4) (n+5) i 0 i)]),.arr (some 4) [] false,.arr (some 4) (Tm.pvs (ts.take i)) false]
theorem M5(a b:List Tm):Tm.occs (a++b)=Tm.occs a++Tm.occs b:=by
 induction a with
 |nil=>rfl
 |cons x r ih=>rw[ZJ,Tm.occs,Tm.occs,ih,Zw]
def sgg(u:Tm)(q:Nat):AV:=.agg [(none,O5 u.kind),(none,O5 u.n),(none,O7 u.name),(none,.sl (some 4) q u.args.length 0 u.args.length)]
theorem M6{u:Tm}{q:Nat}{H:Heap}{z:Bool}(h:H[q]? =some (.arr (some 4) (Tm.pvs u.args) z)):AV.freeze deep (sgg u q) H=some (u.pv,H.set q (.arr (some 4) (Tm.pvs u.args) true)):=by
 have e:=O3
 show AV.freeze (7+1) (.agg _) _=_;simp[e,AV.freeze.go,AV.freeze,h,Tm.pvs_len];cases u;rfl
def CopR(v:AV)(u:Tm)(n:Nat)(H:Heap):Prop:=v=.pv (some 4) u.pv\/∃q z,n<=q/\v=sgg u q/\H[q]? =some (.arr (some 4) (Tm.pvs u.args) z)
theorem CopR.shp{v:AV}{u:Tm}{n:Nat}{H:Heap}(h:CopR v u n H):v.shp=some 4:=by
 rcases h with rfl|⟨q,z,_,rfl,_⟩ <;> rfl
theorem CopR.frz{v:AV}{u:Tm}{n:Nat}{B e:Heap}(h:CopR v u n (B++e))(hn:B.length=n):∃e2,e2.length=e.length/\AV.freeze deep v (B++e)=some (u.pv,B++e2):=by
 rcases h with rfl|⟨q,z,hq,rfl,hH⟩
 ·exact⟨e,rfl,rfl⟩
 ·obtain⟨j,rfl⟩:∃j,q=n+j:=⟨q - n,by omega⟩;refine⟨e.set j (.arr (some 4) (Tm.pvs u.args) true),by simp,?_⟩;rw[M6 hH,setN hn]
def NumR(v:AV)(u:Tm)(n:Nat)(H:Heap):Prop:=∃q z,n<=q/\v=sgg u q/\H[q]? =some (.arr (some 4) (Tm.pvs u.args) z)
def nH(hp:Heap)(m:Nat)(l:List Int):Heap:=hp.set m (.map none (YM (posF 0 l)))
theorem kZ(hp:Heap)(m:Nat)(l:List Int):(nH hp m l).length=hp.length:=by simp[nH]
theorem M7{hp:Heap}{m:Nat}(hm:m<hp.length)(l:List Int)(X:Heap):(nH hp m l++X)[m]? =some (.map none (YM (posF 0 l))):=by
 rw[ZI (by rw[kZ];exact hm)];simp[nH,hm]
theorem M8{hp:Heap}{m:Nat}(hm:m<hp.length)(l l':List Int)(X:Heap):(nH hp m l++X).set m (.map none (YM (posF 0 l')))=nH hp m l'++X:=by
 rw[zV _ _ (by rw[kZ];exact hm)];simp[nH]
theorem M9{t:Tm}(h:t.fits=true)(hk:t.kind=0):t.name=[]/\t.args=[]:=by
 have:=qV h hk;rw[this];exact⟨rfl,rfl⟩
set_option maxHeartbeats 1000000 in
theorem Gy(hp:Heap)(m:Nat)(hm:m<hp.length):∀(t:Tm) (l L:List Int) (ext:Heap),t.fits=true->t.size<100000->l.length+t.size<200000->vads l t.occ <+: L->
  ∃v e,S 114 [t.av,.map m] (nH hp m l++ext)=some (.ret v,nH hp m (vads l t.occ)++(ext++e))/\NumR v (Tm.sub (cPos L) t) (hp.length+ext.length) (nH hp m (vads l t.occ)++(ext++e)):=by
 intro t
 induction t using Tm.zyE with
 |h t ih=>
  intro l L ext hf ht hl hp2;have hts:=t.size_eq;have hlen:=Tm.zyA t.args;obtain⟨n,hn⟩:∃n,n=hp.length+ext.length:=⟨_,rfl⟩;obtain⟨P,hP⟩:∃P:List Int->Heap,P=fun l=>nH hp m l++ext:=⟨_,rfl⟩;have hPs:∀l,nH hp m l++ext=P l:=fun l=>by rw[hP]
  have hPa:∀l X,nH hp m l++(ext++X)=P l++X:=fun l X=>by rw[<-hPs,Zw]
  have hPl:∀l,(P l).length=n:=fun l=>by rw[<-hPs,Zi,kZ,hn]
  have hPm:∀l X,(P l++X)[m]? =some (.map none (YM (posF 0 l))):=fun l X=>by rw[<-hPa];exact M7 hm l _
  have hPsm:∀l l' X,(P l++X).set m (.map none (YM (posF 0 l')))=P l'++X:=fun l l' X=>by rw[<-hPa,<-hPa];exact M8 hm l l' _
  simp only[<-hn];simp only[hPa,hPs];rw[Tm.zyI] at hp2 ⊢;have hb:Yi A0 [0,1,2] [O5 t.kind,O5 t.n,O7 t.name]=some (.agg [(none,O5 t.kind),(none,O5 t.n),(none,O7 t.name),(none,.tsl (some 4) [])]):=rfl;by_cases hk:t.kind=0
  ·rw[Zd hk] at hp2 ⊢;have hk':=Zn hk;obtain⟨vn,va⟩:=M9 hf hk;have hta:Tm.pvs t.args=[]:=by rw[va];rfl
   have e1:vads l [t.n]=vadd l t.n:=rfl;rw[e1] at hp2 ⊢;have e2:Tm.sub (cPos L) t=tvar ((vadd l t.n).idxOf t.n:Nat):=by
    rw[Tm.zyT,Zd hk];unfold cPos;rw[Gv (M3 l t.n) hp2]
   rw[e2];have hz:∀k:Int,AV.upd deep (.agg [(none,O5 t.kind),(none,O5 t.n),(none,O7 t.name),(none,.sl (some 4) (n+5) 0 0 0)]) 1 none (O5 k)=some (.agg [(none,O5 t.kind),(none,O5 k),(none,O7 t.name),(none,.sl (some 4) (n+5) 0 0 0)]):=fun _=>rfl;by_cases hmem:t.n∈l
   ·have e:vadd l t.n=l:=by simp[vadd,hmem]
    rw[e];have hlk:∀X:Heap,yh false none (O5 0) true (P l++X) [.map m,O5 t.n]=some (.tuple [O5 ((l.idxOf t.n:Nat):Int),O6 true]):=fun X=>by
     rw[Gx (m:=posF 0 l) (hPm _ _),kX,Zd hmem,Zv]
    obtain⟨k,hkk⟩:∃k:Int,k=((l.idxOf t.n:Nat):Int):=⟨_,rfl⟩;rw[<-hkk] at hlk ⊢;refine⟨sgg (tvar k) (n+5),[.box (some 4) (.pv (some 4) t.pv),.box (some 4) (sgg (tvar k) (n+5)),.arr (some 4) [] false,.box (some 4) (sgg (tvar k) (n+5)),.arr (some 4) [] false,.arr (some 4) [] false],?_,⟨n+5,false,by omega,rfl,by rw[getN (hPl _)];rfl⟩⟩;refine yp rfl rfl rfl rfl ?_;rw[hPl];simp -dsimp -implicitDefEqProofs only[go_sem,seval,Tm.av,Yk,yD,Yt,Yd,hk',hta,hlk,Tm.pvs_len,hb,hz,z7 (Zs _ _),Yn,hPl,getN (hPl _),YY (hPl _),setN (hPl _),yq (hPl _)];refine Yy (α:=Unit) 0 (fun _ _=>True) (fun _ _=>⟨[(1,.map m),(4,.ptr (n+1) 0),(5,.ptr (n+3) 0),(38,.pv none (.sl (some 4) [])),(39,O5 0),(40,O5 0)],P l++[.box (some 4) (.pv (some 4) t.pv),.box (some 4) (.agg [(none,O5 0),(none,O5 0),(none,O7 []),(none,.sl (some 4) (n+2) 0 0 0)]),.arr (some 4) [] false,.box (some 4) (.agg [(none,O5 t.kind),(none,O5 k),(none,O7 t.name),(none,.sl (some 4) (n+5) 0 0 0)]),.arr (some 4) [] false,.arr (some 4) [] false]⟩) () ⟨trivial,rfl⟩ (by intros;omega) ?_;rintro - -;have hc0:¬(0:Int)<(0:Int):=by decide
    simp -dsimp -implicitDefEqProofs only[go_sem,seval,hc0,Yn,z7 (Zs _ _),XE (Zs _ _),hPl,getN (hPl _),YY (hPl _),setN (hPl _),yq (hPl _)];rw[hk,vn];refine⟨rfl,?_⟩;rw[Za (by simp[sgg,AV.refsIn,AV.refsIn.go])];rfl
   ·have e:vadd l t.n=l++[t.n]:=by simp[vadd,hmem]
    rw[e,Gw hmem];have hlk:∀X:Heap,yh false none (O5 0) true (P l++X) [.map m,O5 t.n]=some (.tuple [O5 0,O6 false]):=fun X=>by
     rw[Gx (m:=posF 0 l) (hPm _ _),kX,Za hmem]
    have hml:∀X:Heap,Xs (P l++X) [.map m]=some (O5 (l.length:Int)):=fun X=>by
     simp[Xs,hPm,YM,kW]
    have hms:∀X:Heap,Xt false none (P l++X) [.map m,O5 t.n,O5 (l.length:Int)]=some (.undef,P (l++[t.n])++X):=fun X=>by
     have:=Gu t.n l 0 hmem;rw[Zv] at this;rw[kE (es:=YM (posF 0 l)) (hPm _ _) (jj _ _ _),this,hPsm]
    obtain⟨k,hkk⟩:∃k:Int,k=(l.length:Int):=⟨_,rfl⟩;rw[<-hkk] at hml hms ⊢;refine⟨sgg (tvar k) (n+5),[.box (some 4) (.pv (some 4) t.pv),.box (some 4) (sgg (tvar k) (n+5)),.arr (some 4) [] false,.box (some 4) (sgg (tvar k) (n+5)),.arr (some 4) [] false,.arr (some 4) [] false],?_,⟨n+5,false,by omega,rfl,by rw[getN (hPl _)];rfl⟩⟩;refine yp rfl rfl rfl rfl ?_;rw[hPl];simp -dsimp -implicitDefEqProofs only[go_sem,seval,Tm.av,Yk,yD,Yt,Yd,hk',hta,hlk,hml,hms,Tm.pvs_len,hb,hz,z7 (Zs _ _),Yn,hPl,getN (hPl _),YY (hPl _),setN (hPl _),yq (hPl _)];refine Yy (α:=Unit) 0 (fun _ _=>True) (fun _ _=>⟨[(1,.map m),(4,.ptr (n+1) 0),(5,.ptr (n+3) 0),(38,.pv none (.sl (some 4) [])),(39,O5 0),(40,O5 0)],P (l++[t.n])++[.box (some 4) (.pv (some 4) t.pv),.box (some 4) (.agg [(none,O5 0),(none,O5 0),(none,O7 []),(none,.sl (some 4) (n+2) 0 0 0)]),.arr (some 4) [] false,.box (some 4) (.agg [(none,O5 t.kind),(none,O5 k),(none,O7 t.name),(none,.sl (some 4) (n+5) 0 0 0)]),.arr (some 4) [] false,.arr (some 4) [] false]⟩) () ⟨trivial,rfl⟩ (by intros;omega) ?_;rintro - -;have hc0:¬(0:Int)<(0:Int):=by decide
    simp -dsimp -implicitDefEqProofs only[go_sem,seval,hc0,Yn,z7 (Zs _ _),XE (Zs _ _),hPl,getN (hPl _),YY (hPl _),setN (hPl _),yq (hPl _)];rw[hk,vn];refine⟨rfl,?_⟩;rw[Za (by simp[sgg,AV.refsIn,AV.refsIn.go])];rfl
  ·rw[Za hk] at hp2 ⊢;have hk':=Zp hk;have e2:Tm.sub (cPos L) t=.mk t.kind t.n t.name (t.args.map (Tm.sub (cPos L))):=by rw[Tm.zyT,Za hk]
   rw[e2];obtain⟨ts',hts'⟩:∃ts',ts'=t.args.map (Tm.sub (cPos L)):=⟨_,rfl⟩;have htl:ts'.length=t.args.length:=by rw[hts',Z8]
   rw[<-hts'];refine⟨.agg [(none,O5 t.kind),(none,O5 t.n),(none,O7 t.name),(none,.sl (some 4) (n+5) t.args.length 0 t.args.length)],
    [.box (some 4) (.pv (some 4) t.pv),.box (some 4) (.agg [(none,O5 t.kind),(none,O5 t.n),(none,O7 t.name),(none,.sl (some 4) (n+5) t.args.length 0 t.args.length)]),.arr (some 4) [] false,.box (some 4) (.agg [(none,O5 t.kind),(none,O5 t.n),(none,O7 t.name),(none,.sl (some 4) (n+5) t.args.length 0 t.args.length)]),.arr (some 4) [] false,.arr (some 4) (Tm.pvs ts') false],?_,⟨n+5,false,by omega,?_,?_⟩⟩
   ·refine yp rfl rfl rfl rfl ?_;rw[hPl];simp -dsimp -implicitDefEqProofs only[go_sem,seval,Tm.av,Yk,yD,Yt,Yd,hk',Tm.pvs_len,hb,z7 (Zs _ _),Yn,hPl,getN (hPl _),YY (hPl _),setN (hPl _),yq (hPl _)];refine Yy (α:=Unit) t.args.length (fun _ _=>True) (fun i _=>⟨[(1,.map m),(4,.ptr (n+1) 0),(5,.ptr (n+3) 0),(38,.pv none (.sl (some 4) (Tm.pvs t.args))),(39,O5 t.args.length),(40,O5 i)],P (vads l (Tm.occs (t.args.take i)))++appC n t ts' i⟩) () ⟨trivial,?_⟩ ?_ ?_
    ·rw[zo];rfl
    ·rintro i - h -;have hc:(i:Int)<(t.args.length:Int):=by omega
     obtain⟨u,hu⟩:∃u,t.args[i]? =some u:=⟨_,Zf h⟩;have hum:=Zj hu;have husz:=Tm.zyC hum;have hst:=Tm.zyG hu;have hle2:=Tm.zyD t.args (i+1);have hvl:=qX (Tm.occs (t.args.take i)) l;have hol:=Tm.zyP (t.args.take i);have hpre:vads (vads l (Tm.occs (t.args.take i))) u.occ <+: L:=by
      rw[<-QW,<-Tm.zyK hu];refine List.IsPrefix.trans ?_ hp2;have e:=zi (i+1) t.args;rw[<-e,M5,QW,e];exact kY _ _
     obtain⟨v,e,hcall,hcop0⟩:=ih u hum (vads l (Tm.occs (t.args.take i))) L (ext++(appC n t ts' i++[.box (some 4) (.pv (some 4) u.pv),.arr (some 4) [] false])) (Tm.zyF hf hum) (by omega) (by omega) hpre;have hcop:CopR _ _ _ _:=.inr hcop0;rw[<-QW,<-Tm.zyK hu] at hcall hcop;have hus:ts'[i]? =some (Tm.sub (cPos L) u):=by rw[hts'];simp[hu]
     simp only[Zw,hPa] at hcall hcop;obtain⟨e2,he2,hfz⟩:∃e2,e2.length=e.length/\AV.freeze deep v (P (vads l (Tm.occs (t.args.take (i+1))))++(appC n t ts' i++([.box (some 4) (.pv (some 4) u.pv),.arr (some 4) [] false]++e)))=some ((Tm.sub (cPos L) u).pv,P (vads l (Tm.occs (t.args.take (i+1))))++(appC n t ts' i++([.box (some 4) (.pv (some 4) u.pv),.arr (some 4) [] false]++e2))):=by
      have h:=CopR.frz (B:=P (vads l (Tm.occs (t.args.take (i+1))))++(appC n t ts' i++[.box (some 4) (.pv (some 4) u.pv),.arr (some 4) [] false])) (e:=e) (v:=v) (u:=Tm.sub (cPos L) u) (n:=hp.length+(ext++(appC n t ts' i++([.box (some 4) (.pv (some 4) u.pv),.arr (some 4) [] false]:Heap))).length) (by simpa only[Zw] using hcop) (by simp only[Zi,hPl,hn];omega);obtain⟨e2,h1,h2⟩:=h;exact⟨e2,h1,by simpa only[Zw] using h2⟩
     have hvs:=hcop.shp;generalize vads l (Tm.occs (t.args.take (i+1)))=l2 at hcall hfz ⊢;generalize vads l (Tm.occs (t.args.take i))=l1 at hcall hvl ⊢;have w2:=O0 i (by omega)
     have hll:(Tm.pvs (ts'.take i)).length=i:=by rw[Tm.pvs_len,Zh];omega
     have hlim:i+1<=lim:=by unfold lim;omega
     have hbs:yK (some 4) (P l2++(appC n t ts' i++([.box (some 4) (.pv (some 4) u.pv),.arr (some 4) [] false]++e))) [v]=some (.tsl (some 4) [(Tm.sub (cPos L) u).pv],P l2++(appC n t ts' i++([.box (some 4) (.pv (some 4) u.pv),.arr (some 4) [] false]++e2))):=by
      simp only[yK,Yp,hfz,hvs,ye,if_true]
     have hs1:∀(a a':List Int) (e e':Heap),yM (P a++(appC n t ts' i++e)) (P a'++(appC n t ts' i++e')) (.ptr (n+3) 3)=true:=fun a a' e e'=>Gq (t:=t) (q:=n+5) (i:=i) (by rw[getN (hPl _)];rfl) (by rw[getN (hPl _)];rfl);simp only[Tm.av] at hcall;simp only[appC,Zw,ZJ,ZP] at hcall hbs hs1;simp -dsimp -implicitDefEqProofs only[go_sem,seval,appC,hc,Yc (Tm.pvs_get hu),qT,ZW,zJ,zB,zI,hcall,hbs,hs1,w2,hll,hlim,Tm.zyB hus,z7 (Zs _ _),XE (Zs _ _),hPl,getN (hPl _),YY (hPl _),setN (hPl _),yq (hPl _)];refine⟨(),?_⟩;rw[Qq 6 (hPl _) rfl (by simp[AObj.refs,AV.ofComps,pures,AV.refsIn,AV.refsIn.go]) (by simp[AV.refsIn,AV.refsIn.gol];omega)];rfl
    ·rintro - -;have hc:¬(t.args.length:Int)<(t.args.length:Int):=by omega
     have htk:ts'.take t.args.length=ts':=Zu (by omega);simp -dsimp -implicitDefEqProofs only[go_sem,seval,appC,hc,ZS,htk,Yn,z7 (Zs _ _),XE (Zs _ _),hPl,getN (hPl _),YY (hPl _),setN (hPl _),yq (hPl _)];rw[Za (by simp[AV.refsIn,AV.refsIn.go])]
   ·unfold sgg;show _=AV.agg [(none,O5 t.kind),(none,O5 t.n),(none,O7 t.name),(none,.sl (some 4) (n+5) ts'.length 0 ts'.length)];rw[htl]
   ·rw[getN (hPl _)];rfl
structure Cz where
 head:Tm
 body:Tm
def Cz.pv(c:Cz):PV:=.agg [(some 4,c.head.pv),(some 4,c.body.pv)]
def Cz.av(c:Cz):AV:=.pv (some 8) c.pv
theorem Y3(c:Cz):PV.part deep c.pv 0 (some 4)=some c.head.pv:=by cases c with|mk h b=>cases h;rfl
theorem Y4(c:Cz):PV.part deep c.pv 4 (some 4)=some c.body.pv:=by cases c with|mk h b=>cases h;cases b;rfl
def Cz.vars(c:Cz):List Int:=vads [] (c.head.occ++c.body.occ)
def Cz.can(c:Cz):Cz:=⟨Tm.sub (cPos c.vars) c.head,Tm.sub (cPos c.vars) c.body⟩
theorem mc{u w:Tm}{q1 q2:Nat}{H:Heap}{z1 z2:Bool}(h1:H[q1]? =some (.arr (some 4) (Tm.pvs u.args) z1))(h2:H[q2]? =some (.arr (some 4) (Tm.pvs w.args) z2))(hne:q1≠q2):AV.freeze deep (.agg [(some 4,sgg u q1),(some 4,sgg w q2)]) H=some ((Cz.mk u w).pv,(H.set q1 (.arr (some 4) (Tm.pvs u.args) true)).set q2 (.arr (some 4) (Tm.pvs w.args) true)):=by
 have e:∀n l hp,AV.freeze (n+1) (.agg l) hp=match AV.freeze.go n l hp with|some (ps,hp')=>some (.agg ps,hp')|none=>none:=fun _ _ _=>rfl
 have h2':(H.set q1 (.arr (some 4) (Tm.pvs u.args) true))[q2]? =some (.arr (some 4) (Tm.pvs w.args) z2):=by rw[Zo hne,h2]
 show AV.freeze (7+1) (.agg _) _=_;simp[sgg,e,AV.freeze.go,AV.freeze,h1,h2',Tm.pvs_len];cases u;cases w;rfl
def zagV:AV:=.agg A0
def cN(c:Cz)(l:List Int)(a:AV):Heap:=[.box (some 8) (.pv (some 8) c.pv),.box (some 8) a,.map none (YM (posF 0 l))]
theorem md(c:Cz)(fh:c.head.fits=true)(fb:c.body.fits=true)(hz:c.head.size+c.body.size<90000)(hp:Heap):S 82 [c.av] hp=some (.ret (.tuple [c.can.av,O5 (c.vars.length:Int)]),hp):=by
 refine Ya rfl rfl rfl (z8 [(some 8,c.pv)]) rfl ?_;obtain⟨L,hL⟩:∃L,L=c.vars:=⟨_,rfl⟩;have hLa:L=vads (vads [] c.head.occ) c.body.occ:=by rw[hL,Cz.vars,QW]
 have hp1:vads [] c.head.occ <+: L:=by rw[hLa];exact kY _ _
 obtain⟨v1,e1,hc1,q1,z1,hq1,hv1,ha1⟩:=Gy (cN c [] (.agg [(some 4,zagV),(some 4,zagV)])) 2 (by show 2<3;omega) c.head [] L [] fh (by omega) (by simp;omega) hp1;have hl1:=qX c.head.occ [];have ho1:=Tm.occ_len c.head;simp only[List.length_nil] at hl1;obtain⟨v2,e2,hc2,q2,z2,hq2,hv2,ha2⟩:=Gy (cN c (vads [] c.head.occ) (.agg [(some 4,v1),(some 4,zagV)])) 2 (by show 2<3;omega) c.body (vads [] c.head.occ) L e1 fb (by omega) (by omega) (by rw[<-hLa];exact List.prefix_refl _);rw[<-hLa] at hc2 ha2;have hcan:c.can=⟨Tm.sub (cPos L) c.head,Tm.sub (cPos L) c.body⟩:=by rw[hL];rfl
 obtain⟨u,hu⟩:∃u,u=Tm.sub (cPos L) c.head:=⟨_,rfl⟩;obtain⟨w,hw⟩:∃w,w=Tm.sub (cPos L) c.body:=⟨_,rfl⟩;rw[<-hu] at hv1 ha1 hcan;rw[<-hw] at hv2 ha2 hcan;subst hv1 hv2;rw[hcan,<-hL];have n1:∀(l l':List Int) (a:AV),nH (cN c l a) 2 l'=cN c l' a:=fun _ _ _=>rfl;simp only[n1,ZP,ZB] at hc1 hc2 ha1 ha2;have up0:AV.upd deep (.agg [(some 4,zagV),(some 4,zagV)]) 0 (some 4) (sgg u q1)=some (.agg [(some 4,sgg u q1),(some 4,zagV)]):=rfl;have up4:AV.upd deep (.agg [(some 4,sgg u q1),(some 4,zagV)]) 4 (some 4) (sgg w q2)=some (.agg [(some 4,sgg u q1),(some 4,sgg w q2)]):=rfl;simp only[zagV,sgg] at up0 up4;have st1:∀(l:List Int) (e:Heap),Yb (some 4) 0 (cN c l (.agg [(some 4,zagV),(some 4,zagV)])++e) [.ptr 1 0,sgg u q1]=some (.undef,cN c l (.agg [(some 4,sgg u q1),(some 4,zagV)])++e):=fun l e=>by
  simp[Yb,astore,cN,sgg,zagV,AV.plain,AV.shp,AV.own,Yf,yI,total,Sh.size,up0,up4]
 have st2:∀(l:List Int) (e:Heap),Yb (some 4) 0 (cN c l (.agg [(some 4,sgg u q1),(some 4,zagV)])++e) [.ptr 1 4,sgg w q2]=some (.undef,cN c l (.agg [(some 4,sgg u q1),(some 4,sgg w q2)])++e):=fun l e=>by
  simp[Yb,astore,cN,sgg,zagV,AV.plain,AV.shp,AV.own,Yf,yI,total,Sh.size,up0,up4]
 have st3:∀(l:List Int) (e:Heap),Yb (some 8) 0 (cN c l (.agg [(some 4,sgg u q1),(some 4,sgg w q2)])++e) [.ptr 1 0,.agg [(some 4,sgg u q1),(some 4,sgg w q2)]]=some (.undef,cN c l (.agg [(some 4,sgg u q1),(some 4,sgg w q2)])++e):=fun l e=>by
  simp[Yb,astore,cN,sgg,zagV,AV.plain,AV.shp,AV.own,Yf,yI,total,Sh.size]
 have g0:∀(l:List Int) (a:AV) (e:Heap),(cN c l a++e)[0]? =some (.box (some 8) (.pv (some 8) c.pv)):=fun _ _ _=>rfl;have g1:∀(l:List Int) (a:AV) (e:Heap),(cN c l a++e)[1]? =some (.box (some 8) a):=fun _ _ _=>rfl;have ml:∀(l:List Int) (a:AV) (e:Heap),Xs (cN c l a++e) [.map 2]=some (O5 (l.length:Int)):=fun l a e=>by
  simp[Xs,cN,YM,kW]
 have k0:YM (posF 0 [])=[]:=rfl;have hc1':=hc1;simp only[cN,k0,zagV,Tm.av] at hc1';have hc3:S 114 [.pv (some 4) c.head.pv,.map 2] [.box (some 8) (.pv (some 8) c.pv),.box (some 8) (.agg A4),.map none []]=some (.ret (sgg u q1),cN c (vads [] c.head.occ) (.agg [(some 4,zagV),(some 4,zagV)])++e1):=hc1';simp only[Tm.av] at hc2;obtain⟨s1,hs1⟩:∃s1,s1=sgg u q1:=⟨_,rfl⟩;obtain⟨s2,hs2⟩:∃s2,s2=sgg w q2:=⟨_,rfl⟩;rw[<-hs1] at hc3 hc2 st1 st2 st3;rw[<-hs2] at hc2 st2 st3;clear hc1 hc1' up0 up4;simp -dsimp -implicitDefEqProofs only[go_sem,seval,Cz.av,Y3,Y4,hc3,hc2,st1,st2,st3,g0,g1,ml,z7 (Ze _)];obtain⟨j1,rfl⟩:∃j,q1=3+j:=⟨q1 - 3,by have:3<=q1:=hq1;omega⟩;obtain⟨j2,rfl⟩:∃j,q2=3+j:=⟨q2 - 3,by have:3+e1.length<=q2:=hq2;omega⟩;have g3:∀(l:List Int) (a:AV) (e:Heap) (j:Nat),(cN c l a++e)[3+j]? =e[j]? :=fun l a e j=>getN (l:=cN c l a) rfl j;rw[g3] at ha1 ha2;have hj1:=(Zb.1 ha1).1;have hq2':3+e1.length<=3+j2:=hq2;have h1:(cN c L (.agg [(some 4,s1),(some 4,s2)])++(e1++e2))[3+j1]? =some (.arr (some 4) (Tm.pvs u.args) z1):=by rw[g3,ZI hj1,ha1]
 have h2:(cN c L (.agg [(some 4,s1),(some 4,s2)])++(e1++e2))[3+j2]? =some (.arr (some 4) (Tm.pvs w.args) z2):=by rw[g3,ha2]
 have hf:=mc h1 h2 (by omega);rw[<-hs1,<-hs2] at hf;have hr:∀H:Heap,H[1]? =some (.box (some 8) (.agg [(some 4,s1),(some 4,s2)]))->Y8 ⟨[(2,.ptr 1 0),(3,O5 (L.length:Int))],H⟩ (2,some (some 8))=some (.agg [(some 4,s1),(some 4,s2)]):=fun H h=>by
  simp[Y8,Fr.look,aload,h]
 rw[hr _ (g1 _ _ _)];have hsh:(AV.agg [(some 4,s1),(some 4,s2)]).shp=some 8:=rfl;have e3:∀X,AV.freeze deep (O5 (L.length:Int)) X=some (.int .i64 (L.length:Int),X):=fun _=>rfl;obtain⟨HH,hHH⟩:∃HH,HH=cN c L (.agg [(some 4,s1),(some 4,s2)])++(e1++e2):=⟨_,rfl⟩;rw[<-hHH] at hf;show Am.frozen _ (.tuple [.agg [(some 4,s1),(some 4,s2)],O5 (L.length:Int)]) (cN c L (.agg [(some 4,s1),(some 4,s2)])++(e1++e2));rw[<-hHH];refine⟨(HH.set (3+j1) (.arr (some 4) (Tm.pvs u.args) true)).set (3+j2) (.arr (some 4) (Tm.pvs w.args) true),?_⟩;simp only[AV.freezeRes,Yp,hf,e3,hsh];rfl
def outD(F:FuncId->Option AFn)(prim:FuncId->Option Ym)(rs:List RSlot)(s:Nat)(v:AV)(st:St)(p:PV)(st2:St):Prop:=
 ∃g fs cs,st.fr.look s=some (.func (.func g) fs cs)/\∃r hp' v',sem F prim .dfr g (.pv none p::(fs++cs)) st2.hp=some (.ret r,hp')/\Yz ⟨st2.fr,hp'⟩ rs=some v'/\Am.frozen v v' hp'
def outK(F:FuncId->Option AFn)(prim:FuncId->Option Ym)(rs:List RSlot)(s:Nat)(v:AV)(st:St):AExit->St->Prop
 | .normal,st2=>outD F prim rs s v st .niliface st2
 | .ret,st2=>outD F prim rs s v st .niliface st2
 | .panic w,st2=>outD F prim rs s v st w st2
 | .exit _,_=>False
def dfrK(F:FuncId->Option AFn)(prim:FuncId->Option Ym)(rs:List RSlot)(s:Nat)(c2:ACode)(v:AV):AExit->St->Prop
 | .normal,st=>(st.fr.look s).isSome=true/\W (sem F prim) (sloop F prim) 0 c2 st (outK F prim rs s v st)
 | .ret,st=>endK rs (Am.frozen v) .ret st
 |_,_=>False
theorem Gz{F:FuncId->Option AFn}{prim:FuncId->Option Ym}{rs:List RSlot}{s:Nat}{c2:ACode}{v:AV}{st:St}:dfrK F prim rs s c2 v .normal st=((st.fr.look s).isSome=true/\W (sem F prim) (sloop F prim) 0 c2 st (outK F prim rs s v st)):=rfl
theorem k8{F:FuncId->Option AFn}{prim:FuncId->Option Ym}{rs:List RSlot}{s:Nat}{c2:ACode}{v:AV}{st:St}:dfrK F prim rs s c2 v .ret st=endK rs (Am.frozen v) .ret st:=rfl
theorem GA{F:FuncId->Option AFn}{prim:FuncId->Option Ym}{rs:List RSlot}{s:Nat}{v:AV}{st st2:St}:outK F prim rs s v st .ret st2=outD F prim rs s v st .niliface st2:=rfl
theorem GB{F:FuncId->Option AFn}{prim:FuncId->Option Ym}{rs:List RSlot}{s:Nat}{v:AV}{st st2:St}{w:PV}:outK F prim rs s v st (.panic w) st2=outD F prim rs s v st w st2:=rfl
theorem me{F:FuncId->Option AFn}{prim:FuncId->Option Ym}{f:FuncId}{fn:AFn}{args:List AV}{ps:List (Sh × PV)}{hp:Heap}{v:AV}{s:Nat}{c2:ACode}(hp0:prim f=none)(hf:F f=some fn)(hm:fn.heapMode=false)(hz:Yp args hp=some (ps,hp))(hn:(pvs ps).length=fn.nparams)(hmo:fn.more=[(.dfr s,c2)])
  (h:W (sem F prim) (sloop F prim) 0 fn.code ⟨params 0 (pvs ps),[]⟩ (dfrK F prim fn.results s c2 v))(hr:fn.rcv=none:=by rfl):sem F prim .fn f args hp=some (.ret v,hp):=by
 rw[XW];unfold Y6;rw[hp0,hf];have hl:([]:Heap).length=0:=rfl
 suffices hB:∃v' hp2,abody (sem F prim) (sloop F prim) fn (pvs ps) []=some (.ret v',hp2)/\Am.frozen v v' hp2 by
  obtain⟨v',hp2,h1,hp3,h2⟩:=hB;simp only[hr,zm,hm,ZM,if_false,hz,h1,h2];cases v.scalar <;> rfl
 unfold abody;rw[Za (by simpa using hn),hmo];simp only[hl];unfold W at h;split at h
 ·rename_i e st1 he;cases e with
  |normal=>
   obtain⟨-,hW⟩:=h;unfold W at hW;split at hW
   ·rename_i e2 st2 he2;have fin:∀p:Option PV,outD F prim fn.results s v st1 (p.getD .niliface) st2->∀e:AExit,(e=.normal\/e=.ret->p=none)->(∀w,e=.panic w->p=some w)->(∀i,e≠.exit i)->e=e2->∃v' hp2,aleave (sem F prim) fn (apieces (sem F prim) (sloop F prim) 0 [(.dfr s,c2)] fn.code ⟨params 0 (pvs ps),[]⟩ [])=some (.ret v',hp2)/\Am.frozen v v' hp2:=by
     rintro p ⟨g,fs,cs,k1,r,hp',v',k2,k3,k4⟩ e n1 n2 n3 rfl;refine⟨v',hp',?_,k4⟩;have k5:atop (sem F prim) (.dfr s) st1 []=some (.normal,st1,[.func (.func g) fs cs]):=by simp[atop,k1]
     have ka:apieces (sem F prim) (sloop F prim) 0 [(.dfr s,c2)] fn.code ⟨params 0 (pvs ps),[]⟩ []=some (e,st2,[.func (.func g) fs cs]):=by
      simp only[apieces,he,k5,he2]
     have ku:∀p':Option PV,p'=p->aunwind (sem F prim) [.func (.func g) fs cs] p' st2.hp=some (none,hp'):=by
      rintro p' rfl;simp only[aunwind,yL,k2]
     rw[ka];cases e with
     |normal=>simp only[aleave,ku none (n1 (.inl rfl)).symm,aresult,k3]
     |ret=>simp only[aleave,ku none (n1 (.inr rfl)).symm,aresult,k3]
     |panic w=>simp only[aleave,ku (some w) (n2 w rfl).symm,aresult,k3]
     |exit i=>exact absurd rfl (n3 i)
    cases e2 with
    |normal=>exact fin none hW .normal (fun _=>rfl) (fun w e=>by cases e) (fun i e=>by cases e) rfl
    |ret=>exact fin none hW .ret (fun _=>rfl) (fun w e=>by cases e) (fun i e=>by cases e) rfl
    |panic w=>exact fin (some w) hW (.panic w) (fun e=>by rcases e with e|e <;> cases e) (fun w e=>by cases e;rfl) (fun i e=>by cases e) rfl
    |exit i=>exact hW.elim
   ·exact hW.elim
  |ret=>
   rw[k8,XX] at h;cases hr:Yz st1 fn.results with
   |none=>rw[hr] at h;exact h.elim
   |some u=>
    rw[hr] at h;exact⟨u,st1.hp,by simp only[aleave,apieces,he,aunwind,aresult,hr],h⟩
  |exit i=>exact h.elim
  |panic v=>exact h.elim
 ·exact h.elim
def GC(n:Nat)(H:Heap):AExit->St->Prop
 | .normal,st=>st.hp.take n=H
 | .ret,st=>st.hp.take n=H
 |_,_=>False
theorem qY{n:Nat}{H:Heap}{st:St}:GC n H .normal st=(st.hp.take n=H):=rfl
theorem qZ{F:FuncId->Option AFn}{prim:FuncId->Option Ym}{g:FuncId}{fn:AFn}{ws:List AV}{hp H:Heap}{s:Sh}{p:PV}{t:Nat}(hf:F g=some fn)(hr:fn.rcv=some t)(hmo:fn.more=[])(hn:ws.length=fn.nparams)
  (h:W (sem F prim) (sloop F prim) hp.length fn.code ⟨(t,.pv s p)::params 0 ws,hp⟩ (GC hp.length H)):sem F prim .dfr g (.pv s p::ws) hp=some (.ret (.tuple []),H):=by
 rw[EL];unfold adefer;simp only[hf,hr,hmo,hn,ne_eq,not_true_eq_false,if_false];unfold W at h;split at h
 ·rename_i e st he;rw[he];cases e with
  |normal=>rw[<-h]
  |ret=>rw[<-h]
  |exit i=>exact h.elim
  |panic v=>exact h.elim
 ·exact h.elim
def endA(rs:List RSlot)(n:Nat)(P:ARes->Heap->Prop):AExit->St->Prop
 | .panic v,st=>P (.panic v) (st.hp.take n)
 |e,st=>endK rs (fun v' h'=>P (.ret v') (if v'.refsIn.all (fun q=>decide (q<n))=true then h'.take n else h')) e st
theorem jk(rs:List RSlot)(n:Nat)(P:ARes->Heap->Prop)(v:PV)(st:St):endA rs n P (.panic v) st=P (.panic v) (st.hp.take n):=rfl
theorem k9(rs:List RSlot)(n:Nat)(P:ARes->Heap->Prop)(st:St):endA rs n P .ret st=endK rs (fun v' h'=>P (.ret v') (if v'.refsIn.all (fun q=>decide (q<n))=true then h'.take n else h')) .ret st:=rfl
theorem Va(rs:List RSlot)(n:Nat)(P:ARes->Heap->Prop)(st:St):endA rs n P .normal st=endK rs (fun v' h'=>P (.ret v') (if v'.refsIn.all (fun q=>decide (q<n))=true then h'.take n else h')) .normal st:=rfl
theorem GD{F:FuncId->Option AFn}{prim:FuncId->Option Ym}{f:FuncId}{fn:AFn}{args:List AV}{hp:Heap}(P:ARes->Heap->Prop)(hp0:prim f=none)(hf:F f=some fn)(hm:fn.heapMode=true)(hn:args.length=fn.nparams)
  (h:W (sem F prim) (sloop F prim) hp.length fn.code ⟨params 0 args,hp⟩ (endA fn.results hp.length P))(hr:fn.rcv=none:=by rfl)(hmo:fn.more=[]:=by rfl):∃v hp',sem F prim .fn f args hp=some (v,hp')/\P v hp':=by
 rw[XW];unfold Y6;rw[hp0,hf];simp only[hr,hmo,zm,ZM,if_false,hm,if_true,abody,hn,ne_eq,not_true_eq_false,if_false];unfold W at h;split at h
 ·rename_i e st' he;rw[he];cases e with
  |normal=>
   rw[Va,xh] at h;cases hr:Yz st' fn.results with
   |none=>rw[hr] at h;exact h.elim
   |some u=>rw[hr] at h;exact⟨_,_,by simp only[hr],h⟩
  |ret=>
   rw[k9,XX] at h;cases hr:Yz st' fn.results with
   |none=>rw[hr] at h;exact h.elim
   |some u=>rw[hr] at h;exact⟨_,_,by simp only[hr],h⟩
  |exit i=>exact h.elim
  |panic v=>exact⟨_,_,rfl,h⟩
 ·exact h.elim
theorem Vb{sh:Sh}{hp:Heap}(l:List (Sh × AV)):wBox sh hp [.agg l]=if some (total l)=sh then kq sh hp.length (Yf l (hp++[.box sh (.agg l)])) else none:=by
 simp only[wBox,AV.plain,AV.shp,true_and,AV.own];rfl
def zt:Tm:=.mk 0 0 [] []
theorem mf(H:Heap):sem (find tab) prim .dfr 138 [.pv none .niliface,.ptr 1 0,.ptr 3 0] H=some (.ret (.tuple []),H):=by
 refine qZ (t:=5) rfl rfl rfl rfl ?_;have hin:xo true [.pv none .niliface]=some (O6 false):=rfl;simp -dsimp -implicitDefEqProofs only[go_sem,seval,hin,qY]
 try simp
def zG:AV:=.agg A0
theorem mg(x0 x2:AObj)(v:AV)(c:Bool):sem (find tab) prim .dfr 138 [.pv none noG,.ptr 1 0,.ptr 3 0] [x0,.box (some 4) v,x2,.box none (O6 c)]=some (.ret (.tuple []),[x0,.box (some 4) zG,x2,.box none (O6 false)]):=by
 refine qZ (t:=5) rfl rfl rfl rfl ?_;have hin:xo true [.pv none noG]=some (O6 true):=rfl;have has:∀z,Xm 184 (some 0) z true [.pv none noG]=some (.tuple [.pv (some 0) (.agg []),O6 true]):=fun _=>rfl;have hz0:Yi A0 [] []=some zG:=rfl;have hst:∀X:AObj,Yb (some 4) 4 [x0,.box (some 4) v,x2,.box none (O6 c),X] [.ptr 1 0,zG]=some (.undef,[x0,.box (some 4) zG,x2,.box none (O6 c),X]):=fun X=>by
  simp[Yb,astore,zG,AV.plain,AV.shp,AV.refsIn,AV.refsIn.go,total,Sh.size]
 simp -dsimp -implicitDefEqProofs only[go_sem,seval,hin,has,hz0,hst,qY,z7 (Ze _)]
 try rfl
def cv(t:Tm):Option Tm:=cvF t.size t
theorem mh(t:Tm)(hv:t.valid=true)(hp:Heap):S 113 [t.av] hp=some (.ret (.tuple [((cv t).getD zt).av,.pv none (.bool (cv t).isSome)]),hp):=by
 refine me rfl rfl rfl (z8 [(some 4,t.pv)]) rfl rfl ?_;have h1:=fun hp=>MP t.size t (Zc _) hv hp;have hz0:Yi A0 [] []=some zG:=rfl;unfold cv;cases e:cvF t.size t with
 |none=>
  rw[e] at h1;simp only[resB,Tm.av] at h1;simp -dsimp -implicitDefEqProofs only[go_sem,seval,Tm.av,h1,hz0,(fun A=>rfl:∀A:Prop,panK true A=A),z7 (Ze _),Yn,k8,Gz,GA,GB];refine⟨rfl,138,[],[.ptr 1 0,.ptr 3 0],rfl,_,_,_,mg _ _ _ _,rfl,?_⟩;exact⟨_,rfl⟩
 |some g=>
  rw[e] at h1;simp only[resB,Tm.av] at h1;simp -dsimp -implicitDefEqProofs only[go_sem,seval,Tm.av,h1,hz0,(fun A=>rfl:∀A:Prop,panK true A=A),z7 (Ze _),Yn,k8,Gz,GA,GB];refine⟨rfl,138,[],[.ptr 1 0,.ptr 3 0],rfl,_,_,_,mf _,rfl,?_⟩;exact⟨_,rfl⟩
def yT(t:Tm):Option Tm:=if t.valid=true then match cv t with
 |some g=>if 2000<g.size then none else some g
 |none=>none
 else none
theorem mi:∀(n:Nat) (t g:Tm),cvF n t=some g->g.size<=2*t.size:=by
 intro n
 induction n with
 |zero=>intro t g h;cases h
 |succ n ih=>
  intro t g h;rw[cvF] at h;split at h
  ·cases h;rw[Tm.size_eq];show 1+(t.size+0)<=_;have:=t.size_eq;omega
  ·split at h
   ·split at h
    ·rename_i a b hab;split at h
     ·cases h
     ·rename_i x hx;split at h
      ·cases h
      ·rename_i y hy;cases h;have h1:=ih _ _ hx;have h2:=ih _ _ hy;have e:t.size=1+(a.size+(b.size+0)):=by rw[Tm.size_eq,hab];rfl
       rw[Tm.size_eq];show 1+(x.size+(y.size+0))<=_;omega
    ·cases h
   ·split at h
    ·cases h;omega
    ·cases h
theorem O2:Yi A0 [] []=some (.agg A0):=rfl
theorem mj(t:Tm)(hz:t.size<100000000)(hp:Heap):S 81 [t.av] hp=some (.ret (.tuple [((yT t).getD zt).av,.pv none (.bool (yT t).isSome)]),hp):=by
 refine Ya rfl rfl rfl (z8 [(some 4,t.pv)]) rfl ?_;have h1:=fun hp=>Xj t hp (by omega);have hz0:=O2;simp only[Tm.av] at h1;by_cases hv:t.valid=true
 rotate_left
 ·have hv':t.valid=false:=by simpa using hv
  have e:yT t=none:=by unfold yT;rw[Za hv]
  rw[e];simp -dsimp -implicitDefEqProofs only[go_sem,seval,Tm.av,h1,hv',hz0,z7 (Ze _)];exact⟨_,rfl⟩
 have h2:=fun hp=>mh t hv hp;have vz:=yb hv;cases ec:cv t with
 |none=>
  have e:yT t=none:=by unfold yT;rw[Zd hv,ec]
  rw[ec] at h2;simp only[Option.getD_none,zm,Tm.av] at h2;rw[e];simp -dsimp -implicitDefEqProofs only[go_sem,seval,Tm.av,h1,h2,hv,hz0,z7 (Ze _)];exact⟨_,rfl⟩
 |some g=>
  have gz:=mi _ _ _ ec;rw[ec] at h2;have h3:=fun hp=>qR g hp (by omega);simp only[zH,Option.isSome_some,Tm.av] at h2 h3;by_cases hg:2000<g.size
  ·have e:yT t=none:=by unfold yT;rw[Zd hv,ec];exact Zd hg
   have hm:min g.size 2001=2001:=by omega
   rw[hm] at h3;have hc:(2000:Int)<((2001:Nat):Int):=by decide
   rw[e];simp -dsimp -implicitDefEqProofs only[go_sem,seval,Tm.av,h1,h2,h3,hc,hv,hz0,z7 (Ze _)];exact⟨_,rfl⟩
  ·have e:yT t=some g:=by unfold yT;rw[Zd hv,ec];exact Za hg
   have hm:min g.size 2001=g.size:=by omega
   rw[hm] at h3;have hc:¬(2000:Int)<(g.size:Int):=by omega
   rw[e];simp -dsimp -implicitDefEqProofs only[go_sem,seval,Tm.av,h1,h2,h3,hc,hv,hz0,z7 (Ze _)];exact⟨_,rfl⟩
theorem jl{L:List Int}:∀t:Tm,t.fits=true->(Tm.sub (cPos L) t).size=t.size:=by
 intro t
 induction t using Tm.zyE with
 |h t ih=>
  intro hf;rw[Tm.zyT];by_cases hk:t.kind=0
  ·rw[Zd hk,qV hf hk];rfl
  ·rw[Za hk,Tm.size_eq,t.size_eq]
   congr 1
   have hargs:∀u∈t.args,(Tm.sub (cPos L) u).size=u.size:=fun u hu=>ih u hu (Tm.zyF hf hu);show Tm.sizes (t.args.map (Tm.sub (cPos L)))=_;generalize t.args=l at hargs;clear ih
   induction l with
   |nil=>rfl
   |cons x r ihl=>
    rw[ZX,Tm.sizes,Tm.sizes,hargs x ZT,ihl fun u hu=>hargs u (Zy _ hu)]
theorem mm(c:Cz)(h1:c.head.size<100000000)(h2:c.body.size<100000000)(hp:Heap):S 80 [c.av] hp=some (.ret (O6 (decide (c.head.size+c.body.size<=2000))),hp):=by
 refine Ya rfl rfl rfl (z8 [(some 8,c.pv)]) rfl ?_;have a1:=fun hp=>qR c.head hp (by omega);have a2:=fun hp=>qR c.body hp (by omega);have w1:IntKind.i64.wrap (((min c.head.size 2001:Nat):Int)+((min c.body.size 2001:Nat):Int))=((min c.head.size 2001+min c.body.size 2001:Nat):Int):=by rw[Yh (by omega) (by omega)];omega
 simp only[Tm.av] at a1 a2;have e:decide (c.head.size+c.body.size<=2000)=decide (((min c.head.size 2001+min c.body.size 2001:Nat):Int)<=2000):=by
  rw[decide_eq_decide];omega
 rw[e];simp -dsimp -implicitDefEqProofs only[go_sem,seval,Cz.av,Y3,Y4,a1,a2,w1]
def okC(c:Cz):Bool:=c.head.valid && ((decide (c.head.kind=2) || decide (c.head.kind=3)) && (decide (c.head.size+c.body.size<=2000) && ((match yT c.body with|some g=>same g c.body|none=>false) && (decide (c.vars.length<=64) && (same c.can.head c.head && same c.can.body c.body)))))
theorem GE{t g:Tm}(h:yT t=some g):t.valid=true/\g.size<=2000:=by
 unfold yT at h;split at h
 ·rename_i hv;split at h
  ·split at h
   ·cases h
   ·cases h;exact⟨hv,by omega⟩
  ·cases h
 ·cases h
theorem GF(c:Cz)(z1:c.head.size<100000000)(z2:c.body.size<100000000)(hp:Heap):S 48 [c.av] hp=some (.ret (O6 (okC c)),hp):=by
 refine Ya rfl rfl rfl (z8 [(some 8,c.pv)]) rfl ?_;have h1:=fun hp=>Xj c.head hp (by omega);have h2:=fun hp=>Gt c.head hp;have h3:=fun hp=>mm c z1 z2 hp;have h4:=fun hp=>mj c.body z2 hp;simp only[Tm.av,Cz.av] at h1 h2 h3 h4;by_cases b1:c.head.valid=true
 rotate_left
 ·have b1':c.head.valid=false:=by simpa using b1
  have e:okC c=false:=by simp[okC,b1']
  rw[e];simp -dsimp -implicitDefEqProofs only[go_sem,seval,Cz.av,Y3,Y4,h1,b1']
  done
 cases b2:(decide (c.head.kind=2) || decide (c.head.kind=3)) with
 |false=>
  have e:okC c=false:=by simp only[okC,b2,Bool.false_and,Bool.and_false]
  rw[e];rw[b2] at h2;simp -dsimp -implicitDefEqProofs only[go_sem,seval,Cz.av,Y3,Y4,h1,b1,h2]
  done
 |true=>
 rw[b2] at h2;cases b3:decide (c.head.size+c.body.size<=2000) with
 |false=>
  have e:okC c=false:=by simp only[okC,b3,Bool.false_and,Bool.and_false]
  rw[e];rw[b3] at h3;simp -dsimp -implicitDefEqProofs only[go_sem,seval,Cz.av,Y3,Y4,h1,b1,h2,h3]
  done
 |true=>
 rw[b3] at h3;have b3':=zl b3;cases b4:yT c.body with
 |none=>
  have e:okC c=false:=by simp only[okC,b4,Bool.false_and,Bool.and_false]
  rw[e];rw[b4] at h4;simp only[Option.getD_none,zm,Tm.av] at h4;simp -dsimp -implicitDefEqProofs only[go_sem,seval,Cz.av,Y3,Y4,h1,b1,h2,h3,h4,z7 (Ze _)]
  done
 |some g=>
 obtain⟨vb,zg⟩:=GE b4;rw[b4] at h4;have h5:=fun hp=>QT g c.body hp (by omega) (by omega);have fh:=valid_fits b1;have fb:=valid_fits vb;have h6:=fun hp=>md c fh fb (by omega) hp;have zh:c.can.head.size=c.head.size:=jl _ fh;have zb:c.can.body.size=c.body.size:=jl _ fb;have h7:=fun hp=>QT c.can.head c.head hp (by omega) (by omega);have h8:=fun hp=>QT c.can.body c.body hp (by omega) (by omega);simp only[zH,Option.isSome_some,Tm.av,Cz.av] at h4 h5 h6 h7 h8;cases b5:same g c.body with
 |false=>
  have e:okC c=false:=by simp only[okC,b4,b5,Bool.false_and,Bool.and_false]
  rw[e];rw[b5] at h5;simp -dsimp -implicitDefEqProofs only[go_sem,seval,Cz.av,Y3,Y4,h1,b1,h2,h3,h4,h5,z7 (Ze _)]
  done
 |true=>
 rw[b5] at h5;have e:okC c=(decide (c.vars.length<=64) && (same c.can.head c.head && same c.can.body c.body)):=by simp only[okC,b1,b2,b3,b4,b5,Bool.true_and]
 rw[e];by_cases b6:c.vars.length<=64
 ·have b6':(c.vars.length:Int)<=64:=by omega
  cases b7:same c.can.head c.head with
  |false=>
   rw[b7] at h7;simp -dsimp -implicitDefEqProofs only[go_sem,seval,Cz.av,Y3,Y4,h1,b1,h2,h3,h4,h5,h6,h7,b6,b6',z7 (Ze _)]
   done
  |true=>
   rw[b7] at h7;simp -dsimp -implicitDefEqProofs only[go_sem,seval,Cz.av,Y3,Y4,h1,b1,h2,h3,h4,h5,h6,h7,h8,b6,b6',z7 (Ze _)]
   done
 ·have b6':¬(c.vars.length:Int)<=64:=by omega
  simp -dsimp -implicitDefEqProofs only[go_sem,seval,Cz.av,Y3,Y4,h1,b1,h2,h3,h4,h5,h6,b6,b6',z7 (Ze _)]
  done
structure Sto where
 id:Int
 cl:Cz
def Sto.pv(s:Sto):PV:=.agg [(none,.int .i64 s.id),(some 8,s.cl.pv)]
def Sto.pvs(l:List Sto):List PV:=l.map Sto.pv
structure Prc where
 name:List UInt8
 ar:Int
 dyn:Bool
 cls:List Sto
def Prc.pv(p:Prc):PV:=.agg [(none,.str p.name),(none,.int .i64 p.ar),(none,.bool p.dyn),(none,.sl (some 9) (Sto.pvs p.cls))]
def Prc.av(p:Prc):AV:=.pv (some 4) p.pv
def Prc.pvs(l:List Prc):List PV:=l.map Prc.pv
structure Dbs where
 next:Int
 procs:List Prc
def Dbs.pv(d:Dbs):PV:=.agg [(none,.int .i64 d.next),(none,.sl (some 4) (Prc.pvs d.procs))]
def Dbs.av(d:Dbs):AV:=.pv (some 2) d.pv
theorem Sto.pvs_len(l:List Sto):(Sto.pvs l).length=l.length:=by simp[Sto.pvs]
theorem Prc.pvs_len(l:List Prc):(Prc.pvs l).length=l.length:=by simp[Prc.pvs]
theorem Sto.pvs_get{l:List Sto}{i:Nat}{s:Sto}(h:l[i]? =some s):(Sto.pvs l)[i]? =some s.pv:=by simp[Sto.pvs,h]
theorem Prc.pvs_get{l:List Prc}{i:Nat}{s:Prc}(h:l[i]? =some s):(Prc.pvs l)[i]? =some s.pv:=by simp[Prc.pvs,h]
theorem YT(s:Sto):PV.part deep s.pv 0 none=some (.int .i64 s.id):=rfl
theorem yJ(s:Sto):PV.part deep s.pv 1 (some 8)=some s.cl.pv:=by cases s with|mk i c=>cases c;rfl
theorem YP(p:Prc):PV.part deep p.pv 0 none=some (.str p.name):=rfl
theorem YR(p:Prc):PV.part deep p.pv 1 none=some (.int .i64 p.ar):=rfl
theorem Vc(p:Prc):PV.part deep p.pv 2 none=some (.bool p.dyn):=rfl
theorem yd(p:Prc):PV.part deep p.pv 3 none=some (.sl (some 9) (Sto.pvs p.cls)):=rfl
theorem YH(d:Dbs):PV.part deep d.pv 0 none=some (.int .i64 d.next):=rfl
theorem YB(d:Dbs):PV.part deep d.pv 1 none=some (.sl (some 4) (Prc.pvs d.procs)):=rfl
def strC(a b:List UInt8):Int:=if Op.bytesLess a b=true then -1 else if a=b then 0 else 1
def intC(a b:Int):Int:=if a<b then -1 else if b<a then 1 else 0
theorem mn(a b:List UInt8)(hp:Heap):S 77 [O7 a,O7 b] hp=some (.ret (O5 (strC a b)),hp):=by
 refine Ya rfl rfl rfl (z8 [(none,.str a),(none,.str b)]) rfl ?_;have hn:∀(x:List UInt8) (hp:Heap),S 111 [O7 x] hp=some (.ret (O6 false),hp):=fun x hp=>by
  refine Ya rfl rfl rfl (z8 [(none,.str x)]) rfl ?_;simp -dsimp -implicitDefEqProofs only[go_sem,seval]
  try simp
 have hg:Xr .gtr a b=some (.bool (!(Op.bytesLess a b || decide (a=b)))):=rfl;unfold strC;cases h1:Op.bytesLess a b with
 |true=>simp -dsimp -implicitDefEqProofs only[go_sem,seval,hn,h1]
 |false=>
  rw[h1] at hg;by_cases h2:a=b
  ·rw[ZG h2] at hg;have hg':Xr .gtr a b=some (.bool false):=hg;rw[Za (by decide),Zd h2];simp -dsimp -implicitDefEqProofs only[go_sem,seval,hn,h1,hg']
  ·rw[Z1 h2] at hg;have hg':Xr .gtr a b=some (.bool true):=hg;rw[Za (by decide),Za h2];simp -dsimp -implicitDefEqProofs only[go_sem,seval,hn,h1,hg']
theorem mo(a b:Int)(hp:Heap):S 78 [O5 a,O5 b] hp=some (.ret (O5 (intC a b)),hp):=by
 refine Ya rfl rfl rfl (z8 [(none,.int .i64 a),(none,.int .i64 b)]) rfl ?_;have hn:∀(x:Int) (hp:Heap),S 112 [O5 x] hp=some (.ret (O6 false),hp):=fun x hp=>by
  refine Ya rfl rfl rfl (z8 [(none,.int .i64 x)]) rfl ?_;simp -dsimp -implicitDefEqProofs only[go_sem,seval]
  try simp
 unfold intC;by_cases h1:a<b
 ·simp -dsimp -implicitDefEqProofs only[go_sem,seval,hn,h1]
 ·by_cases h2:b<a
  ·simp -dsimp -implicitDefEqProofs only[go_sem,seval,hn,h1,h2]
  ·simp -dsimp -implicitDefEqProofs only[go_sem,seval,hn,h1,h2]
theorem q6(s:List UInt8)(a:Int)(hp:Heap):S 46 [O7 s,O5 a] hp=some (.ret (O6 (decide (s.length<=100) && (decide (0<=a) && decide (a<=8)))),hp):=by
 refine Ya rfl rfl rfl (z8 [(none,.str s),(none,.int .i64 a)]) rfl ?_;by_cases h1:s.length<=100
 ·have h1':(s.length:Int)<=100:=by omega
  by_cases h2:0<=a
  ·simp -dsimp -implicitDefEqProofs only[go_sem,seval,h1,h1',h2]
  ·simp -dsimp -implicitDefEqProofs only[go_sem,seval,h1,h1',h2]
 ·have h1':¬(s.length:Int)<=100:=by omega
  simp -dsimp -implicitDefEqProofs only[go_sem,seval,h1,h1']
def ordP(p q:Prc):Int:=if strC p.name q.name=0 then intC p.ar q.ar else strC p.name q.name
theorem mp(a b:Int)(hp:Heap):S 76 [.pv none (.sl none [.int .i64 a,.int .i64 b])] hp=some (.ret (O5 (if a=0 then b else a)),hp):=by
 refine Ya rfl rfl rfl (z8 [(none,.sl none [.int .i64 a,.int .i64 b])]) rfl ?_;have hl:([.int .i64 a,.int .i64 b]:List PV).length=2:=rfl;simp -dsimp -implicitDefEqProofs only[go_sem,seval,hl];have e2:((2:Nat):Int)=2:=rfl;have e1:((1:Nat):Int)=1:=rfl;have e0:((0:Nat):Int)=0:=rfl;refine Yy (α:=Unit) 2 (fun i _=>(0<i->a=0)/\(1<i->b=0)) (fun i _=>⟨[(3,O5 0),(6,.pv none (.sl none [.int .i64 a,.int .i64 b])),(7,O5 2),(8,O5 i)],[]⟩) () ⟨⟨by omega,by omega⟩,rfl⟩ ?_ ?_
 ·rintro i - h ⟨ha,hb⟩
  match i,h with
  |0,_=>
   have c2:(0:Int)<2:=by decide
   have w2:IntKind.i64.wrap ((0:Int)+1)=((0+1:Nat):Int):=by decide
   have g:Yq none [.pv none (.sl none [.int .i64 a,.int .i64 b]),O5 0]=some (.iptr none (.int .i64 a) 0):=rfl;by_cases h0:a=0
   ·have h0':=Zn h0;simp -dsimp -implicitDefEqProofs only[go_sem,seval,e0,c2,w2,g,h0'];refine⟨(),⟨fun _=>trivial,fun h=>absurd h (by decide)⟩,rfl⟩
   ·simp -dsimp -implicitDefEqProofs only[go_sem,seval,e0,c2,w2,g,h0]
    try rw[Za h0]
    try exact⟨_,rfl⟩
  |1,_=>
   have h0:=ha (by omega);have c2:(1:Int)<2:=by decide
   have w2:IntKind.i64.wrap ((1:Int)+1)=((1+1:Nat):Int):=by decide
   have g:Yq none [.pv none (.sl none [.int .i64 a,.int .i64 b]),O5 1]=some (.iptr none (.int .i64 b) 0):=rfl;by_cases h1:b=0
   ·have h1':=Zn h1;simp -dsimp -implicitDefEqProofs only[go_sem,seval,e1,c2,w2,g,h1'];refine⟨(),⟨fun _=>h0,fun _=>trivial⟩,rfl⟩
   ·rw[Zd h0];simp -dsimp -implicitDefEqProofs only[go_sem,seval,e1,c2,w2,g,h1]
    try exact⟨_,rfl⟩
 ·rintro - ⟨ha,hb⟩;have h0:=ha (by omega);have h1:=hb (by omega);have c2:¬(2:Int)<2:=by decide
  rw[Zd h0,h1];simp -dsimp -implicitDefEqProofs only[go_sem,seval,e2,c2]
  try exact⟨_,rfl⟩
theorem GG(p q:Prc)(hp:Heap):S 47 [p.av,q.av] hp=some (.ret (O5 (ordP p q)),hp):=by
 refine Ya rfl rfl rfl (z8 [(some 4,p.pv),(some 4,q.pv)]) rfl ?_;have h1:=fun hp=>mn p.name q.name hp;have h2:=fun hp=>mo p.ar q.ar hp;have h3:=fun hp=>mp (strC p.name q.name) (intC p.ar q.ar) hp;unfold ordP;simp -dsimp -implicitDefEqProofs only[go_sem,seval,Prc.av,YP,YR,h1,h2,h3]
 done
def totD(l:List Prc):Nat:=(l.map fun p=>p.cls.length).sum
theorem Vd{l:List Prc}{i:Nat}{p:Prc}(h:l[i]? =some p):totD (l.take (i+1))=totD (l.take i)+p.cls.length:=by
 unfold totD;rw[zO,h];simp
theorem Ve{l:List Prc}(i:Nat):totD (l.take i)<=totD l:=by
 have:=zi i l;have e:totD l=totD (l.take i)+totD (l.drop i):=by
  unfold totD;rw[<-List.sum_append,<-List.map_append,this]
 omega
theorem GH(d:Dbs)(h1:d.procs.length<1000000000)(h2:totD d.procs<1000000000)(hp:Heap):S 38 [d.av] hp=some (.ret (O5 (totD d.procs:Int)),hp):=by
 refine Ya rfl rfl rfl (z8 [(some 2,d.pv)]) rfl ?_;simp -dsimp -implicitDefEqProofs only[go_sem,seval,Dbs.av,YB,Prc.pvs_len];refine Yy (α:=Unit) d.procs.length (fun _ _=>True) (fun i _=>⟨[(3,O5 (totD (d.procs.take i):Int)),(7,.pv none (.sl (some 4) (Prc.pvs d.procs))),(8,O5 d.procs.length),(9,O5 i)],[.box (some 2) (.pv (some 2) d.pv)]⟩) () ⟨trivial,rfl⟩ ?_ ?_
 ·rintro i - h -;have hc:(i:Int)<(d.procs.length:Int):=by omega
  obtain⟨p,hpp⟩:∃p,d.procs[i]? =some p:=⟨_,Zf h⟩;have ht:=Vd hpp;have hle:=Ve (l:=d.procs) (i+1);have w1:=O0 i (by omega)
  have w2:IntKind.i64.wrap ((totD (d.procs.take i):Int)+(p.cls.length:Int))=(totD (d.procs.take (i+1)):Int):=by rw[Yh (by omega) (by omega)];omega
  simp -dsimp -implicitDefEqProofs only[go_sem,seval,hc,w1,w2,Yc (Prc.pvs_get hpp),yd,Sto.pvs_len,z7 (Ze _)];exact⟨(),rfl⟩
 ·rintro - -;have hc:¬(d.procs.length:Int)<(d.procs.length:Int):=by omega
  simp -dsimp -implicitDefEqProofs only[go_sem,seval,hc,ZS]
  done
end Go.Proofs.YtkkppaoehnpboaaGreatDoor
