/- What is proved: the reference's conversion of a body. -/
import Derived.Test.YtkkppaoehnpboaaGreatDoorRnm
import Derived.Test.YtkkppaoehnpboaaGreatDoorDb1
import Derived.Test.YtkkppaoehnpboaaGreatDoorDfo
import Derived.Test.YtkkppaoehnpboaaGreatDoorCl
import Derived.Test.YtkkppaoehnpboaaGreatDoorAm6
set_option linter.unusedSimpArgs false
set_option linter.unusedVariables false
namespace Go.Proofs.YtkkppaoehnpboaaGreatDoor
open Go.Am
theorem NX(t:Tm)(s:List UInt8)(n:Int)(hp:Heap):S 108 [t.av,O7 s,O5 n] hp=some (.ret (O6 (decide ((t.kind=2\/t.kind=3)/\t.name=s/\(t.args.length:Int)=n))),hp):=by
 refine Ya rfl rfl rfl (z8 [(some 4,t.pv),(none,.str s),(none,.int .i64 n)]) rfl ?_;by_cases h2:t.kind=2
 ·have h2':=Zn h2;by_cases hn:t.name=s
  ·have hn':=Zn hn;simp -dsimp -implicitDefEqProofs only[go_sem,seval,Tm.av,Yk,Yt,Yd,Tm.pvs_len,h2',hn',true_or]
  ·have hn':=Zp hn;simp -dsimp -implicitDefEqProofs only[go_sem,seval,Tm.av,Yk,Yt,Yd,Tm.pvs_len,h2',hn',true_or]
 ·have h2':=Zp h2;by_cases h3:t.kind=3
  ·have h3':=Zn h3;by_cases hn:t.name=s
   ·have hn':=Zn hn;simp -dsimp -implicitDefEqProofs only[go_sem,seval,Tm.av,Yk,Yt,Yd,Tm.pvs_len,h2',h3',hn',false_or]
   ·have hn':=Zp hn;simp -dsimp -implicitDefEqProofs only[go_sem,seval,Tm.av,Yk,Yt,Yd,Tm.pvs_len,h2',h3',hn',false_or]
  ·have h3':=Zp h3;simp -dsimp -implicitDefEqProofs only[go_sem,seval,Tm.av,Yk,Yt,Yd,Tm.pvs_len,h2',h3',false_or]
theorem NY{t:Tm}(hf:t.fits=true)(s:List UInt8):((t.kind=2\/t.kind=3)/\t.name=s/\(t.args.length:Int)=2)↔(t.kind=3/\t.args.length=2/\t.name=s):=by
 constructor
 ·rintro⟨hk,hn,ha⟩;refine⟨?_,by omega,hn⟩;rcases hk with hk|hk
  ·rw[Tm.zyH,Zg] at hf;have h:=hf.1;unfold Tm.node at h;rw[hk] at h;simp at h;rw[h.2] at ha;simp at ha
  ·exact hk
 ·rintro⟨hk,ha,hn⟩;exact⟨.inr hk,hn,by omega⟩
theorem gV(t:Tm)(hf:t.fits=true)(hp:Heap):S 71 [t.av] hp=some (.ret (O6 (decide (jn t))),hp):=by
 refine Ya rfl rfl rfl (z8 [(some 4,t.pv)]) rfl ?_;have h1:=fun s hp=>NX t s 2 hp;simp only[NY hf,Tm.av] at h1;have e:decide (jn t)=(decide (t.kind=3/\t.args.length=2/\t.name=[44]) || (decide (t.kind=3/\t.args.length=2/\t.name=[59]) || decide (t.kind=3/\t.args.length=2/\t.name=[45,62]))):=by
  unfold jn;by_cases a:t.kind=3 <;> by_cases b:t.args.length=2 <;> simp[a,b]
 rw[e];have g1:=h1 [44];have g2:=h1 [59];have g3:=h1 [45,62];generalize decide (t.kind=3/\t.args.length=2/\t.name=[44])=x at g1;generalize decide (t.kind=3/\t.args.length=2/\t.name=[59])=y at g2;generalize decide (t.kind=3/\t.args.length=2/\t.name=[45,62])=z at g3;clear e h1;cases x
 ·cases y
  ·simp -dsimp -implicitDefEqProofs only[go_sem,seval,Tm.av,g1,g2,g3,Bool.false_or]
  ·simp -dsimp -implicitDefEqProofs only[go_sem,seval,Tm.av,g1,g2,g3,Bool.false_or,Bool.true_or]
 ·simp -dsimp -implicitDefEqProofs only[go_sem,seval,Tm.av,g1,g2,g3,Bool.true_or]
def rcF:Nat->Tm->Tm × Bool
 |0,_=>(zt,false)
 |n+1,t=>if t.kind=0 then(tstr qU [t],true) else if t.kind=1 then(zt,false) else if jn t then(match t.args with
   |[a,b]=>(tstr t.name [(rcF n a).1,(rcF n b).1],(rcF n a).2 && (rcF n b).2)
   |_=>(zt,false)) else(t,true)
theorem NZ(t a b ga gb:Tm)(oa ob:Bool)(hab:t.args=[a,b])(hf:t.fits=true)(k0:¬t.kind=0)(k1:¬t.kind=1)(hjn:jn t)(h1:∀hp,S 40 [a.av] hp=some (.ret (.tuple [ga.av,O6 oa]),hp))(h2:∀hp,S 40 [b.av] hp=some (.ret (.tuple [gb.av,O6 ob]),hp))(hp:Heap):S 40 [t.av] hp=some (.ret (.tuple [(tstr t.name [ga,gb]).av,O6 (oa && ob)]),hp):=by
 refine Ya rfl rfl rfl (z8 [(some 4,t.pv)]) rfl ?_;have k0':=Zp k0;have k1':=Zp k1;have hj:=fun hp=>gV t hf hp;rw[ZG hjn] at hj;have pa:PV.part deep t.pv 3 none=some (.sl (some 4) [a.pv,b.pv]):=by rw[Yd,hab];rfl
 have i0:Yq (some 4) [.pv none (.sl (some 4) [a.pv,b.pv]),O5 0]=some (.iptr (some 4) a.pv 0):=rfl;have i1:Yq (some 4) [.pv none (.sl (some 4) [a.pv,b.pv]),O5 1]=some (.iptr (some 4) b.pv 0):=rfl;have hb:Yi A0 [0,2,3] [O5 3,O7 t.name,.tsl (some 4) [ga.pv,gb.pv]]=some (cV t.name [ga.pv,gb.pv]):=rfl;have hst:=fun x0 v r=>ji x0 v r t.name ga.pv [gb.pv];simp only[Tm.av] at h1 h2 hj;cases oa
 ·simp -dsimp -implicitDefEqProofs only[go_sem,seval,Tm.av,Yk,Yt,k0',k1',hj,h1,h2,pa,i0,i1,hb,hst,z7 (Ze _)];exact⟨_,rfl⟩
 ·simp -dsimp -implicitDefEqProofs only[go_sem,seval,Tm.av,Yk,Yt,k0',k1',hj,h1,h2,pa,i0,i1,hb,hst,z7 (Ze _)];exact⟨_,rfl⟩
theorem N0:∀(n:Nat) (t:Tm),t.size<=n->t.valid=true->∀hp,S 40 [t.av] hp=some (.ret (.tuple [(rcF n t).1.av,.pv none (.bool (rcF n t).2)]),hp):=by
 intro n
 induction n with
 |zero=>
  intro t h;have:=t.size_eq;omega
 |succ n ih=>
  intro t hs hv hp;have hf:=valid_fits hv;have hts:=t.size_eq;have hsz:=yb hv;rw[rcF];by_cases k0:t.kind=0
  ·rw[Zd k0];refine Ya rfl rfl rfl (z8 [(some 4,t.pv)]) rfl ?_;have k0':=Zn k0;have hb:Yi A0 [0,2,3] [O5 3,O7 [99,97,108,108],.tsl (some 4) [t.pv]]=some (cV qU [t.pv]):=rfl;have hst:=fun x0 v r=>ji x0 v r qU t.pv [];simp -dsimp -implicitDefEqProofs only[go_sem,seval,Tm.av,Yk,k0',hb,hst,z7 (Ze _)];exact⟨_,rfl⟩
  have k0':=Zp k0;rw[Za k0];by_cases k1:t.kind=1
  ·rw[Zd k1];refine Ya rfl rfl rfl (z8 [(some 4,t.pv)]) rfl ?_;have k1':=Zn k1;have hb:=O2;simp -dsimp -implicitDefEqProofs only[go_sem,seval,Tm.av,Yk,k0',k1',hb,z7 (Ze _)];exact⟨_,rfl⟩
  have k1':=Zp k1;rw[Za k1];by_cases hjn:jn t
  ·rw[Zd hjn];obtain⟨a,b,hab⟩:=kO hjn.2.1;have ha:a∈t.args:=by rw[hab];simp
   have hbm:b∈t.args:=by rw[hab];simp
   have z1:=Tm.zyC ha;have z2:=Tm.zyC hbm;rw[hab];exact NZ t a b _ _ _ _ hab hf k0 k1 hjn (fun hp=>ih a (by omega) (yR hv ha) hp) (fun hp=>ih b (by omega) (yR hv hbm) hp) hp
  ·rw[Za hjn];refine Ya rfl rfl rfl (z8 [(some 4,t.pv)]) rfl ?_;have hj:=fun hp=>gV t hf hp;rw[Z1 hjn] at hj;have hcl:=fun hp=>NU t hp hv (by omega);simp only[Tm.av] at hj hcl;simp -dsimp -implicitDefEqProofs only[go_sem,seval,Tm.av,Yk,k0',k1',hj,hcl,z7 (Ze _)];exact⟨_,rfl⟩
theorem N1:∀(n:Nat) (t:Tm),(rcF n t).2=true->t.fits=true->cvF n t=some (rcF n t).1:=by
 intro n
 induction n with
 |zero=>intro t h;cases h
 |succ n ih=>
  intro t h hf;rw[rcF] at h ⊢;rw[cvF];by_cases k0:t.kind=0
  ·rw[Zd k0,Zd k0]
  rw[Za k0] at h ⊢;rw[Za k0];by_cases k1:t.kind=1
  ·rw[Zd k1] at h;cases h
  rw[Za k1] at h ⊢;by_cases hj:jn t
  ·rw[Zd hj] at h ⊢;rw[Zd hj];obtain⟨a,b,hab⟩:=kO hj.2.1;have fa:a.fits=true:=Tm.zyF hf (by rw[hab];simp);have fb:b.fits=true:=Tm.zyF hf (by rw[hab];simp);rw[hab] at h ⊢;simp only[Zg] at h ⊢;rw[ih a h.1 fa,ih b h.2 fb]
  ·rw[Za hj] at h ⊢;rw[Za hj];have hk:t.kind=2\/t.kind=3:=by
    rw[Tm.zyH,Zg] at hf;have hn:=hf.1;unfold Tm.node at hn;rw[Za k0,Za k1] at hn;by_cases k2:t.kind=2
    ·exact .inl k2
    ·rw[Za k2] at hn;by_cases k3:t.kind=3
     ·exact .inr k3
     ·rw[Za k3] at hn;cases hn
   rw[Zd hk]
theorem N2:∀(n:Nat) (t:Tm),(rcF n t).1.size<=2*t.size:=by
 intro n
 induction n with
 |zero=>
  intro t;have:=t.size_eq;show 1<=_;omega
 |succ n ih=>
  intro t;have hts:=t.size_eq;rw[rcF];split
  ·show 1+(t.size+0)<=_;omega
  ·split
   ·show 1<=_;omega
   ·split
    ·split
     ·rename_i a b hab;have h1:=ih a;have h2:=ih b;rw[hab] at hts;have e:Tm.sizes [a,b]=a.size+(b.size+0):=rfl;rw[e] at hts;show 1+((rcF n a).1.size+((rcF n b).1.size+0))<=_;omega
     ·show 1<=_;omega
    ·show t.size<=_;omega
theorem gW(l:List Tm)(hf:∀t∈l,t.fits=true)(hz:Tm.sizes l<50000000)(hp:Heap):S 42 [.pv none (.sl (some 4) (Tm.pvs l))] hp=some (.ret (.pv none (.sl none (ints (vads [] (Tm.occs l))))),hp):=by
 refine Ya rfl rfl rfl (z8 [(none,.sl (some 4) (Tm.pvs l))]) rfl ?_;have hlen:=Tm.zyA l;have hn0:∀H:Heap,YU none H=some (.sl none H.length 0 0 0,H++[.arr none [] false]):=fun H=>Xd (sh:=none) (by decide);simp -dsimp -implicitDefEqProofs only[go_sem,seval,hn0];refine Yy (α:=AV × Heap) l.length (fun i a=>IsV a.1 a.2 (vads [] (Tm.occs (l.take i)))) (fun i a=>⟨[(0,.pv none (.sl (some 4) (Tm.pvs l))),(3,a.1),(4,O5 i)],a.2⟩) (.sl none 1 0 0 0,[.arr none [] false,.arr none [] false]) ⟨.inr ⟨1,rfl,rfl⟩,rfl⟩ ?_ ?_
 ·rintro i ⟨s1,H⟩ h k1;dsimp only at k1;have hc:(i:Int)<(l.length:Int):=by omega
  obtain⟨u,hu⟩:∃u,l[i]? =some u:=⟨_,Zf h⟩;have hum:=Zj hu;have hst:=Tm.zyG hu;have hle:=Tm.zyD l (i+1);have hvl:=qX (Tm.occs (l.take i)) [];have hol:=Tm.zyP (l.take i);simp only[List.length_nil] at hvl;obtain⟨s2,H2,hcall,p1,p2,p3⟩:=MY u s1 H _ k1 (hf u hum) (by omega);simp only[Tm.av] at hcall;have w2:=O0 i (by omega)
  simp -dsimp -implicitDefEqProofs only[go_sem,seval,Tm.pvs_len,hc,Yc (Tm.pvs_get hu),hcall,w2];have hcc:=kQ 2 0 [(0,.pv none (.sl (some 4) (Tm.pvs l))),(3,s2),(4,O5 ((i+1:Nat):Int))] H2;refine⟨(s2,collect 2 0 [(0,.pv none (.sl (some 4) (Tm.pvs l))),(3,s2),(4,O5 ((i+1:Nat):Int))] H2),?_,rfl⟩;generalize collect 2 0 [(0,.pv none (.sl (some 4) (Tm.pvs l))),(3,s2),(4,O5 ((i+1:Nat):Int))] H2=HC at hcc;rw[Tm.zyK hu,QW];rcases hcc with rfl|⟨rfl,hr⟩
  ·exact p1
  ·exact p1.take (hr (3,s2) (by simp))
 ·rintro⟨s1,H⟩ k1;dsimp only at k1;have hc:¬(l.length:Int)<(l.length:Int):=by omega
  rw[ZS] at k1;simp -dsimp -implicitDefEqProofs only[go_sem,seval,Tm.pvs_len,hc];exact MZ k1
theorem N3(l:List Tm)(hf:∀t∈l,t.fits=true)(hz:Tm.sizes l<50000000)(hp:Heap):S 44 [.pv none (.sl (some 4) (Tm.pvs l))] hp=some (.ret (.pv none (.sl (some 4) (Tm.pvs (l.map (Tm.sub (cPos (vads [] (Tm.occs l)))))))),hp):=by
 refine Ya rfl rfl rfl (z8 [(none,.sl (some 4) (Tm.pvs l))]) rfl ?_;have hlen:=Tm.zyA l;have hn4:=O1;have h1:=fun hp=>gW l hf hz hp;have hvl:=qX (Tm.occs l) [];have hol:=Tm.zyP l;simp only[List.length_nil] at hvl;have hnum:=fun(u:Tm) (hu:u∈l) hp=>NW (vads [] (Tm.occs l)) (by omega) u hp (hf u hu) (by have:=Tm.zyQ hu;omega) fun w hw=>(MV _ [] w).2 (.inr (Tm.zyY hu hw));generalize vads [] (Tm.occs l)=L at*;obtain⟨ts',hts'⟩:∃ts',ts'=l.map (Tm.sub (cPos L)):=⟨_,rfl⟩;have htl:ts'.length=l.length:=by rw[hts',Z8]
 rw[<-hts'];simp -dsimp -implicitDefEqProofs only[go_sem,seval,hn4,h1];refine Yy (α:=Unit) l.length (fun _ _=>True) (fun i _=>⟨[(0,.pv none (.sl (some 4) (Tm.pvs l))),(3,.pv none (.sl none (ints L))),(4,.sl (some 4) 1 i 0 i),(5,O5 i)],[.arr (some 4) [] false,.arr (some 4) (Tm.pvs (ts'.take i)) false]⟩) () ⟨trivial,rfl⟩ ?_ ?_
 ·rintro i - h -;have hc:(i:Int)<(l.length:Int):=by omega
  obtain⟨u,hu⟩:∃u,l[i]? =some u:=⟨_,Zf h⟩;have hum:=Zj hu;have hcall:=fun hp=>hnum u hum hp;simp only[Tm.av] at hcall;have w2:=O0 i (by omega)
  have hll:(Tm.pvs (ts'.take i)).length=i:=by rw[Tm.pvs_len,Zh];omega
  have hlim:i+1<=lim:=by unfold lim;omega
  have hus:ts'[i]? =some (Tm.sub (cPos L) u):=by rw[hts'];simp[hu]
  simp -dsimp -implicitDefEqProofs only[go_sem,seval,Tm.pvs_len,hc,Yc (Tm.pvs_get hu),hcall,w2,hll,hlim,Tm.zyB hus];exact⟨(),trivial⟩
 ·rintro - -;have hc:¬(l.length:Int)<(l.length:Int):=by omega
  have htk:ts'.take l.length=ts':=Zu (by omega);simp -dsimp -implicitDefEqProofs only[go_sem,seval,Tm.pvs_len,hc,htk];have hlp:(Tm.pvs ts').length=l.length:=by rw[Tm.pvs_len,htl]
  rw[uK (sh:=some 4) (hp:=[AObj.arr (some 4) [] false,AObj.arr (some 4) (Tm.pvs ts') false]) (r:=1) (n:=l.length) hlp];rfl
theorem N4(a a' b b':Tm)(z1:a.size<1000000000)(z2:a'.size<1000000000)(z3:b.size<1000000000)(z4:b'.size<1000000000)(hp:Heap):S 43 [.pv none (.sl (some 4) (Tm.pvs [a',b'])),.pv none (.sl (some 4) (Tm.pvs [a,b]))] hp=some (.ret (O6 (same a' a && same b' b)),hp):=by
 refine Ya rfl rfl rfl (z8 [(none,.sl (some 4) (Tm.pvs [a',b'])),(none,.sl (some 4) (Tm.pvs [a,b]))]) rfl ?_;have h1:=fun hp=>QS a' a hp z2 z1;have h2:=fun hp=>QS b' b hp z4 z3;have e2:((2:Nat):Int)=2:=rfl;have e1:((1:Nat):Int)=1:=rfl;have e0:((0:Nat):Int)=0:=rfl;have p1:Tm.pvs [a',b']=[a'.pv,b'.pv]:=rfl;have p2:Tm.pvs [a,b]=[a.pv,b.pv]:=rfl;have hl:∀x y:PV,(([x,y]:List PV).length:Int)=2:=fun _ _=>rfl;simp only[Tm.av] at h1 h2;rw[p1,p2];simp -dsimp -implicitDefEqProofs only[go_sem,seval,hl,e2];refine Yy (α:=Unit) 2 (fun i _=>(0<i->same a' a=true)/\(1<i->same b' b=true)) (fun i _=>⟨[(0,.pv none (.sl (some 4) [a'.pv,b'.pv])),(1,.pv none (.sl (some 4) [a.pv,b.pv])),(5,O5 i)],[]⟩) () ⟨⟨by omega,by omega⟩,rfl⟩ ?_ ?_
 ·rintro i - h ⟨ha,hb⟩
  match i,h with
  |0,_=>
   have c2:(0:Int)<2:=by decide
   have w2:IntKind.i64.wrap ((0:Int)+1)=((0+1:Nat):Int):=by decide
   have i0:Yq (some 4) [.pv none (.sl (some 4) [a'.pv,b'.pv]),O5 0]=some (.iptr (some 4) a'.pv 0):=rfl;have i1:Yq (some 4) [.pv none (.sl (some 4) [a.pv,b.pv]),O5 0]=some (.iptr (some 4) a.pv 0):=rfl;cases hs:same a' a with
   |true=>
    rw[hs] at h1;simp -dsimp -implicitDefEqProofs only[go_sem,seval,hl,e2,e0,c2,w2,i0,i1,h1];exact⟨(),⟨fun _=>trivial,fun h=>absurd h (by decide)⟩,rfl⟩
   |false=>
    rw[hs] at h1;simp -dsimp -implicitDefEqProofs only[go_sem,seval,hl,e2,e0,c2,w2,i0,i1,h1]
    try exact⟨_,rfl⟩
  |1,_=>
   have h0:=ha (by omega);have c2:(1:Int)<2:=by decide
   have w2:IntKind.i64.wrap ((1:Int)+1)=((1+1:Nat):Int):=by decide
   have i0:Yq (some 4) [.pv none (.sl (some 4) [a'.pv,b'.pv]),O5 1]=some (.iptr (some 4) b'.pv 0):=rfl;have i1:Yq (some 4) [.pv none (.sl (some 4) [a.pv,b.pv]),O5 1]=some (.iptr (some 4) b.pv 0):=rfl;rw[h0];cases hs:same b' b with
   |true=>
    rw[hs] at h2;simp -dsimp -implicitDefEqProofs only[go_sem,seval,hl,e2,e1,c2,w2,i0,i1,h2]
    first|exact⟨(),⟨fun _=>trivial,fun _=>trivial⟩,rfl⟩|exact⟨(),fun _=>trivial,rfl⟩|exact⟨(),fun _=>trivial⟩
   |false=>
    rw[hs] at h2;simp -dsimp -implicitDefEqProofs only[go_sem,seval,hl,e2,e1,c2,w2,i0,i1,h2]
    try exact⟨_,rfl⟩
 ·rintro - ⟨ha,hb⟩;have h0:=ha (by omega);have h1':=hb (by omega);have c2:¬(2:Int)<2:=by decide
  rw[h0,h1'];simp -dsimp -implicitDefEqProofs only[go_sem,seval,hl,e2,c2]
  try exact⟨_,rfl⟩
theorem Xl(c:Cz):PV.part deep c.pv 0 none=some (.int .i64 c.head.kind):=by
 obtain⟨⟨_,_,_,_⟩,_⟩:=c;rfl
theorem N5(c:Cz)(z1:c.head.size<100000000)(z2:c.body.size<100000000)(hp:Heap):∃r:Bool,S 18 [c.av] hp=some (.ret (O6 r),hp)/\(r=true->okC c=true):=by
 have h1:=fun hp=>qS c.head hp (by omega);have h2:=fun hp=>qS c.body hp (by omega);simp only[Tm.av] at h1 h2;cases v1:c.head.valid with
 |false=>
  rw[v1] at h1;refine⟨false,Ya rfl rfl rfl (z8 [(some 8,c.pv)]) rfl ?_,fun h=>by cases h⟩;simp -dsimp -implicitDefEqProofs only[go_sem,seval,Cz.av,Y3,Y4,Xl,h1]
 |true=>
 rw[v1] at h1;cases v2:c.body.valid with
 |false=>
  rw[v2] at h2;refine⟨false,Ya rfl rfl rfl (z8 [(some 8,c.pv)]) rfl ?_,fun h=>by cases h⟩;simp -dsimp -implicitDefEqProofs only[go_sem,seval,Cz.av,Y3,Y4,Xl,h1,h2]
 |true=>
 rw[v2] at h2;have hs1:=yb v1;have hs2:=yb v2;by_cases hk:c.head.kind=2\/c.head.kind=3
 rotate_left
 ·have k2:(c.head.kind=2)=False:=Zp fun h=>hk (.inl h);have k3:(c.head.kind=3)=False:=Zp fun h=>hk (.inr h);refine⟨false,Ya rfl rfl rfl (z8 [(some 8,c.pv)]) rfl ?_,fun h=>by cases h⟩;simp -dsimp -implicitDefEqProofs only[go_sem,seval,Cz.av,Y3,Y4,Xl,h1,h2,k2,k3]
 have h3:=fun hp=>N0 c.body.size c.body (Zc _) v2 hp;have hcv:=N1 c.body.size c.body;have hcs:=N2 c.body.size c.body;generalize rcF c.body.size c.body=R at h3 hcv hcs;obtain⟨g,ok⟩:=R;dsimp only at h3 hcv hcs;have h4:=fun hp=>QS g c.body hp (by omega) (by omega);have h5:=fun hp=>kM c.head hp (by omega);have h6:=fun hp=>kM c.body hp (by omega);have w1:IntKind.i64.wrap (((min c.head.size 2001:Nat):Int)+((min c.body.size 2001:Nat):Int))=((c.head.size+c.body.size:Nat):Int):=by rw[Yh (by omega) (by omega)];omega
 simp only[Tm.av] at h3 h4 h5 h6;have hfl:∀t∈[c.head,c.body],t.fits=true:=fun t ht=>by
  rcases Zl.1 ht with rfl|ht
  ·exact valid_fits v1
  ·rcases Zl.1 ht with rfl|ht
   ·exact valid_fits v2
   ·cases ht
 have hzz:Tm.sizes [c.head,c.body]<50000000:=by
  show c.head.size+(c.body.size+0)<_;omega
 have eoc:Tm.occs [c.head,c.body]=c.head.occ++c.body.occ:=by
  show c.head.occ++(c.body.occ++[])=_;rw[ZB]
 have h7:∀hp,S 42 [.tsl (some 4) [c.head.pv,c.body.pv]] hp=some (.ret (.pv none (.sl none (ints c.vars))),hp):=fun hp=>by
  have:=XF (F:=find tab) (prim:=prim) (f:=42) (args:=[.tsl (some 4) [c.head.pv,c.body.pv]]) (ps:=[(none,.sl (some 4) [c.head.pv,c.body.pv])]) (hp:=hp) (hp1:=hp) rfl rfl rfl rfl (gW [c.head,c.body] hfl hzz []);rw[eoc] at this;exact this
 have h8:∀hp,S 44 [.tsl (some 4) [c.head.pv,c.body.pv]] hp=some (.ret (.pv none (.sl (some 4) [c.can.head.pv,c.can.body.pv])),hp):=fun hp=>by
  have:=XF (F:=find tab) (prim:=prim) (f:=44) (args:=[.tsl (some 4) [c.head.pv,c.body.pv]]) (ps:=[(none,.sl (some 4) [c.head.pv,c.body.pv])]) (hp:=hp) (hp1:=hp) rfl rfl rfl rfl (N3 [c.head,c.body] hfl hzz []);rw[eoc] at this;exact this
 have q1:c.can.head.size=c.head.size:=jl _ (valid_fits v1);have q2:c.can.body.size=c.body.size:=jl _ (valid_fits v2);have h9:∀hp,S 43 [.pv none (.sl (some 4) [c.can.head.pv,c.can.body.pv]),.tsl (some 4) [c.head.pv,c.body.pv]] hp=some (.ret (O6 (same c.can.head c.head && same c.can.body c.body)),hp):=fun hp=>by
  have:=XF (F:=find tab) (prim:=prim) (f:=43) (args:=[.pv none (.sl (some 4) [c.can.head.pv,c.can.body.pv]),.tsl (some 4) [c.head.pv,c.body.pv]]) (ps:=[(none,.sl (some 4) [c.can.head.pv,c.can.body.pv]),(none,.sl (some 4) [c.head.pv,c.body.pv])]) (hp:=hp) (hp1:=hp) rfl rfl rfl rfl (N4 c.head c.can.head c.body c.can.body (by omega) (by omega) (by omega) (by omega) []);exact this
 cases ok with
 |false=>
  refine⟨false,Ya rfl rfl rfl (z8 [(some 8,c.pv)]) rfl ?_,fun h=>by cases h⟩;rcases hk with hk|hk
  ·have k2:=Zn hk;simp -dsimp -implicitDefEqProofs only[go_sem,seval,Cz.av,Y3,Y4,Xl,h1,h2,h3,k2,z7 (Ze _)]
  ·have k3:=Zn hk;have k2:(c.head.kind=2)=False:=Zp (by omega);simp -dsimp -implicitDefEqProofs only[go_sem,seval,Cz.av,Y3,Y4,Xl,h1,h2,h3,k2,k3,z7 (Ze _)]
 |true=>
 cases sm:same g c.body with
 |false=>
  rw[sm] at h4;refine⟨false,Ya rfl rfl rfl (z8 [(some 8,c.pv)]) rfl ?_,fun h=>by cases h⟩;rcases hk with hk|hk
  ·have k2:=Zn hk;simp -dsimp -implicitDefEqProofs only[go_sem,seval,Cz.av,Y3,Y4,Xl,h1,h2,h3,h4,k2,z7 (Ze _)]
  ·have k3:=Zn hk;have k2:(c.head.kind=2)=False:=Zp (by omega);simp -dsimp -implicitDefEqProofs only[go_sem,seval,Cz.av,Y3,Y4,Xl,h1,h2,h3,h4,k2,k3,z7 (Ze _)]
 |true=>
 rw[sm] at h4;by_cases hsz:c.head.size+c.body.size<=2000
 rotate_left
 ·have hgt:(2000:Int)<((c.head.size+c.body.size:Nat):Int):=by omega
  refine⟨false,Ya rfl rfl rfl (z8 [(some 8,c.pv)]) rfl ?_,fun h=>by cases h⟩;rcases hk with hk|hk
  ·have k2:=Zn hk;simp -dsimp -implicitDefEqProofs only[go_sem,seval,Cz.av,Y3,Y4,Xl,h1,h2,h3,h4,h5,h6,w1,hgt,k2,z7 (Ze _)]
  ·have k3:=Zn hk;have k2:(c.head.kind=2)=False:=Zp (by omega);simp -dsimp -implicitDefEqProofs only[go_sem,seval,Cz.av,Y3,Y4,Xl,h1,h2,h3,h4,h5,h6,w1,hgt,k2,k3,z7 (Ze _)]
 have hgt:¬(2000:Int)<((c.head.size+c.body.size:Nat):Int):=by omega
 by_cases hvl:c.vars.length<=64
 rotate_left
 ·have hv':¬((c.vars.length:Nat):Int)<=64:=by omega
  refine⟨false,Ya rfl rfl rfl (z8 [(some 8,c.pv)]) rfl ?_,fun h=>by cases h⟩;rcases hk with hk|hk
  ·have k2:=Zn hk;simp -dsimp -implicitDefEqProofs only[go_sem,seval,Cz.av,Y3,Y4,Xl,h1,h2,h3,h4,h5,h6,h7,w1,hgt,hv',yS,k2,z7 (Ze _)]
  ·have k3:=Zn hk;have k2:(c.head.kind=2)=False:=Zp (by omega);simp -dsimp -implicitDefEqProofs only[go_sem,seval,Cz.av,Y3,Y4,Xl,h1,h2,h3,h4,h5,h6,h7,w1,hgt,hv',yS,k2,k3,z7 (Ze _)]
 have hv':((c.vars.length:Nat):Int)<=64:=by omega
 refine⟨same c.can.head c.head && same c.can.body c.body,Ya rfl rfl rfl (z8 [(some 8,c.pv)]) rfl ?_,fun h=> ?_⟩
 ·rcases hk with hk|hk
  ·have k2:=Zn hk;simp -dsimp -implicitDefEqProofs only[go_sem,seval,Cz.av,Y3,Y4,Xl,h1,h2,h3,h4,h5,h6,h7,h8,h9,w1,hgt,hv',yS,k2,z7 (Ze _)]
  ·have k3:=Zn hk;have k2:(c.head.kind=2)=False:=Zp (by omega);simp -dsimp -implicitDefEqProofs only[go_sem,seval,Cz.av,Y3,Y4,Xl,h1,h2,h3,h4,h5,h6,h7,h8,h9,w1,hgt,hv',yS,k2,k3,z7 (Ze _)]
 ·rw[Zg] at h;have hg:yT c.body=some g:=by
   have hgv:g.valid=true:=by
    unfold same at sm;rw[Zg] at sm;exact sm.1
   have hgs:=yb hgv;unfold yT;rw[Zd v2];unfold cv;rw[hcv rfl (valid_fits v2)];show(if 2000<g.size then none else some g)=some g;rw[Za (by omega)]
  unfold okC;rw[v1,hg];simp only[sm,h.1,h.2,hsz,hvl,decide_true,Bool.and_true,Bool.true_and];rcases hk with hk|hk <;> simp[hk]
theorem W_ex{β:Type}{Γ:Oracle}{Λ:Yw}{b:Nat}{c:ACode}{st:St}{rs:List RSlot}{P:β->AV->Heap->Prop}(h:W Γ Λ b c st (endK rs fun v hp=>∃x,P x v hp)):∃x,W Γ Λ b c st (endK rs (P x)):=by
 unfold W at h ⊢;split at h
 ·rename_i e st' he;cases e with
  |normal=>
   rw[xh] at h;cases hr:Yz st' rs with
   |none=>rw[hr] at h;exact h.elim
   |some u=>
    rw[hr] at h;obtain⟨x,hx⟩:=h;refine⟨x,?_⟩;rw[xh,hr];exact hx
  |ret=>
   rw[XX] at h;cases hr:Yz st' rs with
   |none=>rw[hr] at h;exact h.elim
   |some u=>
    rw[hr] at h;obtain⟨x,hx⟩:=h;refine⟨x,?_⟩;rw[XX,hr];exact hx
  |exit i=>exact h.elim
  |panic v=>exact h.elim
 ·exact h.elim
theorem N6(s:List UInt8)(a:Int)(hp:Heap):S 16 [O7 s,O5 a] hp=some (.ret (O6 (namB (keyP s a))),hp):=by
 refine Ya rfl rfl rfl (z8 [(none,.str s),(none,.int .i64 a)]) rfl ?_;unfold namB keyP;by_cases h1:s.length<=100
 ·have h1':(s.length:Int)<=100:=by omega
  by_cases h2:0<=a
  ·simp -dsimp -implicitDefEqProofs only[go_sem,seval,h1,h1',h2]
  ·simp -dsimp -implicitDefEqProofs only[go_sem,seval,h1,h1',h2]
 ·have h1':¬(s.length:Int)<=100:=by omega
  simp -dsimp -implicitDefEqProofs only[go_sem,seval,h1,h1']
theorem N7(p q:Prc)(hp:Heap):S 17 [p.av,q.av] hp=some (.ret (O6 (decide (ordP p q<0))),hp):=by
 refine Ya rfl rfl rfl (z8 [(some 4,p.pv),(some 4,q.pv)]) rfl ?_;have e:= @Vh p q;cases h1:Op.bytesLess p.name q.name with
 |true=>
  rw[ZG (e.2 (.inl h1))];simp -dsimp -implicitDefEqProofs only[go_sem,seval,Prc.av,YP,YR,h1]
 |false=>
  by_cases h2:p.name=q.name
  ·have h2':=Zn h2;by_cases h3:p.ar<q.ar
   ·rw[ZG (e.2 (.inr ⟨h2,h3⟩))];simp -dsimp -implicitDefEqProofs only[go_sem,seval,Prc.av,YP,YR,h1,h2',h3]
   ·rw[Z1 fun h=>by
     rcases e.1 h with k|k
     ·rw[h1] at k;cases k
     ·exact h3 k.2]
    simp -dsimp -implicitDefEqProofs only[go_sem,seval,Prc.av,YP,YR,h1,h2',h3]
  ·have h2':=Zp h2;rw[Z1 fun h=>by
    rcases e.1 h with k|k
    ·rw[h1] at k;cases k
    ·exact h2 k.1]
   simp -dsimp -implicitDefEqProofs only[go_sem,seval,Prc.av,YP,YR,h1,h2']
theorem N8(d:Dbs)(h1:d.procs.length<1000000000)(h2:totD d.procs<1000000000):∃r:Int,∀hp,S 15 [d.av] hp=some (.ret (O5 r),hp):=by
 suffices h:∃r:Int,W (sem (find tab) prim) (sloop (find tab) prim) 0 (g15).code ⟨params 0 (pvs [(some 2,d.pv)]),[]⟩ (endK (g15).results (Am.frozen (O5 r))) by
  obtain⟨r,hr⟩:=h;exact⟨r,fun hp=>Ya rfl rfl rfl (z8 [(some 2,d.pv)]) rfl hr⟩
 refine W_ex (P:=fun(r:Int)=>Am.frozen (O5 r)) ?_;simp -dsimp -implicitDefEqProofs only[go_sem,seval,Dbs.av,YB,Prc.pvs_len];refine Yy (α:=Unit) d.procs.length (fun _ _=>True) (fun i _=>⟨[(1,.ptr 0 0),(3,O5 (totD (d.procs.take i):Int)),(4,O5 i)],[.box (some 2) (.pv (some 2) d.pv)]⟩) () ⟨trivial,rfl⟩ ?_ ?_
 ·rintro i - h -;have hcc:(i:Int)<(d.procs.length:Int):=by omega
  have w1:=O0 i (by omega)
  obtain⟨p,hpp⟩:∃p,d.procs[i]? =some p:=⟨_,Zf h⟩;have ht:=Vd hpp;have hle:=Ve (l:=d.procs) (i+1);have w2:IntKind.i64.wrap ((totD (d.procs.take i):Int)+(p.cls.length:Int))=(totD (d.procs.take (i+1)):Int):=by rw[Yh (by omega) (by omega)];omega
  by_cases g1:(500:Int)<(p.cls.length:Int)
  ·simp -dsimp -implicitDefEqProofs only[go_sem,seval,hcc,w1,w2,g1,YB,yd,Prc.pvs_len,Sto.pvs_len,Yc (Prc.pvs_get hpp)];exact⟨_,rfl⟩
  ·by_cases g2:(500:Int)<(totD (d.procs.take i):Int)
   ·simp -dsimp -implicitDefEqProofs only[go_sem,seval,hcc,w1,w2,g1,g2,YB,yd,Prc.pvs_len,Sto.pvs_len,Yc (Prc.pvs_get hpp)];exact⟨_,rfl⟩
   ·simp -dsimp -implicitDefEqProofs only[go_sem,seval,hcc,w1,w2,g1,g2,YB,yd,Prc.pvs_len,Sto.pvs_len,Yc (Prc.pvs_get hpp)];exact⟨(),trivial⟩
 ·rintro - -;have hcc:¬(d.procs.length:Int)<(d.procs.length:Int):=by omega
  simp -dsimp -implicitDefEqProofs only[go_sem,seval,hcc,YB,Prc.pvs_len];exact⟨_,rfl⟩
theorem N9(c:Cz)(z1:c.head.size<100000000)(z2:c.body.size<100000000):∃r:Bool,∀hp,S 18 [c.av] hp=some (.ret (O6 r),hp):=by
 obtain⟨r,hr,-⟩:=N5 c z1 z2 [];exact⟨r,fun hp=>XF (F:=find tab) (prim:=prim) (f:=18) (ps:=[(some 8,c.pv)]) (hp:=hp) (hp1:=hp) rfl rfl rfl rfl hr⟩
set_option maxRecDepth 20000 in
set_option maxHeartbeats 4000000 in
theorem na(d:Dbs)(hb:BndD d):∃r:Bool,∀hp,S 4 [d.av] hp=some (.ret (O6 r),hp):=by
 suffices h:∃r:Bool,W (sem (find tab) prim) (sloop (find tab) prim) 0 (g4).code ⟨params 0 (pvs [(some 2,d.pv)]),[]⟩ (endK (g4).results (Am.frozen (O6 r))) by
  obtain⟨r,hr⟩:=h;exact⟨r,fun hp=>Ya rfl rfl rfl (z8 [(some 2,d.pv)]) rfl hr⟩
 refine W_ex (P:=fun(r:Bool)=>Am.frozen (O6 r)) ?_;obtain⟨r,h1⟩:=N8 d hb.1 hb.2.1;have hl:=hb.1;have htd:=hb.2.1;simp only[Dbs.av] at h1;have hn0:∀H:Heap,YU none H=some (.sl none H.length 0 0 0,H++[.arr none [] false]):=fun H=>Xd (sh:=none) (by decide);by_cases b1:d.next<1
 ·simp -dsimp -implicitDefEqProofs only[go_sem,seval,Dbs.av,YH,YB,b1,Prc.pvs_len];exact⟨_,rfl⟩
 by_cases b2:4294967296<d.next
 ·simp -dsimp -implicitDefEqProofs only[go_sem,seval,Dbs.av,YH,YB,b1,b2,Prc.pvs_len];exact⟨_,rfl⟩
 by_cases b3:(500:Int)<(d.procs.length:Int)
 ·simp -dsimp -implicitDefEqProofs only[go_sem,seval,Dbs.av,YH,YB,b1,b2,b3,Prc.pvs_len];exact⟨_,rfl⟩
 by_cases b4:500<r
 ·simp -dsimp -implicitDefEqProofs only[go_sem,seval,Dbs.av,YH,YB,b1,b2,b3,h1,b4,Prc.pvs_len];exact⟨_,rfl⟩
 simp -dsimp -implicitDefEqProofs only[go_sem,seval,Dbs.av,YH,YB,b1,b2,b3,h1,b4,hn0,Prc.pvs_len];refine Yy (α:=List Int) d.procs.length (fun i l=>l.length=totD (d.procs.take i)) (fun i l=>⟨[(1,.ptr 0 0),(3,.sl none 1 l.length 0 l.length),(4,O5 i)],[.box (some 2) (.pv (some 2) d.pv),.arr none (ints l) false]⟩) [] ⟨rfl,rfl⟩ ?_ ?_
 ·rintro i l0 h hl0;have hcc:(i:Int)<(d.procs.length:Int):=by omega
  have w1:=O0 i (by omega)
  obtain⟨p,hpp⟩:∃p,d.procs[i]? =some p:=⟨_,Zf h⟩;have hpm:=Zj hpp;have ht:=Vd hpp;have hle:=Ve (l:=d.procs) (i+1);have h2:=fun hp=>N6 p.name p.ar hp;cases hnm:namB (keyP p.name p.ar) with
  |false=>
   rw[hnm] at h2;simp -dsimp -implicitDefEqProofs only[go_sem,seval,hcc,w1,YB,Prc.pvs_len,Yc (Prc.pvs_get hpp),YP,YR,h2,z7 (Ze _)];exact⟨_,rfl⟩
  |true=>
  rw[hnm] at h2;have h3:∃q:Prc,(0<i->d.procs[i - 1]? =some q):=by
   by_cases i0:0<i
   ·exact⟨_,fun _=>Zf (show i - 1<d.procs.length by omega)⟩
   ·exact⟨p,fun h=>absurd h i0⟩
  obtain⟨q,hq⟩:=h3;have h4:=fun hp=>N7 q p hp;simp only[Prc.av] at h4;have w3:0<i->IntKind.i64.wrap ((i:Int) - 1)=((i - 1:Nat):Int):=fun h=>by rw[Yh (by omega) (by omega)];omega
  have go:(0<i/\decide (ordP q p<0)=false)\/¬((0:Int)<(i:Int))\/(0<i/\decide (ordP q p<0)=true):=by
   by_cases i0:0<i
   ·cases decide (ordP q p<0) with
    |false=>exact .inl ⟨i0,rfl⟩
    |true=>exact .inr (.inr ⟨i0,rfl⟩)
   ·exact .inr (.inl (by omega))
  rcases go with⟨i0,e⟩|go
  ·rw[e] at h4;have i0':(0:Int)<(i:Int):=by omega
   have hq:=hq i0;have w3:=w3 i0;simp -dsimp -implicitDefEqProofs only[go_sem,seval,hcc,w1,w3,i0',YB,Prc.pvs_len,Yc (Prc.pvs_get hpp),Yc (Prc.pvs_get hq),YP,YR,h2,h4,z7 (Ze _)];exact⟨_,rfl⟩
  rcases go with i0|⟨i0,e⟩
  simp -dsimp -implicitDefEqProofs only[go_sem,seval,hcc,w1,i0,YB,Prc.pvs_len,Yc (Prc.pvs_get hpp),YP,YR,h2,z7 (Ze _)]
  rotate_left
  rw[e] at h4;have i0':(0:Int)<(i:Int):=by omega
  have hq:=hq i0;have w3:=w3 i0;simp -dsimp -implicitDefEqProofs only[go_sem,seval,hcc,w1,w3,i0',YB,Prc.pvs_len,Yc (Prc.pvs_get hpp),Yc (Prc.pvs_get hq),YP,YR,h2,h4,z7 (Ze _)]
  all_goals
   refine Yy (α:=List Int) p.cls.length (fun k l=>l.length=l0.length+k) (fun k l=>⟨[(1,.ptr 0 0),(3,.sl none 1 l.length 0 l.length),(4,O5 i),(5,.ptr 2 0),(6,O5 k)],[.box (some 2) (.pv (some 2) d.pv),.arr none (ints l) false,.box (some 4) (.pv (some 4) p.pv),.arr (some 9) [] false]⟩) l0 ⟨rfl,rfl⟩ ?_ ?_
   ·rintro k l hk hll;have hck:(k:Int)<(p.cls.length:Int):=by omega
    have w4:=O0 k (by omega)
    obtain⟨c,hcs⟩:∃c,p.cls[k]? =some c:=⟨_,Zf hk⟩;have hcm:=Zj hcs;obtain⟨z1,z2⟩:=hb.2.2 p hpm c hcm;obtain⟨v,hval⟩:=N9 c.cl z1 z2;simp only[Cz.av] at hval;by_cases c1:c.id<1
    ·simp -dsimp -implicitDefEqProofs only[go_sem,seval,hck,w4,yd,Sto.pvs_len,Yc (Sto.pvs_get hcs),YT,c1,z7 (Ze _)];exact⟨_,rfl⟩
    by_cases c2:d.next<=c.id
    ·simp -dsimp -implicitDefEqProofs only[go_sem,seval,hck,w4,yd,Sto.pvs_len,Yc (Sto.pvs_get hcs),YT,c1,c2,YH,z7 (Ze _)];exact⟨_,rfl⟩
    cases v with
    |false=>
     simp -dsimp -implicitDefEqProofs only[go_sem,seval,hck,w4,yd,Sto.pvs_len,Yc (Sto.pvs_get hcs),YT,yJ,c1,c2,hval,YH,z7 (Ze _)];exact⟨_,rfl⟩
    |true=>
    by_cases c4:c.cl.head.name=p.name
    rotate_left
    ·have c4':=Zp c4;simp -dsimp -implicitDefEqProofs only[go_sem,seval,hck,w4,yd,YP,Sto.pvs_len,Yc (Sto.pvs_get hcs),YT,yJ,yZ,c1,c2,c4',hval,YH,z7 (Ze _)];exact⟨_,rfl⟩
    have c4':=Zn c4;by_cases c5:(c.cl.head.args.length:Int)=p.ar
    rotate_left
    ·have c5':=Zp c5;simp -dsimp -implicitDefEqProofs only[go_sem,seval,hck,w4,yd,YP,YR,Sto.pvs_len,Tm.pvs_len,Yc (Sto.pvs_get hcs),YT,yJ,yZ,Xf,c1,c2,c4',c5',hval,YH,z7 (Ze _)];exact⟨_,rfl⟩
    have c5':=Zn c5;simp -dsimp -implicitDefEqProofs only[go_sem,seval,hck,w4,yd,YP,YR,Sto.pvs_len,Tm.pvs_len,Yc (Sto.pvs_get hcs),YT,yJ,yZ,Xf,c1,c2,c4',c5',hval,YH,z7 (Ze _)];refine Yy (α:=Unit) l.length (fun _ _=>True) (fun j _=>⟨[(1,.ptr 0 0),(3,.sl none 1 l.length 0 l.length),(4,O5 i),(5,.ptr 2 0),(6,O5 k),(7,.ptr 4 0),(8,O5 j)],[.box (some 2) (.pv (some 2) d.pv),.arr none (ints l) false,.box (some 4) (.pv (some 4) p.pv),.arr (some 9) [] false,.box (some 9) (.pv (some 9) c.pv)]⟩) () ⟨trivial,rfl⟩ ?_ ?_
    ·rintro j - hj -;have hcj:(j:Int)<(l.length:Int):=by omega
     have w5:=O0 j (by omega)
     obtain⟨x,hx⟩:∃x,l[j]? =some x:=⟨_,Zf hj⟩;have hia:Yq none [.sl none 1 l.length 0 l.length,O5 j]=some (.eptr none 1 l.length j 0):=by
      have:=qN (sh:=none) (s':=none) (k:=.i64) (r:=1) (v:=l.length) (o:=0) hj;rw[Zv] at this;exact this
     have hld:∀(x0:AObj) (X:Heap),aload none (x0::.arr none (ints l) false::X) (.eptr none 1 l.length j 0)=some (O5 x):=fun x0 X=>by
      simp[aload,yS,qW hx]
     by_cases hxc:x=c.id
     ·have hxc':=Zn hxc;simp -dsimp -implicitDefEqProofs only[go_sem,seval,hcj,w5,hia,hld,YT,hxc'];exact⟨_,rfl⟩
     ·have hxc':=Zp hxc;simp -dsimp -implicitDefEqProofs only[go_sem,seval,hcj,w5,hia,hld,YT,hxc'];exact⟨(),rfl⟩
    ·rintro - -;have hcj:¬(l.length:Int)<(l.length:Int):=by omega
     have hlim:l.length+1<=lim:=by unfold lim;omega
     have hil:(ints l).length=l.length:=yS l;simp -dsimp -implicitDefEqProofs only[go_sem,seval,hcj,w4,YT,hil,hlim,MT];refine⟨l++[c.id],by rw[Zi,hll];rfl,?_⟩;rw[Zi];rfl
   ·rintro l hll;have hck:¬(p.cls.length:Int)<(p.cls.length:Int):=by omega
    simp -dsimp -implicitDefEqProofs only[go_sem,seval,hck,w1,yd,Sto.pvs_len];refine⟨l,?_,rfl⟩;omega
 ·rintro l -;have hcc:¬(d.procs.length:Int)<(d.procs.length:Int):=by omega
  simp -dsimp -implicitDefEqProofs only[go_sem,seval,hcc,YB,Prc.pvs_len];exact⟨_,rfl⟩
def tP(k n:Int)(s:List UInt8)(l:List PV):PV:=.agg [(none,.int .i64 k),(none,.int .i64 n),(none,.str s),(none,.sl (some 4) l)]
theorem fok0:FactsOk (find tab) prim []:=.nil
def fq0:List (Sh × PV):=[((some 2),(.agg [(none,(.int .i64 (1))),(none,(.sl (some 4) []))]))]
def fv0:AV:=(O6 true)
theorem ff0:resV (sem (find tab) prim .fn 23 (pvs fq0) [])=some fv0:=YS (n:=60) fok0 (by kernel_rfl)
def fK1:Facts:=(23,fq0,fv0)::[]
theorem fok1:FactsOk (find tab) prim fK1:=.cons (by kernel_rfl) ff0 fok0
def fq1:List (Sh × PV):=[((some 4),(tP 3 0 [97,115,115,101,114,116,122] [(tP 3 0 [58,45] [(tP 3 0 [112] [(tP 0 0 [] [])]),(tP 3 0 [113] [(tP 0 0 [] []),(tP 0 1 [] [])])])]))]
def fv1:AV:=(.pv (some 4) (tP 3 0 [97,115,115,101,114,116,122] [(tP 3 0 [58,45] [(tP 3 0 [112] [(tP 0 0 [] [])]),(tP 3 0 [113] [(tP 0 0 [] []),(tP 0 1 [] [])])])]))
theorem ff1:resV (sem (find tab) prim .fn 26 (pvs fq1) [])=some fv1:=YS (n:=60) fok1 (by kernel_rfl)
def fK2:Facts:=(26,fq1,fv1)::fK1
theorem fok2:FactsOk (find tab) prim fK2:=.cons (by kernel_rfl) ff1 fok1
def fq2:List (Sh × PV):=[((some 4),(tP 3 0 [58,45] [(tP 3 0 [112] [(tP 0 0 [] [])]),(tP 3 0 [113] [(tP 0 0 [] []),(tP 0 1 [] [])])]))]
def fv2:AV:=(.tuple [(.pv (some 8) (.agg [((some 4),(tP 3 0 [112] [(tP 0 0 [] [])])),((some 4),(tP 3 0 [113] [(tP 0 0 [] []),(tP 0 1 [] [])]))])),(.pv (some 4) (tP 0 0 [] [])),(O5 (0))])
theorem ff2:resV (sem (find tab) prim .fn 84 (pvs fq2) [])=some fv2:=YS (n:=60) fok2 (by kernel_rfl)
def fK3:Facts:=(84,fq2,fv2)::fK2
theorem fok3:FactsOk (find tab) prim fK3:=.cons (by kernel_rfl) ff2 fok2
def fq3:List (Sh × PV):=[(none,(.str [112])),(none,(.int .i64 (1)))]
def fv3:AV:=(O6 false)
theorem ff3:resV (sem (find tab) prim .fn 13 (pvs fq3) [])=some fv3:=YS (n:=60) fok3 (by kernel_rfl)
def fK4:Facts:=(13,fq3,fv3)::fK3
theorem fok4:FactsOk (find tab) prim fK4:=.cons (by kernel_rfl) ff3 fok3
def fq4:List (Sh × PV):=[((some 2),(.agg [(none,(.int .i64 (1))),(none,(.sl (some 4) []))])),((some 8),(.agg [((some 4),(tP 3 0 [112] [(tP 0 0 [] [])])),((some 4),(tP 3 0 [113] [(tP 0 0 [] []),(tP 0 1 [] [])]))])),(none,(.bool false)),(none,(.bool true))]
def fv4:AV:=(.tuple [(.pv (some 2) (.agg [(none,(.int .i64 (2))),(none,(.sl (some 4) [(.agg [(none,(.str [112])),(none,(.int .i64 (1))),(none,(.bool true)),(none,(.sl (some 9) [(.agg [(none,(.int .i64 (1))),((some 8),(.agg [((some 4),(tP 3 0 [112] [(tP 0 0 [] [])])),((some 4),(tP 3 0 [113] [(tP 0 0 [] []),(tP 0 1 [] [])]))]))])]))])]))])),(O5 (0))])
theorem ff4:resV (sem (find tab) prim .fn 89 (pvs fq4) [])=some fv4:=YS (n:=60) fok4 (by kernel_rfl)
def fK5:Facts:=(89,fq4,fv4)::fK4
theorem fok5:FactsOk (find tab) prim fK5:=.cons (by kernel_rfl) ff4 fok4
def fq5:List (Sh × PV):=[((some 2),(.agg [(none,(.int .i64 (2))),(none,(.sl (some 4) [(.agg [(none,(.str [112])),(none,(.int .i64 (1))),(none,(.bool true)),(none,(.sl (some 9) [(.agg [(none,(.int .i64 (1))),((some 8),(.agg [((some 4),(tP 3 0 [112] [(tP 0 0 [] [])])),((some 4),(tP 3 0 [113] [(tP 0 0 [] []),(tP 0 1 [] [])]))]))])]))])]))]))]
def fv5:AV:=(.pv (some 2) (.agg [(none,(.int .i64 (2))),(none,(.sl (some 4) [(.agg [(none,(.str [112])),(none,(.int .i64 (1))),(none,(.bool true)),(none,(.sl (some 9) [(.agg [(none,(.int .i64 (1))),((some 8),(.agg [((some 4),(tP 3 0 [112] [(tP 0 0 [] [])])),((some 4),(tP 3 0 [113] [(tP 0 0 [] []),(tP 0 1 [] [])]))]))])]))])]))]))
theorem ff5:resV (sem (find tab) prim .fn 30 (pvs fq5) [])=some fv5:=YS (n:=60) fok5 (by kernel_rfl)
def fK6:Facts:=(30,fq5,fv5)::fK5
theorem fok6:FactsOk (find tab) prim fK6:=.cons (by kernel_rfl) ff5 fok5
def fq6:List (Sh × PV):=[((some 2),(.agg [(none,(.int .i64 (1))),(none,(.sl (some 4) []))])),((some 4),(tP 3 0 [97,115,115,101,114,116,122] [(tP 3 0 [58,45] [(tP 3 0 [112] [(tP 0 0 [] [])]),(tP 3 0 [113] [(tP 0 0 [] []),(tP 0 1 [] [])])])])),(none,(.sl (some 4) [(tP 3 0 [97,115,115,101,114,116,122] [(tP 3 0 [58,45] [(tP 3 0 [112] [(tP 0 0 [] [])]),(tP 3 0 [113] [(tP 0 0 [] []),(tP 0 1 [] [])])])])]))]
def fv6:AV:=(.tuple [(.pv (some 2) (.agg [(none,(.int .i64 (2))),(none,(.sl (some 4) [(.agg [(none,(.str [112])),(none,(.int .i64 (1))),(none,(.bool true)),(none,(.sl (some 9) [(.agg [(none,(.int .i64 (1))),((some 8),(.agg [((some 4),(tP 3 0 [112] [(tP 0 0 [] [])])),((some 4),(tP 3 0 [113] [(tP 0 0 [] []),(tP 0 1 [] [])]))]))])]))])]))])),(O6 true)])
theorem ff6:resV (sem (find tab) prim .fn 20 (pvs fq6) [])=some fv6:=YS (n:=60) fok6 (by kernel_rfl)
def fK7:Facts:=(20,fq6,fv6)::fK6
theorem fok7:FactsOk (find tab) prim fK7:=.cons (by kernel_rfl) ff6 fok6
def fq7:List (Sh × PV):=[]
def fv7:AV:=(.tuple [(.pv (some 2) (.agg [(none,(.int .i64 (2))),(none,(.sl (some 4) [(.agg [(none,(.str [112])),(none,(.int .i64 (1))),(none,(.bool true)),(none,(.sl (some 9) [(.agg [(none,(.int .i64 (1))),((some 8),(.agg [((some 4),(tP 3 0 [112] [(tP 0 0 [] [])])),((some 4),(tP 3 0 [113] [(tP 0 0 [] []),(tP 0 1 [] [])]))]))])]))])]))])),(O6 true)])
theorem ff7:resV (sem (find tab) prim .fn 19 (pvs fq7) [])=some fv7:=YS (n:=60) fok7 (by kernel_rfl)
def fK8:Facts:=(19,fq7,fv7)::fK7
theorem fok8:FactsOk (find tab) prim fK8:=.cons (by kernel_rfl) ff7 fok7
def fq8:List (Sh × PV):=[((some 2),(.agg [(none,(.int .i64 (2))),(none,(.sl (some 4) [(.agg [(none,(.str [112])),(none,(.int .i64 (1))),(none,(.bool true)),(none,(.sl (some 9) [(.agg [(none,(.int .i64 (1))),((some 8),(.agg [((some 4),(tP 3 0 [112] [(tP 0 0 [] [])])),((some 4),(tP 3 0 [113] [(tP 0 0 [] []),(tP 0 1 [] [])]))]))])]))])]))]))]
def fv8:AV:=(O6 true)
theorem ff8:resV (sem (find tab) prim .fn 23 (pvs fq8) [])=some fv8:=YS (n:=60) fok8 (by kernel_rfl)
def fK9:Facts:=(23,fq8,fv8)::fK8
theorem fok9:FactsOk (find tab) prim fK9:=.cons (by kernel_rfl) ff8 fok8
def fq9:List (Sh × PV):=[((some 4),(tP 3 0 [99,108,97,117,115,101] [(tP 3 0 [112] [(tP 2 0 [97] [])]),(tP 0 0 [] [])]))]
def fv9:AV:=(.pv (some 4) (tP 3 0 [99,108,97,117,115,101] [(tP 3 0 [112] [(tP 2 0 [97] [])]),(tP 0 0 [] [])]))
theorem ff9:resV (sem (find tab) prim .fn 26 (pvs fq9) [])=some fv9:=YS (n:=60) fok9 (by kernel_rfl)
def fK10:Facts:=(26,fq9,fv9)::fK9
theorem gX:FactsOk (find tab) prim fK10:=.cons (by kernel_rfl) ff9 fok9
def fq10:List (Sh × PV):=[(none,(.sl (some 5) [])),((some 4),(tP 3 0 [99,108,97,117,115,101] [(tP 3 0 [112] [(tP 2 0 [97] [])]),(tP 0 0 [] [])])),((some 4),(tP 3 0 [99,108,97,117,115,101] [(tP 3 0 [112] [(tP 0 1 [] [])]),(tP 3 0 [113] [(tP 0 1 [] []),(tP 0 2 [] [])])]))]
def fv10:AV:=(.tuple [(.pv none (.sl (some 5) [(.agg [(none,(.int .i64 (0))),((some 4),(tP 3 0 [113] [(tP 0 1 [] []),(tP 0 2 [] [])]))]),(.agg [(none,(.int .i64 (1))),((some 4),(tP 2 0 [97] []))])])),(O5 (0))])
theorem ff10:resV (sem (find tab) prim .fn 103 (pvs fq10) [])=some fv10:=YS (n:=60) gX (by kernel_rfl)
def fK11:Facts:=(103,fq10,fv10)::fK10
theorem gY:FactsOk (find tab) prim fK11:=.cons (by kernel_rfl) ff10 gX
def fq11:List (Sh × PV):=[((some 2),(.agg [(none,(.int .i64 (2))),(none,(.sl (some 4) [(.agg [(none,(.str [112])),(none,(.int .i64 (1))),(none,(.bool true)),(none,(.sl (some 9) [(.agg [(none,(.int .i64 (1))),((some 8),(.agg [((some 4),(tP 3 0 [112] [(tP 0 0 [] [])])),((some 4),(tP 3 0 [113] [(tP 0 0 [] []),(tP 0 1 [] [])]))]))])]))])]))])),((some 4),(tP 3 0 [99,108,97,117,115,101] [(tP 3 0 [112] [(tP 2 0 [97] [])]),(tP 0 0 [] [])])),(none,(.sl (some 4) [(tP 3 0 [99,108,97,117,115,101] [(tP 3 0 [112] [(tP 0 1 [] [])]),(tP 3 0 [113] [(tP 0 1 [] []),(tP 0 2 [] [])])])]))]
def fv11:AV:=(.tuple [(.pv (some 2) (.agg [(none,(.int .i64 (2))),(none,(.sl (some 4) [(.agg [(none,(.str [112])),(none,(.int .i64 (1))),(none,(.bool true)),(none,(.sl (some 9) [(.agg [(none,(.int .i64 (1))),((some 8),(.agg [((some 4),(tP 3 0 [112] [(tP 0 0 [] [])])),((some 4),(tP 3 0 [113] [(tP 0 0 [] []),(tP 0 1 [] [])]))]))])]))])]))])),(O6 true)])
theorem ff11:resV (sem (find tab) prim .fn 20 (pvs fq11) [])=some fv11:=YS (n:=60) gY (by kernel_rfl)
def fK12:Facts:=(20,fq11,fv11)::fK11
theorem gZ:FactsOk (find tab) prim fK12:=.cons (by kernel_rfl) ff11 gY
def fq12:List (Sh × PV):=[((some 4),(tP 3 0 [36,99,108,97,117,115,101] [(tP 3 0 [112] [(tP 0 0 [] [])]),(tP 0 1 [] []),(tP 0 2 [] [])]))]
def fv12:AV:=(.pv (some 4) (tP 3 0 [36,99,108,97,117,115,101] [(tP 3 0 [112] [(tP 0 0 [] [])]),(tP 0 1 [] []),(tP 0 2 [] [])]))
theorem ff12:resV (sem (find tab) prim .fn 26 (pvs fq12) [])=some fv12:=YS (n:=60) gZ (by kernel_rfl)
def fK13:Facts:=(26,fq12,fv12)::fK12
theorem Ba:FactsOk (find tab) prim fK13:=.cons (by kernel_rfl) ff12 gZ
def fq13:List (Sh × PV):=[(none,(.sl (some 5) [])),((some 4),(tP 3 0 [36,99,108,97,117,115,101] [(tP 3 0 [112] [(tP 0 0 [] [])]),(tP 0 1 [] []),(tP 0 2 [] [])])),((some 4),(tP 3 0 [36,99,108,97,117,115,101] [(tP 3 0 [112] [(tP 0 3 [] [])]),(tP 3 0 [113] [(tP 0 3 [] []),(tP 0 4 [] [])]),(tP 1 1 [] [])]))]
def fv13:AV:=(.tuple [(.pv none (.sl (some 5) [(.agg [(none,(.int .i64 (1))),((some 4),(tP 3 0 [113] [(tP 0 3 [] []),(tP 0 4 [] [])]))]),(.agg [(none,(.int .i64 (2))),((some 4),(tP 1 1 [] []))]),(.agg [(none,(.int .i64 (3))),((some 4),(tP 0 0 [] []))])])),(O5 (0))])
theorem ff13:resV (sem (find tab) prim .fn 103 (pvs fq13) [])=some fv13:=YS (n:=60) Ba (by kernel_rfl)
def fK14:Facts:=(103,fq13,fv13)::fK13
theorem Bb:FactsOk (find tab) prim fK14:=.cons (by kernel_rfl) ff13 Ba
def fq14:List (Sh × PV):=[((some 2),(.agg [(none,(.int .i64 (2))),(none,(.sl (some 4) [(.agg [(none,(.str [112])),(none,(.int .i64 (1))),(none,(.bool true)),(none,(.sl (some 9) [(.agg [(none,(.int .i64 (1))),((some 8),(.agg [((some 4),(tP 3 0 [112] [(tP 0 0 [] [])])),((some 4),(tP 3 0 [113] [(tP 0 0 [] []),(tP 0 1 [] [])]))]))])]))])]))])),((some 4),(tP 3 0 [36,99,108,97,117,115,101] [(tP 3 0 [112] [(tP 0 0 [] [])]),(tP 0 1 [] []),(tP 0 2 [] [])])),(none,(.sl (some 4) [(tP 3 0 [36,99,108,97,117,115,101] [(tP 3 0 [112] [(tP 0 3 [] [])]),(tP 3 0 [113] [(tP 0 3 [] []),(tP 0 4 [] [])]),(tP 1 1 [] [])])]))]
def fv14:AV:=(.tuple [(.pv (some 2) (.agg [(none,(.int .i64 (2))),(none,(.sl (some 4) [(.agg [(none,(.str [112])),(none,(.int .i64 (1))),(none,(.bool true)),(none,(.sl (some 9) [(.agg [(none,(.int .i64 (1))),((some 8),(.agg [((some 4),(tP 3 0 [112] [(tP 0 0 [] [])])),((some 4),(tP 3 0 [113] [(tP 0 0 [] []),(tP 0 1 [] [])]))]))])]))])]))])),(O6 true)])
theorem ff14:resV (sem (find tab) prim .fn 20 (pvs fq14) [])=some fv14:=YS (n:=60) Bb (by kernel_rfl)
def fK15:Facts:=(20,fq14,fv14)::fK14
theorem Bc:FactsOk (find tab) prim fK15:=.cons (by kernel_rfl) ff14 Bb
def fq15:List (Sh × PV):=[((some 4),(tP 3 0 [36,101,114,97,115,101] [(tP 1 1 [] [])]))]
def fv15:AV:=(.pv (some 4) (tP 3 0 [36,101,114,97,115,101] [(tP 1 1 [] [])]))
theorem ff15:resV (sem (find tab) prim .fn 26 (pvs fq15) [])=some fv15:=YS (n:=60) Bc (by kernel_rfl)
def fK16:Facts:=(26,fq15,fv15)::fK15
theorem Bd:FactsOk (find tab) prim fK16:=.cons (by kernel_rfl) ff15 Bc
def fq16:List (Sh × PV):=[((some 2),(.agg [(none,(.int .i64 (2))),(none,(.sl (some 4) [(.agg [(none,(.str [112])),(none,(.int .i64 (1))),(none,(.bool true)),(none,(.sl (some 9) [(.agg [(none,(.int .i64 (1))),((some 8),(.agg [((some 4),(tP 3 0 [112] [(tP 0 0 [] [])])),((some 4),(tP 3 0 [113] [(tP 0 0 [] []),(tP 0 1 [] [])]))]))])]))])]))])),(none,(.int .i64 (1)))]
def fv16:AV:=(.tuple [(.pv (some 2) (.agg [(none,(.int .i64 (2))),(none,(.sl (some 4) [(.agg [(none,(.str [112])),(none,(.int .i64 (1))),(none,(.bool true)),(none,(.sl (some 9) []))])]))])),(O6 true)])
theorem ff16:resV (sem (find tab) prim .fn 105 (pvs fq16) [])=some fv16:=YS (n:=60) Bd (by kernel_rfl)
def fK17:Facts:=(105,fq16,fv16)::fK16
theorem Be:FactsOk (find tab) prim fK17:=.cons (by kernel_rfl) ff16 Bd
def fq17:List (Sh × PV):=[((some 2),(.agg [(none,(.int .i64 (2))),(none,(.sl (some 4) [(.agg [(none,(.str [112])),(none,(.int .i64 (1))),(none,(.bool true)),(none,(.sl (some 9) []))])]))]))]
def fv17:AV:=(.pv (some 2) (.agg [(none,(.int .i64 (2))),(none,(.sl (some 4) [(.agg [(none,(.str [112])),(none,(.int .i64 (1))),(none,(.bool true)),(none,(.sl (some 9) []))])]))]))
theorem ff17:resV (sem (find tab) prim .fn 30 (pvs fq17) [])=some fv17:=YS (n:=60) Be (by kernel_rfl)
def fK18:Facts:=(30,fq17,fv17)::fK17
theorem Bf:FactsOk (find tab) prim fK18:=.cons (by kernel_rfl) ff17 Be
def fq18:List (Sh × PV):=[((some 2),(.agg [(none,(.int .i64 (2))),(none,(.sl (some 4) [(.agg [(none,(.str [112])),(none,(.int .i64 (1))),(none,(.bool true)),(none,(.sl (some 9) [(.agg [(none,(.int .i64 (1))),((some 8),(.agg [((some 4),(tP 3 0 [112] [(tP 0 0 [] [])])),((some 4),(tP 3 0 [113] [(tP 0 0 [] []),(tP 0 1 [] [])]))]))])]))])]))])),((some 4),(tP 3 0 [36,101,114,97,115,101] [(tP 1 1 [] [])])),(none,(.sl (some 4) [(tP 3 0 [36,101,114,97,115,101] [(tP 1 1 [] [])])]))]
def fv18:AV:=(.tuple [(.pv (some 2) (.agg [(none,(.int .i64 (2))),(none,(.sl (some 4) [(.agg [(none,(.str [112])),(none,(.int .i64 (1))),(none,(.bool true)),(none,(.sl (some 9) []))])]))])),(O6 true)])
theorem ff18:resV (sem (find tab) prim .fn 20 (pvs fq18) [])=some fv18:=YS (n:=60) Bf (by kernel_rfl)
def fK19:Facts:=(20,fq18,fv18)::fK18
theorem Bg:FactsOk (find tab) prim fK19:=.cons (by kernel_rfl) ff18 Bf
def fq19:List (Sh × PV):=[((some 2),(.agg [(none,(.int .i64 (2))),(none,(.sl (some 4) [(.agg [(none,(.str [112])),(none,(.int .i64 (1))),(none,(.bool true)),(none,(.sl (some 9) []))])]))]))]
def fv19:AV:=(O6 true)
theorem ff19:resV (sem (find tab) prim .fn 23 (pvs fq19) [])=some fv19:=YS (n:=60) Bg (by kernel_rfl)
def fK20:Facts:=(23,fq19,fv19)::fK19
theorem Bh:FactsOk (find tab) prim fK20:=.cons (by kernel_rfl) ff19 Bg
def fq20:List (Sh × PV):=[((some 2),(.agg [(none,(.int .i64 (2))),(none,(.sl (some 4) [(.agg [(none,(.str [112])),(none,(.int .i64 (1))),(none,(.bool true)),(none,(.sl (some 9) []))])]))])),(none,(.int .i64 (1)))]
def fv20:AV:=(.tuple [(.pv (some 2) (.agg [(none,(.int .i64 (0))),(none,(.sl (some 4) []))])),(O6 false)])
theorem ff20:resV (sem (find tab) prim .fn 105 (pvs fq20) [])=some fv20:=YS (n:=60) Bh (by kernel_rfl)
def fK21:Facts:=(105,fq20,fv20)::fK20
theorem Bi:FactsOk (find tab) prim fK21:=.cons (by kernel_rfl) ff20 Bh
def fq21:List (Sh × PV):=[((some 2),(.agg [(none,(.int .i64 (2))),(none,(.sl (some 4) [(.agg [(none,(.str [112])),(none,(.int .i64 (1))),(none,(.bool true)),(none,(.sl (some 9) []))])]))])),((some 4),(tP 3 0 [36,101,114,97,115,101] [(tP 1 1 [] [])])),(none,(.sl (some 4) []))]
def fv21:AV:=(.tuple [(.pv (some 2) (.agg [(none,(.int .i64 (2))),(none,(.sl (some 4) [(.agg [(none,(.str [112])),(none,(.int .i64 (1))),(none,(.bool true)),(none,(.sl (some 9) []))])]))])),(O6 true)])
theorem ff21:resV (sem (find tab) prim .fn 20 (pvs fq21) [])=some fv21:=YS (n:=60) Bi (by kernel_rfl)
def fK22:Facts:=(20,fq21,fv21)::fK21
theorem Bj:FactsOk (find tab) prim fK22:=.cons (by kernel_rfl) ff21 Bi
def fq22:List (Sh × PV):=[((some 4),(tP 3 0 [97,115,115,101,114,116,122] [(tP 3 0 [97,116,111,109] [(tP 2 0 [97] [])])]))]
def fv22:AV:=(.pv (some 4) (tP 3 0 [97,115,115,101,114,116,122] [(tP 3 0 [97,116,111,109] [(tP 2 0 [97] [])])]))
theorem ff22:resV (sem (find tab) prim .fn 26 (pvs fq22) [])=some fv22:=YS (n:=60) Bj (by kernel_rfl)
def fK23:Facts:=(26,fq22,fv22)::fK22
theorem Bk:FactsOk (find tab) prim fK23:=.cons (by kernel_rfl) ff22 Bj
def fq23:List (Sh × PV):=[((some 4),(tP 3 0 [97,116,111,109] [(tP 2 0 [97] [])]))]
def fv23:AV:=(.tuple [(.pv (some 8) (.agg [((some 4),(tP 3 0 [97,116,111,109] [(tP 2 0 [97] [])])),((some 4),(tP 2 0 [116,114,117,101] []))])),(.pv (some 4) (tP 0 0 [] [])),(O5 (0))])
theorem ff23:resV (sem (find tab) prim .fn 84 (pvs fq23) [])=some fv23:=YS (n:=60) Bk (by kernel_rfl)
def fK24:Facts:=(84,fq23,fv23)::fK23
theorem Bl:FactsOk (find tab) prim fK24:=.cons (by kernel_rfl) ff23 Bk
def fq24:List (Sh × PV):=[(none,(.str [97,116,111,109])),(none,(.int .i64 (1)))]
def fv24:AV:=(O6 true)
theorem ff24:resV (sem (find tab) prim .fn 13 (pvs fq24) [])=some fv24:=YS (n:=60) Bl (by kernel_rfl)
def fK25:Facts:=(13,fq24,fv24)::fK24
theorem Bm:FactsOk (find tab) prim fK25:=.cons (by kernel_rfl) ff24 Bl
def fq25:List (Sh × PV):=[((some 2),(.agg [(none,(.int .i64 (2))),(none,(.sl (some 4) [(.agg [(none,(.str [112])),(none,(.int .i64 (1))),(none,(.bool true)),(none,(.sl (some 9) [(.agg [(none,(.int .i64 (1))),((some 8),(.agg [((some 4),(tP 3 0 [112] [(tP 0 0 [] [])])),((some 4),(tP 3 0 [113] [(tP 0 0 [] []),(tP 0 1 [] [])]))]))])]))])]))])),((some 4),(tP 3 0 [97,115,115,101,114,116,122] [(tP 3 0 [97,116,111,109] [(tP 2 0 [97] [])])])),((some 4),(tP 3 0 [112,101,114,109,105,115,115,105,111,110,95,101,114,114,111,114] [(tP 2 0 [109,111,100,105,102,121] []),(tP 2 0 [115,116,97,116,105,99,95,112,114,111,99,101,100,117,114,101] []),(tP 3 0 [47] [(tP 2 0 [97,116,111,109] []),(tP 1 1 [] [])])]))]
def fv25:AV:=(O6 true)
theorem ff25:resV (sem (find tab) prim .fn 22 (pvs fq25) [])=some fv25:=YS (n:=60) Bm (by kernel_rfl)
def fK26:Facts:=(22,fq25,fv25)::fK25
theorem Bn:FactsOk (find tab) prim fK26:=.cons (by kernel_rfl) ff25 Bm
def fq26:List (Sh × PV):=[(none,(.str [105,115])),(none,(.int .i64 (2)))]
def fv26:AV:=(O6 true)
theorem ff26:resV (sem (find tab) prim .fn 13 (pvs fq26) [])=some fv26:=YS (n:=60) Bn (by kernel_rfl)
def fK27:Facts:=(13,fq26,fv26)::fK26
theorem nc:FactsOk (find tab) prim fK27:=.cons (by kernel_rfl) ff26 Bn
theorem run5:kK (Xi fK27 (find tab) prim 60 .fn 5 [] [])=true:=by kernel_rfl
theorem sem5:sem (find tab) prim .fn 5 [] []=some (.ret (O6 true),[]):=jg nc 60 _ _ _ _ _ (My run5)
def i8s(l:List Int):List PV:=l.map (.int .i8)
theorem jH(l:List Int):(i8s l).length=l.length:=by simp[i8s]
theorem Bo{l:List Int}{i:Nat}{k:Int}(h:l[i]? =some k):(i8s l)[i]? =some (.int .i8 k):=by simp[i8s,h]
def skL(ns:List (List UInt8))(rs:List Int):List (List UInt8 × Int):=(ns.zip rs).take 20
theorem Bp(ns:List (List UInt8))(rs:List Int):(skL ns rs).length=min 20 (min ns.length rs.length):=by simp[skL]
theorem Br{ns:List (List UInt8)}{rs:List Int}{i:Nat}{s:List UInt8}{k:Int}(h:i<(skL ns rs).length)(h1:ns[i]? =some s)(h2:rs[i]? =some k):(skL ns rs)[i]? =some (s,k):=by
 rw[Bp] at h;unfold skL;rw[ZN,Zd (by omega),List.getElem?_zip_eq_some];exact⟨h1,h2⟩
theorem jI{sh:Sh}{v old:AV}{H:Heap}{k:Nat}(h1:v.plain=true)(h2:v.shp=sh)(h3:∀H,v.own H=(v,H))(h:H[k]? =some (.box sh old)):Yb sh 0 H [.ptr k 0,v]=some (.undef,H.set k (.box sh v)):=by
 simp[Yb,astore,h,h1,h2,h3]
theorem jJ{mv:AV}{m:Dbs}(h:MvI mv m):mv.plain=true/\mv.shp=some 2/\∀H,mv.own H=(mv,H):=by
 rcases h with rfl|⟨rfl,rfl⟩
 ·exact⟨rfl,rfl,fun _=>rfl⟩
 ·exact⟨rfl,rfl,fun _=>rfl⟩
theorem Bs{bv:AV}{b:Tm}{n:Nat}{E:Heap}(h:BvI bv b n E):bv.plain=true/\bv.shp=some 4/\∀H,bv.own H=(bv,H):=by
 rcases h with rfl|⟨rfl,j,z,rfl,-⟩
 ·exact⟨rfl,rfl,fun _=>rfl⟩
 ·exact⟨rfl,rfl,fun _=>rfl⟩
theorem Bt{mv:AV}{m:Dbs}(h:MvI mv m)(H:Heap):AV.freeze deep mv H=some (m.pv,H):=by
 rcases h with rfl|⟨rfl,rfl⟩
 ·rfl
 ·rfl
theorem nf{mv wv:AV}{m:Dbs}(h1:MvI mv m)(h2:MvI wv m)(hs:sfD m)(H:Heap):S 10 [mv,wv] H=some (.ret (O6 true),H):=by
 have hz:Yp [mv,wv] H=some ([(some 2,m.pv),(some 2,m.pv)],H):=by simp[Yp,Bt h1,Bt h2,(jJ h1).2.1,(jJ h2).2.1]
 exact XF (F:=find tab) (prim:=prim) (f:=10) (args:=[mv,wv]) (hp:=H) (hp1:=H) rfl rfl rfl hz (NR m hs [])
theorem Bu(p:Prc):AObj.beq (.box (some 4) (.pv (some 4) p.pv)) (.box (some 4) (.pv (some 4) p.pv))=true:=by
 have h:=VI (l:=[p]);have h':(PV.beq p.pv p.pv && true)=true:=h;rw[Bool.and_true] at h';simp[AObj.beq,AV.beq,h']
theorem ng(hp:Heap):S 5 [] hp=some (.ret (O6 true),hp):=by
 have h:=XF (hp:=hp) (args:=[]) (ps:=[]) (hp1:=hp) (f:=5) rfl rfl rfl rfl sem5;exact h
def cmT(ts:List Tm)(N j:Nat):Tm:=if j=0 then Ys ts else comT (ts.drop (N - j))
def frL(ns:List (List UInt8))(rs:List Int)(r:Fr):Fr:=(1,.pv none (.sl none (strs ns)))::(2,.pv none (.sl none (i8s rs)))::(3,.ptr 0 0)::r
set_option maxRecDepth 20000 in
theorem nh(d:Dbs)(hb:BndD d)(ns:List (List UInt8))(rs:List Int)(h8:∀k∈rs,-128<=k/\k<128)(hnl:ns.length<1000000000)(hal:rs.length<1000000000):S 3 [d.av,.pv none (.sl none (strs ns)),.pv none (.sl none (i8s rs))] []=some (.ret (O6 true),[]):=by
 refine yp rfl rfl rfl rfl ?_;obtain⟨rv,hva⟩:=na d hb;have haw:=fun hp=>ng hp;simp only[Dbs.av] at hva;cases rv with
 |false=>
  simp -dsimp -implicitDefEqProofs only[go_sem,seval,Dbs.av,hva,haw];simp[AV.refsIn]
 |true=>
 obtain⟨L,hL⟩:∃L,L=skL ns rs:=⟨_,rfl⟩;obtain⟨N,hN⟩:∃N,N=L.length:=⟨_,rfl⟩;obtain⟨ts,hts⟩:∃ts,ts=L.map inT:=⟨_,rfl⟩;have hNl:N=min 20 (min ns.length rs.length):=by rw[hN,hL,Bp]
 have htl:ts.length=N:=by rw[hts,hN,Z8]
 obtain⟨⟨m,n,b,e⟩,hO,hoo⟩:=both d hb L (by omega);rw[<-hts] at hO;have hn0:=O1;simp -dsimp -implicitDefEqProofs only[go_sem,seval,Dbs.av,hva,hn0];refine qO (Q:=fun e st=>e=.exit 0/\st=⟨frL ns rs [(7,.sl (some 4) 1 N 0 N),(8,O5 N),(43,O6 false)],[.box (some 2) (.pv (some 2) d.pv),.arr (some 4) (Tm.pvs ts) false]⟩) ?_ ?_
 ·refine Yy (α:=Unit) N (fun _ _=>True) (fun i _=>⟨frL ns rs [(7,.sl (some 4) 1 i 0 i),(8,O5 i)],[.box (some 2) (.pv (some 2) d.pv),.arr (some 4) (Tm.pvs (ts.take i)) false]⟩) () ⟨trivial,rfl⟩ ?_ ?_
  ·rintro i - hi -;have c1:(i:Int)<(ns.length:Int):=by omega
   have c2:(i:Int)<(rs.length:Int):=by omega
   have cv:(i:Int)<20:=by omega
   have w1:=O0 i (by omega)
   obtain⟨s,hs⟩:∃s,ns[i]? =some s:=⟨_,Zf (by omega)⟩;obtain⟨k,hk⟩:∃k,rs[i]? =some k:=⟨_,Zf (by omega)⟩;obtain⟨k1,k2⟩:=h8 k (Zj hk);have hti:ts[i]? =some (indT s k):=by
    rw[hts,ZK,hL,Br (by rw[<-hL,<-hN];exact hi) hs hk];rfl
   have w2:IntKind.i64.wrap k=k:=Yh (by omega) (by omega);have h1:=fun hp=>a_ok s hp;have h2:=fun hp=>n_ok k hp;have h3:=fun hp=>Jf [47] [Ye s,intT k] hp;have e3:strT [47] [Ye s,intT k]=indT s k:=rfl;rw[e3] at h3;have hpl:(Tm.pvs (ts.take i)).length=i:=by rw[Tm.pvs_len,Zh];omega
   have hlim:i+1<=lim:=by unfold lim;omega
   have htk:Tm.pvs (ts.take i)++[(indT s k).pv]=Tm.pvs (ts.take (i+1)):=Tm.zyB hti;have hap:∀a:AObj,YK (some 4) [a,.arr (some 4) (Tm.pvs (ts.take i)) false] [.sl (some 4) 1 i 0 i,.tsl (some 4) [(indT s k).pv]]=some (.sl (some 4) 1 (i+1) 0 (i+1),[a,.arr (some 4) (Tm.pvs (ts.take (i+1))) false]):=fun a=>by
    rw[<-htk];simp[YK,aappend,elems,hpl,hlim]
   have hbq:=Jd (some 4) (ts.take i) false;generalize Tm.pvs (ts.take i)=es at*;simp only[Tm.av,Tm.pvs] at h1 h2 h3;unfold frL;simp -dsimp -implicitDefEqProofs only[go_sem,seval,Ja,jH,c1,c2,cv,w1,w2,Yc (jw hs),Yc (Bo hk),h1,h2,h3,hap,Q4,Q5,ZW,Jb,Jc,Xk,hbq];exact⟨(),trivial⟩
  ·rintro - -;rw[show ts.take N=ts from Zu (by omega)];unfold frL;by_cases c1:(N:Int)<(ns.length:Int)
   ·by_cases c2:(N:Int)<(rs.length:Int)
    ·have cv:¬(N:Int)<20:=by omega
     simp -dsimp -implicitDefEqProofs only[go_sem,seval,Ja,jH,c1,c2,cv]
    ·simp -dsimp -implicitDefEqProofs only[go_sem,seval,Ja,jH,c1,c2]
   ·simp -dsimp -implicitDefEqProofs only[go_sem,seval,Ja,jH,c1]
 ·rintro e st ⟨rfl,rfl⟩;unfold frL;have h1:=fun hp=>a_ok [91,93] hp;simp only[Tm.av] at h1;simp -dsimp -implicitDefEqProofs only[go_sem,seval,h1,Yn];have e0:(Ye [91,93]).pv=(Ys (ts.drop (N - 0))).pv:=by
   rw[show ts.drop (N - 0)=[] from Z3 (by omega)];rfl
  have hw1:IntKind.i64.wrap ((N:Int) - 1)=(N:Int) - 1:=Yh (by omega) (by omega);rw[hw1];refine qO (Q:=fun e st=>e=.exit 2/\st=⟨frL ns rs [(7,.sl (some 4) 1 N 0 N),(9,.ptr 2 0),(10,O5 ((N:Int) - 1 - (N:Nat))),(67,O6 false)],[.box (some 2) (.pv (some 2) d.pv),.arr (some 4) (Tm.pvs ts) false,.box (some 4) (.pv (some 4) (Ys ts).pv),.arr (some 4) [] false]⟩) ?_ ?_
  ·refine Yy (α:=Unit) N (fun _ _=>True) (fun j _=>⟨frL ns rs [(7,.sl (some 4) 1 N 0 N),(9,.ptr 2 0),(10,O5 ((N:Int) - 1 - (j:Nat)))],[.box (some 2) (.pv (some 2) d.pv),.arr (some 4) (Tm.pvs ts) false,.box (some 4) (.pv (some 4) (Ys (ts.drop (N - j))).pv),.arr (some 4) [] false]⟩) () ⟨trivial,by rw[<-e0];simp[frL];rfl⟩ ?_ ?_
   ·rintro j - hj -;have c1:((N:Int) - 1 - (j:Nat)) ≥ 0:=by omega
    have w1:IntKind.i64.wrap ((N:Int) - 1 - (j:Nat) - 1)=(N:Int) - 1 - (j+1:Nat):=by rw[Yh (by omega) (by omega)];omega
    obtain⟨u,hu⟩:∃u,ts[N - 1 - j]? =some u:=⟨_,Zf (by omega)⟩;have hdr:ts.drop (N - (j+1))=u::ts.drop (N - j):=by
     have e:N - (j+1)=N - 1 - j:=by omega
     have e2:N - 1 - j+1=N - j:=by omega
     rw[e,zC (by omega),e2,(Zb.1 hu).2]
    have hia:Yq (some 4) [.sl (some 4) 1 N 0 N,O5 ((N:Int) - 1 - (j:Nat))]=some (.eptr (some 4) 1 N (0+(N - 1 - j)) 0):=by
     rw[show(N:Int) - 1 - (j:Nat)=((N - 1 - j:Nat):Int) by omega];exact qN (by omega)
    rw[Zv] at hia;have hld:∀(a:AObj) (Z:Heap),aload (some 4) (a::.arr (some 4) (Tm.pvs ts) false::Z) (.eptr (some 4) 1 N (N - 1 - j) 0)=some (.pv (some 4) u.pv):=fun a Z=>by
     simp[aload,Tm.pvs_get hu,Tm.pvs_len,htl]
    have h3:=fun hp=>Jf [46] [u,Ys (ts.drop (N - j))] hp;have e3:strT [46] [u,Ys (ts.drop (N - j))]=Ys (ts.drop (N - (j+1))):=by rw[hdr];rfl
    rw[e3] at h3;generalize Ys (ts.drop (N - j))=A at*;generalize Ys (ts.drop (N - (j+1)))=B at*;simp only[Tm.av,Tm.pvs] at h3;unfold frL;simp -dsimp -implicitDefEqProofs only[go_sem,seval,c1,w1,hia,hld,h3];exact⟨(),congrArg (St.mk _) (Qp (n:=4) rfl)⟩
   ·rintro - -;have c1:¬((N:Int) - 1 - (N:Nat)) ≥ 0:=by omega
    rw[show ts.drop (N - N)=ts by simp];unfold frL;simp -dsimp -implicitDefEqProofs only[go_sem,seval,c1]
  ·rintro e st ⟨rfl,rfl⟩;unfold frL;simp -dsimp -implicitDefEqProofs only[go_sem,seval,hw1,Yn];refine qO (Q:=fun e st=>e=.exit 4/\st=⟨frL ns rs [(7,.sl (some 4) 1 N 0 N),(9,.ptr 2 0),(11,.ptr 4 0),(12,O5 ((N:Int) - 1 - (N:Nat))),(82,O6 false)],[.box (some 2) (.pv (some 2) d.pv),.arr (some 4) (Tm.pvs ts) false,.box (some 4) (.pv (some 4) (Ys ts).pv),.arr (some 4) [] false,.box (some 4) (.pv (some 4) (comT ts).pv),.arr (some 4) [] false]⟩) ?_ ?_
   ·refine Yy (α:=Unit) N (fun _ _=>True) (fun j _=>⟨frL ns rs [(7,.sl (some 4) 1 N 0 N),(9,.ptr 2 0),(11,.ptr 4 0),(12,O5 ((N:Int) - 1 - (j:Nat)))],[.box (some 2) (.pv (some 2) d.pv),.arr (some 4) (Tm.pvs ts) false,.box (some 4) (.pv (some 4) (Ys ts).pv),.arr (some 4) [] false,.box (some 4) (.pv (some 4) (cmT ts N j).pv),.arr (some 4) [] false]⟩) () ⟨trivial,by simp[frL,cmT];rfl⟩ ?_ ?_
    ·rintro j - hj -;have c1:((N:Int) - 1 - (j:Nat)) ≥ 0:=by omega
     have w1:IntKind.i64.wrap ((N:Int) - 1 - (j:Nat) - 1)=(N:Int) - 1 - (j+1:Nat):=by rw[Yh (by omega) (by omega)];omega
     obtain⟨u,hu⟩:∃u,ts[N - 1 - j]? =some u:=⟨_,Zf (by omega)⟩;have hdr:ts.drop (N - (j+1))=u::ts.drop (N - j):=by
      have e:N - (j+1)=N - 1 - j:=by omega
      have e2:N - 1 - j+1=N - j:=by omega
      rw[e,zC (by omega),e2,(Zb.1 hu).2]
     have hia:Yq (some 4) [.sl (some 4) 1 N 0 N,O5 ((N:Int) - 1 - (j:Nat))]=some (.eptr (some 4) 1 N (0+(N - 1 - j)) 0):=by
      rw[show(N:Int) - 1 - (j:Nat)=((N - 1 - j:Nat):Int) by omega];exact qN (by omega)
     rw[Zv] at hia;have hld:∀(a:AObj) (Z:Heap),aload (some 4) (a::.arr (some 4) (Tm.pvs ts) false::Z) (.eptr (some 4) 1 N (N - 1 - j) 0)=some (.pv (some 4) u.pv):=fun a Z=>by
      simp[aload,Tm.pvs_get hu,Tm.pvs_len,htl]
     by_cases hj0:j=0
     ·have c2:((N:Int) - 1 - (j:Nat)=(N:Int) - 1)=True:=Zn (by omega);have e3:cmT ts N (j+1)=u:=by
       unfold cmT;rw[Za (by omega),hdr,hj0,show ts.drop (N - 0)=[] from Z3 (by omega)];rfl
      rw[e3];generalize cmT ts N j=A;unfold frL;simp -dsimp -implicitDefEqProofs only[go_sem,seval,c1,c2,hw1,w1,hia,hld];exact⟨(),congrArg (St.mk _) (Qp (n:=6) rfl)⟩
     ·have c2:((N:Int) - 1 - (j:Nat)=(N:Int) - 1)=False:=Zp (by omega);have h3:=fun hp=>Jf [44] [u,cmT ts N j] hp;have e3:strT [44] [u,cmT ts N j]=cmT ts N (j+1):=by
       unfold cmT;rw[Za hj0,Za (by omega),hdr];have hne:ts.drop (N - j)≠[]:=fun e=>by
        have:=congrArg List.length e;rw[ZA] at this;simp at this;omega
       match ts.drop (N - j),hne with
       |y::r,_=>rfl
      rw[e3] at h3;generalize cmT ts N j=A at*;generalize cmT ts N (j+1)=B at*;simp only[Tm.av,Tm.pvs] at h3;unfold frL;simp -dsimp -implicitDefEqProofs only[go_sem,seval,c1,c2,hw1,w1,hia,hld,h3];exact⟨(),congrArg (St.mk _) (Qp (n:=6) rfl)⟩
    ·rintro - -;have c1:¬((N:Int) - 1 - (N:Nat)) ≥ 0:=by omega
     have e3:cmT ts N N=comT ts:=by
      unfold cmT;by_cases h0:N=0
      ·have hts0:ts=[]:=zf (by omega);rw[Zd h0,hts0];rfl
      ·rw[Za h0,zy,Z5]
     rw[e3];unfold frL;simp -dsimp -implicitDefEqProofs only[go_sem,seval,c1]
   ·rintro e st ⟨rfl,rfl⟩;unfold frL;simp -dsimp -implicitDefEqProofs only[go_sem,seval];obtain⟨K,hK⟩:∃K:Heap,K=[.box (some 2) (.pv (some 2) d.pv),.arr (some 4) (Tm.pvs ts) false,.box (some 4) (.pv (some 4) (Ys ts).pv),.arr (some 4) [] false,.box (some 4) (.pv (some 4) (comT ts).pv),.arr (some 4) [] false]:=⟨_,rfl⟩;rw[<-hK];have hbK:Bq K:=by
     rw[hK];intro o ho;simp only[Zl,zj,or_false] at ho;rcases ho with rfl|rfl|rfl|rfl|rfl|rfl
     ·exact Xk d
     ·exact Jd _ _ _
     ·exact yt _
     ·exact YA _ _
     ·exact yt _
     ·exact YA _ _
    have hKl:K.length=6:=by rw[hK];rfl
    have hK0:∀X:Heap,(K++X)[0]? =some (.box (some 2) (.pv (some 2) d.pv)):=fun X=>by rw[hK];rfl
    have hK4:∀X:Heap,(K++X)[4]? =some (.box (some 4) (.pv (some 4) (comT ts).pv)):=fun X=>by rw[hK];rfl
    have hsp:∀X Y:Heap,(∀Z:Heap,(X++Z)[0]? =some (.box (some 2) (.pv (some 2) d.pv)))->(∀Z:Heap,(Y++Z)[0]? =some (.box (some 2) (.pv (some 2) d.pv)))->yM X Y (.ptr 0 0)=true:=fun X Y hX hY=>by
     have h1:=hX [];have h2:=hY [];rw[ZB] at h1 h2;have hbe:AV.beq (.pv (some 2) d.pv) (.pv (some 2) d.pv)=true:=by simpa[AObj.beq] using Xk d
     simp[yM,h1,h2,AObj.beq,hbe]
    obtain⟨mv,k1,bv,E1,c1,m1,b1,q1⟩:=(hO K hbK).1;rw[hKl] at c1 b1;dsimp only at c1 m1 b1;have hs1:=hsp K K hK0 hK0;have h3:=fun hp=>Jf dynN [Ys ts] hp;have e3:strT dynN [Ys ts]=goT (Ys ts):=rfl;rw[e3] at h3;have hnil:∀H:Heap,Yf A3 H=(A3,H):=fun _=>rfl;obtain⟨p1,p2,p3⟩:=jJ m1;obtain⟨r1,r2,r3⟩:=Bs b1;have t13:∀(old:AV) (Z:Heap),Yb (some 2) 0 (K++(E1++.box (some 2) old::Z)) [.ptr (6+E1.length) 0,mv]=some (.undef,K++(E1++.box (some 2) mv::Z)):=fun old Z=>by
     rw[jI p1 p2 p3 (old:=old) (by rw[getN hKl,XG];rfl),setN hKl,kN];rfl
    have t15:∀(a:AObj) (old:AV) (Z:Heap),Yb (some 4) 0 (K++(E1++a::.box (some 4) old::Z)) [.ptr (6+(E1.length+1)) 0,bv]=some (.undef,K++(E1++a::.box (some 4) bv::Z)):=fun a old Z=>by
     rw[jI r1 r2 r3 (old:=old) (by rw[getN hKl,yc];rfl),setN hKl,jh];rfl
    simp only[Tm.av,Dbs.av,Tm.pvs,dynN] at c1 h3;simp -dsimp -implicitDefEqProofs only[go_sem,seval,qT,zJ,ZW,zB,zI,hs1,h3,c1,hnil,t13,t15,hKl,getN hKl,setN hKl,Yn];have bmv:∀{v:AV},MvI v m->AObj.beq (.box (some 2) v) (.box (some 2) v)=true:=fun{v} h=>by
     rcases h with rfl|⟨-,rfl⟩
     ·exact Xk m
     ·exact xO
    have bbv:∀{v:AV} {k:Nat} {E:Heap},BvI v b k E->AObj.beq (.box (some 4) v) (.box (some 4) v)=true:=fun{v k E} h=>by
     rcases h with rfl|⟨-,j,z,rfl,-⟩
     ·exact yt b
     ·exact XI _ _
    have bq3:∀{v w:AV} {k:Nat} {E:Heap},MvI v m->BvI w b k E->Bq [.box (some 2) v,.box (some 4) w,.arr (some 4) [] false]:=fun{v w k E} h1 h2 o ho=>by
     simp only[Zl,zj,or_false] at ho;rcases ho with rfl|rfl|rfl
     ·exact bmv h1
     ·exact bbv h2
     ·exact YA _ _
    obtain⟨K2,hK2⟩:∃K2:Heap,K2=K++(E1++[.box (some 2) mv,.box (some 4) bv,.arr (some 4) [] false]):=⟨_,rfl⟩;obtain⟨n2,hn2⟩:∃n2,n2=K2.length:=⟨_,rfl⟩;have hK2l:=hn2.symm;have hbK2:Bq K2:=by
     rw[hK2];exact hbK.app (q1.app (bq3 m1 b1))
    obtain⟨a13,ha13⟩:∃a,a=6+E1.length:=⟨_,rfl⟩;obtain⟨a15,ha15⟩:∃a,a=6+(E1.length+1):=⟨_,rfl⟩;rw[<-hK2,<-ha13,<-ha15];have hK20:∀X:Heap,(K2++X)[0]? =some (.box (some 2) (.pv (some 2) d.pv)):=fun X=>by rw[hK2,Zw];exact hK0 _
    have hK24:∀X:Heap,(K2++X)[4]? =some (.box (some 4) (.pv (some 4) (comT ts).pv)):=fun X=>by rw[hK2,Zw];exact hK4 _
    have hK213:∀X:Heap,(K2++X)[a13]? =some (.box (some 2) mv):=fun X=>by
     rw[hK2,ha13,Zw,getN hKl,Zw,XG];rfl
    have hK215:∀X:Heap,(K2++X)[a15]? =some (.box (some 4) bv):=fun X=>by
     rw[hK2,ha15,Zw,getN hKl,Zw,yc];rfl
    have hE1:∀(X:Heap) (j:Nat) (x:AObj),E1[j]? =some x->(K2++X)[6+j]? =some x:=fun X j x hx=>by
     rw[hK2,Zw,getN hKl,Zw,ZI (ya hx),hx]
    have hK20':K2[0]? =some (.box (some 2) (.pv (some 2) d.pv)):=by have:=hK20 [];rwa [ZB] at this
    have hK24':K2[4]? =some (.box (some 4) (.pv (some 4) (comT ts).pv)):=by have:=hK24 [];rwa [ZB] at this
    obtain⟨mv2,k2,bv2,E2,c2,m2,b2,q2⟩:=(hO K2 hbK2).2;rw[<-hn2] at c2 b2;dsimp only at c2 m2 b2;have hs2:=hsp K2 K2 hK20 hK20;have h4:=fun hp=>Jf dynN [comT ts] hp;have e4:strT dynN [comT ts]=goT (comT ts):=rfl;rw[e4] at h4;obtain⟨p1',p2',p3'⟩:=jJ m2;obtain⟨r1',r2',r3'⟩:=Bs b2;have t17:∀(old:AV) (Z:Heap),Yb (some 2) 0 (K2++(E2++.box (some 2) old::Z)) [.ptr (n2+E2.length) 0,mv2]=some (.undef,K2++(E2++.box (some 2) mv2::Z)):=fun old Z=>by
     rw[jI p1' p2' p3' (old:=old) (by rw[getN hK2l,XG];rfl),setN hK2l,kN];rfl
    have t19:∀(a:AObj) (old:AV) (Z:Heap),Yb (some 4) 0 (K2++(E2++a::.box (some 4) old::Z)) [.ptr (n2+(E2.length+1)) 0,bv2]=some (.undef,K2++(E2++a::.box (some 4) bv2::Z)):=fun a old Z=>by
     rw[jI r1' r2' r3' (old:=old) (by rw[getN hK2l,yc];rfl),setN hK2l,jh];rfl
    obtain⟨f1,f2,f3,f4⟩:=NT hoo;have hsd:=fun H=>nf m1 m2 f1 H;have hsm:S 11 [bv,bv2] (K2++(E2++[.box (some 2) mv2,.box (some 4) bv2,.arr (some 4) [] false]))=some (.ret (O6 true),K2++(E2++[.box (some 2) mv2,.box (some 4) bv2,.arr (some 4) [] false])):=NO f2 f3 b1 b2 (fun j x hx=>hE1 _ j x hx) fun j x hx=>by
     rw[getN hK2l,ZI (ya hx),hx]
    simp only[Tm.av,Dbs.av,Tm.pvs,dynN] at c2 h4;by_cases he:e=0
    rotate_left
    ·have he':=Zp he;simp -dsimp -implicitDefEqProofs only[go_sem,seval,qT,zJ,ZW,zB,zI,hK20,hK24,hK20',hK24',hK213,hK215,hs2,h4,c2,hnil,t17,t19,hK2l,getN hK2l,YY hK2l,setN hK2l,hsd,hsm,he',haw,Yn];simp[AV.refsIn]
    subst he;simp -dsimp -implicitDefEqProofs only[go_sem,seval,qT,zJ,ZW,zB,zI,hK20,hK24,hK20',hK24',hK213,hK215,hs2,h4,c2,hnil,t17,t19,hK2l,getN hK2l,YY hK2l,setN hK2l,hsd,hsm,haw,Yn];obtain⟨hv,hmo,hcn,hde,hmd⟩:=f4 rfl;obtain⟨⟨-,d2,d3,d4,-⟩,d6⟩:=jB L d hv hde;rw[<-hmd] at d2 d3 d4 d6;have hmv:mv=m.av:=by
     rcases m1 with h|⟨h,-⟩
     ·exact h
     ·rw[h] at hmo;exact absurd hmo (by decide)
    rw[hmv] at hK213;simp only[Dbs.av] at hK213;obtain⟨H3,hH3⟩:∃H3:Heap,H3=K2++(E2++[.box (some 2) mv2,.box (some 4) bv2,.arr (some 4) [] false]):=⟨_,rfl⟩;have bqH3:Bq H3:=by
     rw[hH3];exact hbK2.app (q2.app (bq3 m2 b2))
    have hH0:∀X:Heap,(H3++X)[0]? =some (.box (some 2) (.pv (some 2) d.pv)):=fun X=>by rw[hH3,Zw];exact hK20 _
    have hH13:∀X:Heap,(H3++X)[a13]? =some (.box (some 2) (.pv (some 2) m.pv)):=fun X=>by rw[hH3,Zw];exact hK213 _
    rw[<-hH3];have hbm:=Q7 hmo;refine Yy (α:=Heap) N (fun _ X=>Bq X) (fun i X=>⟨[(1,.pv none (.sl none (strs ns))),(2,.pv none (.sl none (i8s rs))),(3,.ptr 0 0),(13,.ptr a13 0),(147,O5 N),(148,O5 i)],H3++X⟩) [] ⟨Bq.nil,by rw[ZB];rfl⟩ ?_ ?_
    ·rintro i X hi hX;have hcc:(i:Int)<(N:Int):=by omega
     have w1:=O0 i (by omega)
     obtain⟨s,hs⟩:∃s,ns[i]? =some s:=⟨_,Zf (by omega)⟩;obtain⟨k,hk⟩:∃k,rs[i]? =some k:=⟨_,Zf (by omega)⟩;obtain⟨y1,y2⟩:=h8 k (Zj hk);have w2:IntKind.i64.wrap k=k:=Yh (by omega) (by omega);have hxL:(s,k)∈L:=Zj (i:=i) (by rw[hL];exact Br (by rw[<-hL,<-hN];exact hi) hs hk);obtain⟨p,hp,hpd⟩:=d6 _ hxL;have hpc:=d4 s k;have hst:=(VC hcn _ hxL).2;have hre:decide (s∈Q2 k)=false:=by
      unfold XH at hst;rw[Bool.or_eq_false_iff] at hst;exact hst.1
     have h5:=fun hp=>Vk m hbm s k hp;have h6:=fun hp=>Vk d hb s k hp;have h7:=fun hp=>gc s k hp;dsimp only at hp;rw[hp] at h5 hpc;rw[hre] at h7;generalize (YC d s k).isSome=z at h6;generalize (YC d s k).getD zP=w at h6 hpc;simp only[zH,Option.isSome_some] at h5 hpc;have g1:PV.part deep p.pv 2 none=some (.bool true):=by rw[Vc,hpd]
     have g2:PV.part deep p.pv 3 none=some (.sl (some 9) (Sto.pvs w.cls)):=by rw[yd,hpc]
     obtain⟨K3,hK3⟩:∃K3:Heap,K3=H3++X:=⟨_,rfl⟩;have k30:∀Y:Heap,(K3++Y)[0]? =some (.box (some 2) (.pv (some 2) d.pv)):=fun Y=>by rw[hK3,Zw];exact hH0 _
     have k313:∀Y:Heap,(K3++Y)[a13]? =some (.box (some 2) (.pv (some 2) m.pv)):=fun Y=>by rw[hK3,Zw];exact hH13 _
     have k313':K3[a13]? =some (.box (some 2) (.pv (some 2) m.pv)):=by have:=k313 [];rwa [ZB] at this
     rw[<-hK3];simp only[Dbs.av,Prc.av] at h5 h6;simp -dsimp -implicitDefEqProofs only[go_sem,seval,hcc,w1,w2,Yc (jw hs),Yc (Bo hk),k30,k313,k313',h5,h6,h7,g1,g2,yd,Sto.pvs_len,Yn];rcases kQ H3.length 0 [(1,.pv none (.sl none (strs ns))),(2,.pv none (.sl none (i8s rs))),(3,.ptr 0 0),(13,.ptr a13 0),(147,O5 N),(148,O5 (i+1:Nat))] (K3++[.box (some 4) (.pv (some 4) p.pv),.arr (some 9) [] false,.box (some 4) (.pv (some 4) w.pv),.arr (some 9) [] false]) with h|⟨h,-⟩
     ·refine⟨X++[.box (some 4) (.pv (some 4) p.pv),.arr (some 9) [] false,.box (some 4) (.pv (some 4) w.pv),.arr (some 9) [] false],hX.app (fun o ho=> ?_),congrArg (St.mk _) (h.trans (by rw[hK3,Zw]))⟩;simp only[Zl,zj,or_false] at ho;rcases ho with rfl|rfl|rfl|rfl
      ·exact Bu p
      ·exact YA _ _
      ·exact Bu w
      ·exact YA _ _
     ·exact⟨[],Bq.nil,congrArg (St.mk _) (h.trans (by rw[hK3,Zw,Z7,ZB]))⟩
    ·rintro X hX;have hcc:¬(N:Int)<(N:Int):=by omega
     have h5:=fun hp=>GL m hbm hp;have h6:=fun hp=>GL d hb hp;rw[Zd hmo,d3] at h5;rw[Zd hv] at h6;have g0:PV.part deep m.pv 0 none=some (.int .i64 d.next):=by rw[YH,d2]
     obtain⟨K3,hK3⟩:∃K3:Heap,K3=H3++X:=⟨_,rfl⟩;have k30:K3[0]? =some (.box (some 2) (.pv (some 2) d.pv)):=by rw[hK3];exact hH0 _
     have k313:K3[a13]? =some (.box (some 2) (.pv (some 2) m.pv)):=by rw[hK3];exact hH13 _
     have hsm:=(bqH3.app hX).same;rw[<-hK3] at hsm ⊢;simp only[Dbs.av] at h5 h6;simp -dsimp -implicitDefEqProofs only[go_sem,seval,hcc,k30,k313,h5,h6,g0,YH,haw,Q4,Q5,ZS,hsm];simp[AV.refsIn]
end Go.Proofs.YtkkppaoehnpboaaGreatDoor
