/- What is proved: what the reference takes for a valid clause is one for the program. -/
import Derived.Test.YtligpohiokpnhaaGreatVal
set_option linter.unusedSimpArgs false
set_option linter.unusedVariables false
namespace Go.Proofs.YtligpohiokpnhaaGreat
open Go.Am
theorem yV(c:Cz):PV.part deep c.pv 0 none=some (.int .i64 c.head.kind):=by
 obtain⟨⟨_,_,_,_⟩,_⟩:=c;rfl
theorem lG(c:Cz)(z1:c.head.size<100000000)(z2:c.body.size<100000000)(hp:Heap):∃r:Bool,S 19 [c.av] hp=some (.ret (.pv none (.bool r)),hp)/\(r=true->okC c=true):=by
 have h1:=fun hp=>xI c.head hp (by omega);have h2:=fun hp=>xI c.body hp (by omega);simp only[Tm.av] at h1 h2;cases v1:c.head.valid with
 |false=>
  rw[v1] at h1;refine⟨false,Ya rfl rfl rfl (z9 [(some 8,c.pv)]) rfl ?_,fun h=>by cases h⟩;simp -dsimp -implicitDefEqProofs only[go_sem,seval,↓reduceIte,Cz.av,YX,YY,yV,h1]
 |true=>
 rw[v1] at h1;cases v2:c.body.valid with
 |false=>
  rw[v2] at h2;refine⟨false,Ya rfl rfl rfl (z9 [(some 8,c.pv)]) rfl ?_,fun h=>by cases h⟩;simp -dsimp -implicitDefEqProofs only[go_sem,seval,↓reduceIte,Cz.av,YX,YY,yV,h1,h2]
 |true=>
 rw[v2] at h2;have hs1:=Xb v1;have hs2:=Xb v2;by_cases hk:c.head.kind=2\/c.head.kind=3
 rotate_left
 ·have k2:(c.head.kind=2)=False:=Zl fun h=>hk (.inl h);have k3:(c.head.kind=3)=False:=Zl fun h=>hk (.inr h);refine⟨false,Ya rfl rfl rfl (z9 [(some 8,c.pv)]) rfl ?_,fun h=>by cases h⟩;simp -dsimp -implicitDefEqProofs only[go_sem,seval,↓reduceIte,Cz.av,YX,YY,yV,h1,h2,k2,k3]
 have h3:=fun hp=>uU c.body.size c.body (Ze _) v2 hp;have hcv:=lE c.body.size c.body;have hcs:=uV c.body.size c.body;generalize rcF c.body.size c.body=R at h3 hcv hcs;obtain⟨g,ok⟩:=R;dsimp only at h3 hcv hcs;have h4:=fun hp=>Q1 g c.body hp (by omega) (by omega);have h5:=fun hp=>qR c.head hp (by omega);have h6:=fun hp=>qR c.body hp (by omega);have w1:IntKind.i64.wrap (((min c.head.size 2001:Nat):Int)+((min c.body.size 2001:Nat):Int))=((c.head.size+c.body.size:Nat):Int):=by rw[Yf (by omega) (by omega)];omega
 simp only[Tm.av] at h3 h4 h5 h6;have hfl:∀t∈[c.head,c.body],t.fits=true:=fun t ht=>by
  rcases Zu.1 ht with rfl|ht
  ·exact valid_fits v1
  ·rcases Zu.1 ht with rfl|ht
   ·exact valid_fits v2
   ·cases ht
 have hzz:Tm.sizes [c.head,c.body]<50000000:=by
  show c.head.size+(c.body.size+0)<_;omega
 have eoc:Tm.occs [c.head,c.body]=c.head.occ++c.body.occ:=by
  show c.head.occ++(c.body.occ++[])=_;rw[ZC]
 have h7:∀hp,S 47 [.tsl (some 4) [c.head.pv,c.body.pv]] hp=some (.ret (.pv none (.sl none (ints c.vars))),hp):=fun hp=>by
  have:=Xa (F:=find tab) (prim:=prim) (f:=47) (args:=[.tsl (some 4) [c.head.pv,c.body.pv]]) (ps:=[(none,.sl (some 4) [c.head.pv,c.body.pv])]) (hp:=hp) (hp1:=hp) rfl rfl rfl rfl (kH [c.head,c.body] hfl hzz []);rw[eoc] at this;exact this
 have h8:∀hp,S 49 [.tsl (some 4) [c.head.pv,c.body.pv]] hp=some (.ret (.pv none (.sl (some 4) [c.can.head.pv,c.can.body.pv])),hp):=fun hp=>by
  have:=Xa (F:=find tab) (prim:=prim) (f:=49) (args:=[.tsl (some 4) [c.head.pv,c.body.pv]]) (ps:=[(none,.sl (some 4) [c.head.pv,c.body.pv])]) (hp:=hp) (hp1:=hp) rfl rfl rfl rfl (uW [c.head,c.body] hfl hzz []);rw[eoc] at this;exact this
 have q1:c.can.head.size=c.head.size:=Q4 _ (valid_fits v1);have q2:c.can.body.size=c.body.size:=Q4 _ (valid_fits v2);have h9:∀hp,S 48 [.pv none (.sl (some 4) [c.can.head.pv,c.can.body.pv]),.tsl (some 4) [c.head.pv,c.body.pv]] hp=some (.ret (.pv none (.bool (same c.can.head c.head && same c.can.body c.body))),hp):=fun hp=>by
  have:=Xa (F:=find tab) (prim:=prim) (f:=48) (args:=[.pv none (.sl (some 4) [c.can.head.pv,c.can.body.pv]),.tsl (some 4) [c.head.pv,c.body.pv]]) (ps:=[(none,.sl (some 4) [c.can.head.pv,c.can.body.pv]),(none,.sl (some 4) [c.head.pv,c.body.pv])]) (hp:=hp) (hp1:=hp) rfl rfl rfl rfl (uX c.head c.can.head c.body c.can.body (by omega) (by omega) (by omega) (by omega) []);exact this
 cases ok with
 |false=>
  refine⟨false,Ya rfl rfl rfl (z9 [(some 8,c.pv)]) rfl ?_,fun h=>by cases h⟩;rcases hk with hk|hk
  ·have k2:=Zo hk;simp -dsimp -implicitDefEqProofs only[go_sem,seval,↓reduceIte,Cz.av,YX,YY,yV,h1,h2,h3,k2,z7 (Zd _)]
  ·have k3:=Zo hk;have k2:(c.head.kind=2)=False:=Zl (by omega);simp -dsimp -implicitDefEqProofs only[go_sem,seval,↓reduceIte,Cz.av,YX,YY,yV,h1,h2,h3,k2,k3,z7 (Zd _)]
 |true=>
 cases sm:same g c.body with
 |false=>
  rw[sm] at h4;refine⟨false,Ya rfl rfl rfl (z9 [(some 8,c.pv)]) rfl ?_,fun h=>by cases h⟩;rcases hk with hk|hk
  ·have k2:=Zo hk;simp -dsimp -implicitDefEqProofs only[go_sem,seval,↓reduceIte,Cz.av,YX,YY,yV,h1,h2,h3,h4,k2,z7 (Zd _)]
  ·have k3:=Zo hk;have k2:(c.head.kind=2)=False:=Zl (by omega);simp -dsimp -implicitDefEqProofs only[go_sem,seval,↓reduceIte,Cz.av,YX,YY,yV,h1,h2,h3,h4,k2,k3,z7 (Zd _)]
 |true=>
 rw[sm] at h4;by_cases hsz:c.head.size+c.body.size<=2000
 rotate_left
 ·have hgt:(2000:Int)<((c.head.size+c.body.size:Nat):Int):=by omega
  refine⟨false,Ya rfl rfl rfl (z9 [(some 8,c.pv)]) rfl ?_,fun h=>by cases h⟩;rcases hk with hk|hk
  ·have k2:=Zo hk;simp -dsimp -implicitDefEqProofs only[go_sem,seval,↓reduceIte,Cz.av,YX,YY,yV,h1,h2,h3,h4,h5,h6,w1,hgt,k2,z7 (Zd _)]
  ·have k3:=Zo hk;have k2:(c.head.kind=2)=False:=Zl (by omega);simp -dsimp -implicitDefEqProofs only[go_sem,seval,↓reduceIte,Cz.av,YX,YY,yV,h1,h2,h3,h4,h5,h6,w1,hgt,k2,k3,z7 (Zd _)]
 have hgt:¬(2000:Int)<((c.head.size+c.body.size:Nat):Int):=by omega
 by_cases hvl:c.vars.length<=64
 rotate_left
 ·have hv':¬((c.vars.length:Nat):Int)<=64:=by omega
  refine⟨false,Ya rfl rfl rfl (z9 [(some 8,c.pv)]) rfl ?_,fun h=>by cases h⟩;rcases hk with hk|hk
  ·have k2:=Zo hk;simp -dsimp -implicitDefEqProofs only[go_sem,seval,↓reduceIte,Cz.av,YX,YY,yV,h1,h2,h3,h4,h5,h6,h7,w1,hgt,hv',yu,k2,z7 (Zd _)]
  ·have k3:=Zo hk;have k2:(c.head.kind=2)=False:=Zl (by omega);simp -dsimp -implicitDefEqProofs only[go_sem,seval,↓reduceIte,Cz.av,YX,YY,yV,h1,h2,h3,h4,h5,h6,h7,w1,hgt,hv',yu,k2,k3,z7 (Zd _)]
 have hv':((c.vars.length:Nat):Int)<=64:=by omega
 refine⟨same c.can.head c.head && same c.can.body c.body,Ya rfl rfl rfl (z9 [(some 8,c.pv)]) rfl ?_,fun h=> ?_⟩
 ·rcases hk with hk|hk
  ·have k2:=Zo hk;simp -dsimp -implicitDefEqProofs only[go_sem,seval,↓reduceIte,Cz.av,YX,YY,yV,h1,h2,h3,h4,h5,h6,h7,h8,h9,w1,hgt,hv',yu,k2,z7 (Zd _)]
  ·have k3:=Zo hk;have k2:(c.head.kind=2)=False:=Zl (by omega);simp -dsimp -implicitDefEqProofs only[go_sem,seval,↓reduceIte,Cz.av,YX,YY,yV,h1,h2,h3,h4,h5,h6,h7,h8,h9,w1,hgt,hv',yu,k2,k3,z7 (Zd _)]
 ·rw[Zg] at h;have hg:yG c.body=some g:=by
   have hgv:g.valid=true:=by
    unfold same at sm;rw[Zg] at sm;exact sm.1
   have hgs:=Xb hgv;unfold yG;rw[Zc v2];unfold cv;rw[hcv rfl (valid_fits v2)];show(if 2000<g.size then none else some g)=some g;rw[Za (by omega)]
  unfold okC;rw[v1,hg];simp only[sm,h.1,h.2,hsz,hvl,decide_true,Bool.and_true,Bool.true_and];rcases hk with hk|hk <;> simp[hk]
structure Sto where
 id:Int
 cl:Cz
def Sto.pv(s:Sto):PV:=.agg [(none,.int .i64 s.id),(some 8,s.cl.pv)]
def Sto.pvs(l:List Sto):List PV:=l.map Sto.pv
structure Prc where
 name:List UInt8
 ar:Int
 dyn:Bool
 cls:List Sto
def Prc.pv(p:Prc):PV:=.agg [(none,.str p.name),(none,.int .i64 p.ar),(none,.bool p.dyn),(none,.sl (some 9) (Sto.pvs p.cls))]
def Prc.av(p:Prc):AV:=.pv (some 4) p.pv
def Prc.pvs(l:List Prc):List PV:=l.map Prc.pv
structure Dbs where
 next:Int
 procs:List Prc
def Dbs.pv(d:Dbs):PV:=.agg [(none,.int .i64 d.next),(none,.sl (some 4) (Prc.pvs d.procs))]
def Dbs.av(d:Dbs):AV:=.pv (some 2) d.pv
theorem Sto.pvs_len(l:List Sto):(Sto.pvs l).length=l.length:=by simp[Sto.pvs]
theorem Prc.pvs_len(l:List Prc):(Prc.pvs l).length=l.length:=by simp[Prc.pvs]
theorem Sto.pvs_get{l:List Sto}{i:Nat}{s:Sto}(h:l[i]? =some s):(Sto.pvs l)[i]? =some s.pv:=by simp[Sto.pvs,h]
theorem Prc.pvs_get{l:List Prc}{i:Nat}{s:Prc}(h:l[i]? =some s):(Prc.pvs l)[i]? =some s.pv:=by simp[Prc.pvs,h]
theorem YO(s:Sto):PV.part deep s.pv 0 none=some (.int .i64 s.id):=rfl
theorem yw(s:Sto):PV.part deep s.pv 1 (some 8)=some s.cl.pv:=by cases s with|mk i c=>cases c;rfl
theorem YA(p:Prc):PV.part deep p.pv 0 none=some (.str p.name):=rfl
theorem YE(p:Prc):PV.part deep p.pv 1 none=some (.int .i64 p.ar):=rfl
theorem uZ(p:Prc):PV.part deep p.pv 2 none=some (.bool p.dyn):=rfl
theorem YU(p:Prc):PV.part deep p.pv 3 none=some (.sl (some 9) (Sto.pvs p.cls)):=rfl
theorem Yp(d:Dbs):PV.part deep d.pv 0 none=some (.int .i64 d.next):=rfl
theorem Ye(d:Dbs):PV.part deep d.pv 1 none=some (.sl (some 4) (Prc.pvs d.procs)):=rfl
def strC(a b:List UInt8):Int:=if Op.bytesLess a b=true then -1 else if a=b then 0 else 1
def intC(a b:Int):Int:=if a<b then -1 else if b<a then 1 else 0
theorem lH(a b:List UInt8)(hp:Heap):S 62 [.pv none (.str a),.pv none (.str b)] hp=some (.ret (.pv none (.int .i64 (strC a b))),hp):=by
 refine Ya rfl rfl rfl (z9 [(none,.str a),(none,.str b)]) rfl ?_;have hn:∀(x:List UInt8) (hp:Heap),S 86 [.pv none (.str x)] hp=some (.ret (.pv none (.bool false)),hp):=fun x hp=>by
  refine Ya rfl rfl rfl (z9 [(none,.str x)]) rfl ?_;simp -dsimp -implicitDefEqProofs only[go_sem,seval,↓reduceIte]
  try simp
 have hg:XC .gtr a b=some (.bool (!(Op.bytesLess a b || decide (a=b)))):=rfl;unfold strC;cases h1:Op.bytesLess a b with
 |true=>simp -dsimp -implicitDefEqProofs only[go_sem,seval,↓reduceIte,hn,h1]
 |false=>
  rw[h1] at hg;by_cases h2:a=b
  ·rw[Zs h2] at hg;have hg':XC .gtr a b=some (.bool false):=hg;rw[Za (by decide),Zc h2];simp -dsimp -implicitDefEqProofs only[go_sem,seval,↓reduceIte,hn,h1,hg']
  ·rw[ZL h2] at hg;have hg':XC .gtr a b=some (.bool true):=hg;rw[Za (by decide),Za h2];simp -dsimp -implicitDefEqProofs only[go_sem,seval,↓reduceIte,hn,h1,hg']
theorem lI(a b:Int)(hp:Heap):S 63 [.pv none (.int .i64 a),.pv none (.int .i64 b)] hp=some (.ret (.pv none (.int .i64 (intC a b))),hp):=by
 refine Ya rfl rfl rfl (z9 [(none,.int .i64 a),(none,.int .i64 b)]) rfl ?_;have hn:∀(x:Int) (hp:Heap),S 87 [.pv none (.int .i64 x)] hp=some (.ret (.pv none (.bool false)),hp):=fun x hp=>by
  refine Ya rfl rfl rfl (z9 [(none,.int .i64 x)]) rfl ?_;simp -dsimp -implicitDefEqProofs only[go_sem,seval,↓reduceIte]
  try simp
 unfold intC;by_cases h1:a<b
 ·simp -dsimp -implicitDefEqProofs only[go_sem,seval,↓reduceIte,hn,h1]
 ·by_cases h2:b<a
  ·simp -dsimp -implicitDefEqProofs only[go_sem,seval,↓reduceIte,hn,h1,h2]
  ·simp -dsimp -implicitDefEqProofs only[go_sem,seval,↓reduceIte,hn,h1,h2]
theorem qV(s:List UInt8)(a:Int)(hp:Heap):S 39 [.pv none (.str s),.pv none (.int .i64 a)] hp=some (.ret (.pv none (.bool (decide (s.length<=100) && (decide (0<=a) && decide (a<=8))))),hp):=by
 refine Ya rfl rfl rfl (z9 [(none,.str s),(none,.int .i64 a)]) rfl ?_;by_cases h1:s.length<=100
 ·have h1':(s.length:Int)<=100:=by omega
  by_cases h2:0<=a
  ·simp -dsimp -implicitDefEqProofs only[go_sem,seval,↓reduceIte,h1,h1',h2]
  ·simp -dsimp -implicitDefEqProofs only[go_sem,seval,↓reduceIte,h1,h1',h2]
 ·have h1':¬(s.length:Int)<=100:=by omega
  simp -dsimp -implicitDefEqProofs only[go_sem,seval,↓reduceIte,h1,h1']
def ordP(p q:Prc):Int:=if strC p.name q.name=0 then intC p.ar q.ar else strC p.name q.name
theorem lJ(a b:Int)(hp:Heap):S 61 [.pv none (.sl none [.int .i64 a,.int .i64 b])] hp=some (.ret (.pv none (.int .i64 (if a=0 then b else a))),hp):=by
 refine Ya rfl rfl rfl (z9 [(none,.sl none [.int .i64 a,.int .i64 b])]) rfl ?_;have hl:([.int .i64 a,.int .i64 b]:List PV).length=2:=rfl;simp -dsimp -implicitDefEqProofs only[go_sem,seval,↓reduceIte,hl];have e2:((2:Nat):Int)=2:=rfl;have e1:((1:Nat):Int)=1:=rfl;have e0:((0:Nat):Int)=0:=rfl;refine Yv (α:=Unit) 2 (fun i _=>(0<i->a=0)/\(1<i->b=0)) (fun i _=>⟨[(3,.pv none (.int .i64 0)),(6,.pv none (.sl none [.int .i64 a,.int .i64 b])),(7,.pv none (.int .i64 2)),(8,.pv none (.int .i64 i))],[]⟩) () ⟨⟨by omega,by omega⟩,rfl⟩ ?_ ?_
 ·rintro i - h ⟨ha,hb⟩
  match i,h with
  |0,_=>
   have c2:(0:Int)<2:=by decide
   have w2:IntKind.i64.wrap ((0:Int)+1)=((0+1:Nat):Int):=by decide
   have g:Yl none [.pv none (.sl none [.int .i64 a,.int .i64 b]),.pv none (.int .i64 0)]=some (.iptr none (.int .i64 a) 0):=rfl;by_cases h0:a=0
   ·have h0':=Zo h0;simp -dsimp -implicitDefEqProofs only[go_sem,seval,↓reduceIte,e0,c2,w2,g,h0'];refine⟨(),⟨fun _=>trivial,fun h=>absurd h (by decide)⟩,rfl⟩
   ·simp -dsimp -implicitDefEqProofs only[go_sem,seval,↓reduceIte,e0,c2,w2,g,h0]
    try rw[Za h0]
    try exact⟨_,rfl⟩
  |1,_=>
   have h0:=ha (by omega);have c2:(1:Int)<2:=by decide
   have w2:IntKind.i64.wrap ((1:Int)+1)=((1+1:Nat):Int):=by decide
   have g:Yl none [.pv none (.sl none [.int .i64 a,.int .i64 b]),.pv none (.int .i64 1)]=some (.iptr none (.int .i64 b) 0):=rfl;by_cases h1:b=0
   ·have h1':=Zo h1;simp -dsimp -implicitDefEqProofs only[go_sem,seval,↓reduceIte,e1,c2,w2,g,h1'];refine⟨(),⟨fun _=>h0,fun _=>trivial⟩,rfl⟩
   ·rw[Zc h0];simp -dsimp -implicitDefEqProofs only[go_sem,seval,↓reduceIte,e1,c2,w2,g,h1]
    try exact⟨_,rfl⟩
 ·rintro - ⟨ha,hb⟩;have h0:=ha (by omega);have h1:=hb (by omega);have c2:¬(2:Int)<2:=by decide
  rw[Zc h0,h1];simp -dsimp -implicitDefEqProofs only[go_sem,seval,↓reduceIte,e2,c2]
  try exact⟨_,rfl⟩
theorem u0(p q:Prc)(hp:Heap):S 40 [p.av,q.av] hp=some (.ret (.pv none (.int .i64 (ordP p q))),hp):=by
 refine Ya rfl rfl rfl (z9 [(some 4,p.pv),(some 4,q.pv)]) rfl ?_;have h1:=fun hp=>lH p.name q.name hp;have h2:=fun hp=>lI p.ar q.ar hp;have h3:=fun hp=>lJ (strC p.name q.name) (intC p.ar q.ar) hp;unfold ordP;simp -dsimp -implicitDefEqProofs only[go_sem,seval,↓reduceIte,Prc.av,YA,YE,h1,h2,h3]
 done
def totD(l:List Prc):Nat:=(l.map fun p=>p.cls.length).sum
theorem kI{l:List Prc}{i:Nat}{p:Prc}(h:l[i]? =some p):totD (l.take (i+1))=totD (l.take i)+p.cls.length:=by
 unfold totD;rw[zV,h];simp
theorem Q5{l:List Prc}(i:Nat):totD (l.take i)<=totD l:=by
 have:=Z6 i l;have e:totD l=totD (l.take i)+totD (l.drop i):=by
  unfold totD;rw[<-List.sum_append,<-zL,this]
 omega
theorem Qp(d:Dbs)(h1:d.procs.length<1000000000)(h2:totD d.procs<1000000000)(hp:Heap):S 38 [d.av] hp=some (.ret (.pv none (.int .i64 (totD d.procs:Int))),hp):=by
 refine Ya rfl rfl rfl (z9 [(some 2,d.pv)]) rfl ?_;simp -dsimp -implicitDefEqProofs only[go_sem,seval,↓reduceIte,Dbs.av,Ye,Prc.pvs_len];refine Yv (α:=Unit) d.procs.length (fun _ _=>True) (fun i _=>⟨[(3,.pv none (.int .i64 (totD (d.procs.take i):Int))),(7,.pv none (.sl (some 4) (Prc.pvs d.procs))),(8,.pv none (.int .i64 d.procs.length)),(9,.pv none (.int .i64 i))],[.box (some 2) (.pv (some 2) d.pv)]⟩) () ⟨trivial,rfl⟩ ?_ ?_
 ·rintro i - h -;have hc:(i:Int)<(d.procs.length:Int):=by omega
  obtain⟨p,hpp⟩:∃p,d.procs[i]? =some p:=⟨_,Zf h⟩;have ht:=kI hpp;have hle:=Q5 (l:=d.procs) (i+1);have w1:IntKind.i64.wrap ((i:Int)+1)=((i+1:Nat):Int):=by rw[Yf (by omega) (by omega)];omega
  have w2:IntKind.i64.wrap ((totD (d.procs.take i):Int)+(p.cls.length:Int))=(totD (d.procs.take (i+1)):Int):=by rw[Yf (by omega) (by omega)];omega
  simp -dsimp -implicitDefEqProofs only[go_sem,seval,↓reduceIte,hc,w1,w2,Yd (Prc.pvs_get hpp),YU,Sto.pvs_len,z7 (Zd _)];exact⟨(),rfl⟩
 ·rintro - -;have hc:¬(d.procs.length:Int)<(d.procs.length:Int):=by omega
  simp -dsimp -implicitDefEqProofs only[go_sem,seval,↓reduceIte,hc,ZP]
  done
def yd(l:List Int):List (Int × PV):=l.map fun v=>(v,.int .i64 1)
theorem u5(v:Int)(l:List Int):yl v (yd l)=if v∈l then some (.int .i64 1) else none:=by
 induction l with
 |nil=>rfl
 |cons x r ih=>
  show yl v ((x,.int .i64 1)::yd r)=_;rw[yl,ih];by_cases h:x=v
  ·subst h;simp
  ·have h':¬v=x:=fun e=>h e.symm;simp[h,h']
theorem kJ(v:Int):∀(l:List Int),v ∉ l->mPut v (.int .i64 1) (yd l)=yd (l++[v])
 |[],_=>rfl
 |x::r,h=>by
  have h':¬x=v:=fun e=>h (by rw[e];exact ZV);have ih:=kJ v r fun hm=>h (ZQ _ hm);show mPut v (.int .i64 1) ((x,.int .i64 1)::yd r)=_;rw[mPut,Za h',ih];rfl
def namB(p:Prc):Bool:=decide (p.name.length<=100) && (decide (0<=p.ar) && decide (p.ar<=8))
def okSt(next:Int)(p:Prc)(seen:List Int)(s:Sto):Bool:=decide (1<=s.id) && (decide (s.id<next) && (decide (s.id ∉ seen) && (okC s.cl && (decide (s.cl.head.name=p.name) && decide ((s.cl.head.args.length:Int)=p.ar)))))
def okSs(next:Int)(p:Prc):List Int->List Sto->Option (List Int)
 |seen,[]=>some seen
 |seen,s::r=>if okSt next p seen s=true then okSs next p (seen++[s.id]) r else none
def preB:Option Prc->Prc->Bool
 |none,_=>true
 |some q,p=>decide (ordP q p<0)
def okPs(next:Int):Option Prc->List Int->List Prc->Bool
 |_,_,[]=>true
 |q,seen,p::r=>namB p && (preB q p && match okSs next p seen p.cls with
  |none=>false
  |some s=>okPs next (some p) s r)
def okD(d:Dbs):Bool:=decide (1<=d.next) && (decide (d.next<=4294967296) && (decide (d.procs.length<=500) && (decide (totD d.procs<=500) && okPs d.next none [] d.procs)))
theorem ye{l:List Prc}{p:Prc}(h:p∈l):p.cls.length<=totD l:=by
 induction l with
 |nil=>cases h
 |cons x r ih=>
  have e:totD (x::r)=x.cls.length+totD r:=by simp[totD]
  rcases Zu.1 h with rfl|h
  ·omega
  ·have:=ih h;omega
theorem js{α:Type}{l:List α}{i:Nat}{x:α}(h:l[i]? =some x):l.drop i=x::l.drop (i+1):=by
 have hlt:=(Zb.1 h).1;rw[List.drop_eq_getElem_cons hlt,(Zb.1 h).2]
def vM(d:Dbs)(m:List (Int × PV)):Heap:=[.box (some 2) (.pv (some 2) d.pv),.map none (YK m)]
def vH(d:Dbs)(seen:List Int):Heap:=vM d (yd seen)
theorem yW(s:Sto):PV.part deep s.pv 3 none=some (.str s.cl.head.name):=by
 cases s with|mk i c=>cases c with|mk h b=>cases h;rfl
theorem Xg(s:Sto):PV.part deep s.pv 4 none=some (.sl (some 4) (Tm.pvs s.cl.head.args)):=by
 cases s with|mk i c=>cases c with|mk h b=>cases h;rfl
theorem jt{m:List (Int × PV)}{hp:Heap}{r:Nat}{s:Sh}{v:Int}(h:hp[r]? =some (.map none (YK m))):yf false none (.pv none (.int .i64 0)) false hp [.map r,.pv s (.int .i64 v)]=some (match yl v m with|some x=>.pv none x|none=>.pv none (.int .i64 0)):=by
 have hf:=ky v m;cases hm:yl v m with
 |none=>rw[hm] at hf;exact U4 h hf
 |some x=>rw[hm] at hf;exact U3 h hf
set_option maxRecDepth 20000 in
theorem yx(d:Dbs)(hl:d.procs.length<1000000000)(ht:totD d.procs<1000000000)(hz:∀p∈d.procs,∀s∈p.cls,s.cl.head.size<100000000/\s.cl.body.size<100000000)(hp:Heap):S 14 [d.av] hp=some (.ret (.pv none (.bool (okD d))),hp):=by
 refine Ya rfl rfl rfl (z9 [(some 2,d.pv)]) rfl ?_;have h1:=fun hp=>Qp d hl ht hp;simp only[Dbs.av] at h1;by_cases b1:d.next<1
 ·have e:okD d=false:=by
   have:¬1<=d.next:=by omega
   simp[okD,this]
  rw[e];simp -dsimp -implicitDefEqProofs only[go_sem,seval,↓reduceIte,Dbs.av,Yp,Ye,b1,Prc.pvs_len]
  done
 by_cases b2:4294967296<d.next
 ·have e:okD d=false:=by
   have:¬d.next<=4294967296:=by omega
   simp[okD,this]
  rw[e];simp -dsimp -implicitDefEqProofs only[go_sem,seval,↓reduceIte,Dbs.av,Yp,Ye,b1,b2,Prc.pvs_len]
  done
 by_cases b3:(500:Int)<(d.procs.length:Int)
 ·have e:okD d=false:=by
   have:¬d.procs.length<=500:=by omega
   simp[okD,this]
  rw[e];simp -dsimp -implicitDefEqProofs only[go_sem,seval,↓reduceIte,Dbs.av,Yp,Ye,b1,b2,b3,Prc.pvs_len]
  done
 by_cases b4:(500:Int)<(totD d.procs:Int)
 ·have e:okD d=false:=by
   have:¬totD d.procs<=500:=by omega
   simp[okD,this]
  rw[e];simp -dsimp -implicitDefEqProofs only[go_sem,seval,↓reduceIte,Dbs.av,Yp,Ye,b1,b2,b3,b4,h1,Prc.pvs_len]
  done
 obtain⟨R,hR⟩:∃R,R=okPs d.next none [] d.procs:=⟨_,rfl⟩
 have e:okD d=R:=by
  have c1:1<=d.next:=by omega
  have c2:d.next<=4294967296:=by omega
  have c3:d.procs.length<=500:=by omega
  have c4:totD d.procs<=500:=by omega
  rw[hR];simp[okD,c1,c2,c3,c4]
 rw[e];simp -dsimp -implicitDefEqProofs only[go_sem,seval,↓reduceIte,Dbs.av,Yp,Ye,b1,b2,b3,b4,h1,Prc.pvs_len];refine Yv (α:=List Int) d.procs.length (fun i seen=>R=okPs d.next (if i=0 then none else d.procs[i - 1]?) seen (d.procs.drop i)) (fun i seen=>⟨[(1,.ptr 0 0),(3,.map 1),(4,.pv none (.bool true)),(30,.pv none (.sl (some 4) (Prc.pvs d.procs))),(31,.pv none (.int .i64 d.procs.length)),(32,.pv none (.int .i64 i))],vH d seen⟩) [] ⟨by rw[hR];rfl,rfl⟩ ?_ ?_
 ·rintro i seen h hinv;have hc:(i:Int)<(d.procs.length:Int):=by omega
  have w1:IntKind.i64.wrap ((i:Int)+1)=((i+1:Nat):Int):=by rw[Yf (by omega) (by omega)];omega
  obtain⟨p,hpp⟩:∃p,d.procs[i]? =some p:=⟨_,Zf h⟩;have hpm:=Zi hpp;have hpl:=ye hpm;have h2:=fun hp=>qV p.name p.ar hp;rw[js hpp,okPs] at hinv;have hvl:(vH d seen).length=2:=rfl;have hg0:∀X,(vH d seen++X)[0]? =some (.box (some 2) (.pv (some 2) d.pv)):=fun _=>rfl;obtain⟨V,hV⟩:∃V,V=vH d seen:=⟨_,rfl⟩;rw[<-hV] at hvl hg0 ⊢;have h2:∀hp,S 39 [.pv none (.str p.name),.pv none (.int .i64 p.ar)] hp=some (.ret (.pv none (.bool (namB p))),hp):=h2;by_cases nb:namB p=true
  rotate_left
  ·have nb':namB p=false:=by simpa using nb
   have hR0:R=false:=by rw[hinv,nb'];rfl
   rw[nb'] at h2;rw[hR0];simp -dsimp -implicitDefEqProofs only[go_sem,seval,↓reduceIte,hc,w1,Yd (Prc.pvs_get hpp),YA,YE,h2,hvl,hg0,z7 (Zd _),getN hvl,Xd hvl,setN hvl,Xe hvl]
   done
  rw[nb,Bool.true_and] at hinv;rw[nb] at h2;have hcase:(¬0<(i:Int)/\preB (if i=0 then none else d.procs[i - 1]?) p=true)\/∃q,0<(i:Int)/\Yl (some 4) [.pv none (.sl (some 4) (Prc.pvs d.procs)),.pv none (.int .i64 (IntKind.i64.wrap ((i:Int) - 1)))]=some (.iptr (some 4) q.pv 0)/\(∀hp,S 40 [.pv (some 4) q.pv,.pv (some 4) p.pv] hp=some (.ret (.pv none (.int .i64 (ordP q p))),hp))/\preB (if i=0 then none else d.procs[i - 1]?) p=decide (ordP q p<0):=by
   by_cases i0:i=0
   ·left;refine⟨by omega,?_⟩;rw[Zc i0];rfl
   ·right;obtain⟨q,hq⟩:∃q,d.procs[i - 1]? =some q:=⟨_,Zf (by omega)⟩;have w3:IntKind.i64.wrap ((i:Int) - 1)=((i - 1:Nat):Int):=by rw[Yf (by omega) (by omega)];omega
    refine⟨q,by omega,by rw[w3];exact Yd (Prc.pvs_get hq),fun hp=>u0 q p hp,?_⟩;rw[Za i0,hq];rfl
  have hbad:∀q:Prc,preB (if i=0 then none else d.procs[i - 1]?) p=decide (ordP q p<0)->0<=ordP q p->R=false:=fun q h1 h2=>by
   rw[hinv,h1,ZL (by omega)];rfl
  have hgood:preB (if i=0 then none else d.procs[i - 1]?) p=true->R=match okSs d.next p seen p.cls with|none=>false|some s=>okPs d.next (some p) s (d.procs.drop (i+1)):=fun h1=>by
   rw[hinv,h1,Bool.true_and]
  rcases hcase with⟨i0,hpb⟩|⟨q,i0,hia,hoq,hpb⟩
  rotate_left
  ·by_cases ho:0<=ordP q p
   ·rw[hbad q hpb ho];simp -dsimp -implicitDefEqProofs only[go_sem,seval,↓reduceIte,hc,w1,i0,hia,hoq,ho,Yd (Prc.pvs_get hpp),YA,YE,Ye,h2,hvl,hg0,z7 (Zd _),getN hvl,Xd hvl,setN hvl,Xe hvl]
    done
   have hRR:=hgood (by rw[hpb];exact Zs (by omega));simp -dsimp -implicitDefEqProofs only[go_sem,seval,↓reduceIte,hc,w1,i0,hia,hoq,ho,Yd (Prc.pvs_get hpp),YA,YE,YU,Ye,Sto.pvs_len,h2,hvl,hg0,z7 (Zd _),getN hvl,Xd hvl,setN hvl,Xe hvl];clear hinv hbad hgood h1 h2;have hV2:V=vH d seen:=hV;rw[hV2];refine Yv (α:=List Int) p.cls.length (fun k sn=>okSs d.next p seen p.cls=okSs d.next p sn (p.cls.drop k)) (fun k sn=>⟨[(1,.ptr 0 0),(3,.map 1),(4,.pv none (.bool true)),(6,.ptr 2 0),(30,.pv none (.sl (some 4) (Prc.pvs d.procs))),(31,.pv none (.int .i64 d.procs.length)),(32,.pv none (.int .i64 i)),(59,.pv none (.sl (some 9) (Sto.pvs p.cls))),(60,.pv none (.int .i64 p.cls.length)),(61,.pv none (.int .i64 k))],[.box (some 2) (.pv (some 2) d.pv),.map none (YK (yd sn)),.box (some 4) (.pv (some 4) p.pv),.arr (some 9) [] false]⟩) seen ⟨rfl,rfl⟩ ?_ ?_
   ·rintro k sn hk hin;have hck:(k:Int)<(p.cls.length:Int):=by omega
    have wk:IntKind.i64.wrap ((k:Int)+1)=((k+1:Nat):Int):=by rw[Yf (by omega) (by omega)];omega
    obtain⟨s,hs⟩:∃s,p.cls[k]? =some s:=⟨_,Zf hk⟩;obtain⟨zs1,zs2⟩:=hz p hpm s (Zi hs);have h3:=fun hp=>xK s.cl zs1 zs2 hp;simp only[Cz.av] at h3;rw[js hs,okSs] at hin;obtain⟨c,hcc⟩:∃c:Int,c=if s.id∈sn then 1 else 0:=⟨_,rfl⟩
    have hc01:c=0\/c=1:=by rw[hcc];split <;> simp
    have wc:IntKind.i64.wrap (c+1)=c+1:=Yf (by omega) (by omega);obtain⟨m2,hm2⟩:∃m2,m2=mPut s.id (.int .i64 (c+1)) (yd sn):=⟨_,rfl⟩;have hl1:∀X,yf false none (.pv none (.int .i64 0)) false (.box (some 2) (.pv (some 2) d.pv)::.map none (YK (yd sn))::X) [.map 1,.pv none (.int .i64 s.id)]=some (.pv none (.int .i64 c)):=fun X=>by
     rw[jt (m:=yd sn) rfl,u5,hcc];by_cases hm:s.id∈sn
     ·rw[Zc hm,Zc hm]
     ·rw[Za hm,Za hm]
    have hl2:∀X,yf false none (.pv none (.int .i64 0)) false (.box (some 2) (.pv (some 2) d.pv)::.map none (YK m2)::X) [.map 1,.pv none (.int .i64 s.id)]=some (.pv none (.int .i64 (c+1))):=fun X=>by
     rw[jt (m:=m2) rfl,hm2,kz,Zc rfl]
    have hms:∀X,XE false none (.box (some 2) (.pv (some 2) d.pv)::.map none (YK (yd sn))::X) [.map 1,.pv none (.int .i64 s.id),.pv none (.int .i64 (c+1))]=some (.undef,.box (some 2) (.pv (some 2) d.pv)::.map none (YK m2)::X):=fun X=>by
     rw[kd (es:=YK (yd sn)) rfl (jr _ _ _),<-hm2];rfl
    have hbadS:okSt d.next p sn s=false->R=false:=fun h=>by
     rw[hRR,hin,h];rfl
    by_cases a1:s.id<1
    ·rw[hbadS (by unfold okSt;rw[ZL (by omega)];rfl)];simp -dsimp -implicitDefEqProofs only[go_sem,seval,↓reduceIte,hck,wk,wc,a1,Yd (Sto.pvs_get hs),YO,hl1,hl2,hms,Yp,z7 (Zd _)]
     done
    by_cases a2:d.next<=s.id
    ·rw[hbadS (by unfold okSt;rw[Zs (by omega),ZL (show ¬s.id<d.next by omega)];rfl)];simp -dsimp -implicitDefEqProofs only[go_sem,seval,↓reduceIte,hck,wk,wc,a1,a2,Yd (Sto.pvs_get hs),YO,yw,yW,Xg,YA,YE,Tm.pvs_len,hl1,hl2,hms,Yp,z7 (Zd _)]
     done
    have p1:decide (1<=s.id)=true:=Zs (by omega);have p2:decide (s.id<d.next)=true:=Zs (by omega);by_cases a3:s.id∈sn
    ·have hc1:c=1:=by rw[hcc,Zc a3]
     have a3':1<c+1:=by omega
     rw[hbadS (by unfold okSt;rw[p1,p2,ZL (by simpa using a3)];rfl)];simp -dsimp -implicitDefEqProofs only[go_sem,seval,↓reduceIte,hck,wk,wc,a1,a2,a3',Yd (Sto.pvs_get hs),YO,yw,yW,Xg,YA,YE,Tm.pvs_len,hl1,hl2,hms,Yp,z7 (Zd _)]
     done
    have hc0:c=0:=by rw[hcc,Za a3]
    have a3':¬1<c+1:=by omega
    have p3:decide (s.id ∉ sn)=true:=Zs a3;cases a4:okC s.cl with
    |false=>
     rw[hbadS (by unfold okSt;rw[p1,p2,p3,a4];rfl)];rw[a4] at h3;simp -dsimp -implicitDefEqProofs only[go_sem,seval,↓reduceIte,hck,wk,wc,a1,a2,a3',h3,Yd (Sto.pvs_get hs),YO,yw,yW,Xg,YA,YE,Tm.pvs_len,hl1,hl2,hms,Yp,z7 (Zd _)]
     done
    |true=>
    rw[a4] at h3;by_cases a5:s.cl.head.name=p.name
    rotate_left
    ·rw[hbadS (by unfold okSt;rw[p1,p2,p3,a4,ZL a5];rfl)];have a5':=Zl a5;simp -dsimp -implicitDefEqProofs only[go_sem,seval,↓reduceIte,hck,wk,wc,a1,a2,a3',h3,a5',Yd (Sto.pvs_get hs),YO,yw,yW,Xg,YA,YE,Tm.pvs_len,hl1,hl2,hms,Yp,z7 (Zd _)]
     done
    have a5':=Zo a5;by_cases a6:(s.cl.head.args.length:Int)=p.ar
    rotate_left
    ·rw[hbadS (by unfold okSt;rw[p1,p2,p3,a4,Zs a5,ZL a6];rfl)];have a6':=Zl a6;simp -dsimp -implicitDefEqProofs only[go_sem,seval,↓reduceIte,hck,wk,wc,a1,a2,a3',h3,a5',a6',Yd (Sto.pvs_get hs),YO,yw,yW,Xg,YA,YE,Tm.pvs_len,hl1,hl2,hms,Yp,z7 (Zd _)]
     done
    have a6':=Zo a6;have hok:okSt d.next p sn s=true:=by unfold okSt;rw[p1,p2,p3,a4,Zs a5,Zs a6];rfl
    rw[Zc hok] at hin;have hm3:m2=yd (sn++[s.id]):=by rw[hm2,hc0];exact kJ s.id sn a3
    simp -dsimp -implicitDefEqProofs only[go_sem,seval,↓reduceIte,hck,wk,wc,a1,a2,a3',h3,a5',a6',Yd (Sto.pvs_get hs),YO,yw,yW,Xg,YA,YE,Tm.pvs_len,hl1,hl2,hms,Yp,z7 (Zd _)];refine⟨sn++[s.id],hin,?_⟩;rw[hm3];rfl
   ·rintro sn hin;have hck:¬(p.cls.length:Int)<(p.cls.length:Int):=by omega
    rw[List.drop_length,okSs] at hin;rw[hin] at hRR;simp -dsimp -implicitDefEqProofs only[go_sem,seval,↓reduceIte,hck,w1];refine⟨sn,?_,?_⟩
    ·rw[hpp];exact hRR
    ·rfl
  ·have hRR:=hgood hpb;simp -dsimp -implicitDefEqProofs only[go_sem,seval,↓reduceIte,hc,w1,i0,Yd (Prc.pvs_get hpp),YA,YE,YU,Ye,Sto.pvs_len,h2,hvl,hg0,z7 (Zd _),getN hvl,Xd hvl,setN hvl,Xe hvl];clear hinv hbad hgood h1 h2;have hV2:V=vH d seen:=hV;rw[hV2];refine Yv (α:=List Int) p.cls.length (fun k sn=>okSs d.next p seen p.cls=okSs d.next p sn (p.cls.drop k)) (fun k sn=>⟨[(1,.ptr 0 0),(3,.map 1),(4,.pv none (.bool true)),(6,.ptr 2 0),(30,.pv none (.sl (some 4) (Prc.pvs d.procs))),(31,.pv none (.int .i64 d.procs.length)),(32,.pv none (.int .i64 i)),(59,.pv none (.sl (some 9) (Sto.pvs p.cls))),(60,.pv none (.int .i64 p.cls.length)),(61,.pv none (.int .i64 k))],[.box (some 2) (.pv (some 2) d.pv),.map none (YK (yd sn)),.box (some 4) (.pv (some 4) p.pv),.arr (some 9) [] false]⟩) seen ⟨rfl,rfl⟩ ?_ ?_
   ·rintro k sn hk hin;have hck:(k:Int)<(p.cls.length:Int):=by omega
    have wk:IntKind.i64.wrap ((k:Int)+1)=((k+1:Nat):Int):=by rw[Yf (by omega) (by omega)];omega
    obtain⟨s,hs⟩:∃s,p.cls[k]? =some s:=⟨_,Zf hk⟩;obtain⟨zs1,zs2⟩:=hz p hpm s (Zi hs);have h3:=fun hp=>xK s.cl zs1 zs2 hp;simp only[Cz.av] at h3;rw[js hs,okSs] at hin;obtain⟨c,hcc⟩:∃c:Int,c=if s.id∈sn then 1 else 0:=⟨_,rfl⟩
    have hc01:c=0\/c=1:=by rw[hcc];split <;> simp
    have wc:IntKind.i64.wrap (c+1)=c+1:=Yf (by omega) (by omega);obtain⟨m2,hm2⟩:∃m2,m2=mPut s.id (.int .i64 (c+1)) (yd sn):=⟨_,rfl⟩;have hl1:∀X,yf false none (.pv none (.int .i64 0)) false (.box (some 2) (.pv (some 2) d.pv)::.map none (YK (yd sn))::X) [.map 1,.pv none (.int .i64 s.id)]=some (.pv none (.int .i64 c)):=fun X=>by
     rw[jt (m:=yd sn) rfl,u5,hcc];by_cases hm:s.id∈sn
     ·rw[Zc hm,Zc hm]
     ·rw[Za hm,Za hm]
    have hl2:∀X,yf false none (.pv none (.int .i64 0)) false (.box (some 2) (.pv (some 2) d.pv)::.map none (YK m2)::X) [.map 1,.pv none (.int .i64 s.id)]=some (.pv none (.int .i64 (c+1))):=fun X=>by
     rw[jt (m:=m2) rfl,hm2,kz,Zc rfl]
    have hms:∀X,XE false none (.box (some 2) (.pv (some 2) d.pv)::.map none (YK (yd sn))::X) [.map 1,.pv none (.int .i64 s.id),.pv none (.int .i64 (c+1))]=some (.undef,.box (some 2) (.pv (some 2) d.pv)::.map none (YK m2)::X):=fun X=>by
     rw[kd (es:=YK (yd sn)) rfl (jr _ _ _),<-hm2];rfl
    have hbadS:okSt d.next p sn s=false->R=false:=fun h=>by
     rw[hRR,hin,h];rfl
    by_cases a1:s.id<1
    ·rw[hbadS (by unfold okSt;rw[ZL (by omega)];rfl)];simp -dsimp -implicitDefEqProofs only[go_sem,seval,↓reduceIte,hck,wk,wc,a1,Yd (Sto.pvs_get hs),YO,hl1,hl2,hms,Yp,z7 (Zd _)]
     done
    by_cases a2:d.next<=s.id
    ·rw[hbadS (by unfold okSt;rw[Zs (by omega),ZL (show ¬s.id<d.next by omega)];rfl)];simp -dsimp -implicitDefEqProofs only[go_sem,seval,↓reduceIte,hck,wk,wc,a1,a2,Yd (Sto.pvs_get hs),YO,yw,yW,Xg,YA,YE,Tm.pvs_len,hl1,hl2,hms,Yp,z7 (Zd _)]
     done
    have p1:decide (1<=s.id)=true:=Zs (by omega);have p2:decide (s.id<d.next)=true:=Zs (by omega);by_cases a3:s.id∈sn
    ·have hc1:c=1:=by rw[hcc,Zc a3]
     have a3':1<c+1:=by omega
     rw[hbadS (by unfold okSt;rw[p1,p2,ZL (by simpa using a3)];rfl)];simp -dsimp -implicitDefEqProofs only[go_sem,seval,↓reduceIte,hck,wk,wc,a1,a2,a3',Yd (Sto.pvs_get hs),YO,yw,yW,Xg,YA,YE,Tm.pvs_len,hl1,hl2,hms,Yp,z7 (Zd _)]
     done
    have hc0:c=0:=by rw[hcc,Za a3]
    have a3':¬1<c+1:=by omega
    have p3:decide (s.id ∉ sn)=true:=Zs a3;cases a4:okC s.cl with
    |false=>
     rw[hbadS (by unfold okSt;rw[p1,p2,p3,a4];rfl)];rw[a4] at h3;simp -dsimp -implicitDefEqProofs only[go_sem,seval,↓reduceIte,hck,wk,wc,a1,a2,a3',h3,Yd (Sto.pvs_get hs),YO,yw,yW,Xg,YA,YE,Tm.pvs_len,hl1,hl2,hms,Yp,z7 (Zd _)]
     done
    |true=>
    rw[a4] at h3;by_cases a5:s.cl.head.name=p.name
    rotate_left
    ·rw[hbadS (by unfold okSt;rw[p1,p2,p3,a4,ZL a5];rfl)];have a5':=Zl a5;simp -dsimp -implicitDefEqProofs only[go_sem,seval,↓reduceIte,hck,wk,wc,a1,a2,a3',h3,a5',Yd (Sto.pvs_get hs),YO,yw,yW,Xg,YA,YE,Tm.pvs_len,hl1,hl2,hms,Yp,z7 (Zd _)]
     done
    have a5':=Zo a5;by_cases a6:(s.cl.head.args.length:Int)=p.ar
    rotate_left
    ·rw[hbadS (by unfold okSt;rw[p1,p2,p3,a4,Zs a5,ZL a6];rfl)];have a6':=Zl a6;simp -dsimp -implicitDefEqProofs only[go_sem,seval,↓reduceIte,hck,wk,wc,a1,a2,a3',h3,a5',a6',Yd (Sto.pvs_get hs),YO,yw,yW,Xg,YA,YE,Tm.pvs_len,hl1,hl2,hms,Yp,z7 (Zd _)]
     done
    have a6':=Zo a6;have hok:okSt d.next p sn s=true:=by unfold okSt;rw[p1,p2,p3,a4,Zs a5,Zs a6];rfl
    rw[Zc hok] at hin;have hm3:m2=yd (sn++[s.id]):=by rw[hm2,hc0];exact kJ s.id sn a3
    simp -dsimp -implicitDefEqProofs only[go_sem,seval,↓reduceIte,hck,wk,wc,a1,a2,a3',h3,a5',a6',Yd (Sto.pvs_get hs),YO,yw,yW,Xg,YA,YE,Tm.pvs_len,hl1,hl2,hms,Yp,z7 (Zd _)];refine⟨sn++[s.id],hin,?_⟩;rw[hm3];rfl
   ·rintro sn hin;have hck:¬(p.cls.length:Int)<(p.cls.length:Int):=by omega
    rw[List.drop_length,okSs] at hin;rw[hin] at hRR;simp -dsimp -implicitDefEqProofs only[go_sem,seval,↓reduceIte,hck,w1];refine⟨sn,?_,?_⟩
    ·rw[hpp];exact hRR
    ·rfl
 ·rintro seen hinv;have hc:¬(d.procs.length:Int)<(d.procs.length:Int):=by omega
  rw[List.drop_length] at hinv;have:R=true:=by rw[hinv];rfl
  rw[this];simp -dsimp -implicitDefEqProofs only[go_sem,seval,↓reduceIte,hc]
  done
theorem kK:∀a:List UInt8,Op.bytesLess a a=false
 |[]=>rfl
 |x::r=>by
  have:=kK r;simp[Op.bytesLess,this]
theorem u6:∀a b c:List UInt8,Op.bytesLess a b=true->Op.bytesLess b c=true->Op.bytesLess a c=true
 |_,[],_,h,_=>by simp[Op.bytesLess] at h
 |_,_::_,[],_,h=>by simp[Op.bytesLess] at h
 |[],_::_,_::_,_,_=>rfl
 |x::a,y::b,z::c,h1,h2=>by
  simp only[Op.bytesLess,zk,Zg,Zw,beq_iff_eq] at h1 h2 ⊢;rcases h1 with h1|⟨rfl,h1⟩
  ·rcases h2 with h2|⟨rfl,h2⟩
   ·left;rw[UInt8.lt_iff_toNat_lt] at*;omega
   ·exact .inl h1
  ·rcases h2 with h2|⟨rfl,h2⟩
   ·exact .inl h2
   ·exact .inr ⟨rfl,u6 a b c h1 h2⟩
theorem kL{p q:Prc}:ordP p q<0↔Op.bytesLess p.name q.name=true\/(p.name=q.name/\p.ar<q.ar):=by
 unfold ordP strC intC;cases h:Op.bytesLess p.name q.name with
 |true=>simp
 |false=>
  by_cases hn:p.name=q.name
  ·simp only[hn,kK];by_cases ha:p.ar<q.ar
   ·simp[ha]
   ·by_cases hb:q.ar<p.ar
    ·simp[ha,hb]
    ·simp[ha,hb]
  ·simp[hn]
theorem qW{p q r:Prc}(h1:ordP p q<0)(h2:ordP q r<0):ordP p r<0:=by
 rw[kL] at h1 h2 ⊢;rcases h1 with h1|⟨e1,h1⟩
 ·rcases h2 with h2|⟨e2,h2⟩
  ·exact .inl (u6 _ _ _ h1 h2)
  ·exact .inl (e2▸h1)
 ·rcases h2 with h2|⟨e2,h2⟩
  ·exact .inl (e1▸h2)
  ·exact .inr ⟨e1.trans e2,by omega⟩
theorem ordP_zero{p q:Prc}:ordP p q=0↔p.name=q.name/\p.ar=q.ar:=by
 unfold ordP strC intC;cases h:Op.bytesLess p.name q.name with
 |true=>
  constructor
  ·intro h2;simp at h2
  ·rintro⟨e,_⟩;rw[e,kK] at h;cases h
 |false=>
  by_cases hn:p.name=q.name
  ·simp only[hn,true_and];by_cases ha:p.ar<q.ar
   ·simp[ha];omega
   ·by_cases hb:q.ar<p.ar
    ·simp[ha,hb];omega
    ·simp[ha,hb];omega
  ·simp[hn]
def lbD(l:List Prc)(q:Prc):Nat:=(l.takeWhile fun p=>decide (ordP p q<0)).length
def fnD(l:List Prc)(q:Prc):Bool:=match l[lbD l q]? with
 |some p=>decide (ordP p q=0)
 |none=>false
def IncP(l:List Prc):Prop:=∀(i j:Nat) (a b:Prc),i<j->l[i]? =some a->l[j]? =some b->ordP a b<0
theorem xL(l:List Prc)(q:Prc):lbD l q<=l.length:=by
 unfold lbD;exact(List.takeWhile_prefix _).length_le
theorem xl{q:Prc}:∀{l:List Prc} {k:Nat} {x:Prc},IncP l->l[k]? =some x->(ordP x q<0↔k<lbD l q)
 |[],k,x,_,h=>by simp at h
 |y::r,k,x,hi,h=>by
  have hr:IncP r:=fun i j a b hij ha hb=>hi (i+1) (j+1) a b (by omega) (by simpa using ha) (by simpa using hb);unfold lbD;rw[List.takeWhile_cons];by_cases hy:ordP y q<0
  ·rw[Zc (Zs hy),ZO];cases k with
   |zero=>
    simp at h;subst h;exact⟨fun _=>by omega,fun _=>hy⟩
   |succ k=>
    have:=xl (q:=q) hr (k:=k) (x:=x) (by simpa using h);rw[this];unfold lbD;omega
  ·rw[Za (by simpa using hy)];constructor
   ·intro hx;exfalso;cases k with
    |zero=>
     simp at h;subst h;exact hy hx
    |succ k=>exact hy (qW (hi 0 (k+1) y x (by omega) rfl h) hx)
   ·intro h0;simp at h0
theorem lK(p q:Prc)(hp:Heap):S 78 [p.av,q.av] hp=some (.ret (.pv none (.int .i64 (ordP p q))),hp):=by
 refine Ya rfl rfl rfl (z9 [(some 4,p.pv),(some 4,q.pv)]) rfl ?_;have h1:=fun hp=>u0 p q hp;simp only[Prc.av] at h1;simp -dsimp -implicitDefEqProofs only[go_sem,seval,↓reduceIte,Prc.av,h1]
 done
theorem lL(l:List Prc)(t:Prc)(hl:l.length<1000000000)(hi:IncP l)(hp:Heap):
  S 77 [.pv none (.sl (some 4) (Prc.pvs l)),.pv (some 4) t.pv,.pv none (.func (.func 78))] hp=some (.ret (.tuple [.pv none (.int .i64 (lbD l t:Int)),.pv none (.bool (fnD l t))]),hp):=by
 refine Ya rfl rfl rfl (z9 [(none,.sl (some 4) (Prc.pvs l)),(some 4,t.pv),(none,.func (.func 78))]) rfl ?_;have hlb:=xL l t;have hcmp:∀(x:Prc) hp,S 78 [.pv (some 4) x.pv,.pv (some 4) t.pv] hp=some (.ret (.pv none (.int .i64 (ordP x t))),hp):=fun x hp=>lK x t hp;simp -dsimp -implicitDefEqProofs only[go_sem,seval,↓reduceIte,Prc.pvs_len];refine Qn (fun n st=>∃i j:Nat,n=j - i/\i<=lbD l t/\lbD l t<=j/\j<=l.length/\st=⟨[(0,.pv none (.sl (some 4) (Prc.pvs l))),(2,.pv none (.func (.func 78))),(4,.ptr 0 0),(8,.pv none (.int .i64 (l.length:Int))),(9,.pv none (.int .i64 i)),(10,.pv none (.int .i64 j))],[.box (some 4) (.pv (some 4) t.pv)]⟩) (n:=l.length) ⟨0,l.length,by omega,by omega,hlb,by omega,?_⟩ ?_
 ·simp -dsimp -implicitDefEqProofs only[go_sem,seval,↓reduceIte]
  try rfl
 ·rintro n st ⟨i,j,hn,h1,h2,h3,rfl⟩;by_cases hij:i<j
  ·have hc:(i:Int)<(j:Int):=by omega
   obtain⟨x,hx⟩:∃x,l[(i+j) / 2]? =some x:=⟨_,Zf (by omega)⟩;have hcall:=hcmp x;have hs:=xl (q:=t) hi hx;have w1:IntKind.i64.wrap ((i:Int)+(j:Int))=((i+j:Nat):Int):=by rw[Yf (by omega) (by omega)];omega
   have w2:IntKind.u64.wrap ((i+j:Nat):Int)=((i+j:Nat):Int):=Lk (by omega) (by omega);have w3:IntKind.i64.wrap (((i+j:Nat):Int) / 2)=(((i+j) / 2:Nat):Int):=by rw[Yf (by omega) (by omega)];omega
   have w4:IntKind.i64.wrap ((((i+j) / 2:Nat):Int)+1)=(((i+j) / 2+1:Nat):Int):=by rw[Yf (by omega) (by omega)];omega
   by_cases h0:ordP x t<0
   ·simp -dsimp -implicitDefEqProofs only[go_sem,seval,↓reduceIte,Prc.pvs_len,hc,U1 (show 0<IntKind.bits .u64 by decide),w1,w2,w3,w4,Yd (Prc.pvs_get hx),hcall,h0];refine⟨j - ((i+j) / 2+1),by omega,(i+j) / 2+1,j,rfl,?_,h2,h3,rfl⟩;have:=hs.1 h0;omega
   ·simp -dsimp -implicitDefEqProofs only[go_sem,seval,↓reduceIte,Prc.pvs_len,hc,U1 (show 0<IntKind.bits .u64 by decide),w1,w2,w3,w4,Yd (Prc.pvs_get hx),hcall,h0];refine⟨(i+j) / 2 - i,by omega,i,(i+j) / 2,rfl,h1,?_,by omega,rfl⟩;have:¬(i+j) / 2<lbD l t:=fun h=>h0 (hs.2 h);omega
  ·have hc:¬(i:Int)<(j:Int):=by omega
   obtain rfl:i=lbD l t:=by omega
   by_cases hll:lbD l t<l.length
   ·have hc2:((lbD l t:Nat):Int)<(l.length:Int):=by omega
    obtain⟨x,hx⟩:∃x,l[lbD l t]? =some x:=⟨_,Zf hll⟩;have hcall:=hcmp x;have hf:fnD l t=decide (ordP x t=0):=by unfold fnD;rw[hx]
    simp -dsimp -implicitDefEqProofs only[go_sem,seval,↓reduceIte,Prc.pvs_len,hc,hc2,Yd (Prc.pvs_get hx),hcall,hf]
   ·have hc2:¬((lbD l t:Nat):Int)<(l.length:Int):=by omega
    have hf:fnD l t=false:=by unfold fnD;rw[zN (by omega)]
    simp -dsimp -implicitDefEqProofs only[go_sem,seval,↓reduceIte,Prc.pvs_len,hc,hc2,hf]
theorem XL(d:Dbs)(s:List UInt8)(a:Int)(hl:d.procs.length<1000000000)(hi:IncP d.procs)(hp:Heap):S 50 [d.av,.pv none (.str s),.pv none (.int .i64 a)] hp=some (.ret (.tuple [.pv none (.int .i64 (lbD d.procs ⟨s,a,false,[]⟩:Int)),.pv none (.bool (fnD d.procs ⟨s,a,false,[]⟩))]),hp):=by
 refine Ya rfl rfl rfl (z9 [(some 2,d.pv),(none,.str s),(none,.int .i64 a)]) rfl ?_;have hbu:Yi A2 [0,1] [.pv none (.str s),.pv none (.int .i64 a)]=some (.agg [(none,.pv none (.str s)),(none,.pv none (.int .i64 a)),(none,.pv none (.bool false)),(none,.tsl (some 9) [])]):=rfl;have h1:∀hp,S 77 [.pv none (.sl (some 4) (Prc.pvs d.procs)),.agg [(none,.pv none (.str s)),(none,.pv none (.int .i64 a)),(none,.pv none (.bool false)),(none,.tsl (some 9) [])],.pv none (.func (.func 78))] hp=some (.ret (.tuple [.pv none (.int .i64 (lbD d.procs ⟨s,a,false,[]⟩:Int)),.pv none (.bool (fnD d.procs ⟨s,a,false,[]⟩))]),hp):=fun hp=>
  Xa (F:=find tab) (prim:=prim) (ps:=[(none,.sl (some 4) (Prc.pvs d.procs)),(some 4,(Prc.mk s a false []).pv),(none,.func (.func 78))]) (hp1:=hp) rfl rfl rfl rfl (lL d.procs ⟨s,a,false,[]⟩ hl hi [])
 simp -dsimp -implicitDefEqProofs only[go_sem,seval,↓reduceIte,Dbs.av,Ye,hbu,h1]
 done
theorem u7(next:Int):∀(l:List Prc) (q:Option Prc) (seen:List Int),okPs next q seen l=true->(∀p,l.head? =some p->preB q p=true)/\IncP l
 |[],q,seen,_=>⟨fun p h=>(by cases h),fun i j a b _ h=>(by simp at h)⟩
 |x::r,q,seen,h=>by
  rw[okPs,Zg,Zg] at h;obtain⟨_,h2,h3⟩:=h;split at h3
  ·cases h3
  ·rename_i s' hs;obtain⟨g1,g2⟩:=u7 next r (some x) s' h3
   have hx:∀(j:Nat) (b:Prc),r[j]? =some b->ordP x b<0:=by
    intro j b hb;cases r with
    |nil=>simp at hb
    |cons y r'=>
     have h0:=g1 y rfl;have h0':ordP x y<0:=zi h0;cases j with
     |zero=>
      simp at hb;subst hb;exact h0'
     |succ j=>exact qW h0' (g2 0 (j+1) y b (by omega) rfl hb)
   refine⟨fun p hp=>(by cases hp;exact h2),fun i j a b hij ha hb=> ?_⟩;cases j with
   |zero=>omega
   |succ j=>
    cases i with
    |zero=>
     simp at ha;subst ha;exact hx j b (by simpa using hb)
    |succ i=>exact g2 i j a b (by omega) (by simpa using ha) (by simpa using hb)
def BndD(d:Dbs):Prop:=d.procs.length<1000000000/\totD d.procs<1000000000/\∀p∈d.procs,∀s∈p.cls,s.cl.head.size<100000000/\s.cl.body.size<100000000
theorem XM{d:Dbs}(h:okD d=true):IncP d.procs:=by
 simp only[okD,Zg] at h;exact(u7 _ _ _ _ h.2.2.2.2).2
theorem kM(d:Dbs)(hb:BndD d)(hp:Heap):S 33 [d.av] hp=some (.ret (.pv none (.int .i64 (if okD d=true then(totD d.procs:Int) else 0))),hp):=by
 refine Ya rfl rfl rfl (z9 [(some 2,d.pv)]) rfl ?_;have h1:=fun hp=>yx d hb.1 hb.2.1 hb.2.2 hp;have h2:=fun hp=>Qp d hb.1 hb.2.1 hp;simp only[Dbs.av] at h1 h2;by_cases h:okD d=true
 ·rw[h] at h1;rw[Zc h];simp -dsimp -implicitDefEqProofs only[go_sem,seval,↓reduceIte,Dbs.av,h1,h2]
 ·have h':okD d=false:=by simpa using h
  rw[h'] at h1;rw[Za h];simp -dsimp -implicitDefEqProofs only[go_sem,seval,↓reduceIte,Dbs.av,h1,h2]
def Sto.av(s:Sto):AV:=.pv (some 9) s.pv
theorem kN(s:Sto):PV.part deep s.pv 1 (some 4)=some s.cl.head.pv:=by
 cases s with|mk i c=>cases c with|mk h b=>cases h;rfl
theorem kO(s:Sto):PV.part deep s.pv 5 (some 4)=some s.cl.body.pv:=by
 cases s with|mk i c=>cases c with|mk h b=>cases h;cases b;rfl
theorem ju(s:Sto)(vh:s.cl.head.valid=true)(vb:s.cl.body.valid=true)(hp:Heap):S 54 [s.av] hp=some (.ret s.av,hp):=by
 refine Ya rfl rfl rfl (z9 [(some 9,s.pv)]) rfl ?_;have zh:=Xb vh;have zb:=Xb vb;have h1:=fun hp=>kn s.cl.head hp vh (by omega);have h2:=fun hp=>kn s.cl.body hp vb (by omega);have b1:Yi [(some 4,.agg A0),(some 4,.agg A0)] [0,1] [.pv (some 4) s.cl.head.pv,.pv (some 4) s.cl.body.pv]=some (.pv (some 8) s.cl.pv):=rfl;have b2:Yi A4 [0,1] [.pv none (.int .i64 s.id),.pv (some 8) s.cl.pv]=some (.pv (some 9) s.pv):=rfl;simp only[Tm.av] at h1 h2;simp -dsimp -implicitDefEqProofs only[b1,b2,g54,c54r0,c54r1,c54,go_sem,seval,↓reduceIte,Sto.av,YO,yw,kN,kO,h1,h2,z7 (Zd _)]
 done
def okCl(p:Prc):Prop:=∀s∈p.cls,s.cl.head.valid=true/\s.cl.body.valid=true
def pA(p:Prc)(q:Nat):AV:=.agg [(none,.pv none (.str p.name)),(none,.pv none (.int .i64 p.ar)),(none,.pv none (.bool p.dyn)),(none,.sl (some 9) q p.cls.length 0 p.cls.length)]
def zS:PV:=.agg [(none,.int .i64 0),(some 8,.agg [(some 4,.agg [(none,.int .i64 0),(none,.int .i64 0),(none,.str []),(none,.sl (some 4) [])]),(some 4,.agg [(none,.int .i64 0),(none,.int .i64 0),(none,.str []),(none,.sl (some 4) [])])])]
theorem lM{Γ:Oracle}{b:Nat}{vs:List AV}{hp:Heap}{K:AV->Heap->Prop}{Kp:PV->Heap->Prop}(sh:Sh):opK (aOp Γ b (.copy sh) vs hp) K Kp=YD (xw sh hp vs) K:=by
 show opK (match xw sh hp vs with|some (v,hp')=>some (OpRes.val v hp')|none=>none) K Kp=_;cases xw sh hp vs with
 |none=>rfl
 |some r=>cases r;rfl
theorem u9{α:Type}{l:List α}{i:Nat}{x:α}(h:l[i]? =some x):l.set i x=l:=by
 have hi:=(Zb.1 h);obtain⟨h1,h2⟩:=hi;rw[<-h2,List.set_getElem_self]
theorem Ga(p:Prc)(hl:p.cls.length<1000000)(hc:okCl p)(hp:Heap):S 60 [p.av] hp=some (.ret (pA p (hp.length+3)),hp++[.box (some 4) (pA p (hp.length+3)),.box (some 4) (pA p (hp.length+3)),.arr (some 9) [] false,.arr (some 9) (Sto.pvs p.cls) false]):=by
 refine Xn rfl rfl rfl rfl ?_;have hpl:=Sto.pvs_len p.cls;have hlim:p.cls.length<=lim:=by unfold lim;omega
 have hmk:∀H:Heap,xx (some 9) zS H [.pv none (.int .i64 p.cls.length),.pv none (.int .i64 p.cls.length)]=some (.sl (some 9) H.length p.cls.length 0 p.cls.length,H++[.arr (some 9) (List.replicate p.cls.length zS) false]):=fun H=>by
  simp[xx,hlim,XA]
 have hcp:∀x0 x1 x2:AObj,xw (some 9) (hp++[x0,x1,x2,.arr (some 9) (List.replicate p.cls.length zS) false]) [.sl (some 9) (hp.length+3) p.cls.length 0 p.cls.length,.pv none (.sl (some 9) (Sto.pvs p.cls))]=some (.pv none (.int .i64 p.cls.length),hp++[x0,x1,x2,.arr (some 9) (Sto.pvs p.cls) false]):=fun x0 x1 x2=>by
  have e:Nat.min p.cls.length p.cls.length=p.cls.length:=Nat.min_self _;have e2:List.take p.cls.length (Sto.pvs p.cls)=Sto.pvs p.cls:=Zq (by omega);simp[xw,elems,getN rfl,setN rfl,hpl,e,e2]
 simp only[zS] at hmk;simp -dsimp -implicitDefEqProofs only[go_sem,seval,↓reduceIte,Prc.av,YU,hpl,hmk,z7 (ZB _ _)];simp only[zS] at hcp;simp -dsimp -implicitDefEqProofs only[go_sem,seval,↓reduceIte,Prc.av,YU,hpl,lM,hcp,z7 (ZB _ _)];obtain⟨x1,hx1⟩:∃x1:AObj,x1=.box (some 4) (.agg [(none,.pv none (.str [])),(none,.pv none (.int .i64 0)),(none,.pv none (.bool false)),(none,.sl (some 9) (hp.length+2) 0 0 0)]):=⟨_,rfl⟩;rw[<-hx1];refine Yv (α:=Unit) p.cls.length (fun _ _=>True) (fun i _=>⟨[(1,.ptr hp.length 0),(2,.ptr (hp.length+1) 0),(3,.sl (some 9) (hp.length+3) p.cls.length 0 p.cls.length),(14,.sl (some 9) (hp.length+3) p.cls.length 0 p.cls.length),(15,.pv none (.int .i64 p.cls.length)),(16,.pv none (.int .i64 i))],hp++[.box (some 4) (.pv (some 4) p.pv),x1,.arr (some 9) [] false,.arr (some 9) (Sto.pvs p.cls) false]⟩) () ⟨trivial,rfl⟩ ?_ ?_
 ·rintro i - h -;have hcc:(i:Int)<(p.cls.length:Int):=by omega
  have w1:IntKind.i64.wrap ((i:Int)+1)=((i+1:Nat):Int):=by rw[Yf (by omega) (by omega)];omega
  obtain⟨s,hs⟩:∃s,p.cls[i]? =some s:=⟨_,Zf h⟩;obtain⟨vh,vb⟩:=hc s (Zi hs);have h3:=fun hp=>ju s vh vb hp;simp only[Sto.av] at h3;have hia:Yl (some 9) [.sl (some 9) (hp.length+3) p.cls.length 0 p.cls.length,.pv none (.int .i64 i)]=some (.eptr (some 9) (hp.length+3) p.cls.length i 0):=by
   have:=UQ (sh:=some 9) (s':=none) (k:=.i64) (r:=hp.length+3) (v:=p.cls.length) (o:=0) h;rw[Zy] at this;exact this
  have hld:∀(x0 x1 x2:AObj) (X:Heap),aload (some 9) (hp++x0::x1::x2::.arr (some 9) (Sto.pvs p.cls) false::X) (.eptr (some 9) (hp.length+3) p.cls.length i 0)=some (.pv (some 9) s.pv):=fun x0 x1 x2 X=>by
   simp[aload,getN rfl,hpl,Sto.pvs_get hs]
  have hst:∀(x0 x1 x2:AObj) (X:Heap),z8 (some 9) hp.length (hp++x0::x1::x2::.arr (some 9) (Sto.pvs p.cls) false::X) [.eptr (some 9) (hp.length+3) p.cls.length i 0,.pv (some 9) s.pv]=some (.undef,hp++x0::x1::x2::.arr (some 9) (Sto.pvs p.cls) false::X):=fun x0 x1 x2 X=>by
   have e:∀H,AV.freeze deep (.pv (some 9) s.pv) H=some (s.pv,H):=fun _=>rfl;have e2:=u9 (Sto.pvs_get hs);have hi:i<(Sto.pvs p.cls).length:=by omega
   simp[z8,astore,AV.shp,e,getN rfl,setN rfl,hpl,hi,h,e2]
  simp -dsimp -implicitDefEqProofs only[go_sem,seval,↓reduceIte,hcc,w1,hia,hld,hst,h3,z7 (ZB _ _)];refine⟨(),?_⟩;rw[jk 4 rfl rfl (by simp[hx1,AObj.refs,AV.refsIn,AV.refsIn.go]) (by simp[AV.refsIn])];rfl
 ·rintro - -;have hcc:¬(p.cls.length:Int)<(p.cls.length:Int):=by omega
  have hup:∀(q:Nat),AV.upd deep (.pv (some 4) p.pv) 3 none (.sl (some 9) q p.cls.length 0 p.cls.length)=some (pA p q):=fun q=>rfl;have hs1:∀x1 x2 x3:AObj,z8 none hp.length (hp++[.box (some 4) (.pv (some 4) p.pv),x1,x2,x3]) [.ptr hp.length 3,.sl (some 9) (hp.length+3) p.cls.length 0 p.cls.length]=some (.undef,hp++[.box (some 4) (pA p (hp.length+3)),x1,x2,x3]):=fun x1 x2 x3=>by
   simp[z8,astore,Xd rfl,Xe rfl,AV.plain,AV.shp,AV.own,hup]
  have hs2:∀(x0 x2 x3:AObj) (v:AV),z8 (some 4) hp.length (hp++[x0,.box (some 4) v,x2,x3]) [.ptr (hp.length+1) 0,pA p (hp.length+3)]=some (.undef,hp++[x0,.box (some 4) (pA p (hp.length+3)),x2,x3]):=fun x0 x2 x3 v=>by
   simp[z8,astore,getN rfl,setN rfl,pA,AV.plain,AV.shp,AV.own,Yb,YQ,total,Sh.size]
  rw[hx1];simp -dsimp -implicitDefEqProofs only[go_sem,seval,↓reduceIte,hcc,hs1,hs2];rw[Za (by simp[pA,AV.refsIn,AV.refsIn.go])]
theorem Q6{c:Cz}(h:okC c=true):c.head.valid=true/\c.body.valid=true:=by
 simp only[okC,Zg] at h;obtain⟨h1,_,_,h4,_⟩:=h;refine⟨h1,?_⟩;split at h4
 ·rename_i g hg;exact(uY hg).1
 ·cases h4
theorem Gb(next:Int)(p:Prc):∀(l:List Sto) (seen s':List Int),okSs next p seen l=some s'->∀s∈l,okC s.cl=true
 |[],_,_,_,s,hs=>by cases hs
 |x::r,seen,s',h,s,hs=>by
  rw[okSs] at h;split at h
  ·rename_i hx;rcases Zu.1 hs with rfl|hs
   ·simp only[okSt,Zg] at hx;exact hx.2.2.2.1
   ·exact Gb next p r _ s' h s hs
  ·cases h
theorem Gc(next:Int):∀(l:List Prc) (q:Option Prc) (seen:List Int),okPs next q seen l=true->∀p∈l,okCl p
 |[],_,_,_,p,hp=>by cases hp
 |x::r,q,seen,h,p,hp=>by
  rw[okPs,Zg,Zg] at h;obtain⟨_,_,h3⟩:=h;split at h3
  ·cases h3
  ·rename_i s' hs;rcases Zu.1 hp with rfl|hp
   ·exact fun s hs'=>Q6 (Gb next _ _ _ _ hs s hs')
   ·exact Gc next r (some x) s' h3 p hp
theorem yX{d:Dbs}(h:okD d=true):∀p∈d.procs,okCl p:=by
 simp only[okD,Zg] at h;exact Gc _ _ _ _ h.2.2.2.2
def zP:Prc:=⟨[],0,false,[]⟩
def keyP(s:List UInt8)(a:Int):Prc:=⟨s,a,false,[]⟩
def Ym(d:Dbs)(s:List UInt8)(a:Int):Option Prc:=if okD d=true then(if fnD d.procs (keyP s a)=true then d.procs[lbD d.procs (keyP s a)]? else none) else none
theorem lN(p:Prc)(q:Nat)(H:Heap)(z:Bool)(h:H[q]? =some (.arr (some 9) (Sto.pvs p.cls) z)):AV.freeze deep (pA p q) H=some (p.pv,H.set q (.arr (some 9) (Sto.pvs p.cls) true)):=by
 have e:∀n l hp,AV.freeze (n+1) (.agg l) hp=match AV.freeze.go n l hp with|some (ps,hp')=>some (.agg ps,hp')|none=>none:=fun _ _ _=>rfl
 show AV.freeze (7+1) (.agg _) _=_;simp[e,AV.freeze.go,AV.freeze,h,Sto.pvs_len,Prc.pv]
set_option maxRecDepth 20000 in
theorem Gd(d:Dbs)(hb:BndD d)(s:List UInt8)(a:Int)(hp:Heap):S 29 [d.av,.pv none (.str s),.pv none (.int .i64 a)] hp=some (.ret (.tuple [((Ym d s a).getD zP).av,.pv none (.bool (Ym d s a).isSome)]),hp):=by
 refine Ya rfl rfl rfl (z9 [(some 2,d.pv),(none,.str s),(none,.int .i64 a)]) rfl ?_;have h1:=fun hp=>yx d hb.1 hb.2.1 hb.2.2 hp;have hz0:Yi A2 [] []=some (.agg A2):=rfl;simp only[Dbs.av] at h1;by_cases hv:okD d=true
 rotate_left
 ·have hv':okD d=false:=by simpa using hv
  have e:Ym d s a=none:=by unfold Ym;rw[Za hv]
  rw[hv'] at h1;rw[e];simp -dsimp -implicitDefEqProofs only[go_sem,seval,↓reduceIte,Dbs.av,h1,hz0,z7 (Zd _)];exact⟨_,rfl⟩
 have hi:=XM hv;have h2:=fun hp=>XL d s a hb.1 hi hp;have ek:(⟨s,a,false,[]⟩:Prc)=keyP s a:=rfl;rw[ek] at h2;rw[hv] at h1;simp only[Dbs.av] at h2;by_cases hf:fnD d.procs (keyP s a)=true
 rotate_left
 ·have hf':fnD d.procs (keyP s a)=false:=by simpa using hf
  have e:Ym d s a=none:=by unfold Ym;rw[Zc hv,Za hf]
  rw[hf'] at h2;rw[e];simp -dsimp -implicitDefEqProofs only[go_sem,seval,↓reduceIte,Dbs.av,h1,h2,hz0,z7 (Zd _)];exact⟨_,rfl⟩
 rw[hf] at h2;obtain⟨p,hpp⟩:∃p,d.procs[lbD d.procs (keyP s a)]? =some p:=by
  unfold fnD at hf;split at hf
  ·rename_i p h;exact⟨p,h⟩
  ·cases hf
 have e:Ym d s a=some p:=by unfold Ym;rw[Zc hv,Zc hf,hpp]
 rw[e];have hpm:=Zi hpp;have hcl:=ye hpm;have htd:totD d.procs<=500:=by
  simp only[okD,Zg,Zw] at hv;exact hv.2.2.2.1
 have h3:=fun hp=>Ga p (by omega) (yX hv p hpm) hp;simp only[Prc.av] at h3;have hst:∀(x0 x2:AObj) (v:AV) (X:Heap),z8 (some 4) 0 (x0::.box (some 4) v::x2::X) [.ptr 1 0,pA p 6]=some (.undef,x0::.box (some 4) (pA p 6)::x2::X):=fun x0 x2 v X=>by
  simp[z8,astore,pA,AV.plain,AV.shp,AV.own,Yb,YQ,total,Sh.size]
 simp -dsimp -implicitDefEqProofs only[go_sem,seval,↓reduceIte,Dbs.av,h1,h2,h3,hz0,hst,Ye,Yd (Prc.pvs_get hpp)];obtain⟨H,hH⟩:∃H:Heap,H=[.box (some 2) (.pv (some 2) d.pv),.box (some 4) (pA p 6),.arr (some 9) [] false,.box (some 4) (pA p 6),.box (some 4) (pA p 6),.arr (some 9) [] false,.arr (some 9) (Sto.pvs p.cls) false]:=⟨_,rfl⟩;have hfz:=lN p 6 H false (by rw[hH];rfl);have e3:∀X,AV.freeze deep (.pv none (.bool true)) X=some (.bool true,X):=fun _=>rfl;have hsh:(pA p 6).shp=some 4:=rfl;have hr:YL ⟨[(6,.ptr 1 0),(7,.pv none (.bool true))],H⟩ (6,some (some 4))=some (pA p 6):=by
  rw[hH];simp[YL,Fr.look,aload]
 rw[<-hH,hr];show Am.frozen (.tuple [.pv (some 4) p.pv,.pv none (.bool true)]) (.tuple [pA p 6,.pv none (.bool true)]) H;refine⟨H.set 6 (.arr (some 9) (Sto.pvs p.cls) true),?_⟩;simp only[AV.freezeRes,Yn,hfz,e3,hsh];rfl
theorem lO(s:Sto)(id:Int)(hp:Heap)(r:Nat)(hr:hp[r]? =some (.box none (.pv none (.int .i64 id)))):S 85 [s.av,.ptr r 0] hp=some (.ret (.pv none (.bool (decide (s.id=id)))),hp):=by
 refine Xn rfl rfl rfl rfl ?_;have hr':∀X,(hp++X)[r]? =some (.box none (.pv none (.int .i64 id))):=fun X=>by rw[ji (YT hr),hr]
 simp -dsimp -implicitDefEqProofs only[go_sem,seval,↓reduceIte,Sto.av,YO,hr'];simp[AV.refsIn]
def idS(l:List Sto)(id:Int):Option Nat:=l.findIdx? fun s=>decide (s.id=id)
theorem kP{l:List Sto}{id:Int}{i:Nat}{s:Sto}(h:l[i]? =some s)(hs:s.id=id)(hb:∀(j:Nat) (u:Sto),j<i->l[j]? =some u->u.id≠id):idS l id=some i:=by
 unfold idS;rw[z6];obtain⟨hi,he⟩:=Zb.1 h;refine⟨hi,by rw[he];exact Zs hs,fun j hj=> ?_⟩;have hjl:j<l.length:=by omega
 simpa using hb j l[j] hj (Zf hjl)
theorem jv{l:List Sto}{id:Int}(hb:∀(j:Nat) (u:Sto),l[j]? =some u->u.id≠id):idS l id=none:=by
 unfold idS;rw[List.findIdx?_eq_none_iff];intro x hx;obtain⟨j,hj⟩:=ZS.1 hx;simpa using hb j x hj
def idI:Option Nat->Int
 |some i=>i
 |none=> -1
theorem lP(l:List Sto)(id:Int)(hl:l.length<1000000000)(hp:Heap)(r:Nat)(hr:hp[r]? =some (.box none (.pv none (.int .i64 id)))):S 84 [.pv none (.sl (some 9) (Sto.pvs l)),.func (.func 85) [] [.ptr r 0]] hp=some (.ret (.pv none (.int .i64 (idI (idS l id)))),hp):=by
 refine Xn rfl rfl rfl rfl ?_;have hw:=fun s=>lO s id hp r hr;simp only[Sto.av] at hw;simp -dsimp -implicitDefEqProofs only[go_sem,seval,↓reduceIte,Sto.pvs_len];refine Yv (α:=Unit) l.length (fun i _=>∀(j:Nat) (u:Sto),j<i->l[j]? =some u->u.id≠id) (fun i _=>⟨[(0,.pv none (.sl (some 9) (Sto.pvs l))),(1,.func (.func 85) [] [.ptr r 0]),(7,.pv none (.int .i64 l.length)),(8,.pv none (.int .i64 i))],hp⟩) () ⟨fun j u h=>by omega,rfl⟩ ?_ ?_
 ·rintro i - h hinv;have hc:(i:Int)<(l.length:Int):=by omega
  have w1:IntKind.i64.wrap ((i:Int)+1)=((i+1:Nat):Int):=by rw[Yf (by omega) (by omega)];omega
  obtain⟨s,hs⟩:∃s,l[i]? =some s:=⟨_,Zf h⟩;have hws:=hw s;by_cases he:s.id=id
  ·rw[Zs he] at hws;rw[kP hs he hinv];simp -dsimp -implicitDefEqProofs only[go_sem,seval,↓reduceIte,hc,w1,Yd (Sto.pvs_get hs),hws];exact⟨rfl,by simp[AV.refsIn]⟩
  ·rw[ZL he] at hws;simp -dsimp -implicitDefEqProofs only[go_sem,seval,↓reduceIte,hc,w1,Yd (Sto.pvs_get hs),hws];refine⟨(),fun j u hj hu=> ?_,?_⟩
   ·rcases Zv j i with k|k
    ·exact hinv j u k hu
    ·have:j=i:=by omega
     subst this;rw[hs] at hu;cases hu;exact he
   ·rw[kb rfl]
 ·rintro - hinv;have hc:¬(l.length:Int)<(l.length:Int):=by omega
  rw[jv fun j u hj=>hinv j u (Zb.1 hj).1 hj];simp -dsimp -implicitDefEqProofs only[go_sem,seval,↓reduceIte,hc];exact⟨rfl,by simp[AV.refsIn]⟩
def whR:List Prc->Int->Option (Nat × Nat)
 |[],_=>none
 |p::r,id=>match idS p.cls id with
  |some k=>some (0,k)
  |none=>match whR r id with
   |some x=>some (x.1+1,x.2)
   |none=>none
theorem jw{id:Int}{k:Nat}{p:Prc}:∀{l:List Prc} {i:Nat},l[i]? =some p->idS p.cls id=some k->(∀(j:Nat) (q:Prc),j<i->l[j]? =some q->idS q.cls id=none)->whR l id=some (i,k)
 |[],i,h,_,_=>by simp at h
 |x::r,0,h,hk,_=>by
  simp at h;subst h;rw[whR,hk]
 |x::r,i+1,h,hk,hb=>by
  have h0:=hb 0 x (by omega) rfl;have ih:=jw (l:=r) (i:=i) (by simpa using h) hk fun j q hj hq=>hb (j+1) q (by omega) (by simpa using hq);rw[whR,h0,ih]
theorem qX{id:Int}:∀{l:List Prc},(∀(j:Nat) (q:Prc),l[j]? =some q->idS q.cls id=none)->whR l id=none
 |[],_=>rfl
 |x::r,hb=>by
  have h0:=hb 0 x rfl;have ih:=qX (l:=r) fun j q hq=>hb (j+1) q (by simpa using hq);rw[whR,h0,ih]
theorem kQ(d:Dbs)(id:Int)(hl:d.procs.length<1000000000)(ht:totD d.procs<1000000000)(hp:Heap):S 55 [d.av,.pv none (.int .i64 id)] hp=some (.ret (match whR d.procs id with|some x=>.tuple [.pv none (.int .i64 x.1),.pv none (.int .i64 x.2),.pv none (.bool true)]|none=>.tuple [.pv none (.int .i64 0),.pv none (.int .i64 0),.pv none (.bool false)]),hp):=by
 refine Ya rfl rfl rfl (z9 [(some 2,d.pv),(none,.int .i64 id)]) rfl ?_;simp -dsimp -implicitDefEqProofs only[go_sem,seval,↓reduceIte,Dbs.av,Ye,Prc.pvs_len];refine Yv (α:=Unit) d.procs.length (fun i _=>∀(j:Nat) (q:Prc),j<i->d.procs[j]? =some q->idS q.cls id=none) (fun i _=>⟨[(3,.ptr 1 0),(11,.pv none (.sl (some 4) (Prc.pvs d.procs))),(12,.pv none (.int .i64 d.procs.length)),(13,.pv none (.int .i64 i))],[.box (some 2) (.pv (some 2) d.pv),.box none (.pv none (.int .i64 id))]⟩) () ⟨fun j u h=>by omega,rfl⟩ ?_ ?_
 ·rintro i - h hinv;have hc:(i:Int)<(d.procs.length:Int):=by omega
  have w1:IntKind.i64.wrap ((i:Int)+1)=((i+1:Nat):Int):=by rw[Yf (by omega) (by omega)];omega
  obtain⟨p,hpp⟩:∃p,d.procs[i]? =some p:=⟨_,Zf h⟩;have hpl:=ye (Zi hpp);have hix:∀(x0:AObj) (X:Heap),S 84 [.pv none (.sl (some 9) (Sto.pvs p.cls)),.func (.func 85) [] [.ptr 1 0]] (x0::.box none (.pv none (.int .i64 id))::X)=some (.ret (.pv none (.int .i64 (idI (idS p.cls id)))),x0::.box none (.pv none (.int .i64 id))::X):=fun x0 X=>lP p.cls id (by omega) _ 1 rfl;cases hk:idS p.cls id with
  |some k=>
   rw[hk] at hix;have hk0:(0:Int)<=idI (some k):=by show(0:Int)<=(k:Int);omega
   rw[jw hpp hk hinv];simp -dsimp -implicitDefEqProofs only[go_sem,seval,↓reduceIte,hc,w1,Yd (Prc.pvs_get hpp),YU,hix,hk0,z7 (Zd _)];rfl
  |none=>
   rw[hk] at hix;have hk0:¬(0:Int)<=idI none:=by decide
   simp -dsimp -implicitDefEqProofs only[go_sem,seval,↓reduceIte,hc,w1,Yd (Prc.pvs_get hpp),YU,hix,hk0,z7 (Zd _)];refine⟨(),fun j q hj hq=> ?_,rfl⟩;rcases Zv j i with k|k
   ·exact hinv j q k hq
   ·have:j=i:=by omega
    subst this;rw[hpp] at hq;cases hq;exact hk
 ·rintro - hinv;have hc:¬(d.procs.length:Int)<(d.procs.length:Int):=by omega
  rw[qX fun j u hj=>hinv j u (Zb.1 hj).1 hj];simp -dsimp -implicitDefEqProofs only[go_sem,seval,↓reduceIte,hc]
  done
theorem lQ{l:List Sto}{id:Int}{k:Nat}(h:idS l id=some k):∃s,l[k]? =some s/\s.id=id:=by
 unfold idS at h;rw[z6] at h;obtain⟨hk,h1,_⟩:=h;exact⟨l[k],Zf hk,zi h1⟩
theorem qY{id:Int}:∀{l:List Prc} {i k:Nat},whR l id=some (i,k)->∃p s,l[i]? =some p/\p.cls[k]? =some s/\s.id=id
 |[],i,k,h=>by cases h
 |x::r,i,k,h=>by
  rw[whR] at h;split at h
  ·rename_i k' hk;cases h;obtain⟨s,h1,h2⟩:=lQ hk;exact⟨x,s,rfl,h1,h2⟩
  ·split at h
   ·rename_i y hy;cases h;obtain⟨p,s,h1,h2,h3⟩:=qY (i:=y.1) (k:=y.2) hy;exact⟨p,s,by simpa using h1,h2,h3⟩
   ·cases h
def xM:Sto:=⟨0,⟨zt,zt⟩⟩
def getR(d:Dbs)(id:Int):Option Sto:=if okD d=true then(match whR d.procs id with
 |some x=>(d.procs[x.1]?).bind fun p=>p.cls[x.2]?
 |none=>none) else none
set_option maxRecDepth 20000 in
theorem lR(d:Dbs)(hb:BndD d)(id:Int)(hp:Heap):S 31 [d.av,.pv none (.int .i64 id)] hp=some (.ret (.tuple [((getR d id).getD xM).av,.pv none (.bool (getR d id).isSome)]),hp):=by
 refine Ya rfl rfl rfl (z9 [(some 2,d.pv),(none,.int .i64 id)]) rfl ?_;have h1:=fun hp=>yx d hb.1 hb.2.1 hb.2.2 hp;have h2:=fun hp=>kQ d id hb.1 hb.2.1 hp;have hz0:Yi A4 [] []=some (.agg A4):=rfl;simp only[Dbs.av] at h1 h2;by_cases hv:okD d=true
 rotate_left
 ·have hv':okD d=false:=by simpa using hv
  have e:getR d id=none:=by unfold getR;rw[Za hv]
  rw[hv'] at h1;rw[e];simp -dsimp -implicitDefEqProofs only[go_sem,seval,↓reduceIte,Dbs.av,h1,hz0,z7 (Zd _)];exact⟨_,rfl⟩
 rw[hv] at h1;cases hw:whR d.procs id with
 |none=>
  have e:getR d id=none:=by unfold getR;rw[Zc hv,hw]
  rw[hw] at h2;rw[e];simp only[] at h2;simp -dsimp -implicitDefEqProofs only[go_sem,seval,↓reduceIte,Dbs.av,h1,h2,hz0,z7 (Zd _)];exact⟨_,rfl⟩
 |some x=>
  obtain⟨i,k⟩:=x;obtain⟨p,s,hpp,hs,hsi⟩:=qY hw;have e:getR d id=some s:=by unfold getR;rw[Zc hv,hw];simp[hpp,hs]
  obtain⟨vh,vb⟩:=yX hv p (Zi hpp) s (Zi hs);have h3:=fun hp=>ju s vh vb hp;rw[hw] at h2;simp only[Sto.av] at h2 h3;rw[e];simp -dsimp -implicitDefEqProofs only[go_sem,seval,↓reduceIte,Dbs.av,h1,h2,h3,hz0,Ye,YU,Yd (Prc.pvs_get hpp),Yd (Sto.pvs_get hs),z7 (Zd _)];exact⟨_,rfl⟩
theorem Ge{t:Tm}(h:t.valid=true):same t t=true:=by simp[same,h,Tm.cmp_zero]
theorem Gf(s:Sto)(vh:s.cl.head.valid=true)(vb:s.cl.body.valid=true)(hp:Heap):S 36 [s.av,s.av] hp=some (.ret (.pv none (.bool true)),hp):=by
 refine Ya rfl rfl rfl (z9 [(some 9,s.pv),(some 9,s.pv)]) rfl ?_;have zh:=Xb vh;have zb:=Xb vb;have h1:=fun hp=>Q1 s.cl.head s.cl.head hp (by omega) (by omega);have h2:=fun hp=>Q1 s.cl.body s.cl.body hp (by omega) (by omega);rw[Ge vh] at h1;rw[Ge vb] at h2;simp only[Tm.av] at h1 h2;simp -dsimp -implicitDefEqProofs only[go_sem,seval,↓reduceIte,Sto.av,YO,kN,kO,h1,h2]
 done
set_option maxRecDepth 20000 in
theorem Gg(p:Prc)(hl:p.cls.length<1000000000)(hc:okCl p)(hp:Heap):S 35 [p.av,p.av] hp=some (.ret (.pv none (.bool true)),hp):=by
 refine Ya rfl rfl rfl (z9 [(some 4,p.pv),(some 4,p.pv)]) rfl ?_;have e1:=eq_self p.name;have hb:∀b:Bool,(b == b)=true:=fun b=>by cases b <;> rfl
 simp -dsimp -implicitDefEqProofs only[go_sem,seval,↓reduceIte,Prc.av,YA,YE,uZ,YU,Sto.pvs_len,hb];refine Yv (α:=Unit) p.cls.length (fun _ _=>True) (fun i _=>⟨[(2,.ptr 0 0),(3,.ptr 1 0),(5,.pv none (.int .i64 i))],[.box (some 4) (.pv (some 4) p.pv),.box (some 4) (.pv (some 4) p.pv)]⟩) () ⟨trivial,rfl⟩ ?_ ?_
 ·rintro i - h -;have hcc:(i:Int)<(p.cls.length:Int):=by omega
  have w1:IntKind.i64.wrap ((i:Int)+1)=((i+1:Nat):Int):=by rw[Yf (by omega) (by omega)];omega
  obtain⟨s,hs⟩:∃s,p.cls[i]? =some s:=⟨_,Zf h⟩;obtain⟨vh,vb⟩:=hc s (Zi hs);have h3:=fun hp=>Gf s vh vb hp;simp only[Sto.av] at h3;simp -dsimp -implicitDefEqProofs only[go_sem,seval,↓reduceIte,hcc,w1,YU,Sto.pvs_len,Yd (Sto.pvs_get hs),h3];exact⟨(),trivial⟩
 ·rintro - -;have hcc:¬(p.cls.length:Int)<(p.cls.length:Int):=by omega
  simp -dsimp -implicitDefEqProofs only[go_sem,seval,↓reduceIte,hcc,YU,Sto.pvs_len]
  done
def nilD:Dbs:=⟨1,[]⟩
theorem lS(hp:Heap):S 12 [] hp=some (.ret nilD.av,hp):=by
 refine Ya (ps:=[]) rfl rfl rfl rfl rfl ?_;have hbu:Yi A1 [0] [.pv none (.int .i64 1)]=some (.agg [(none,.pv none (.int .i64 1)),(none,.nilv (some 4))]):=rfl;have hnil:∀H:Heap,Yb A3 H=(A3,H):=fun _=>rfl;simp -dsimp -implicitDefEqProofs only[go_sem,seval,↓reduceIte,hbu,hnil,z7 (Zd _)];exact⟨_,rfl⟩
def qZ:AV:=.agg A2
def elsA(l:List Prc)(b i:Nat):List AV:=l.mapIdx fun j p=>if j<i then pA p (b+6*j) else qZ
theorem YV(l:List Prc)(b i:Nat):(elsA l b i).length=l.length:=by simp[elsA]
theorem lT(l:List Prc)(b:Nat):elsA l b 0=List.replicate l.length qZ:=by
 refine zz fun j=> ?_;simp[elsA,List.getElem?_mapIdx,zU];by_cases h:j<l.length
 ·simp[h]
 ·simp[h]
theorem Gh{l:List Prc}{b i:Nat}{p:Prc}(h:l[i]? =some p):(elsA l b i).set i (pA p (b+6*i))=elsA l b (i+1):=by
 refine zz fun j=> ?_;have hi:=(Zb.1 h).1;rw[List.getElem?_set];by_cases hj:i=j
 ·subst hj;have he:l[i]=p:=(Zb.1 h).2;simp[elsA,List.getElem?_mapIdx,h,hi,he]
 ·simp only[Za hj];simp only[elsA,List.getElem?_mapIdx];cases l[j]? with
  |none=>rfl
  |some x=>
   have e:(j<i)=(j<i+1):=propext ⟨fun _=>by omega,fun _=>by omega⟩;simp[e]
def cE(p:Prc)(b:Nat):Heap:=[.box (some 4) (.pv (some 4) p.pv),.arr (some 9) [] false,.box (some 4) (pA p b),.box (some 4) (pA p b),.arr (some 9) [] false,.arr (some 9) (Sto.pvs p.cls) false]
def cEs:List Prc->Nat->Heap
 |[],_=>[]
 |p::r,b=>cE p b++cEs r (b+6)
theorem Gi:∀(l:List Prc) (b:Nat),(cEs l b).length=6*l.length
 |[],_=>rfl
 |p::r,b=>by rw[cEs,Zj,Gi r,ZO];show 6+_=_;omega
theorem Gj:∀(l:List Prc) (p:Prc) (b:Nat),cEs (l++[p]) b=cEs l b++cE p (b+6*l.length)
 |[],p,b=>by simp[cEs]
 |x::r,p,b=>by
  rw[ZK,cEs,Gj r p (b+6),cEs,ZD,ZO]
  congr 2
  congr 1
  omega
theorem kR{n b:Nat}{fr:Fr}{hp:Heap}{k:Nat}{o:AObj}(hk:b<=k)(hn:k<n)(ho:hp[k]? =some o)(hr:o.refs.all (fun q=>decide (q<n))=false):collect n b fr hp=hp:=by
 unfold collect;rw[Za];intro h;rw[Zg] at h;have h2:=Zx.1 h.2 o (by
  refine ZS.2 ⟨k - b,?_⟩;rw[ZI,ZG,Zc (by omega),show b+(k - b)=k by omega];exact ho)
 rw[hr] at h2;cases h2
def dA(d:Dbs)(q:Nat):AV:=.agg [(none,.pv none (.int .i64 d.next)),(none,.slv (some 4) q d.procs.length 0 d.procs.length)]
theorem lU{Γ:Oracle}{b:Nat}{vs:List AV}{hp:Heap}{K:AV->Heap->Prop}{Kp:PV->Heap->Prop}(sh:Sh)(z:AV):opK (aOp Γ b (.mkslicev sh z) vs hp) K Kp=YD (xy sh z hp vs) K:=by
 show opK (match xy sh z hp vs with|some (v,hp')=>some (OpRes.val v hp')|none=>none) K Kp=_;cases xy sh z hp vs with
 |none=>rfl
 |some r=>cases r;rfl
theorem Q7(d:Dbs)(hl:d.procs.length<1000000)(hcl:∀p∈d.procs,p.cls.length<1000000/\okCl p)(hp:Heap):S 51 [d.av] hp=some (.ret (dA d (hp.length+2)),hp++([.box (some 2) (dA d (hp.length+2)),.box (some 2) (dA d (hp.length+2)),.arv (some 4) (elsA d.procs (hp.length+8) d.procs.length)]++cEs d.procs (hp.length+8))):=by
 refine Xn rfl rfl rfl rfl ?_;have hpl:=Prc.pvs_len d.procs;have hlim:d.procs.length<=lim:=by unfold lim;omega
 have hnil:∀H:Heap,Yb A3 H=(A3,H):=fun _=>rfl;have hmk:∀H:Heap,xy (some 4) qZ H [.pv none (.int .i64 d.procs.length),.pv none (.int .i64 d.procs.length)]=some (.slv (some 4) H.length d.procs.length 0 d.procs.length,H++[.arv (some 4) (List.replicate d.procs.length qZ)]):=fun H=>by
  simp[xy,hlim,XA]
 simp only[qZ] at hmk;simp -dsimp -implicitDefEqProofs only[go_sem,seval,↓reduceIte,Dbs.av,Ye,hpl,hnil,hmk,lU,z7 (ZB _ _)];obtain⟨x1,hx1⟩:∃x1:AObj,x1=.box (some 2) (.agg A1):=⟨_,rfl⟩;rw[<-hx1];obtain⟨b0,hb0⟩:∃b0,b0=hp.length+8:=⟨_,rfl⟩;rw[<-hb0];obtain⟨PP,hPP⟩:∃PP:Nat->Heap->Heap,PP=fun j e=>hp++([.box (some 2) (.pv (some 2) d.pv),x1,.arv (some 4) (elsA d.procs b0 j)]++e):=⟨_,rfl⟩;have hPa:∀j e X,PP j e++X=PP j (e++X):=fun j e X=>by rw[hPP];simp
 have hPl:∀j e,(PP j e).length=hp.length+3+e.length:=fun j e=>by rw[hPP];simp;omega
 have hP2:∀j e,(PP j e)[hp.length+2]? =some (.arv (some 4) (elsA d.procs b0 j)):=fun j e=>by rw[hPP];exact getN rfl 2
 refine Yv (α:=Unit) d.procs.length (fun _ _=>True) (fun i _=>⟨[(1,.ptr hp.length 0),(2,.ptr (hp.length+1) 0),(3,.slv (some 4) (hp.length+2) d.procs.length 0 d.procs.length),(11,.pv none (.sl (some 4) (Prc.pvs d.procs))),(12,.pv none (.int .i64 d.procs.length)),(13,.pv none (.int .i64 i))],PP i (cEs (d.procs.take i) b0)⟩) () ⟨trivial,by rw[hPP];simp only[lT];rfl⟩ ?_ ?_
 ·rintro i - h -;have hcc:(i:Int)<(d.procs.length:Int):=by omega
  have w1:IntKind.i64.wrap ((i:Int)+1)=((i+1:Nat):Int):=by rw[Yf (by omega) (by omega)];omega
  obtain⟨p,hpp⟩:∃p,d.procs[i]? =some p:=⟨_,Zf h⟩;obtain⟨c1,c2⟩:=hcl p (Zi hpp);obtain⟨e,he⟩:∃e,e=cEs (d.procs.take i) b0:=⟨_,rfl⟩;have hel:e.length=6*i:=by rw[he,Gi,Zh];omega
  obtain⟨n,hn⟩:∃n,n=hp.length+3+6*i:=⟨_,rfl⟩;have hpn:∀j,(PP j e).length=n:=fun j=>by rw[hPl,hel,hn]
  have hbn:hp.length<=n:=by omega
  have hpr:S 60 [.pv (some 4) p.pv] (PP i e++[.box (some 4) (.pv (some 4) p.pv),.arr (some 9) [] false])=some (.ret (pA p (n+5)),PP i e++[.box (some 4) (.pv (some 4) p.pv),.arr (some 9) [] false,.box (some 4) (pA p (n+5)),.box (some 4) (pA p (n+5)),.arr (some 9) [] false,.arr (some 9) (Sto.pvs p.cls) false]):=by
   have h3:=Ga p c1 c2 (PP i e++[.box (some 4) (.pv (some 4) p.pv),.arr (some 9) [] false]);rw[Zj,hpn,ZD] at h3;exact h3
  have hia:Yl (some 4) [.slv (some 4) (hp.length+2) d.procs.length 0 d.procs.length,.pv none (.int .i64 i)]=some (.epv (some 4) (hp.length+2) d.procs.length i 0):=by
   simp[Yl,aindex,h]
  have hst:∀X,z8 (some 4) hp.length (PP i e++X) [.epv (some 4) (hp.length+2) d.procs.length i 0,pA p (n+5)]=some (.undef,PP (i+1) e++X):=fun X=>by
   have hq:n+5=b0+6*i:=by omega
   have hs:=Gh (b:=b0) hpp;have hg:(PP i e++X)[hp.length+2]? =some (.arv (some 4) (elsA d.procs b0 i)):=by rw[hPa];exact hP2 _ _
   have hset:(PP i e++X).set (hp.length+2) (.arv (some 4) (elsA d.procs b0 (i+1)))=PP (i+1) e++X:=by
    rw[hPa,hPa,hPP];exact setN rfl 2 _
   have hlt:i<(elsA d.procs b0 i).length:=by rw[YV];exact h
   obtain⟨old,ho⟩:∃old,(elsA d.procs b0 i)[i]? =some old:=⟨_,Zf hlt⟩;have hpln:(pA p (b0+6*i)).plain=true:=rfl;have hsh:(pA p (b0+6*i)).shp=some 4:=rfl;rw[hq];simp[z8,astore,hg,YV,ho,hpln,hsh,hs,hset]
  rw[<-he];simp -dsimp -implicitDefEqProofs only[go_sem,seval,↓reduceIte,hcc,w1,Yd (Prc.pvs_get hpp),hpr,hia,hst,z7 (ZY hbn (ZB _ _)),hpn,getN (hpn _),Xd (hpn _),setN (hpn _),Xe (hpn _)];refine⟨(),?_⟩;have hgi:(elsA d.procs b0 (i+1))[i]? =some (pA p (b0+6*i)):=by
   rw[<-Gh hpp];simp[YV,h]
  have hrf:(AObj.arv (some 4) (elsA d.procs b0 (i+1))).refs.all (fun q=>decide (q<hp.length+3))=false:=by
   rw[List.all_eq_false];refine⟨b0+6*i,(XV _ _).2 ⟨_,Zi hgi,by simp[pA,AV.refsIn,AV.refsIn.go]⟩,by simp;omega⟩
  rw[kR (k:=hp.length+2) (by omega) (by omega) (by rw[hPa];exact hP2 _ _) hrf];have htk:d.procs.take (i+1)=d.procs.take i++[p]:=by rw[zV,hpp];rfl
  have hli:(d.procs.take i).length=i:=by rw[Zh];omega
  rw[hPa,htk,Gj,hli,<-he];have hq:n+5=b0+6*i:=by omega
  rw[hq];rfl
 ·rintro - -;have hcc:¬(d.procs.length:Int)<(d.procs.length:Int):=by omega
  have hup:∀(q:Nat),AV.upd deep (.pv (some 2) d.pv) 1 none (.slv (some 4) q d.procs.length 0 d.procs.length)=some (dA d q):=fun q=>rfl;have hs1:∀(x1 x2:AObj) (X:Heap),z8 none hp.length (hp++.box (some 2) (.pv (some 2) d.pv)::x1::x2::X) [.ptr hp.length 1,.slv (some 4) (hp.length+2) d.procs.length 0 d.procs.length]=some (.undef,hp++.box (some 2) (dA d (hp.length+2))::x1::x2::X):=fun x1 x2 X=>by
   simp[z8,astore,Xd rfl,Xe rfl,AV.plain,AV.shp,AV.own,hup]
  have hs2:∀(x0 x2:AObj) (v:AV) (X:Heap),z8 (some 2) hp.length (hp++x0::.box (some 2) v::x2::X) [.ptr (hp.length+1) 0,dA d (hp.length+2)]=some (.undef,hp++x0::.box (some 2) (dA d (hp.length+2))::x2::X):=fun x0 x2 v X=>by
   simp[z8,astore,getN rfl,setN rfl,dA,AV.plain,AV.shp,AV.own,Yb,YQ,total,Sh.size]
  rw[ZP,hPP,hx1];simp -dsimp -implicitDefEqProofs only[go_sem,seval,↓reduceIte,hcc,hs1,hs2];rw[Za (by simp[dA,AV.refsIn,AV.refsIn.go])]
end Go.Proofs.YtligpohiokpnhaaGreat
