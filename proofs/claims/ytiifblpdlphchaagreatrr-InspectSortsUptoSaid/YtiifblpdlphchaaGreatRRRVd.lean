/- What is proved: the library's merging in place merges. -/
import Derived.Test.YtiifblpdlphchaaGreatRRSwap
import Derived.Test.YtiifblpdlphchaaGreatRRAm4
set_option linter.unusedSimpArgs false
set_option linter.unusedVariables false
namespace Go.Proofs.YtiifblpdlphchaaGreatRR
open Go.Am
theorem zvT(c:PV->PV->Int)(fv:AV)(D:PV->Prop)(hp:Heap)(r:Nat)(hg:CmpF c fv D hp r)(hr:r<hp.length)(xs:List PV)(N a i0 j0:Nat)(hN:xs.length=N)(hN':N<1000000000)(ha:a<N)(hj:j0<=N)(hij:i0<=j0)(hD:∀h,h<N->D (at' xs h))
  (hm:∀h h',i0<=h'->h'<=h->h<j0->c (at' xs h) (at' xs a)<0->c (at' xs h') (at' xs a)<0)
  (fr:Fr)(Q:AExit->St->Prop)
  (hfr:fr.keep [0,1,4,10,11]=[(0,.sl (some 4) r N 0 N),(1,.pv none (.int .i64 a)),(4,fv),(10,.pv none (.int .i64 i0)),(11,.pv none (.int .i64 j0))])
  (h:∀k,i0<=k->k<=j0->(∀h,i0<=h->h<k->c (at' xs h) (at' xs a)<0)->(∀h,k<=h->h<j0->¬c (at' xs h) (at' xs a)<0)->∀rest,Q (.exit 0) ⟨(0,.sl (some 4) r N 0 N)::(1,.pv none (.int .i64 a))::(4,fv)::(10,.pv none (.int .i64 k))::rest,hp.set r (.arr (some 4) xs false)⟩):
  W Z L hp.length (.loop [0,1,4,10,11] c148b11) ⟨fr,hp.set r (.arr (some 4) xs false)⟩ Q:=by
 have e1:∀A,(hp.set r A)[r]? =some A:=fun A=>by simp[hr]
 refine za9 (fun n st=>∃i j:Nat,n=j - i/\i0<=i/\i<=j/\j<=j0/\(∀h,i0<=h->h<i->c (at' xs h) (at' xs a)<0)/\(∀h,j<=h->h<j0->¬c (at' xs h) (at' xs a)<0)/\
  st=⟨[(0,.sl (some 4) r N 0 N),(1,.pv none (.int .i64 a)),(4,fv),(10,.pv none (.int .i64 i)),(11,.pv none (.int .i64 j))],hp.set r (.arr (some 4) xs false)⟩) (n:=j0 - i0) ⟨i0,j0,rfl,by omega,hij,by omega,fun h h1 h2=>by omega,fun h h1 h2=>by omega,?_⟩ ?_
 ·rw[hfr]
 ·rintro n st ⟨i,j,hn,h1,h2,h3,h4,h5,rfl⟩
  by_cases hlt:i<j
  ·have hc:(i:Int)<(j:Int):=by omega
   have w1:IntKind.i64.wrap ((i:Int)+(j:Int))=((i+j:Nat):Int):=by rw[zaq (by omega) (by omega)];omega
   have w2:IntKind.u64.wrap ((i+j:Nat):Int)=((i+j:Nat):Int):=zf8 (by omega) (by omega)
   have w3:IntKind.i64.wrap (((i+j:Nat):Int) / 2)=(((i+j) / 2:Nat):Int):=by rw[zaq (by omega) (by omega)];omega
   have w4:IntKind.i64.wrap ((((i+j) / 2:Nat):Int)+1)=(((i+j) / 2+1:Nat):Int):=by rw[zaq (by omega) (by omega)];omega
   have lh:(i+j) / 2<N:=by omega
   have gh:=zef (xs:=xs) (i:=(i+j) / 2) (by omega)
   have ga:=zef (xs:=xs) (i:=a) (by omega)
   obtain⟨g,fs,cs,hcal,hg'⟩:=hg
   have hcall:=hg' _ _ (hD _ lh) (hD a ha)
   by_cases h0:c (at' xs ((i+j) / 2)) (at' xs a)<0
   ·simp -dsimp -implicitDefEqProofs only[c148b11,c148b19,c148b33,c148b41,c148b62,c148r64,c148r65,c148k67,c148r68,c148k70,c148r71,c148k73,go_sem,seval,↓reduceIte,hc,zfV (show 0<IntKind.bits .u64 by decide),w1,w2,w3,w4,zao lh,zao ha,zaJ,e1,gh,ga,hN,hcall,zb0 hcal,h0]
    refine⟨j - ((i+j) / 2+1),by omega,(i+j) / 2+1,j,rfl,by omega,by omega,h3,fun h x1 x2=>hm _ _ x1 (by omega) (by omega) h0,h5,?_⟩
    rw[zav (by simp)]
   ·simp -dsimp -implicitDefEqProofs only[c148b11,c148b19,c148b33,c148b41,c148b62,c148r64,c148r65,c148k67,c148r68,c148k70,c148r71,c148k73,go_sem,seval,↓reduceIte,hc,zfV (show 0<IntKind.bits .u64 by decide),w1,w2,w3,w4,zao lh,zao ha,zaJ,e1,gh,ga,hN,hcall,zb0 hcal,h0]
    refine⟨(i+j) / 2 - i,by omega,i,(i+j) / 2,rfl,h1,by omega,by omega,h4,fun h x1 x2 x3=>h0 (hm _ _ (by omega) x1 x2 x3),?_⟩
    rw[zav (by simp)]
  ·have hc:¬(i:Int)<(j:Int):=by omega
   obtain rfl:i=j:=by omega
   simp -dsimp -implicitDefEqProofs only[c148b11,c148b19,c148b33,c148b41,c148b62,c148r64,c148r65,c148k67,c148r68,c148k70,c148r71,c148k73,go_sem,seval,↓reduceIte,hc]
   exact h i h1 h3 h4 h5 _
theorem zvU(c:PV->PV->Int)(fv:AV)(D:PV->Prop)(hp:Heap)(r:Nat)(hg:CmpF c fv D hp r)(hr:r<hp.length)(xs:List PV)(N m i0 j0:Nat)(hN:xs.length=N)(hN':N<1000000000)(ha:m<N)(hj:j0<=N)(hij:i0<=j0)(hD:∀h,h<N->D (at' xs h))
  (hm:∀h h',i0<=h'->h'<=h->h<j0->¬c (at' xs m) (at' xs h)<0->¬c (at' xs m) (at' xs h')<0)
  (fr:Fr)(Q:AExit->St->Prop)
  (hfr:fr.keep [0,2,4,14,15]=[(0,.sl (some 4) r N 0 N),(2,.pv none (.int .i64 m)),(4,fv),(14,.pv none (.int .i64 i0)),(15,.pv none (.int .i64 j0))])
  (h:∀k,i0<=k->k<=j0->(∀h,i0<=h->h<k->¬c (at' xs m) (at' xs h)<0)->(∀h,k<=h->h<j0->c (at' xs m) (at' xs h)<0)->∀rest,Q (.exit 4) ⟨(0,.sl (some 4) r N 0 N)::(2,.pv none (.int .i64 m))::(4,fv)::(14,.pv none (.int .i64 k))::rest,hp.set r (.arr (some 4) xs false)⟩):
  W Z L hp.length (.loop [0,2,4,14,15] c148b33) ⟨fr,hp.set r (.arr (some 4) xs false)⟩ Q:=by
 have e1:∀A,(hp.set r A)[r]? =some A:=fun A=>by simp[hr]
 refine za9 (fun n st=>∃i j:Nat,n=j - i/\i0<=i/\i<=j/\j<=j0/\(∀h,i0<=h->h<i->¬c (at' xs m) (at' xs h)<0)/\(∀h,j<=h->h<j0->c (at' xs m) (at' xs h)<0)/\
  st=⟨[(0,.sl (some 4) r N 0 N),(2,.pv none (.int .i64 m)),(4,fv),(14,.pv none (.int .i64 i)),(15,.pv none (.int .i64 j))],hp.set r (.arr (some 4) xs false)⟩) (n:=j0 - i0) ⟨i0,j0,rfl,by omega,hij,by omega,fun h h1 h2=>by omega,fun h h1 h2=>by omega,?_⟩ ?_
 ·rw[hfr]
 ·rintro n st ⟨i,j,hn,h1,h2,h3,h4,h5,rfl⟩
  by_cases hlt:i<j
  ·have hc:(i:Int)<(j:Int):=by omega
   have w1:IntKind.i64.wrap ((i:Int)+(j:Int))=((i+j:Nat):Int):=by rw[zaq (by omega) (by omega)];omega
   have w2:IntKind.u64.wrap ((i+j:Nat):Int)=((i+j:Nat):Int):=zf8 (by omega) (by omega)
   have w3:IntKind.i64.wrap (((i+j:Nat):Int) / 2)=(((i+j) / 2:Nat):Int):=by rw[zaq (by omega) (by omega)];omega
   have w4:IntKind.i64.wrap ((((i+j) / 2:Nat):Int)+1)=(((i+j) / 2+1:Nat):Int):=by rw[zaq (by omega) (by omega)];omega
   have lh:(i+j) / 2<N:=by omega
   have gh:=zef (xs:=xs) (i:=(i+j) / 2) (by omega)
   have ga:=zef (xs:=xs) (i:=m) (by omega)
   obtain⟨g,fs,cs,hcal,hg'⟩:=hg
   have hcall:=hg' _ _ (hD m ha) (hD _ lh)
   by_cases h0:c (at' xs m) (at' xs ((i+j) / 2))<0
   ·simp -dsimp -implicitDefEqProofs only[c148b11,c148b19,c148b33,c148b41,c148b62,c148r64,c148r65,c148k67,c148r68,c148k70,c148r71,c148k73,go_sem,seval,↓reduceIte,hc,zfV (show 0<IntKind.bits .u64 by decide),w1,w2,w3,w4,zao lh,zao ha,zaJ,e1,gh,ga,hN,hcall,zb0 hcal,h0]
    refine⟨(i+j) / 2 - i,by omega,i,(i+j) / 2,rfl,h1,by omega,by omega,h4,fun h x1 x2=>Classical.byContradiction fun x3=>hm _ _ (by omega) x1 x2 x3 h0,?_⟩
    rw[zav (by simp)]
   ·simp -dsimp -implicitDefEqProofs only[c148b11,c148b19,c148b33,c148b41,c148b62,c148r64,c148r65,c148k67,c148r68,c148k70,c148r71,c148k73,go_sem,seval,↓reduceIte,hc,zfV (show 0<IntKind.bits .u64 by decide),w1,w2,w3,w4,zao lh,zao ha,zaJ,e1,gh,ga,hN,hcall,zb0 hcal,h0]
    refine⟨j - ((i+j) / 2+1),by omega,(i+j) / 2+1,j,rfl,by omega,by omega,h3,fun h x1 x2=>hm _ _ x1 (by omega) (by omega) h0,h5,?_⟩
    rw[zav (by simp)]
  ·have hc:¬(i:Int)<(j:Int):=by omega
   obtain rfl:i=j:=by omega
   simp -dsimp -implicitDefEqProofs only[c148b11,c148b19,c148b33,c148b41,c148b62,c148r64,c148r65,c148k67,c148r68,c148k70,c148r71,c148k73,go_sem,seval,↓reduceIte,hc]
   exact h i h1 h3 h4 h5 _
theorem ztC(c:PV->PV->Int)(fv:AV)(D:PV->Prop)(hp:Heap)(r:Nat)(hg:CmpF c fv D hp r)(hr:r<hp.length)(xs:List PV)(N a m b mid n p i0 j0:Nat)(hN:xs.length=N)(hN':N<1000000000)(hj:j0<=N)(hp1:p<N+i0)(hp2:j0<=p+1)(hij:i0<=j0)(hD:∀h,h<N->D (at' xs h))
  (hm:∀h h',i0<=h'->h'<=h->h<j0->¬c (at' xs (p - h)) (at' xs h)<0->¬c (at' xs (p - h')) (at' xs h')<0)(hb:p<1000000000+1000000000)
  (fr:Fr)(Q:AExit->St->Prop)
  (hfr:fr.keep [0,1,2,3,4,18,19,20,21,22]=[(0,.sl (some 4) r N 0 N),(1,.pv none (.int .i64 a)),(2,.pv none (.int .i64 m)),(3,.pv none (.int .i64 b)),(4,fv),(18,.pv none (.int .i64 mid)),(19,.pv none (.int .i64 n)),(20,.pv none (.int .i64 i0)),(21,.pv none (.int .i64 j0)),(22,.pv none (.int .i64 p))])
  (h:∀k,i0<=k->k<=j0->(∀h,i0<=h->h<k->¬c (at' xs (p - h)) (at' xs h)<0)->(∀h,k<=h->h<j0->c (at' xs (p - h)) (at' xs h)<0)->
   ∀rest,Q (.exit 8) ⟨(0,.sl (some 4) r N 0 N)::(1,.pv none (.int .i64 a))::(2,.pv none (.int .i64 m))::(3,.pv none (.int .i64 b))::(4,fv)::(18,.pv none (.int .i64 mid))::(19,.pv none (.int .i64 n))::(20,.pv none (.int .i64 k))::rest,hp.set r (.arr (some 4) xs false)⟩):
  W Z L hp.length (.loop [0,1,2,3,4,18,19,20,21,22] c148b62) ⟨fr,hp.set r (.arr (some 4) xs false)⟩ Q:=by
 have e1:∀A,(hp.set r A)[r]? =some A:=fun A=>by simp[hr]
 refine za9 (fun k st=>∃i j:Nat,k=j - i/\i0<=i/\i<=j/\j<=j0/\(∀h,i0<=h->h<i->¬c (at' xs (p - h)) (at' xs h)<0)/\(∀h,j<=h->h<j0->c (at' xs (p - h)) (at' xs h)<0)/\
  st=⟨[(0,.sl (some 4) r N 0 N),(1,.pv none (.int .i64 a)),(2,.pv none (.int .i64 m)),(3,.pv none (.int .i64 b)),(4,fv),(18,.pv none (.int .i64 mid)),(19,.pv none (.int .i64 n)),(20,.pv none (.int .i64 i)),(21,.pv none (.int .i64 j)),(22,.pv none (.int .i64 p))],hp.set r (.arr (some 4) xs false)⟩) (n:=j0 - i0) ⟨i0,j0,rfl,by omega,hij,by omega,fun h h1 h2=>by omega,fun h h1 h2=>by omega,?_⟩ ?_
 ·rw[hfr]
 ·rintro k st ⟨i,j,hn,h1,h2,h3,h4,h5,rfl⟩
  by_cases hlt:i<j
  ·have hc:(i:Int)<(j:Int):=by omega
   have w1:IntKind.i64.wrap ((i:Int)+(j:Int))=((i+j:Nat):Int):=by rw[zaq (by omega) (by omega)];omega
   have w2:IntKind.u64.wrap ((i+j:Nat):Int)=((i+j:Nat):Int):=zf8 (by omega) (by omega)
   have w3:IntKind.i64.wrap (((i+j:Nat):Int) / 2)=(((i+j) / 2:Nat):Int):=by rw[zaq (by omega) (by omega)];omega
   have w4:IntKind.i64.wrap ((((i+j) / 2:Nat):Int)+1)=(((i+j) / 2+1:Nat):Int):=by rw[zaq (by omega) (by omega)];omega
   have w5:IntKind.i64.wrap ((p:Int) - (((i+j) / 2:Nat):Int))=((p - (i+j) / 2:Nat):Int):=by rw[zaq (by omega) (by omega)];omega
   have lh:(i+j) / 2<N:=by omega
   have lp:p - (i+j) / 2<N:=by omega
   have gh:=zef (xs:=xs) (i:=(i+j) / 2) (by omega)
   have ga:=zef (xs:=xs) (i:=p - (i+j) / 2) (by omega)
   obtain⟨g,fs,cs,hcal,hg'⟩:=hg
   have hcall:=hg' _ _ (hD _ lp) (hD _ lh)
   by_cases h0:c (at' xs (p - (i+j) / 2)) (at' xs ((i+j) / 2))<0
   ·simp -dsimp -implicitDefEqProofs only[c148b11,c148b19,c148b33,c148b41,c148b62,c148r64,c148r65,c148k67,c148r68,c148k70,c148r71,c148k73,go_sem,seval,↓reduceIte,hc,zfV (show 0<IntKind.bits .u64 by decide),w1,w2,w3,w4,w5,zao lh,zao lp,zaJ,e1,gh,ga,hN,hcall,zb0 hcal,h0]
    refine⟨(i+j) / 2 - i,by omega,i,(i+j) / 2,rfl,h1,by omega,by omega,h4,fun h x1 x2=>Classical.byContradiction fun x3=>hm _ _ (by omega) x1 x2 x3 h0,?_⟩
    rw[zav (by simp)]
   ·simp -dsimp -implicitDefEqProofs only[c148b11,c148b19,c148b33,c148b41,c148b62,c148r64,c148r65,c148k67,c148r68,c148k70,c148r71,c148k73,go_sem,seval,↓reduceIte,hc,zfV (show 0<IntKind.bits .u64 by decide),w1,w2,w3,w4,w5,zao lh,zao lp,zaJ,e1,gh,ga,hN,hcall,zb0 hcal,h0]
    refine⟨j - ((i+j) / 2+1),by omega,(i+j) / 2+1,j,rfl,by omega,by omega,h3,fun h x1 x2=>hm _ _ x1 (by omega) (by omega) h0,h5,?_⟩
    rw[zav (by simp)]
  ·have hc:¬(i:Int)<(j:Int):=by omega
   obtain rfl:i=j:=by omega
   simp -dsimp -implicitDefEqProofs only[c148b11,c148b19,c148b33,c148b41,c148b62,c148r64,c148r65,c148k67,c148r68,c148k70,c148r71,c148k73,go_sem,seval,↓reduceIte,hc]
   exact h i h1 h3 h4 h5 _

theorem zwn(hp:Heap)(r:Nat)(hr:r<hp.length)(N i a:Nat)(P B1 T:List PV)(x:PV)(hP:P.length=a)(hi:i=a+1+B1.length)(hN:N=(P++x::B1++T).length)(hN':N<1000000000)(fr:Fr)(Q:AExit->St->Prop)
  (hfr:fr.keep [0,10,13]=[(0,.sl (some 4) r N 0 N),(10,.pv none (.int .i64 i)),(13,.pv none (.int .i64 a))])
  (h:∀fr,Q (.exit 2) ⟨fr,hp.set r (.arr (some 4) (P++B1++x::T) false)⟩):
  W Z L hp.length (.loop [0,10,13] c148b19) ⟨fr,hp.set r (.arr (some 4) (P++x::B1++T) false)⟩ Q:=by
 have e1:∀A,(hp.set r A)[r]? =some A:=fun A=>by simp[hr]
 have hNl:N=P.length+B1.length+T.length+1:=by(rw[hN];simp <;> omega)
 have w0:IntKind.i64.wrap ((i:Int) - 1)=((a+B1.length:Nat):Int):=by rw[zaq (by omega) (by omega)];omega
 refine za9 (fun k st=>∃(C1 C2:List PV),k=C2.length/\B1=C1++C2/\st=⟨[(0,.sl (some 4) r N 0 N),(10,.pv none (.int .i64 i)),(13,.pv none (.int .i64 ((a+C1.length:Nat):Int)))],hp.set r (.arr (some 4) (P++C1++x::C2++T) false)⟩) (n:=B1.length) ⟨[],B1,rfl,rfl,?_⟩ ?_
 ·rw[hfr]
  simp
 ·rintro k st ⟨C1,C2,hk,hB,rfl⟩
  have hBl:B1.length=C1.length+C2.length:=by rw[hB];simp
  have hlen:(P++C1++x::C2++T).length=N:=by(simp <;> omega)
  cases C2 with
  |nil=>
   have hc:¬((a+C1.length:Nat):Int)<((a+B1.length:Nat):Int):=by simp at hBl;omega
   simp -dsimp -implicitDefEqProofs only[c148b11,c148b19,c148b33,c148b41,c148b62,c148r64,c148r65,c148k67,c148r68,c148k70,c148r71,c148k73,go_sem,seval,↓reduceIte,hc,w0]
   rw[List.append_nil] at hB
   have e:P++C1++[x]++T=P++B1++x::T:=by rw[hB];simp
   rw[e]
   exact h _
  |cons y C2=>
   simp only[List.length_cons] at hBl hk
   have hc:((a+C1.length:Nat):Int)<((a+B1.length:Nat):Int):=by omega
   have w1:IntKind.i64.wrap (((a+C1.length:Nat):Int)+1)=((a+C1.length+1:Nat):Int):=by rw[zaq (by omega) (by omega)];omega
   have la:a+C1.length<N:=by omega
   have lb:a+C1.length+1<N:=by omega
   have s1:P++C1++x::y::C2++T=(P++C1)++x::(y::C2++T):=by simp
   have s2:P++C1++x::y::C2++T=(P++C1++[x])++y::(C2++T):=by simp
   have g1:(P++C1++x::y::C2++T)[a+C1.length]? =some x:=by rw[s1];exact zdB (by simp;omega)
   have g2:(P++C1++x::y::C2++T)[a+C1.length+1]? =some y:=by rw[s2];exact zdB (by simp;omega)
   have g3:((P++C1++x::y::C2++T).set (a+C1.length) y).set (a+C1.length+1) x=P++(C1++[y])++x::C2++T:=by
    rw[s1,zdC (by simp;omega)]
    have s3:(P++C1)++y::(y::C2++T)=(P++C1++[y])++y::(C2++T):=by simp
    rw[s3,zdC (by simp;omega)]
    simp
   generalize hxs:P++C1++x::y::C2++T=xs at g1 g2 g3 hlen ⊢
   simp -dsimp -implicitDefEqProofs only[c148b11,c148b19,c148b33,c148b41,c148b62,c148r64,c148r65,c148k67,c148r68,c148k70,c148r71,c148k73,go_sem,seval,↓reduceIte,hc,w0,w1,zao la,zao lb,zaJ,zbZ,e1,g1,g2,hlen,List.length_set,List.set_set,la,lb,g3]
   refine⟨C2.length,by omega,C1++[y],C2,rfl,by rw[hB];simp,?_⟩
   rw[zav (by simp)]
   simp
   rfl
theorem zwo(hp:Heap)(r:Nat)(hr:r<hp.length)(N i m:Nat)(P A2 T:List PV)(y:PV)(hP:P.length=i)(hi:m=i+A2.length)(hN:N=(P++A2++y::T).length)(hN':N<1000000000)(fr:Fr)(Q:AExit->St->Prop)
  (hfr:fr.keep [0,14,17]=[(0,.sl (some 4) r N 0 N),(14,.pv none (.int .i64 i)),(17,.pv none (.int .i64 m))])
  (h:∀fr,Q (.exit 6) ⟨fr,hp.set r (.arr (some 4) (P++y::A2++T) false)⟩):
  W Z L hp.length (.loop [0,14,17] c148b41) ⟨fr,hp.set r (.arr (some 4) (P++A2++y::T) false)⟩ Q:=by
 have e1:∀A,(hp.set r A)[r]? =some A:=fun A=>by simp[hr]
 have hNl:N=P.length+A2.length+T.length+1:=by(rw[hN];simp <;> omega)
 refine za9 (fun k st=>∃(C1 C2:List PV),k=C1.length/\A2=C1++C2/\st=⟨[(0,.sl (some 4) r N 0 N),(14,.pv none (.int .i64 i)),(17,.pv none (.int .i64 ((i+C1.length:Nat):Int)))],hp.set r (.arr (some 4) (P++C1++y::C2++T) false)⟩) (n:=A2.length) ⟨A2,[],rfl,by simp,?_⟩ ?_
 ·rw[hfr,hi]
  simp
 ·rintro k st ⟨C1,C2,hk,hB,rfl⟩
  have hBl:A2.length=C1.length+C2.length:=by rw[hB];simp
  have hlen:(P++C1++y::C2++T).length=N:=by(simp <;> omega)
  rcases zde C1 with rfl|⟨C3,x,rfl⟩
  ·have hc:¬((i:Nat):Int)<((i+([]:List PV).length:Nat):Int):=by simp
   simp -dsimp -implicitDefEqProofs only[c148b11,c148b19,c148b33,c148b41,c148b62,c148r64,c148r65,c148k67,c148r68,c148k70,c148r71,c148k73,go_sem,seval,↓reduceIte,hc,Int.lt_irrefl]
   rw[List.nil_append] at hB
   have e:P++[]++y::C2++T=P++y::A2++T:=by rw[hB];simp
   rw[e]
   exact h _
  ·have hxl:(C3++[x]).length=C3.length+1:=by simp
   have hc:((i:Nat):Int)<((i+(C3++[x]).length:Nat):Int):=by rw[hxl];omega
   have w1:IntKind.i64.wrap (((i+(C3++[x]).length:Nat):Int) - 1)=((i+C3.length:Nat):Int):=by rw[zaq (by omega) (by omega)];omega
   have la:i+(C3++[x]).length<N:=by omega
   have lb:i+C3.length<N:=by omega
   have s1:P++(C3++[x])++y::C2++T=(P++(C3++[x]))++y::(C2++T):=by simp
   have s2:P++(C3++[x])++y::C2++T=(P++C3)++x::(y::C2++T):=by simp
   have g1:(P++(C3++[x])++y::C2++T)[i+(C3++[x]).length]? =some y:=by rw[s1];exact zdB (by simp;omega)
   have g2:(P++(C3++[x])++y::C2++T)[i+C3.length]? =some x:=by rw[s2];exact zdB (by simp;omega)
   have g3:((P++(C3++[x])++y::C2++T).set (i+(C3++[x]).length) x).set (i+C3.length) y=P++C3++y::(x::C2)++T:=by
    rw[s1,zdC (by simp;omega)]
    have s3:(P++(C3++[x]))++x::(C2++T)=(P++C3)++x::(x::C2++T):=by simp
    rw[s3,zdC (by simp;omega)]
    simp
   generalize hxs:P++(C3++[x])++y::C2++T=xs at g1 g2 g3 hlen ⊢
   simp -dsimp -implicitDefEqProofs only[c148b11,c148b19,c148b33,c148b41,c148b62,c148r64,c148r65,c148k67,c148r68,c148k70,c148r71,c148k73,go_sem,seval,↓reduceIte,hc,w1,zao la,zao lb,zaJ,zbZ,e1,g1,g2,hlen,List.length_set,List.set_set,la,lb,g3]
   refine⟨C3.length,by omega,C3,x::C2,rfl,by rw[hB];simp,?_⟩
   rw[zav (by simp)]

set_option maxHeartbeats 4000000 in
theorem ztD(c:PV->PV->Int)(hC:Cmp c)(fv:AV)(D:PV->Prop)(hp:Heap)(r:Nat)(hg:CmpF c fv D hp r)(hr:r<hp.length)(N:Nat)(hN':N<100000000):∀(d a m b:Nat) (P A B R:List PV),b - a<=d->P.length=a->m=a+A.length->b=m+B.length->N=(P++A++B++R).length->0<A.length->0<B.length->Srt c A->Srt c B->(∀x∈P++A++B++R,D x)->
  S 148 [.sl (some 4) r N 0 N,.pv none (.int .i64 a),.pv none (.int .i64 m),.pv none (.int .i64 b),fv] (hp.set r (.arr (some 4) (P++A++B++R) false))=some (.ret (.tuple []),hp.set r (.arr (some 4) (P++mrg c A B++R) false)):=by
 intro d
 induction d with
 |zero=>intro a m b P A B R hd hP hm hb hN hA hB;omega
 |succ d ih=>
  intro a m b P A B R hd hP hm hb hN hA hB sA sB hD
  have hNl:N=P.length+A.length+B.length+R.length:=by(rw[hN];simp <;> omega)
  have hDat:∀h,h<N->D (at' (P++A++B++R) h):=fun h hh=>hD _ (zvm (by omega))
  have hsl:(hp.set r (.arr (some 4) (P++A++B++R) false)).length=hp.length:=by simp
  have w1:IntKind.i64.wrap ((m:Int) - (a:Int))=((A.length:Nat):Int):=by rw[zaq (by omega) (by omega)];omega
  have w2:IntKind.i64.wrap ((b:Int) - (m:Int))=((B.length:Nat):Int):=by rw[zaq (by omega) (by omega)];omega
  have atA:∀k,k<A.length->at' (P++A++B++R) (a+k)=at' A k:=fun k hk=>by
   have:=ztn (P:=P) (A:=A) (R:=B++R) hP hk
   rwa [<-List.append_assoc] at this
  have atB:∀k,k<B.length->at' (P++A++B++R) (m+k)=at' B k:=fun k hk=>ztn (P:=P++A) (A:=B) (R:=R) (by simp;omega) hk
  refine zaD rfl rfl rfl rfl ?_
  rw[hsl]
  by_cases hA1:A.length=1
  ·obtain⟨x,rfl⟩:∃x,A=[x]:=List.length_eq_one_iff.1 hA1
   have hc1:((1:Nat):Int)=1:=rfl
   simp -dsimp -implicitDefEqProofs only[c148b33,c148b41,c148b62,c148r64,c148r65,c148k67,c148r68,c148k70,c148r71,c148k73,go_sem,seval,↓reduceIte,w1,hc1]
   refine zvT c fv D hp r hg hr _ N a m b hN.symm (by omega) (by omega) (by omega) (by omega) hDat (fun h h' h1 h2 h3 h4=> ?_) _ _ rfl fun k k1 k2 k3 k4 rest=> ?_
   ·have e1:=atB (h - m) (by omega)
    have e2:=atB (h' - m) (by omega)
    rw[show m+(h - m)=h by omega] at e1
    rw[show m+(h' - m)=h' by omega] at e2
    rw[e1] at h4
    rw[e2]
    exact hC.lt_of_le_lt (zcJ hC sB (by omega) (by omega)) h4
   ·have e0:=atA 0 (by simp)
    rw[Nat.add_zero] at e0
    have e0':at' [x] 0=x:=rfl
    rw[e0'] at e0
    rw[e0] at k3 k4
    simp -dsimp -implicitDefEqProofs only[c148b33,c148b41,c148b62,c148r64,c148r65,c148k67,c148r68,c148k70,c148r71,c148k73,go_sem,seval,↓reduceIte]
    have hsplit:P++[x]++B++R=P++x::(B.take (k - m))++(B.drop (k - m)++R):=by
     rw[show P++[x]++B++R=P++[x]++(B.take (k - m)++B.drop (k - m))++R by rw[List.take_append_drop]]
     simp only[List.append_assoc,List.cons_append,List.nil_append]
    have hmr:mrg c [x] B=B.take (k - m)++x::B.drop (k - m):=by
     have h1:=zdz hC (A:=[]) (U:=[x]) (V:=B.take (k - m)) (B:=B.drop (k - m)) (fun _ h=>by simp at h) (fun u hu v hv=>by
      simp at hu;subst hu
      obtain⟨i,hi,rfl⟩:=zdl hv
      simp at hi
      rw[zfn (by omega)]
      have:=k3 (m+i) (by omega) (by omega)
      rwa [atB i (by omega)] at this)
     have h2:mrg c [x] (B.drop (k - m))=x::B.drop (k - m):=zfm hC (A:=[x]) fun u hu v hv=>by
      simp at hu;subst hu
      obtain⟨i,hi,rfl⟩:=zdl hv
      simp at hi
      rw[zfo]
      have:=k4 (k+i) (by omega) (by omega)
      have e:=atB (k - m+i) (by omega)
      rw[show m+(k - m+i)=k+i by omega] at e
      rw[e] at this
      have:=hC.neg u (at' B (k - m+i))
      omega
     rw[List.take_append_drop,List.nil_append,zee,h2] at h1
     exact h1
    rw[hsplit]
    refine zwn hp r hr N k a P (B.take (k - m)) (B.drop (k - m)++R) x hP (by simp at hm ⊢;omega) (by rw[<-hsplit];exact hN) (by omega) _ _ rfl fun fr=> ?_
    simp -dsimp -implicitDefEqProofs only[c148b33,c148b41,c148b62,c148r64,c148r65,c148k67,c148r68,c148k70,c148r71,c148k73,go_sem,seval,↓reduceIte]
    rw[List.take_of_length_le (by simp),hmr]
    simp
  ·have hA1':¬((A.length:Nat):Int)=1:=by omega
   by_cases hB1:B.length=1
   ·obtain⟨y,rfl⟩:∃y,B=[y]:=List.length_eq_one_iff.1 hB1
    have hc1:((1:Nat):Int)=1:=rfl
    simp -dsimp -implicitDefEqProofs only[c148b11,c148b19,c148b62,c148r64,c148r65,c148k67,c148r68,c148k70,c148r71,c148k73,go_sem,seval,↓reduceIte,w1,w2,hA1',hc1]
    have e0:=atB 0 (by simp)
    rw[Nat.add_zero] at e0
    have e0':at' [y] 0=y:=rfl
    rw[e0'] at e0
    refine zvU c fv D hp r hg hr _ N m a m hN.symm (by omega) (by simp at hNl;omega) (by omega) (by omega) hDat (fun h h' h1 h2 h3 h4=> ?_) _ _ rfl fun k k1 k2 k3 k4 rest=> ?_
    ·have e1:=atA (h - a) (by omega)
     have e2:=atA (h' - a) (by omega)
     rw[show a+(h - a)=h by omega] at e1
     rw[show a+(h' - a)=h' by omega] at e2
     rw[e1] at h4
     rw[e2]
     intro h5
     exact h4 (hC.lt_of_lt_le h5 (zcJ hC sA (by omega) (by omega)))
    ·rw[e0] at k3 k4
     simp -dsimp -implicitDefEqProofs only[c148b11,c148b19,c148b62,c148r64,c148r65,c148k67,c148r68,c148k70,c148r71,c148k73,go_sem,seval,↓reduceIte]
     have hsplit:P++A++[y]++R=(P++A.take (k - a))++A.drop (k - a)++y::R:=by
      rw[show P++A++[y]++R=P++(A.take (k - a)++A.drop (k - a))++[y]++R by rw[List.take_append_drop]]
      simp only[List.append_assoc,List.cons_append,List.nil_append]
     have hmr:mrg c A [y]=A.take (k - a)++y::A.drop (k - a):=by
      have h1:=zdz hC (A:=A.take (k - a)) (U:=A.drop (k - a)) (V:=[y]) (B:=[]) (fun _ _ _ h=>by simp at h) (fun u hu v hv=>by
       simp at hv;subst hv
       obtain⟨i,hi,rfl⟩:=zdl hu
       simp at hi
       rw[zfo]
       have:=k4 (k+i) (by omega) (by omega)
       have e:=atA (k - a+i) (by omega)
       rw[show a+(k - a+i)=k+i by omega] at e
       rwa [e] at this)
      have h2:mrg c (A.take (k - a)) [y]=A.take (k - a)++[y]:=zfm hC fun u hu v hv=>by
       simp at hv;subst hv
       obtain⟨i,hi,rfl⟩:=zdl hu
       simp at hi
       rw[zfn (by omega)]
       have:=k3 (a+i) (by omega) (by omega)
       rw[atA i (by omega)] at this
       have:=hC.neg (at' A i) v
       omega
      rw[List.take_append_drop,List.append_nil,zaA,h2] at h1
      rw[h1]
      simp
     rw[hsplit]
     refine zwo hp r hr N k m (P++A.take (k - a)) (A.drop (k - a)) R y (by simp;omega) (by simp;omega) (by rw[<-hsplit];exact hN) (by omega) _ _ rfl fun fr=> ?_
     simp -dsimp -implicitDefEqProofs only[c148b11,c148b19,c148b62,c148r64,c148r65,c148k67,c148r68,c148k70,c148r71,c148k73,go_sem,seval,↓reduceIte]
     rw[List.take_of_length_le (by simp),hmr]
     simp
   ·have hB1':¬((B.length:Nat):Int)=1:=by omega
    have w3:IntKind.i64.wrap ((a:Int)+(b:Int))=((a+b:Nat):Int):=by rw[zaq (by omega) (by omega)];omega
    have w4:IntKind.u64.wrap ((a+b:Nat):Int)=((a+b:Nat):Int):=zf8 (by omega) (by omega)
    have w5:IntKind.i64.wrap (((a+b:Nat):Int) / 2)=(((a+b) / 2:Nat):Int):=by rw[zaq (by omega) (by omega)];omega
    generalize hmid:(a+b) / 2=mid at w5
    have w6:IntKind.i64.wrap ((mid:Int)+(m:Int))=((mid+m:Nat):Int):=by rw[zaq (by omega) (by omega)];omega
    have w7:IntKind.i64.wrap (((mid+m:Nat):Int) - 1)=((mid+m - 1:Nat):Int):=by rw[zaq (by omega) (by omega)];omega
    have hm1:a<=mid:=by omega
    have hm2:mid<b:=by omega
    have tail:∀(k:Nat) (rest:Fr) (Q:AExit->St->Prop),a<=k->k<=m->k<=mid->mid+m - k<=b->(∀x∈A.take (k - a),∀y∈B.drop (mid - k),c x y<=0)->(∀u∈A.drop (k - a),∀v∈B.take (mid - k),c v u<0)->
      (∀fr,Q .normal ⟨fr,hp.set r (.arr (some 4) (P++mrg c A B++R) false)⟩)->
      W Z L hp.length (.seq (.region true c148r64 [0,1,2,3,4,18,20,24]) (.seq (.seq (.region true c148r65 [0,1,2,3,4,18,20,24,185]) c148k67) (.seq (.seq (.region true c148r68 [0,1,3,4,18,20,24,199]) c148k70) (.seq (.region true c148r71 [0,3,4,18,24,213]) c148k73))))
       ⟨(0,.sl (some 4) r N 0 N)::(1,.pv none (.int .i64 a))::(2,.pv none (.int .i64 m))::(3,.pv none (.int .i64 b))::(4,fv)::(18,.pv none (.int .i64 mid))::(19,.pv none (.int .i64 ((mid+m:Nat):Int)))::(20,.pv none (.int .i64 k))::rest,hp.set r (.arr (some 4) (P++A++B++R) false)⟩ Q:=by
     intro k rest Q k1 k2 k3 k4 f1 f2 hQ
     have w8:IntKind.i64.wrap (((mid+m:Nat):Int) - (k:Int))=((mid+m - k:Nat):Int):=by rw[zaq (by omega) (by omega)];omega
     have lA1:(A.take (k - a)).length=k - a:=by(simp <;> omega)
     have lU:(A.drop (k - a)).length=m - k:=by(simp <;> omega)
     have lV:(B.take (mid - k)).length=mid - k:=by(simp <;> omega)
     have lB2:(B.drop (mid - k)).length=b - (mid+m - k):=by(simp <;> omega)
     have hmr:=zdz hC f1 f2
     rw[List.take_append_drop,List.take_append_drop] at hmr
     have hdat:P++A++B++R=(P++A.take (k - a))++A.drop (k - a)++B.take (mid - k)++(B.drop (mid - k)++R):=by
      rw[show P++A++B++R=P++(A.take (k - a)++A.drop (k - a))++(B.take (mid - k)++B.drop (mid - k))++R by rw[List.take_append_drop,List.take_append_drop]]
      simp only[List.append_assoc]
     have sA1:Srt c (A.take (k - a)):=sA.sublist (List.take_sublist _ _)
     have sU:Srt c (A.drop (k - a)):=sA.sublist (List.drop_sublist _ _)
     have sV:Srt c (B.take (mid - k)):=sB.sublist (List.take_sublist _ _)
     have sB2:Srt c (B.drop (mid - k)):=sB.sublist (List.drop_sublist _ _)
     rw[hdat] at hN hD ⊢
     rw[hmr] at hQ
     generalize A.take (k - a)=A1 at*
     generalize A.drop (k - a)=U at*
     generalize B.take (mid - k)=V at*
     generalize B.drop (mid - k)=B2 at*
     have hrot:=zri (fv) hp r hr k m (mid+m - k) N (P++A1) U V (B2++R) (by simp;omega) (by omega) (by omega) hN (by omega)
     refine zui (fun st=>st=⟨[(0,.sl (some 4) r N 0 N),(1,.pv none (.int .i64 a)),(2,.pv none (.int .i64 m)),(3,.pv none (.int .i64 b)),(4,fv),(18,.pv none (.int .i64 mid)),(20,.pv none (.int .i64 k)),(24,.pv none (.int .i64 ((mid+m - k:Nat):Int)))],hp.set r (.arr (some 4) (P++A1++U++V++(B2++R)) false)⟩) ?_ ?_
     ·simp -dsimp -implicitDefEqProofs only[c148b11,c148b19,c148b33,c148b41,c148b62,c148r64,c148r65,c148k67,c148r68,c148k70,c148r71,c148k73,go_sem,seval,↓reduceIte,w8]
     rintro _ rfl
     refine zui (fun st=>st.hp=hp.set r (.arr (some 4) (P++A1++V++U++(B2++R)) false)/\st.fr.look 0=some (.sl (some 4) r N 0 N)/\st.fr.look 1=some (.pv none (.int .i64 a))/\st.fr.look 3=some (.pv none (.int .i64 b))/\st.fr.look 4=some (fv)/\st.fr.look 18=some (.pv none (.int .i64 mid))/\st.fr.look 20=some (.pv none (.int .i64 k))/\st.fr.look 24=some (.pv none (.int .i64 ((mid+m - k:Nat):Int)))) ?_ ?_
     ·by_cases hU:k<m
      ·have hc1:(k:Int)<(m:Int):=by omega
       by_cases hV:m<mid+m - k
       ·have hc2:(m:Int)<((mid+m - k:Nat):Int):=by omega
        have hrot':=hrot (by omega) (by omega)
        simp -dsimp -implicitDefEqProofs only[c148b11,c148b19,c148b33,c148b41,c148b62,c148r64,c148r65,c148k67,c148r68,c148k70,c148r71,c148k73,go_sem,seval,↓reduceIte,hc1,hc2,hrot']
       ·have hc2:¬(m:Int)<((mid+m - k:Nat):Int):=by omega
        have hV0:V=[]:=List.length_eq_zero_iff.1 (by omega)
        subst hV0
        simp -dsimp -implicitDefEqProofs only[c148b11,c148b19,c148b33,c148b41,c148b62,c148r64,c148r65,c148k67,c148r68,c148k70,c148r71,c148k73,go_sem,seval,↓reduceIte,hc1,hc2,List.append_nil]
      ·have hc1:¬(k:Int)<(m:Int):=by omega
       have hU0:U=[]:=List.length_eq_zero_iff.1 (by omega)
       subst hU0
       simp -dsimp -implicitDefEqProofs only[c148b11,c148b19,c148b33,c148b41,c148b62,c148r64,c148r65,c148k67,c148r68,c148k70,c148r71,c148k73,go_sem,seval,↓reduceIte,hc1,List.append_nil]
     rintro⟨fr1,hp1⟩ ⟨x1,x2,x3,x4,x5,x6,x7,x8⟩
     simp only at x1 x2 x3 x4 x5 x6 x7 x8
     subst x1
     refine zui (fun st=>st.hp=hp.set r (.arr (some 4) (P++mrg c A1 V++U++(B2++R)) false)/\st.fr.look 0=some (.sl (some 4) r N 0 N)/\st.fr.look 3=some (.pv none (.int .i64 b))/\st.fr.look 4=some (fv)/\st.fr.look 18=some (.pv none (.int .i64 mid))/\st.fr.look 24=some (.pv none (.int .i64 ((mid+m - k:Nat):Int)))) ?_ ?_
     ·by_cases hA1:a<k
      ·have hc1:(a:Int)<(k:Int):=by omega
       by_cases hV:k<mid
       ·have hc2:(k:Int)<(mid:Int):=by omega
        have hih:=ih a k mid P A1 V (U++(B2++R)) (by omega) hP (by omega) (by omega) (by rw[hN];simp;omega) (by omega) (by omega) sA1 sV (fun x hx=>hD x (by simp at hx ⊢;rcases hx with h|h|h|h|h|h <;> simp[h]))
        have e0:P++A1++V++(U++(B2++R))=P++A1++V++U++(B2++R):=by simp
        have e1:P++mrg c A1 V++(U++(B2++R))=P++mrg c A1 V++U++(B2++R):=by simp
        rw[e0,e1] at hih
        simp -dsimp -implicitDefEqProofs only[c148b11,c148b19,c148b33,c148b41,c148b62,c148r64,c148r65,c148k67,c148r68,c148k70,c148r71,c148k73,go_sem,seval,↓reduceIte,hc1,hc2,x2,x3,x4,x5,x6,x7,x8,hih]
       ·have hc2:¬(k:Int)<(mid:Int):=by omega
        have hV0:V=[]:=List.length_eq_zero_iff.1 (by omega)
        subst hV0
        simp -dsimp -implicitDefEqProofs only[c148b11,c148b19,c148b33,c148b41,c148b62,c148r64,c148r65,c148k67,c148r68,c148k70,c148r71,c148k73,go_sem,seval,↓reduceIte,hc1,hc2,x2,x3,x4,x5,x6,x7,x8,List.append_nil,zaA]
      ·have hc1:¬(a:Int)<(k:Int):=by omega
       have hA0:A1=[]:=List.length_eq_zero_iff.1 (by omega)
       subst hA0
       simp -dsimp -implicitDefEqProofs only[c148b11,c148b19,c148b33,c148b41,c148b62,c148r64,c148r65,c148k67,c148r68,c148k70,c148r71,c148k73,go_sem,seval,↓reduceIte,hc1,x2,x3,x4,x5,x6,x7,x8,List.append_nil,zee]
     rintro⟨fr2,hp2⟩ ⟨y1,y2,y4,y5,y6,y8⟩
     simp only at y1 y2 y4 y5 y6 y8
     subst y1
     have hml:(mrg c A1 V).length=A1.length+V.length:=zhT A1 V
     by_cases hU:mid<mid+m - k
     ·have hc1:(mid:Int)<((mid+m - k:Nat):Int):=by omega
      by_cases hB2:mid+m - k<b
      ·have hc2:((mid+m - k:Nat):Int)<(b:Int):=by omega
       have hih:=ih mid (mid+m - k) b (P++mrg c A1 V) U B2 R (by omega) (by simp[hml];omega) (by omega) (by omega) (by rw[hN];simp[hml];omega) (by omega) (by omega) sU sB2 (fun x hx=>hD x (by
        simp only[List.mem_append,mem_mrg] at hx ⊢
        rcases hx with(((h|h|h)|h)|h)|h <;> simp[h]))
       have e0:P++mrg c A1 V++U++(B2++R)=P++mrg c A1 V++U++B2++R:=by simp
       have e1:P++mrg c A1 V++mrg c U B2++R=P++(mrg c A1 V++mrg c U B2)++R:=by simp
       rw[e1] at hih
       rw[e0]
       simp -dsimp -implicitDefEqProofs only[c148b11,c148b19,c148b33,c148b41,c148b62,c148r64,c148r65,c148k67,c148r68,c148k70,c148r71,c148k73,go_sem,seval,↓reduceIte,hc1,hc2,y2,y4,y5,y6,y8,hih]
       exact hQ _
      ·have hc2:¬((mid+m - k:Nat):Int)<(b:Int):=by omega
       have hB0:B2=[]:=List.length_eq_zero_iff.1 (by omega)
       subst hB0
       simp -dsimp -implicitDefEqProofs only[c148b11,c148b19,c148b33,c148b41,c148b62,c148r64,c148r65,c148k67,c148r68,c148k70,c148r71,c148k73,go_sem,seval,↓reduceIte,hc1,hc2,y2,y4,y5,y6,y8]
       have hQ:=hQ
       rw[zaA] at hQ
       have e0:P++mrg c A1 V++U++R=P++(mrg c A1 V++U)++R:=by simp
       rw[e0]
       exact hQ _
     ·have hc1:¬(mid:Int)<((mid+m - k:Nat):Int):=by omega
      have hU0:U=[]:=List.length_eq_zero_iff.1 (by omega)
      subst hU0
      simp -dsimp -implicitDefEqProofs only[c148b11,c148b19,c148b33,c148b41,c148b62,c148r64,c148r65,c148k67,c148r68,c148k70,c148r71,c148k73,go_sem,seval,↓reduceIte,hc1,y2,y4,y5,y6,y8]
      have hQ:=hQ
      rw[zee] at hQ
      have e0:P++mrg c A1 V++[]++(B2++R)=P++(mrg c A1 V++B2)++R:=by simp
      rw[e0]
      exact hQ _
    by_cases hmm:mid<m
    ·skip
     have hc:(mid:Int)<(m:Int):=by omega
     have w9:IntKind.i64.wrap (((mid+m:Nat):Int) - (b:Int))=((mid+m - b:Nat):Int):=by rw[zaq (by omega) (by omega)];omega
     simp -dsimp -implicitDefEqProofs only[c148b11,c148b19,c148b33,c148b41,go_sem,seval,↓reduceIte,w1,w2,hA1',hB1',w3,w4,zfV (show 0<IntKind.bits .u64 by decide),hmid,w5,w6,w7,hc,w9]
     refine ztC c fv D hp r hg hr _ N a m b mid (mid+m) (mid+m - 1) (mid+m - b) mid hN.symm (by omega) (by omega) (by omega) (by omega) (by omega) hDat (fun h h' h1 h2 h3 h4=> ?_) (by omega) _ _ rfl fun k k1 k2 k3 k4 rest=> ?_
     ·have e1:=atA (h - a) (by omega)
      have e2:=atA (h' - a) (by omega)
      have e3:=atB (mid+m - 1 - h - m) (by omega)
      have e4:=atB (mid+m - 1 - h' - m) (by omega)
      rw[show a+(h - a)=h by omega] at e1
      rw[show a+(h' - a)=h' by omega] at e2
      rw[show m+(mid+m - 1 - h - m)=mid+m - 1 - h by omega] at e3
      rw[show m+(mid+m - 1 - h' - m)=mid+m - 1 - h' by omega] at e4
      rw[e1,e3] at h4
      rw[e2,e4]
      have s1:c (at' A (h' - a)) (at' A (h - a))<=0:=zcJ hC sA (by omega) (by omega)
      have s2:c (at' B (mid+m - 1 - h - m)) (at' B (mid+m - 1 - h' - m))<=0:=zcJ hC sB (by omega) (by omega)
      intro h5
      exact h4 (hC.lt_of_le_lt s2 (hC.lt_of_lt_le h5 s1))
     ·simp -dsimp -implicitDefEqProofs only[go_sem,seval,↓reduceIte]
      refine tail k rest _ (by omega) (by omega) (by omega) (by omega) ?_ ?_ fun fr=> ?_
      ·intro x hx y hy
       obtain⟨i,hi,rfl⟩:=zdl hx
       obtain⟨j,hj,rfl⟩:=zdl hy
       simp at hi hj
       rw[zfn (by omega),zfo]
       have h1:=k3 (k - 1) (by omega) (by omega)
       have e1:=atA (k - 1 - a) (by omega)
       have e3:=atB (mid - k) (by omega)
       rw[show a+(k - 1 - a)=k - 1 by omega] at e1
       rw[show m+(mid - k)=mid+m - 1 - (k - 1) by omega] at e3
       rw[e1,e3] at h1
       have s1:c (at' A i) (at' A (k - 1 - a))<=0:=zcJ hC sA (by omega) (by omega)
       have s2:c (at' B (mid - k)) (at' B (mid - k+j))<=0:=zcJ hC sB (by omega) (by omega)
       have s3:c (at' A (k - 1 - a)) (at' B (mid - k))<=0:=by have:=hC.neg (at' A (k - 1 - a)) (at' B (mid - k));omega
       exact hC.trans (hC.trans s1 s3) s2
      ·intro u hu v hv
       obtain⟨i,hi,rfl⟩:=zdl hu
       obtain⟨j,hj,rfl⟩:=zdl hv
       simp at hi hj
       rw[zfn (by omega),zfo]
       have h1:=k4 k (by omega) (by omega)
       have e1:=atA (k - a) (by omega)
       have e3:=atB (mid - 1 - k) (by omega)
       rw[show a+(k - a)=k by omega] at e1
       rw[show m+(mid - 1 - k)=mid+m - 1 - k by omega] at e3
       rw[e1,e3] at h1
       have s1:c (at' A (k - a)) (at' A (k - a+i))<=0:=zcJ hC sA (by omega) (by omega)
       have s2:c (at' B j) (at' B (mid - 1 - k))<=0:=zcJ hC sB (by omega) (by omega)
       exact hC.lt_of_le_lt s2 (hC.lt_of_lt_le h1 s1)
      ·simp -dsimp -implicitDefEqProofs only[g148,go_sem,seval,↓reduceIte]
       rw[List.take_of_length_le (by simp)]
    ·skip
     have hc:¬(mid:Int)<(m:Int):=by omega
     simp -dsimp -implicitDefEqProofs only[c148b11,c148b19,c148b33,c148b41,go_sem,seval,↓reduceIte,w1,w2,hA1',hB1',w3,w4,zfV (show 0<IntKind.bits .u64 by decide),hmid,w5,w6,w7,hc]
     refine ztC c fv D hp r hg hr _ N a m b mid (mid+m) (mid+m - 1) a m hN.symm (by omega) (by omega) (by omega) (by omega) (by omega) hDat (fun h h' h1 h2 h3 h4=> ?_) (by omega) _ _ rfl fun k k1 k2 k3 k4 rest=> ?_
     ·have e1:=atA (h - a) (by omega)
      have e2:=atA (h' - a) (by omega)
      have e3:=atB (mid+m - 1 - h - m) (by omega)
      have e4:=atB (mid+m - 1 - h' - m) (by omega)
      rw[show a+(h - a)=h by omega] at e1
      rw[show a+(h' - a)=h' by omega] at e2
      rw[show m+(mid+m - 1 - h - m)=mid+m - 1 - h by omega] at e3
      rw[show m+(mid+m - 1 - h' - m)=mid+m - 1 - h' by omega] at e4
      rw[e1,e3] at h4
      rw[e2,e4]
      have s1:c (at' A (h' - a)) (at' A (h - a))<=0:=zcJ hC sA (by omega) (by omega)
      have s2:c (at' B (mid+m - 1 - h - m)) (at' B (mid+m - 1 - h' - m))<=0:=zcJ hC sB (by omega) (by omega)
      intro h5
      exact h4 (hC.lt_of_le_lt s2 (hC.lt_of_lt_le h5 s1))
     ·simp -dsimp -implicitDefEqProofs only[go_sem,seval,↓reduceIte]
      refine tail k rest _ (by omega) (by omega) (by omega) (by omega) ?_ ?_ fun fr=> ?_
      ·intro x hx y hy
       obtain⟨i,hi,rfl⟩:=zdl hx
       obtain⟨j,hj,rfl⟩:=zdl hy
       simp at hi hj
       rw[zfn (by omega),zfo]
       have h1:=k3 (k - 1) (by omega) (by omega)
       have e1:=atA (k - 1 - a) (by omega)
       have e3:=atB (mid - k) (by omega)
       rw[show a+(k - 1 - a)=k - 1 by omega] at e1
       rw[show m+(mid - k)=mid+m - 1 - (k - 1) by omega] at e3
       rw[e1,e3] at h1
       have s1:c (at' A i) (at' A (k - 1 - a))<=0:=zcJ hC sA (by omega) (by omega)
       have s2:c (at' B (mid - k)) (at' B (mid - k+j))<=0:=zcJ hC sB (by omega) (by omega)
       have s3:c (at' A (k - 1 - a)) (at' B (mid - k))<=0:=by have:=hC.neg (at' A (k - 1 - a)) (at' B (mid - k));omega
       exact hC.trans (hC.trans s1 s3) s2
      ·intro u hu v hv
       obtain⟨i,hi,rfl⟩:=zdl hu
       obtain⟨j,hj,rfl⟩:=zdl hv
       simp at hi hj
       rw[zfn (by omega),zfo]
       have h1:=k4 k (by omega) (by omega)
       have e1:=atA (k - a) (by omega)
       have e3:=atB (mid - 1 - k) (by omega)
       rw[show a+(k - a)=k by omega] at e1
       rw[show m+(mid - 1 - k)=mid+m - 1 - k by omega] at e3
       rw[e1,e3] at h1
       have s1:c (at' A (k - a)) (at' A (k - a+i))<=0:=zcJ hC sA (by omega) (by omega)
       have s2:c (at' B j) (at' B (mid - 1 - k))<=0:=zcJ hC sB (by omega) (by omega)
       exact hC.lt_of_le_lt s2 (hC.lt_of_lt_le h1 s1)
      ·simp -dsimp -implicitDefEqProofs only[g148,go_sem,seval,↓reduceIte]
       rw[List.take_of_length_le (by simp)]
section
variable(c:PV->PV->Int) (hC:Cmp c) (fv:AV) (D:PV->Prop) (hp:Heap) (r:Nat) (hg:CmpF c fv D hp r) (hr:r<hp.length) (N:Nat) (hN':N<100000000)
include hC hg hr hN'
theorem zrh(xs:List PV)(hN:N=xs.length)(hD:∀x∈xs,D x):
  S 135 [.sl (some 4) r N 0 N,.pv none (.int .i64 N),fv] (hp.set r (.arr (some 4) xs false))=some (.ret (.tuple []),hp.set r (.arr (some 4) (isort c xs) false)):=by
 have hsl:(hp.set r (.arr (some 4) xs false)).length=hp.length:=by simp
 refine zaD rfl rfl rfl rfl ?_
 rw[hsl]
 simp -dsimp -implicitDefEqProofs only[go_sem,seval,↓reduceIte]
 /- the blocks -/
 refine za9 (fun n st=>∃(a:Nat) (Z:List PV),n=N - a/\a<=N/\Full c 20 (xs.take a) Z/\st=⟨[(0,.sl (some 4) r N 0 N),(1,.pv none (.int .i64 N)),(2,fv),(6,.pv none (.int .i64 20)),(7,.pv none (.int .i64 a)),(8,.pv none (.int .i64 ((a+20:Nat):Int)))],hp.set r (.arr (some 4) (Z++xs.drop a) false)⟩) (n:=N) ⟨0,[],rfl,Nat.zero_le _,.nil,?_⟩ ?_
 ·simp -dsimp -implicitDefEqProofs only[go_sem,seval,↓reduceIte]
  try simp
 ·rintro n st ⟨a,Z,hn,ha,hF,rfl⟩
  have hZ:Z.length=a:=by rw[hF.length];simp;omega
  have hD':∀x∈xs.drop a,D x:=fun x hx=>hD x (List.mem_of_mem_drop hx)
  by_cases hb:a+20<=N
  ·have hc:((a+20:Nat):Int)<=(N:Int):=by omega
   have w1:IntKind.i64.wrap (((a+20:Nat):Int)+20)=((a+20+20:Nat):Int):=by rw[zaq (by omega) (by omega)];omega
   have hx:(xs.drop a).take 20++(xs.drop a).drop 20=xs.drop a:=List.take_append_drop _ _
   have hl:((xs.drop a).take 20).length=20:=by simp;omega
   have hcall:=zf1 c hC fv D hp r hg hr a (a+20) N Z ((xs.drop a).take 20) ((xs.drop a).drop 20) hZ (by omega) (by simp[hZ];omega) (by omega) (fun x h=>hD' x (List.mem_of_mem_take h))
   rw[show Z++(xs.drop a).take 20++(xs.drop a).drop 20=Z++xs.drop a by rw[List.append_assoc,hx]] at hcall
   simp -dsimp -implicitDefEqProofs only[go_sem,seval,↓reduceIte,hc,w1,hcall]
   refine⟨N - (a+20),by omega,a+20,Z++isort c ((xs.drop a).take 20),rfl,by omega,?_,?_⟩
   ·have:=Full.snoc (c:=c) (n:=20) _ _ _ hl hF
    rwa [<-List.take_add] at this
   ·rw[zav (by simp),List.drop_drop]
  ·have hc:¬((a+20:Nat):Int)<=(N:Int):=by omega
   have hcall:=zf1 c hC fv D hp r hg hr a N N Z (xs.drop a) [] hZ (by simp;omega) (by simp[hZ];omega) (by omega) hD'
   simp only[List.append_nil] at hcall
   have hB:Blk c 20 xs (Z++isort c (xs.drop a)):=by
    have:=hF.blk (.last (xs.drop a) (by simp;omega))
    rwa [List.take_append_drop] at this
   simp -dsimp -implicitDefEqProofs only[go_sem,seval,↓reduceIte,hc,hcall]
   generalize Z++isort c (xs.drop a)=d0 at hB
   clear hcall hF hZ hD' ha hn hc hb Z a
   /- the merging -/
   refine za9 (fun n st=>∃(bs:Nat) (d:List PV),n=N - bs/\20<=bs/\Blk c bs xs d/\st=⟨[(0,.sl (some 4) r N 0 N),(1,.pv none (.int .i64 N)),(2,fv),(6,.pv none (.int .i64 bs))],hp.set r (.arr (some 4) d false)⟩) (n:=N - 20) ⟨20,d0,rfl,Nat.le_refl _,hB,?_⟩ ?_
   ·simp -dsimp -implicitDefEqProofs only[go_sem,seval,↓reduceIte]
    try rfl
   ·rintro n1 st ⟨bs,d,hn1,hbs,hB,rfl⟩
    by_cases hlt:bs<N
    ·have hc:(bs:Int)<(N:Int):=by omega
     have w1:IntKind.i64.wrap (2*(bs:Int))=((0+2*bs:Nat):Int):=by rw[zaq (by omega) (by omega)];omega
     have w2:IntKind.i64.wrap ((bs:Int)*2)=((2*bs:Nat):Int):=by rw[zaq (by omega) (by omega)];omega
     simp -dsimp -implicitDefEqProofs only[go_sem,seval,↓reduceIte,hc,w1]
     refine za9 (fun n st=>∃(a:Nat) (Z d r0 r1:List PV),n=N - a/\a<=N/\xs=r0++r1/\r0.length=a/\Full c (2*bs) r0 Z/\Blk c bs r1 d/\st=⟨[(0,.sl (some 4) r N 0 N),(1,.pv none (.int .i64 N)),(2,fv),(6,.pv none (.int .i64 bs)),(7,.pv none (.int .i64 a)),(8,.pv none (.int .i64 ((a+2*bs:Nat):Int)))],hp.set r (.arr (some 4) (Z++d) false)⟩) (n:=N) ⟨0,[],d,[],xs,rfl,Nat.zero_le _,rfl,rfl,.nil,hB,?_⟩ ?_
     ·simp -dsimp -implicitDefEqProofs only[go_sem,seval,↓reduceIte]
      try rfl
     ·rintro n2 st ⟨a,Z,d,r0,r1,hn2,ha,hxs,hr0,hF,hB1,rfl⟩
      have hZ:Z.length=a:=by rw[hF.length,hr0]
      have hl1:a+r1.length=N:=by rw[hN,hxs];simp[hr0]
      have hDZ:∀x∈Z++d,D x:=fun x hx=>hD x (by
       rw[hxs]
       rcases List.mem_append.1 hx with h|h
       ·exact List.mem_append.2 (.inl (hF.mem.1 h))
       ·exact List.mem_append.2 (.inr (hB1.mem.1 h)))
      have w3:IntKind.i64.wrap ((a:Int)+(bs:Int))=((a+bs:Nat):Int):=by rw[zaq (by omega) (by omega)];omega
      by_cases hb:a+2*bs<=N
      ·have hc2:((a+2*bs:Nat):Int)<=(N:Int):=by omega
       obtain⟨x,y,r2,d2,e1,e2,lx,ly,ly0,hB2,hy⟩:=hB1.two (by omega) (by omega)
       have ly':y.length=bs:=by
        rcases Nat.lt_or_ge y.length bs with h|h
        ·have:=hy h;rw[e1,this] at hl1;simp at hl1;omega
        ·omega
       have w4:IntKind.i64.wrap (2*(bs:Int))=((2*bs:Nat):Int):=by rw[zaq (by omega) (by omega)];omega
       have w5:IntKind.i64.wrap (((a+2*bs:Nat):Int)+((2*bs:Nat):Int))=((a+2*bs+2*bs:Nat):Int):=by rw[zaq (by omega) (by omega)];omega
       have hld:=hB1.length
       have hcall:=ztD c hC fv D hp r hg hr N hN' (2*bs) a (a+bs) (a+2*bs) Z (isort c x) (isort c y) d2 (by omega) hZ (by rw[zat,lx]) (by rw[zat,ly'];omega) (by rw[e2] at hld;simp[zat] at hld ⊢;omega) (by rw[zat];omega) (by rw[zat];omega) (zcW hC x) (zcW hC y) (fun z hz=>hDZ z (by rw[e2];simpa using hz))
       rw[show Z++isort c x++isort c y++d2=Z++d by rw[e2];simp,<-zfW hC] at hcall
       simp -dsimp -implicitDefEqProofs only[go_sem,seval,↓reduceIte,hc2,w3,w4,w5,hcall]
       refine⟨N - (a+2*bs),by omega,a+2*bs,Z++isort c (x++y),d2,r0++(x++y),r2,rfl,hb,by rw[hxs,e1];simp,by simp[hr0,lx,ly'];omega,.snoc _ _ _ (by simp[lx,ly'];omega) hF,hB2,?_⟩
       rw[zav (by simp)]
      ·have hc2:¬((a+2*bs:Nat):Int)<=(N:Int):=by omega
       by_cases hm:a+bs<N
       ·have hc3:((a+bs:Nat):Int)<(N:Int):=by omega
        obtain⟨x,y,r2,d2,e1,e2,lx,ly,ly0,hB2,hy⟩:=hB1.two (by omega) (by omega)
        have ly':y.length<bs:=by rw[e1] at hl1;simp at hl1;omega
        have hr2:=hy ly'
        subst hr2
        have hd2:d2=[]:=List.length_eq_zero_iff.1 hB2.length
        subst hd2
        have hld:=hB1.length
        have hcall:=ztD c hC fv D hp r hg hr N hN' (2*bs) a (a+bs) N Z (isort c x) (isort c y) [] (by omega) hZ (by rw[zat,lx]) (by rw[zat];rw[e1] at hl1;simp at hl1;omega) (by rw[e2] at hld;simp[zat] at hld ⊢;omega) (by rw[zat];omega) (by rw[zat];omega) (zcW hC x) (zcW hC y) (fun z hz=>hDZ z (by rw[e2];simpa using hz))
        rw[show Z++isort c x++isort c y++[]=Z++d by rw[e2];simp,<-zfW hC] at hcall
        simp -dsimp -implicitDefEqProofs only[go_sem,seval,↓reduceIte,hc2,hc3,w2,w3,hcall]
        have hres:=hF.blk (.last r1 (by omega:r1.length<=2*bs))
        rw[<-hxs] at hres
        refine⟨N - 2*bs,by omega,2*bs,Z++isort c r1,rfl,by omega,hres,?_⟩
        rw[zav (by simp),e1]
        simp
       ·have hc3:¬((a+bs:Nat):Int)<(N:Int):=by omega
        have hd:=hB1.whole (by omega)
        simp -dsimp -implicitDefEqProofs only[go_sem,seval,↓reduceIte,hc2,hc3,w2,w3]
        have hres:=hF.blk (.last r1 (by omega:r1.length<=2*bs))
        rw[<-hxs] at hres
        refine⟨N - 2*bs,by omega,2*bs,Z++isort c r1,rfl,by omega,hres,?_⟩
        rw[zav (by simp),hd]
    ·have hc:¬(bs:Int)<(N:Int):=by omega
     have hd:=hB.whole (by omega)
     simp -dsimp -implicitDefEqProofs only[go_sem,seval,↓reduceIte,hc]
     rw[List.take_of_length_le (by simp),hd]
end
def zaI(l:List Tm):Bool:=l.all Tm.valid
theorem zi3{l:List Tm}{i:Nat}{t:Tm}(h:l[i]? =some t):zaI (l.take (i+1))=(zaI (l.take i) && t.valid):=by
 unfold zaI
 rw[List.take_add_one,h,List.all_append]
 simp
theorem zht{l:List Tm}{t:Tm}(h:t∈l)(hv:t.valid=false):zaI l=false:=by
 unfold zaI
 rw[List.all_eq_false]
 exact⟨t,h,by simp[hv]⟩

theorem zrn(l:List Tm)(hl:Tm.sizes l<1000000000):S 64 [.pv none (.sl (some 4) (Tm.pvs l))] []=some (.ret (.pv none (.bool (zaI l))),[]):=by
 refine zai rfl rfl rfl (zab [(none,.sl (some 4) (Tm.pvs l))]) rfl ?_
 have hlen:=Tm.zwp l
 simp -dsimp -implicitDefEqProofs only[go_sem,seval,↓reduceIte,Tm.pvs_len]
 refine za9 (fun n st=>∃i:Nat,n=l.length - i/\i<=l.length/\zaI (l.take i)=true/\st=⟨[(5,.pv none (.sl (some 4) (Tm.pvs l))),(6,.pv none (.int .i64 (l.length:Int))),(7,.pv none (.int .i64 i))],[]⟩) (n:=l.length) ⟨0,rfl,Nat.zero_le _,rfl,?_⟩ ?_
 ·simp -dsimp -implicitDefEqProofs only[go_sem,seval,↓reduceIte]
  try rfl
 ·rintro n st ⟨i,hn,hi,he,rfl⟩
  by_cases h:i<l.length
  ·have hc:(i:Int)<(l.length:Int):=by omega
   obtain⟨u,hu⟩:∃u,l[i]? =some u:=⟨_,List.getElem?_eq_getElem h⟩
   have hum:=List.mem_of_getElem? hu
   have husz:=Tm.zwx hum
   have hcall:=fun hp=>zbT u hp (by omega)
   simp only[Tm.av] at hcall
   have w2:IntKind.i64.wrap ((i:Int)+1)=((i+1:Nat):Int):=by rw[zaq (by omega) (by omega)];omega
   by_cases h0:u.valid=true
   ·simp -dsimp -implicitDefEqProofs only[go_sem,seval,↓reduceIte,Tm.pvs_len,hc,zal (Tm.pvs_get hu),hcall,w2,h0]
    exact⟨l.length - (i+1),by omega,i+1,rfl,by omega,by rw[zi3 hu,he,h0];rfl,rfl⟩
   ·rw[Bool.not_eq_true] at h0
    simp -dsimp -implicitDefEqProofs only[go_sem,seval,↓reduceIte,Tm.pvs_len,hc,zal (Tm.pvs_get hu),hcall,w2,h0,zht hum h0]
  ·have hc:¬(i:Int)<(l.length:Int):=by omega
   obtain rfl:i=l.length:=by omega
   rw[List.take_length] at he
   simp -dsimp -implicitDefEqProofs only[go_sem,seval,↓reduceIte,Tm.pvs_len,hc,he]
theorem zb2{l:List Tm}(h:zaI l=true){t:Tm}(ht:t∈l):t.valid=true:=List.all_eq_true.1 h t ht
theorem zlV{hp ext junk:Heap}{n:Nat}{fr:Fr}(hn:n=hp.length+ext.length)(hf:fr.all (fun x=>x.2.refsIn.all (·<n))=true)(he:ext.all (fun o=>o.refs.all (·<n))=true):collect n hp.length fr (hp++ext++junk)=hp++ext:=by
 have ht:(hp++ext++junk).take n=hp++ext:=by
  rw[List.take_append_of_le_length (by simp;omega),List.take_of_length_le (by simp;omega)]
 unfold collect
 rw[ht,hf,List.drop_left,Bool.true_and]
 exact if_pos he
theorem zou{sh s s':Sh}{k k':IntKind}{z:PV}{hp:Heap}{n:Nat}(hs:0<sh.size)(h:n<=lim):zcA sh z hp [.pv s (.int k 0),.pv s' (.int k' n)]=some (.sl sh hp.length 0 0 0,hp++[.arr sh [] false]):=by
 have h1:((n:Nat):Int)<=((lim:Nat):Int):=by omega
 simp[zcA,hs,h1]
structure IsL(v:AV)(hp:Heap)(l:List Tm):Prop where
 len:sLen [v]=some (.pv none (.int .i64 l.length))
 idx:∀(i:Nat) (u:Tm),l[i]? =some u->∃p,(∀(s:Sh) (k:IntKind),za7 (some 4) [v,.pv s (.int k i)]=some p)/\∀ext,aload (some 4) (hp++ext) p=some (.pv (some 4) u.pv)
 refs:∀q,q∈v.refsIn->q<hp.length
 frz:∃hp1:Heap,hp1.length=hp.length/\∀ext,zan [v] (hp++ext)=some ([(none,.sl (some 4) (Tm.pvs l))],hp1++ext)
theorem IsL.more{v:AV}{hp:Heap}{l:List Tm}(h:IsL v hp l)(e:Heap):IsL v (hp++e) l where
 len:=h.len
 idx:=fun i u hu=>by
  obtain⟨p,h1,h2⟩:=h.idx i u hu
  exact⟨p,h1,fun ext=>by rw[List.append_assoc];exact h2 _⟩
 refs:=fun q hq=>by have:=h.refs q hq;simp;omega
 frz:=by
  obtain⟨hp1,h1,h2⟩:=h.frz
  exact⟨hp1++e,by simp[h1],fun ext=>by rw[List.append_assoc,h2,List.append_assoc]⟩
theorem zvR(hp:Heap)(l:List Tm):IsL (.pv none (.sl (some 4) (Tm.pvs l))) hp l where
 len:=by rw[zmq,Tm.pvs_len]
 idx:=fun i u hu=>⟨.iptr (some 4) u.pv 0,fun s k=>zal (Tm.pvs_get hu),fun ext=>by rw[zhS];simp⟩
 refs:=fun q hq=>by simp[AV.refsIn] at hq
 frz:=⟨hp,rfl,fun ext=>zab [(none,.sl (some 4) (Tm.pvs l))]⟩
theorem zra{hp:Heap}{r N n:Nat}{es:List PV}{fz:Bool}{l:List Tm}(h:hp[r]? =some (.arr (some 4) es fz))(hN:es.length=N)(hl:es.take n=Tm.pvs l)(hn:l.length=n)(hnN:n<=N):IsL (.sl (some 4) r N 0 n) hp l where
 len:=by rw[ziH,hn]
 idx:=fun i u hu=>by
  have hi:=(List.getElem?_eq_some_iff.1 hu).1
  refine⟨.eptr (some 4) r N (0+i) 0,fun s k=>zao (by omega),fun ext=> ?_⟩
  have hr:=zbG h
  have e:(hp++ext)[r]? =some (.arr (some 4) es fz):=by rw[zb8 hr,h]
  rw[zaJ (by rw[e];exact hN) (by rw[e];rfl),e]
  have:es[0+i]? =some u.pv:=by
   rw[<-List.getElem?_take_of_lt (show 0+i<n by omega),hl,Nat.zero_add]
   exact Tm.pvs_get hu
  show toAV (some 4) es[0+i]? =_
  rw[this]
  rfl
 refs:=fun q hq=>by
  simp only[AV.refsIn,List.mem_singleton] at hq
  rw[hq]
  exact zbG h
 frz:=by
  refine⟨hp.set r (.arr (some 4) es true),by simp,fun ext=> ?_⟩
  have hr:=zbG h
  have e:(hp++ext)[r]? =some (.arr (some 4) es fz):=by rw[zb8 hr,h]
  have hf:AV.freeze deep (.sl (some 4) r N 0 n) (hp++ext)=some (.sl (some 4) (Tm.pvs l),hp.set r (.arr (some 4) es true)++ext):=by
   show AV.freeze (7+1) _ _=_
   simp only[AV.freeze,e,zgR hr]
   by_cases hc:n=es.length
   ·rw[if_pos (by simp[hN,hc]),<-hl,List.take_of_length_le (by omega)]
   ·rw[if_neg (fun h=>hc h.2.2),if_pos ⟨hN.symm,by omega⟩,List.drop_zero,hl]
  simp only[zan,hf,AV.shp]
def CmpG(c:PV->PV->Int)(g:FuncId)(D:PV->Prop):Prop:=∀x y,D x->D y->∀hp,S g [.pv (some 4) x,.pv (some 4) y] hp=some (.ret (.pv none (.int .i64 (c x y))),hp)
theorem CmpG.toF{c:PV->PV->Int}{g:FuncId}{D:PV->Prop}(h:CmpG c g D)(hp:Heap)(r:Nat):CmpF c (.pv none (.func (.func g))) D hp r:=⟨g,[],[],rfl,fun x y hx hy A=>h x y hx hy _⟩
section
variable(c:PV->PV->Int) (hC:Cmp c) (g:FuncId) (D:PV->Prop) (hg:CmpG c g D)
include hC hg
theorem zi8(hp:Heap)(r:Nat)(hr:r<hp.length)(N:Nat)(hN':N<100000000)(xs:List PV)(hN:N=xs.length)(hD:∀x∈xs,D x):
  S 113 [.sl (some 4) r N 0 N,.pv none (.func (.func g))] (hp.set r (.arr (some 4) xs false))=some (.ret (.tuple []),hp.set r (.arr (some 4) (isort c xs) false)):=by
 have hcall:=zrh c hC (.pv none (.func (.func g))) D hp r (hg.toF hp r) hr N hN' xs hN hD
 have hsl:(hp.set r (.arr (some 4) xs false)).length=hp.length:=by simp
 refine zaD rfl rfl rfl rfl ?_
 simp -dsimp -implicitDefEqProofs only[go_sem,seval,↓reduceIte,hcall,hsl]
 rw[List.take_of_length_le (by simp)]
theorem zkE(v:AV)(hp:Heap)(ts:List Tm)(hL:IsL v hp ts)(hv:∀t∈ts,t.valid=true)(hl:Tm.sizes ts<100000000)(hD:∀t∈ts,D t.pv):
  S 65 [v,.pv none (.func (.func g))] hp=some (.ret (.sl (some 4) (hp.length+1) ts.length 0 ts.length),hp++[.arr (some 4) [] false,.arr (some 4) (isort c (Tm.pvs ts)) false]):=by
 have hlen:=Tm.zwp ts
 refine zaD rfl rfl rfl rfl ?_
 have hm:ts.length<=lim:=by unfold lim;omega
 simp -dsimp -implicitDefEqProofs only[go_sem,seval,↓reduceIte,hL.len,zaY (sh:=some 4) (by decide),zou (sh:=some 4) (by decide) hm,List.append_assoc,zah,zaf,zaj,zag,Nat.add_assoc,List.length_append]
 refine za9 (fun n st=>∃i:Nat,n=ts.length - i/\i<=ts.length/\st=⟨[(1,.pv none (.func (.func g))),(5,.sl (some 4) (hp.length+1) i 0 i),(11,v),(12,.pv none (.int .i64 ts.length)),(13,.pv none (.int .i64 i))],hp++[.arr (some 4) [] false,.arr (some 4) (Tm.pvs (ts.take i)) false]⟩) (n:=ts.length) ⟨0,rfl,Nat.zero_le _,?_⟩ ?_
 ·simp -dsimp -implicitDefEqProofs only[go_sem,seval,↓reduceIte]
  simp[Tm.pvs]
 ·rintro n st ⟨i,hn,hi,rfl⟩
  by_cases h:i<ts.length
  ·have hc:(i:Int)<(ts.length:Int):=by omega
   obtain⟨u,hu⟩:∃u,ts[i]? =some u:=⟨_,List.getElem?_eq_getElem h⟩
   have hum:=List.mem_of_getElem? hu
   have husz:=Tm.zwx hum
   have hcall:=fun hp=>zdT u hp (hv u hum) (by omega)
   simp only[Tm.av] at hcall
   obtain⟨p,hp1,hp2⟩:=hL.idx i u hu
   have w2:IntKind.i64.wrap ((i:Int)+1)=((i+1:Nat):Int):=by rw[zaq (by omega) (by omega)];omega
   have hl2:(Tm.pvs (ts.take i)).length=i:=by rw[Tm.pvs_len,List.length_take];omega
   have hlim:i+1<=lim:=by unfold lim;omega
   simp -dsimp -implicitDefEqProofs only[go_sem,seval,↓reduceIte,hc,hp1,hp2,hcall,w2,hl2,hlim,List.append_assoc,zah,zaf,zaj,zag,Nat.add_assoc,List.length_append,Tm.zwt hu]
   refine⟨ts.length - (i+1),by omega,i+1,rfl,by omega,?_⟩
   rw[show ∀a b c d:AObj,hp++[a,b,c,d]=hp++[a,b]++[c,d] from fun _ _ _ _=>by simp]
   rw[zlV (by simp) (by simp[AV.refsIn];intro q hq;have:=hL.refs q hq;omega) rfl]
  ·have hc:¬(i:Int)<(ts.length:Int):=by omega
   obtain rfl:i=ts.length:=by omega
   have hcall:=zi8 c hC g D hg (hp++[.arr (some 4) [] false,.arr (some 4) (Tm.pvs ts) false]) (hp.length+1) (by simp) ts.length (by omega) (Tm.pvs ts) (Tm.pvs_len ts).symm (by rw[Tm.zwB];simpa using hD)
   have e1:∀x,(hp++[AObj.arr (some 4) [] false,.arr (some 4) (Tm.pvs ts) false]).set (hp.length+1) x=hp++[.arr (some 4) [] false,x]:=fun x=>by rw[List.set_append_right _ _ (by omega)];simp
   rw[e1,e1] at hcall
   simp -dsimp -implicitDefEqProofs only[go_sem,seval,↓reduceIte,hc,List.take_length,hcall,List.append_assoc,zah,zaf,zaj,zag,Nat.add_assoc,List.length_append]
   simp[AV.refsIn]
end
def small(p:PV):Prop:=∃t:Tm,p=t.pv/\t.valid=true/\t.size<1000000000
theorem zuM:CmpG (onPV Tm.cmp) 44 small:=by
 rintro x y ⟨t,rfl,ht,hts⟩ ⟨u,rfl,hu,hus⟩ hp
 have h:=zft t u hp hts (Tm.valid_fits ht) (Tm.valid_fits hu)
 simp only[Tm.av] at h
 simpa[onPV,zlG] using h
theorem zrb(ts:List Tm)(hl:Tm.sizes ts<1000000000)(v:AV)(hp:Heap)(hL:IsL v hp ts)(ext:Heap):S 64 [v] (hp++ext)=some (.ret (.pv none (.bool (zaI ts))),hp++ext):=by
 obtain⟨hp1,_,hz⟩:=hL.frz
 exact zfl rfl rfl rfl (hz ext) (zrn ts hl)
theorem zf0(v:AV)(hp:Heap)(ts:List Tm)(hL:IsL v hp ts)(hl:Tm.sizes ts<100000000):S 34 [v] hp=some (.ret (.tuple (if zaI ts=true then[.sl (some 4) (hp.length+2) ts.length 0 ts.length,.pv none (.int .i64 0)] else[.sl (some 4) (hp.length+1) 0 0 0,.pv none (.int .i64 1)])),hp++(if zaI ts=true then[.arr (some 4) [] false,.arr (some 4) [] false,.arr (some 4) (Tm.pvs (isort Tm.cmp ts)) false] else[.arr (some 4) [] false,.arr (some 4) [] false])):=by
 have hv:=zrb ts (by omega) v hp hL
 refine zaD rfl rfl rfl rfl ?_
 by_cases h:zaI ts=true
 ·rw[h] at hv
  have hcall:=fun e=>zkE (onPV Tm.cmp) (zmy zvn) 44 small zuM v (hp++e) ts (hL.more e) (fun t ht=>zb2 h ht) hl (fun t ht=>⟨t,rfl,zb2 h ht,by have:=Tm.zwx ht;omega⟩)
  simp only[zkh,List.length_append,List.append_assoc] at hcall
  simp -dsimp -implicitDefEqProofs only[go_sem,seval,↓reduceIte,hv,hcall,h,zaY (sh:=some 4) (by decide),List.append_assoc,zah,zaf,zaj,zag,Nat.add_assoc,List.length_append]
  simp[AV.refsIn,AV.refsIn.gol]
 ·rw[Bool.not_eq_true] at h
  rw[h] at hv
  simp -dsimp -implicitDefEqProofs only[go_sem,seval,↓reduceIte,hv,h,zaY (sh:=some 4) (by decide),List.append_assoc,zah,zaf,zaj,zag,Nat.add_assoc,List.length_append]
  simp[AV.refsIn,AV.refsIn.gol]
theorem zkp(t u:Tm)(hp:Heap)(ht:t.valid=true)(hu:u.valid=true)(hs:t.size<1000000000):S 67 [.pv (some 4) t.pv,.pv (some 4) u.pv] hp=some (.ret (.pv none (.bool (decide (t.cmp u=0)))),hp):=by
 have h:=fun hp=>zft t u hp hs (Tm.valid_fits ht) (Tm.valid_fits hu)
 simp only[Tm.av] at h
 refine zai rfl rfl rfl (zab [(some 4,t.pv),(some 4,u.pv)]) rfl ?_
 (repeat' (first|(simp -dsimp -implicitDefEqProofs only[go_sem,seval,↓reduceIte, *])|(refine zax (fun _=> ?_) (fun _=> ?_))))
theorem zkq{l:List Tm}{j:Nat}{y:Tm}(h:l[j]? =some y):(l.take (j+1)).getLast? =some y:=by
 rw[List.take_add_one,h];simp
theorem ziX(hp:Heap)(r:Nat)(hr:r<hp.length)(ts:List Tm)(N:Nat)(hN:N=ts.length)(hN':N<1000000000)(hv:∀t∈ts,t.valid=true)(hs:∀t∈ts,t.size<1000000000)(k0:Nat)(hk0:1<=k0)(hk:k0<N)(hd:dd (ts.take (k0+1))=ts.take k0)(ext:Heap)
  (fr:Fr)(Q:AExit->St->Prop)
  (hfr:fr.keep [0,1,5,6,7]=[(0,.sl (some 4) r N 0 N),(1,.pv none (.func (.func 67))),(5,.pv none (.int .i64 k0)),(6,.sl (some 4) r N k0 (N - k0)),(7,.pv none (.int .i64 1))])
  (h:∀rest es,es.length=N->es.take (dd ts).length=Tm.pvs (dd ts)->Q (.exit 2) ⟨(0,.sl (some 4) r N 0 N)::(1,.pv none (.func (.func 67)))::(5,.pv none (.int .i64 (dd ts).length))::rest,hp.set r (.arr (some 4) es false)++ext⟩):
  W Z L hp.length (.loop [0,1,5,6,7] c66b18) ⟨fr,hp.set r (.arr (some 4) (Tm.pvs ts) false)++ext⟩ Q:=by
 have e1:∀A,(hp.set r A++ext)[r]? =some A:=fun A=>by rw[zb8 (by simpa using hr)];simp[hr]
 have e4:∀A B,(hp.set r A++ext).set r B=hp.set r B++ext:=fun A B=>by rw[zgR (by simpa using hr)];simp
 refine za9 (fun n st=>∃(m k:Nat) (es:List PV),n=N - (k0+m)/\1<=m/\k0+m<=N/\k=(dd (ts.take (k0+m))).length/\k<=k0+m - 1/\es.length=N/\es.take k=Tm.pvs (dd (ts.take (k0+m)))/\es.drop (k0+m - 1)=(Tm.pvs ts).drop (k0+m - 1)/\st=⟨[(0,.sl (some 4) r N 0 N),(1,.pv none (.func (.func 67))),(5,.pv none (.int .i64 k)),(6,.sl (some 4) r N k0 (N - k0)),(7,.pv none (.int .i64 m))],hp.set r (.arr (some 4) es false)++ext⟩) (n:=N - (k0+1)) ⟨1,k0,Tm.pvs ts,rfl,Nat.le_refl _,by omega,by rw[hd,List.length_take];omega,by omega,by rw[Tm.pvs_len,hN],by rw[hd,Tm.zwX],rfl,?_⟩ ?_
 ·rw[hfr]
  rfl
 ·rintro n st ⟨m,k,es,hn,hm,hmN,hkl,hkm,hes,htk,hdr,rfl⟩
  have hget:∀i u,k0+m - 1<=i->ts[i]? =some u->es[i]? =some u.pv:=fun i u hi hu=>by
   have h1:(es.drop (k0+m - 1))[i - (k0+m - 1)]? =es[i]? :=by rw[List.getElem?_drop];congr 1;omega
   rw[<-h1,hdr,List.getElem?_drop,show k0+m - 1+(i - (k0+m - 1))=i by omega]
   exact Tm.pvs_get hu
  by_cases hlt:m<N - k0
  ·have hc:(m:Int)<((N - k0:Nat):Int):=by omega
   obtain⟨x,hx⟩:∃x,ts[k0+m]? =some x:=⟨_,List.getElem?_eq_getElem (by omega)⟩
   obtain⟨y,hy⟩:∃y,ts[k0+(m - 1)]? =some y:=⟨_,List.getElem?_eq_getElem (by omega)⟩
   have gx:=hget _ x (by omega) hx
   have gy:=hget _ y (by omega) hy
   have hxm:=List.mem_of_getElem? hx
   have hym:=List.mem_of_getElem? hy
   have hcall:=fun hp=>zkp x y hp (hv x hxm) (hv y hym) (hs x hxm)
   have hlast:(ts.take (k0+m)).getLast? =some y:=by
    have:=zkq hy
    rwa [show k0+(m - 1)+1=k0+m by omega] at this
   have htx:ts.take (k0+(m+1))=ts.take (k0+m)++[x]:=by rw[show k0+(m+1)=k0+m+1 by omega,List.take_add_one,hx];rfl
   have w1:IntKind.i64.wrap ((m:Int) - 1)=((m - 1:Nat):Int):=by rw[zaq (by omega) (by omega)];omega
   have w2:IntKind.i64.wrap ((m:Int)+1)=((m+1:Nat):Int):=by rw[zaq (by omega) (by omega)];omega
   have w3:IntKind.i64.wrap ((k:Int)+1)=((k+1:Nat):Int):=by rw[zaq (by omega) (by omega)];omega
   have la:m - 1<N - k0:=by omega
   have lk:k<N:=by omega
   by_cases h0:x.cmp y=0
   ·simp -dsimp -implicitDefEqProofs only[c66b18,go_sem,seval,↓reduceIte,hc,zao hlt,zao la,zaJ,e1,hes,gx,gy,hcall,w1,w2,h0]
    refine⟨N - (k0+(m+1)),by omega,m+1,k,es,rfl,by omega,by omega,by rw[htx,zum hlast h0,hkl],by omega,hes,by rw[htx,zum hlast h0,htk],?_,?_⟩
    ·have:=congrArg (List.drop 1) hdr
     rw[List.drop_drop,List.drop_drop] at this
     rwa [show k0+(m+1) - 1=k0+m - 1+1 by omega]
    ·rw[zav (by simp)]
   ·simp -dsimp -implicitDefEqProofs only[c66b18,go_sem,seval,↓reduceIte,hc,zao hlt,zao la,zao lk,zaJ,zbZ,e1,e4,hes,lk,gx,gy,hcall,w1,w2,w3,h0]
    refine⟨N - (k0+(m+1)),by omega,m+1,k+1,es.set k x.pv,rfl,by omega,by omega,by rw[htx,zul hlast h0,List.length_append,hkl];rfl,by omega,by simp[hes],?_,?_,?_⟩
    ·rw[htx,zul hlast h0,Tm.zww,<-htk,List.take_add_one]
     simp[hes,lk,List.take_set,Tm.pvs]
     rw[List.set_eq_of_length_le (by rw[List.length_take];omega)]
    ·have:=congrArg (List.drop 1) hdr
     rw[List.drop_drop,List.drop_drop] at this
     rw[List.drop_set,if_pos (by omega)]
     rwa [show k0+(m+1) - 1=k0+m - 1+1 by omega]
    ·rw[zav (by simp)]
  ·have hc:¬(m:Int)<((N - k0:Nat):Int):=by omega
   have hfull:ts.take (k0+m)=ts:=List.take_of_length_le (by omega)
   rw[hfull] at hkl htk
   simp -dsimp -implicitDefEqProofs only[c66b18,go_sem,seval,↓reduceIte,hc]
   rw[hkl] at htk ⊢
   exact h _ es hes htk
theorem zlK{sh s:Sh}{k:IntKind}{r N n h:Nat}(hh:h<=n):zcl sh false true [.sl sh r N 0 n,.pv s (.int k h)]=some (.sl sh r N 0 h):=by
 have h1:(h:Int)<=(n:Int):=by omega
 simp[zcl,aslice,h1]
theorem zgY{sh s:Sh}{k:IntKind}{r N n h:Nat}(hh:h<=n):zcl sh true false [.sl sh r N 0 n,.pv s (.int k h)]=some (.sl sh r N h (n - h)):=by
 have h1:(h:Int)<=(n:Int):=by omega
 simp[zcl,aslice,h1]
theorem zom{sh:Sh}{z:PV}{hp:Heap}{r N o n:Nat}{es:List PV}(h:hp[r]? =some (.arr sh es false))(hN:es.length=N)(hon:o+n=N):zfE sh z hp [.sl sh r N o n]=some (.undef,hp.set r (.arr sh (es.take o++List.replicate n z) false)):=by
 have:es.drop (o+n)=[]:=List.drop_eq_nil_iff.2 (by omega)
 simp only[zfE,h]
 rw[if_pos ⟨trivial,hN.symm,by omega⟩,this,List.append_nil]
def zvx:PV:=.agg [(none,.int .i64 0),(none,.int .i64 0),(none,.str []),(none,.sl (some 4) [])]
def packed(N:Nat)(l:List Tm):List PV:=Tm.pvs l++List.replicate (N - l.length) zvx
theorem zkr{ts:List Tm}{k:Nat}{x y:Tm}(hd:dd (ts.take k)=ts.take k)(hx:ts[k]? =some x)(hy:ts[k - 1]? =some y)(hk:1<=k):dd (ts.take (k+1))=if x.cmp y=0 then ts.take k else ts.take (k+1):=by
 have hlast:(ts.take k).getLast? =some y:=by
  have:=zkq hy
  rwa [show k - 1+1=k by omega] at this
 have htx:ts.take (k+1)=ts.take k++[x]:=by rw[List.take_add_one,hx];rfl
 rw[htx]
 split
 ·rename_i h;rw[zum hlast h,hd]
 ·rename_i h;rw[zul hlast h,hd]
theorem zon(hp:Heap)(r:Nat)(hr:r<hp.length)(ts:List Tm)(N:Nat)(hN:N=ts.length)(hN':N<1000000000)(hv:∀t∈ts,t.valid=true)(hs:∀t∈ts,t.size<1000000000):
  S 66 [.sl (some 4) r N 0 N,.pv none (.func (.func 67))] (hp.set r (.arr (some 4) (Tm.pvs ts) false))=some (.ret (.sl (some 4) r N 0 (dd ts).length),hp.set r (.arr (some 4) (packed N (dd ts)) false)):=by
 have hsl:(hp.set r (.arr (some 4) (Tm.pvs ts) false)).length=hp.length:=by simp
 have e1:∀A ext,(hp.set r A++ext)[r]? =some A:=fun A ext=>by rw[zb8 (by simpa using hr)];simp[hr]
 have e4:∀A B ext,(hp.set r A++ext).set r B=hp.set r B++ext:=fun A B ext=>by rw[zgR (by simpa using hr)];simp
 refine zaD rfl rfl rfl rfl ?_
 rw[hsl]
 by_cases h2:N<2
 ·have hc:(N:Int)<2:=by omega
  simp -dsimp -implicitDefEqProofs only[c66b18,go_sem,seval,↓reduceIte,zaY (sh:=some 4) (by decide),hc]
  have hdd:dd ts=ts:=by
   match ts,hN with
   |[],_=>rfl
   |[x],_=>rfl
   |_::_::_,h=>simp at h;omega
  have ht:∀(A:AObj) (e:Heap),(hp.set r A++e).take hp.length=hp.set r A:=fun A e=>by
   rw[List.take_append_of_le_length (by simp),List.take_of_length_le (by simp)]
  rw[hdd,<-hN,ht]
  simp[AV.refsIn,hr,packed,<-hN]
 ·have hc:¬(N:Int)<2:=by omega
  simp -dsimp -implicitDefEqProofs only[c66b18,go_sem,seval,↓reduceIte,zaY (sh:=some 4) (by decide),hc]
  refine za9 (fun n st=>∃k:Nat,n=N - k/\1<=k/\k<=N/\dd (ts.take k)=ts.take k/\st=⟨[(0,.sl (some 4) r N 0 N),(1,.pv none (.func (.func 67))),(5,.pv none (.int .i64 k))],hp.set r (.arr (some 4) (Tm.pvs ts) false)++[.arr (some 4) [] false]⟩) (n:=N - 1) ⟨1,rfl,Nat.le_refl _,by omega,?_,?_⟩ ?_
  ·match ts,hN with
   |x::l,_=>rfl
   |[],h=>simp at h;omega
  ·simp -dsimp -implicitDefEqProofs only[go_sem,seval,↓reduceIte]
   try rfl
  ·rintro n st ⟨k,hn,hk,hkN,hd,rfl⟩
   by_cases hlt:k<N
   ·have hc:(k:Int)<(N:Int):=by omega
    obtain⟨x,hx⟩:∃x,ts[k]? =some x:=⟨_,List.getElem?_eq_getElem (by omega)⟩
    obtain⟨y,hy⟩:∃y,ts[k - 1]? =some y:=⟨_,List.getElem?_eq_getElem (by omega)⟩
    have gx:=Tm.pvs_get hx
    have gy:=Tm.pvs_get hy
    have hxm:=List.mem_of_getElem? hx
    have hym:=List.mem_of_getElem? hy
    have hcall:=fun hp=>zkp x y hp (hv x hxm) (hv y hym) (hs x hxm)
    have hstep:=zkr hd hx hy hk
    have hlen:(Tm.pvs ts).length=N:=by rw[Tm.pvs_len,hN]
    have w1:IntKind.i64.wrap ((k:Int) - 1)=((k - 1:Nat):Int):=by rw[zaq (by omega) (by omega)];omega
    have w2:IntKind.i64.wrap ((k:Int)+1)=((k+1:Nat):Int):=by rw[zaq (by omega) (by omega)];omega
    have la:k - 1<N:=by omega
    by_cases h0:x.cmp y=0
    ·rw[if_pos h0] at hstep
     simp -dsimp -implicitDefEqProofs only[go_sem,seval,↓reduceIte,hc,zao hlt,zao la,zaJ,e1,hlen,gx,gy,hcall,w1,w2,h0,zgY hkN]
     refine ziX hp r hr ts N hN hN' hv hs k hk hlt hstep _ _ _ rfl fun rest es hes htk=> ?_
     have hdl:(dd ts).length<=N:=by rw[hN];exact zki ts
     simp -dsimp -implicitDefEqProofs only[c66b18,go_sem,seval,↓reduceIte,zgY hdl,zlK hdl,zom (e1 _ _) hes (show(dd ts).length+(N - (dd ts).length)=N by omega),e4]
     have ht:∀(A:AObj) (e:Heap),(hp.set r A++e).take hp.length=hp.set r A:=fun A e=>by
      rw[List.take_append_of_le_length (by simp),List.take_of_length_le (by simp)]
     rw[ht,htk]
     simp[AV.refsIn,hr,packed,zvx]
    ·rw[if_neg h0] at hstep
     simp -dsimp -implicitDefEqProofs only[c66b18,go_sem,seval,↓reduceIte,hc,zao hlt,zao la,zaJ,e1,hlen,gx,gy,hcall,w1,w2,h0]
     refine⟨N - (k+1),by omega,k+1,rfl,by omega,by omega,hstep,?_⟩
     rw[zav (by simp)]
   ·have hc:¬(k:Int)<(N:Int):=by omega
    have hdd:dd ts=ts:=by rwa [List.take_of_length_le (by omega)] at hd
    have ht:∀(A:AObj) (e:Heap),(hp.set r A++e).take hp.length=hp.set r A:=fun A e=>by
     rw[List.take_append_of_le_length (by simp),List.take_of_length_le (by simp)]
    simp -dsimp -implicitDefEqProofs only[c66b18,go_sem,seval,↓reduceIte,hc]
    rw[hdd,<-hN,ht]
    simp[AV.refsIn,hr,packed,<-hN]
theorem zuL(v:AV)(hp:Heap)(ts:List Tm)(hL:IsL v hp ts)(hl:Tm.sizes ts<100000000):S 35 [v] hp=some (.ret (.tuple (if zaI ts=true then[.sl (some 4) (hp.length+3) ts.length 0 (dd (isort Tm.cmp ts)).length,.pv none (.int .i64 0)] else[.sl (some 4) (hp.length+3) 0 0 0,.pv none (.int .i64 1)])),hp++(if zaI ts=true then[.arr (some 4) [] false,.arr (some 4) [] false,.arr (some 4) [] false,.arr (some 4) (packed ts.length (dd (isort Tm.cmp ts))) false] else[.arr (some 4) [] false,.arr (some 4) [] false,.arr (some 4) [] false,.arr (some 4) [] false])):=by
 refine zaD rfl rfl rfl rfl ?_
 have hst:=zf0 v (hp++[.arr (some 4) [] false]) ts (hL.more _) hl
 have hlen:=Tm.zwp ts
 by_cases h:zaI ts=true
 ·have hmem:∀t∈isort Tm.cmp ts,t∈ts:=fun t ht=>(za6 ts).mem_iff.1 ht
  have hcp:=zon (hp++[.arr (some 4) [] false,.arr (some 4) [] false,.arr (some 4) [] false,.arr (some 4) (Tm.pvs (isort Tm.cmp ts)) false]) (hp.length+3) (by simp) (isort Tm.cmp ts) ts.length (zat ts).symm (by omega) (fun t ht=>zb2 h (hmem t ht)) (fun t ht=>by have:=Tm.zwx (hmem t ht);omega)
  simp only[h,if_true,List.length_append,List.length_cons,List.length_nil,List.append_assoc,List.cons_append,List.nil_append,Nat.add_assoc,Nat.zero_add,Nat.reduceAdd] at hst
  simp only[zaj,List.set_cons_succ,List.set_cons_zero] at hcp
  simp -dsimp -implicitDefEqProofs only[go_sem,seval,↓reduceIte,h,hst,hcp,zaY (sh:=some 4) (by decide),List.append_assoc,zah,zaf,zaj,zag,Nat.add_assoc,List.length_append]
  simp[AV.refsIn,AV.refsIn.gol]
 ·rw[Bool.not_eq_true] at h
  simp only[h,if_false,Bool.false_eq_true,List.length_append,List.length_cons,List.length_nil,List.append_assoc,List.cons_append,List.nil_append,Nat.add_assoc,Nat.zero_add,Nat.reduceAdd] at hst
  simp -dsimp -implicitDefEqProofs only[go_sem,seval,↓reduceIte,h,hst,zaY (sh:=some 4) (by decide),List.append_assoc,zah,zaf,zaj,zag,Nat.add_assoc,List.length_append]
  simp[AV.refsIn,AV.refsIn.gol]
def zaZ(t:Tm):Bool:=decide (t.kind=3) && decide (t.name=[45]) && decide (t.args.length=2)
def zkv(p:PV):Prop:=∃t:Tm,p=t.pv/\t.valid=true/\t.size<1000000000/\zaZ t=true
theorem zsP:CmpG (onPV zd1) 68 zkv:=by
 rintro x y ⟨t,rfl,ht,hts,htp⟩ ⟨u,rfl,hu,hus,hup⟩ hp
 simp only[zaZ,Bool.and_eq_true,decide_eq_true_eq] at htp hup
 obtain⟨k1,k2,hk⟩:∃k1 k2,t.args=[k1,k2]:=by
  match t.args,htp.2 with
  |[a,b],_=>exact⟨a,b,rfl⟩
 obtain⟨j1,j2,hj⟩:∃k1 k2,u.args=[k1,k2]:=by
  match u.args,hup.2 with
  |[a,b],_=>exact⟨a,b,rfl⟩
 have h1:k1∈t.args:=by rw[hk];simp
 have h2:j1∈u.args:=by rw[hj];simp
 have hs:=Tm.zwr h1
 have h:=fun hp=>zft k1 j1 hp (by omega) (Tm.zws (Tm.valid_fits ht) h1) (Tm.zws (Tm.valid_fits hu) h2)
 simp only[Tm.av] at h
 have e1:(Tm.pvs t.args)[0]? =some k1.pv:=Tm.pvs_get (by rw[hk];rfl)
 have e2:(Tm.pvs u.args)[0]? =some j1.pv:=Tm.pvs_get (by rw[hj];rfl)
 have ek:zd1 t u=k1.cmp j1:=by unfold zd1 zqB;rw[hk,hj];rfl
 refine zai rfl rfl rfl (zab [(some 4,t.pv),(some 4,u.pv)]) rfl ?_
 simp -dsimp -implicitDefEqProofs only[go_sem,seval,↓reduceIte,zac,zdb e1,zdb e2,h]
 rw[show onPV zd1 t.pv u.pv=zd1 t u by simp[onPV,zlG],ek]
def zhs(ts:List Tm):Int:=if zaI ts=true then(if ts.all zaZ=true then 0 else 3) else 1
def zfw(ts:List Tm):List Tm:=if zaI ts=true/\ts.all zaZ=true then isort zd1 ts else[]
def zuB(ts:List Tm)(hp:Heap)(v:AV)(H:Heap):Prop:=∃q E,H=hp++E/\hp.length<=q/\H[q]? =some (.arr (some 4) (Tm.pvs (zfw ts)) false)/\v=.tuple [.sl (some 4) q (zfw ts).length 0 (zfw ts).length,.pv none (.int .i64 (zhs ts))]
theorem zeU{ts:List Tm}{hp:Heap}{q:Nat}{E:Heap}{n:Nat}(hq:hp.length<=q)(h:(hp++E)[q]? =some (.arr (some 4) (Tm.pvs (zfw ts)) false))(hn:n=(zfw ts).length){e:Int}(he:e=zhs ts):
  zuB ts hp (.tuple [.sl (some 4) q n 0 n,.pv none (.int .i64 e)]) (if(AV.tuple [.sl (some 4) q n 0 n,.pv none (.int .i64 e)]).refsIn.all (fun q=>decide (q<hp.length))=true then(hp++E).take hp.length else hp++E):=by
 rw[if_neg (by simp[AV.refsIn,AV.refsIn.gol];omega)]
 exact⟨q,E,rfl,hq,h,by rw[hn,he]⟩
theorem zvC(ts:List Tm)(hl:Tm.sizes ts<100000000)(hp:Heap)(w:AV)(hL:IsL w hp ts):∃v H,S 36 [w] hp=some (.ret v,H)/\zuB ts hp v H:=by
 have hv:=zrb ts (by omega) w hp hL
 have hlen:=Tm.zwp ts
 refine zha (zuB ts hp) rfl rfl rfl rfl ?_
 have hn0:∀H:Heap,zcb (some 4) H=some (.sl (some 4) H.length 0 0 0,H++[.arr (some 4) [] false]):=fun H=>zaY (sh:=some 4) (by decide)
 by_cases h:zaI ts=true
 ·rw[h] at hv
  simp -dsimp -implicitDefEqProofs only[go_sem,seval,↓reduceIte,hv,hn0,hL.len,List.append_assoc,zah,zaf,zaj,zag,Nat.add_assoc,List.length_append]
  refine za9 (fun n st=>∃i:Nat,n=ts.length - i/\i<=ts.length/\(ts.take i).all zaZ=true/\st=⟨[(0,w),(9,w),(10,.pv none (.int .i64 ts.length)),(11,.pv none (.int .i64 i))],hp++[.arr (some 4) [] false]⟩) (n:=ts.length) ⟨0,rfl,Nat.zero_le _,rfl,?_⟩ ?_
  ·rfl
  ·rintro n st ⟨i,hn,hi,hp1,rfl⟩
   by_cases hlt:i<ts.length
   ·have hc:(i:Int)<(ts.length:Int):=by omega
    obtain⟨u,hu⟩:∃u,ts[i]? =some u:=⟨_,List.getElem?_eq_getElem hlt⟩
    have hum:=List.mem_of_getElem? hu
    obtain⟨pp,pp1,pp2⟩:=hL.idx i u hu
    have w2:IntKind.i64.wrap ((i:Int)+1)=((i+1:Nat):Int):=by rw[zaq (by omega) (by omega)];omega
    have hbad:zaZ u=false->zhs ts=3/\zfw ts=[]:=fun hb=>by
     have:ts.all zaZ=false:=List.all_eq_false.2 ⟨u,hum,by simp[hb]⟩
     unfold zhs zfw
     simp[h,this]
    by_cases k1:u.kind=3
    ·have k1':=eq_true k1
     by_cases k2:u.name=[45]
     ·have k2':=eq_true k2
      by_cases k3:u.args.length=2
      ·have k3':=eq_true (show(u.args.length:Int)=2 by omega)
       simp -dsimp -implicitDefEqProofs only[go_sem,seval,↓reduceIte,hc,pp1,pp2,zar,zap,zac,Tm.pvs_len,k1',k2',k3',w2,hn0,List.append_assoc,zah,zaf,zaj,zag,Nat.add_assoc,List.length_append]
       refine⟨ts.length - (i+1),by omega,i+1,rfl,by omega,by rw[List.take_add_one,hu];simp[hp1,zaZ,k1,k2,k3],?_⟩
       rw[zbO 1 rfl rfl rfl (by simp[AV.refsIn];intro q hq;have:=hL.refs q hq;omega)]
       rfl
      ·have k3':=eq_false (show ¬(u.args.length:Int)=2 by omega)
       simp -dsimp -implicitDefEqProofs only[go_sem,seval,↓reduceIte,hc,pp1,pp2,zar,zap,zac,Tm.pvs_len,k1',k2',k3',w2,hn0,List.append_assoc,zah,zaf,zaj,zag,Nat.add_assoc,List.length_append]
       exact zeU (by omega) (by rw[zah,(hbad (by simp[zaZ,k3])).2];rfl) (by rw[(hbad (by simp[zaZ,k3])).2];rfl) (hbad (by simp[zaZ,k3])).1.symm
     ·have k2':=eq_false k2
      simp -dsimp -implicitDefEqProofs only[go_sem,seval,↓reduceIte,hc,pp1,pp2,zar,zap,zac,Tm.pvs_len,k1',k2',w2,hn0,List.append_assoc,zah,zaf,zaj,zag,Nat.add_assoc,List.length_append]
      exact zeU (by omega) (by rw[zah,(hbad (by simp[zaZ,k2])).2];rfl) (by rw[(hbad (by simp[zaZ,k2])).2];rfl) (hbad (by simp[zaZ,k2])).1.symm
    ·have k1':=eq_false k1
     simp -dsimp -implicitDefEqProofs only[go_sem,seval,↓reduceIte,hc,pp1,pp2,zar,zap,zac,Tm.pvs_len,k1',w2,hn0,List.append_assoc,zah,zaf,zaj,zag,Nat.add_assoc,List.length_append]
     exact zeU (by omega) (by rw[zah,(hbad (by simp[zaZ,k1])).2];rfl) (by rw[(hbad (by simp[zaZ,k1])).2];rfl) (hbad (by simp[zaZ,k1])).1.symm
   ·have hc:¬(i:Int)<(ts.length:Int):=by omega
    obtain rfl:i=ts.length:=by omega
    rw[List.take_length] at hp1
    have eE:zhs ts=0:=by unfold zhs;rw[if_pos h,if_pos hp1]
    have eL:zfw ts=isort zd1 ts:=by unfold zfw;rw[if_pos ⟨h,hp1⟩]
    have hcall:=zkE (onPV zd1) (zmy zuk) 68 zkv zsP w (hp++[.arr (some 4) [] false]) ts (hL.more _) (fun t ht=>zb2 h ht) hl (fun t ht=>⟨t,rfl,zb2 h ht,by have:=Tm.zwx ht;omega,List.all_eq_true.1 hp1 t ht⟩)
    simp only[zkh,List.length_append,List.length_cons,List.length_nil,List.append_assoc,List.cons_append,List.nil_append,Nat.add_assoc,Nat.zero_add] at hcall
    simp -dsimp -implicitDefEqProofs only[go_sem,seval,↓reduceIte,hc,hcall,List.append_assoc,zah,zaf,zaj,zag,Nat.add_assoc,List.length_append]
    exact zeU (by omega) (by rw[zah,eL];rfl) (by rw[eL,zat]) eE.symm
 ·have eE:zhs ts=1:=by unfold zhs;rw[if_neg h]
  have eL:zfw ts=[]:=by unfold zfw;rw[if_neg (fun e=>h e.1)]
  rw[Bool.not_eq_true] at h
  rw[h] at hv
  simp -dsimp -implicitDefEqProofs only[go_sem,seval,↓reduceIte,hv,hn0,List.append_assoc,zah,zaf,zaj,zag,Nat.add_assoc,List.length_append]
  exact zeU (by omega) (by rw[zah,eL];rfl) (by rw[eL];rfl) eE.symm
def bo(l:List B)(v:Int)(t:Tm)(i:Nat):List B:=if lbB l v<i then(insB l v t).take (i+1) else l.take i
theorem zlT{F:FuncId->Option AFn}{prim:FuncId->Option zba}{f:FuncId}{fn:AFn}{args:List AV}{ps:List (Sh × PV)}(P:AV->Prop)(hp0:prim f=none)(hf:F f=some fn)(hm:fn.heapMode=false)(hz:∀hp,zan args hp=some (ps,hp))(hn:(pvs ps).length=fn.nparams)
  (h:W (sem F prim) (sloop F prim) 0 fn.code ⟨params 0 (pvs ps),[]⟩ (endK fn.results (fun v hp=>∃v',Am.frozen v' v hp/\P v')))(hr:fn.rcv=none:=by rfl)(hmo:fn.more=[]:=by rfl):∃v,(∀hp,sem F prim .fn f args hp=some (.ret v,hp))/\P v:=by
 have key:∃v,P v/\W (sem F prim) (sloop F prim) 0 fn.code ⟨params 0 (pvs ps),[]⟩ (endK fn.results (Am.frozen v)):=by
  unfold W at h ⊢
  split at h
  ·rename_i e st' he
   cases e with
   |normal=>
    rw[zbn] at h
    cases hr:zaw st' fn.results with
    |none=>rw[hr] at h;exact h.elim
    |some u=>rw[hr] at h;obtain⟨v',h1,h2⟩:=h;exact⟨v',h2,by simp only[he,zbn,hr];exact h1⟩
   |ret=>
    rw[zcg] at h
    cases hr:zaw st' fn.results with
    |none=>rw[hr] at h;exact h.elim
    |some u=>rw[hr] at h;obtain⟨v',h1,h2⟩:=h;exact⟨v',h2,by simp only[he,zcg,hr];exact h1⟩
   |exit i=>exact h.elim
   |panic v=>exact h.elim
  ·exact h.elim
 obtain⟨v,h1,h2⟩:=key
 exact⟨v,fun hp=>zai hp0 hf hm (hz hp) hn h2 hr hmo,h1⟩
def mk1(l:List B)(D:List Bool)(w:Int):Bool:= !fndB l w || D.getD (lbB l w) false
def sttl(l:List B)(D:List Bool)(os:List Int):Bool:=os.all (mk1 l D)
theorem zvF{l:List B}{v:Int}(h:fndB l v=true):lbB l v<l.length:=by
 unfold fndB at h
 split at h
 ·rename_i b hb;exact(List.getElem?_eq_some_iff.1 hb).1
 ·cases h
structure OKB(l:List B):Prop where
 good:Good l
 rng:∀b∈l,0<=b.1/\b.1<=1099511627776
 acyc:∃rk:Nat->Nat,∀(i:Nat) (b:B),l[i]? =some b->∀w∈b.2.occ,fndB l w=true->rk (lbB l w)<rk i
structure InvD(l:List B)(D:List Bool)(left:Nat):Prop where
 len:D.length=l.length
 cnt:D.count false=left
 rk:∃(rk:Nat->Nat) (c:Nat),∀(i:Nat) (b:B),D[i]? =some true->l[i]? =some b->rk i<c/\∀w∈b.2.occ,fndB l w=true->D[lbB l w]? =some true/\rk (lbB l w)<rk i
theorem zq0{D:List Bool}{i:Nat}(h:D[i]? =some false):(D.set i true).count false+1=D.count false:=by
 induction D generalizing i with
 |nil=>simp at h
 |cons x r ih=>
  cases i with
  |zero=>simp at h;subst h;simp
  |succ i=>
   have:=ih (i:=i) (by simpa using h)
   simp only[List.set_cons_succ,List.count_cons]
   omega
theorem InvD.mark{l:List B}{D:List Bool}{left i:Nat}{b:B}(h:InvD l D left)(hi:D[i]? =some false)(hb:l[i]? =some b)(hs:sttl l D b.2.occ=true):InvD l (D.set i true) (left - 1):=by
 obtain⟨h1,h2,rk,c,h3⟩:=h
 have hlt:=(List.getElem?_eq_some_iff.1 hi).1
 refine⟨by simp[h1],by have:=zq0 hi;omega,fun j=>if j=i then c else rk j,c+1,fun j b' hj hb'=> ?_⟩
 by_cases e:j=i
 ·subst e
  rw[hb] at hb'
  cases hb'
  refine⟨by simp,fun w hw hf=> ?_⟩
  have hm:=List.all_eq_true.1 hs w hw
  have hd:D[lbB l w]? =some true:=by
   simp only[mk1,hf,Bool.not_true,Bool.false_or,List.getD_eq_getElem?_getD] at hm
   cases hx:D[lbB l w]? with
   |none=>rw[hx] at hm;cases hm
   |some d=>rw[hx] at hm;simp at hm;rw[hm]
  have hne:lbB l w≠j:=by intro e;rw[e,hi] at hd;cases hd
  obtain⟨x,hx⟩:∃x,l[lbB l w]? =some x:=⟨_,List.getElem?_eq_getElem (zvF hf)⟩
  obtain⟨k1,_⟩:=h3 _ x hd hx
  refine⟨by rw[List.getElem?_set_ne (Ne.symm hne)];exact hd,?_⟩
  simp only[if_neg hne,if_true]
  exact k1
 ·rw[List.getElem?_set_ne (Ne.symm e)] at hj
  obtain⟨k1,k2⟩:=h3 j b' hj hb'
  refine⟨by simp only[if_neg e];omega,fun w hw hf=> ?_⟩
  obtain⟨m1,m2⟩:=k2 w hw hf
  have hne:lbB l w≠i:=by intro e;rw[e,hi] at m1;cases m1
  refine⟨by rw[List.getElem?_set_ne (Ne.symm hne)];exact m1,?_⟩
  simp only[if_neg hne,if_neg e]
  exact m2
def WfAt(l:List B)(i:Nat):Prop:=∀b,l[i]? =some b->0<=b.1/\b.1<=1099511627776/\b.2.valid=true/\(0<i->∀c,l[i - 1]? =some c->c.1<b.1)
theorem OKB.wf{l:List B}(h:OKB l)(i:Nat):WfAt l i:=fun b hb=>by
 have hm:=List.mem_of_getElem? hb
 obtain⟨h1,h2⟩:=h.rng b hm
 refine⟨h1,h2,(h.good.2 b hm).1,fun hi c hc=> ?_⟩
 obtain⟨hlt,hb'⟩:=List.getElem?_eq_some_iff.1 hb
 obtain⟨hlt2,hc'⟩:=List.getElem?_eq_some_iff.1 hc
 have:=List.pairwise_iff_getElem.1 h.good.1 (i - 1) i hlt2 hlt (by omega)
 rw[hb',hc'] at this
 exact this
end Go.Proofs.YtiifblpdlphchaaGreatRR
