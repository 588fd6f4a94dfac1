/- What is proved: the library's merging in place merges. -/
import Derived.Test.YtffecaafklpmhaaGreatSwap
import Derived.Test.YtffecaafklpmhaaGreatAm4
import Derived.Test.YtffecaafklpmhaaGreatRv
set_option linter.unusedSimpArgs false
set_option linter.unusedVariables false
namespace Go.Proofs.YtffecaafklpmhaaGreat
open Go.Am
theorem Nt(c:PV->PV->Int)(fv:AV)(D:PV->Prop)(hp:Heap)(r:Nat)(hg:CmpF c fv D hp r)(hr:r<hp.length)(xs:List PV)(N a i0 j0:Nat)(hN:xs.length=N)(hN':N<1000000000)(ha:a<N)(hj:j0<=N)(hij:i0<=j0)(hD:∀h,h<N->D (at' xs h))
  (hm:∀h h',i0<=h'->h'<=h->h<j0->c (at' xs h) (at' xs a)<0->c (at' xs h') (at' xs a)<0)
  (fr:Fr)(Q:AExit->St->Prop)
  (hfr:fr.keep [0,1,4,10,11]=[(0,.sl (some 4) r N 0 N),(1,O8 a),(4,fv),(10,O8 i0),(11,O8 j0)])
  (h:∀k,i0<=k->k<=j0->(∀h,i0<=h->h<k->c (at' xs h) (at' xs a)<0)->(∀h,k<=h->h<j0->¬c (at' xs h) (at' xs a)<0)->∀rest,Q (.exit 0) ⟨(0,.sl (some 4) r N 0 N)::(1,O8 a)::(4,fv)::(10,O8 k)::rest,hp.set r (.arr (some 4) xs false)⟩):
  W Z L hp.length (.loop [0,1,4,10,11] c151b11) ⟨fr,hp.set r (.arr (some 4) xs false)⟩ Q:=by
 have e1:∀A,(hp.set r A)[r]? =some A:=fun A=>by simp[hr]
 refine Yr (fun n st=>∃i j:Nat,n=j - i/\i0<=i/\i<=j/\j<=j0/\(∀h,i0<=h->h<i->c (at' xs h) (at' xs a)<0)/\(∀h,j<=h->h<j0->¬c (at' xs h) (at' xs a)<0)/\
  st=⟨[(0,.sl (some 4) r N 0 N),(1,O8 a),(4,fv),(10,O8 i),(11,O8 j)],hp.set r (.arr (some 4) xs false)⟩) (n:=j0 - i0) ⟨i0,j0,rfl,by omega,hij,by omega,fun h h1 h2=>by omega,fun h h1 h2=>by omega,?_⟩ ?_
 ·rw[hfr]
 ·rintro n st ⟨i,j,hn,h1,h2,h3,h4,h5,rfl⟩;by_cases hlt:i<j
  ·have hc:(i:Int)<(j:Int):=by omega
   have w1:IntKind.i64.wrap ((i:Int)+(j:Int))=((i+j:Nat):Int):=by rw[zZ (by omega) (by omega)];omega
   have w2:IntKind.u64.wrap ((i+j:Nat):Int)=((i+j:Nat):Int):=qY (by omega) (by omega);have w3:IntKind.i64.wrap (((i+j:Nat):Int) / 2)=(((i+j) / 2:Nat):Int):=by rw[zZ (by omega) (by omega)];omega
   have w4:IntKind.i64.wrap ((((i+j) / 2:Nat):Int)+1)=(((i+j) / 2+1:Nat):Int):=by rw[zZ (by omega) (by omega)];omega
   have lh:(i+j) / 2<N:=by omega
   have gh:=QB (xs:=xs) (i:=(i+j) / 2) (by omega);have ga:=QB (xs:=xs) (i:=a) (by omega);obtain⟨g,fs,cs,hcal,hg'⟩:=hg;have hcall:=hg' _ _ (hD _ lh) (hD a ha);by_cases h0:c (at' xs ((i+j) / 2)) (at' xs a)<0
   ·simp -dsimp -implicitDefEqProofs only[c151b11,c151b19,c151b33,c151b41,c151b62,c151r64,c151r65,c151k67,c151r68,c151k70,c151r71,c151k73,go_sem,seval,↓reduceIte,hc,X7 (show 0<IntKind.bits .u64 by decide),w1,w2,w3,w4,Yp lh,Yp ha,YX,e1,gh,ga,hN,hcall,xQ hcal,h0];refine⟨j - ((i+j) / 2+1),by omega,(i+j) / 2+1,j,rfl,by omega,by omega,h3,fun h x1 x2=>hm _ _ x1 (by omega) (by omega) h0,h5,?_⟩;rw[YW (by simp)]
   ·simp -dsimp -implicitDefEqProofs only[c151b11,c151b19,c151b33,c151b41,c151b62,c151r64,c151r65,c151k67,c151r68,c151k70,c151r71,c151k73,go_sem,seval,↓reduceIte,hc,X7 (show 0<IntKind.bits .u64 by decide),w1,w2,w3,w4,Yp lh,Yp ha,YX,e1,gh,ga,hN,hcall,xQ hcal,h0];refine⟨(i+j) / 2 - i,by omega,i,(i+j) / 2,rfl,h1,by omega,by omega,h4,fun h x1 x2 x3=>h0 (hm _ _ (by omega) x1 x2 x3),?_⟩;rw[YW (by simp)]
  ·have hc:¬(i:Int)<(j:Int):=by omega
   obtain rfl:i=j:=by omega
   simp -dsimp -implicitDefEqProofs only[c151b11,c151b19,c151b33,c151b41,c151b62,c151r64,c151r65,c151k67,c151r68,c151k70,c151r71,c151k73,go_sem,seval,↓reduceIte,hc];exact h i h1 h3 h4 h5 _
theorem Nu(c:PV->PV->Int)(fv:AV)(D:PV->Prop)(hp:Heap)(r:Nat)(hg:CmpF c fv D hp r)(hr:r<hp.length)(xs:List PV)(N m i0 j0:Nat)(hN:xs.length=N)(hN':N<1000000000)(ha:m<N)(hj:j0<=N)(hij:i0<=j0)(hD:∀h,h<N->D (at' xs h))
  (hm:∀h h',i0<=h'->h'<=h->h<j0->¬c (at' xs m) (at' xs h)<0->¬c (at' xs m) (at' xs h')<0)
  (fr:Fr)(Q:AExit->St->Prop)
  (hfr:fr.keep [0,2,4,14,15]=[(0,.sl (some 4) r N 0 N),(2,O8 m),(4,fv),(14,O8 i0),(15,O8 j0)])
  (h:∀k,i0<=k->k<=j0->(∀h,i0<=h->h<k->¬c (at' xs m) (at' xs h)<0)->(∀h,k<=h->h<j0->c (at' xs m) (at' xs h)<0)->∀rest,Q (.exit 4) ⟨(0,.sl (some 4) r N 0 N)::(2,O8 m)::(4,fv)::(14,O8 k)::rest,hp.set r (.arr (some 4) xs false)⟩):
  W Z L hp.length (.loop [0,2,4,14,15] c151b33) ⟨fr,hp.set r (.arr (some 4) xs false)⟩ Q:=by
 have e1:∀A,(hp.set r A)[r]? =some A:=fun A=>by simp[hr]
 refine Yr (fun n st=>∃i j:Nat,n=j - i/\i0<=i/\i<=j/\j<=j0/\(∀h,i0<=h->h<i->¬c (at' xs m) (at' xs h)<0)/\(∀h,j<=h->h<j0->c (at' xs m) (at' xs h)<0)/\
  st=⟨[(0,.sl (some 4) r N 0 N),(2,O8 m),(4,fv),(14,O8 i),(15,O8 j)],hp.set r (.arr (some 4) xs false)⟩) (n:=j0 - i0) ⟨i0,j0,rfl,by omega,hij,by omega,fun h h1 h2=>by omega,fun h h1 h2=>by omega,?_⟩ ?_
 ·rw[hfr]
 ·rintro n st ⟨i,j,hn,h1,h2,h3,h4,h5,rfl⟩;by_cases hlt:i<j
  ·have hc:(i:Int)<(j:Int):=by omega
   have w1:IntKind.i64.wrap ((i:Int)+(j:Int))=((i+j:Nat):Int):=by rw[zZ (by omega) (by omega)];omega
   have w2:IntKind.u64.wrap ((i+j:Nat):Int)=((i+j:Nat):Int):=qY (by omega) (by omega);have w3:IntKind.i64.wrap (((i+j:Nat):Int) / 2)=(((i+j) / 2:Nat):Int):=by rw[zZ (by omega) (by omega)];omega
   have w4:IntKind.i64.wrap ((((i+j) / 2:Nat):Int)+1)=(((i+j) / 2+1:Nat):Int):=by rw[zZ (by omega) (by omega)];omega
   have lh:(i+j) / 2<N:=by omega
   have gh:=QB (xs:=xs) (i:=(i+j) / 2) (by omega);have ga:=QB (xs:=xs) (i:=m) (by omega);obtain⟨g,fs,cs,hcal,hg'⟩:=hg;have hcall:=hg' _ _ (hD m ha) (hD _ lh);by_cases h0:c (at' xs m) (at' xs ((i+j) / 2))<0
   ·simp -dsimp -implicitDefEqProofs only[c151b11,c151b19,c151b33,c151b41,c151b62,c151r64,c151r65,c151k67,c151r68,c151k70,c151r71,c151k73,go_sem,seval,↓reduceIte,hc,X7 (show 0<IntKind.bits .u64 by decide),w1,w2,w3,w4,Yp lh,Yp ha,YX,e1,gh,ga,hN,hcall,xQ hcal,h0];refine⟨(i+j) / 2 - i,by omega,i,(i+j) / 2,rfl,h1,by omega,by omega,h4,fun h x1 x2=>Classical.byContradiction fun x3=>hm _ _ (by omega) x1 x2 x3 h0,?_⟩;rw[YW (by simp)]
   ·simp -dsimp -implicitDefEqProofs only[c151b11,c151b19,c151b33,c151b41,c151b62,c151r64,c151r65,c151k67,c151r68,c151k70,c151r71,c151k73,go_sem,seval,↓reduceIte,hc,X7 (show 0<IntKind.bits .u64 by decide),w1,w2,w3,w4,Yp lh,Yp ha,YX,e1,gh,ga,hN,hcall,xQ hcal,h0];refine⟨j - ((i+j) / 2+1),by omega,(i+j) / 2+1,j,rfl,by omega,by omega,h3,fun h x1 x2=>hm _ _ x1 (by omega) (by omega) h0,h5,?_⟩;rw[YW (by simp)]
  ·have hc:¬(i:Int)<(j:Int):=by omega
   obtain rfl:i=j:=by omega
   simp -dsimp -implicitDefEqProofs only[c151b11,c151b19,c151b33,c151b41,c151b62,c151r64,c151r65,c151k67,c151r68,c151k70,c151r71,c151k73,go_sem,seval,↓reduceIte,hc];exact h i h1 h3 h4 h5 _
theorem G8(c:PV->PV->Int)(fv:AV)(D:PV->Prop)(hp:Heap)(r:Nat)(hg:CmpF c fv D hp r)(hr:r<hp.length)(xs:List PV)(N a m b mid n p i0 j0:Nat)(hN:xs.length=N)(hN':N<1000000000)(hj:j0<=N)(hp1:p<N+i0)(hp2:j0<=p+1)(hij:i0<=j0)(hD:∀h,h<N->D (at' xs h))
  (hm:∀h h',i0<=h'->h'<=h->h<j0->¬c (at' xs (p - h)) (at' xs h)<0->¬c (at' xs (p - h')) (at' xs h')<0)(hb:p<1000000000+1000000000)
  (fr:Fr)(Q:AExit->St->Prop)
  (hfr:fr.keep [0,1,2,3,4,18,19,20,21,22]=[(0,.sl (some 4) r N 0 N),(1,O8 a),(2,O8 m),(3,O8 b),(4,fv),(18,O8 mid),(19,O8 n),(20,O8 i0),(21,O8 j0),(22,O8 p)])
  (h:∀k,i0<=k->k<=j0->(∀h,i0<=h->h<k->¬c (at' xs (p - h)) (at' xs h)<0)->(∀h,k<=h->h<j0->c (at' xs (p - h)) (at' xs h)<0)->
   ∀rest,Q (.exit 8) ⟨(0,.sl (some 4) r N 0 N)::(1,O8 a)::(2,O8 m)::(3,O8 b)::(4,fv)::(18,O8 mid)::(19,O8 n)::(20,O8 k)::rest,hp.set r (.arr (some 4) xs false)⟩):
  W Z L hp.length (.loop [0,1,2,3,4,18,19,20,21,22] c151b62) ⟨fr,hp.set r (.arr (some 4) xs false)⟩ Q:=by
 have e1:∀A,(hp.set r A)[r]? =some A:=fun A=>by simp[hr]
 refine Yr (fun k st=>∃i j:Nat,k=j - i/\i0<=i/\i<=j/\j<=j0/\(∀h,i0<=h->h<i->¬c (at' xs (p - h)) (at' xs h)<0)/\(∀h,j<=h->h<j0->c (at' xs (p - h)) (at' xs h)<0)/\
  st=⟨[(0,.sl (some 4) r N 0 N),(1,O8 a),(2,O8 m),(3,O8 b),(4,fv),(18,O8 mid),(19,O8 n),(20,O8 i),(21,O8 j),(22,O8 p)],hp.set r (.arr (some 4) xs false)⟩) (n:=j0 - i0) ⟨i0,j0,rfl,by omega,hij,by omega,fun h h1 h2=>by omega,fun h h1 h2=>by omega,?_⟩ ?_
 ·rw[hfr]
 ·rintro k st ⟨i,j,hn,h1,h2,h3,h4,h5,rfl⟩;by_cases hlt:i<j
  ·have hc:(i:Int)<(j:Int):=by omega
   have w1:IntKind.i64.wrap ((i:Int)+(j:Int))=((i+j:Nat):Int):=by rw[zZ (by omega) (by omega)];omega
   have w2:IntKind.u64.wrap ((i+j:Nat):Int)=((i+j:Nat):Int):=qY (by omega) (by omega);have w3:IntKind.i64.wrap (((i+j:Nat):Int) / 2)=(((i+j) / 2:Nat):Int):=by rw[zZ (by omega) (by omega)];omega
   have w4:IntKind.i64.wrap ((((i+j) / 2:Nat):Int)+1)=(((i+j) / 2+1:Nat):Int):=by rw[zZ (by omega) (by omega)];omega
   have w5:IntKind.i64.wrap ((p:Int) - (((i+j) / 2:Nat):Int))=((p - (i+j) / 2:Nat):Int):=by rw[zZ (by omega) (by omega)];omega
   have lh:(i+j) / 2<N:=by omega
   have lp:p - (i+j) / 2<N:=by omega
   have gh:=QB (xs:=xs) (i:=(i+j) / 2) (by omega);have ga:=QB (xs:=xs) (i:=p - (i+j) / 2) (by omega);obtain⟨g,fs,cs,hcal,hg'⟩:=hg;have hcall:=hg' _ _ (hD _ lp) (hD _ lh);by_cases h0:c (at' xs (p - (i+j) / 2)) (at' xs ((i+j) / 2))<0
   ·simp -dsimp -implicitDefEqProofs only[c151b11,c151b19,c151b33,c151b41,c151b62,c151r64,c151r65,c151k67,c151r68,c151k70,c151r71,c151k73,go_sem,seval,↓reduceIte,hc,X7 (show 0<IntKind.bits .u64 by decide),w1,w2,w3,w4,w5,Yp lh,Yp lp,YX,e1,gh,ga,hN,hcall,xQ hcal,h0];refine⟨(i+j) / 2 - i,by omega,i,(i+j) / 2,rfl,h1,by omega,by omega,h4,fun h x1 x2=>Classical.byContradiction fun x3=>hm _ _ (by omega) x1 x2 x3 h0,?_⟩;rw[YW (by simp)]
   ·simp -dsimp -implicitDefEqProofs only[c151b11,c151b19,c151b33,c151b41,c151b62,c151r64,c151r65,c151k67,c151r68,c151k70,c151r71,c151k73,go_sem,seval,↓reduceIte,hc,X7 (show 0<IntKind.bits .u64 by decide),w1,w2,w3,w4,w5,Yp lh,Yp lp,YX,e1,gh,ga,hN,hcall,xQ hcal,h0];refine⟨j - ((i+j) / 2+1),by omega,(i+j) / 2+1,j,rfl,by omega,by omega,h3,fun h x1 x2=>hm _ _ x1 (by omega) (by omega) h0,h5,?_⟩;rw[YW (by simp)]
  ·have hc:¬(i:Int)<(j:Int):=by omega
   obtain rfl:i=j:=by omega
   simp -dsimp -implicitDefEqProofs only[c151b11,c151b19,c151b33,c151b41,c151b62,c151r64,c151r65,c151k67,c151r68,c151k70,c151r71,c151k73,go_sem,seval,↓reduceIte,hc];exact h i h1 h3 h4 h5 _

theorem Nv(hp:Heap)(r:Nat)(hr:r<hp.length)(N i a:Nat)(P B1 T:List PV)(x:PV)(hP:P.length=a)(hi:i=a+1+B1.length)(hN:N=(P++x::B1++T).length)(hN':N<1000000000)(fr:Fr)(Q:AExit->St->Prop)
  (hfr:fr.keep [0,10,13]=[(0,.sl (some 4) r N 0 N),(10,O8 i),(13,O8 a)])
  (h:∀fr,Q (.exit 2) ⟨fr,hp.set r (.arr (some 4) (P++B1++x::T) false)⟩):
  W Z L hp.length (.loop [0,10,13] c151b19) ⟨fr,hp.set r (.arr (some 4) (P++x::B1++T) false)⟩ Q:=by
 have e1:∀A,(hp.set r A)[r]? =some A:=fun A=>by simp[hr]
 have hNl:N=P.length+B1.length+T.length+1:=by(rw[hN];simp <;> omega)
 have w0:IntKind.i64.wrap ((i:Int) - 1)=((a+B1.length:Nat):Int):=by rw[zZ (by omega) (by omega)];omega
 refine Yr (fun k st=>∃(C1 C2:List PV),k=C2.length/\B1=C1++C2/\st=⟨[(0,.sl (some 4) r N 0 N),(10,O8 i),(13,O8 ((a+C1.length:Nat):Int))],hp.set r (.arr (some 4) (P++C1++x::C2++T) false)⟩) (n:=B1.length) ⟨[],B1,rfl,rfl,?_⟩ ?_
 ·rw[hfr];simp
 ·rintro k st ⟨C1,C2,hk,hB,rfl⟩;have hBl:B1.length=C1.length+C2.length:=by rw[hB];simp
  have hlen:(P++C1++x::C2++T).length=N:=by(simp <;> omega)
  cases C2 with
  |nil=>
   have hc:¬((a+C1.length:Nat):Int)<((a+B1.length:Nat):Int):=by simp at hBl;omega
   simp -dsimp -implicitDefEqProofs only[c151b11,c151b19,c151b33,c151b41,c151b62,c151r64,c151r65,c151k67,c151r68,c151k70,c151r71,c151k73,go_sem,seval,↓reduceIte,hc,w0];rw[ZF] at hB;have e:P++C1++[x]++T=P++B1++x::T:=by rw[hB];simp
   rw[e];exact h _
  |cons y C2=>
   simp only[ZB] at hBl hk;have hc:((a+C1.length:Nat):Int)<((a+B1.length:Nat):Int):=by omega
   have w1:IntKind.i64.wrap (((a+C1.length:Nat):Int)+1)=((a+C1.length+1:Nat):Int):=by rw[zZ (by omega) (by omega)];omega
   have la:a+C1.length<N:=by omega
   have lb:a+C1.length+1<N:=by omega
   have s1:P++C1++x::y::C2++T=(P++C1)++x::(y::C2++T):=by simp
   have s2:P++C1++x::y::C2++T=(P++C1++[x])++y::(C2++T):=by simp
   have g1:(P++C1++x::y::C2++T)[a+C1.length]? =some x:=by rw[s1];exact xR (by simp;omega)
   have g2:(P++C1++x::y::C2++T)[a+C1.length+1]? =some y:=by rw[s2];exact xR (by simp;omega)
   have g3:((P++C1++x::y::C2++T).set (a+C1.length) y).set (a+C1.length+1) x=P++(C1++[y])++x::C2++T:=by
    rw[s1,xS (by simp;omega)];have s3:(P++C1)++y::(y::C2++T)=(P++C1++[y])++y::(C2++T):=by simp
    rw[s3,xS (by simp;omega)];simp
   generalize hxs:P++C1++x::y::C2++T=xs at g1 g2 g3 hlen ⊢;simp -dsimp -implicitDefEqProofs only[c151b11,c151b19,c151b33,c151b41,c151b62,c151r64,c151r65,c151k67,c151r68,c151k70,c151r71,c151k73,go_sem,seval,↓reduceIte,hc,w0,w1,Yp la,Yp lb,YX,qb,e1,g1,g2,hlen,zm,Z8,la,lb,g3];refine⟨C2.length,by omega,C1++[y],C2,rfl,by rw[hB];simp,?_⟩;rw[YW (by simp)];simp;rfl
theorem Nw(hp:Heap)(r:Nat)(hr:r<hp.length)(N i m:Nat)(P A2 T:List PV)(y:PV)(hP:P.length=i)(hi:m=i+A2.length)(hN:N=(P++A2++y::T).length)(hN':N<1000000000)(fr:Fr)(Q:AExit->St->Prop)
  (hfr:fr.keep [0,14,17]=[(0,.sl (some 4) r N 0 N),(14,O8 i),(17,O8 m)])
  (h:∀fr,Q (.exit 6) ⟨fr,hp.set r (.arr (some 4) (P++y::A2++T) false)⟩):
  W Z L hp.length (.loop [0,14,17] c151b41) ⟨fr,hp.set r (.arr (some 4) (P++A2++y::T) false)⟩ Q:=by
 have e1:∀A,(hp.set r A)[r]? =some A:=fun A=>by simp[hr]
 have hNl:N=P.length+A2.length+T.length+1:=by(rw[hN];simp <;> omega)
 refine Yr (fun k st=>∃(C1 C2:List PV),k=C1.length/\A2=C1++C2/\st=⟨[(0,.sl (some 4) r N 0 N),(14,O8 i),(17,O8 ((i+C1.length:Nat):Int))],hp.set r (.arr (some 4) (P++C1++y::C2++T) false)⟩) (n:=A2.length) ⟨A2,[],rfl,by simp,?_⟩ ?_
 ·rw[hfr,hi];simp
 ·rintro k st ⟨C1,C2,hk,hB,rfl⟩;have hBl:A2.length=C1.length+C2.length:=by rw[hB];simp
  have hlen:(P++C1++y::C2++T).length=N:=by(simp <;> omega)
  rcases Jc C1 with rfl|⟨C3,x,rfl⟩
  ·have hc:¬((i:Nat):Int)<((i+([]:List PV).length:Nat):Int):=by simp
   simp -dsimp -implicitDefEqProofs only[c151b11,c151b19,c151b33,c151b41,c151b62,c151r64,c151r65,c151k67,c151r68,c151k70,c151r71,c151k73,go_sem,seval,↓reduceIte,hc,Int.lt_irrefl];rw[ZE] at hB;have e:P++[]++y::C2++T=P++y::A2++T:=by rw[hB];simp
   rw[e];exact h _
  ·have hxl:(C3++[x]).length=C3.length+1:=by simp
   have hc:((i:Nat):Int)<((i+(C3++[x]).length:Nat):Int):=by rw[hxl];omega
   have w1:IntKind.i64.wrap (((i+(C3++[x]).length:Nat):Int) - 1)=((i+C3.length:Nat):Int):=by rw[zZ (by omega) (by omega)];omega
   have la:i+(C3++[x]).length<N:=by omega
   have lb:i+C3.length<N:=by omega
   have s1:P++(C3++[x])++y::C2++T=(P++(C3++[x]))++y::(C2++T):=by simp
   have s2:P++(C3++[x])++y::C2++T=(P++C3)++x::(y::C2++T):=by simp
   have g1:(P++(C3++[x])++y::C2++T)[i+(C3++[x]).length]? =some y:=by rw[s1];exact xR (by simp;omega)
   have g2:(P++(C3++[x])++y::C2++T)[i+C3.length]? =some x:=by rw[s2];exact xR (by simp;omega)
   have g3:((P++(C3++[x])++y::C2++T).set (i+(C3++[x]).length) x).set (i+C3.length) y=P++C3++y::(x::C2)++T:=by
    rw[s1,xS (by simp;omega)];have s3:(P++(C3++[x]))++x::(C2++T)=(P++C3)++x::(x::C2++T):=by simp
    rw[s3,xS (by simp;omega)];simp
   generalize hxs:P++(C3++[x])++y::C2++T=xs at g1 g2 g3 hlen ⊢;simp -dsimp -implicitDefEqProofs only[c151b11,c151b19,c151b33,c151b41,c151b62,c151r64,c151r65,c151k67,c151r68,c151k70,c151r71,c151k73,go_sem,seval,↓reduceIte,hc,w1,Yp la,Yp lb,YX,qb,e1,g1,g2,hlen,zm,Z8,la,lb,g3];refine⟨C3.length,by omega,C3,x::C2,rfl,by rw[hB];simp,?_⟩;rw[YW (by simp)]

set_option maxHeartbeats 4000000 in
theorem G9(c:PV->PV->Int)(hC:Cmp c)(fv:AV)(D:PV->Prop)(hp:Heap)(r:Nat)(hg:CmpF c fv D hp r)(hr:r<hp.length)(N:Nat)(hN':N<100000000):∀(d a m b:Nat) (P A B R:List PV),b - a<=d->P.length=a->m=a+A.length->b=m+B.length->N=(P++A++B++R).length->0<A.length->0<B.length->Srt c A->Srt c B->(∀x∈P++A++B++R,D x)->
  S 151 [.sl (some 4) r N 0 N,O8 a,O8 m,O8 b,fv] (hp.set r (.arr (some 4) (P++A++B++R) false))=some (.ret (.tuple []),hp.set r (.arr (some 4) (P++mrg c A B++R) false)):=by
 intro d
 induction d with
 |zero=>intro a m b P A B R hd hP hm hb hN hA hB;omega
 |succ d ih=>
  intro a m b P A B R hd hP hm hb hN hA hB sA sB hD;have hNl:N=P.length+A.length+B.length+R.length:=by(rw[hN];simp <;> omega)
  have hDat:∀h,h<N->D (at' (P++A++B++R) h):=fun h hh=>hD _ (Ma (by omega));have hsl:(hp.set r (.arr (some 4) (P++A++B++R) false)).length=hp.length:=by simp
  have w1:IntKind.i64.wrap ((m:Int) - (a:Int))=((A.length:Nat):Int):=by rw[zZ (by omega) (by omega)];omega
  have w2:IntKind.i64.wrap ((b:Int) - (m:Int))=((B.length:Nat):Int):=by rw[zZ (by omega) (by omega)];omega
  have atA:∀k,k<A.length->at' (P++A++B++R) (a+k)=at' A k:=fun k hk=>by
   have:=ut (P:=P) (A:=A) (R:=B++R) hP hk
   rwa [<-Zd] at this
  have atB:∀k,k<B.length->at' (P++A++B++R) (m+k)=at' B k:=fun k hk=>ut (P:=P++A) (A:=B) (R:=R) (by simp;omega) hk;refine YR rfl rfl rfl rfl ?_;rw[hsl];by_cases hA1:A.length=1
  ·obtain⟨x,rfl⟩:∃x,A=[x]:=List.length_eq_one_iff.1 hA1;have hc1:((1:Nat):Int)=1:=rfl;simp -dsimp -implicitDefEqProofs only[c151b33,c151b41,c151b62,c151r64,c151r65,c151k67,c151r68,c151k70,c151r71,c151k73,go_sem,seval,↓reduceIte,w1,hc1];refine Nt c fv D hp r hg hr _ N a m b hN.symm (by omega) (by omega) (by omega) (by omega) hDat (fun h h' h1 h2 h3 h4=> ?_) _ _ rfl fun k k1 k2 k3 k4 rest=> ?_
   ·have e1:=atB (h - m) (by omega);have e2:=atB (h' - m) (by omega);rw[show m+(h - m)=h by omega] at e1;rw[show m+(h' - m)=h' by omega] at e2;rw[e1] at h4;rw[e2];exact hC.lt_of_le_lt (Xo hC sB (by omega) (by omega)) h4
   ·have e0:=atA 0 (by simp);rw[Z1] at e0;have e0':at' [x] 0=x:=rfl;rw[e0'] at e0;rw[e0] at k3 k4;simp -dsimp -implicitDefEqProofs only[c151b33,c151b41,c151b62,c151r64,c151r65,c151k67,c151r68,c151k70,c151r71,c151k73,go_sem,seval,↓reduceIte];have hsplit:P++[x]++B++R=P++x::(B.take (k - m))++(B.drop (k - m)++R):=by
     rw[show P++[x]++B++R=P++[x]++(B.take (k - m)++B.drop (k - m))++R by rw[ZK]];simp only[Zd,Zw,ZE]
    have hmr:mrg c [x] B=B.take (k - m)++x::B.drop (k - m):=by
     have h1:=Ja hC (A:=[]) (U:=[x]) (V:=B.take (k - m)) (B:=B.drop (k - m)) (fun _ h=>by simp at h) (fun u hu v hv=>by
      simp at hu;subst hu;obtain⟨i,hi,rfl⟩:=XJ hv;simp at hi;rw[qe (by omega)];have:=k3 (m+i) (by omega) (by omega)
      rwa [atB i (by omega)] at this)
     have h2:mrg c [x] (B.drop (k - m))=x::B.drop (k - m):=kw hC (A:=[x]) fun u hu v hv=>by
      simp at hu;subst hu;obtain⟨i,hi,rfl⟩:=XJ hv;simp at hi;rw[qf];have:=k4 (k+i) (by omega) (by omega);have e:=atB (k - m+i) (by omega);rw[show m+(k - m+i)=k+i by omega] at e;rw[e] at this;have:=hC.neg u (at' B (k - m+i));omega
     rw[ZK,ZE,QA,h2] at h1;exact h1
    rw[hsplit];refine Nv hp r hr N k a P (B.take (k - m)) (B.drop (k - m)++R) x hP (by simp at hm ⊢;omega) (by rw[<-hsplit];exact hN) (by omega) _ _ rfl fun fr=> ?_;simp -dsimp -implicitDefEqProofs only[c151b33,c151b41,c151b62,c151r64,c151r65,c151k67,c151r68,c151k70,c151r71,c151k73,go_sem,seval,↓reduceIte];rw[Zp (by simp),hmr];simp
  ·have hA1':¬((A.length:Nat):Int)=1:=by omega
   by_cases hB1:B.length=1
   ·obtain⟨y,rfl⟩:∃y,B=[y]:=List.length_eq_one_iff.1 hB1;have hc1:((1:Nat):Int)=1:=rfl;simp -dsimp -implicitDefEqProofs only[c151b11,c151b19,c151b62,c151r64,c151r65,c151k67,c151r68,c151k70,c151r71,c151k73,go_sem,seval,↓reduceIte,w1,w2,hA1',hc1];have e0:=atB 0 (by simp);rw[Z1] at e0;have e0':at' [y] 0=y:=rfl;rw[e0'] at e0;refine Nu c fv D hp r hg hr _ N m a m hN.symm (by omega) (by simp at hNl;omega) (by omega) (by omega) hDat (fun h h' h1 h2 h3 h4=> ?_) _ _ rfl fun k k1 k2 k3 k4 rest=> ?_
    ·have e1:=atA (h - a) (by omega);have e2:=atA (h' - a) (by omega);rw[show a+(h - a)=h by omega] at e1;rw[show a+(h' - a)=h' by omega] at e2;rw[e1] at h4;rw[e2];intro h5;exact h4 (hC.lt_of_lt_le h5 (Xo hC sA (by omega) (by omega)))
    ·rw[e0] at k3 k4;simp -dsimp -implicitDefEqProofs only[c151b11,c151b19,c151b62,c151r64,c151r65,c151k67,c151r68,c151k70,c151r71,c151k73,go_sem,seval,↓reduceIte];have hsplit:P++A++[y]++R=(P++A.take (k - a))++A.drop (k - a)++y::R:=by
      rw[show P++A++[y]++R=P++(A.take (k - a)++A.drop (k - a))++[y]++R by rw[ZK]];simp only[Zd,Zw,ZE]
     have hmr:mrg c A [y]=A.take (k - a)++y::A.drop (k - a):=by
      have h1:=Ja hC (A:=A.take (k - a)) (U:=A.drop (k - a)) (V:=[y]) (B:=[]) (fun _ _ _ h=>by simp at h) (fun u hu v hv=>by
       simp at hv;subst hv;obtain⟨i,hi,rfl⟩:=XJ hu;simp at hi;rw[qf];have:=k4 (k+i) (by omega) (by omega);have e:=atA (k - a+i) (by omega);rw[show a+(k - a+i)=k+i by omega] at e
       rwa [e] at this)
      have h2:mrg c (A.take (k - a)) [y]=A.take (k - a)++[y]:=kw hC fun u hu v hv=>by
       simp at hv;subst hv;obtain⟨i,hi,rfl⟩:=XJ hu;simp at hi;rw[qe (by omega)];have:=k3 (a+i) (by omega) (by omega);rw[atA i (by omega)] at this;have:=hC.neg (at' A i) v;omega
      rw[ZK,ZF,Xe,h2] at h1;rw[h1];simp
     rw[hsplit];refine Nw hp r hr N k m (P++A.take (k - a)) (A.drop (k - a)) R y (by simp;omega) (by simp;omega) (by rw[<-hsplit];exact hN) (by omega) _ _ rfl fun fr=> ?_;simp -dsimp -implicitDefEqProofs only[c151b11,c151b19,c151b62,c151r64,c151r65,c151k67,c151r68,c151k70,c151r71,c151k73,go_sem,seval,↓reduceIte];rw[Zp (by simp),hmr];simp
   ·have hB1':¬((B.length:Nat):Int)=1:=by omega
    have w3:IntKind.i64.wrap ((a:Int)+(b:Int))=((a+b:Nat):Int):=by rw[zZ (by omega) (by omega)];omega
    have w4:IntKind.u64.wrap ((a+b:Nat):Int)=((a+b:Nat):Int):=qY (by omega) (by omega);have w5:IntKind.i64.wrap (((a+b:Nat):Int) / 2)=(((a+b) / 2:Nat):Int):=by rw[zZ (by omega) (by omega)];omega
    generalize hmid:(a+b) / 2=mid at w5;have w6:IntKind.i64.wrap ((mid:Int)+(m:Int))=((mid+m:Nat):Int):=by rw[zZ (by omega) (by omega)];omega
    have w7:IntKind.i64.wrap (((mid+m:Nat):Int) - 1)=((mid+m - 1:Nat):Int):=by rw[zZ (by omega) (by omega)];omega
    have hm1:a<=mid:=by omega
    have hm2:mid<b:=by omega
    have tail:∀(k:Nat) (rest:Fr) (Q:AExit->St->Prop),a<=k->k<=m->k<=mid->mid+m - k<=b->(∀x∈A.take (k - a),∀y∈B.drop (mid - k),c x y<=0)->(∀u∈A.drop (k - a),∀v∈B.take (mid - k),c v u<0)->
      (∀fr,Q .normal ⟨fr,hp.set r (.arr (some 4) (P++mrg c A B++R) false)⟩)->
      W Z L hp.length (.seq (.region true c151r64 [0,1,2,3,4,18,20,24]) (.seq (.seq (.region true c151r65 [0,1,2,3,4,18,20,24,185]) c151k67) (.seq (.seq (.region true c151r68 [0,1,3,4,18,20,24,199]) c151k70) (.seq (.region true c151r71 [0,3,4,18,24,213]) c151k73))))
       ⟨(0,.sl (some 4) r N 0 N)::(1,O8 a)::(2,O8 m)::(3,O8 b)::(4,fv)::(18,O8 mid)::(19,O8 ((mid+m:Nat):Int))::(20,O8 k)::rest,hp.set r (.arr (some 4) (P++A++B++R) false)⟩ Q:=by
     intro k rest Q k1 k2 k3 k4 f1 f2 hQ;have w8:IntKind.i64.wrap (((mid+m:Nat):Int) - (k:Int))=((mid+m - k:Nat):Int):=by rw[zZ (by omega) (by omega)];omega
     have lA1:(A.take (k - a)).length=k - a:=by(simp <;> omega)
     have lU:(A.drop (k - a)).length=m - k:=by(simp <;> omega)
     have lV:(B.take (mid - k)).length=mid - k:=by(simp <;> omega)
     have lB2:(B.drop (mid - k)).length=b - (mid+m - k):=by(simp <;> omega)
     have hmr:=Ja hC f1 f2;rw[ZK,ZK] at hmr;have hdat:P++A++B++R=(P++A.take (k - a))++A.drop (k - a)++B.take (mid - k)++(B.drop (mid - k)++R):=by
      rw[show P++A++B++R=P++(A.take (k - a)++A.drop (k - a))++(B.take (mid - k)++B.drop (mid - k))++R by rw[ZK,ZK]];simp only[Zd]
     have sA1:Srt c (A.take (k - a)):=sA.sublist (List.take_sublist _ _);have sU:Srt c (A.drop (k - a)):=sA.sublist (List.drop_sublist _ _);have sV:Srt c (B.take (mid - k)):=sB.sublist (List.take_sublist _ _);have sB2:Srt c (B.drop (mid - k)):=sB.sublist (List.drop_sublist _ _);rw[hdat] at hN hD ⊢;rw[hmr] at hQ;generalize A.take (k - a)=A1 at*;generalize A.drop (k - a)=U at*;generalize B.take (mid - k)=V at*;generalize B.drop (mid - k)=B2 at*;have hrot:=Nr (fv) hp r hr k m (mid+m - k) N (P++A1) U V (B2++R) (by simp;omega) (by omega) (by omega) hN (by omega);refine kn (fun st=>st=⟨[(0,.sl (some 4) r N 0 N),(1,O8 a),(2,O8 m),(3,O8 b),(4,fv),(18,O8 mid),(20,O8 k),(24,O8 ((mid+m - k:Nat):Int))],hp.set r (.arr (some 4) (P++A1++U++V++(B2++R)) false)⟩) ?_ ?_
     ·simp -dsimp -implicitDefEqProofs only[c151b11,c151b19,c151b33,c151b41,c151b62,c151r64,c151r65,c151k67,c151r68,c151k70,c151r71,c151k73,go_sem,seval,↓reduceIte,w8]
     rintro _ rfl;refine kn (fun st=>st.hp=hp.set r (.arr (some 4) (P++A1++V++U++(B2++R)) false)/\st.fr.look 0=some (.sl (some 4) r N 0 N)/\st.fr.look 1=some (O8 a)/\st.fr.look 3=some (O8 b)/\st.fr.look 4=some (fv)/\st.fr.look 18=some (O8 mid)/\st.fr.look 20=some (O8 k)/\st.fr.look 24=some (O8 ((mid+m - k:Nat):Int))) ?_ ?_
     ·by_cases hU:k<m
      ·have hc1:(k:Int)<(m:Int):=by omega
       by_cases hV:m<mid+m - k
       ·have hc2:(m:Int)<((mid+m - k:Nat):Int):=by omega
        have hrot':=hrot (by omega) (by omega);simp -dsimp -implicitDefEqProofs only[c151b11,c151b19,c151b33,c151b41,c151b62,c151r64,c151r65,c151k67,c151r68,c151k70,c151r71,c151k73,go_sem,seval,↓reduceIte,hc1,hc2,hrot']
       ·have hc2:¬(m:Int)<((mid+m - k:Nat):Int):=by omega
        have hV0:V=[]:=ZQ.1 (by omega);subst hV0;simp -dsimp -implicitDefEqProofs only[c151b11,c151b19,c151b33,c151b41,c151b62,c151r64,c151r65,c151k67,c151r68,c151k70,c151r71,c151k73,go_sem,seval,↓reduceIte,hc1,hc2,ZF]
      ·have hc1:¬(k:Int)<(m:Int):=by omega
       have hU0:U=[]:=ZQ.1 (by omega);subst hU0;simp -dsimp -implicitDefEqProofs only[c151b11,c151b19,c151b33,c151b41,c151b62,c151r64,c151r65,c151k67,c151r68,c151k70,c151r71,c151k73,go_sem,seval,↓reduceIte,hc1,ZF]
     rintro⟨fr1,hp1⟩ ⟨x1,x2,x3,x4,x5,x6,x7,x8⟩;simp only at x1 x2 x3 x4 x5 x6 x7 x8;subst x1;refine kn (fun st=>st.hp=hp.set r (.arr (some 4) (P++mrg c A1 V++U++(B2++R)) false)/\st.fr.look 0=some (.sl (some 4) r N 0 N)/\st.fr.look 3=some (O8 b)/\st.fr.look 4=some (fv)/\st.fr.look 18=some (O8 mid)/\st.fr.look 24=some (O8 ((mid+m - k:Nat):Int))) ?_ ?_
     ·by_cases hA1:a<k
      ·have hc1:(a:Int)<(k:Int):=by omega
       by_cases hV:k<mid
       ·have hc2:(k:Int)<(mid:Int):=by omega
        have hih:=ih a k mid P A1 V (U++(B2++R)) (by omega) hP (by omega) (by omega) (by rw[hN];simp;omega) (by omega) (by omega) sA1 sV (fun x hx=>hD x (by simp at hx ⊢;rcases hx with h|h|h|h|h|h <;> simp[h]));have e0:P++A1++V++(U++(B2++R))=P++A1++V++U++(B2++R):=by simp
        have e1:P++mrg c A1 V++(U++(B2++R))=P++mrg c A1 V++U++(B2++R):=by simp
        rw[e0,e1] at hih;simp -dsimp -implicitDefEqProofs only[c151b11,c151b19,c151b33,c151b41,c151b62,c151r64,c151r65,c151k67,c151r68,c151k70,c151r71,c151k73,go_sem,seval,↓reduceIte,hc1,hc2,x2,x3,x4,x5,x6,x7,x8,hih]
       ·have hc2:¬(k:Int)<(mid:Int):=by omega
        have hV0:V=[]:=ZQ.1 (by omega);subst hV0;simp -dsimp -implicitDefEqProofs only[c151b11,c151b19,c151b33,c151b41,c151b62,c151r64,c151r65,c151k67,c151r68,c151k70,c151r71,c151k73,go_sem,seval,↓reduceIte,hc1,hc2,x2,x3,x4,x5,x6,x7,x8,ZF,Xe]
      ·have hc1:¬(a:Int)<(k:Int):=by omega
       have hA0:A1=[]:=ZQ.1 (by omega);subst hA0;simp -dsimp -implicitDefEqProofs only[c151b11,c151b19,c151b33,c151b41,c151b62,c151r64,c151r65,c151k67,c151r68,c151k70,c151r71,c151k73,go_sem,seval,↓reduceIte,hc1,x2,x3,x4,x5,x6,x7,x8,ZF,QA]
     rintro⟨fr2,hp2⟩ ⟨y1,y2,y4,y5,y6,y8⟩;simp only at y1 y2 y4 y5 y6 y8;subst y1;have hml:(mrg c A1 V).length=A1.length+V.length:=ul A1 V;by_cases hU:mid<mid+m - k
     ·have hc1:(mid:Int)<((mid+m - k:Nat):Int):=by omega
      by_cases hB2:mid+m - k<b
      ·have hc2:((mid+m - k:Nat):Int)<(b:Int):=by omega
       have hih:=ih mid (mid+m - k) b (P++mrg c A1 V) U B2 R (by omega) (by simp[hml];omega) (by omega) (by omega) (by rw[hN];simp[hml];omega) (by omega) (by omega) sU sB2 (fun x hx=>hD x (by
        simp only[Zr,mem_mrg] at hx ⊢;rcases hx with(((h|h|h)|h)|h)|h <;> simp[h]))
       have e0:P++mrg c A1 V++U++(B2++R)=P++mrg c A1 V++U++B2++R:=by simp
       have e1:P++mrg c A1 V++mrg c U B2++R=P++(mrg c A1 V++mrg c U B2)++R:=by simp
       rw[e1] at hih;rw[e0];simp -dsimp -implicitDefEqProofs only[c151b11,c151b19,c151b33,c151b41,c151b62,c151r64,c151r65,c151k67,c151r68,c151k70,c151r71,c151k73,go_sem,seval,↓reduceIte,hc1,hc2,y2,y4,y5,y6,y8,hih];exact hQ _
      ·have hc2:¬((mid+m - k:Nat):Int)<(b:Int):=by omega
       have hB0:B2=[]:=ZQ.1 (by omega);subst hB0;simp -dsimp -implicitDefEqProofs only[c151b11,c151b19,c151b33,c151b41,c151b62,c151r64,c151r65,c151k67,c151r68,c151k70,c151r71,c151k73,go_sem,seval,↓reduceIte,hc1,hc2,y2,y4,y5,y6,y8];have hQ:=hQ;rw[Xe] at hQ;have e0:P++mrg c A1 V++U++R=P++(mrg c A1 V++U)++R:=by simp
       rw[e0];exact hQ _
     ·have hc1:¬(mid:Int)<((mid+m - k:Nat):Int):=by omega
      have hU0:U=[]:=ZQ.1 (by omega);subst hU0;simp -dsimp -implicitDefEqProofs only[c151b11,c151b19,c151b33,c151b41,c151b62,c151r64,c151r65,c151k67,c151r68,c151k70,c151r71,c151k73,go_sem,seval,↓reduceIte,hc1,y2,y4,y5,y6,y8];have hQ:=hQ;rw[QA] at hQ;have e0:P++mrg c A1 V++[]++(B2++R)=P++(mrg c A1 V++B2)++R:=by simp
      rw[e0];exact hQ _
    by_cases hmm:mid<m
    ·skip
     have hc:(mid:Int)<(m:Int):=by omega
     have w9:IntKind.i64.wrap (((mid+m:Nat):Int) - (b:Int))=((mid+m - b:Nat):Int):=by rw[zZ (by omega) (by omega)];omega
     simp -dsimp -implicitDefEqProofs only[c151b11,c151b19,c151b33,c151b41,go_sem,seval,↓reduceIte,w1,w2,hA1',hB1',w3,w4,X7 (show 0<IntKind.bits .u64 by decide),hmid,w5,w6,w7,hc,w9];refine G8 c fv D hp r hg hr _ N a m b mid (mid+m) (mid+m - 1) (mid+m - b) mid hN.symm (by omega) (by omega) (by omega) (by omega) (by omega) hDat (fun h h' h1 h2 h3 h4=> ?_) (by omega) _ _ rfl fun k k1 k2 k3 k4 rest=> ?_
     ·have e1:=atA (h - a) (by omega);have e2:=atA (h' - a) (by omega);have e3:=atB (mid+m - 1 - h - m) (by omega);have e4:=atB (mid+m - 1 - h' - m) (by omega);rw[show a+(h - a)=h by omega] at e1;rw[show a+(h' - a)=h' by omega] at e2;rw[show m+(mid+m - 1 - h - m)=mid+m - 1 - h by omega] at e3;rw[show m+(mid+m - 1 - h' - m)=mid+m - 1 - h' by omega] at e4;rw[e1,e3] at h4;rw[e2,e4];have s1:c (at' A (h' - a)) (at' A (h - a))<=0:=Xo hC sA (by omega) (by omega);have s2:c (at' B (mid+m - 1 - h - m)) (at' B (mid+m - 1 - h' - m))<=0:=Xo hC sB (by omega) (by omega);intro h5;exact h4 (hC.lt_of_le_lt s2 (hC.lt_of_lt_le h5 s1))
     ·simp -dsimp -implicitDefEqProofs only[go_sem,seval,↓reduceIte];refine tail k rest _ (by omega) (by omega) (by omega) (by omega) ?_ ?_ fun fr=> ?_
      ·intro x hx y hy;obtain⟨i,hi,rfl⟩:=XJ hx;obtain⟨j,hj,rfl⟩:=XJ hy;simp at hi hj;rw[qe (by omega),qf];have h1:=k3 (k - 1) (by omega) (by omega);have e1:=atA (k - 1 - a) (by omega);have e3:=atB (mid - k) (by omega);rw[show a+(k - 1 - a)=k - 1 by omega] at e1;rw[show m+(mid - k)=mid+m - 1 - (k - 1) by omega] at e3;rw[e1,e3] at h1;have s1:c (at' A i) (at' A (k - 1 - a))<=0:=Xo hC sA (by omega) (by omega);have s2:c (at' B (mid - k)) (at' B (mid - k+j))<=0:=Xo hC sB (by omega) (by omega);have s3:c (at' A (k - 1 - a)) (at' B (mid - k))<=0:=by have:=hC.neg (at' A (k - 1 - a)) (at' B (mid - k));omega
       exact hC.trans (hC.trans s1 s3) s2
      ·intro u hu v hv;obtain⟨i,hi,rfl⟩:=XJ hu;obtain⟨j,hj,rfl⟩:=XJ hv;simp at hi hj;rw[qe (by omega),qf];have h1:=k4 k (by omega) (by omega);have e1:=atA (k - a) (by omega);have e3:=atB (mid - 1 - k) (by omega);rw[show a+(k - a)=k by omega] at e1;rw[show m+(mid - 1 - k)=mid+m - 1 - k by omega] at e3;rw[e1,e3] at h1;have s1:c (at' A (k - a)) (at' A (k - a+i))<=0:=Xo hC sA (by omega) (by omega);have s2:c (at' B j) (at' B (mid - 1 - k))<=0:=Xo hC sB (by omega) (by omega);exact hC.lt_of_le_lt s2 (hC.lt_of_lt_le h1 s1)
      ·simp -dsimp -implicitDefEqProofs only[g151,go_sem,seval,↓reduceIte];rw[Zp (by simp)]
    ·skip
     have hc:¬(mid:Int)<(m:Int):=by omega
     simp -dsimp -implicitDefEqProofs only[c151b11,c151b19,c151b33,c151b41,go_sem,seval,↓reduceIte,w1,w2,hA1',hB1',w3,w4,X7 (show 0<IntKind.bits .u64 by decide),hmid,w5,w6,w7,hc];refine G8 c fv D hp r hg hr _ N a m b mid (mid+m) (mid+m - 1) a m hN.symm (by omega) (by omega) (by omega) (by omega) (by omega) hDat (fun h h' h1 h2 h3 h4=> ?_) (by omega) _ _ rfl fun k k1 k2 k3 k4 rest=> ?_
     ·have e1:=atA (h - a) (by omega);have e2:=atA (h' - a) (by omega);have e3:=atB (mid+m - 1 - h - m) (by omega);have e4:=atB (mid+m - 1 - h' - m) (by omega);rw[show a+(h - a)=h by omega] at e1;rw[show a+(h' - a)=h' by omega] at e2;rw[show m+(mid+m - 1 - h - m)=mid+m - 1 - h by omega] at e3;rw[show m+(mid+m - 1 - h' - m)=mid+m - 1 - h' by omega] at e4;rw[e1,e3] at h4;rw[e2,e4];have s1:c (at' A (h' - a)) (at' A (h - a))<=0:=Xo hC sA (by omega) (by omega);have s2:c (at' B (mid+m - 1 - h - m)) (at' B (mid+m - 1 - h' - m))<=0:=Xo hC sB (by omega) (by omega);intro h5;exact h4 (hC.lt_of_le_lt s2 (hC.lt_of_lt_le h5 s1))
     ·simp -dsimp -implicitDefEqProofs only[go_sem,seval,↓reduceIte];refine tail k rest _ (by omega) (by omega) (by omega) (by omega) ?_ ?_ fun fr=> ?_
      ·intro x hx y hy;obtain⟨i,hi,rfl⟩:=XJ hx;obtain⟨j,hj,rfl⟩:=XJ hy;simp at hi hj;rw[qe (by omega),qf];have h1:=k3 (k - 1) (by omega) (by omega);have e1:=atA (k - 1 - a) (by omega);have e3:=atB (mid - k) (by omega);rw[show a+(k - 1 - a)=k - 1 by omega] at e1;rw[show m+(mid - k)=mid+m - 1 - (k - 1) by omega] at e3;rw[e1,e3] at h1;have s1:c (at' A i) (at' A (k - 1 - a))<=0:=Xo hC sA (by omega) (by omega);have s2:c (at' B (mid - k)) (at' B (mid - k+j))<=0:=Xo hC sB (by omega) (by omega);have s3:c (at' A (k - 1 - a)) (at' B (mid - k))<=0:=by have:=hC.neg (at' A (k - 1 - a)) (at' B (mid - k));omega
       exact hC.trans (hC.trans s1 s3) s2
      ·intro u hu v hv;obtain⟨i,hi,rfl⟩:=XJ hu;obtain⟨j,hj,rfl⟩:=XJ hv;simp at hi hj;rw[qe (by omega),qf];have h1:=k4 k (by omega) (by omega);have e1:=atA (k - a) (by omega);have e3:=atB (mid - 1 - k) (by omega);rw[show a+(k - a)=k by omega] at e1;rw[show m+(mid - 1 - k)=mid+m - 1 - k by omega] at e3;rw[e1,e3] at h1;have s1:c (at' A (k - a)) (at' A (k - a+i))<=0:=Xo hC sA (by omega) (by omega);have s2:c (at' B j) (at' B (mid - 1 - k))<=0:=Xo hC sB (by omega) (by omega);exact hC.lt_of_le_lt s2 (hC.lt_of_lt_le h1 s1)
      ·simp -dsimp -implicitDefEqProofs only[g151,go_sem,seval,↓reduceIte];rw[Zp (by simp)]
section
variable(c:PV->PV->Int) (hC:Cmp c) (fv:AV) (D:PV->Prop) (hp:Heap) (r:Nat) (hg:CmpF c fv D hp r) (hr:r<hp.length) (N:Nat) (hN':N<100000000)
include hC hg hr hN'
theorem Nx(xs:List PV)(hN:N=xs.length)(hD:∀x∈xs,D x):
  S 138 [.sl (some 4) r N 0 N,O8 N,fv] (hp.set r (.arr (some 4) xs false))=some (.ret (.tuple []),hp.set r (.arr (some 4) (isort c xs) false)):=by
 have hsl:(hp.set r (.arr (some 4) xs false)).length=hp.length:=by simp
 refine YR rfl rfl rfl rfl ?_;rw[hsl];simp -dsimp -implicitDefEqProofs only[go_sem,seval,↓reduceIte]
 /- the blocks -/
 refine Yr (fun n st=>∃(a:Nat) (Z:List PV),n=N - a/\a<=N/\Full c 20 (xs.take a) Z/\st=⟨[(0,.sl (some 4) r N 0 N),(1,O8 N),(2,fv),(6,O8 20),(7,O8 a),(8,O8 ((a+20:Nat):Int))],hp.set r (.arr (some 4) (Z++xs.drop a) false)⟩) (n:=N) ⟨0,[],rfl,Zg _,.nil,?_⟩ ?_
 ·simp -dsimp -implicitDefEqProofs only[go_sem,seval,↓reduceIte]
  try simp
 ·rintro n st ⟨a,Z,hn,ha,hF,rfl⟩;have hZ:Z.length=a:=by rw[hF.length];simp;omega
  have hD':∀x∈xs.drop a,D x:=fun x hx=>hD x (zG hx);by_cases hb:a+20<=N
  ·have hc:((a+20:Nat):Int)<=(N:Int):=by omega
   have w1:IntKind.i64.wrap (((a+20:Nat):Int)+20)=((a+20+20:Nat):Int):=by rw[zZ (by omega) (by omega)];omega
   have hx:(xs.drop a).take 20++(xs.drop a).drop 20=xs.drop a:=ZK _ _;have hl:((xs.drop a).take 20).length=20:=by simp;omega
   have hcall:=G7 c hC fv D hp r hg hr a (a+20) N Z ((xs.drop a).take 20) ((xs.drop a).drop 20) hZ (by omega) (by simp[hZ];omega) (by omega) (fun x h=>hD' x (zO h));rw[show Z++(xs.drop a).take 20++(xs.drop a).drop 20=Z++xs.drop a by rw[Zd,hx]] at hcall;simp -dsimp -implicitDefEqProofs only[go_sem,seval,↓reduceIte,hc,w1,hcall];refine⟨N - (a+20),by omega,a+20,Z++isort c ((xs.drop a).take 20),rfl,by omega,?_,?_⟩
   ·have:=Full.snoc (c:=c) (n:=20) _ _ _ hl hF
    rwa [<-List.take_add] at this
   ·rw[YW (by simp),ZN]
  ·have hc:¬((a+20:Nat):Int)<=(N:Int):=by omega
   have hcall:=G7 c hC fv D hp r hg hr a N N Z (xs.drop a) [] hZ (by simp;omega) (by simp[hZ];omega) (by omega) hD';simp only[ZF] at hcall;have hB:Blk c 20 xs (Z++isort c (xs.drop a)):=by
    have:=hF.blk (.last (xs.drop a) (by simp;omega))
    rwa [ZK] at this
   simp -dsimp -implicitDefEqProofs only[go_sem,seval,↓reduceIte,hc,hcall];generalize Z++isort c (xs.drop a)=d0 at hB;clear hcall hF hZ hD' ha hn hc hb Z a
   /- the merging -/
   refine Yr (fun n st=>∃(bs:Nat) (d:List PV),n=N - bs/\20<=bs/\Blk c bs xs d/\st=⟨[(0,.sl (some 4) r N 0 N),(1,O8 N),(2,fv),(6,O8 bs)],hp.set r (.arr (some 4) d false)⟩) (n:=N - 20) ⟨20,d0,rfl,Zi _,hB,?_⟩ ?_
   ·simp -dsimp -implicitDefEqProofs only[go_sem,seval,↓reduceIte]
    try rfl
   ·rintro n1 st ⟨bs,d,hn1,hbs,hB,rfl⟩;by_cases hlt:bs<N
    ·have hc:(bs:Int)<(N:Int):=by omega
     have w1:IntKind.i64.wrap (2*(bs:Int))=((0+2*bs:Nat):Int):=by rw[zZ (by omega) (by omega)];omega
     have w2:IntKind.i64.wrap ((bs:Int)*2)=((2*bs:Nat):Int):=by rw[zZ (by omega) (by omega)];omega
     simp -dsimp -implicitDefEqProofs only[go_sem,seval,↓reduceIte,hc,w1];refine Yr (fun n st=>∃(a:Nat) (Z d r0 r1:List PV),n=N - a/\a<=N/\xs=r0++r1/\r0.length=a/\Full c (2*bs) r0 Z/\Blk c bs r1 d/\st=⟨[(0,.sl (some 4) r N 0 N),(1,O8 N),(2,fv),(6,O8 bs),(7,O8 a),(8,O8 ((a+2*bs:Nat):Int))],hp.set r (.arr (some 4) (Z++d) false)⟩) (n:=N) ⟨0,[],d,[],xs,rfl,Zg _,rfl,rfl,.nil,hB,?_⟩ ?_
     ·simp -dsimp -implicitDefEqProofs only[go_sem,seval,↓reduceIte]
      try rfl
     ·rintro n2 st ⟨a,Z,d,r0,r1,hn2,ha,hxs,hr0,hF,hB1,rfl⟩;have hZ:Z.length=a:=by rw[hF.length,hr0]
      have hl1:a+r1.length=N:=by rw[hN,hxs];simp[hr0]
      have hDZ:∀x∈Z++d,D x:=fun x hx=>hD x (by
       rw[hxs];rcases Zr.1 hx with h|h
       ·exact Zr.2 (.inl (hF.mem.1 h))
       ·exact Zr.2 (.inr (hB1.mem.1 h)))
      have w3:IntKind.i64.wrap ((a:Int)+(bs:Int))=((a+bs:Nat):Int):=by rw[zZ (by omega) (by omega)];omega
      by_cases hb:a+2*bs<=N
      ·have hc2:((a+2*bs:Nat):Int)<=(N:Int):=by omega
       obtain⟨x,y,r2,d2,e1,e2,lx,ly,ly0,hB2,hy⟩:=hB1.two (by omega) (by omega);have ly':y.length=bs:=by
        rcases Zq y.length bs with h|h
        ·have:=hy h;rw[e1,this] at hl1;simp at hl1;omega
        ·omega
       have w4:IntKind.i64.wrap (2*(bs:Int))=((2*bs:Nat):Int):=by rw[zZ (by omega) (by omega)];omega
       have w5:IntKind.i64.wrap (((a+2*bs:Nat):Int)+((2*bs:Nat):Int))=((a+2*bs+2*bs:Nat):Int):=by rw[zZ (by omega) (by omega)];omega
       have hld:=hB1.length;have hcall:=G9 c hC fv D hp r hg hr N hN' (2*bs) a (a+bs) (a+2*bs) Z (isort c x) (isort c y) d2 (by omega) hZ (by rw[ym,lx]) (by rw[ym,ly'];omega) (by rw[e2] at hld;simp[ym] at hld ⊢;omega) (by rw[ym];omega) (by rw[ym];omega) (qc hC x) (qc hC y) (fun z hz=>hDZ z (by rw[e2];simpa using hz));rw[show Z++isort c x++isort c y++d2=Z++d by rw[e2];simp,<-ur hC] at hcall;simp -dsimp -implicitDefEqProofs only[go_sem,seval,↓reduceIte,hc2,w3,w4,w5,hcall];refine⟨N - (a+2*bs),by omega,a+2*bs,Z++isort c (x++y),d2,r0++(x++y),r2,rfl,hb,by rw[hxs,e1];simp,by simp[hr0,lx,ly'];omega,.snoc _ _ _ (by simp[lx,ly'];omega) hF,hB2,?_⟩;rw[YW (by simp)]
      ·have hc2:¬((a+2*bs:Nat):Int)<=(N:Int):=by omega
       by_cases hm:a+bs<N
       ·have hc3:((a+bs:Nat):Int)<(N:Int):=by omega
        obtain⟨x,y,r2,d2,e1,e2,lx,ly,ly0,hB2,hy⟩:=hB1.two (by omega) (by omega);have ly':y.length<bs:=by rw[e1] at hl1;simp at hl1;omega
        have hr2:=hy ly';subst hr2;have hd2:d2=[]:=ZQ.1 hB2.length;subst hd2;have hld:=hB1.length;have hcall:=G9 c hC fv D hp r hg hr N hN' (2*bs) a (a+bs) N Z (isort c x) (isort c y) [] (by omega) hZ (by rw[ym,lx]) (by rw[ym];rw[e1] at hl1;simp at hl1;omega) (by rw[e2] at hld;simp[ym] at hld ⊢;omega) (by rw[ym];omega) (by rw[ym];omega) (qc hC x) (qc hC y) (fun z hz=>hDZ z (by rw[e2];simpa using hz));rw[show Z++isort c x++isort c y++[]=Z++d by rw[e2];simp,<-ur hC] at hcall;simp -dsimp -implicitDefEqProofs only[go_sem,seval,↓reduceIte,hc2,hc3,w2,w3,hcall];have hres:=hF.blk (.last r1 (by omega:r1.length<=2*bs));rw[<-hxs] at hres;refine⟨N - 2*bs,by omega,2*bs,Z++isort c r1,rfl,by omega,hres,?_⟩;rw[YW (by simp),e1];simp
       ·have hc3:¬((a+bs:Nat):Int)<(N:Int):=by omega
        have hd:=hB1.whole (by omega);simp -dsimp -implicitDefEqProofs only[go_sem,seval,↓reduceIte,hc2,hc3,w2,w3];have hres:=hF.blk (.last r1 (by omega:r1.length<=2*bs));rw[<-hxs] at hres;refine⟨N - 2*bs,by omega,2*bs,Z++isort c r1,rfl,by omega,hres,?_⟩;rw[YW (by simp),hd]
    ·have hc:¬(bs:Int)<(N:Int):=by omega
     have hd:=hB.whole (by omega);simp -dsimp -implicitDefEqProofs only[go_sem,seval,↓reduceIte,hc];rw[Zp (by simp),hd]
end
def Yt(l:List Tm):Bool:=l.all Tm.valid
theorem gb{l:List Tm}{i:Nat}{t:Tm}(h:l[i]? =some t):Yt (l.take (i+1))=(Yt (l.take i) && t.valid):=by
 unfold Yt;rw[ZL,h,List.all_append];simp
theorem gc{l:List Tm}{t:Tm}(h:t∈l)(hv:t.valid=false):Yt l=false:=by
 unfold Yt;rw[List.all_eq_false];exact⟨t,h,by simp[hv]⟩

theorem Ny(l:List Tm)(hl:Tm.sizes l<1000000000):S 59 [.pv none (.sl (some 4) (Tm.pvs l))] []=some (.ret (O9 (Yt l)),[]):=by
 refine Yb rfl rfl rfl (Yd [(none,.sl (some 4) (Tm.pvs l))]) rfl ?_;have hlen:=Tm.zyN l;simp -dsimp -implicitDefEqProofs only[go_sem,seval,↓reduceIte];refine Yr (fun n st=>∃i:Nat,n=l.length - i/\i<=l.length/\Yt (l.take i)=true/\st=⟨[(0,.pv none (.sl (some 4) (Tm.pvs l))),(3,O8 i)],[]⟩) (n:=l.length) ⟨0,rfl,Zg _,rfl,?_⟩ ?_
 ·simp -dsimp -implicitDefEqProofs only[go_sem,seval,↓reduceIte]
  try rfl
 ·rintro n st ⟨i,hn,hi,he,rfl⟩;by_cases h:i<l.length
  ·have hc:(i:Int)<(l.length:Int):=by omega
   obtain⟨u,hu⟩:∃u,l[i]? =some u:=⟨_,Zf h⟩;have hum:=Zk hu;have husz:=Tm.zyU hum;have hcall:=fun hp=>yS u hp (by omega);simp only[Tm.av] at hcall;have w2:=O0 i (by omega)
   by_cases h0:u.valid=true
   ·simp -dsimp -implicitDefEqProofs only[go_sem,seval,↓reduceIte,Tm.pvs_len,hc,zY (Tm.pvs_get hu),hcall,w2,h0];exact⟨l.length - (i+1),by omega,i+1,rfl,by omega,by rw[gb hu,he,h0];rfl,rfl⟩
   ·rw[Bool.not_eq_true] at h0;simp -dsimp -implicitDefEqProofs only[go_sem,seval,↓reduceIte,Tm.pvs_len,hc,zY (Tm.pvs_get hu),hcall,w2,h0,gc hum h0]
  ·have hc:¬(i:Int)<(l.length:Int):=by omega
   obtain rfl:i=l.length:=by omega
   rw[ZC] at he;simp -dsimp -implicitDefEqProofs only[go_sem,seval,↓reduceIte,Tm.pvs_len,hc,he]

theorem gd(l:List Tm)(hl:Tm.sizes l<1000000000)(hp:Heap):S 59 [.pv none (.sl (some 4) (Tm.pvs l))] hp=some (.ret (O9 (Yt l)),hp):=
 yG (ps:=[(none,.sl (some 4) (Tm.pvs l))]) rfl rfl rfl rfl (Ny l hl)
theorem ge(l:List Tm)(hl:Tm.sizes l<1000000000):S 80 [.pv none (.sl (some 4) (Tm.pvs l))] []=some (.ret (O9 (Yt l)),[]):=by
 refine Yb rfl rfl rfl (Yd [(none,.sl (some 4) (Tm.pvs l))]) rfl ?_;have hlen:=Tm.zyN l;simp -dsimp -implicitDefEqProofs only[go_sem,seval,↓reduceIte,Tm.pvs_len];refine Yr (fun n st=>∃i:Nat,n=l.length - i/\i<=l.length/\Yt (l.take i)=true/\st=⟨[(5,.pv none (.sl (some 4) (Tm.pvs l))),(6,O8 (l.length:Int)),(7,O8 i)],[]⟩) (n:=l.length) ⟨0,rfl,Zg _,rfl,?_⟩ ?_
 ·simp -dsimp -implicitDefEqProofs only[go_sem,seval,↓reduceIte]
  try rfl
 ·rintro n st ⟨i,hn,hi,he,rfl⟩;by_cases h:i<l.length
  ·have hc:(i:Int)<(l.length:Int):=by omega
   obtain⟨u,hu⟩:∃u,l[i]? =some u:=⟨_,Zf h⟩;have hum:=Zk hu;have husz:=Tm.zyU hum;have hcall:=fun hp=>yR u hp (by omega);simp only[Tm.av] at hcall;have w2:=O0 i (by omega)
   by_cases h0:u.valid=true
   ·simp -dsimp -implicitDefEqProofs only[go_sem,seval,↓reduceIte,Tm.pvs_len,hc,zY (Tm.pvs_get hu),hcall,w2,h0];exact⟨l.length - (i+1),by omega,i+1,rfl,by omega,by rw[gb hu,he,h0];rfl,rfl⟩
   ·rw[Bool.not_eq_true] at h0;simp -dsimp -implicitDefEqProofs only[go_sem,seval,↓reduceIte,Tm.pvs_len,hc,zY (Tm.pvs_get hu),hcall,w2,h0,gc hum h0]
  ·have hc:¬(i:Int)<(l.length:Int):=by omega
   obtain rfl:i=l.length:=by omega
   rw[ZC] at he;simp -dsimp -implicitDefEqProofs only[go_sem,seval,↓reduceIte,Tm.pvs_len,hc,he]
theorem Nz(l:List Tm)(hl:Tm.sizes l<1000000000)(hp:Heap):S 80 [.pv none (.sl (some 4) (Tm.pvs l))] hp=some (.ret (O9 (Yt l)),hp):=
 yG (ps:=[(none,.sl (some 4) (Tm.pvs l))]) rfl rfl rfl rfl (ge l hl)
theorem yU{l:List Tm}(h:Yt l=true){t:Tm}(ht:t∈l):t.valid=true:=Zo.1 h t ht
theorem NA{hp ext junk:Heap}{n:Nat}{fr:Fr}(hn:n=hp.length+ext.length)(hf:fr.all (fun x=>x.2.refsIn.all (·<n))=true)(he:ext.all (fun o=>o.refs.all (·<n))=true):collect n hp.length fr (hp++ext++junk)=hp++ext:=by
 have ht:(hp++ext++junk).take n=hp++ext:=by
  rw[zk (by simp;omega),Zp (by simp;omega)]
 unfold collect;rw[ht,hf,zb,Bool.true_and];exact Zb he
theorem NB{sh s s':Sh}{k k':IntKind}{z:PV}{hp:Heap}{n:Nat}(hs:0<sh.size)(h:n<=lim):XA sh z hp [.pv s (.int k 0),.pv s' (.int k' n)]=some (.sl sh hp.length 0 0 0,hp++[.arr sh [] false]):=by
 have h1:((n:Nat):Int)<=((lim:Nat):Int):=by omega
 simp[XA,hs,h1]
structure IsL(v:AV)(hp:Heap)(l:List Tm):Prop where
 len:sLen [v]=some (O8 l.length)
 idx:∀(i:Nat) (u:Tm),l[i]? =some u->∃p,(∀(s:Sh) (k:IntKind),yg (some 4) [v,.pv s (.int k i)]=some p)/\∀ext,aload (some 4) (hp++ext) p=some (.pv (some 4) u.pv)
 refs:∀q,q∈v.refsIn->q<hp.length
 frz:∃hp1:Heap,hp1.length=hp.length/\∀ext,Yi [v] (hp++ext)=some ([(none,.sl (some 4) (Tm.pvs l))],hp1++ext)
theorem IsL.more{v:AV}{hp:Heap}{l:List Tm}(h:IsL v hp l)(e:Heap):IsL v (hp++e) l where
 len:=h.len
 idx:=fun i u hu=>by
  obtain⟨p,h1,h2⟩:=h.idx i u hu;exact⟨p,h1,fun ext=>by rw[Zd];exact h2 _⟩
 refs:=fun q hq=>by have:=h.refs q hq;simp;omega
 frz:=by
  obtain⟨hp1,h1,h2⟩:=h.frz;exact⟨hp1++e,by simp[h1],fun ext=>by rw[Zd,h2,Zd]⟩
theorem gf(hp:Heap)(l:List Tm):IsL (.pv none (.sl (some 4) (Tm.pvs l))) hp l where
 len:=by rw[U5,Tm.pvs_len]
 idx:=fun i u hu=>⟨.iptr (some 4) u.pv 0,fun s k=>zY (Tm.pvs_get hu),fun ext=>by rw[U6];simp⟩
 refs:=fun q hq=>by simp[AV.refsIn] at hq
 frz:=⟨hp,rfl,fun ext=>Yd [(none,.sl (some 4) (Tm.pvs l))]⟩
def CmpG(c:PV->PV->Int)(g:FuncId)(D:PV->Prop):Prop:=∀x y,D x->D y->∀hp,S g [.pv (some 4) x,.pv (some 4) y] hp=some (.ret (O8 (c x y)),hp)
theorem CmpG.toF{c:PV->PV->Int}{g:FuncId}{D:PV->Prop}(h:CmpG c g D)(hp:Heap)(r:Nat):CmpF c (.pv none (.func (.func g))) D hp r:=⟨g,[],[],rfl,fun x y hx hy A=>h x y hx hy _⟩
section
variable(c:PV->PV->Int) (hC:Cmp c) (g:FuncId) (D:PV->Prop) (hg:CmpG c g D)
include hC hg
theorem NC(hp:Heap)(r:Nat)(hr:r<hp.length)(N:Nat)(hN':N<100000000)(xs:List PV)(hN:N=xs.length)(hD:∀x∈xs,D x):
  S 115 [.sl (some 4) r N 0 N,.pv none (.func (.func g))] (hp.set r (.arr (some 4) xs false))=some (.ret (.tuple []),hp.set r (.arr (some 4) (isort c xs) false)):=by
 have hcall:=Nx c hC (.pv none (.func (.func g))) D hp r (hg.toF hp r) hr N hN' xs hN hD;have hsl:(hp.set r (.arr (some 4) xs false)).length=hp.length:=by simp
 refine YR rfl rfl rfl rfl ?_;simp -dsimp -implicitDefEqProofs only[go_sem,seval,↓reduceIte,hcall,hsl];rw[Zp (by simp)]
theorem gg(v:AV)(hp:Heap)(ts:List Tm)(hL:IsL v hp ts)(hv:∀t∈ts,t.valid=true)(hl:Tm.sizes ts<100000000)(hD:∀t∈ts,D t.pv):
  S 81 [v,.pv none (.func (.func g))] hp=some (.ret (.sl (some 4) (hp.length+1) ts.length 0 ts.length),hp++[.arr (some 4) [] false,.arr (some 4) (isort c (Tm.pvs ts)) false]):=by
 have hlen:=Tm.zyN ts;refine YR rfl rfl rfl rfl ?_;have hm:ts.length<=lim:=by unfold lim;omega
 simp -dsimp -implicitDefEqProofs only[go_sem,seval,↓reduceIte,hL.len,YA (sh:=some 4) (by decide),NB (sh:=some 4) (by decide) hm,Zd,zW,z6,z7,z9,Zh,Zc];refine Yr (fun n st=>∃i:Nat,n=ts.length - i/\i<=ts.length/\st=⟨[(1,.pv none (.func (.func g))),(5,.sl (some 4) (hp.length+1) i 0 i),(11,v),(12,O8 ts.length),(13,O8 i)],hp++[.arr (some 4) [] false,.arr (some 4) (Tm.pvs (ts.take i)) false]⟩) (n:=ts.length) ⟨0,rfl,Zg _,?_⟩ ?_
 ·simp -dsimp -implicitDefEqProofs only[go_sem,seval,↓reduceIte];simp[Tm.pvs]
 ·rintro n st ⟨i,hn,hi,rfl⟩;by_cases h:i<ts.length
  ·have hc:(i:Int)<(ts.length:Int):=by omega
   obtain⟨u,hu⟩:∃u,ts[i]? =some u:=⟨_,Zf h⟩;have hum:=Zk hu;have husz:=Tm.zyU hum;have hcall:=fun hp=>XU u hp (hv u hum) (by omega);simp only[Tm.av] at hcall;obtain⟨p,hp1,hp2⟩:=hL.idx i u hu;have w2:=O0 i (by omega)
   have hl2:(Tm.pvs (ts.take i)).length=i:=by rw[Tm.pvs_len,Zn];omega
   have hlim:i+1<=lim:=by unfold lim;omega
   simp -dsimp -implicitDefEqProofs only[go_sem,seval,↓reduceIte,hc,hp1,hp2,hcall,w2,hl2,hlim,Zd,zW,z6,z7,z9,Zh,Zc,Tm.zyT hu];refine⟨ts.length - (i+1),by omega,i+1,rfl,by omega,?_⟩;rw[show ∀a b c d:AObj,hp++[a,b,c,d]=hp++[a,b]++[c,d] from fun _ _ _ _=>by simp];rw[NA (by simp) (by simp[AV.refsIn];intro q hq;have:=hL.refs q hq;omega) rfl]
  ·have hc:¬(i:Int)<(ts.length:Int):=by omega
   obtain rfl:i=ts.length:=by omega
   have hcall:=NC c hC g D hg (hp++[.arr (some 4) [] false,.arr (some 4) (Tm.pvs ts) false]) (hp.length+1) (by simp) ts.length (by omega) (Tm.pvs ts) (Tm.pvs_len ts).symm (by rw[Tm.zy5];simpa using hD);have e1:∀x,(hp++[AObj.arr (some 4) [] false,.arr (some 4) (Tm.pvs ts) false]).set (hp.length+1) x=hp++[.arr (some 4) [] false,x]:=fun x=>by rw[List.set_append_right _ _ (by omega)];simp
   rw[e1,e1] at hcall;simp -dsimp -implicitDefEqProofs only[go_sem,seval,↓reduceIte,hc,ZC,hcall,Zd,zW,z6,z7,z9,Zh,Zc];simp[AV.refsIn]
end
def small(p:PV):Prop:=∃t:Tm,p=t.pv/\t.valid=true/\t.size<1000000000
theorem ND:CmpG (onPV Tm.cmp) 83 small:=by
 rintro x y ⟨t,rfl,ht,hts⟩ ⟨u,rfl,hu,hus⟩ hp;have h:=Vq t u hp hts (Tm.valid_fits ht) (Tm.valid_fits hu);simp only[Tm.av] at h;simpa[onPV,kx] using h
theorem NE(ts:List Tm)(hl:Tm.sizes ts<1000000000)(v:AV)(hp:Heap)(hL:IsL v hp ts)(ext:Heap):S 80 [v] (hp++ext)=some (.ret (O9 (Yt ts)),hp++ext):=by
 obtain⟨hp1,_,hz⟩:=hL.frz;exact yG rfl rfl rfl (hz ext) (ge ts hl)
theorem NF(v:AV)(hp:Heap)(ts:List Tm)(hL:IsL v hp ts)(hl:Tm.sizes ts<100000000):S 132 [v] hp=some (.ret (.tuple (if Yt ts=true then[.sl (some 4) (hp.length+2) ts.length 0 ts.length,O8 0] else[.sl (some 4) (hp.length+1) 0 0 0,O8 1])),hp++(if Yt ts=true then[.arr (some 4) [] false,.arr (some 4) [] false,.arr (some 4) (Tm.pvs (isort Tm.cmp ts)) false] else[.arr (some 4) [] false,.arr (some 4) [] false])):=by
 have hv:=NE ts (by omega) v hp hL;refine YR rfl rfl rfl rfl ?_;by_cases h:Yt ts=true
 ·rw[h] at hv;have hcall:=fun e=>gg (onPV Tm.cmp) (uu Mb) 83 small ND v (hp++e) ts (hL.more e) (fun t ht=>yU h ht) hl (fun t ht=>⟨t,rfl,yU h ht,by have:=Tm.zyU ht;omega⟩);simp only[uz,Zc,Zd] at hcall;simp -dsimp -implicitDefEqProofs only[go_sem,seval,↓reduceIte,hv,hcall,h,YA (sh:=some 4) (by decide),Zd,zW,z6,z7,z9,Zh,Zc];simp[AV.refsIn,AV.refsIn.gol]
 ·rw[Bool.not_eq_true] at h;rw[h] at hv;simp -dsimp -implicitDefEqProofs only[go_sem,seval,↓reduceIte,hv,h,YA (sh:=some 4) (by decide),Zd,zW,z6,z7,z9,Zh,Zc];simp[AV.refsIn,AV.refsIn.gol]
def Yj(t:Tm):Bool:=decide (t.kind=3) && decide (t.name=[45]) && decide (t.args.length=2)
def gi(p:PV):Prop:=∃t:Tm,p=t.pv/\t.valid=true/\t.size<1000000000/\Yj t=true
theorem NG:CmpG (onPV xn) 82 gi:=by
 rintro x y ⟨t,rfl,ht,hts,htp⟩ ⟨u,rfl,hu,hus,hup⟩ hp;simp only[Yj,Zm,Zz] at htp hup;obtain⟨k1,k2,hk⟩:∃k1 k2,t.args=[k1,k2]:=by
  match t.args,htp.2 with
  |[a,b],_=>exact⟨a,b,rfl⟩
 obtain⟨j1,j2,hj⟩:∃k1 k2,u.args=[k1,k2]:=by
  match u.args,hup.2 with
  |[a,b],_=>exact⟨a,b,rfl⟩
 have h1:k1∈t.args:=by rw[hk];simp
 have h2:j1∈u.args:=by rw[hj];simp
 have hs:=Tm.zyQ h1;have h:=fun hp=>Vq k1 j1 hp (by omega) (Tm.zyP (Tm.valid_fits ht) h1) (Tm.zyP (Tm.valid_fits hu) h2);simp only[Tm.av] at h;have e1:(Tm.pvs t.args)[0]? =some k1.pv:=Tm.pvs_get (by rw[hk];rfl);have e2:(Tm.pvs u.args)[0]? =some j1.pv:=Tm.pvs_get (by rw[hj];rfl);have ek:xn t u=k1.cmp j1:=by unfold xn z8;rw[hk,hj];rfl
 refine Yb rfl rfl rfl (Yd [(some 4,t.pv),(some 4,u.pv)]) rfl ?_;simp -dsimp -implicitDefEqProofs only[go_sem,seval,↓reduceIte,zV,yc e1,yc e2,h];rw[show onPV xn t.pv u.pv=xn t u by simp[onPV,kx],ek]
def YU(ts:List Tm):Int:=if Yt ts=true then(if ts.all Yj=true then 0 else 3) else 1
def Yo(ts:List Tm):List Tm:=if Yt ts=true/\ts.all Yj=true then isort xn ts else[]
def Vs(ts:List Tm)(hp:Heap)(v:AV)(H:Heap):Prop:=∃q E,H=hp++E/\hp.length<=q/\H[q]? =some (.arr (some 4) (Tm.pvs (Yo ts)) false)/\v=.tuple [.sl (some 4) q (Yo ts).length 0 (Yo ts).length,O8 (YU ts)]
theorem Jq{ts:List Tm}{hp:Heap}{q:Nat}{E:Heap}{n:Nat}(hq:hp.length<=q)(h:(hp++E)[q]? =some (.arr (some 4) (Tm.pvs (Yo ts)) false))(hn:n=(Yo ts).length){e:Int}(he:e=YU ts):
  Vs ts hp (.tuple [.sl (some 4) q n 0 n,O8 e]) (if(AV.tuple [.sl (some 4) q n 0 n,O8 e]).refsIn.all (fun q=>decide (q<hp.length))=true then(hp++E).take hp.length else hp++E):=by
 rw[Za (by simp[AV.refsIn,AV.refsIn.gol];omega)];exact⟨q,E,rfl,hq,h,by rw[hn,he]⟩
theorem NH(ts:List Tm)(hl:Tm.sizes ts<100000000)(hp:Heap):∃v H,S 34 [.pv none (.sl (some 4) (Tm.pvs ts))] hp=some (.ret v,H)/\Vs ts hp v H:=by
 have hv:=Nz ts (by omega);have hlen:=Tm.zyN ts;refine xp (Vs ts hp) rfl rfl rfl rfl ?_;have hn0:=O1;by_cases h:Yt ts=true
 ·rw[h] at hv;simp -dsimp -implicitDefEqProofs only[go_sem,seval,↓reduceIte,hv,hn0,Tm.pvs_len,Zd,zW,z6,z7,z9,Zh,Zc];refine Yr (fun n st=>∃i:Nat,n=ts.length - i/\i<=ts.length/\(ts.take i).all Yj=true/\st=⟨[(0,.pv none (.sl (some 4) (Tm.pvs ts))),(9,.pv none (.sl (some 4) (Tm.pvs ts))),(10,O8 ts.length),(11,O8 i)],hp++[.arr (some 4) [] false]⟩) (n:=ts.length) ⟨0,rfl,Zg _,rfl,?_⟩ ?_
  ·rfl
  ·rintro n st ⟨i,hn,hi,hp1,rfl⟩;by_cases hlt:i<ts.length
   ·have hc:(i:Int)<(ts.length:Int):=by omega
    obtain⟨u,hu⟩:∃u,ts[i]? =some u:=⟨_,Zf hlt⟩;have hum:=Zk hu;have w2:=O0 i (by omega)
    have hbad:Yj u=false->YU ts=3/\Yo ts=[]:=fun hb=>by
     have:ts.all Yj=false:=List.all_eq_false.2 ⟨u,hum,by simp[hb]⟩;unfold YU Yo;simp[h,this]
    by_cases k1:u.kind=3
    ·have k1':=Zj k1;by_cases k2:u.name=[45]
     ·have k2':=Zj k2;by_cases k3:u.args.length=2
      ·have k3':=Zj (show(u.args.length:Int)=2 by omega);simp -dsimp -implicitDefEqProofs only[go_sem,seval,↓reduceIte,hc,zY (Tm.pvs_get hu),Ya,Ye,zV,Tm.pvs_len,k1',k2',k3',w2,hn0,Zd,zW,z6,z7,z9,Zh,Zc];refine⟨ts.length - (i+1),by omega,i+1,rfl,by omega,by rw[ZL,hu];simp[hp1,Yj,k1,k2,k3],?_⟩;rw[Xd 1 rfl rfl rfl (by simp[AV.refsIn])];rfl
      ·have k3':=Zl (show ¬(u.args.length:Int)=2 by omega);simp -dsimp -implicitDefEqProofs only[go_sem,seval,↓reduceIte,hc,zY (Tm.pvs_get hu),Ya,Ye,zV,Tm.pvs_len,k1',k2',k3',w2,hn0,Zd,zW,z6,z7,z9,Zh,Zc];exact Jq (by omega) (by rw[zW,(hbad (by simp[Yj,k3])).2];rfl) (by rw[(hbad (by simp[Yj,k3])).2];rfl) (hbad (by simp[Yj,k3])).1.symm
     ·have k2':=Zl k2;simp -dsimp -implicitDefEqProofs only[go_sem,seval,↓reduceIte,hc,zY (Tm.pvs_get hu),Ya,Ye,zV,Tm.pvs_len,k1',k2',w2,hn0,Zd,zW,z6,z7,z9,Zh,Zc];exact Jq (by omega) (by rw[zW,(hbad (by simp[Yj,k2])).2];rfl) (by rw[(hbad (by simp[Yj,k2])).2];rfl) (hbad (by simp[Yj,k2])).1.symm
    ·have k1':=Zl k1;simp -dsimp -implicitDefEqProofs only[go_sem,seval,↓reduceIte,hc,zY (Tm.pvs_get hu),Ya,Ye,zV,Tm.pvs_len,k1',w2,hn0,Zd,zW,z6,z7,z9,Zh,Zc];exact Jq (by omega) (by rw[zW,(hbad (by simp[Yj,k1])).2];rfl) (by rw[(hbad (by simp[Yj,k1])).2];rfl) (hbad (by simp[Yj,k1])).1.symm
   ·have hc:¬(i:Int)<(ts.length:Int):=by omega
    obtain rfl:i=ts.length:=by omega
    rw[ZC] at hp1;have eE:YU ts=0:=by unfold YU;rw[Zb h,Zb hp1]
    have eL:Yo ts=isort xn ts:=by unfold Yo;rw[Zb ⟨h,hp1⟩]
    have hcall:=gg (onPV xn) (uu Mc) 82 gi NG (.pv none (.sl (some 4) (Tm.pvs ts))) (hp++[.arr (some 4) [] false]) ts (gf _ _) (fun t ht=>yU h ht) hl (fun t ht=>⟨t,rfl,yU h ht,by have:=Tm.zyU ht;omega,Zo.1 hp1 t ht⟩);simp only[uz,Zc,ZB,zn,Zd,Zw,ZE,Zh,ZH] at hcall;simp -dsimp -implicitDefEqProofs only[go_sem,seval,↓reduceIte,hc,hcall,Zd,zW,z6,z7,z9,Zh,Zc];exact Jq (by omega) (by rw[zW,eL];rfl) (by rw[eL,ym]) eE.symm
 ·have eE:YU ts=1:=by unfold YU;rw[Za h]
  have eL:Yo ts=[]:=by unfold Yo;rw[Za (fun e=>h e.1)]
  rw[Bool.not_eq_true] at h;rw[h] at hv;simp -dsimp -implicitDefEqProofs only[go_sem,seval,↓reduceIte,hv,hn0,Zd,zW,z6,z7,z9,Zh,Zc];exact Jq (by omega) (by rw[zW,eL];rfl) (by rw[eL];rfl) eE.symm
theorem Jr{t:Tm}(h:Yj t=true):∃a b,t.args=[a,b]:=by
 simp only[Yj,Zm,Zz] at h
 match t.args,h.2 with
 |[a,b],_=>exact⟨a,b,rfl⟩
theorem Xq{t:Tm}(h:Yj t=true):z8 t∈t.args:=by
 obtain⟨a,b,e⟩:=Jr h;unfold z8;rw[e];simp
def kO:Bool->Tm->Tm
 |true,t=>z8 t
 |false,t=>t
def kC(b:Bool)(x y:Tm):Int:=(kO b x).cmp (kO b y)
theorem qw(b:Bool):Cmp (kC b):=⟨fun x y=>Tm.zzc _ _,fun h1 h2=>Tm.zy1 h1 h2⟩
def okK:Bool->Tm->Bool
 |true,t=>Yj t
 |false,_=>true
theorem Vt{b:Bool}{t:Tm}(h:okK b t=true):(kO b t).size<=t.size/\(t.fits=true->(kO b t).fits=true):=by
 cases b with
 |false=>exact⟨Zi _,fun h=>h⟩
 |true=>exact⟨Nat.le_of_lt (Tm.zyQ (Xq h)),fun hf=>Tm.zyP hf (Xq h)⟩
theorem gj(b:Bool)(t:Tm)(h:okK b t=true)(hp:Heap):S 106 [.pv (some 4) t.pv,O9 b] hp=some (.ret (.pv (some 4) (kO b t).pv),hp):=by
 refine Yb rfl rfl rfl (Yd [(some 4,t.pv),(none,.bool b)]) rfl ?_;cases b with
 |false=>simp -dsimp -implicitDefEqProofs only[go_sem,seval,↓reduceIte,kO]
 |true=>
  obtain⟨a,b,e⟩:=Jr h;have e1:(Tm.pvs t.args)[0]? =some (z8 t).pv:=Tm.pvs_get (by unfold z8;rw[e];rfl);simp -dsimp -implicitDefEqProofs only[go_sem,seval,↓reduceIte,zV,yc e1,Yc (Zg _)]
  first|rfl|exact⟨_,rfl⟩
def yH(b:Bool)(l:List Tm)(t:Tm):Nat->Nat
 |0=>0
 |n+1=>match l[n]? with
  |some x=>if 0<kC b x t then yH b l t n else n+1
  |none=>n+1
def insK(b:Bool)(l:List Tm)(t:Tm):List Tm:=l.take (yH b l t l.length)++t::l.drop (yH b l t l.length)
theorem gk(b:Bool)(l:List Tm)(t:Tm):∀n,yH b l t n<=n
 |0=>Zi _
 |n+1=>by
  unfold yH;split
  ·split
   ·have:=gk b l t n;omega
   ·omega
  ·omega
theorem NI{b:Bool}{l:List Tm}{t x:Tm}:x∈insK b l t↔x∈l\/x=t:=by
 unfold insK;rw[Zr,Zt];have h:x∈l↔x∈l.take (yH b l t l.length)\/x∈l.drop (yH b l t l.length):=by rw[<-Zr,ZK]
 rw[h];constructor
 ·rintro(h|h|h) <;> simp[h]
 ·rintro((h|h)|h) <;> simp[h]
theorem NJ(b:Bool)(l:List Tm)(t:Tm):Tm.sizes (insK b l t)=Tm.sizes l+t.size:=by
 unfold insK;have h:=Tm.zyZ (l.take (yH b l t l.length)) (l.drop (yH b l t l.length));rw[ZK] at h;rw[Tm.zyZ,h];simp only[Tm.sizes];omega
theorem NK(b:Bool)(l:List Tm)(t:Tm):(insK b l t).length=l.length+1:=by
 unfold insK;have:=gk b l t l.length;simp;omega
theorem NL(b:Bool)(l:List Tm)(t:Tm)(hl:Tm.sizes l+t.size<1000000000)(hv:Yt l=true)(ht:t.valid=true)(pl:l.all (okK b)=true)(pt:okK b t=true)(hp:Heap):
  S 60 [.pv none (.sl (some 4) (Tm.pvs l)),.pv (some 4) t.pv,O9 b] hp=some (.ret (.pv none (.sl (some 4) (Tm.pvs (insK b l t)))),hp):=by
 refine Yb rfl rfl rfl (Yd [(none,.sl (some 4) (Tm.pvs l)),(some 4,t.pv),(none,.bool b)]) rfl ?_;have hlen:=Tm.zyN l;have hkt:=gj b t pt;simp -dsimp -implicitDefEqProofs only[go_sem,seval,↓reduceIte,Tm.pvs_len,YA (show 0<Sh.size (some 4) by decide)];refine Yr (fun n st=>∃i:Nat,n=i/\i<=l.length/\yH b l t l.length=yH b l t i/\st=⟨[(0,.pv none (.sl (some 4) (Tm.pvs l))),(2,O9 b),(4,.ptr 0 0),(7,O8 i)],[.box (some 4) (.pv (some 4) t.pv),.arr (some 4) [] false]⟩) (n:=l.length) ⟨l.length,rfl,Zi _,rfl,?_⟩ ?_
 ·simp -dsimp -implicitDefEqProofs only[go_sem,seval,↓reduceIte]
 ·rintro n st ⟨i,hn,hi,he,rfl⟩;have hti:(l.take i).length=i:=by simp;omega
  have htd:(l.drop i).length=l.length - i:=by simp
  have hl1:i<=lim:=by unfold lim;omega
  have hl2:i+1<=lim:=by unfold lim;omega
  have hl3:i+1+(l.length - i)<=lim:=by unfold lim;omega
  have hpl:i<=(Tm.pvs l).length:=by rw[Tm.pvs_len];exact hi
  have hln:(Tm.pvs (l.take i)++[t.pv]).length=i+1:=by simp[Tm.pvs_len,hti]
  have hln3:(Tm.pvs (l.take i)++[t.pv]++Tm.pvs (l.drop i)).length=i+1+(l.length - i):=by simp[Tm.pvs_len,hti,htd];omega
  have fin:i=yH b l t l.length->Tm.pvs (insK b l t)=Tm.pvs (l.take i)++[t.pv]++Tm.pvs (l.drop i):=by
   intro hk;unfold insK;rw[<-hk,Tm.zyO,Zd];rfl
  by_cases h0:i=0
  ·have hc:¬(0:Int)<(i:Int):=by omega
   have hf:=fin (by rw[he,h0];rfl);simp -dsimp -implicitDefEqProofs only[go_sem,seval,↓reduceIte,Tm.pvs_len,hc,YA (show 0<Sh.size (some 4) by decide),ua hpl,ub hpl,Tm.zzd,Tm.zzi,hti,htd,hl1,hl2,hl3,hln,hln3,hf]
  ·have hc:(0:Int)<(i:Int):=by omega
   obtain⟨j,rfl⟩:∃j,i=j+1:=⟨i - 1,by omega⟩;obtain⟨x,hx⟩:∃x,l[j]? =some x:=⟨_,Zf (by omega)⟩;have hm:=Zk hx;have hsx:=Tm.zyU hm;have w1:IntKind.i64.wrap (((j+1:Nat):Int) - 1)=((j:Nat):Int):=by rw[zZ (by omega) (by omega)];omega
   have px:=Zo.1 pl x hm;have hkx:=gj b x px;have hcall:=fun hp=>G6 (kO b x) (kO b t) hp (by have:=(Vt px).1;omega) ((Vt px).2 (valid_fits (yU hv hm))) ((Vt pt).2 (valid_fits ht));rw[show(kO b x).cmp (kO b t)=kC b x t from rfl] at hcall;simp only[Tm.av] at hcall;by_cases hgt:0<kC b x t
   ·simp -dsimp -implicitDefEqProofs only[go_sem,seval,↓reduceIte,Tm.pvs_len,hc,w1,zY (Tm.pvs_get hx),hkx,hkt,hcall,hgt];exact⟨j,by omega,j,rfl,by omega,by rw[he];simp[yH,hx,hgt],rfl⟩
   ·have hf:=fin (by rw[he];simp[yH,hx,hgt]);simp -dsimp -implicitDefEqProofs only[go_sem,seval,↓reduceIte,Tm.pvs_len,hc,w1,zY (Tm.pvs_get hx),hkx,hkt,hcall,hgt,YA (show 0<Sh.size (some 4) by decide),ua hpl,ub hpl,Tm.zzd,Tm.zzi,hti,htd,hl1,hl2,hl3,hln,hln3,hf]

theorem jO(b:Bool)(l:List Tm)(t:Tm)(args:List AV)(hp hp1:Heap)(hz:Yi args hp=some ([(none,.sl (some 4) (Tm.pvs l)),(some 4,t.pv),(none,.bool b)],hp1))(hl:Tm.sizes l+t.size<1000000000)(hv:Yt l=true)(ht:t.valid=true)(pl:l.all (okK b)=true)(pt:okK b t=true):
  S 60 args hp=some (.ret (.pv none (.sl (some 4) (Tm.pvs (insK b l t)))),hp1):=
 yG rfl rfl rfl hz (NL b l t hl hv ht pl pt [])
def YQ(b:Bool)(l:List Tm):List Tm:=l.foldl (insK b) []
theorem gl(b:Bool)(l:List Tm)(t:Tm):YQ b (l++[t])=insK b (YQ b l) t:=by simp[YQ]
theorem gm(b:Bool):∀(l acc:List Tm),(∀x,x∈l.foldl (insK b) acc↔x∈acc\/x∈l)/\Tm.sizes (l.foldl (insK b) acc)=Tm.sizes acc+Tm.sizes l/\(l.foldl (insK b) acc).length=acc.length+l.length
 |[],acc=>⟨fun x=>by simp,by simp[Tm.sizes],by simp⟩
 |t::l,acc=>by
  obtain⟨h1,h2,h3⟩:=gm b l (insK b acc t);simp only[zD];refine⟨fun x=> ?_,?_,?_⟩
  ·rw[h1,NI,Zt,or_assoc]
  ·rw[h2,NJ];simp only[Tm.sizes];omega
  ·rw[h3,NK,ZB];omega
theorem Js(b:Bool)(l:List Tm):(∀x,x∈YQ b l↔x∈l)/\Tm.sizes (YQ b l)=Tm.sizes l/\(YQ b l).length=l.length:=by
 obtain⟨h1,h2,h3⟩:=gm b l [];exact⟨fun x=>by unfold YQ;rw[h1];simp,by unfold YQ;rw[h2];simp[Tm.sizes],by unfold YQ;rw[h3];simp⟩
theorem Vu{b:Bool}{l:List Tm}(h:Yt l=true):Yt (YQ b l)=true:=
 Zo.2 fun x hx=>Zo.1 h x (((Js b l).1 x).1 hx)

theorem NM{b:Bool}{l:List Tm}(hs:Srt (kC b) l)(t:Tm):insK b l t=insC (kC b) t l:=by
 have key:∀n,n<=l.length->(∀x∈l.drop n,0<kC b x t)->l.take (yH b l t n)++t::l.drop (yH b l t n)=insC (kC b) t l:=by
  intro n
  induction n with
  |zero=>
   intro _ h;have:=jk (c:=kC b) (t:=t) (A:=[]) (B:=l) (by simp) (fun x hx=>by have:=h x (by simpa using hx);rw[(qw b).neg x t];omega);simpa[yH] using this.symm
  |succ n ih=>
   intro hn h;obtain⟨x,hx⟩:∃x,l[n]? =some x:=⟨_,Zf (by omega)⟩;obtain⟨q1,q2⟩:=Ze.1 hx;unfold yH;rw[hx];simp only;split
   ·rename_i hgt;refine ih (by omega) fun y hy=> ?_;rw[ZS q1,q2] at hy;rcases Zt.1 hy with rfl|hy
    ·exact hgt
    ·exact h y hy
   ·rename_i hle;have:=jk (c:=kC b) (t:=t) (A:=l.take (n+1)) (B:=l.drop (n+1)) (fun y hy=> ?_) (fun y hy=>by have:=h y hy;rw[(qw b).neg y t];omega)
    ·rw[ZK] at this;exact this.symm
    ·rw[xU hx] at hy;have hyx:kC b y x<=0:=by
      rcases Zr.1 hy with hy|hy
      ·have hs':=hs;rw[<-ZK n l,ZS q1,q2] at hs';exact(List.pairwise_append.1 hs').2.2 y hy x Zv
      ·rw[ZV] at hy;rw[hy,(qw b).self];omega
     have:=(qw b).trans hyx (show kC b x t<=0 by omega);have:=(qw b).neg y t;omega
 unfold insK;exact key l.length (Zi _) (by simp)
theorem gn(b:Bool)(l:List Tm):YQ b l=isort (kC b) l:=by
 suffices h:∀(l A:List Tm),Srt (kC b) A->l.foldl (insK b) A=l.foldl (fun s t=>insC (kC b) t s) A from h l [] List.Pairwise.nil
 intro l
 induction l with
 |nil=>intro A _;rfl
 |cons t l ih=>
  intro A hA;simp only[zD];rw[NM hA];exact ih _ (uq (qw b) hA t)
theorem NN{b:Bool}{l:List Tm}{p:Tm->Bool}(h:l.all p=true):(YQ b l).all p=true:=
 Zo.2 fun x hx=>Zo.1 h x (((Js b l).1 x).1 hx)
theorem gp(t:Tm)(hp:Heap):S 55 [.pv (some 4) t.pv] hp=some (.ret (O9 (Yj t)),hp):=by
 refine Yb rfl rfl rfl (Yd [(some 4,t.pv)]) rfl ?_;by_cases k1:t.kind=3
 ·have k1':=Zj k1;by_cases k2:t.name=[45]
  ·have k2':=Zj k2;by_cases k3:t.args.length=2
   ·have k3':=Zj (show(t.args.length:Int)=2 by omega);have e:Yj t=true:=by simp[Yj,k1,k2,k3]
    simp -dsimp -implicitDefEqProofs only[go_sem,seval,↓reduceIte,Ya,Ye,zV,Tm.pvs_len,k1',k2',k3',e]
    try rfl
   ·have k3':=Zl (show ¬(t.args.length:Int)=2 by omega);have e:Yj t=false:=by simp[Yj,k3]
    simp -dsimp -implicitDefEqProofs only[go_sem,seval,↓reduceIte,Ya,Ye,zV,Tm.pvs_len,k1',k2',k3',e]
    try rfl
  ·have k2':=Zl k2;have e:Yj t=false:=by simp[Yj,k2]
   simp -dsimp -implicitDefEqProofs only[go_sem,seval,↓reduceIte,Ya,Ye,zV,Tm.pvs_len,k1',k2',e]
   try rfl
 ·have k1':=Zl k1;have e:Yj t=false:=by simp[Yj,k1]
  simp -dsimp -implicitDefEqProofs only[go_sem,seval,↓reduceIte,Ya,Ye,zV,Tm.pvs_len,k1',e]
  try rfl
theorem NO(l:List Tm)(hl:Tm.sizes l<100000000)(hp:Heap):S 18 [.pv none (.sl (some 4) (Tm.pvs l))] hp=some (.ret (.tuple [.pv none (.sl (some 4) (Tm.pvs (Yo l))),O8 (YU l)]),hp):=by
 refine Yb rfl rfl rfl (Yd [(none,.sl (some 4) (Tm.pvs l))]) rfl ?_;have hlen:=Tm.zyN l;have h2:=fun hp=>gd l (by omega) hp;have hn0:=O1;by_cases hv:Yt l=true
 ·simp -dsimp -implicitDefEqProofs only[go_sem,seval,↓reduceIte,h2,hv,hn0];refine Yr (fun n st=>∃i:Nat,n=l.length - i/\i<=l.length/\(l.take i).all Yj=true/\st=⟨[(0,.pv none (.sl (some 4) (Tm.pvs l))),(4,O8 i)],[.arr (some 4) [] false]⟩) (n:=l.length) ⟨0,rfl,Zg _,rfl,rfl⟩ ?_;rintro n st ⟨i,hn,hi,hall,rfl⟩;by_cases h:i<l.length
  ·have hc:(i:Int)<(l.length:Int):=by omega
   obtain⟨x,hx⟩:∃x,l[i]? =some x:=⟨_,Zf h⟩;have hm:=Zk hx;have w2:=O0 i (by omega)
   have hpr:=gp x;cases hpx:Yj x with
   |true=>
    rw[hpx] at hpr;simp -dsimp -implicitDefEqProofs only[go_sem,seval,↓reduceIte,Tm.pvs_len,hc,zY (Tm.pvs_get hx),hpr,w2];exact⟨l.length - (i+1),by omega,i+1,rfl,by omega,by rw[ZL,hx];simp[hall,hpx],rfl⟩
   |false=>
    rw[hpx] at hpr;have ha:l.all Yj=false:=List.all_eq_false.2 ⟨x,hm,by simp[hpx]⟩;have e1:Yo l=[]:=by unfold Yo;simp[ha]
    have e2:YU l=3:=by unfold YU;simp[hv,ha]
    simp -dsimp -implicitDefEqProofs only[go_sem,seval,↓reduceIte,Tm.pvs_len,hc,zY (Tm.pvs_get hx),hpr,hn0,e1,e2]
    try rfl
  ·have hc:¬(i:Int)<(l.length:Int):=by omega
   obtain rfl:i=l.length:=by omega
   rw[ZC] at hall;have e1:Yo l=YQ true l:=by unfold Yo;rw[Zb ⟨hv,hall⟩,gn];rfl
   have e2:YU l=0:=by unfold YU;rw[Zb hv,Zb hall]
   simp -dsimp -implicitDefEqProofs only[go_sem,seval,↓reduceIte,Tm.pvs_len,hc,hn0];refine Yr (fun n st=>∃i:Nat,n=l.length - i/\i<=l.length/\((i=0/\st=⟨[(0,.pv none (.sl (some 4) (Tm.pvs l))),(5,.sl (some 4) 1 0 0 0),(6,O8 0)],[.arr (some 4) [] false,.arr (some 4) [] false]⟩)\/
   ∃fz,st=⟨[(0,.pv none (.sl (some 4) (Tm.pvs l))),(5,.pv none (.sl (some 4) (Tm.pvs (YQ true (l.take i))))),(6,O8 i)],[.arr (some 4) [] false,.arr (some 4) [] fz]⟩)) (n:=l.length) ⟨0,rfl,Zg _,.inl ⟨rfl,rfl⟩⟩ ?_
   rintro n st ⟨i,hn,hi,hst⟩;by_cases h:i<l.length
   ·have hc:(i:Int)<(l.length:Int):=by omega
    obtain⟨x,hx⟩:∃x,l[i]? =some x:=⟨_,Zf h⟩;have hm:=Zk hx;have hsx:=Tm.zyU hm;have hst':=Tm.zyS l i;have w2:=O0 i (by omega)
    have nx:insK true (YQ true (l.take i)) x=YQ true (l.take (i+1)):=by rw[ZL,hx,<-gl];rfl
    have hva:Yt (YQ true (l.take i))=true:=Vu (Zo.2 fun y hy=>Zo.1 hv y (zO hy));have hpa:(YQ true (l.take i)).all Yj=true:=NN (Zo.2 fun y hy=>Zo.1 hall y (zO hy));have hpx:=Zo.1 hall x hm;rcases hst with⟨rfl,rfl⟩|⟨fz,rfl⟩
    ·have hcall:=jO true [] x [.sl (some 4) 1 0 0 0,.pv (some 4) x.pv,O9 true] [.arr (some 4) [] false,.arr (some 4) [] false] [.arr (some 4) [] false,.arr (some 4) [] true] rfl (by simp[Tm.sizes];omega) rfl (yU hv hm) rfl hpx;have hc:(0:Int)<(l.length:Int):=by omega
     have w1:IntKind.i64.wrap ((0:Int)+1)=((1:Nat):Int):=by rw[zZ (by omega) (by omega)];rfl
     have nx':insK true [] x=YQ true (l.take 1):=nx;simp -dsimp -implicitDefEqProofs only[go_sem,seval,↓reduceIte,Tm.pvs_len,hc,yc (Tm.pvs_get hx),hcall,w1,nx'];exact⟨l.length - 1,by omega,1,rfl,by omega,.inr ⟨true,rfl⟩⟩
    ·have hcall:=fun hp=>jO true (YQ true (l.take i)) x [.pv none (.sl (some 4) (Tm.pvs (YQ true (l.take i)))),.pv (some 4) x.pv,O9 true] hp hp (Yd [(none,.sl (some 4) (Tm.pvs (YQ true (l.take i)))),(some 4,x.pv),(none,.bool true)]) (by rw[(Js true _).2.1];omega) hva (yU hv hm) hpa hpx;simp -dsimp -implicitDefEqProofs only[go_sem,seval,↓reduceIte,Tm.pvs_len,hc,zY (Tm.pvs_get hx),hcall,w2,nx];exact⟨l.length - (i+1),by omega,i+1,rfl,by omega,.inr ⟨fz,rfl⟩⟩
   ·have hc:¬(i:Int)<(l.length:Int):=by omega
    obtain rfl:i=l.length:=by omega
    rcases hst with⟨h0,rfl⟩|⟨fz,rfl⟩
    ·have hnil:l=[]:=ZQ.1 h0;subst hnil;have hz:¬(0:Int)<((0:Nat):Int):=by decide
     simp -dsimp -implicitDefEqProofs only[go_sem,seval,↓reduceIte,Tm.pvs,hz,e1,e2];rfl
    ·rw[ZC];simp -dsimp -implicitDefEqProofs only[go_sem,seval,↓reduceIte,Tm.pvs_len,hc,e1,e2]
 ·have e1:Yo l=[]:=by unfold Yo;rw[Za (fun e=>hv e.1)]
  have e2:YU l=1:=by unfold YU;rw[Za hv]
  simp -dsimp -implicitDefEqProofs only[go_sem,seval,↓reduceIte,h2,hv,hn0,e1,e2];rfl
def vari(a b:Tm):Bool:=a.valid && (b.valid && decide ((canT a).cmp (canT b)=0))
theorem NP{L:List Int}:∀t:Tm,t.fits=true->(Tm.sub (cPos L) t).size=t.size:=by
 intro t
 induction t using Tm.zyR with
 |h t ih=>
  intro hf;rw[Tm.zyX];by_cases hk:t.kind=0
  ·rw[Zb hk,yn hf hk];rfl
  ·rw[Za hk,Tm.size_eq,t.size_eq]
   congr 1
   have hargs:∀u∈t.args,(Tm.sub (cPos L) u).size=u.size:=fun u hu=>ih u hu (Tm.zyP hf hu);show Tm.sizes (t.args.map (Tm.sub (cPos L)))=_;generalize t.args=l at hargs;clear ih
   induction l with
   |nil=>rfl
   |cons x r ihl=>
    rw[ZP,Tm.sizes,Tm.sizes,hargs x Zv,ihl fun u hu=>hargs u (Zu _ hu)]
theorem Vv{t:Tm}(h:t.valid=true):(canT t).size=t.size:=NP t (valid_fits h)
theorem NQ(a b:Tm)(hp:Heap)(ha:a.size<1000000000)(hb:b.size<1000000000):S 36 [a.av,b.av] hp=some (.ret (O9 (vari a b)),hp):=by
 refine Yb rfl rfl rfl (Yd [(some 4,a.pv),(some 4,b.pv)]) rfl ?_;have h1:=fun hp=>yR a hp ha;have h2:=fun hp=>yR b hp hb;simp only[Tm.av] at h1 h2;unfold vari;by_cases va:a.valid=true
 ·by_cases vb:b.valid=true
  ·have h4:=fun hp=>Vd a hp ha;have h5:=fun hp=>Vd b hp hb;have hs:=Vv va;have h3:=fun hp=>uY (canT a) (canT b) hp (by omega);rw[canR,Zb va] at h4;rw[canR,Zb vb] at h5;simp only[Tm.av] at h3 h4 h5
   (repeat' (first|(simp -dsimp -implicitDefEqProofs only[go_sem,seval,↓reduceIte, *])|(refine YI (fun _=> ?_) (fun _=> ?_))))
  ·(repeat' (first|(simp -dsimp -implicitDefEqProofs only[go_sem,seval,↓reduceIte, *])|(refine YI (fun _=> ?_) (fun _=> ?_))))
 ·(repeat' (first|(simp -dsimp -implicitDefEqProofs only[go_sem,seval,↓reduceIte, *])|(refine YI (fun _=> ?_) (fun _=> ?_))))
theorem NR(p key:Tm)(hp:Yj p=true)(H:Heap)(c:Nat)(hc:H[c]? =some (.box (some 4) (.pv (some 4) key.pv)))(h1:p.size<1000000000)(h2:key.size<1000000000):
  S 35 [p.av,.ptr c 0] H=some (.ret (O9 (vari (z8 p) key)),H):=by
 refine YR rfl rfl rfl rfl ?_;obtain⟨a,b,e⟩:=Jr hp;have e1:(Tm.pvs p.args)[0]? =some (z8 p).pv:=Tm.pvs_get (by unfold z8;rw[e];rfl);have hk:=Xq hp;have hks:=Tm.zyQ hk;have h3:=fun hp=>NQ (z8 p) key hp (by omega) h2;have hcl:=Y9 hc;have hld:∀X:Heap,(H++X)[c]? =some (.box (some 4) (.pv (some 4) key.pv)):=fun X=>by rw[Zx hcl];exact hc
 simp only[Tm.av] at h3;simp -dsimp -implicitDefEqProofs only[go_sem,seval,↓reduceIte,Tm.av,zV,yc e1,h3,hld,Zd,zW,z6,z7,z9,Zh,Zc];simp[AV.refsIn]
end Go.Proofs.YtffecaafklpmhaaGreat
