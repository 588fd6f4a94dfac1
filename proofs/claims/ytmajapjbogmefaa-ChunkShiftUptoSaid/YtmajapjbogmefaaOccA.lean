/- What is proved: the library's merging in place merges. -/
import Derived.Test.YtmajapjbogmefaaSwap
import Derived.Test.YtmajapjbogmefaaAm5
set_option linter.unusedSimpArgs false
set_option linter.unusedVariables false
namespace Go.Proofs.Ytmajapjbogmefaa
open Go.Am
theorem ztG(c:PV->PV->Int)(fv:AV)(D:PV->Prop)(hp:Heap)(r:Nat)(hg:CmpF c fv D hp r)(hr:r<hp.length)(xs:List PV)(N a i0 j0:Nat)(hN:xs.length=N)(hN':N<1000000000)(ha:a<N)(hj:j0<=N)(hij:i0<=j0)(hD:∀h,h<N->D (at' xs h))
  (hm:∀h h',i0<=h'->h'<=h->h<j0->c (at' xs h) (at' xs a)<0->c (at' xs h') (at' xs a)<0)
  (fr:Fr)(Q:AExit->St->Prop)
  (hfr:fr.keep [0,1,4,10,11]=[(0,.sl none r N 0 N),(1,.pv none (.int .i64 a)),(4,fv),(10,.pv none (.int .i64 i0)),(11,.pv none (.int .i64 j0))])
  (h:∀k,i0<=k->k<=j0->(∀h,i0<=h->h<k->c (at' xs h) (at' xs a)<0)->(∀h,k<=h->h<j0->¬c (at' xs h) (at' xs a)<0)->∀rest,Q (.exit 0) ⟨(0,.sl none r N 0 N)::(1,.pv none (.int .i64 a))::(4,fv)::(10,.pv none (.int .i64 k))::rest,hp.set r (.arr none xs false)⟩):
  W Z L hp.length (.loop [0,1,4,10,11] c56b11) ⟨fr,hp.set r (.arr none xs false)⟩ Q:=by
 have e1:∀A,(hp.set r A)[r]? =some A:=fun A=>by simp[hr]
 refine zbB (fun n st=>∃i j:Nat,n=j - i/\i0<=i/\i<=j/\j<=j0/\(∀h,i0<=h->h<i->c (at' xs h) (at' xs a)<0)/\(∀h,j<=h->h<j0->¬c (at' xs h) (at' xs a)<0)/\
  st=⟨[(0,.sl none r N 0 N),(1,.pv none (.int .i64 a)),(4,fv),(10,.pv none (.int .i64 i)),(11,.pv none (.int .i64 j))],hp.set r (.arr none xs false)⟩) (n:=j0 - i0) ⟨i0,j0,rfl,by omega,hij,by omega,fun h h1 h2=>by omega,fun h h1 h2=>by omega,?_⟩ ?_
 ·rw[hfr]
 ·rintro n st ⟨i,j,hn,h1,h2,h3,h4,h5,rfl⟩
  by_cases hlt:i<j
  ·have hc:(i:Int)<(j:Int):=by omega
   have w1:IntKind.i64.wrap ((i:Int)+(j:Int))=((i+j:Nat):Int):=by rw[zah (by omega) (by omega)];omega
   have w2:IntKind.u64.wrap ((i+j:Nat):Int)=((i+j:Nat):Int):=zf3 (by omega) (by omega)
   have w3:IntKind.i64.wrap (((i+j:Nat):Int) / 2)=(((i+j) / 2:Nat):Int):=by rw[zah (by omega) (by omega)];omega
   have w4:IntKind.i64.wrap ((((i+j) / 2:Nat):Int)+1)=(((i+j) / 2+1:Nat):Int):=by rw[zah (by omega) (by omega)];omega
   have lh:(i+j) / 2<N:=by omega
   have gh:=zer (xs:=xs) (i:=(i+j) / 2) (by omega)
   have ga:=zer (xs:=xs) (i:=a) (by omega)
   obtain⟨g,fs,cs,hcal,hg'⟩:=hg
   have hcall:=hg' _ _ (hD _ lh) (hD a ha)
   by_cases h0:c (at' xs ((i+j) / 2)) (at' xs a)<0
   ·simp -dsimp -implicitDefEqProofs only[c56b11,c56b19,c56b33,c56b41,c56b62,c56r64,c56r65,c56k67,c56r68,c56k70,c56r71,c56k73,go_sem,seval,↓reduceIte,hc,zfK (show 0<IntKind.bits .u64 by decide),w1,w2,w3,w4,zal lh,zal ha,za5,e1,gh,ga,hN,hcall,zbJ hcal,h0]
    refine⟨j - ((i+j) / 2+1),by omega,(i+j) / 2+1,j,rfl,by omega,by omega,h3,fun h x1 x2=>hm _ _ x1 (by omega) (by omega) h0,h5,?_⟩
    rw[zam (by simp)]
   ·simp -dsimp -implicitDefEqProofs only[c56b11,c56b19,c56b33,c56b41,c56b62,c56r64,c56r65,c56k67,c56r68,c56k70,c56r71,c56k73,go_sem,seval,↓reduceIte,hc,zfK (show 0<IntKind.bits .u64 by decide),w1,w2,w3,w4,zal lh,zal ha,za5,e1,gh,ga,hN,hcall,zbJ hcal,h0]
    refine⟨(i+j) / 2 - i,by omega,i,(i+j) / 2,rfl,h1,by omega,by omega,h4,fun h x1 x2 x3=>h0 (hm _ _ (by omega) x1 x2 x3),?_⟩
    rw[zam (by simp)]
  ·have hc:¬(i:Int)<(j:Int):=by omega
   obtain rfl:i=j:=by omega
   simp -dsimp -implicitDefEqProofs only[c56b11,c56b19,c56b33,c56b41,c56b62,c56r64,c56r65,c56k67,c56r68,c56k70,c56r71,c56k73,go_sem,seval,↓reduceIte,hc]
   exact h i h1 h3 h4 h5 _
theorem ztH(c:PV->PV->Int)(fv:AV)(D:PV->Prop)(hp:Heap)(r:Nat)(hg:CmpF c fv D hp r)(hr:r<hp.length)(xs:List PV)(N m i0 j0:Nat)(hN:xs.length=N)(hN':N<1000000000)(ha:m<N)(hj:j0<=N)(hij:i0<=j0)(hD:∀h,h<N->D (at' xs h))
  (hm:∀h h',i0<=h'->h'<=h->h<j0->¬c (at' xs m) (at' xs h)<0->¬c (at' xs m) (at' xs h')<0)
  (fr:Fr)(Q:AExit->St->Prop)
  (hfr:fr.keep [0,2,4,14,15]=[(0,.sl none r N 0 N),(2,.pv none (.int .i64 m)),(4,fv),(14,.pv none (.int .i64 i0)),(15,.pv none (.int .i64 j0))])
  (h:∀k,i0<=k->k<=j0->(∀h,i0<=h->h<k->¬c (at' xs m) (at' xs h)<0)->(∀h,k<=h->h<j0->c (at' xs m) (at' xs h)<0)->∀rest,Q (.exit 4) ⟨(0,.sl none r N 0 N)::(2,.pv none (.int .i64 m))::(4,fv)::(14,.pv none (.int .i64 k))::rest,hp.set r (.arr none xs false)⟩):
  W Z L hp.length (.loop [0,2,4,14,15] c56b33) ⟨fr,hp.set r (.arr none xs false)⟩ Q:=by
 have e1:∀A,(hp.set r A)[r]? =some A:=fun A=>by simp[hr]
 refine zbB (fun n st=>∃i j:Nat,n=j - i/\i0<=i/\i<=j/\j<=j0/\(∀h,i0<=h->h<i->¬c (at' xs m) (at' xs h)<0)/\(∀h,j<=h->h<j0->c (at' xs m) (at' xs h)<0)/\
  st=⟨[(0,.sl none r N 0 N),(2,.pv none (.int .i64 m)),(4,fv),(14,.pv none (.int .i64 i)),(15,.pv none (.int .i64 j))],hp.set r (.arr none xs false)⟩) (n:=j0 - i0) ⟨i0,j0,rfl,by omega,hij,by omega,fun h h1 h2=>by omega,fun h h1 h2=>by omega,?_⟩ ?_
 ·rw[hfr]
 ·rintro n st ⟨i,j,hn,h1,h2,h3,h4,h5,rfl⟩
  by_cases hlt:i<j
  ·have hc:(i:Int)<(j:Int):=by omega
   have w1:IntKind.i64.wrap ((i:Int)+(j:Int))=((i+j:Nat):Int):=by rw[zah (by omega) (by omega)];omega
   have w2:IntKind.u64.wrap ((i+j:Nat):Int)=((i+j:Nat):Int):=zf3 (by omega) (by omega)
   have w3:IntKind.i64.wrap (((i+j:Nat):Int) / 2)=(((i+j) / 2:Nat):Int):=by rw[zah (by omega) (by omega)];omega
   have w4:IntKind.i64.wrap ((((i+j) / 2:Nat):Int)+1)=(((i+j) / 2+1:Nat):Int):=by rw[zah (by omega) (by omega)];omega
   have lh:(i+j) / 2<N:=by omega
   have gh:=zer (xs:=xs) (i:=(i+j) / 2) (by omega)
   have ga:=zer (xs:=xs) (i:=m) (by omega)
   obtain⟨g,fs,cs,hcal,hg'⟩:=hg
   have hcall:=hg' _ _ (hD m ha) (hD _ lh)
   by_cases h0:c (at' xs m) (at' xs ((i+j) / 2))<0
   ·simp -dsimp -implicitDefEqProofs only[c56b11,c56b19,c56b33,c56b41,c56b62,c56r64,c56r65,c56k67,c56r68,c56k70,c56r71,c56k73,go_sem,seval,↓reduceIte,hc,zfK (show 0<IntKind.bits .u64 by decide),w1,w2,w3,w4,zal lh,zal ha,za5,e1,gh,ga,hN,hcall,zbJ hcal,h0]
    refine⟨(i+j) / 2 - i,by omega,i,(i+j) / 2,rfl,h1,by omega,by omega,h4,fun h x1 x2=>Classical.byContradiction fun x3=>hm _ _ (by omega) x1 x2 x3 h0,?_⟩
    rw[zam (by simp)]
   ·simp -dsimp -implicitDefEqProofs only[c56b11,c56b19,c56b33,c56b41,c56b62,c56r64,c56r65,c56k67,c56r68,c56k70,c56r71,c56k73,go_sem,seval,↓reduceIte,hc,zfK (show 0<IntKind.bits .u64 by decide),w1,w2,w3,w4,zal lh,zal ha,za5,e1,gh,ga,hN,hcall,zbJ hcal,h0]
    refine⟨j - ((i+j) / 2+1),by omega,(i+j) / 2+1,j,rfl,by omega,by omega,h3,fun h x1 x2=>hm _ _ x1 (by omega) (by omega) h0,h5,?_⟩
    rw[zam (by simp)]
  ·have hc:¬(i:Int)<(j:Int):=by omega
   obtain rfl:i=j:=by omega
   simp -dsimp -implicitDefEqProofs only[c56b11,c56b19,c56b33,c56b41,c56b62,c56r64,c56r65,c56k67,c56r68,c56k70,c56r71,c56k73,go_sem,seval,↓reduceIte,hc]
   exact h i h1 h3 h4 h5 _
theorem zsa(c:PV->PV->Int)(fv:AV)(D:PV->Prop)(hp:Heap)(r:Nat)(hg:CmpF c fv D hp r)(hr:r<hp.length)(xs:List PV)(N a m b mid n p i0 j0:Nat)(hN:xs.length=N)(hN':N<1000000000)(hj:j0<=N)(hp1:p<N+i0)(hp2:j0<=p+1)(hij:i0<=j0)(hD:∀h,h<N->D (at' xs h))
  (hm:∀h h',i0<=h'->h'<=h->h<j0->¬c (at' xs (p - h)) (at' xs h)<0->¬c (at' xs (p - h')) (at' xs h')<0)(hb:p<1000000000+1000000000)
  (fr:Fr)(Q:AExit->St->Prop)
  (hfr:fr.keep [0,1,2,3,4,18,19,20,21,22]=[(0,.sl none r N 0 N),(1,.pv none (.int .i64 a)),(2,.pv none (.int .i64 m)),(3,.pv none (.int .i64 b)),(4,fv),(18,.pv none (.int .i64 mid)),(19,.pv none (.int .i64 n)),(20,.pv none (.int .i64 i0)),(21,.pv none (.int .i64 j0)),(22,.pv none (.int .i64 p))])
  (h:∀k,i0<=k->k<=j0->(∀h,i0<=h->h<k->¬c (at' xs (p - h)) (at' xs h)<0)->(∀h,k<=h->h<j0->c (at' xs (p - h)) (at' xs h)<0)->
   ∀rest,Q (.exit 8) ⟨(0,.sl none r N 0 N)::(1,.pv none (.int .i64 a))::(2,.pv none (.int .i64 m))::(3,.pv none (.int .i64 b))::(4,fv)::(18,.pv none (.int .i64 mid))::(19,.pv none (.int .i64 n))::(20,.pv none (.int .i64 k))::rest,hp.set r (.arr none xs false)⟩):
  W Z L hp.length (.loop [0,1,2,3,4,18,19,20,21,22] c56b62) ⟨fr,hp.set r (.arr none xs false)⟩ Q:=by
 have e1:∀A,(hp.set r A)[r]? =some A:=fun A=>by simp[hr]
 refine zbB (fun k st=>∃i j:Nat,k=j - i/\i0<=i/\i<=j/\j<=j0/\(∀h,i0<=h->h<i->¬c (at' xs (p - h)) (at' xs h)<0)/\(∀h,j<=h->h<j0->c (at' xs (p - h)) (at' xs h)<0)/\
  st=⟨[(0,.sl none r N 0 N),(1,.pv none (.int .i64 a)),(2,.pv none (.int .i64 m)),(3,.pv none (.int .i64 b)),(4,fv),(18,.pv none (.int .i64 mid)),(19,.pv none (.int .i64 n)),(20,.pv none (.int .i64 i)),(21,.pv none (.int .i64 j)),(22,.pv none (.int .i64 p))],hp.set r (.arr none xs false)⟩) (n:=j0 - i0) ⟨i0,j0,rfl,by omega,hij,by omega,fun h h1 h2=>by omega,fun h h1 h2=>by omega,?_⟩ ?_
 ·rw[hfr]
 ·rintro k st ⟨i,j,hn,h1,h2,h3,h4,h5,rfl⟩
  by_cases hlt:i<j
  ·have hc:(i:Int)<(j:Int):=by omega
   have w1:IntKind.i64.wrap ((i:Int)+(j:Int))=((i+j:Nat):Int):=by rw[zah (by omega) (by omega)];omega
   have w2:IntKind.u64.wrap ((i+j:Nat):Int)=((i+j:Nat):Int):=zf3 (by omega) (by omega)
   have w3:IntKind.i64.wrap (((i+j:Nat):Int) / 2)=(((i+j) / 2:Nat):Int):=by rw[zah (by omega) (by omega)];omega
   have w4:IntKind.i64.wrap ((((i+j) / 2:Nat):Int)+1)=(((i+j) / 2+1:Nat):Int):=by rw[zah (by omega) (by omega)];omega
   have w5:IntKind.i64.wrap ((p:Int) - (((i+j) / 2:Nat):Int))=((p - (i+j) / 2:Nat):Int):=by rw[zah (by omega) (by omega)];omega
   have lh:(i+j) / 2<N:=by omega
   have lp:p - (i+j) / 2<N:=by omega
   have gh:=zer (xs:=xs) (i:=(i+j) / 2) (by omega)
   have ga:=zer (xs:=xs) (i:=p - (i+j) / 2) (by omega)
   obtain⟨g,fs,cs,hcal,hg'⟩:=hg
   have hcall:=hg' _ _ (hD _ lp) (hD _ lh)
   by_cases h0:c (at' xs (p - (i+j) / 2)) (at' xs ((i+j) / 2))<0
   ·simp -dsimp -implicitDefEqProofs only[c56b11,c56b19,c56b33,c56b41,c56b62,c56r64,c56r65,c56k67,c56r68,c56k70,c56r71,c56k73,go_sem,seval,↓reduceIte,hc,zfK (show 0<IntKind.bits .u64 by decide),w1,w2,w3,w4,w5,zal lh,zal lp,za5,e1,gh,ga,hN,hcall,zbJ hcal,h0]
    refine⟨(i+j) / 2 - i,by omega,i,(i+j) / 2,rfl,h1,by omega,by omega,h4,fun h x1 x2=>Classical.byContradiction fun x3=>hm _ _ (by omega) x1 x2 x3 h0,?_⟩
    rw[zam (by simp)]
   ·simp -dsimp -implicitDefEqProofs only[c56b11,c56b19,c56b33,c56b41,c56b62,c56r64,c56r65,c56k67,c56r68,c56k70,c56r71,c56k73,go_sem,seval,↓reduceIte,hc,zfK (show 0<IntKind.bits .u64 by decide),w1,w2,w3,w4,w5,zal lh,zal lp,za5,e1,gh,ga,hN,hcall,zbJ hcal,h0]
    refine⟨j - ((i+j) / 2+1),by omega,(i+j) / 2+1,j,rfl,by omega,by omega,h3,fun h x1 x2=>hm _ _ x1 (by omega) (by omega) h0,h5,?_⟩
    rw[zam (by simp)]
  ·have hc:¬(i:Int)<(j:Int):=by omega
   obtain rfl:i=j:=by omega
   simp -dsimp -implicitDefEqProofs only[c56b11,c56b19,c56b33,c56b41,c56b62,c56r64,c56r65,c56k67,c56r68,c56k70,c56r71,c56k73,go_sem,seval,↓reduceIte,hc]
   exact h i h1 h3 h4 h5 _

theorem zt6(hp:Heap)(r:Nat)(hr:r<hp.length)(N i a:Nat)(P B1 T:List PV)(x:PV)(hP:P.length=a)(hi:i=a+1+B1.length)(hN:N=(P++x::B1++T).length)(hN':N<1000000000)(fr:Fr)(Q:AExit->St->Prop)
  (hfr:fr.keep [0,10,13]=[(0,.sl none r N 0 N),(10,.pv none (.int .i64 i)),(13,.pv none (.int .i64 a))])
  (h:∀fr,Q (.exit 2) ⟨fr,hp.set r (.arr none (P++B1++x::T) false)⟩):
  W Z L hp.length (.loop [0,10,13] c56b19) ⟨fr,hp.set r (.arr none (P++x::B1++T) false)⟩ Q:=by
 have e1:∀A,(hp.set r A)[r]? =some A:=fun A=>by simp[hr]
 have hNl:N=P.length+B1.length+T.length+1:=by(rw[hN];simp <;> omega)
 have w0:IntKind.i64.wrap ((i:Int) - 1)=((a+B1.length:Nat):Int):=by rw[zah (by omega) (by omega)];omega
 refine zbB (fun k st=>∃(C1 C2:List PV),k=C2.length/\B1=C1++C2/\st=⟨[(0,.sl none r N 0 N),(10,.pv none (.int .i64 i)),(13,.pv none (.int .i64 ((a+C1.length:Nat):Int)))],hp.set r (.arr none (P++C1++x::C2++T) false)⟩) (n:=B1.length) ⟨[],B1,rfl,rfl,?_⟩ ?_
 ·rw[hfr]
  simp
 ·rintro k st ⟨C1,C2,hk,hB,rfl⟩
  have hBl:B1.length=C1.length+C2.length:=by rw[hB];simp
  have hlen:(P++C1++x::C2++T).length=N:=by(simp <;> omega)
  cases C2 with
  |nil=>
   have hc:¬((a+C1.length:Nat):Int)<((a+B1.length:Nat):Int):=by simp at hBl;omega
   simp -dsimp -implicitDefEqProofs only[c56b11,c56b19,c56b33,c56b41,c56b62,c56r64,c56r65,c56k67,c56r68,c56k70,c56r71,c56k73,go_sem,seval,↓reduceIte,hc,w0]
   rw[List.append_nil] at hB
   have e:P++C1++[x]++T=P++B1++x::T:=by rw[hB];simp
   rw[e]
   exact h _
  |cons y C2=>
   simp only[List.length_cons] at hBl hk
   have hc:((a+C1.length:Nat):Int)<((a+B1.length:Nat):Int):=by omega
   have w1:IntKind.i64.wrap (((a+C1.length:Nat):Int)+1)=((a+C1.length+1:Nat):Int):=by rw[zah (by omega) (by omega)];omega
   have la:a+C1.length<N:=by omega
   have lb:a+C1.length+1<N:=by omega
   have s1:P++C1++x::y::C2++T=(P++C1)++x::(y::C2++T):=by simp
   have s2:P++C1++x::y::C2++T=(P++C1++[x])++y::(C2++T):=by simp
   have g1:(P++C1++x::y::C2++T)[a+C1.length]? =some x:=by rw[s1];exact zdJ (by simp;omega)
   have g2:(P++C1++x::y::C2++T)[a+C1.length+1]? =some y:=by rw[s2];exact zdJ (by simp;omega)
   have g3:((P++C1++x::y::C2++T).set (a+C1.length) y).set (a+C1.length+1) x=P++(C1++[y])++x::C2++T:=by
    rw[s1,zdK (by simp;omega)]
    have s3:(P++C1)++y::(y::C2++T)=(P++C1++[y])++y::(C2++T):=by simp
    rw[s3,zdK (by simp;omega)]
    simp
   generalize hxs:P++C1++x::y::C2++T=xs at g1 g2 g3 hlen ⊢
   simp -dsimp -implicitDefEqProofs only[c56b11,c56b19,c56b33,c56b41,c56b62,c56r64,c56r65,c56k67,c56r68,c56k70,c56r71,c56k73,go_sem,seval,↓reduceIte,hc,w0,w1,zal la,zal lb,za5,zbZ,e1,g1,g2,hlen,List.length_set,List.set_set,la,lb,g3]
   refine⟨C2.length,by omega,C1++[y],C2,rfl,by rw[hB];simp,?_⟩
   rw[zam (by simp)]
   simp
   rfl
theorem zt7(hp:Heap)(r:Nat)(hr:r<hp.length)(N i m:Nat)(P A2 T:List PV)(y:PV)(hP:P.length=i)(hi:m=i+A2.length)(hN:N=(P++A2++y::T).length)(hN':N<1000000000)(fr:Fr)(Q:AExit->St->Prop)
  (hfr:fr.keep [0,14,17]=[(0,.sl none r N 0 N),(14,.pv none (.int .i64 i)),(17,.pv none (.int .i64 m))])
  (h:∀fr,Q (.exit 6) ⟨fr,hp.set r (.arr none (P++y::A2++T) false)⟩):
  W Z L hp.length (.loop [0,14,17] c56b41) ⟨fr,hp.set r (.arr none (P++A2++y::T) false)⟩ Q:=by
 have e1:∀A,(hp.set r A)[r]? =some A:=fun A=>by simp[hr]
 have hNl:N=P.length+A2.length+T.length+1:=by(rw[hN];simp <;> omega)
 refine zbB (fun k st=>∃(C1 C2:List PV),k=C1.length/\A2=C1++C2/\st=⟨[(0,.sl none r N 0 N),(14,.pv none (.int .i64 i)),(17,.pv none (.int .i64 ((i+C1.length:Nat):Int)))],hp.set r (.arr none (P++C1++y::C2++T) false)⟩) (n:=A2.length) ⟨A2,[],rfl,by simp,?_⟩ ?_
 ·rw[hfr,hi]
  simp
 ·rintro k st ⟨C1,C2,hk,hB,rfl⟩
  have hBl:A2.length=C1.length+C2.length:=by rw[hB];simp
  have hlen:(P++C1++y::C2++T).length=N:=by(simp <;> omega)
  rcases zeq C1 with rfl|⟨C3,x,rfl⟩
  ·have hc:¬((i:Nat):Int)<((i+([]:List PV).length:Nat):Int):=by simp
   simp -dsimp -implicitDefEqProofs only[c56b11,c56b19,c56b33,c56b41,c56b62,c56r64,c56r65,c56k67,c56r68,c56k70,c56r71,c56k73,go_sem,seval,↓reduceIte,hc,Int.lt_irrefl]
   rw[List.nil_append] at hB
   have e:P++[]++y::C2++T=P++y::A2++T:=by rw[hB];simp
   rw[e]
   exact h _
  ·have hxl:(C3++[x]).length=C3.length+1:=by simp
   have hc:((i:Nat):Int)<((i+(C3++[x]).length:Nat):Int):=by rw[hxl];omega
   have w1:IntKind.i64.wrap (((i+(C3++[x]).length:Nat):Int) - 1)=((i+C3.length:Nat):Int):=by rw[zah (by omega) (by omega)];omega
   have la:i+(C3++[x]).length<N:=by omega
   have lb:i+C3.length<N:=by omega
   have s1:P++(C3++[x])++y::C2++T=(P++(C3++[x]))++y::(C2++T):=by simp
   have s2:P++(C3++[x])++y::C2++T=(P++C3)++x::(y::C2++T):=by simp
   have g1:(P++(C3++[x])++y::C2++T)[i+(C3++[x]).length]? =some y:=by rw[s1];exact zdJ (by simp;omega)
   have g2:(P++(C3++[x])++y::C2++T)[i+C3.length]? =some x:=by rw[s2];exact zdJ (by simp;omega)
   have g3:((P++(C3++[x])++y::C2++T).set (i+(C3++[x]).length) x).set (i+C3.length) y=P++C3++y::(x::C2)++T:=by
    rw[s1,zdK (by simp;omega)]
    have s3:(P++(C3++[x]))++x::(C2++T)=(P++C3)++x::(x::C2++T):=by simp
    rw[s3,zdK (by simp;omega)]
    simp
   generalize hxs:P++(C3++[x])++y::C2++T=xs at g1 g2 g3 hlen ⊢
   simp -dsimp -implicitDefEqProofs only[c56b11,c56b19,c56b33,c56b41,c56b62,c56r64,c56r65,c56k67,c56r68,c56k70,c56r71,c56k73,go_sem,seval,↓reduceIte,hc,w1,zal la,zal lb,za5,zbZ,e1,g1,g2,hlen,List.length_set,List.set_set,la,lb,g3]
   refine⟨C3.length,by omega,C3,x::C2,rfl,by rw[hB];simp,?_⟩
   rw[zam (by simp)]

set_option maxHeartbeats 4000000 in
theorem zsb(c:PV->PV->Int)(hC:Cmp c)(fv:AV)(D:PV->Prop)(hp:Heap)(r:Nat)(hg:CmpF c fv D hp r)(hr:r<hp.length)(N:Nat)(hN':N<100000000):∀(d a m b:Nat) (P A B R:List PV),b - a<=d->P.length=a->m=a+A.length->b=m+B.length->N=(P++A++B++R).length->0<A.length->0<B.length->Srt c A->Srt c B->(∀x∈P++A++B++R,D x)->
  S 56 [.sl none r N 0 N,.pv none (.int .i64 a),.pv none (.int .i64 m),.pv none (.int .i64 b),fv] (hp.set r (.arr none (P++A++B++R) false))=some (.ret (.tuple []),hp.set r (.arr none (P++mrg c A B++R) false)):=by
 intro d
 induction d with
 |zero=>intro a m b P A B R hd hP hm hb hN hA hB;omega
 |succ d ih=>
  intro a m b P A B R hd hP hm hb hN hA hB sA sB hD
  have hNl:N=P.length+A.length+B.length+R.length:=by(rw[hN];simp <;> omega)
  have hDat:∀h,h<N->D (at' (P++A++B++R) h):=fun h hh=>hD _ (ztw (by omega))
  have hsl:(hp.set r (.arr none (P++A++B++R) false)).length=hp.length:=by simp
  have w1:IntKind.i64.wrap ((m:Int) - (a:Int))=((A.length:Nat):Int):=by rw[zah (by omega) (by omega)];omega
  have w2:IntKind.i64.wrap ((b:Int) - (m:Int))=((B.length:Nat):Int):=by rw[zah (by omega) (by omega)];omega
  have atA:∀k,k<A.length->at' (P++A++B++R) (a+k)=at' A k:=fun k hk=>by
   have:=zr1 (P:=P) (A:=A) (R:=B++R) hP hk
   rwa [<-List.append_assoc] at this
  have atB:∀k,k<B.length->at' (P++A++B++R) (m+k)=at' B k:=fun k hk=>zr1 (P:=P++A) (A:=B) (R:=R) (by simp;omega) hk
  refine zaI rfl rfl rfl rfl ?_
  rw[hsl]
  by_cases hA1:A.length=1
  ·obtain⟨x,rfl⟩:∃x,A=[x]:=List.length_eq_one_iff.1 hA1
   have hc1:((1:Nat):Int)=1:=rfl
   simp -dsimp -implicitDefEqProofs only[c56b33,c56b41,c56b62,c56r64,c56r65,c56k67,c56r68,c56k70,c56r71,c56k73,go_sem,seval,↓reduceIte,w1,hc1]
   refine ztG c fv D hp r hg hr _ N a m b hN.symm (by omega) (by omega) (by omega) (by omega) hDat (fun h h' h1 h2 h3 h4=> ?_) _ _ rfl fun k k1 k2 k3 k4 rest=> ?_
   ·have e1:=atB (h - m) (by omega)
    have e2:=atB (h' - m) (by omega)
    rw[show m+(h - m)=h by omega] at e1
    rw[show m+(h' - m)=h' by omega] at e2
    rw[e1] at h4
    rw[e2]
    exact hC.lt_of_le_lt (zcD hC sB (by omega) (by omega)) h4
   ·have e0:=atA 0 (by simp)
    rw[Nat.add_zero] at e0
    have e0':at' [x] 0=x:=rfl
    rw[e0'] at e0
    rw[e0] at k3 k4
    simp -dsimp -implicitDefEqProofs only[c56b33,c56b41,c56b62,c56r64,c56r65,c56k67,c56r68,c56k70,c56r71,c56k73,go_sem,seval,↓reduceIte]
    have hsplit:P++[x]++B++R=P++x::(B.take (k - m))++(B.drop (k - m)++R):=by
     rw[show P++[x]++B++R=P++[x]++(B.take (k - m)++B.drop (k - m))++R by rw[List.take_append_drop]]
     simp only[List.append_assoc,List.cons_append,List.nil_append]
    have hmr:mrg c [x] B=B.take (k - m)++x::B.drop (k - m):=by
     have h1:=zdH hC (A:=[]) (U:=[x]) (V:=B.take (k - m)) (B:=B.drop (k - m)) (fun _ h=>by simp at h) (fun u hu v hv=>by
      simp at hu;subst hu
      obtain⟨i,hi,rfl⟩:=zdp hv
      simp at hi
      rw[zfq (by omega)]
      have:=k3 (m+i) (by omega) (by omega)
      rwa [atB i (by omega)] at this)
     have h2:mrg c [x] (B.drop (k - m))=x::B.drop (k - m):=zfp hC (A:=[x]) fun u hu v hv=>by
      simp at hu;subst hu
      obtain⟨i,hi,rfl⟩:=zdp hv
      simp at hi
      rw[zfr]
      have:=k4 (k+i) (by omega) (by omega)
      have e:=atB (k - m+i) (by omega)
      rw[show m+(k - m+i)=k+i by omega] at e
      rw[e] at this
      have:=hC.neg u (at' B (k - m+i))
      omega
     rw[List.take_append_drop,List.nil_append,zep,h2] at h1
     exact h1
    rw[hsplit]
    refine zt6 hp r hr N k a P (B.take (k - m)) (B.drop (k - m)++R) x hP (by simp at hm ⊢;omega) (by rw[<-hsplit];exact hN) (by omega) _ _ rfl fun fr=> ?_
    simp -dsimp -implicitDefEqProofs only[c56b33,c56b41,c56b62,c56r64,c56r65,c56k67,c56r68,c56k70,c56r71,c56k73,go_sem,seval,↓reduceIte]
    rw[List.take_of_length_le (by simp),hmr]
    simp
  ·have hA1':¬((A.length:Nat):Int)=1:=by omega
   by_cases hB1:B.length=1
   ·obtain⟨y,rfl⟩:∃y,B=[y]:=List.length_eq_one_iff.1 hB1
    have hc1:((1:Nat):Int)=1:=rfl
    simp -dsimp -implicitDefEqProofs only[c56b11,c56b19,c56b62,c56r64,c56r65,c56k67,c56r68,c56k70,c56r71,c56k73,go_sem,seval,↓reduceIte,w1,w2,hA1',hc1]
    have e0:=atB 0 (by simp)
    rw[Nat.add_zero] at e0
    have e0':at' [y] 0=y:=rfl
    rw[e0'] at e0
    refine ztH c fv D hp r hg hr _ N m a m hN.symm (by omega) (by simp at hNl;omega) (by omega) (by omega) hDat (fun h h' h1 h2 h3 h4=> ?_) _ _ rfl fun k k1 k2 k3 k4 rest=> ?_
    ·have e1:=atA (h - a) (by omega)
     have e2:=atA (h' - a) (by omega)
     rw[show a+(h - a)=h by omega] at e1
     rw[show a+(h' - a)=h' by omega] at e2
     rw[e1] at h4
     rw[e2]
     intro h5
     exact h4 (hC.lt_of_lt_le h5 (zcD hC sA (by omega) (by omega)))
    ·rw[e0] at k3 k4
     simp -dsimp -implicitDefEqProofs only[c56b11,c56b19,c56b62,c56r64,c56r65,c56k67,c56r68,c56k70,c56r71,c56k73,go_sem,seval,↓reduceIte]
     have hsplit:P++A++[y]++R=(P++A.take (k - a))++A.drop (k - a)++y::R:=by
      rw[show P++A++[y]++R=P++(A.take (k - a)++A.drop (k - a))++[y]++R by rw[List.take_append_drop]]
      simp only[List.append_assoc,List.cons_append,List.nil_append]
     have hmr:mrg c A [y]=A.take (k - a)++y::A.drop (k - a):=by
      have h1:=zdH hC (A:=A.take (k - a)) (U:=A.drop (k - a)) (V:=[y]) (B:=[]) (fun _ _ _ h=>by simp at h) (fun u hu v hv=>by
       simp at hv;subst hv
       obtain⟨i,hi,rfl⟩:=zdp hu
       simp at hi
       rw[zfr]
       have:=k4 (k+i) (by omega) (by omega)
       have e:=atA (k - a+i) (by omega)
       rw[show a+(k - a+i)=k+i by omega] at e
       rwa [e] at this)
      have h2:mrg c (A.take (k - a)) [y]=A.take (k - a)++[y]:=zfp hC fun u hu v hv=>by
       simp at hv;subst hv
       obtain⟨i,hi,rfl⟩:=zdp hu
       simp at hi
       rw[zfq (by omega)]
       have:=k3 (a+i) (by omega) (by omega)
       rw[atA i (by omega)] at this
       have:=hC.neg (at' A i) v
       omega
      rw[List.take_append_drop,List.append_nil,zas,h2] at h1
      rw[h1]
      simp
     rw[hsplit]
     refine zt7 hp r hr N k m (P++A.take (k - a)) (A.drop (k - a)) R y (by simp;omega) (by simp;omega) (by rw[<-hsplit];exact hN) (by omega) _ _ rfl fun fr=> ?_
     simp -dsimp -implicitDefEqProofs only[c56b11,c56b19,c56b62,c56r64,c56r65,c56k67,c56r68,c56k70,c56r71,c56k73,go_sem,seval,↓reduceIte]
     rw[List.take_of_length_le (by simp),hmr]
     simp
   ·have hB1':¬((B.length:Nat):Int)=1:=by omega
    have w3:IntKind.i64.wrap ((a:Int)+(b:Int))=((a+b:Nat):Int):=by rw[zah (by omega) (by omega)];omega
    have w4:IntKind.u64.wrap ((a+b:Nat):Int)=((a+b:Nat):Int):=zf3 (by omega) (by omega)
    have w5:IntKind.i64.wrap (((a+b:Nat):Int) / 2)=(((a+b) / 2:Nat):Int):=by rw[zah (by omega) (by omega)];omega
    generalize hmid:(a+b) / 2=mid at w5
    have w6:IntKind.i64.wrap ((mid:Int)+(m:Int))=((mid+m:Nat):Int):=by rw[zah (by omega) (by omega)];omega
    have w7:IntKind.i64.wrap (((mid+m:Nat):Int) - 1)=((mid+m - 1:Nat):Int):=by rw[zah (by omega) (by omega)];omega
    have hm1:a<=mid:=by omega
    have hm2:mid<b:=by omega
    have tail:∀(k:Nat) (rest:Fr) (Q:AExit->St->Prop),a<=k->k<=m->k<=mid->mid+m - k<=b->(∀x∈A.take (k - a),∀y∈B.drop (mid - k),c x y<=0)->(∀u∈A.drop (k - a),∀v∈B.take (mid - k),c v u<0)->
      (∀fr,Q .normal ⟨fr,hp.set r (.arr none (P++mrg c A B++R) false)⟩)->
      W Z L hp.length (.seq (.region true c56r64 [0,1,2,3,4,18,20,24]) (.seq (.seq (.region true c56r65 [0,1,2,3,4,18,20,24,185]) c56k67) (.seq (.seq (.region true c56r68 [0,1,3,4,18,20,24,199]) c56k70) (.seq (.region true c56r71 [0,3,4,18,24,213]) c56k73))))
       ⟨(0,.sl none r N 0 N)::(1,.pv none (.int .i64 a))::(2,.pv none (.int .i64 m))::(3,.pv none (.int .i64 b))::(4,fv)::(18,.pv none (.int .i64 mid))::(19,.pv none (.int .i64 ((mid+m:Nat):Int)))::(20,.pv none (.int .i64 k))::rest,hp.set r (.arr none (P++A++B++R) false)⟩ Q:=by
     intro k rest Q k1 k2 k3 k4 f1 f2 hQ
     have w8:IntKind.i64.wrap (((mid+m:Nat):Int) - (k:Int))=((mid+m - k:Nat):Int):=by rw[zah (by omega) (by omega)];omega
     have lA1:(A.take (k - a)).length=k - a:=by(simp <;> omega)
     have lU:(A.drop (k - a)).length=m - k:=by(simp <;> omega)
     have lV:(B.take (mid - k)).length=mid - k:=by(simp <;> omega)
     have lB2:(B.drop (mid - k)).length=b - (mid+m - k):=by(simp <;> omega)
     have hmr:=zdH hC f1 f2
     rw[List.take_append_drop,List.take_append_drop] at hmr
     have hdat:P++A++B++R=(P++A.take (k - a))++A.drop (k - a)++B.take (mid - k)++(B.drop (mid - k)++R):=by
      rw[show P++A++B++R=P++(A.take (k - a)++A.drop (k - a))++(B.take (mid - k)++B.drop (mid - k))++R by rw[List.take_append_drop,List.take_append_drop]]
      simp only[List.append_assoc]
     have sA1:Srt c (A.take (k - a)):=sA.sublist (List.take_sublist _ _)
     have sU:Srt c (A.drop (k - a)):=sA.sublist (List.drop_sublist _ _)
     have sV:Srt c (B.take (mid - k)):=sB.sublist (List.take_sublist _ _)
     have sB2:Srt c (B.drop (mid - k)):=sB.sublist (List.drop_sublist _ _)
     rw[hdat] at hN hD ⊢
     rw[hmr] at hQ
     generalize A.take (k - a)=A1 at*
     generalize A.drop (k - a)=U at*
     generalize B.take (mid - k)=V at*
     generalize B.drop (mid - k)=B2 at*
     have hrot:=zqg (fv) hp r hr k m (mid+m - k) N (P++A1) U V (B2++R) (by simp;omega) (by omega) (by omega) hN (by omega)
     refine zsM (fun st=>st=⟨[(0,.sl none r N 0 N),(1,.pv none (.int .i64 a)),(2,.pv none (.int .i64 m)),(3,.pv none (.int .i64 b)),(4,fv),(18,.pv none (.int .i64 mid)),(20,.pv none (.int .i64 k)),(24,.pv none (.int .i64 ((mid+m - k:Nat):Int)))],hp.set r (.arr none (P++A1++U++V++(B2++R)) false)⟩) ?_ ?_
     ·simp -dsimp -implicitDefEqProofs only[c56b11,c56b19,c56b33,c56b41,c56b62,c56r64,c56r65,c56k67,c56r68,c56k70,c56r71,c56k73,go_sem,seval,↓reduceIte,w8]
     rintro _ rfl
     refine zsM (fun st=>st.hp=hp.set r (.arr none (P++A1++V++U++(B2++R)) false)/\st.fr.look 0=some (.sl none r N 0 N)/\st.fr.look 1=some (.pv none (.int .i64 a))/\st.fr.look 3=some (.pv none (.int .i64 b))/\st.fr.look 4=some (fv)/\st.fr.look 18=some (.pv none (.int .i64 mid))/\st.fr.look 20=some (.pv none (.int .i64 k))/\st.fr.look 24=some (.pv none (.int .i64 ((mid+m - k:Nat):Int)))) ?_ ?_
     ·by_cases hU:k<m
      ·have hc1:(k:Int)<(m:Int):=by omega
       by_cases hV:m<mid+m - k
       ·have hc2:(m:Int)<((mid+m - k:Nat):Int):=by omega
        have hrot':=hrot (by omega) (by omega)
        simp -dsimp -implicitDefEqProofs only[c56b11,c56b19,c56b33,c56b41,c56b62,c56r64,c56r65,c56k67,c56r68,c56k70,c56r71,c56k73,go_sem,seval,↓reduceIte,hc1,hc2,hrot']
       ·have hc2:¬(m:Int)<((mid+m - k:Nat):Int):=by omega
        have hV0:V=[]:=List.length_eq_zero_iff.1 (by omega)
        subst hV0
        simp -dsimp -implicitDefEqProofs only[c56b11,c56b19,c56b33,c56b41,c56b62,c56r64,c56r65,c56k67,c56r68,c56k70,c56r71,c56k73,go_sem,seval,↓reduceIte,hc1,hc2,List.append_nil]
      ·have hc1:¬(k:Int)<(m:Int):=by omega
       have hU0:U=[]:=List.length_eq_zero_iff.1 (by omega)
       subst hU0
       simp -dsimp -implicitDefEqProofs only[c56b11,c56b19,c56b33,c56b41,c56b62,c56r64,c56r65,c56k67,c56r68,c56k70,c56r71,c56k73,go_sem,seval,↓reduceIte,hc1,List.append_nil]
     rintro⟨fr1,hp1⟩ ⟨x1,x2,x3,x4,x5,x6,x7,x8⟩
     simp only at x1 x2 x3 x4 x5 x6 x7 x8
     subst x1
     refine zsM (fun st=>st.hp=hp.set r (.arr none (P++mrg c A1 V++U++(B2++R)) false)/\st.fr.look 0=some (.sl none r N 0 N)/\st.fr.look 3=some (.pv none (.int .i64 b))/\st.fr.look 4=some (fv)/\st.fr.look 18=some (.pv none (.int .i64 mid))/\st.fr.look 24=some (.pv none (.int .i64 ((mid+m - k:Nat):Int)))) ?_ ?_
     ·by_cases hA1:a<k
      ·have hc1:(a:Int)<(k:Int):=by omega
       by_cases hV:k<mid
       ·have hc2:(k:Int)<(mid:Int):=by omega
        have hih:=ih a k mid P A1 V (U++(B2++R)) (by omega) hP (by omega) (by omega) (by rw[hN];simp;omega) (by omega) (by omega) sA1 sV (fun x hx=>hD x (by simp at hx ⊢;rcases hx with h|h|h|h|h|h <;> simp[h]))
        have e0:P++A1++V++(U++(B2++R))=P++A1++V++U++(B2++R):=by simp
        have e1:P++mrg c A1 V++(U++(B2++R))=P++mrg c A1 V++U++(B2++R):=by simp
        rw[e0,e1] at hih
        simp -dsimp -implicitDefEqProofs only[c56b11,c56b19,c56b33,c56b41,c56b62,c56r64,c56r65,c56k67,c56r68,c56k70,c56r71,c56k73,go_sem,seval,↓reduceIte,hc1,hc2,x2,x3,x4,x5,x6,x7,x8,hih]
       ·have hc2:¬(k:Int)<(mid:Int):=by omega
        have hV0:V=[]:=List.length_eq_zero_iff.1 (by omega)
        subst hV0
        simp -dsimp -implicitDefEqProofs only[c56b11,c56b19,c56b33,c56b41,c56b62,c56r64,c56r65,c56k67,c56r68,c56k70,c56r71,c56k73,go_sem,seval,↓reduceIte,hc1,hc2,x2,x3,x4,x5,x6,x7,x8,List.append_nil,zas]
      ·have hc1:¬(a:Int)<(k:Int):=by omega
       have hA0:A1=[]:=List.length_eq_zero_iff.1 (by omega)
       subst hA0
       simp -dsimp -implicitDefEqProofs only[c56b11,c56b19,c56b33,c56b41,c56b62,c56r64,c56r65,c56k67,c56r68,c56k70,c56r71,c56k73,go_sem,seval,↓reduceIte,hc1,x2,x3,x4,x5,x6,x7,x8,List.append_nil,zep]
     rintro⟨fr2,hp2⟩ ⟨y1,y2,y4,y5,y6,y8⟩
     simp only at y1 y2 y4 y5 y6 y8
     subst y1
     have hml:(mrg c A1 V).length=A1.length+V.length:=zhC A1 V
     by_cases hU:mid<mid+m - k
     ·have hc1:(mid:Int)<((mid+m - k:Nat):Int):=by omega
      by_cases hB2:mid+m - k<b
      ·have hc2:((mid+m - k:Nat):Int)<(b:Int):=by omega
       have hih:=ih mid (mid+m - k) b (P++mrg c A1 V) U B2 R (by omega) (by simp[hml];omega) (by omega) (by omega) (by rw[hN];simp[hml];omega) (by omega) (by omega) sU sB2 (fun x hx=>hD x (by
        simp only[List.mem_append,mem_mrg] at hx ⊢
        rcases hx with(((h|h|h)|h)|h)|h <;> simp[h]))
       have e0:P++mrg c A1 V++U++(B2++R)=P++mrg c A1 V++U++B2++R:=by simp
       have e1:P++mrg c A1 V++mrg c U B2++R=P++(mrg c A1 V++mrg c U B2)++R:=by simp
       rw[e1] at hih
       rw[e0]
       simp -dsimp -implicitDefEqProofs only[c56b11,c56b19,c56b33,c56b41,c56b62,c56r64,c56r65,c56k67,c56r68,c56k70,c56r71,c56k73,go_sem,seval,↓reduceIte,hc1,hc2,y2,y4,y5,y6,y8,hih]
       exact hQ _
      ·have hc2:¬((mid+m - k:Nat):Int)<(b:Int):=by omega
       have hB0:B2=[]:=List.length_eq_zero_iff.1 (by omega)
       subst hB0
       simp -dsimp -implicitDefEqProofs only[c56b11,c56b19,c56b33,c56b41,c56b62,c56r64,c56r65,c56k67,c56r68,c56k70,c56r71,c56k73,go_sem,seval,↓reduceIte,hc1,hc2,y2,y4,y5,y6,y8]
       have hQ:=hQ
       rw[zas] at hQ
       have e0:P++mrg c A1 V++U++R=P++(mrg c A1 V++U)++R:=by simp
       rw[e0]
       exact hQ _
     ·have hc1:¬(mid:Int)<((mid+m - k:Nat):Int):=by omega
      have hU0:U=[]:=List.length_eq_zero_iff.1 (by omega)
      subst hU0
      simp -dsimp -implicitDefEqProofs only[c56b11,c56b19,c56b33,c56b41,c56b62,c56r64,c56r65,c56k67,c56r68,c56k70,c56r71,c56k73,go_sem,seval,↓reduceIte,hc1,y2,y4,y5,y6,y8]
      have hQ:=hQ
      rw[zep] at hQ
      have e0:P++mrg c A1 V++[]++(B2++R)=P++(mrg c A1 V++B2)++R:=by simp
      rw[e0]
      exact hQ _
    by_cases hmm:mid<m
    ·skip
     have hc:(mid:Int)<(m:Int):=by omega
     have w9:IntKind.i64.wrap (((mid+m:Nat):Int) - (b:Int))=((mid+m - b:Nat):Int):=by rw[zah (by omega) (by omega)];omega
     simp -dsimp -implicitDefEqProofs only[c56b11,c56b19,c56b33,c56b41,go_sem,seval,↓reduceIte,w1,w2,hA1',hB1',w3,w4,zfK (show 0<IntKind.bits .u64 by decide),hmid,w5,w6,w7,hc,w9]
     refine zsa c fv D hp r hg hr _ N a m b mid (mid+m) (mid+m - 1) (mid+m - b) mid hN.symm (by omega) (by omega) (by omega) (by omega) (by omega) hDat (fun h h' h1 h2 h3 h4=> ?_) (by omega) _ _ rfl fun k k1 k2 k3 k4 rest=> ?_
     ·have e1:=atA (h - a) (by omega)
      have e2:=atA (h' - a) (by omega)
      have e3:=atB (mid+m - 1 - h - m) (by omega)
      have e4:=atB (mid+m - 1 - h' - m) (by omega)
      rw[show a+(h - a)=h by omega] at e1
      rw[show a+(h' - a)=h' by omega] at e2
      rw[show m+(mid+m - 1 - h - m)=mid+m - 1 - h by omega] at e3
      rw[show m+(mid+m - 1 - h' - m)=mid+m - 1 - h' by omega] at e4
      rw[e1,e3] at h4
      rw[e2,e4]
      have s1:c (at' A (h' - a)) (at' A (h - a))<=0:=zcD hC sA (by omega) (by omega)
      have s2:c (at' B (mid+m - 1 - h - m)) (at' B (mid+m - 1 - h' - m))<=0:=zcD hC sB (by omega) (by omega)
      intro h5
      exact h4 (hC.lt_of_le_lt s2 (hC.lt_of_lt_le h5 s1))
     ·simp -dsimp -implicitDefEqProofs only[go_sem,seval,↓reduceIte]
      refine tail k rest _ (by omega) (by omega) (by omega) (by omega) ?_ ?_ fun fr=> ?_
      ·intro x hx y hy
       obtain⟨i,hi,rfl⟩:=zdp hx
       obtain⟨j,hj,rfl⟩:=zdp hy
       simp at hi hj
       rw[zfq (by omega),zfr]
       have h1:=k3 (k - 1) (by omega) (by omega)
       have e1:=atA (k - 1 - a) (by omega)
       have e3:=atB (mid - k) (by omega)
       rw[show a+(k - 1 - a)=k - 1 by omega] at e1
       rw[show m+(mid - k)=mid+m - 1 - (k - 1) by omega] at e3
       rw[e1,e3] at h1
       have s1:c (at' A i) (at' A (k - 1 - a))<=0:=zcD hC sA (by omega) (by omega)
       have s2:c (at' B (mid - k)) (at' B (mid - k+j))<=0:=zcD hC sB (by omega) (by omega)
       have s3:c (at' A (k - 1 - a)) (at' B (mid - k))<=0:=by have:=hC.neg (at' A (k - 1 - a)) (at' B (mid - k));omega
       exact hC.trans (hC.trans s1 s3) s2
      ·intro u hu v hv
       obtain⟨i,hi,rfl⟩:=zdp hu
       obtain⟨j,hj,rfl⟩:=zdp hv
       simp at hi hj
       rw[zfq (by omega),zfr]
       have h1:=k4 k (by omega) (by omega)
       have e1:=atA (k - a) (by omega)
       have e3:=atB (mid - 1 - k) (by omega)
       rw[show a+(k - a)=k by omega] at e1
       rw[show m+(mid - 1 - k)=mid+m - 1 - k by omega] at e3
       rw[e1,e3] at h1
       have s1:c (at' A (k - a)) (at' A (k - a+i))<=0:=zcD hC sA (by omega) (by omega)
       have s2:c (at' B j) (at' B (mid - 1 - k))<=0:=zcD hC sB (by omega) (by omega)
       exact hC.lt_of_le_lt s2 (hC.lt_of_lt_le h1 s1)
      ·simp -dsimp -implicitDefEqProofs only[g56,go_sem,seval,↓reduceIte]
       rw[List.take_of_length_le (by simp)]
    ·skip
     have hc:¬(mid:Int)<(m:Int):=by omega
     simp -dsimp -implicitDefEqProofs only[c56b11,c56b19,c56b33,c56b41,go_sem,seval,↓reduceIte,w1,w2,hA1',hB1',w3,w4,zfK (show 0<IntKind.bits .u64 by decide),hmid,w5,w6,w7,hc]
     refine zsa c fv D hp r hg hr _ N a m b mid (mid+m) (mid+m - 1) a m hN.symm (by omega) (by omega) (by omega) (by omega) (by omega) hDat (fun h h' h1 h2 h3 h4=> ?_) (by omega) _ _ rfl fun k k1 k2 k3 k4 rest=> ?_
     ·have e1:=atA (h - a) (by omega)
      have e2:=atA (h' - a) (by omega)
      have e3:=atB (mid+m - 1 - h - m) (by omega)
      have e4:=atB (mid+m - 1 - h' - m) (by omega)
      rw[show a+(h - a)=h by omega] at e1
      rw[show a+(h' - a)=h' by omega] at e2
      rw[show m+(mid+m - 1 - h - m)=mid+m - 1 - h by omega] at e3
      rw[show m+(mid+m - 1 - h' - m)=mid+m - 1 - h' by omega] at e4
      rw[e1,e3] at h4
      rw[e2,e4]
      have s1:c (at' A (h' - a)) (at' A (h - a))<=0:=zcD hC sA (by omega) (by omega)
      have s2:c (at' B (mid+m - 1 - h - m)) (at' B (mid+m - 1 - h' - m))<=0:=zcD hC sB (by omega) (by omega)
      intro h5
      exact h4 (hC.lt_of_le_lt s2 (hC.lt_of_lt_le h5 s1))
     ·simp -dsimp -implicitDefEqProofs only[go_sem,seval,↓reduceIte]
      refine tail k rest _ (by omega) (by omega) (by omega) (by omega) ?_ ?_ fun fr=> ?_
      ·intro x hx y hy
       obtain⟨i,hi,rfl⟩:=zdp hx
       obtain⟨j,hj,rfl⟩:=zdp hy
       simp at hi hj
       rw[zfq (by omega),zfr]
       have h1:=k3 (k - 1) (by omega) (by omega)
       have e1:=atA (k - 1 - a) (by omega)
       have e3:=atB (mid - k) (by omega)
       rw[show a+(k - 1 - a)=k - 1 by omega] at e1
       rw[show m+(mid - k)=mid+m - 1 - (k - 1) by omega] at e3
       rw[e1,e3] at h1
       have s1:c (at' A i) (at' A (k - 1 - a))<=0:=zcD hC sA (by omega) (by omega)
       have s2:c (at' B (mid - k)) (at' B (mid - k+j))<=0:=zcD hC sB (by omega) (by omega)
       have s3:c (at' A (k - 1 - a)) (at' B (mid - k))<=0:=by have:=hC.neg (at' A (k - 1 - a)) (at' B (mid - k));omega
       exact hC.trans (hC.trans s1 s3) s2
      ·intro u hu v hv
       obtain⟨i,hi,rfl⟩:=zdp hu
       obtain⟨j,hj,rfl⟩:=zdp hv
       simp at hi hj
       rw[zfq (by omega),zfr]
       have h1:=k4 k (by omega) (by omega)
       have e1:=atA (k - a) (by omega)
       have e3:=atB (mid - 1 - k) (by omega)
       rw[show a+(k - a)=k by omega] at e1
       rw[show m+(mid - 1 - k)=mid+m - 1 - k by omega] at e3
       rw[e1,e3] at h1
       have s1:c (at' A (k - a)) (at' A (k - a+i))<=0:=zcD hC sA (by omega) (by omega)
       have s2:c (at' B j) (at' B (mid - 1 - k))<=0:=zcD hC sB (by omega) (by omega)
       exact hC.lt_of_le_lt s2 (hC.lt_of_lt_le h1 s1)
      ·simp -dsimp -implicitDefEqProofs only[g56,go_sem,seval,↓reduceIte]
       rw[List.take_of_length_le (by simp)]
section
variable(c:PV->PV->Int) (hC:Cmp c) (fv:AV) (D:PV->Prop) (hp:Heap) (r:Nat) (hg:CmpF c fv D hp r) (hr:r<hp.length) (N:Nat) (hN':N<100000000)
include hC hg hr hN'
theorem zqf(xs:List PV)(hN:N=xs.length)(hD:∀x∈xs,D x):
  S 44 [.sl none r N 0 N,.pv none (.int .i64 N),fv] (hp.set r (.arr none xs false))=some (.ret (.tuple []),hp.set r (.arr none (isort c xs) false)):=by
 have hsl:(hp.set r (.arr none xs false)).length=hp.length:=by simp
 refine zaI rfl rfl rfl rfl ?_
 rw[hsl]
 simp -dsimp -implicitDefEqProofs only[go_sem,seval,↓reduceIte]
 /- the blocks -/
 refine zbB (fun n st=>∃(a:Nat) (Z:List PV),n=N - a/\a<=N/\Full c 20 (xs.take a) Z/\st=⟨[(0,.sl none r N 0 N),(1,.pv none (.int .i64 N)),(2,fv),(6,.pv none (.int .i64 20)),(7,.pv none (.int .i64 a)),(8,.pv none (.int .i64 ((a+20:Nat):Int)))],hp.set r (.arr none (Z++xs.drop a) false)⟩) (n:=N) ⟨0,[],rfl,Nat.zero_le _,.nil,?_⟩ ?_
 ·simp -dsimp -implicitDefEqProofs only[go_sem,seval,↓reduceIte]
  try simp
 ·rintro n st ⟨a,Z,hn,ha,hF,rfl⟩
  have hZ:Z.length=a:=by rw[hF.length];simp;omega
  have hD':∀x∈xs.drop a,D x:=fun x hx=>hD x (List.mem_of_mem_drop hx)
  by_cases hb:a+20<=N
  ·have hc:((a+20:Nat):Int)<=(N:Int):=by omega
   have w1:IntKind.i64.wrap (((a+20:Nat):Int)+20)=((a+20+20:Nat):Int):=by rw[zah (by omega) (by omega)];omega
   have hx:(xs.drop a).take 20++(xs.drop a).drop 20=xs.drop a:=List.take_append_drop _ _
   have hl:((xs.drop a).take 20).length=20:=by simp;omega
   have hcall:=zfP c hC fv D hp r hg hr a (a+20) N Z ((xs.drop a).take 20) ((xs.drop a).drop 20) hZ (by omega) (by simp[hZ];omega) (by omega) (fun x h=>hD' x (List.mem_of_mem_take h))
   rw[show Z++(xs.drop a).take 20++(xs.drop a).drop 20=Z++xs.drop a by rw[List.append_assoc,hx]] at hcall
   simp -dsimp -implicitDefEqProofs only[go_sem,seval,↓reduceIte,hc,w1,hcall]
   refine⟨N - (a+20),by omega,a+20,Z++isort c ((xs.drop a).take 20),rfl,by omega,?_,?_⟩
   ·have:=Full.snoc (c:=c) (n:=20) _ _ _ hl hF
    rwa [<-List.take_add] at this
   ·rw[zam (by simp),List.drop_drop]
  ·have hc:¬((a+20:Nat):Int)<=(N:Int):=by omega
   have hcall:=zfP c hC fv D hp r hg hr a N N Z (xs.drop a) [] hZ (by simp;omega) (by simp[hZ];omega) (by omega) hD'
   simp only[List.append_nil] at hcall
   have hB:Blk c 20 xs (Z++isort c (xs.drop a)):=by
    have:=hF.blk (.last (xs.drop a) (by simp;omega))
    rwa [List.take_append_drop] at this
   simp -dsimp -implicitDefEqProofs only[go_sem,seval,↓reduceIte,hc,hcall]
   generalize Z++isort c (xs.drop a)=d0 at hB
   clear hcall hF hZ hD' ha hn hc hb Z a
   /- the merging -/
   refine zbB (fun n st=>∃(bs:Nat) (d:List PV),n=N - bs/\20<=bs/\Blk c bs xs d/\st=⟨[(0,.sl none r N 0 N),(1,.pv none (.int .i64 N)),(2,fv),(6,.pv none (.int .i64 bs))],hp.set r (.arr none d false)⟩) (n:=N - 20) ⟨20,d0,rfl,Nat.le_refl _,hB,?_⟩ ?_
   ·simp -dsimp -implicitDefEqProofs only[go_sem,seval,↓reduceIte]
    try rfl
   ·rintro n1 st ⟨bs,d,hn1,hbs,hB,rfl⟩
    by_cases hlt:bs<N
    ·have hc:(bs:Int)<(N:Int):=by omega
     have w1:IntKind.i64.wrap (2*(bs:Int))=((0+2*bs:Nat):Int):=by rw[zah (by omega) (by omega)];omega
     have w2:IntKind.i64.wrap ((bs:Int)*2)=((2*bs:Nat):Int):=by rw[zah (by omega) (by omega)];omega
     simp -dsimp -implicitDefEqProofs only[go_sem,seval,↓reduceIte,hc,w1]
     refine zbB (fun n st=>∃(a:Nat) (Z d r0 r1:List PV),n=N - a/\a<=N/\xs=r0++r1/\r0.length=a/\Full c (2*bs) r0 Z/\Blk c bs r1 d/\st=⟨[(0,.sl none r N 0 N),(1,.pv none (.int .i64 N)),(2,fv),(6,.pv none (.int .i64 bs)),(7,.pv none (.int .i64 a)),(8,.pv none (.int .i64 ((a+2*bs:Nat):Int)))],hp.set r (.arr none (Z++d) false)⟩) (n:=N) ⟨0,[],d,[],xs,rfl,Nat.zero_le _,rfl,rfl,.nil,hB,?_⟩ ?_
     ·simp -dsimp -implicitDefEqProofs only[go_sem,seval,↓reduceIte]
      try rfl
     ·rintro n2 st ⟨a,Z,d,r0,r1,hn2,ha,hxs,hr0,hF,hB1,rfl⟩
      have hZ:Z.length=a:=by rw[hF.length,hr0]
      have hl1:a+r1.length=N:=by rw[hN,hxs];simp[hr0]
      have hDZ:∀x∈Z++d,D x:=fun x hx=>hD x (by
       rw[hxs]
       rcases List.mem_append.1 hx with h|h
       ·exact List.mem_append.2 (.inl (hF.mem.1 h))
       ·exact List.mem_append.2 (.inr (hB1.mem.1 h)))
      have w3:IntKind.i64.wrap ((a:Int)+(bs:Int))=((a+bs:Nat):Int):=by rw[zah (by omega) (by omega)];omega
      by_cases hb:a+2*bs<=N
      ·have hc2:((a+2*bs:Nat):Int)<=(N:Int):=by omega
       obtain⟨x,y,r2,d2,e1,e2,lx,ly,ly0,hB2,hy⟩:=hB1.two (by omega) (by omega)
       have ly':y.length=bs:=by
        rcases Nat.lt_or_ge y.length bs with h|h
        ·have:=hy h;rw[e1,this] at hl1;simp at hl1;omega
        ·omega
       have w4:IntKind.i64.wrap (2*(bs:Int))=((2*bs:Nat):Int):=by rw[zah (by omega) (by omega)];omega
       have w5:IntKind.i64.wrap (((a+2*bs:Nat):Int)+((2*bs:Nat):Int))=((a+2*bs+2*bs:Nat):Int):=by rw[zah (by omega) (by omega)];omega
       have hld:=hB1.length
       have hcall:=zsb c hC fv D hp r hg hr N hN' (2*bs) a (a+bs) (a+2*bs) Z (isort c x) (isort c y) d2 (by omega) hZ (by rw[zaq,lx]) (by rw[zaq,ly'];omega) (by rw[e2] at hld;simp[zaq] at hld ⊢;omega) (by rw[zaq];omega) (by rw[zaq];omega) (zcT hC x) (zcT hC y) (fun z hz=>hDZ z (by rw[e2];simpa using hz))
       rw[show Z++isort c x++isort c y++d2=Z++d by rw[e2];simp,<-zfM hC] at hcall
       simp -dsimp -implicitDefEqProofs only[go_sem,seval,↓reduceIte,hc2,w3,w4,w5,hcall]
       refine⟨N - (a+2*bs),by omega,a+2*bs,Z++isort c (x++y),d2,r0++(x++y),r2,rfl,hb,by rw[hxs,e1];simp,by simp[hr0,lx,ly'];omega,.snoc _ _ _ (by simp[lx,ly'];omega) hF,hB2,?_⟩
       rw[zam (by simp)]
      ·have hc2:¬((a+2*bs:Nat):Int)<=(N:Int):=by omega
       by_cases hm:a+bs<N
       ·have hc3:((a+bs:Nat):Int)<(N:Int):=by omega
        obtain⟨x,y,r2,d2,e1,e2,lx,ly,ly0,hB2,hy⟩:=hB1.two (by omega) (by omega)
        have ly':y.length<bs:=by rw[e1] at hl1;simp at hl1;omega
        have hr2:=hy ly'
        subst hr2
        have hd2:d2=[]:=List.length_eq_zero_iff.1 hB2.length
        subst hd2
        have hld:=hB1.length
        have hcall:=zsb c hC fv D hp r hg hr N hN' (2*bs) a (a+bs) N Z (isort c x) (isort c y) [] (by omega) hZ (by rw[zaq,lx]) (by rw[zaq];rw[e1] at hl1;simp at hl1;omega) (by rw[e2] at hld;simp[zaq] at hld ⊢;omega) (by rw[zaq];omega) (by rw[zaq];omega) (zcT hC x) (zcT hC y) (fun z hz=>hDZ z (by rw[e2];simpa using hz))
        rw[show Z++isort c x++isort c y++[]=Z++d by rw[e2];simp,<-zfM hC] at hcall
        simp -dsimp -implicitDefEqProofs only[go_sem,seval,↓reduceIte,hc2,hc3,w2,w3,hcall]
        have hres:=hF.blk (.last r1 (by omega:r1.length<=2*bs))
        rw[<-hxs] at hres
        refine⟨N - 2*bs,by omega,2*bs,Z++isort c r1,rfl,by omega,hres,?_⟩
        rw[zam (by simp),e1]
        simp
       ·have hc3:¬((a+bs:Nat):Int)<(N:Int):=by omega
        have hd:=hB1.whole (by omega)
        simp -dsimp -implicitDefEqProofs only[go_sem,seval,↓reduceIte,hc2,hc3,w2,w3]
        have hres:=hF.blk (.last r1 (by omega:r1.length<=2*bs))
        rw[<-hxs] at hres
        refine⟨N - 2*bs,by omega,2*bs,Z++isort c r1,rfl,by omega,hres,?_⟩
        rw[zam (by simp),hd]
    ·have hc:¬(bs:Int)<(N:Int):=by omega
     have hd:=hB.whole (by omega)
     simp -dsimp -implicitDefEqProofs only[go_sem,seval,↓reduceIte,hc]
     rw[List.take_of_length_le (by simp),hd]
end
structure Sp where
 v:Int
 at_:Nat
 first:Int
 last:Int
def Sp.pv(x:Sp):PV:=.agg [(none,.int .i64 x.at_),(none,.int .i64 x.first),(none,.int .i64 x.last)]
def Sp.ent(x:Sp):PV × PV:=(.int .i64 x.v,x.pv)
def zdN(v c:Int):List Sp->List Sp
 |[]=>[]
 |x::r=>if x.v=v then⟨x.v,x.at_,x.first,c⟩::r else x::zdN v c r
def zaG(v:Int):List Sp->Option Sp
 |[]=>none
 |x::r=>if x.v=v then some x else zaG v r
def zcE(l:List Sp)(p:Int × Int):List Sp:=
 match zaG p.1 l with
 |some _=>zdN p.1 p.2 l
 |none=>l++[⟨p.1,l.length,p.2,p.2⟩]
def sps(L:List (Int × Int)):List Sp:=L.foldl zcE []
def ents(l:List Sp):List (PV × PV):=l.map Sp.ent
def ords(l:List Sp):List PV:=l.map fun x=>.int .i64 x.v
theorem zms(L:List (Int × Int))(p:Int × Int):sps (L++[p])=zcE (sps L) p:=by simp[sps]
theorem ze2(v c:Int):∀l,(zdN v c l).length=l.length
 |[]=>rfl
 |x::r=>by unfold zdN;split <;> simp[ze2 v c r]
theorem znQ(l:List Sp)(p:Int × Int):(zcE l p).length<=l.length+1:=by
 unfold zcE
 split
 ·rw[ze2];omega
 ·simp
theorem zlG(L:List (Int × Int)):(sps L).length<=L.length:=by
 have:∀(L:List (Int × Int)) (l:List Sp),(L.foldl zcE l).length<=l.length+L.length:=by
  intro L
  induction L with
  |nil=>intro l;simp
  |cons p r ih=>intro l;have h1:=ih (zcE l p);have h2:=znQ l p;simp only[List.foldl_cons,List.length_cons];omega
 simpa[sps] using this L []
theorem zgW(v:Int):∀l:List Sp,afind false (.int .i64 v) (ents l)=some ((zaG v l).map Sp.pv)
 |[]=>rfl
 |x::r=>by
  have ih:=zgW v r
  unfold ents at ih ⊢
  simp only[List.map_cons,Sp.ent,afind,PV.same,if_true,zaG]
  by_cases h:x.v=v
  ·simp[h]
  ·have h':¬v=x.v:=fun e=>h e.symm
   simp only[decide_eq_false h',if_neg h]
   exact ih
theorem zfN(v c:Int)(n:Nat):∀l:List Sp,zaG v l=none->aput false (.int .i64 v) (Sp.pv ⟨v,n,c,c⟩) (ents l)=some (ents (l++[⟨v,n,c,c⟩]))
 |[],_=>rfl
 |x::r,h=>by
  unfold zaG at h
  split at h
  ·cases h
  ·rename_i hne
   have ih:=zfN v c n r h
   unfold ents at ih ⊢
   have h':¬v=x.v:=fun e=>hne e.symm
   simp only[List.map_cons,Sp.ent,aput,PV.same,if_true,decide_eq_false h',List.cons_append]
   rw[ih]
theorem zfO(v c:Int):∀(l:List Sp) (x:Sp),zaG v l=some x->aput false (.int .i64 v) (Sp.pv ⟨x.v,x.at_,x.first,c⟩) (ents l)=some (ents (zdN v c l))
 |[],x,h=>by cases h
 |y::r,x,h=>by
  unfold zaG at h
  split at h
  ·rename_i he
   cases h
   simp[ents,Sp.ent,aput,PV.same,he,zdN]
  ·rename_i hne
   have ih:=zfO v c r x h
   unfold ents at ih ⊢
   have h':¬v=y.v:=fun e=>hne e.symm
   simp only[List.map_cons,Sp.ent,aput,PV.same,if_true,decide_eq_false h',zdN,if_neg hne]
   rw[ih]
theorem zmt(v c:Int):∀l,ords (zdN v c l)=ords l
 |[]=>rfl
 |x::r=>by
  have ih:=zmt v c r
  unfold ords at ih ⊢
  unfold zdN
  split
  ·simp
  ·simp[ih]
theorem zmu(l:List Sp):(ords l).length=l.length:=by simp[ords]
def zcF(l:List Sp)(v:Int):Int:=match zaG v l with|some x=>x.last|none=>0
def zdO(l:List Sp)(v:Int):Int:=match zaG v l with|some x=>x.first|none=>0
theorem zag{α:Type}(l r:List α)(k:Nat):(l++r)[l.length+k]? =r[k]? :=by
 rw[List.getElem?_append_right (by omega)]
 congr 1
 omega
theorem zau{α:Type}(l r:List α):(l++r)[l.length]? =r[0]? :=zag l r 0
theorem zap{α:Type}(l r:List α)(k:Nat)(x:α):(l++r).set (l.length+k) x=l++r.set k x:=by
 rw[List.set_append_right _ _ (by omega)]
 congr 2
 omega
theorem zav{α:Type}(l r:List α)(x:α):(l++r).set l.length x=l++r.set 0 x:=zap l r 0 x
theorem ziM{α:Type}(l r:List α)(k:Nat):(l++r).take (l.length+k)=l++r.take k:=by
 rw[List.take_append,List.take_of_length_le (by omega),Nat.add_sub_cancel_left]
def hOf(b:Nat)(V:AV)(l:List Sp)(P:List PV):Heap:=[.box (some 5) V,.box (some 3) (.agg [(none,.sl none (b+2) 0 0 0),(none,.sl none (b+3) P.length 0 P.length),(none,.sl none (b+4) 0 0 0)]),.arr none [] false,.arr none P false,.arr none [] false,.map (some 3) (ents l),.box none (.map (b+5)),.box none (.sl none (b+8) l.length 0 l.length),.arr none (ords l) false,.box (some 5) V]
def lOf(b:Nat):AObj:=.loop 12 [22] [(4,.ptr (b+6) 0),(5,.ptr (b+7) 0)] false
theorem zr5(pre:Heap)(V:AV):Rnd (fun s=>pre++(hOf pre.length V (sps s) []++[lOf pre.length])) (pre.length+11) (pre.length+10) 12 where
 len s:=by simp[hOf]
 lt:=by omega
 fn s:=by
  rw[zag]
  rfl
 call s w c ext hlim:=by
  have hr:(pre++(hOf pre.length V (sps s) []++[lOf pre.length])++ext)[pre.length+10]? =some (.loop 12 [22] [(4,.ptr (pre.length+6) 0),(5,.ptr (pre.length+7) 0)] false):=by
   rw[List.append_assoc,zag]
   rfl
  refine zpF (ps:=[22]) (env:=[(4,.ptr (pre.length+6) 0),(5,.ptr (pre.length+7) 0)]) hr rfl rfl rfl ?_
  clear hr
  have hle:=zlG s
  rw[zms]
  generalize sps s=l at*
  unfold LIM at hlim
  have hfd:=zgW w l
  have hb:∀(n:Nat) (c:Int),zb5 [(none,.pv none (.int .i64 0)),(none,.pv none (.int .i64 0)),(none,.pv none (.int .i64 0))] [0,1] [.pv none (.int .i64 n),.pv none (.int .i64 c)]=some (.pv (some 3) (.agg [(none,.int .i64 n),(none,.int .i64 c),(none,.int .i64 0)])):=fun _ _=>rfl
  have hms:∀(es':List (PV × PV)) (p:PV) (a0 a1 a2 a3 a4:AObj) (e:Heap),aput false (.int .i64 w) p (ents l)=some es'->zcG false (some 3) (pre++a0::a1::a2::a3::a4::.map (some 3) (ents l)::e) [.map (pre.length+5),.pv none (.int .i64 w),.pv (some 3) p]=some (.undef,pre++a0::a1::a2::a3::a4::.map (some 3) es'::e):=fun es' p a0 a1 a2 a3 a4 e h=>by
   rw[zgM (by rw[zag];rfl) h,zap]
   rfl
  have hap:∀(a0 a1 a2 a3 a4 a5 a6 a7:AObj) (e:Heap),zbt none (pre++a0::a1::a2::a3::a4::a5::a6::a7::.arr none (ords l) false::e) [.sl none (pre.length+8) l.length 0 l.length,.tsl none [.int .i64 w]]=some (.sl none (pre.length+8) (l.length+1) 0 (l.length+1),pre++a0::a1::a2::a3::a4::a5::a6::a7::.arr none (ords l++[.int .i64 w]) false::e):=fun a0 a1 a2 a3 a4 a5 a6 a7 e=>by
   rw[zbY (by rw[zag];exact(show zg4 none l.length (some (.arr none (ords l) false)) from⟨rfl,zmu l⟩)) (by simp[lim];omega),zap,zag]
   rfl
  have hst:∀(n o' n':Nat) (a0 a1 a2 a3 a4 a5 a6:AObj) (e:Heap) (b:Nat),pre.length+7<b->zaH none b (pre++a0::a1::a2::a3::a4::a5::a6::.box none (.sl none (pre.length+8) n 0 n)::e) [.ptr (pre.length+7) 0,.sl none (pre.length+8) n' o' n']=some (.undef,pre++a0::a1::a2::a3::a4::a5::a6::.box none (.sl none (pre.length+8) n' o' n')::e):=fun n o' n' a0 a1 a2 a3 a4 a5 a6 e b hb=>by
   rw[zef hb (by rw[zag];rfl),zap]
   rfl
  have hbb:∀k:Nat,pre.length+7<pre.length+(k+11):=fun k=>by omega
  have g12:∀(e:Heap) (a b:AObj),(e++[a]++[b])[e.length+1]? =some b:=fun e a b=>by simp
  have g11:∀(e:Heap) (a b:AObj),(e++[a,b])[e.length]? =some a:=fun e a b=>by simp
  have g12':∀(e:Heap) (a b:AObj),(e++[a,b])[e.length+1]? =some b:=fun e a b=>by simp
  have s12':∀(e:Heap) (a b x:AObj),(e++[a,b]).set (e.length+1) x=e++[a,x]:=fun e a b x=>by simp
  have up2:∀(a b c d:Int),AV.upd deep (.pv (some 3) (.agg [(none,.int .i64 a),(none,.int .i64 b),(none,.int .i64 c)])) 2 none (.pv none (.int .i64 d))=some (.pv (some 3) (.agg [(none,.int .i64 a),(none,.int .i64 b),(none,.int .i64 d)])):=fun _ _ _ _=>rfl
  cases hs:zaG w l with
  |none=>
   rw[hs] at hfd
   simp only[Option.map_none] at hfd
   have h1:=fun a0 a1 a2 a3 a4 e ok zero=>zdh (str:=false) (sh:=some 3) (zero:=zero) (ok:=ok) (hp:=pre++a0::a1::a2::a3::a4::.map (some 3) (ents l)::e) (r:=pre.length+5) (s:=none) (by rw[zag];rfl) hfd
   have h2:=fun a0 a1 a2 a3 a4 e=>hms _ _ a0 a1 a2 a3 a4 e (zfN w c l.length l hs)
   simp only[Sp.pv] at h2
   simp -dsimp -implicitDefEqProofs only[c12k17,c12k32,c12k39,go_sem,seval,↓reduceIte,List.append_assoc,zag,zau,zap,zav,Nat.add_assoc,List.length_append,hOf,lOf,zeh,zdj,zdk,zdd,zaP]
   refine⟨⟨_,rfl⟩,?_⟩
   simp -dsimp -implicitDefEqProofs only[c12k17,c12k32,c12k39,go_sem,seval,↓reduceIte,List.append_assoc,zag,zau,zap,zav,Nat.add_assoc,List.length_append,hOf,lOf,zdj,zdk,zdd,zaP,h1,h2,hap,hst _ _ _ _ _ _ _ _ _ _ _ _ (hbb _),hb,g11,g12',s12',up2]
   simp[zcE,hs,ziM,List.take_succ_cons,List.take_left,ords,ze2]
  |some y=>
   rw[hs] at hfd
   simp only[Option.map_some] at hfd
   have h1:=fun a0 a1 a2 a3 a4 e ok zero=>zdg (str:=false) (sh:=some 3) (zero:=zero) (ok:=ok) (hp:=pre++a0::a1::a2::a3::a4::.map (some 3) (ents l)::e) (r:=pre.length+5) (s:=none) (by rw[zag];rfl) hfd
   have h2:=fun a0 a1 a2 a3 a4 e=>hms _ _ a0 a1 a2 a3 a4 e (zfO w c l y hs)
   simp only[Sp.pv] at h1 h2
   simp -dsimp -implicitDefEqProofs only[c12k17,c12k32,c12k39,go_sem,seval,↓reduceIte,List.append_assoc,zag,zau,zap,zav,Nat.add_assoc,List.length_append,hOf,lOf,zeh,zdj,zdk,zdd,zaP]
   refine⟨⟨_,rfl⟩,?_⟩
   simp -dsimp -implicitDefEqProofs only[c12k17,c12k32,c12k39,go_sem,seval,↓reduceIte,List.append_assoc,zag,zau,zap,zav,Nat.add_assoc,List.length_append,hOf,lOf,zdj,zdk,zdd,zaP,h1,h2,hap,hst _ _ _ _ _ _ _ _ _ _ _ _ (hbb _),hb,g11,g12',s12',up2]
   simp[zcE,hs,ziM,List.take_succ_cons,List.take_left,zmt,ze2]
theorem zrs(hp:Heap)(x:Int):S 45 [.pv none (.int .i64 x)] hp=some (.ret (.pv none (.bool false)),hp):=by
 refine zaL rfl rfl rfl (zaf [(none,.int .i64 x)]) rfl ?_
 (repeat' (first|(simp -dsimp -implicitDefEqProofs only[go_sem,seval,↓reduceIte, *])|(refine zaz (fun _=> ?_) (fun _=> ?_))))
theorem zpY(hp:Heap)(x y:Int):S 27 [.pv none (.int .i64 x),.pv none (.int .i64 y)] hp=some (.ret (.pv none (.int .i64 (cmpI x y))),hp):=by
 refine zaL rfl rfl rfl (zaf [(none,.int .i64 x),(none,.int .i64 y)]) rfl ?_
 (repeat' (first|(simp -dsimp -implicitDefEqProofs only[go_sem,seval,↓reduceIte,zrs,cmpI, *])|(refine zaz (fun _=> ?_) (fun _=> ?_))))
def zpZ(l:List Sp):PV->Int
 | .int _ v=>zcF l v
 |_=>0
def zg6(l:List Sp)(p q:PV):Int:=cmpI (zpZ l q) (zpZ l p)
theorem zp0(l:List Sp):Cmp (zg6 l) where
 neg x y:=by unfold zg6 cmpI;split <;> split <;> first|rfl|omega|(split <;> omega)
 trans {x y z} h1 h2:=by
  unfold zg6 cmpI at*
  repeat' split
  all_goals (repeat' split at h1)
  all_goals (repeat' split at h2)
  all_goals omega
def ztE(p:PV):Prop:=∃v,p=.int .i64 v
theorem zdl(l:List Sp)(v:Int)(pre:Heap)(a0 a1 a2 a3 a4:AObj)(e:Heap):∃t,zbs false (some 3) (.pv (some 3) (.agg [(none,.int .i64 0),(none,.int .i64 0),(none,.int .i64 0)])) false (pre++a0::a1::a2::a3::a4::.map (some 3) (ents l)::e) [.map (pre.length+5),.pv none (.int .i64 v)]=some (.pv (some 3) t)/\PV.part deep t 2 none=some (.int .i64 (zcF l v))/\PV.part deep t 1 none=some (.int .i64 (zdO l v)):=by
 have hf:=zgW v l
 unfold zcF zdO
 cases hs:zaG v l with
 |none=>
  rw[hs] at hf
  exact⟨_,zdh (str:=false) (hp:=pre++a0::a1::a2::a3::a4::.map (some 3) (ents l)::e) (r:=pre.length+5) (by rw[zag];rfl) hf,rfl,rfl⟩
 |some y=>
  rw[hs] at hf
  exact⟨_,zdg (str:=false) (hp:=pre++a0::a1::a2::a3::a4::.map (some 3) (ents l)::e) (r:=pre.length+5) (by rw[zag];rfl) hf,rfl,rfl⟩
theorem zsU(pre:Heap)(V:AV)(l:List Sp)(P:List PV):CmpF (zg6 l) (.func (.func 26) [] [.ptr (pre.length+6) 0]) ztE (pre++hOf pre.length V l P) (pre.length+3):=by
 refine⟨_,_,_,rfl,?_⟩
 rintro _ _ ⟨a,rfl⟩ ⟨b,rfl⟩ A
 obtain⟨t,h1,h2,_⟩:=zdl l a pre (.box (some 5) V) (.box (some 3) (.agg [(none,.sl none (pre.length+2) 0 0 0),(none,.sl none (pre.length+3) P.length 0 P.length),(none,.sl none (pre.length+4) 0 0 0)])) (.arr none [] false) A (.arr none [] false) [.box none (.map (pre.length+5)),.box none (.sl none (pre.length+8) l.length 0 l.length),.arr none (ords l) false,.box (some 5) V]
 obtain⟨u,h3,h4,_⟩:=zdl l b pre (.box (some 5) V) (.box (some 3) (.agg [(none,.sl none (pre.length+2) 0 0 0),(none,.sl none (pre.length+3) P.length 0 P.length),(none,.sl none (pre.length+4) 0 0 0)])) (.arr none [] false) A (.arr none [] false) [.box none (.map (pre.length+5)),.box none (.sl none (pre.length+8) l.length 0 l.length),.arr none (ords l) false,.box (some 5) V]
 refine zaI rfl rfl rfl rfl ?_
 simp -dsimp -implicitDefEqProofs only[go_sem,seval,↓reduceIte,List.append_assoc,zag,zau,zap,zav,Nat.add_assoc,List.length_append,hOf,h1,h2,h3,h4,zpY]
 simp[AV.refsIn,zg6,zpZ,ziM]
def vars(l:List Sp):List Int:=l.map Sp.v
theorem zp1(l:List Sp):ords l=(vars l).map (.int .i64):=by simp[ords,vars]
def ints(l:List Int):List PV:=l.map (.int .i64)
theorem zaY(l:List Int):(ints l).length=l.length:=by simp[ints]
theorem zd8{l:List Int}{i:Nat}{v:Int}(h:l[i]? =some v):(ints l)[i]? =some (.int .i64 v):=by simp[ints,h]
def wide(l:List Sp)(v:Int):Bool:=decide (zdO l v<zcF l v)
def zcr(l:List Sp):List Int:=(vars l).filter (wide l)
theorem zrt(pre:Heap)(V:AV)(l:List Sp)(hl:l.length<500000000)(Q:AExit->St->Prop)
  (hQ:∀r:Fr,Q .normal ⟨(1,.ptr (pre.length+0) 0)::(2,.ptr (pre.length+1) 0)::(4,.ptr (pre.length+6) 0)::r,pre++hOf pre.length V l (ints (zcr l))⟩):
  W Z L pre.length c12k17 ⟨[(1,.ptr (pre.length+0) 0),(2,.ptr (pre.length+1) 0),(4,.ptr (pre.length+6) 0),(49,.sl none (pre.length+8) l.length 0 l.length),(50,.pv none (.int .i64 l.length)),(51,.pv none (.int .i64 0))],pre++hOf pre.length V l []⟩ Q:=by
 simp -dsimp -implicitDefEqProofs only[c12k17,c12k32,c12k39,go_sem,seval,↓reduceIte]
 have hvl:(vars l).length=l.length:=by simp[vars]
 refine zfS (α:=Unit) l.length (fun _ _=>True) (fun i _=>⟨[(1,.ptr (pre.length+0) 0),(2,.ptr (pre.length+1) 0),(4,.ptr (pre.length+6) 0),(49,.sl none (pre.length+8) l.length 0 l.length),(50,.pv none (.int .i64 l.length)),(51,.pv none (.int .i64 i))],pre++hOf pre.length V l (ints (((vars l).take i).filter (wide l)))⟩) () ⟨trivial,rfl⟩ ?_ ?_
 ·rintro i _ h _
  have hc:(i:Int)<(l.length:Int):=by omega
  obtain⟨v,hv⟩:∃v,(vars l)[i]? =some v:=⟨_,List.getElem?_eq_getElem (by omega)⟩
  have hvi:(ords l)[i]? =some (.int .i64 v):=by rw[zp1];simp[hv]
  have w2:IntKind.i64.wrap ((i:Int)+1)=((i+1:Nat):Int):=by rw[zah (by omega) (by omega)];omega
  have ht:(vars l).take (i+1)=(vars l).take i++[v]:=by rw[List.take_add_one,hv];rfl
  have hln:(((vars l).take i).filter (wide l)).length<=l.length:=Nat.le_trans (List.length_filter_le _ _) (by simp;omega)
  generalize hP:ints (((vars l).take i).filter (wide l))=P
  have hPl:P.length<=l.length:=by rw[<-hP,zaY];exact hln
  obtain⟨t,h1,h2,h3⟩:=zdl l v pre (.box (some 5) V) (.box (some 3) (.agg [(none,.sl none (pre.length+2) 0 0 0),(none,.sl none (pre.length+3) P.length 0 P.length),(none,.sl none (pre.length+4) 0 0 0)])) (.arr none [] false) (.arr none P false) (.arr none [] false) [.box none (.map (pre.length+5)),.box none (.sl none (pre.length+8) l.length 0 l.length),.arr none (ords l) false,.box (some 5) V]
  have hap:∀(a0 a1 a2:AObj) (e:Heap),zbt none (pre++a0::a1::a2::.arr none P false::e) [.sl none (pre.length+3) P.length 0 P.length,.tsl none [.int .i64 v]]=some (.sl none (pre.length+3) (P.length+1) 0 (P.length+1),pre++a0::a1::a2::.arr none (P++[.int .i64 v]) false::e):=fun a0 a1 a2 e=>by
   rw[zbY (by rw[zag];exact(show zg4 none P.length (some (.arr none P false)) from⟨rfl,rfl⟩)) (by simp[lim];omega),zap,zag]
   rfl
  have hst:∀(n m:Nat) (a0:AObj) (e:Heap),zaH none pre.length (pre++a0::.box (some 3) (.agg [(none,.sl none (pre.length+2) 0 0 0),(none,.sl none (pre.length+3) n 0 n),(none,.sl none (pre.length+4) 0 0 0)])::e) [.ptr (pre.length+1) 1,.sl none (pre.length+3) m 0 m]=some (.undef,pre++a0::.box (some 3) (.agg [(none,.sl none (pre.length+2) 0 0 0),(none,.sl none (pre.length+3) m 0 m),(none,.sl none (pre.length+4) 0 0 0)])::e):=fun n m a0 e=>by
   simp[zaH,astore,zag,zap,AV.plain,AV.shp,AV.own]
   rfl
  have hwd:wide l v=decide (zdO l v<zcF l v):=rfl
  have hix:zcd none [.sl none (pre.length+8) l.length 0 l.length,.pv none (.int .i64 i)]=some (.eptr none (pre.length+8) l.length i 0):=by have:=zal (sh:=none) (r:=pre.length+8) (v:=l.length) (o:=0) (s':=none) (k:=.i64) h;rwa [Nat.zero_add] at this
  have hld:∀(a0 a1 a2 a3 a4 a5 a6 a7 a9:AObj),aload none (pre++[a0,a1,a2,a3,a4,a5,a6,a7,.arr none (ords l) false,a9]) (.eptr none (pre.length+8) l.length i 0)=some (.pv none (.int .i64 v)):=fun a0 a1 a2 a3 a4 a5 a6 a7 a9=>by simp[aload,zag,zmu,hvi]
  by_cases hw:zdO l v<zcF l v
  ·rw[decide_eq_true hw] at hwd
   simp -dsimp -implicitDefEqProofs only[c12k17,c12k32,c12k39,go_sem,seval,↓reduceIte,List.append_assoc,zag,zau,zap,zav,Nat.add_assoc,List.length_append,hOf,hc,hix,hld,h1,h2,h3,hw,hap,hst,w2]
   refine⟨(),?_⟩
   rw[zam (by simp),ht,List.filter_append]
   simp[hwd,ints] at hP ⊢
   rw[hP]
   exact⟨by rw[<-hP,List.length_map],rfl⟩
  ·rw[decide_eq_false hw] at hwd
   simp -dsimp -implicitDefEqProofs only[c12k17,c12k32,c12k39,go_sem,seval,↓reduceIte,List.append_assoc,zag,zau,zap,zav,Nat.add_assoc,List.length_append,hOf,hc,hix,hld,h1,h2,h3,hw,hap,hst,w2]
   refine⟨(),?_⟩
   rw[zam (by simp),ht,List.filter_append]
   simp[hwd,ints] at hP ⊢
   rw[hP]
   exact⟨by rw[<-hP,List.length_map],rfl⟩
 ·rintro _ _
  have hc:¬(l.length:Int)<(l.length:Int):=by omega
  simp -dsimp -implicitDefEqProofs only[c12k17,c12k32,c12k39,go_sem,seval,↓reduceIte,List.append_assoc,zag,zau,zap,zav,Nat.add_assoc,List.length_append,hOf,hc]
  have:=hQ
  unfold zcr hOf at this
  rw[List.take_of_length_le (by omega)]
  exact this _
def twl(l:List Sp)(perm:List Int)(c:Int):Nat:=(perm.takeWhile (fun v=>decide (c<zcF l v))).length
def zeX(l:List Sp)(perm:List Int)(c:Int)(g:Gl):Int:=if g.kind=1 then(twl l perm c:Int) else 0
def zb1:Int->List Gl->List Int
 |_,[]=>[]
 |c,g::r=>c::zb1 (g.next c) r
def zbe(l:List Sp)(perm:List Int):Int->List Gl->List Int
 |_,[]=>[]
 |c,g::r=>zeX l perm c g::zbe l perm (g.next c) r
theorem znM{c:Int}{l:List Gl}{i:Nat}{g:Gl}(h:l[i]? =some g):zb1 c (l.drop i)=c::zb1 (g.next c) (l.drop (i+1)):=by
 obtain⟨h1,rfl⟩:=List.getElem?_eq_some_iff.1 h
 rw[List.drop_eq_getElem_cons h1,zb1]
theorem zkh{s:List Sp}{perm:List Int}{c:Int}{l:List Gl}{i:Nat}{g:Gl}(h:l[i]? =some g):zbe s perm c (l.drop i)=zeX s perm c g::zbe s perm (g.next c) (l.drop (i+1)):=by
 obtain⟨h1,rfl⟩:=List.getElem?_eq_some_iff.1 h
 rw[List.drop_eq_getElem_cons h1,zbe]
def hOf4(b:Nat)(V:AV)(l:List Sp)(A P B:List PV)(e:Heap):Heap:=.box (some 5) V::.box (some 3) (.agg [(none,.sl none (b+2) A.length 0 A.length),(none,.sl none (b+3) P.length 0 P.length),(none,.sl none (b+4) B.length 0 B.length)])::.arr none A false::.arr none P false::.arr none B false::.map (some 3) (ents l)::.box none (.map (b+5))::.box none (.sl none (b+8) l.length 0 l.length)::.arr none (ords l) false::.box (some 5) V::e
theorem zsV(pre:Heap)(V:AV)(l:List Sp)(perm:List Int)(hp:perm.length<500000000)(A B:List PV)(y z:AObj)(c:Int)(g0 g1 g2:AV)(r0:Fr)(Q:AExit->St->Prop)
  (hQ:∀r:Fr,Q .normal ⟨(2,.ptr (pre.length+1) 0)::(4,.ptr (pre.length+6) 0)::(11,.pv none (.int .i64 c))::(14,.pv none (.int .i64 (twl l perm c)))::(76,g0)::(77,g1)::(78,g2)::r,pre++hOf4 pre.length V l A (ints perm) B [y,z]⟩):
  W Z L pre.length c12k32 ⟨(2,.ptr (pre.length+1) 0)::(4,.ptr (pre.length+6) 0)::(11,.pv none (.int .i64 c))::(14,.pv none (.int .i64 0))::(76,g0)::(77,g1)::(78,g2)::r0,pre++hOf4 pre.length V l A (ints perm) B [y,z]⟩ Q:=by
 simp -dsimp -implicitDefEqProofs only[c12k17,c12k32,c12k39,go_sem,seval,↓reduceIte]
 refine zbB (fun n st=>∃k:Nat,n=perm.length - k/\k<=perm.length/\twl l perm c=k+((perm.drop k).takeWhile (fun v=>decide (c<zcF l v))).length/\st=⟨[(2,.ptr (pre.length+1) 0),(4,.ptr (pre.length+6) 0),(11,.pv none (.int .i64 c)),(14,.pv none (.int .i64 k)),(76,g0),(77,g1),(78,g2)],pre++hOf4 pre.length V l A (ints perm) B [y,z]⟩) (n:=perm.length) ⟨0,rfl,Nat.zero_le _,by simp[twl],rfl⟩ ?_
 rintro n st ⟨k,hn,hk,htw,rfl⟩
 by_cases h:k<perm.length
 ·have hc:(k:Int)<(perm.length:Int):=by omega
  obtain⟨v,hv⟩:∃v,perm[k]? =some v:=⟨_,List.getElem?_eq_getElem (by omega)⟩
  have hdr:perm.drop k=v::perm.drop (k+1):=by
   obtain⟨h1,h2⟩:=List.getElem?_eq_some_iff.1 hv
   rw[List.drop_eq_getElem_cons h1,h2]
  have hvi:=zd8 hv
  obtain⟨t,h1,h2,_⟩:=zdl l v pre (.box (some 5) V) (.box (some 3) (.agg [(none,.sl none (pre.length+2) A.length 0 A.length),(none,.sl none (pre.length+3) (ints perm).length 0 (ints perm).length),(none,.sl none (pre.length+4) B.length 0 B.length)])) (.arr none A false) (.arr none (ints perm) false) (.arr none B false) [.box none (.map (pre.length+5)),.box none (.sl none (pre.length+8) l.length 0 l.length),.arr none (ords l) false,.box (some 5) V,y,z]
  have w2:IntKind.i64.wrap ((k:Int)+1)=((k+1:Nat):Int):=by rw[zah (by omega) (by omega)];omega
  have hil:=zaY perm
  have hix:zcd none [.sl none (pre.length+3) (ints perm).length 0 (ints perm).length,.pv none (.int .i64 k)]=some (.eptr none (pre.length+3) (ints perm).length k 0):=by have:=zal (sh:=none) (r:=pre.length+3) (v:=(ints perm).length) (o:=0) (s':=none) (k:=.i64) (i:=k) (n:=(ints perm).length) (by omega);rwa [Nat.zero_add] at this
  have hld:∀(a0 a1 a2:AObj) (e:Heap),aload none (pre++a0::a1::a2::.arr none (ints perm) false::e) (.eptr none (pre.length+3) (ints perm).length k 0)=some (.pv none (.int .i64 v)):=fun a0 a1 a2 e=>by simp[aload,zag,hvi]
  have hc':(k:Int)<((ints perm).length:Int):=by omega
  by_cases hl:c<zcF l v
  ·simp -dsimp -implicitDefEqProofs only[c12k17,c12k32,c12k39,go_sem,seval,↓reduceIte,List.append_assoc,zag,zau,zap,zav,Nat.add_assoc,List.length_append,hOf4,hc',hix,hld,h1,h2,hl,w2]
   refine⟨perm.length - (k+1),by omega,k+1,rfl,by omega,?_,?_⟩
   ·rw[htw,hdr,List.takeWhile_cons,if_pos (by simpa using hl),List.length_cons]
    omega
   ·rw[zam (by simp[hOf4])]
  ·simp -dsimp -implicitDefEqProofs only[c12k17,c12k32,c12k39,go_sem,seval,↓reduceIte,List.append_assoc,zag,zau,zap,zav,Nat.add_assoc,List.length_append,hOf4,hc',hix,hld,h1,h2,hl,w2]
   rw[hdr,List.takeWhile_cons,if_neg (by simpa using hl)] at htw
   have:=hQ
   rw[htw] at this
   simp only[hOf4,List.length_nil,Nat.add_zero] at this
   exact this _
 ·have hil:=zaY perm
  have hc':¬(k:Int)<((ints perm).length:Int):=by omega
  simp -dsimp -implicitDefEqProofs only[c12k17,c12k32,c12k39,go_sem,seval,↓reduceIte,List.append_assoc,zag,zau,zap,zav,Nat.add_assoc,List.length_append,hOf4,hc']
  rw[List.drop_of_length_le (by omega)] at htw
  have:=hQ
  rw[htw] at this
  simp only[hOf4,List.takeWhile_nil,List.length_nil,Nat.add_zero] at this
  exact this _
theorem zru(pre:Heap)(V G:AV)(hV:V.refsIn.all (fun q=>decide (q<pre.length+10))=true)(hGr:G.refsIn.all (fun q=>decide (q<pre.length+10))=true)(x:Fl)(hIx:∀(i:Nat) (g:Gl),x.goals[i]? =some g->∃E,zcd (some 6) [G,.pv none (.int .i64 i)]=some E/\∀X,aload (some 6) (pre++X) E=some (.pv (some 6) g.pv))(l:List Sp)(perm:List Int)(hp:perm.length<500000000)(hg:x.goals.length<500000000)(Q:AExit->St->Prop)
  (hQ:∀r:Fr,Q .normal ⟨(2,.ptr (pre.length+1) 0)::(4,.ptr (pre.length+6) 0)::r,pre++hOf4 pre.length V l (ints (zb1 0 x.goals)) (ints perm) (ints (zbe l perm 0 x.goals)) []⟩):
  W Z L pre.length c12k39 ⟨[(2,.ptr (pre.length+1) 0),(4,.ptr (pre.length+6) 0),(11,.pv none (.int .i64 0)),(76,G),(77,.pv none (.int .i64 x.goals.length)),(78,.pv none (.int .i64 0))],pre++hOf4 pre.length V l [] (ints perm) [] []⟩ Q:=by
 simp -dsimp -implicitDefEqProofs only[c12k17,c12k39,go_sem,seval,↓reduceIte]
 refine zfS (α:=Int × List Int × List Int) x.goals.length (fun i a=>0<=a.1/\a.1<=i/\zb1 0 x.goals=a.2.1++zb1 a.1 (x.goals.drop i)/\zbe l perm 0 x.goals=a.2.2++zbe l perm a.1 (x.goals.drop i)/\a.2.1.length=i/\a.2.2.length=i)
  (fun i a=>⟨[(2,.ptr (pre.length+1) 0),(4,.ptr (pre.length+6) 0),(11,.pv none (.int .i64 a.1)),(76,G),(77,.pv none (.int .i64 x.goals.length)),(78,.pv none (.int .i64 i))],pre++hOf4 pre.length V l (ints a.2.1) (ints perm) (ints a.2.2) []⟩) (0,[],[]) ⟨⟨Int.le_refl _,Int.le_refl _,rfl,rfl,rfl,rfl⟩,rfl⟩ ?_ ?_
 ·rintro i ⟨c,A,B⟩ h ⟨hc0,hci,hA,hB,hAl,hBl⟩
  dsimp only at hc0 hci hA hB hAl hBl
  have hc:(i:Int)<(x.goals.length:Int):=by omega
  obtain⟨g,hg⟩:∃g,x.goals[i]? =some g:=⟨_,List.getElem?_eq_getElem h⟩
  obtain⟨E,hix,hld⟩:=hIx i g hg
  have w2:IntKind.i64.wrap ((i:Int)+1)=((i+1:Nat):Int):=by rw[zah (by omega) (by omega)];omega
  have w3:IntKind.i64.wrap (c+1)=c+1:=by rw[zah (by omega) (by omega)]
  rw[znM hg] at hA
  rw[zkh hg] at hB
  have hAi:=zaY A
  have hBi:=zaY B
  have happA:∀(v:Int) (a0 a1:AObj) (e:Heap),zbt none (pre++a0::a1::.arr none (ints A) false::e) [.sl none (pre.length+2) (ints A).length 0 (ints A).length,.tsl none [.int .i64 v]]=some (.sl none (pre.length+2) ((ints A).length+1) 0 ((ints A).length+1),pre++a0::a1::.arr none (ints A++[.int .i64 v]) false::e):=fun v a0 a1 e=>by
   rw[zbY (by rw[zag];exact(show zg4 none (ints A).length (some (.arr none (ints A) false)) from⟨rfl,rfl⟩)) (by simp[lim];omega),zap,zag]
   rfl
  have happB:∀(v:Int) (a0 a1 a2 a3:AObj) (e:Heap),zbt none (pre++a0::a1::a2::a3::.arr none (ints B) false::e) [.sl none (pre.length+4) (ints B).length 0 (ints B).length,.tsl none [.int .i64 v]]=some (.sl none (pre.length+4) ((ints B).length+1) 0 ((ints B).length+1),pre++a0::a1::a2::a3::.arr none (ints B++[.int .i64 v]) false::e):=fun v a0 a1 a2 a3 e=>by
   rw[zbY (by rw[zag];exact(show zg4 none (ints B).length (some (.arr none (ints B) false)) from⟨rfl,rfl⟩)) (by simp[lim];omega),zap,zag]
   rfl
  have hstA:∀(n m n3 n4:Nat) (a0:AObj) (e:Heap),zaH none pre.length (pre++a0::.box (some 3) (.agg [(none,.sl none (pre.length+2) n 0 n),(none,.sl none (pre.length+3) n3 0 n3),(none,.sl none (pre.length+4) n4 0 n4)])::e) [.ptr (pre.length+1) 0,.sl none (pre.length+2) m 0 m]=some (.undef,pre++a0::.box (some 3) (.agg [(none,.sl none (pre.length+2) m 0 m),(none,.sl none (pre.length+3) n3 0 n3),(none,.sl none (pre.length+4) n4 0 n4)])::e):=fun n m n3 n4 a0 e=>by
   simp[zaH,astore,zag,zap,AV.plain,AV.shp,AV.own]
   rfl
  have hstB:∀(n m n3 n4:Nat) (a0:AObj) (e:Heap),zaH none pre.length (pre++a0::.box (some 3) (.agg [(none,.sl none (pre.length+2) n 0 n),(none,.sl none (pre.length+3) n3 0 n3),(none,.sl none (pre.length+4) n4 0 n4)])::e) [.ptr (pre.length+1) 2,.sl none (pre.length+4) m 0 m]=some (.undef,pre++a0::.box (some 3) (.agg [(none,.sl none (pre.length+2) n 0 n),(none,.sl none (pre.length+3) n3 0 n3),(none,.sl none (pre.length+4) m 0 m)])::e):=fun n m n3 n4 a0 e=>by
   simp[zaH,astore,zag,zap,AV.plain,AV.shp,AV.own]
   rfl
  have hcl:∀(fr:Fr) (A' B':List PV) (y z:AObj),fr.all (fun x=>x.2.refsIn.all (fun q=>decide (q<pre.length+10)))=true->collect (pre.length+10) pre.length fr (pre++hOf4 pre.length V l A' (ints perm) B' [y,z])=pre++hOf4 pre.length V l A' (ints perm) B' []:=fun fr A' B' y z hf=>by
   rw[zby 10 rfl rfl (by simp[hOf4,AObj.refs,AV.ofComps,pures,AV.refsIn,AV.refsIn.go] at hV ⊢;exact hV) hf]
   rfl
  have key:∀(c':Int) (y z:AObj),c'=g.next c->∃a':Int × List Int × List Int,(0<=a'.1/\a'.1<=((i+1:Nat):Int)/\zb1 0 x.goals=a'.2.1++zb1 a'.1 (x.goals.drop (i+1))/\zbe l perm 0 x.goals=a'.2.2++zbe l perm a'.1 (x.goals.drop (i+1))/\a'.2.1.length=i+1/\a'.2.2.length=i+1)/\
    (⟨[(2,.ptr (pre.length+1) 0),(4,.ptr (pre.length+6) 0),(11,.pv none (.int .i64 c')),(76,G),(77,.pv none (.int .i64 x.goals.length)),(78,.pv none (.int .i64 ((i+1:Nat):Int)))],collect (pre.length+10) pre.length [(2,.ptr (pre.length+1) 0),(4,.ptr (pre.length+6) 0),(11,.pv none (.int .i64 c')),(76,G),(77,.pv none (.int .i64 x.goals.length)),(78,.pv none (.int .i64 ((i+1:Nat):Int)))] (pre++hOf4 pre.length V l (ints A++[.int .i64 c]) (ints perm) (ints B++[.int .i64 (zeX l perm c g)]) [y,z])⟩:St)=
    ⟨[(2,.ptr (pre.length+1) 0),(4,.ptr (pre.length+6) 0),(11,.pv none (.int .i64 a'.1)),(76,G),(77,.pv none (.int .i64 x.goals.length)),(78,.pv none (.int .i64 ((i+1:Nat):Int)))],pre++hOf4 pre.length V l (ints a'.2.1) (ints perm) (ints a'.2.2) []⟩:=by
   rintro c' y z rfl
   have hnx:0<=g.next c/\g.next c<=c+1:=by unfold Gl.next;split <;> omega
   refine⟨(g.next c,A++[c],B++[zeX l perm c g]),⟨hnx.1,by have:=hnx.2;dsimp only;omega,?_,?_,by simp[hAl],by simp[hBl]⟩,?_⟩
   ·rw[hA];simp
   ·rw[hB];simp
   ·rw[hcl _ _ _ _ _ (by simp[AV.refsIn] at hGr ⊢;exact hGr)]
    simp[ints]
  by_cases hk:g.kind=1
  ·have hl:zeX l perm c g=(twl l perm c:Int):=by simp[zeX,hk]
   have hnx:g.next c=c+1:=by simp[Gl.next,hk]
   rw[hl] at key
   simp -dsimp -implicitDefEqProofs only[c12k17,c12k39,go_sem,seval,↓reduceIte,List.append_assoc,zag,zau,zap,zav,Nat.add_assoc,List.length_append,hOf4,hc,hix,hld,zbl,hk,happA,hstA,w2,w3]
   have e1:(ints A++[PV.int .i64 c]).length=(ints A).length+1:=by simp
   have hlv:=fun g0 g1 g2 r0 Q=>zsV pre V l perm hp (ints A++[.int .i64 c]) (ints B) (.box (some 6) (.pv (some 6) g.pv)) (.arr (some 4) [] false) c g0 g1 g2 r0 Q
   simp only[hOf4,e1] at hlv
   refine hlv _ _ _ _ _ (fun r=> ?_)
   simp -dsimp -implicitDefEqProofs only[c12k17,c12k39,go_sem,seval,↓reduceIte,List.append_assoc,zag,zau,zap,zav,Nat.add_assoc,List.length_append,hOf4,happB,hstB,w2,w3]
   have:=key (c+1) (.box (some 6) (.pv (some 6) g.pv)) (.arr (some 4) [] false) hnx.symm
   simp only[hOf4,List.length_append,List.length_cons,List.length_nil,Nat.zero_add] at this
   exact this
  ·have hl:zeX l perm c g=0:=by simp[zeX,hk]
   have hnx:g.next c=c:=by simp[Gl.next,hk]
   rw[hl] at key
   simp -dsimp -implicitDefEqProofs only[c12k17,c12k39,go_sem,seval,↓reduceIte,List.append_assoc,zag,zau,zap,zav,Nat.add_assoc,List.length_append,hOf4,hc,hix,hld,zbl,hk,happA,hstA,happB,hstB,w2,w3]
   have:=key c (.box (some 6) (.pv (some 6) g.pv)) (.arr (some 4) [] false) hnx.symm
   simp only[hOf4,List.length_append,List.length_cons,List.length_nil,Nat.zero_add] at this
   exact this
 ·rintro⟨c,A,B⟩ ⟨hc0,hci,hA,hB,hAl,hBl⟩
  have hc:¬(x.goals.length:Int)<(x.goals.length:Int):=by omega
  dsimp only at hA hB
  rw[List.drop_length,zb1,List.append_nil] at hA
  rw[List.drop_length,zbe,List.append_nil] at hB
  simp -dsimp -implicitDefEqProofs only[c12k17,c12k39,go_sem,seval,↓reduceIte,List.append_assoc,zag,zau,zap,zav,Nat.add_assoc,List.length_append,hOf4,hc]
  have:=hQ
  rw[hA,hB] at this
  simp only[hOf4] at this
  exact this _
variable{H:List (Int × Int)->Heap} {n0 r:Nat} {f:FuncId}
theorem zpU{hp:Heap}{q n i:Nat}{sh:Sh}{es:List PV}{z:Bool}{p:PV}(h:hp[q]? =some (.arr sh es z))(hn:es.length=n)(hi:es[i]? =some p):aload sh hp (.eptr sh q n i 0)=some (.pv sh p):=by
 simp[aload,h,hn,hi]
theorem zpV{q n i:Nat}{sh s':Sh}{k:IntKind}(h:i<n):zcd sh [.sl sh q n 0 n,.pv s' (.int k i)]=some (.eptr sh q n i 0):=by
 have:=zal (sh:=sh) (r:=q) (v:=n) (o:=0) (s':=s') (k:=k) h
 rwa [Nat.zero_add] at this
def flA(x:Fl)(qg:Nat):AV:=.agg [(some 3,.pv (some 3) x.pred.pv),(none,.pv none (.sl (some 4) (Tm.pvs x.args))),(none,.sl (some 6) qg x.goals.length 0 x.goals.length)]
theorem zrq(x:Fl)(qg:Nat):AV.part deep (flA x qg) 3 none=some (.pv none (.sl (some 4) (Tm.pvs x.args))):=rfl
theorem zpW(x:Fl)(qg:Nat):AV.part deep (flA x qg) 4 none=some (.sl (some 6) qg x.goals.length 0 x.goals.length):=rfl
theorem zrr(R:Rnd H n0 r f)(x:Fl)(s:List (Int × Int))(fb:Nat)(hfb:fb<n0)(qg:Nat)(zg:Bool)(hqg:qg<n0)(hx:∀s,(H s)[fb]? =some (.box (some 5) (flA x qg)))(hyg:∀s,(H s)[qg]? =some (.arr (some 6) (Gl.pvs x.goals) zg))(ha:Tm.sizes x.args<1000000000)(hs:∀g∈x.goals,Tm.sizes g.args<1000000000)(hlen:x.goals.length<1000000000)(hlim:s.length+(zaj x).length<=LIM):
  S 39 [.yield r,.ptr fb 0] (H s)=some (.ret (.tuple []),H (s++zaj x)):=by
 refine zaI rfl rfl rfl rfl ?_
 have hlow:∀s ext,(H s++ext)[fb]? =some (.box (some 5) (flA x qg)):=fun s ext=>by rw[zdF (by rw[R.len];exact hfb)];exact hx s
 have hpl:(zaj x).length=(Tm.occs x.args).length+(zco 0 x.goals).length:=by simp[zaj]
 have h1:=fun ext=>each_ok' R 0 x.args s ext ha (by omega)
 simp -dsimp -implicitDefEqProofs only[go_sem,seval,↓reduceIte,List.append_assoc,Nat.add_assoc,List.length_append,R.len,getN (R.len _),zeo (R.len _),setN (R.len _),zeS (R.len _),hlow,hx,zrq,zpW,Gl.pvs_len,h1,zgL]
 refine zfS (α:=Int × List (Int × Int)) x.goals.length (fun i a=>0<=a.1/\a.1<=i/\s++zaj x=a.2++zco a.1 (x.goals.drop i))
  (fun i a=>⟨[(2,.ptr n0 0),(3,.ptr (n0+1) 0),(4,.func (.func 40) [] [.ptr n0 0,.ptr (n0+1) 0]),(14,.sl (some 6) qg x.goals.length 0 x.goals.length),(15,.pv none (.int .i64 x.goals.length)),(16,.pv none (.int .i64 i))],
   H a.2++.box none (.yield r)::.box none (.pv none (.int .i64 a.1))::[]⟩) (0,_) ⟨⟨Int.le_refl _,Int.le_refl _,?_⟩,rfl⟩ ?_ ?_
 ·simp[zaj]
 ·rintro i ⟨c,s'⟩ h ⟨hc0,hci,hfold⟩
  have hc:(i:Int)<(x.goals.length:Int):=by omega
  obtain⟨g,hg⟩:∃g,x.goals[i]? =some g:=⟨_,List.getElem?_eq_getElem h⟩
  have hgs:=hs g (List.mem_of_getElem? hg)
  have hfl:=congrArg List.length hfold
  simp only[List.length_append,zd7 hg] at hfl
  have hherl:(zeb c g).length=(Tm.occs g.args).length+(if g.op=true then 1 else 0):=by unfold zeb;split <;> simp
  have h2:=fun ext=>each_ok' R c g.args s' ext hgs (by omega)
  have h3:=zgR g
  have hld:∀s X,aload (some 6) (H s++X) (.eptr (some 6) qg x.goals.length i 0)=some (.pv (some 6) g.pv):=fun s X=>zpU (by rw[zdF (by rw[R.len];exact hqg)];exact hyg s) (Gl.pvs_len _) (Gl.pvs_get hg)
  have h4:=fun ext=>R.call (s'++(Tm.occs g.args).map (fun v=>(v,c))) g.var c ext
  have w2:IntKind.i64.wrap ((i:Int)+1)=((i+1:Nat):Int):=by rw[zah (by omega) (by omega)];omega
  have w3:IntKind.i64.wrap (c+1)=c+1:=by rw[zah (by omega) (by omega)]
  rw[zd7 hg,<-List.append_assoc] at hfold
  have hcl:∀(l:Fr) (s1:List (Int × Int)) (y z:AObj) (e:Heap),l.all (fun x=>x.2.refsIn.all (fun q=>decide (q<n0+2)))=true->y.refs.all (fun q=>decide (q<n0+2))=true->z.refs.all (fun q=>decide (q<n0+2))=true->collect (n0+2) n0 l (H s1++y::z::e)=H s1++[y,z]:=fun l s1 y z e h h' h''=>
   zby 2 (R.len _) rfl (by simp[h',h'']) h
  by_cases hop:g.op=true <;> by_cases hk:g.kind=1
  all_goals
   have hher:zeb c g=(Tm.occs g.args).map (fun v=>(v,c))++(if g.op=true then[(g.var,c)] else[]):=rfl
   have hnx:g.next c=if g.kind=1 then c+1 else c:=rfl
   simp only[hop,hk,if_true,if_false,List.append_nil,Bool.false_eq_true] at hher hnx hherl
   rw[hher,hnx] at hfold
   first|(have h4:=fun ext=>h4 ext (by simp;omega))|skip
   simp only[List.append_assoc] at h4 hfold
   have hrl:=R.lt
   simp -dsimp -implicitDefEqProofs only[go_sem,seval,↓reduceIte,List.append_assoc,Nat.add_assoc,List.length_append,R.len,getN (R.len _),zeo (R.len _),setN (R.len _),zeS (R.len _),hc,zpV h,hld,zcK,zee,zbl,h2,h3,hop,hk,ziL,R.low,h4,w2,w3]
   rw[hcl _ _ _ _ _ (by simp[AV.refsIn,AV.refsIn.gol];omega) (by simp[AObj.refs,AV.refsIn];omega) (by simp[AObj.refs,AV.refsIn])]
   exact⟨(_,_),⟨by dsimp only;omega,by dsimp only;omega,by rw[hfold];simp only[List.append_assoc]⟩,rfl⟩
 ·rintro⟨c,s'⟩ ⟨hc0,hci,hfold⟩
  have hc:¬(x.goals.length:Int)<(x.goals.length:Int):=by omega
  simp -dsimp -implicitDefEqProofs only[go_sem,seval,↓reduceIte,hc]
  rw[List.drop_length,zco,List.append_nil] at hfold
  rw[hfold]
  simp[R.len,zay,zr0 (R.len _)]
theorem zpX(x:Fl)(qg:Nat)(hp:Heap):S 24 [flA x qg] hp=some (.ret (.func (.func 39) [] [.ptr hp.length 0]),hp++[.box (some 5) (flA x qg)]):=by
 refine zaI rfl rfl rfl rfl ?_
 have hb:∀H:Heap,wBox (some 5) H [flA x qg]=some (.ptr H.length 0,H++[.box (some 5) (flA x qg)]):=fun H=>by
  have e:∀n2 v2 (H:Heap),zai [(some 3,.pv (some 3) x.pred.pv),(none,.pv none (.sl (some 4) (Tm.pvs x.args))),(none,.sl (some 6) n2 v2 0 v2)] H=([(some 3,.pv (some 3) x.pred.pv),(none,.pv none (.sl (some 4) (Tm.pvs x.args))),(none,.sl (some 6) n2 v2 0 v2)],H):=fun _ _ _=>rfl
  simp[wBox,flA,AV.plain,AV.shp,AV.own,total,Sh.size,e]
 simp -dsimp -implicitDefEqProofs only[go_sem,seval,↓reduceIte,hb]
 simp[AV.refsIn,AV.refsIn.gol,zay,zcs]
end Go.Proofs.Ytmajapjbogmefaa
