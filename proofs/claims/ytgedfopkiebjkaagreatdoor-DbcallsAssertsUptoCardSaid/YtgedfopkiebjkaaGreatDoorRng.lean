/- Vars and Rename: from chapter 25. -/
import Derived.Test.YtgedfopkiebjkaaGreatDoorUnf
import Derived.Test.YtgedfopkiebjkaaGreatDoorAm5
import Derived.Test.YtgedfopkiebjkaaGreatDoorRcc
import Derived.Test.YtgedfopkiebjkaaGreatDoorRdx
set_option linter.unusedSimpArgs false
set_option linter.unusedVariables false
set_option maxRecDepth 20000
namespace Go.Proofs.YtgedfopkiebjkaaGreatDoor
open Go.Am
mutual
def shT(d:Int):Tm->Tm
 | .mk k n s ts=>if k=0 then .mk 0 (n+d) [] [] else .mk k n s (shTs d ts)
def shTs(d:Int):List Tm->List Tm
 |[]=>[]
 |t::r=>shT d t::shTs d r
end
theorem jS(d:Int):∀l:List Tm,shTs d l=l.map (shT d)
 |[]=>rfl
 |t::r=>by rw[shTs,jS d r];rfl
theorem QP(d:Int)(t:Tm):shT d t=if t.kind=0 then .mk 0 (t.n+d) [] [] else .mk t.kind t.n t.name (shTs d t.args):=by cases t;rfl
def Xs(l:List Int):List (Int × PV):=l.map fun v=>(v,.int .i64 1)
theorem vj(v:Int):∀l:List Int,(Y6 v (Xs l)).getD (.int .i64 0)=.int .i64 (if v∈l then 1 else 0)
 |[]=>rfl
 |x::r=>by
  have ih:=vj v r
  grind [Xs,Y6]
theorem B1(v:Int):∀l:List Int,v ∉ l->mPut v (.int .i64 1) (Xs l)=Xs (l++[v])
 |[],_=>rfl
 |x::r,h=>by
  have ih:=B1 v r fun hm=>h (Zm _ hm)
  grind [Xs,mPut]
def gV(t:Tm)(l:List Int):Heap:=[.box (some 4) (.pv (some 4) t.pv),.arr none [] false,.box none (.sl none 3 l.length 0 l.length),.arr none (ints l) false,.map none (Ya (Xs l)),.box none (.map 4)]
theorem O7(t0 u:Tm)(l:List Int)(ext:Heap)(hl:l.length<100000000):
  S 140 [u.av,.ptr 5 0,.ptr 2 0] (gV t0 l++ext)=some (.ret u.av,gV t0 (vadd l u.n)++ext):=by
 refine Yk rfl rfl rfl rfl ?_;have hlim:l.length+1<=lim:=by grind [lim]
 by_cases hm:u.n∈l
 ·have e:vadd l u.n=l:=by grind [vadd]
  rw[e];have hlk:∀(a0 a1 a2 a3 a5:AObj) (e:Heap),YH false none (P4 0) false (a0::a1::a2::a3::.map none (Ya (Xs l))::a5::e) [.map 4,P4 u.n]=some (P4 1):=fun a0 a1 a2 a3 a5 e=>by
   rw[ju (m:=Xs l) rfl,vj,Zh hm]
  simp -dsimp -implicitDefEqProofs only[go_sem,seval,gV,Tm.av,Yd,hlk]
  grind [AV.refsIn]
 ·have e:vadd l u.n=l++[u.n]:=by grind [vadd]
  rw[e];have hlk:∀(a0 a1 a2 a3 a5:AObj) (e:Heap),YH false none (P4 0) false (a0::a1::a2::a3::.map none (Ya (Xs l))::a5::e) [.map 4,P4 u.n]=some (P4 0):=fun a0 a1 a2 a3 a5 e=>by
   rw[ju (m:=Xs l) rfl,vj,Zb hm]
  have hms:∀(a0 a1 a2 a3 a5:AObj) (e:Heap),yT false none (a0::a1::a2::a3::.map none (Ya (Xs l))::a5::e) [.map 4,P4 u.n,P4 1]=some (.undef,a0::a1::a2::a3::.map none (Ya (Xs (l++[u.n])))::a5::e):=fun a0 a1 a2 a3 a5 e=>by
   grind [Q9,QG,B1]
  have hst:∀(n o' n':Nat) (a0 a1 a3 a4 a5:AObj) (e:Heap) (b:Nat),zL none (b+6) (a0::a1::.box none (.sl none 3 n 0 n)::a3::a4::a5::e) [.ptr 2 0,.sl none 3 n' o' n']=some (.undef,a0::a1::.box none (.sl none 3 n' o' n')::a3::a4::a5::e):=fun n o' n' a0 a1 a3 a4 a5 e b=>mV (by omega) rfl;simp -dsimp -implicitDefEqProofs only[go_sem,seval,gV,Tm.av,Yd,hlk,hms,hst,Y9,hlim,gi]
  grind [AV.refsIn]
theorem O8(t0:Tm):∀(t:Tm) (l:List Int) (ext:Heap),t.fits=true->t.size<10000000->l.length+t.size<100000000->
  ∃v e,S 76 [t.av,.func (.func 140) [] [.ptr 5 0,.ptr 2 0]] (gV t0 l++ext)=some (.ret v,gV t0 (vads l t.occ)++(ext++e))/\v.shp=some 4/\v.plain=true/\
   ∃e2,AV.freeze deep v (gV t0 (vads l t.occ)++(ext++e))=some (t.pv,gV t0 (vads l t.occ)++(ext++e2)):=by
 intro t
 induction t using Tm.zA6 with
 |h t ih=>
  intro l ext hf ht hl;have hts:=t.size_eq;have hlen:=Tm.zA5 t.args;obtain⟨K,hK⟩:∃K:List Int->Heap,K=fun l=>gV t0 l++ext:=⟨_,rfl⟩;have hKs:∀l,gV t0 l++ext=K l:=fun l=>by rw[hK]
  have hKl:∀l,(K l).length=ext.length+6:=fun l=>by simp_all[gV]
  have hKa:∀l X,gV t0 l++(ext++X)=K l++X:=fun l X=>by grind
  simp only[hKa,hKs];obtain⟨n,hn⟩:∃n,n=ext.length+6:=⟨_,rfl⟩;rw[<-hn] at hKl;rw[Tm.zA8];by_cases hk:t.kind=0
  ·rw[Zh hk];have h1:=fun X=>O7 t0 t l (ext++X) (by omega);simp only[hKa] at h1;have e1:vads l [t.n]=vadd l t.n:=rfl;rw[e1];refine⟨t.av,[],?_,rfl,rfl,⟨[],rfl⟩⟩;rw[ZT];refine Yk rfl rfl rfl rfl ?_;have hk':=Zg hk;simp only[Tm.av] at h1;simp -dsimp -implicitDefEqProofs only[go_sem,seval,Tm.av,zO,hk',h1,hKl,getN (hKl _),z7 (hKl _),setN (hKl _),Yi (hKl _)]
   grind [AV.refsIn]
  ·rw[Zb hk];refine⟨.agg [(none,P4 t.kind),(none,P4 t.n),(none,P6 t.name),(none,.sl (some 4) (n+5) t.args.length 0 t.args.length)],
    [.box (some 4) (.pv (some 4) t.pv),.box (some 4) (.agg [(none,P4 t.kind),(none,P4 t.n),(none,P6 t.name),(none,.sl (some 4) (n+5) t.args.length 0 t.args.length)]),.arr (some 4) [] false,.box (some 4) (.agg [(none,P4 t.kind),(none,P4 t.n),(none,P6 t.name),(none,.sl (some 4) (n+5) t.args.length 0 t.args.length)]),.arr (some 4) [] false,.arr (some 4) (Tm.pvs t.args) false],?_,rfl,rfl,?_⟩
   ·refine Yk rfl rfl rfl rfl ?_;have hk':=Zi hk;have hb:zT A0 [0,1,2] [P4 t.kind,P4 t.n,P6 t.name]=some (.agg [(none,P4 t.kind),(none,P4 t.n),(none,P6 t.name),(none,.tsl (some 4) [])]):=rfl;have hle:∀k,n<=n+k:=fun k=>Zf _ _;rw[hKl];simp -dsimp -implicitDefEqProofs only[go_sem,seval,Tm.av,zO,Yd,zU,zK,hk',Tm.pvs_len,hb,zH (Zf _ _),hKl,getN (hKl _),z7 (hKl _),setN (hKl _),Yi (hKl _)];refine Ye (α:=Unit) t.args.length (fun _ _=>True) (fun i _=>⟨[(1,.func (.func 140) [] [.ptr 5 0,.ptr 2 0]),(4,.ptr (n+1) 0),(5,.ptr (n+3) 0),(22,.pv none (.sl (some 4) (Tm.pvs t.args))),(23,P4 t.args.length),(24,P4 i)],K (vads l (Tm.occs (t.args.take i)))++appH n t i⟩) () ⟨trivial,?_⟩ ?_ ?_
    ·rw[zl];rfl
    ·rintro i - h -;have hc:(i:Int)<(t.args.length:Int):=by omega
     obtain⟨u,hu⟩:∃u,t.args[i]? =some u:=⟨_,Zd h⟩;have hum:=Zj hu;have husz:=Tm.zBb hum;have hst:=Tm.zBd hu;have hle2:=Tm.zBa t.args (i+1);have hvl:=xk (Tm.occs (t.args.take i)) l;have hol:=Tm.zBh (t.args.take i);obtain⟨v,e,hcall,hvs,hvp,e2,hfz⟩:=ih u hum (vads l (Tm.occs (t.args.take i))) (ext++(appH n t i++[.box (some 4) (.pv (some 4) u.pv),.arr (some 4) [] false])) (Tm.zA7 hf hum) (by omega) (by omega);rw[<-xQ,<-Tm.zBg hu] at hcall hfz;simp only[Zn,hKa] at hcall hfz;generalize vads l (Tm.occs (t.args.take (i+1)))=l2 at hcall hfz ⊢;generalize vads l (Tm.occs (t.args.take i))=l1 at hcall hfz hvl ⊢;have w2:IntKind.i64.wrap ((i:Int)+1)=((i+1:Nat):Int):=by grind [zW]
     have hl:(Tm.pvs (t.args.take i)).length=i:=by grind [Tm.pvs_len]
     have hlim:i+1<=lim:=by grind [lim]
     have hbs:YZ (some 4) (K l2++(appH n t i++([.box (some 4) (.pv (some 4) u.pv),.arr (some 4) [] false]++e))) [v]=some (.tsl (some 4) [u.pv],K l2++(appH n t i++([.box (some 4) (.pv (some 4) u.pv),.arr (some 4) [] false]++e2))):=by
      simp_all[YZ,zZ,YP]
     have hs1:∀(k k':List Int) (e e':Heap),Yx (K k++(appH n t i++e)) (K k'++(appH n t i++e')) (.ptr (n+3) 3)=true:=fun k k' e e'=>Jd (t:=t) (q:=n+5) (i:=i) (by rw[getN (hKl _)];rfl) (by rw[getN (hKl _)];rfl);simp only[Tm.av] at hcall;simp only[appH,Zn,Zs,Zv] at hcall hbs hs1;simp -dsimp -implicitDefEqProofs only[go_sem,seval,appH,hc,zQ (Tm.pvs_get hu),xi,ZK,ZW,ZO,ZQ,hcall,hbs,hs1,w2,hl,hlim,Tm.zA9 hu,zH (Zf _ _),Y4 (Zf _ _),hKl,getN (hKl _),z7 (hKl _),setN (hKl _),Yi (hKl _)];simp_all[yF,AObj.refs,AV.ofComps,pures,AV.refsIn,AV.refsIn.go,AV.refsIn.gol]
    ·rintro - -;have hc:¬(t.args.length:Int)<(t.args.length:Int):=by omega
     simp -dsimp -implicitDefEqProofs only[go_sem,seval,appH,hc,ZF,zN,zH (Zf _ _),Y4 (Zf _ _),hKl,getN (hKl _),z7 (hKl _),setN (hKl _),Yi (hKl _)]
     grind [AV.refsIn,AV.refsIn.go]
   ·have e:=P0
    cases t with
    |mk k n' s ts=>
     refine⟨[.box (some 4) (.pv (some 4) (Tm.mk k n' s ts).pv),.box (some 4) (.agg [(none,P4 k),(none,P4 n'),(none,P6 s),(none,.sl (some 4) (n+5) ts.length 0 ts.length)]),.arr (some 4) [] false,.box (some 4) (.agg [(none,P4 k),(none,P4 n'),(none,P6 s),(none,.sl (some 4) (n+5) ts.length 0 ts.length)]),.arr (some 4) [] false,.arr (some 4) (Tm.pvs ts) true],?_⟩;show AV.freeze (7+1) (.agg _) _=_;simp[e,AV.freeze.go,AV.freeze,getN (hKl _),setN (hKl _),Tm.kind,Tm.n,Tm.name,Tm.args,Tm.pvs_len,Tm.pv]
theorem B2(t:Tm)(hv:t.valid=true)(hp:Heap):S 121 [t.av] hp=some (.ret (.pv none (.sl none (ints (vads [] t.occ)))),hp):=by
 refine zM rfl rfl rfl (zJ [(some 4,t.pv)]) rfl ?_;have hsz:=valid_size hv;have h1:=fun hp=>Y8 t hp (by omega);rw[hv] at h1;have hn0:∀H:Heap,YS none H=some (.sl none H.length 0 0 0,H++[.arr none [] false]):=fun H=>Xf (sh:=none) (by decide);obtain⟨v,e,h2,_,_,e2,hfz⟩:=O8 t t [] [] (valid_fits hv) (by omega) (by grind);generalize vads [] t.occ=l at*;simp only[Tm.av] at h1 h2;have hmk:∀(a0 a1 a2 a3:AObj),zL none 0 [a0,a1,a2,a3,.map none [],.box none (.pv none .nilmap)] [.ptr 5 0,.map 4]=some (.undef,[a0,a1,a2,a3,.map none [],.box none (.map 4)]):=fun _ _ _ _=>rfl;have e0:gV t []++[]=[.box (some 4) (.pv (some 4) t.pv),.arr none [] false,.box none (.sl none 3 0 0 0),.arr none [] false,.map none [],.box none (.map 4)]:=rfl;rw[e0] at h2;simp only[gV,Zv,Zs] at h2;have hal:∀a0 a1:AObj,yS none (.tsl none []) [a0,a1] []=some (.ptr 2 0,[a0,a1,.box none (.sl none 3 0 0 0),.arr none [] false]):=fun _ _=>rfl;have hfr:∀(a0 a1 a2 a4 a5:AObj),Am.frozen (.pv none (.sl none (ints l))) (.sl none 3 l.length 0 l.length) (a0::a1::a2::.arr none (ints l) false::a4::a5::e):=fun a0 a1 a2 a4 a5=>by
  refine⟨(a0::a1::a2::.arr none (ints l) false::a4::a5::e).set 3 (.arr none (ints l) true),?_⟩;simp[AV.freezeRes,AV.freeze,deep,Y9,AV.shp]
 simp -dsimp -implicitDefEqProofs only[go_sem,seval,Tm.av,h1,hn0,hal,hmk,h2]
 grind
def cagg(k:Int)(q:Nat):AV:=.agg [(none,P4 0),(none,P4 k),(none,P6 []),(none,.sl (some 4) q 0 0 0)]
theorem jT{k:Int}{q:Nat}{H:Heap}(h:H[q]? =some (.arr (some 4) [] false)):AV.freeze deep (cagg k q) H=some ((tvar k).pv,H.set q (.arr (some 4) [] true)):=by
 have e:=P0
 show AV.freeze (7+1) (.agg _) _=_;simp[e,AV.freeze.go,AV.freeze,h];rfl
def gR(t:Tm)(d:Int):Heap:=[.box (some 4) (.pv (some 4) t.pv),.box none (P4 d),.box (some 4) (cagg 0 3),.arr (some 4) [] false]
theorem O9(t0 u:Tm)(d:Int)(ext:Heap)(h0:0<=d)(h1:0<=u.n)(h2:d<=2000000000000)(h3:u.n<=2000000000000)(n:Nat)(hn:n=ext.length+4):
  S 142 [u.av,.ptr 1 0] (gR t0 d++ext)=some (.ret (cagg (u.n+d) (n+3)),gR t0 d++(ext++[.box (some 4) (.pv (some 4) u.pv),.box (some 4) (cagg (u.n+d) (n+3)),.arr (some 4) [] false,.arr (some 4) [] false])):=by
 obtain⟨K,hK⟩:∃K:Heap,K=gR t0 d++ext:=⟨_,rfl⟩;have hKl:K.length=n:=by simp_all[gR]
 have hK1:∀X,(K++X)[1]? =some (.box none (P4 d)):=fun X=>by rw[hK];rfl
 rw[<-Zn,<-hK];unfold cagg;refine Yk rfl rfl rfl rfl ?_;rw[hKl];have w1:IntKind.i64.wrap (u.n+d)=u.n+d:=zW (by omega) (by omega);have hb:∀k:Int,zT A0 [1] [P4 k]=some (.agg [(none,P4 0),(none,P4 k),(none,P6 []),(none,.tsl (some 4) [])]):=fun _=>rfl;simp -dsimp -implicitDefEqProofs only[go_sem,seval,Tm.av,Yd,w1,hb,zN,zH (Zf _ _),hK1,hKl,getN hKl,z7 hKl,setN hKl,Yi hKl]
 grind [AV.refsIn,AV.refsIn.go]
def okV(t:Tm):Prop:=∀v∈t.occ,0<=v/\v<=2000000000000
theorem okV.arg{t u:Tm}(h:okV t)(hk:¬t.kind=0)(hu:u∈t.args):okV u:=fun v hv=>h v (by
 rw[Tm.zA8,Zb hk];have:∀l:List Tm,u∈l->v∈Tm.occs l:=by
  intro l
  induction l with
  |nil=>grind
  |cons x r ih=>
   grind [Tm.occs]
 grind)
theorem oc(t0:Tm)(d:Int)(h0:0<=d)(h2:d<=2000000000000):∀(t:Tm) (ext:Heap),t.fits=true->t.size<10000000->okV t->
  ∃v e,S 76 [t.av,.func (.func 142) [] [.ptr 1 0]] (gR t0 d++ext)=some (.ret v,gR t0 d++(ext++e))/\v.shp=some 4/\v.plain=true/\(∀H,v.own H=(v,H))/\
   (∃e2,AV.freeze deep v (gR t0 d++(ext++e))=some ((shT d t).pv,gR t0 d++(ext++e2)))/\
   ∀H:Heap,(∀j,ext.length+4<=j->H[j]? =(gR t0 d++(ext++e))[j]?)->∃H2,AV.freeze deep v H=some ((shT d t).pv,H2):=by
 intro t
 induction t using Tm.zA6 with
 |h t ih=>
  intro ext hf ht hV;have hts:=t.size_eq;have hlen:=Tm.zA5 t.args;obtain⟨n,hn⟩:∃n,n=ext.length+4:=⟨_,rfl⟩;obtain⟨K,hK⟩:∃K:Heap,K=gR t0 d++ext:=⟨_,rfl⟩;have hKl:K.length=n:=by simp_all[gR]
  have hKa:∀X,gR t0 d++(ext++X)=K++X:=fun X=>by grind
  simp only[<-hn];simp only[hKa,<-hK];by_cases hk:t.kind=0
  ·have hV1:=hV t.n (by grind [Tm.zA8]);have h1:=fun X=>O9 t0 t d (ext++X) h0 hV1.1 h2 hV1.2;simp only[Zn] at h1;simp only[hKa] at h1;have e2:shT d t=tvar (t.n+d):=by
    rw[QP,Zh hk];rfl
   rw[e2];generalize t.n+d=k at*;refine⟨cagg k (n+6),[.box (some 4) (.pv (some 4) t.pv),.box (some 4) (cagg k (n+6)),.arr (some 4) [] false,.box (some 4) (.pv (some 4) t.pv),.box (some 4) (cagg k (n+6)),.arr (some 4) [] false,.arr (some 4) [] false],?_,rfl,rfl,fun _=>rfl,?_,fun H hH=> ?_⟩
   ·unfold cagg;refine Yk rfl rfl rfl rfl ?_;have hk':=Zg hk;have h2:=h1 [.box (some 4) (.pv (some 4) t.pv),.box (some 4) (cagg 0 (n+2)),.arr (some 4) [] false] (n+3) (by grind);simp only[Tm.av,cagg,Zs,Zv] at h2;rw[hKl];simp -dsimp -implicitDefEqProofs only[go_sem,seval,Tm.av,cagg,zO,hk',h2,zN,hKl,getN hKl,z7 hKl,setN hKl,Yi hKl,zH (Zf _ _)];simp_all[Zb,AV.refsIn,AV.refsIn.go]
   ·refine⟨[.box (some 4) (.pv (some 4) t.pv),.box (some 4) (cagg k (n+6)),.arr (some 4) [] false,.box (some 4) (.pv (some 4) t.pv),.box (some 4) (cagg k (n+6)),.arr (some 4) [] false,.arr (some 4) [] true],?_⟩;rw[jT (by rw[getN hKl];rfl),setN hKl];rfl
   ·exact⟨_,jT (by rw[hH _ (by omega),getN hKl];rfl)⟩
  ·obtain⟨ts',hts'⟩:∃ts',ts'=t.args.map (shT d):=⟨_,rfl⟩;have htl:ts'.length=t.args.length:=by grind
   rw[QP,Zb hk,jS,<-hts'];refine⟨.agg [(none,P4 t.kind),(none,P4 t.n),(none,P6 t.name),(none,.sl (some 4) (n+5) t.args.length 0 t.args.length)],
    [.box (some 4) (.pv (some 4) t.pv),.box (some 4) (.agg [(none,P4 t.kind),(none,P4 t.n),(none,P6 t.name),(none,.sl (some 4) (n+5) t.args.length 0 t.args.length)]),.arr (some 4) [] false,.box (some 4) (.agg [(none,P4 t.kind),(none,P4 t.n),(none,P6 t.name),(none,.sl (some 4) (n+5) t.args.length 0 t.args.length)]),.arr (some 4) [] false,.arr (some 4) (Tm.pvs ts') false],?_,rfl,rfl,fun _=>rfl,?_,?_⟩
   ·refine Yk rfl rfl rfl rfl ?_;have hk':=Zi hk;have hb:zT A0 [0,1,2] [P4 t.kind,P4 t.n,P6 t.name]=some (.agg [(none,P4 t.kind),(none,P4 t.n),(none,P6 t.name),(none,.tsl (some 4) [])]):=rfl;rw[hKl];simp -dsimp -implicitDefEqProofs only[go_sem,seval,Tm.av,zO,Yd,zU,zK,hk',Tm.pvs_len,hb,zH (Zf _ _),hKl,getN hKl,z7 hKl,setN hKl,Yi hKl];refine Ye (α:=Unit) t.args.length (fun _ _=>True) (fun i _=>⟨[(1,.func (.func 142) [] [.ptr 1 0]),(4,.ptr (n+1) 0),(5,.ptr (n+3) 0),(22,.pv none (.sl (some 4) (Tm.pvs t.args))),(23,P4 t.args.length),(24,P4 i)],K++appC n t ts' i⟩) () ⟨trivial,?_⟩ ?_ ?_
    ·rfl
    ·rintro i - h -;have hc:(i:Int)<(t.args.length:Int):=by omega
     obtain⟨u,hu⟩:∃u,t.args[i]? =some u:=⟨_,Zd h⟩;have hum:=Zj hu;have husz:=Tm.zBb hum;obtain⟨v,e,hcall,hvs,hvp,_,⟨e2,hfz⟩,_⟩:=ih u hum (ext++(appC n t ts' i++[.box (some 4) (.pv (some 4) u.pv),.arr (some 4) [] false])) (Tm.zA7 hf hum) (by omega) (hV.arg hk hum);simp only[Zn,hKa] at hcall hfz;have w2:IntKind.i64.wrap ((i:Int)+1)=((i+1:Nat):Int):=by grind [zW]
     have hl:(Tm.pvs (ts'.take i)).length=i:=by grind [Tm.pvs_len]
     have hlim:i+1<=lim:=by grind [lim]
     have hus:ts'[i]? =some (shT d u):=by grind
     have hbs:YZ (some 4) (K++(appC n t ts' i++([.box (some 4) (.pv (some 4) u.pv),.arr (some 4) [] false]++e))) [v]=some (.tsl (some 4) [(shT d u).pv],K++(appC n t ts' i++([.box (some 4) (.pv (some 4) u.pv),.arr (some 4) [] false]++e2))):=by
      simp_all[YZ,zZ,YP]
     have hs1:∀(e e':Heap),Yx (K++(appC n t ts' i++e)) (K++(appC n t ts' i++e')) (.ptr (n+3) 3)=true:=fun e e'=>Jd (t:=t) (q:=n+5) (i:=i) (by rw[getN hKl];rfl) (by rw[getN hKl];rfl);simp only[Tm.av] at hcall;simp only[appC,Zn,Zs,Zv] at hcall hbs hs1;simp -dsimp -implicitDefEqProofs only[go_sem,seval,appC,hc,zQ (Tm.pvs_get hu),xi,ZK,ZW,ZO,ZQ,hcall,hbs,hs1,w2,hl,hlim,Tm.zA9 hus,zH (Zf _ _),Y4 (Zf _ _),hKl,getN hKl,z7 hKl,setN hKl,Yi hKl];refine⟨(),?_⟩;rw[yF 6 hKl rfl (by simp[AObj.refs,AV.ofComps,pures,AV.refsIn,AV.refsIn.go]) (by simp[AV.refsIn,AV.refsIn.gol])];rfl
    ·rintro - -;have hc:¬(t.args.length:Int)<(t.args.length:Int):=by omega
     have htk:ts'.take t.args.length=ts':=Zl (by omega);simp -dsimp -implicitDefEqProofs only[go_sem,seval,appC,hc,htk,zN,zH (Zf _ _),Y4 (Zf _ _),hKl,getN hKl,z7 hKl,setN hKl,Yi hKl]
     grind [AV.refsIn,AV.refsIn.go]
   ·have e:=P0
    refine⟨[.box (some 4) (.pv (some 4) t.pv),.box (some 4) (.agg [(none,P4 t.kind),(none,P4 t.n),(none,P6 t.name),(none,.sl (some 4) (n+5) t.args.length 0 t.args.length)]),.arr (some 4) [] false,.box (some 4) (.agg [(none,P4 t.kind),(none,P4 t.n),(none,P6 t.name),(none,.sl (some 4) (n+5) t.args.length 0 t.args.length)]),.arr (some 4) [] false,.arr (some 4) (Tm.pvs ts') true],?_⟩;show AV.freeze (7+1) (.agg _) _=_;simp[e,AV.freeze.go,AV.freeze,getN hKl,setN hKl,htl,Tm.pvs_len,Tm.pv]
   ·intro H hH;have h5:=hH (n+5) (by omega);rw[getN hKl] at h5;have e:=P0
    refine⟨H.set (n+5) (.arr (some 4) (Tm.pvs ts') true),?_⟩;show AV.freeze (7+1) (.agg _) _=_;simp_all[AV.freeze.go,AV.freeze,Tm.pvs_len,Tm.pv]
theorem od:∀{t:Tm},t.fits=true->∀v∈t.occ,0<=v/\v<=1099511627776:=by
 intro t
 induction t using Tm.zA6 with
 |h t ih=>
  intro hf v hv;rw[Tm.zA8] at hv;split at hv
  ·grind [Tm.zBc,Tm.node]
  ·have:∀l:List Tm,(∀u∈l,u∈t.args)->v∈Tm.occs l->0<=v/\v<=1099511627776:=by
    intro l
    induction l with
    |nil=>intro _ h;cases h
    |cons x r ihr=>
     grind [Tm.occs,Tm.zA7]
   grind
def movable(d:Int)(t:Tm):Bool:=t.occ.all fun v=>decide (v<=1099511627776 - d)
theorem B3(t:Tm)(hv:t.valid=true)(d:Int)(h0:0<=d)(hd:d<=1099511627776)(hp:Heap):S 122 [t.av,P4 d] hp=some (.ret (.tuple [if movable d t=true then(shT d t).av else zt.av,P4 (if movable d t=true then 0 else 2)]),hp):=by
 refine zM rfl rfl rfl (zJ [(some 4,t.pv),(none,.int .i64 d)]) rfl ?_;have hsz:=valid_size hv;have hf:=valid_fits hv;have h1:=fun hp=>Y8 t hp (by omega);rw[hv] at h1;have hn:∀hp,S 141 [P4 d] hp=some (.ret (P5 true),hp):=fun hp=>by
  refine zM rfl rfl rfl (zJ [(none,.int .i64 d)]) rfl ?_;have c1:(0:Int)<=d:=h0;have c2:d<=1099511627776:=hd
  (repeat' (first|(simp -dsimp -implicitDefEqProofs only[go_sem,seval,c1,c2, *])|(refine YX (fun _=> ?_) (fun _=> ?_))))
 have hvars:=fun hp=>B2 t hv hp;have hol:t.occ.length<=t.size:=by
  have:=Tm.zBh [t]
  grind [Tm.occs,Tm.sizes]
 have hvl:=xk t.occ [];have hmem:=Jh t.occ [];have hmv:movable d t=true↔∀v∈vads [] t.occ,v<=1099511627776 - d:=by
  grind [movable]
 obtain⟨v,e,h2,h3,h4,h5,_,h6⟩:=oc t d h0 (by omega) t [] hf (by omega) (fun v hv=>by have:=od hf v hv;omega);generalize hl:vads [] t.occ=l at*;have hll:l.length<10000000:=by grind
 simp only[Tm.av,gR,cagg,Zs,Zv] at h1 h2 hvars;have w1:IntKind.i64.wrap (1099511627776 - d)=1099511627776 - d:=zW (by omega) (by omega);have hst:∀(a0 a1 a3:AObj),zL (some 4) 0 (a0::a1::.box (some 4) (.agg [(none,P4 0),(none,P4 0),(none,P6 []),(none,.sl (some 4) 3 0 0 0)])::a3::e) [.ptr 2 0,v]=some (.undef,a0::a1::.box (some 4) v::a3::e):=fun _ _ _=>by
  simp_all[zL,astore]
 have hb:=P1;simp -dsimp -implicitDefEqProofs only[go_sem,seval,Tm.av,h1,hn,hvars,Y9,zN,zH (Za _)];refine Ye (α:=Unit) l.length (fun i _=>∀v∈l.take i,v<=1099511627776 - d) (fun i _=>⟨[(2,.ptr 0 0),(3,.ptr 1 0),(4,.ptr 2 0),(18,.pv none (.sl none (ints l))),(19,P4 l.length),(20,P4 i)],[.box (some 4) (.pv (some 4) t.pv),.box none (P4 d),.box (some 4) (.agg [(none,P4 0),(none,P4 0),(none,P6 []),(none,.sl (some 4) 3 0 0 0)]),.arr (some 4) [] false]⟩) () ⟨fun v hv=>by grind,rfl⟩ ?_ ?_
 ·rintro i - h hinv;have hc:(i:Int)<(l.length:Int):=by omega
  obtain⟨w,hw⟩:∃w,l[i]? =some w:=⟨_,Zd h⟩;have w2:IntKind.i64.wrap ((i:Int)+1)=((i+1:Nat):Int):=by grind [zW]
  by_cases hw2:1099511627776 - d<w
  ·have hm:¬movable d t=true:=fun hm=>by
    have:=hmv.1 hm w (Zj hw);omega
   simp -dsimp -implicitDefEqProofs only[go_sem,seval,hc,zQ (QF hw),w1,hw2,hb,zN,zH (Za _),kR];rw[Zb hm,Zb hm];rfl
  ·simp -dsimp -implicitDefEqProofs only[go_sem,seval,hc,zQ (QF hw),w1,w2,hw2];refine⟨(),fun v hv=> ?_,?_⟩
   ·grind [Z0]
   grind [QA]
 ·rintro - hinv;have hc:¬(l.length:Int)<(l.length:Int):=by omega
  rw[ZF] at hinv;have hm:movable d t=true:=hmv.2 hinv;simp -dsimp -implicitDefEqProofs only[go_sem,seval,hc,h2,hst,kR];rw[Zh hm,Zh hm];obtain⟨H2,k⟩:=h6 (.box (some 4) (.pv (some 4) t.pv)::.box none (P4 d)::.box (some 4) v::.arr (some 4) [] false::e) fun j hj=>by
   match j,hj with
   |j+4,_=>rfl
  have ef:zZ [v,P4 0] (.box (some 4) (.pv (some 4) t.pv)::.box none (P4 d)::.box (some 4) v::.arr (some 4) [] false::e)=some ([(some 4,(shT d t).pv),(none,.int .i64 0)],H2):=by
   simp only[zZ,k,h3];rfl
  rw[ef];rfl
def gC(t:Tm)(l:List Int):Heap:=[.box (some 4) (.pv (some 4) t.pv),.box (some 4) (cagg 0 2),.arr (some 4) [] false,.map none (Ya (posF 0 l)),.box none (.map 3)]
theorem B4(t:Tm)(l:List Int)(ext:Heap):(gC t l++ext).length=ext.length+5:=by simp[gC]
theorem gC_4(t:Tm)(l:List Int)(ext X:Heap):(gC t l++ext++X)[4]? =some (.box none (.map 3)):=rfl
theorem gC_3(t:Tm)(l:List Int)(ext X:Heap):(gC t l++ext++X)[3]? =some (.map none (Ya (posF 0 l))):=rfl
theorem oe(t:Tm)(l l':List Int)(ext X:Heap):(gC t l++ext++X).set 3 (.map none (Ya (posF 0 l')))=gC t l'++ext++X:=rfl
theorem og(t0 u:Tm)(l:List Int)(ext:Heap)(hl:l.length<100000000)(n:Nat)(hn:n=ext.length+5):
  S 77 [u.av,.ptr 4 0] (gC t0 l++ext)=some (.ret (cagg ((vadd l u.n).idxOf u.n:Nat) (n+3)),gC t0 (vadd l u.n)++(ext++[.box (some 4) (.pv (some 4) u.pv),.box (some 4) (cagg ((vadd l u.n).idxOf u.n:Nat) (n+3)),.arr (some 4) [] false,.arr (some 4) [] false])):=by
 obtain⟨K,hK⟩:∃K:List Int->Heap,K=fun l=>gC t0 l++ext:=⟨_,rfl⟩;have hKs:∀l,gC t0 l++ext=K l:=fun l=>by rw[hK]
 have hKl:∀l,(K l).length=n:=fun l=>by grind [B4]
 have hKa:∀l X,gC t0 l++(ext++X)=K l++X:=fun l X=>by grind
 have hK4:∀l X,(K l++X)[4]? =some (.box none (.map 3)):=fun l X=>by grind [gC_4]
 have hK3:∀l X,(K l++X)[3]? =some (.map none (Ya (posF 0 l))):=fun l X=>by grind [gC_3]
 have hKS:∀l l' X,(K l++X).set 3 (.map none (Ya (posF 0 l')))=K l'++X:=fun l l' X=>by grind [oe]
 have hle:∀k,n<=n+k:=fun k=>Zf _ _;rw[hKa,hKs];unfold cagg;refine Yk rfl rfl rfl rfl ?_;rw[hKl];have hb:∀k:Int,zT A0 [1] [P4 k]=some (.agg [(none,P4 0),(none,P4 k),(none,P6 []),(none,.tsl (some 4) [])]):=fun _=>rfl;by_cases hm:u.n∈l
 ·have e:vadd l u.n=l:=by grind [vadd]
  rw[e];have hlk:∀X:Heap,YH false none (P4 0) true (K l++X) [.map 3,P4 u.n]=some (.tuple [P4 ((l.idxOf u.n:Nat):Int),P5 true]):=fun X=>by
   grind [jx,Jj]
  simp -dsimp -implicitDefEqProofs only[go_sem,seval,cagg,Tm.av,Yd,hlk,hb,zN,zH (Zf _ _),hK4,hKl,getN (hKl _),z7 (hKl _),setN (hKl _),Yi (hKl _)]
  grind [AV.refsIn,AV.refsIn.go]
 ·have e:vadd l u.n=l++[u.n]:=by grind [vadd]
  rw[e,Vt hm];have hlk:∀X:Heap,YH false none (P4 0) true (K l++X) [.map 3,P4 u.n]=some (.tuple [P4 0,P5 false]):=fun X=>by
   grind [jx,Jj]
  have hml:∀X:Heap,y7 (K l++X) [.map 3]=some (P4 (l.length:Int)):=fun X=>by
   grind [y7,Ya,jv]
  have hms:∀X:Heap,yT false none (K l++X) [.map 3,P4 u.n,P4 (l.length:Int)]=some (.undef,K (l++[u.n])++X):=fun X=>by
   have:=Vr u.n l 0 hm
   grind [Q9,QG]
  simp -dsimp -implicitDefEqProofs only[go_sem,seval,cagg,Tm.av,Yd,hlk,hml,hms,hb,zN,zH (Zf _ _),hK4,hKl,getN (hKl _),z7 (hKl _),setN (hKl _),Yi (hKl _)]
  grind [AV.refsIn,AV.refsIn.go]
theorem oh(t0:Tm):∀(t:Tm) (l L:List Int) (ext:Heap),t.fits=true->t.size<10000000->l.length+t.size<100000000->vads l t.occ <+: L->
  ∃v e,S 76 [t.av,.func (.func 77) [] [.ptr 4 0]] (gC t0 l++ext)=some (.ret v,gC t0 (vads l t.occ)++(ext++e))/\v.shp=some 4/\v.plain=true/\(∀H,v.own H=(v,H))/\
   (∃e2,AV.freeze deep v (gC t0 (vads l t.occ)++(ext++e))=some ((Tm.sub (cPos L) t).pv,gC t0 (vads l t.occ)++(ext++e2)))/\
   ∀H:Heap,(∀j,ext.length+5<=j->H[j]? =(gC t0 (vads l t.occ)++(ext++e))[j]?)->∃H2,AV.freeze deep v H=some ((Tm.sub (cPos L) t).pv,H2):=by
 intro t
 induction t using Tm.zA6 with
 |h t ih=>
  intro l L ext hf ht hl hp;have hts:=t.size_eq;have hlen:=Tm.zA5 t.args;obtain⟨n,hn⟩:∃n,n=ext.length+5:=⟨_,rfl⟩;have h1:=fun X=>og t0 t l (ext++X) (by omega);obtain⟨K,hK⟩:∃K:List Int->Heap,K=fun l=>gC t0 l++ext:=⟨_,rfl⟩;have hKs:∀l,gC t0 l++ext=K l:=fun l=>by rw[hK]
  have hKl:∀l,(K l).length=n:=fun l=>by grind [B4]
  have hKa:∀l X,gC t0 l++(ext++X)=K l++X:=fun l X=>by grind
  simp only[<-hn];simp only[Zn] at h1;simp only[hKa] at h1;simp only[hKa,hKs];rw[Tm.zA8] at hp ⊢;by_cases hk:t.kind=0
  ·rw[Zh hk] at hp ⊢;have e1:vads l [t.n]=vadd l t.n:=rfl;rw[e1] at hp ⊢;have e2:Tm.sub (cPos L) t=tvar ((vadd l t.n).idxOf t.n:Nat):=by
    grind [Tm.zBe,cPos,Vs,gl]
   rw[e2];generalize (((vadd l t.n).idxOf t.n:Nat):Int)=k at*;generalize vadd l t.n=l2 at*;refine⟨cagg k (n+6),[.box (some 4) (.pv (some 4) t.pv),.box (some 4) (cagg k (n+6)),.arr (some 4) [] false,.box (some 4) (.pv (some 4) t.pv),.box (some 4) (cagg k (n+6)),.arr (some 4) [] false,.arr (some 4) [] false],?_,rfl,rfl,fun _=>rfl,?_,fun H hH=> ?_⟩
   ·unfold cagg;refine Yk rfl rfl rfl rfl ?_;have hk':=Zg hk;have h2:=h1 [.box (some 4) (.pv (some 4) t.pv),.box (some 4) (cagg 0 (n+2)),.arr (some 4) [] false] (n+3) (by grind);simp only[Tm.av,cagg,Zs,Zv] at h2;rw[hKl];simp -dsimp -implicitDefEqProofs only[go_sem,seval,Tm.av,cagg,zO,hk',h2,zN,hKl,getN (hKl _),z7 (hKl _),setN (hKl _),Yi (hKl _),zH (Zf _ _)];simp_all[AV.refsIn,AV.refsIn.go]
   ·refine⟨[.box (some 4) (.pv (some 4) t.pv),.box (some 4) (cagg k (n+6)),.arr (some 4) [] false,.box (some 4) (.pv (some 4) t.pv),.box (some 4) (cagg k (n+6)),.arr (some 4) [] false,.arr (some 4) [] true],?_⟩;simp_all[jT]
   simp_all[jT]
  ·rw[Zb hk] at hp ⊢;rw[Vu hk];obtain⟨ts',hts'⟩:∃ts',ts'=t.args.map (Tm.sub (cPos L)):=⟨_,rfl⟩;have htl:ts'.length=t.args.length:=by grind
   rw[<-hts'];refine⟨.agg [(none,P4 t.kind),(none,P4 t.n),(none,P6 t.name),(none,.sl (some 4) (n+5) t.args.length 0 t.args.length)],
    [.box (some 4) (.pv (some 4) t.pv),.box (some 4) (.agg [(none,P4 t.kind),(none,P4 t.n),(none,P6 t.name),(none,.sl (some 4) (n+5) t.args.length 0 t.args.length)]),.arr (some 4) [] false,.box (some 4) (.agg [(none,P4 t.kind),(none,P4 t.n),(none,P6 t.name),(none,.sl (some 4) (n+5) t.args.length 0 t.args.length)]),.arr (some 4) [] false,.arr (some 4) (Tm.pvs ts') false],?_,rfl,rfl,fun _=>rfl,?_,?_⟩
   ·refine Yk rfl rfl rfl rfl ?_;have hk':=Zi hk;have hb:zT A0 [0,1,2] [P4 t.kind,P4 t.n,P6 t.name]=some (.agg [(none,P4 t.kind),(none,P4 t.n),(none,P6 t.name),(none,.tsl (some 4) [])]):=rfl;have hle:∀k,n<=n+k:=fun k=>Zf _ _;rw[hKl];simp -dsimp -implicitDefEqProofs only[go_sem,seval,Tm.av,zO,Yd,zU,zK,hk',Tm.pvs_len,hb,zH (Zf _ _),hKl,getN (hKl _),z7 (hKl _),setN (hKl _),Yi (hKl _)];refine Ye (α:=Unit) t.args.length (fun _ _=>True) (fun i _=>⟨[(1,.func (.func 77) [] [.ptr 4 0]),(4,.ptr (n+1) 0),(5,.ptr (n+3) 0),(22,.pv none (.sl (some 4) (Tm.pvs t.args))),(23,P4 t.args.length),(24,P4 i)],K (vads l (Tm.occs (t.args.take i)))++appC n t ts' i⟩) () ⟨trivial,?_⟩ ?_ ?_
    ·rw[zl];rfl
    ·rintro i - h -;have hc:(i:Int)<(t.args.length:Int):=by omega
     obtain⟨u,hu⟩:∃u,t.args[i]? =some u:=⟨_,Zd h⟩;have hum:=Zj hu;have husz:=Tm.zBb hum;have hst:=Tm.zBd hu;have hle2:=Tm.zBa t.args (i+1);have hvl:=xk (Tm.occs (t.args.take i)) l;have hol:=Tm.zBh (t.args.take i);have hpre:vads (vads l (Tm.occs (t.args.take i))) u.occ <+: L:=by
      grind [xQ,Tm.zBg,ZX,gm,jw]
     obtain⟨v,e,hcall,hvs,hvp,_,⟨e2,hfz⟩,_⟩:=ih u hum (vads l (Tm.occs (t.args.take i))) L (ext++(appC n t ts' i++[.box (some 4) (.pv (some 4) u.pv),.arr (some 4) [] false])) (Tm.zA7 hf hum) (by omega) (by omega) hpre;rw[<-xQ,<-Tm.zBg hu] at hcall hfz;simp only[Zn,hKa] at hcall hfz;generalize vads l (Tm.occs (t.args.take (i+1)))=l2 at hcall hfz ⊢;generalize vads l (Tm.occs (t.args.take i))=l1 at hcall hfz hvl ⊢;have w2:IntKind.i64.wrap ((i:Int)+1)=((i+1:Nat):Int):=by grind [zW]
     have hl:(Tm.pvs (ts'.take i)).length=i:=by grind [Tm.pvs_len]
     have hlim:i+1<=lim:=by grind [lim]
     have hus:ts'[i]? =some (Tm.sub (cPos L) u):=by grind
     have hbs:YZ (some 4) (K l2++(appC n t ts' i++([.box (some 4) (.pv (some 4) u.pv),.arr (some 4) [] false]++e))) [v]=some (.tsl (some 4) [(Tm.sub (cPos L) u).pv],K l2++(appC n t ts' i++([.box (some 4) (.pv (some 4) u.pv),.arr (some 4) [] false]++e2))):=by
      simp_all[YZ,zZ,YP]
     have hs1:∀(k k':List Int) (e e':Heap),Yx (K k++(appC n t ts' i++e)) (K k'++(appC n t ts' i++e')) (.ptr (n+3) 3)=true:=fun k k' e e'=>Jd (t:=t) (q:=n+5) (i:=i) (by rw[getN (hKl _)];rfl) (by rw[getN (hKl _)];rfl);simp only[Tm.av] at hcall;simp only[appC,Zn,Zs,Zv] at hcall hbs hs1;simp -dsimp -implicitDefEqProofs only[go_sem,seval,appC,hc,zQ (Tm.pvs_get hu),xi,ZK,ZW,ZO,ZQ,hcall,hbs,hs1,w2,hl,hlim,Tm.zA9 hus,zH (Zf _ _),Y4 (Zf _ _),hKl,getN (hKl _),z7 (hKl _),setN (hKl _),Yi (hKl _)];simp_all[yF,AObj.refs,AV.ofComps,pures,AV.refsIn,AV.refsIn.go,AV.refsIn.gol]
    ·rintro - -;have hc:¬(t.args.length:Int)<(t.args.length:Int):=by omega
     have htk:ts'.take t.args.length=ts':=Zl (by omega);simp -dsimp -implicitDefEqProofs only[go_sem,seval,appC,hc,ZF,htk,zN,zH (Zf _ _),Y4 (Zf _ _),hKl,getN (hKl _),z7 (hKl _),setN (hKl _),Yi (hKl _)]
     grind [AV.refsIn,AV.refsIn.go]
   ·have e:=P0
    refine⟨[.box (some 4) (.pv (some 4) t.pv),.box (some 4) (.agg [(none,P4 t.kind),(none,P4 t.n),(none,P6 t.name),(none,.sl (some 4) (n+5) t.args.length 0 t.args.length)]),.arr (some 4) [] false,.box (some 4) (.agg [(none,P4 t.kind),(none,P4 t.n),(none,P6 t.name),(none,.sl (some 4) (n+5) t.args.length 0 t.args.length)]),.arr (some 4) [] false,.arr (some 4) (Tm.pvs ts') true],?_⟩;show AV.freeze (7+1) (.agg _) _=_;simp_all[AV.freeze.go,AV.freeze,Tm.pvs_len,Tm.pv]
   ·intro H hH;have h5:=hH (n+5) (by omega);rw[getN (hKl _)] at h5;have e:=P0
    refine⟨H.set (n+5) (.arr (some 4) (Tm.pvs ts') true),?_⟩;show AV.freeze (7+1) (.agg _) _=_;simp_all[AV.freeze.go,AV.freeze,Tm.pvs_len,Tm.pv]
def canR(t:Tm):Tm:=if t.valid=true then canT t else zt
theorem jU(t:Tm)(hp:Heap)(ht:t.size<1000000000):S 38 [t.av] hp=some (.ret (canR t).av,hp):=by
 refine zM rfl rfl rfl (zJ [(some 4,t.pv)]) rfl ?_;have h1:=fun hp=>Y8 t hp ht;unfold canR;by_cases hv:t.valid=true
 ·rw[Zh hv];have hsz:=valid_size hv;obtain⟨v,e,h2,h3,h4,h5,_,h6⟩:=oh t t [] (vads [] t.occ) [] (valid_fits hv) (by omega) (by grind) (List.prefix_refl _);rw[hv] at h1;simp only[Tm.av,gC,cagg,Zs,Zv] at h1 h2;have hmk:∀(a0 a1 a2:AObj),zL none 0 [a0,a1,a2,.map none [],.box none (.pv none .nilmap)] [.ptr 4 0,.map 3]=some (.undef,[a0,a1,a2,.map none [],.box none (.map 3)]):=fun _ _ _=>rfl;have e0:Ya (posF 0 [])=[]:=rfl;rw[e0] at h2;have hst:∀(a0 a2 a3 a4:AObj),zL (some 4) 0 (a0::.box (some 4) (.agg [(none,P4 0),(none,P4 0),(none,P6 []),(none,.sl (some 4) 2 0 0 0)])::a2::a3::a4::e) [.ptr 1 0,v]=some (.undef,a0::.box (some 4) v::a2::a3::a4::e):=fun _ _ _ _=>by
   grind [zL,astore]
  have hfr:∀(a0 a1 a2 a3 a4:AObj),Am.frozen (canT t).av v (a0::a1::a2::a3::a4::e):=fun a0 a1 a2 a3 a4=>by
   obtain⟨H2,k⟩:=h6 (a0::a1::a2::a3::a4::e) fun j hj=>by
    match j,hj with
    |j+5,_=>rfl
   exact gf h3 h4 k
  simp -dsimp -implicitDefEqProofs only[go_sem,seval,Tm.av,h1,h2,hst,hmk,zH (Za _)];exact hfr _ _ _ _ _
 ·rw[Zb hv];have hv':t.valid=false:=by grind
  rw[hv'] at h1;simp only[Tm.av] at h1;simp -dsimp -implicitDefEqProofs only[go_sem,seval,Tm.av,h1,zH (Za _),zt];exact⟨_,rfl⟩
def vari(a b:Tm):Bool:=a.valid && (b.valid && decide ((canT a).cmp (canT b)=0))
theorem vk{t:Tm}(h:t.valid=true):(canT t).size=t.size:=QJ t (valid_fits h)
def appN(t:Tm)(ts:List Tm)(i:Nat):Heap:=[.box (some 4) (.pv (some 4) t.pv),.box (some 4) (.agg [(none,P4 0),(none,P4 0),(none,P6 []),(none,.sl (some 4) 2 0 0 0)]),.arr (some 4) [] false,.box (some 4) (.agg [(none,P4 t.kind),(none,P4 t.n),(none,P6 t.name),(none,.sl (some 4) 5 i 0 i)]),.arr (some 4) [] false,.arr (some 4) (Tm.pvs (ts.take i)) false]
theorem ol(L:List Int)(hL:L.length<100000000):∀(t:Tm) (hp:Heap),t.fits=true->t.size<1000000000->(∀w∈t.occ,w∈L)->S 34 [.pv none (.sl none (ints L)),t.av] hp=some (.ret (Tm.sub (cPos L) t).av,hp):=by
 intro t
 induction t using Tm.zA6 with
 |h t ih=>
  intro hp hf ht ho;have hts:=t.size_eq;have hlen:=Tm.zA5 t.args;refine zM rfl rfl rfl (zJ [(none,.sl none (ints L)),(some 4,t.pv)]) rfl ?_;have hb:zT A0 [0,1,2] [P4 t.kind,P4 t.n,P6 t.name]=some (.agg [(none,P4 t.kind),(none,P4 t.n),(none,P6 t.name),(none,.tsl (some 4) [])]):=rfl;by_cases hk:t.kind=0
  ·have hk':=Zg hk;have hm:t.n∈L:=ho _ (by grind [Tm.zA8]);have hpos:=fun hp=>Bw L t.n (by omega) hm hp;have ha:t.args=[]:=by rw[yx hf hk];rfl
   have hnm:t.name=[]:=by rw[yx hf hk];rfl
   have e:Tm.sub (cPos L) t=tvar (L.idxOf t.n:Nat):=by rw[Tm.zBe,Zh hk];rfl
   rw[e];generalize ((L.idxOf t.n:Nat):Int)=k at hpos ⊢;simp -dsimp -implicitDefEqProofs only[go_sem,seval,Tm.av,zO,Yd,zU,zK,Tm.pvs_len,hk',hb,hpos,zH (Za _)];refine Ye (α:=Unit) 0 (fun _ _=>True) (fun i _=>⟨[(0,.pv none (.sl none (ints L))),(3,.ptr 0 0),(4,.ptr 1 0),(5,.ptr 3 0),(6,P4 i)],[.box (some 4) (.pv (some 4) t.pv),.box (some 4) (.agg [(none,P4 0),(none,P4 0),(none,P6 []),(none,.sl (some 4) 2 0 0 0)]),.arr (some 4) [] false,.box (some 4) (.agg [(none,P4 t.kind),(none,P4 k),(none,P6 t.name),(none,.sl (some 4) 5 0 0 0)]),.arr (some 4) [] false,.arr (some 4) [] false]⟩) () ⟨trivial,rfl⟩ ?_ ?_
   ·grind
   ·rintro - -;have hc:¬(0:Int)<(t.args.length:Int):=by grind
    simp -dsimp -implicitDefEqProofs only[go_sem,seval,zK,Tm.pvs_len,hc,zN,zH (Za _),Y4 (Za _)];rw[hk,hnm];exact jK _ _ _ [] _ rfl rfl
  ·have hk':=Zi hk;rw[Vu hk];obtain⟨ts',hts'⟩:∃ts',ts'=t.args.map (Tm.sub (cPos L)):=⟨_,rfl⟩;have htl:ts'.length=t.args.length:=by grind
   rw[<-hts'];simp -dsimp -implicitDefEqProofs only[go_sem,seval,Tm.av,zO,Yd,zU,zK,Tm.pvs_len,hk',hb,zH (Za _)];refine Ye (α:=Unit) t.args.length (fun _ _=>True) (fun i _=>⟨[(0,.pv none (.sl none (ints L))),(3,.ptr 0 0),(4,.ptr 1 0),(5,.ptr 3 0),(6,P4 i)],appN t ts' i⟩) () ⟨trivial,rfl⟩ ?_ ?_
   ·rintro i - h -;have hc:(i:Int)<(t.args.length:Int):=by omega
    obtain⟨u,hu⟩:∃u,t.args[i]? =some u:=⟨_,Zd h⟩;have hum:=Zj hu;have husz:=Tm.zBb hum;have hcall:=fun hp=>ih u hum hp (Tm.zA7 hf hum) (by omega) fun w hw=>ho w (Tm.zBo hk hum hw);simp only[Tm.av] at hcall;have w2:IntKind.i64.wrap ((i:Int)+1)=((i+1:Nat):Int):=by grind [zW]
    have hl:(Tm.pvs (ts'.take i)).length=i:=by grind [Tm.pvs_len]
    have hlim:i+1<=lim:=by grind [lim]
    have hus:ts'[i]? =some (Tm.sub (cPos L) u):=by grind
    simp -dsimp -implicitDefEqProofs only[go_sem,seval,appN,zK,Tm.pvs_len,hc,zQ (Tm.pvs_get hu),hcall,w2,hl,hlim,Tm.zA9 hus,zH (Za _),Y4 (Za _)];exact⟨(),rfl⟩
   ·rintro - -;have hc:¬(t.args.length:Int)<(t.args.length:Int):=by omega
    have htk:ts'.take t.args.length=ts':=Zl (by omega);simp -dsimp -implicitDefEqProofs only[go_sem,seval,appN,zK,Tm.pvs_len,hc,htk,zN,zH (Za _),Y4 (Za _)];exact jK _ _ _ (Tm.pvs ts') _ (by rw[Tm.pvs_len,htl]) rfl
theorem vl(t:Tm)(hp:Heap)(ht:t.size<1000000000):S 10 [t.av] hp=some (.ret (canR t).av,hp):=by
 refine zM rfl rfl rfl (zJ [(some 4,t.pv)]) rfl ?_;have h1:=fun hp=>xh t hp ht;unfold canR;by_cases hv:t.valid=true
 ·rw[Zh hv];have hsz:=valid_size hv;obtain⟨s',H',hcall,hI,_,_⟩:=gj t (.tsl none []) [] [] (.inl ⟨rfl,rfl⟩) (valid_fits hv) (by grind);have ha:=Of hI;have hll:=xk t.occ [];have hol:=Tm.occ_len t;have hnum:=fun hp=>ol (vads [] t.occ) (by grind) t hp (valid_fits hv) ht fun w hw=>(Jh t.occ [] w).2 (.inr hw);rw[hv] at h1;have e:Tm.sub (cPos (vads [] t.occ)) t=canT t:=rfl;rw[e] at hnum;generalize canT t=c at hnum ⊢;generalize vads [] t.occ=l at*;simp only[Tm.av] at h1 hcall hnum;simp -dsimp -implicitDefEqProofs only[go_sem,seval,Tm.av,h1,hcall,ha,hnum,zH (Za _)]
 ·rw[Zb hv];have hv':t.valid=false:=by grind
  rw[hv'] at h1;simp only[Tm.av] at h1;have hb0:=P1;simp -dsimp -implicitDefEqProofs only[go_sem,seval,Tm.av,h1,hb0,zH (Za _),zt];exact⟨_,rfl⟩
theorem oo(a b:Tm)(hp:Heap)(ha:a.size<1000000000)(hb:b.size<1000000000):S 22 [a.av,b.av] hp=some (.ret (P5 (vari a b)),hp):=by
 refine zM rfl rfl rfl (zJ [(some 4,a.pv),(some 4,b.pv)]) rfl ?_;have h1:=fun hp=>xh a hp ha;have h2:=fun hp=>xh b hp hb;simp only[Tm.av] at h1 h2;unfold vari;by_cases va:a.valid=true
 ·by_cases vb:b.valid=true
  ·have h4:=fun hp=>vl a hp ha;have h5:=fun hp=>vl b hp hb;have hs:=vk va;have h3:=fun hp=>ge (canT a) (canT b) hp (by omega);rw[canR,Zh va] at h4;rw[canR,Zh vb] at h5;simp only[Tm.av] at h3 h4 h5
   (repeat' (first|(simp -dsimp -implicitDefEqProofs only[go_sem,seval, *])|(refine YX (fun _=> ?_) (fun _=> ?_))))
  ·(repeat' (first|(simp -dsimp -implicitDefEqProofs only[go_sem,seval, *])|(refine YX (fun _=> ?_) (fun _=> ?_))))
 ·(repeat' (first|(simp -dsimp -implicitDefEqProofs only[go_sem,seval, *])|(refine YX (fun _=> ?_) (fun _=> ?_))))
theorem oq:yes (y4 [] (find tab) prim 60 .fn 143 [.pv none (.sl (some 5) [])] [])=true:=by kernel_rfl
theorem ot(hp:Heap):S 143 [.pv none (.sl (some 5) [])] hp=some (.ret (P5 true),hp):=
 yw (ps:=[(none,.sl (some 5) [])]) rfl rfl rfl rfl (Jc .nil 60 _ _ _ _ _ (G7 oq))
theorem punil(a b:Tm)(va:a.valid=true)(vb:b.valid=true):
  S 124 [.pv none (.sl (some 5) []),a.av,b.av] []=some (.ret (.tuple [.pv none (.sl (some 5) (bds (uni 1048576 [] [(a,b)]).1)),.pv none (.int .i64 (uni 1048576 [] [(a,b)]).2)]),[]):=by
 refine gr rfl rfl rfl (zJ [(none,.sl (some 5) []),(some 4,a.pv),(some 4,b.pv)]) rfl rfl ?_;have h1:=ot;have h2:=fun hp=>Y8 a hp (fit9 va);have h3:=fun hp=>Y8 b hp (fit9 vb);simp only[Tm.av] at h2 h3;have hal:∀a0 a1:AObj,yS none (.tsl (some 5) []) [a0,a1] []=some (.ptr 2 0,[a0,a1,.box none (.sl (some 5) 3 0 0 0),.arr (some 5) [] false]):=fun _ _=>rfl;obtain⟨H5,hH5⟩:∃H5:Heap,H5=[.box (some 4) (.pv (some 4) a.pv),.box (some 4) (.pv (some 4) b.pv),.box none (.sl (some 5) 3 0 0 0),.arr (some 5) [] false,.box none (P4 0)]:=⟨_,rfl⟩;have hb5:Bq H5:=by
  rw[hH5];exact Bq.cons (XZ a) (Bq.cons (XZ b) (Bq.cons rfl (Bq.cons rfl (Bq.cons rfl Bq.nil))))
 have hcn:=O1 [] okb_nil.good (by simp) H5 hb5;obtain⟨res,hp',hrun,hP⟩:=O4 [] a b okb_nil (by simp) va vb (H5++[.arr (some 5) [] false,.arr (some 5) [] false,.box (some 1) .undef]) (hb5.app (Bq.cons rfl (Bq.cons rfl (Bq.cons rfl Bq.nil)))) 7 6 (by grind) (by grind) (by decide);have hU:∀l,US (H5++[.arr (some 5) [] false,.arr (some 5) [] false,.box (some 1) .undef]) 7 6 l=[.box (some 4) (.pv (some 4) a.pv),.box (some 4) (.pv (some 4) b.pv),.box none (.sl (some 5) 3 0 0 0),.arr (some 5) [] false,.box none (P4 0),.arr (some 5) [] false,.arr (some 5) (bds l) false,.box (some 1) (.agg [(none,.sl (some 5) 6 l.length 0 l.length)])]:=fun l=>by rw[hH5];rfl
 have hb0:bds []=[]:=rfl;rw[hH5,hb0] at hcn;rw[hU,hb0] at hrun;simp only[Tm.av,Zs,Zv,ZZ,zy] at hrun hcn;have hbu:zT [(none,.tsl (some 5) [])] [0] [.sl (some 5) 6 0 0 0]=some (.agg [(none,.sl (some 5) 6 0 0 0)]):=rfl;have hpan:∀A:Prop,panK true A=A:=fun _=>rfl;rcases hP with⟨l',he,rfl,rfl⟩|⟨e,l',he,rfl,rfl⟩
 ·rw[hU] at hrun;rw[he];simp -dsimp -implicitDefEqProofs only[go_sem,seval,Tm.av,hal,h1,h2,h3,va,vb,hcn,hbu,hrun,zN,xR,Y4 (Za _),YE,Jk,jy,jz,jA,hpan];refine⟨rfl,144,[],[.ptr 2 0,.ptr 4 0],rfl,_,_,_,O5 _ _ _ _ _ _,rfl,?_⟩;refine⟨[.box (some 4) (.pv (some 4) a.pv),.box (some 4) (.pv (some 4) b.pv),.box none (.sl (some 5) 6 l'.length 0 l'.length),.arr (some 5) [] false,.box none (P4 0),.arr (some 5) [] false,.arr (some 5) (bds l') true,.box (some 1) (.agg [(none,.sl (some 5) 6 l'.length 0 l'.length)])],?_⟩;simp[AV.freezeRes,zZ,AV.freeze,deep,Xr,pvs,AV.shp]
 ·rw[hU] at hrun;rw[he];simp -dsimp -implicitDefEqProofs only[go_sem,seval,Tm.av,hal,h1,h2,h3,va,vb,hcn,hbu,hrun,zN,xR,Y4 (Za _),YE,Jk,jy,jz,jA,hpan];refine⟨rfl,144,[],[.ptr 2 0,.ptr 4 0],rfl,_,_,_,O6 _ _ _ _ _ _ _,rfl,?_⟩;exact⟨_,rfl⟩
theorem ou(a b:Tm)(va:a.valid=true)(vb:b.valid=true)(hp:Heap):S 124 [.tsl (some 5) [],a.av,b.av] hp=some (.ret (.tuple [.pv none (.sl (some 5) (bds (uni 1048576 [] [(a,b)]).1)),.pv none (.int .i64 (uni 1048576 [] [(a,b)]).2)]),hp):=
 yw (ps:=[(none,.sl (some 5) []),(some 4,a.pv),(some 4,b.pv)]) rfl rfl rfl rfl (punil a b va vb)
theorem B5(d:Int):∀t:Tm,(shT d t).occ=t.occ.map (·+d):=by
 intro t
 induction t using Tm.zA6 with
 |h t ih=>
  have hl:∀l:List Tm,(∀u∈l,u∈t.args)->Tm.occs (shTs d l)=(Tm.occs l).map (·+d):=by
   intro l
   induction l with
   |nil=>intro _;rfl
   |cons x r ihr=>
    intro h;rw[shTs,Tm.occs,Tm.occs,List.map_append,ih x (h x (by simp)),ihr fun u hu=>h u (by simp[hu])]
  rw[QP,Tm.zA8 t];split
  ·rw[Tm.zA8];rfl
  ·rename_i hk;rw[Tm.zA8,Zb (by exact hk),<-hl t.args fun _ h=>h];rfl
theorem B6(d:Int):∀t:Tm,(shT d t).size<=t.size:=by
 intro t
 induction t using Tm.zA6 with
 |h t ih=>
  have hl:∀l:List Tm,(∀u∈l,u∈t.args)->Tm.sizes (shTs d l)<=Tm.sizes l:=by
   intro l
   induction l with
   |nil=>intro _;exact Zc _
   |cons x r ihr=>
    intro h;have h1:=ih x (h x (by simp));have h2:=ihr fun u hu=>h u (by simp[hu]);show(shT d x).size+Tm.sizes (shTs d r)<=x.size+Tm.sizes r;omega
  have:=hl t.args fun _ h=>h;rw[QP,t.size_eq];split
  ·show 1+0<=_;omega
  ·show 1+Tm.sizes (shTs d t.args)<=_;omega
theorem B7{t:Tm}(h:t.valid=true):t.name.length<=100/\t.args.length<=8:=by
 have h:=valid_fits h
 grind [Tm.zBc,Tm.node]
def AH(hp:Heap)(r q:Nat)(d:Dbs)(g:Tm)(L:List Tm):Heap:=(hp.set q (.arr (some 4) (Tm.pvs L) false)).set r (.box (some 7) (cB d g (slA q L.length)))
def ansC(g:Tm)(n:Int)(x:Sto):Tm:=ansT g ([shT n x.cl.head,shT n x.cl.body]++if g.args.length=3 then[intT x.id] else[])
def Yq(g:Tm):Int:=((vads [] g.occ).length:Int)
def clsQ(d:Dbs)(g:Tm)(cls:List Sto)(hp:Heap)(r q:Nat)(v:ARes)(hp':Heap):Prop:=
 (v=.ret (.tuple [])/\(∀x∈cls,(ansC g (Yq g) x).valid=true)/\hp'=AH hp r q d g (cls.map (ansC g (Yq g))))\/
 (v=.panic (QN 2)/\(∃x∈cls,(ansC g (Yq g) x).valid=false)/\∃L,hp'=AH hp r q d g L)
theorem jV{d:Dbs}(hv:okD d=true){s:List UInt8}{a:Int}{p:Prc}(hf:Ys d s a=some p):p.cls.length<=500:=by
 simp only[okD,Zk,Zz] at hv;have h4:=hv.2.2.2.1;unfold Ys at hf;split at hf
 ·split at hf
  ·have:=XW (Zj hf);omega
  grind
 grind
theorem ov{l:List Sto}{id:Int}{k:Nat}(h:idS l id=some k):∃s,l[k]? =some s/\s.id=id:=by
 grind [idS,List.findIdx?_eq_some_iff_getElem]
theorem vm{id:Int}:∀{l:List Prc} {i k:Nat},whR l id=some (i,k)->∃p s,l[i]? =some p/\p.cls[k]? =some s/\s.id=id
 |[],i,k,h=>by cases h
 |x::r,i,k,h=>by
  rw[whR] at h;split at h
  ·grind [ov]
  ·split at h
   ·rename_i y hy;cases h;obtain⟨p,s,h1,h2,h3⟩:=vm (i:=y.1) (k:=y.2) hy
    grind
   grind
theorem ox(H:Heap)(q:Nat)(es:List PV)(k n:Nat)(hk:k<n)(he:es.length=n)(hn:n<=500)(hg:H[q]? =some (.arr (some 9) es false)):S 63 [.sl (some 9) q n 0 n,P4 (k:Int),P4 ((k:Int)+1)] H=some (.ret (.sl (some 9) q n 0 (n - 1)),H.set q (.arr (some 9) (es.take k++(es.drop (k+1)++[zS])) false)):=by
 refine Yk rfl rfl rfl rfl ?_;have hq:=yN hg;have h0:((k:Int)=(k:Int)+1)=False:=by grind
 have hL:∀m:Nat,sLen [.sl (some 9) q n 0 m]=some (P4 (m:Int)):=fun m=>rfl;have h3:Xu (some 9) true [.sl (some 9) q n 0 n,P4 (k:Int),P4 ((k:Int)+1),P4 (n:Int)]=some .undef:=by
  grind [Xu]
 have s1:ya (some 9) false true [.sl (some 9) q n 0 n,P4 (k:Int)]=some (.sl (some 9) q n 0 k):=by
  grind [ya,aslice]
 have s2:ya (some 9) true false [.sl (some 9) q n 0 n,P4 ((k:Int)+1)]=some (.sl (some 9) q n (k+1) (n - (k+1))):=by
  grind [ya,aslice]
 have s3:ya (some 9) true true [.sl (some 9) q n 0 (n - 1),P4 ((n - 1:Nat):Int),P4 (n:Int)]=some (.sl (some 9) q n (n - 1) 1):=by
  grind [ya,aslice]
 have hset:∀o:AObj,(H++[AObj.arr (some 9) [] false]).set q o=H.set q o++[.arr (some 9) [] false]:=fun o=>List.set_append_left _ _ hq;have hg0:(H++[AObj.arr (some 9) [] false])[q]? =some (.arr (some 9) es false):=by grind
 have hel:elems (H++[.arr (some 9) [] false]) (.sl (some 9) q n (k+1) (n - (k+1)))=some (some 9,es.drop (k+1)):=by
  grind [elems,Zl]
 have hap:Yg (some 9) (H++[.arr (some 9) [] false]) [.sl (some 9) q n 0 k,.sl (some 9) q n (k+1) (n - (k+1))]=some (.sl (some 9) q n 0 (n - 1),H.set q (.arr (some 9) (es.take k++(es.drop (k+1)++es.drop (n - 1))) false)++[.arr (some 9) [] false]):=by
  grind [lim,Yg,aappend]
 have hcl:xA (some 9) zS (H.set q (.arr (some 9) (es.take k++(es.drop (k+1)++es.drop (n - 1))) false)++[.arr (some 9) [] false]) [.sl (some 9) q n (n - 1) 1]=some (.undef,H.set q (.arr (some 9) (es.take k++(es.drop (k+1)++[zS])) false)++[.arr (some 9) [] false]):=by
  have hg1:(H.set q (.arr (some 9) (es.take k++(es.drop (k+1)++es.drop (n - 1))) false)++[AObj.arr (some 9) [] false])[q]? =some (.arr (some 9) (es.take k++(es.drop (k+1)++es.drop (n - 1))) false):=by
   grind
  have l1:(es.take k++es.drop (k+1)).length=n - 1:=by grind
  have l2:(es.take k++(es.drop (k+1)++es.drop (n - 1))).length=n:=by grind
  have l3:(es.take k++(es.drop (k+1)++es.drop (n - 1))).take (n - 1)=es.take k++es.drop (k+1):=by grind
  have l4:n - 1+1=n:=by omega
  simp_all[List.drop_eq_nil_of_le,xA]
 simp only[zS] at hcl;have hni:YS (some 9) H=some (.sl (some 9) H.length 0 0 0,H++[.arr (some 9) [] false]):=by simp[YS,xf]
 simp -dsimp -implicitDefEqProofs only[go_sem,seval,hni,h0,hL,h3,s1,s2,s3,hap,hcl]
 grind [AV.refsIn,zS]
theorem P2:zT A1 [] []=some (.agg A1):=rfl
theorem B8(d:Dbs)(hb:BndD d)(id:Int)(h:okD d=false\/whR d.procs id=none)(hp:Heap):S 19 [d.av,P4 id] hp=some (.ret (.tuple [yI.av,P5 false]),hp):=by
 refine zM rfl rfl rfl (zJ [(some 2,d.pv),(none,.int .i64 id)]) rfl ?_;have h1:=fun hp=>yP d hb.1 hb.2.1 hb.2.2 hp;have hz0:=P2;have hnil:∀H:Heap,zX A3 H=(A3,H):=fun _=>rfl;simp only[Dbs.av] at h1;cases hv:okD d with
 |false=>
  rw[hv] at h1;simp -dsimp -implicitDefEqProofs only[go_sem,seval,Dbs.av,h1,hz0,hnil,zH (Za _)];exact⟨_,rfl⟩
 |true=>
  have hf:whR d.procs id=none:=by
   grind
  have hl5:d.procs.length<=500/\totD d.procs<=500:=by
   grind [okD]
  have h3:=fun hp=>gP d id (by omega) (by omega) hp;simp only[Dbs.av] at h3;rw[hv] at h1;rw[hf] at h3;simp -dsimp -implicitDefEqProofs only[go_sem,seval,Dbs.av,h1,h3,hz0,hnil,zH (Za _)];exact⟨_,rfl⟩
theorem oy(d:Dbs)(hb:BndD d)(id:Int)(hv:okD d=true)(i k:Nat)(hw:whR d.procs id=some (i,k))(p:Prc)(hpp:d.procs[i]? =some p)(hkl:k<p.cls.length)(hp:Heap):S 19 [d.av,P4 id] hp=some (.ret (.tuple [(⟨d.next,d.procs.set i ⟨p.name,p.ar,p.dyn,p.cls.take k++p.cls.drop (k+1)⟩⟩:Dbs).av,P5 true]),hp):=by
 refine zM rfl rfl rfl (zJ [(some 2,d.pv),(none,.int .i64 id)]) rfl ?_;have h1:=fun hp=>yP d hb.1 hb.2.1 hb.2.2 hp;have hl5:d.procs.length<=500/\totD d.procs<=500:=by
  grind [okD]
 have h3:=fun hp=>gP d id (by omega) (by omega) hp;have h4:∀x0 x1:AObj,S 62 [d.av] [x0,x1]=some (.ret (dA d 4),x0::x1::.box (some 2) (dA d 4)::.box (some 2) (dA d 4)::.arv (some 4) (elsA d.procs 10 d.procs.length)::cEs d.procs 10):=fun x0 x1=>VD d (by omega) (fun q hq=>⟨by have:=XW hq;omega,qi hv q hq⟩) [x0,x1];have hnil:∀H:Heap,zX A3 H=(A3,H):=fun _=>rfl;have hst:∀(x0:AObj) (v:AV) (X:Heap),zL (some 2) 0 (x0::.box (some 2) v::X) [.ptr 1 0,dA d 4]=some (.undef,x0::.box (some 2) (dA d 4)::X):=fun x0 v X=>by
  simp[zL,astore,dA,AV.plain,AV.shp,AV.own,zX,Y3,total,Sh.size]
 simp only[Dbs.av] at h1 h3 h4;rw[hv] at h1;rw[hw] at h3;have hpm:=Zj hpp;have hc5:p.cls.length<=500:=by have:=XW hpm;omega
 have hil:=(Ze.1 hpp).1;have hge:=qk (b:=10) hpp;have hpt:AV.part deep (dA d 4) 1 none=some (.slv (some 4) 4 d.procs.length 0 d.procs.length):=rfl;have hia:Yc (some 4) [.slv (some 4) 4 d.procs.length 0 d.procs.length,P4 i]=some (.epv (some 4) 4 d.procs.length i 0):=by
  grind [Yc,aindex]
 have hfa:Xk 3 [.epv (some 4) 4 d.procs.length i 0]=some (.epv (some 4) 4 d.procs.length i 3):=rfl;obtain⟨q,hq⟩:∃q,q=10+6*i:=⟨_,rfl⟩;rw[<-hq] at hge;have hld:∀(x0 x1 x2 x3:AObj) (X:Heap),aload none (x0::x1::x2::x3::.arv (some 4) (elsA d.procs 10 d.procs.length)::X) (.epv (some 4) 4 d.procs.length i 3)=some (.sl (some 9) q p.cls.length 0 p.cls.length):=fun x0 x1 x2 x3 X=>by
  have e:AV.part deep (pA p q) 3 none=some (.sl (some 9) q p.cls.length 0 p.cls.length):=rfl
  grind [aload,Xq]
 have hw1:IntKind.i64.wrap ((k:Int)+1)=(k:Int)+1:=by
  grind [zW]
 obtain⟨E,hE⟩:∃E,E=(cEs d.procs 10).set (6*i+5) (.arr (some 9) ((Sto.pvs p.cls).take k++((Sto.pvs p.cls).drop (k+1)++[zS])) false):=⟨_,rfl⟩;have hcg:=qj d.procs 10 i p hpp;have h5:∀(x0 x1 x2 x3 x4:AObj),S 63 [.sl (some 9) q p.cls.length 0 p.cls.length,P4 (k:Int),P4 ((k:Int)+1)] (x0::x1::x2::x3::x4::cEs d.procs 10)=some (.ret (.sl (some 9) q p.cls.length 0 (p.cls.length - 1)),x0::x1::x2::x3::x4::E):=fun x0 x1 x2 x3 x4=>by
  grind [ox,Sto.pvs_len]
 obtain⟨pN,hpN⟩:∃pN:AV,pN=.agg [(none,P6 p.name),(none,P4 p.ar),(none,P5 p.dyn),(none,.sl (some 9) q p.cls.length 0 (p.cls.length - 1))]:=⟨_,rfl⟩;have hse:∀(x0 x1 x2 x3:AObj) (X:Heap),zL none 0 (x0::x1::x2::x3::.arv (some 4) (elsA d.procs 10 d.procs.length)::X) [.epv (some 4) 4 d.procs.length i 3,.sl (some 9) q p.cls.length 0 (p.cls.length - 1)]=some (.undef,x0::x1::x2::x3::.arv (some 4) ((elsA d.procs 10 d.procs.length).set i pN)::X):=fun x0 x1 x2 x3 X=>by
  have e:AV.upd deep (pA p q) 3 none (.sl (some 9) q p.cls.length 0 (p.cls.length - 1))=some pN:=by rw[hpN];rfl
  simp_all[zL,astore,Xq,AV.plain,AV.shp]
 have fin:∀(x0 x1 x2 x3:AObj),DbA ⟨d.next,d.procs.set i ⟨p.name,p.ar,p.dyn,p.cls.take k++p.cls.drop (k+1)⟩⟩ (dA d 4) (x0::x1::x2::x3::.arv (some 4) ((elsA d.procs 10 d.procs.length).set i pN)::E):=fun x0 x1 x2 x3=>by
  refine⟨4,d.procs.length,_,d.procs.set i ⟨p.name,p.ar,p.dyn,p.cls.take k++p.cls.drop (k+1)⟩,?_,rfl,by rw[List.length_set,Xq],by simp,by simp,by grind,fun j r v hr hv2=> ?_⟩
  ·simp[dA]
  ·by_cases hji:i=j
   ·subst hji;rw[ZL hil] at hr;cases hr;rw[ZL (by grind)] at hv2;cases hv2;rw[hpN];have hl:(p.cls.take k++p.cls.drop (k+1)).length=p.cls.length - 1:=by grind
    have hpvs:Sto.pvs (p.cls.take k++p.cls.drop (k+1))=(Sto.pvs p.cls).take k++(Sto.pvs p.cls).drop (k+1):=by simp[Sto.pvs]
    refine .inr ⟨.sl (some 9) q p.cls.length 0 (p.cls.length - 1),rfl,.inr ⟨q,p.cls.length,(Sto.pvs p.cls).take k++((Sto.pvs p.cls).drop (k+1)++[zS]),false,by rw[hl],?_,?_,by grind,?_⟩⟩
    ·grind
    ·grind [Sto.pvs_len]
    grind [Sto.pvs_len]
   ·rw[zu hji] at hr hv2;rw[qk hr] at hv2;cases hv2;refine .inr ⟨_,rfl,.inr ⟨10+6*j,r.cls.length,Sto.pvs r.cls,false,rfl,?_,Sto.pvs_len _,Zc _,Zl (by grind [Sto.pvs_len])⟩⟩
    grind [qj]
 have hfr:∀(d':Dbs) (H:Heap),DbA d' (dA d 4) H->Am.frozen (.tuple [d'.av,P5 true]) (.tuple [dA d 4,P5 true]) H:=fun d' H hD=>by
  obtain⟨H',hz⟩:=hD.frz;have e3:∀X,AV.freeze deep (P5 true) X=some (.bool true,X):=fun _=>rfl;have hsh:(dA d 4).shp=some 2:=rfl;refine⟨H',?_⟩;simp only[AV.freezeRes,zZ,hz,e3,hsh];rfl
 have hr:∀(x0:AObj) (X:Heap),YI ⟨[(4,.ptr 1 0),(5,P5 true)],x0::.box (some 2) (dA d 4)::X⟩ (4,some (some 2))=some (dA d 4):=fun x0 X=>by
  simp[YI,Fr.look,aload]
 have hs1:∀(x0:AObj) (X X':Heap),Yx (x0::.box (some 2) (dA d 4)::X) (x0::.box (some 2) (dA d 4)::X') (.ptr 1 1)=true:=fun x0 X X'=>by
  simp[Yx,AObj.beq,dA,AV.beq,AV.beqc,PV.beq]
 simp -dsimp -implicitDefEqProofs only[go_sem,seval,ZK,ZW,ZO,ZQ,hs1,Dbs.av,Yn,Prc.pvs_len,h1,h3,h4,hst,hnil,hpt,hia,hfa,hld,hw1,h5,hse,hr]
 grind [Q6,Dbs.av]
def cutC(p:Prc)(k:Nat):Prc:=⟨p.name,p.ar,p.dyn,p.cls.take k++p.cls.drop (k+1)⟩
def eraR(d:Dbs)(id:Int):Dbs × Bool:=
 if okD d=false then(yI,false)
 else match whR d.procs id with
 |none=>(yI,false)
 |some x=>(⟨d.next,d.procs.modify x.1 fun p=>cutC p x.2⟩,true)
theorem B9{α:Type}{l:List α}{i:Nat}{x:α}(h:l[i]? =some x)(f:α->α):l.modify i f=l.set i (f x):=by
 refine ZY fun j=> ?_
 grind
theorem oA(d:Dbs)(hb:BndD d)(id:Int)(hp:Heap):S 19 [d.av,P4 id] hp=some (.ret (.tuple [(eraR d id).1.av,.pv none (.bool (eraR d id).2)]),hp):=by
 cases hv:okD d with
 |false=>
  grind [B8,eraR]
 |true=>
  grind [B8,eraR,vm,oy,cutC,B9]
def rmP(id:Int)(p:Prc):Prc:=⟨p.name,p.ar,p.dyn,p.cls.filter fun s=>decide (s.id≠id)⟩
theorem oB{id:Int}{p:Prc}(h:∀s∈p.cls,s.id≠id):rmP id p=p:=by
 unfold rmP;rw[List.filter_eq_self.2 fun s hs=>ZN (h s hs)]
theorem oC{id:Int}{l:List Prc}(h:id ∉ ids l):l.map (rmP id)=l:=by
 have e:∀p∈l,rmP id p=p:=fun p hp=>oB fun s hs e=>h (mem_ids.2 ⟨p,hp,s,hs,e⟩);rw[List.map_congr_left (g:=fun p=>p) e];simp
theorem vq(id:Int)(l:List Prc):ids (l.map (rmP id))=(ids l).filter fun x=>decide (x≠id):=by
 induction l with
 |nil=>rfl
 |cons p r ih=>
  rw[ZU,XX,XX,ih,List.filter_append]
  congr 1
  show((p.cls.filter _).map _)=_;rw[List.filter_map];rfl
theorem bc(l:List Prc)(id:Int):whR l id=none↔id ∉ ids l:=by
 constructor
 ·intro h hm;obtain⟨p,hp,s,hs,e⟩:=mem_ids.1 hm
  induction l with
  |nil=>cases hp
  |cons x r ih=>
   grind [whR,idS,mem_ids]
 grind [VB,gN,mem_ids]
theorem bg{l:List Sto}{k:Nat}{s:Sto}(h:l[k]? =some s)(hn:(l.map (·.id)).Nodup):l.take k++l.drop (k+1)=l.filter fun x=>decide (x.id≠s.id):=by
 have e:=QL h;obtain⟨A,hA⟩:∃A,A=l.take k:=⟨_,rfl⟩;obtain⟨B,hB⟩:∃B,B=l.drop (k+1):=⟨_,rfl⟩;rw[<-hA,<-hB] at e ⊢;rw[e,List.map_append,ZU,List.nodup_append,List.nodup_cons] at hn
 grind [List.filter_eq_self,Zx]
theorem oD{d:Dbs}{id:Int}(hv:okD d=true)(h:id∈ids d.procs):eraR d id=(⟨d.next,d.procs.map (rmP id)⟩,true):=by
 cases hw:whR d.procs id with
 |none=>grind [bc]
 |some x=>
  obtain⟨i,k⟩:=x;obtain⟨p,s,hpp,hs,hsi⟩:=vm hw;have d5:=((Xg d).1 hv).2.2.2.2;have d5':=d5;rw[QL hpp] at d5';obtain⟨g1,g2,g3,g4,g5,g6,g7⟩:=(ql ..).1 d5';have hsm:=Zj hs;have hout:=g6 s hsm;rw[hsi,VF,zp,not_or] at hout;have e1:cutC p k=rmP id p:=by
   grind [cutC,rmP,bg]
  have e2:d.procs.modify i (fun p=>cutC p k)=d.procs.map (rmP id):=by
   grind [B9,QL,oC]
  grind [eraR]
theorem eraR_iff{d:Dbs}{id:Int}:(eraR d id).2=true↔okD d=true/\id∈ids d.procs:=by
 grind [bc,eraR]
theorem bh{x:Int}:∀{l:List Int},l.Nodup->x∈l->(l.filter fun y=>decide (y≠x)).length+1=l.length
 |[],_,h=>by cases h
 |y::r,hn,h=>by
  obtain⟨n1,n2⟩:=List.nodup_cons.1 hn;by_cases e:y=x
  ·grind [List.filter_eq_self]
  ·rw[List.filter_cons_of_pos (by grind)];rcases ZC.1 h with h|h
   ·grind
   ·have:=bh n2 h
    grind
theorem oE{n:Int}{l:List Prc}(id:Int)(h:OkP n l):OkP n (l.map (rmP id)):=by
 refine⟨fun p hp=> ?_,?_,?_,fun p hp s hs=> ?_⟩
 ·obtain⟨q,hq,rfl⟩:=ZM.1 hp;exact h.1 q hq
 ·rw[List.pairwise_map];exact h.2.1
 ·rw[vq];exact h.2.2.1.filter _
 ·obtain⟨q,hq,rfl⟩:=ZM.1 hp;exact Bc (h.2.2.2 q hq s (List.mem_filter.1 hs).1) rfl rfl
theorem bj{d:Dbs}{id:Int}(h:(eraR d id).2=true):okD d=true/\id∈ids d.procs/\(eraR d id).1=⟨d.next,d.procs.map (rmP id)⟩/\okD (eraR d id).1=true/\totD (eraR d id).1.procs+1=totD d.procs/\id ∉ ids (eraR d id).1.procs:=by
 obtain⟨hv,hm⟩:=eraR_iff.1 h;obtain⟨d1,d2,d3,d4,d5⟩:=(Xg d).1 hv;have e:=oD hv hm;rw[e];have ht:totD (d.procs.map (rmP id))+1=totD d.procs:=by
  rw[V0,V0,vq];exact bh d5.2.2.1 hm
 grind [Xg,oE,vq]
def houD(F:FuncId->Option AFn)(prim:FuncId->Option z8)(rs:List RSlot)(n s:Nat)(st:St)(v:AV)(hp':Heap)(p:PV)(st2:St):Prop:=
 ∃g fs cs,st.fr.look s=some (.func (.func g) fs cs)/\∃r H,sem F prim .dfr g (.pv none p::(fs++cs)) st2.hp=some (.ret r,H)/\Yp ⟨st2.fr,H⟩ rs=some v/\(if v.refsIn.all (fun q=>decide (q<n))=true then H.take n else H)=hp'
def houK(F:FuncId->Option AFn)(prim:FuncId->Option z8)(rs:List RSlot)(n s:Nat)(st:St)(v:AV)(hp':Heap):AExit->St->Prop
 | .normal,st2=>houD F prim rs n s st v hp' .niliface st2
 | .ret,st2=>houD F prim rs n s st v hp' .niliface st2
 | .panic w,st2=>houD F prim rs n s st v hp' w st2
 | .exit _,_=>False
def hdfK(F:FuncId->Option AFn)(prim:FuncId->Option z8)(rs:List RSlot)(n s:Nat)(c2:ACode)(v:AV)(hp':Heap):AExit->St->Prop
 | .normal,st=>(st.fr.look s).isSome=true/\W (sem F prim) (sloop F prim) n c2 st (houK F prim rs n s st v hp')
 |_,_=>False
section
variable{F:FuncId->Option AFn} {prim:FuncId->Option z8} {rs:List RSlot} {n s:Nat} {c2:ACode} {v:AV} {hp':Heap} {st st2:St}
theorem vr:hdfK F prim rs n s c2 v hp' .normal st=((st.fr.look s).isSome=true/\W (sem F prim) (sloop F prim) n c2 st (houK F prim rs n s st v hp')):=rfl
theorem vu:houK F prim rs n s st v hp' .ret st2=houD F prim rs n s st v hp' .niliface st2:=rfl
theorem vw{w:PV}:houK F prim rs n s st v hp' (.panic w) st2=houD F prim rs n s st v hp' w st2:=rfl
end
theorem vA{F:FuncId->Option AFn}{prim:FuncId->Option z8}{f:FuncId}{fn:AFn}{args:List AV}{hp hp':Heap}{v:AV}{s:Nat}{c2:ACode}(hp0:prim f=none)(hf:F f=some fn)(hm:fn.heapMode=true)(hn:args.length=fn.nparams)(hmo:fn.more=[(.dfr s,c2)])
  (h:W (sem F prim) (sloop F prim) hp.length fn.code ⟨params 0 args,hp⟩ (hdfK F prim fn.results hp.length s c2 v hp'))(hr:fn.rcv=none:=by rfl):sem F prim .fn f args hp=some (.ret v,hp'):=by
 rw[XO];unfold Y1;rw[hp0,hf]
 suffices hB:∃H,abody (sem F prim) (sloop F prim) fn args hp=some (.ret v,H)/\(if v.refsIn.all (fun q=>decide (q<hp.length))=true then H.take hp.length else H)=hp' by
  grind
 unfold abody;rw[Zb (by grind),hmo];simp only;unfold W at h;split at h
 ·rename_i e st1 he;cases e with
  |normal=>
   obtain⟨-,hW⟩:=h;unfold W at hW;split at hW
   ·rename_i e2 st2 he2;have fin:∀p:Option PV,houD F prim fn.results hp.length s st1 v hp' (p.getD .niliface) st2->∀e:AExit,(e=.normal\/e=.ret->p=none)->(∀w,e=.panic w->p=some w)->(∀i,e≠.exit i)->e=e2->∃H,aleave (sem F prim) fn (apieces (sem F prim) (sloop F prim) hp.length [(.dfr s,c2)] fn.code ⟨params 0 args,hp⟩ [])=some (.ret v,H)/\(if v.refsIn.all (fun q=>decide (q<hp.length))=true then H.take hp.length else H)=hp':=by
     rintro p ⟨g,fs,cs,k1,r,H,k2,k3,k4⟩ e n1 n2 n3 rfl;refine⟨H,?_,k4⟩;have k5:atop (sem F prim) (.dfr s) st1 []=some (.normal,st1,[.func (.func g) fs cs]):=by grind [atop]
     have ka:apieces (sem F prim) (sloop F prim) hp.length [(.dfr s,c2)] fn.code ⟨params 0 args,hp⟩ []=some (e,st2,[.func (.func g) fs cs]):=by
      grind [apieces]
     have ku:∀p':Option PV,p'=p->aunwind (sem F prim) [.func (.func g) fs cs] p' st2.hp=some (none,H):=by
      grind [aunwind,yp]
     rw[ka];cases e with
     |normal=>grind [aleave,aresult]
     |ret=>grind [aleave,aresult]
     |panic w=>grind [aleave,aresult]
     |exit i=>grind
    cases e2 with
    |normal=>exact fin none hW .normal (fun _=>rfl) (fun w e=>by cases e) (fun i e=>by cases e) rfl
    |ret=>exact fin none hW .ret (fun _=>rfl) (fun w e=>by cases e) (fun i e=>by cases e) rfl
    |panic w=>exact fin (some w) hW (.panic w) (fun e=>by grind) (fun w e=>by grind) (fun i e=>by cases e) rfl
    |exit i=>exact hW.elim
   grind
  |ret=>exact h.elim
  |exit i=>exact h.elim
  |panic v=>exact h.elim
 grind
theorem oF(H:Heap)(a b:AV):sem (find tab) prim .dfr 84 [.pv none .niliface,a,b] H=some (.ret (.tuple []),H):=by
 refine QI (t:=4) rfl rfl rfl rfl ?_;have h1:∀z,yR 110 (some 4) z true [.pv none .niliface]=some (.tuple [z,P5 false]):=fun _=>rfl;have h2:∀z,yR 112 (some 1) z true [.pv none .niliface]=some (.tuple [z,P5 false]):=fun _=>rfl;simp -dsimp -implicitDefEqProofs only[go_sem,seval,h1,h2,QH];simp
theorem oH(b:Tm)(hp:Heap)(s0 v0:AV)(a1:AObj):sem (find tab) prim .dfr 84 [.pv none (xW b),.ptr hp.length 0,.ptr (hp.length+2) 0] (hp++[.box (some 4) s0,a1,.box none v0])=some (.ret (.tuple []),hp++[.box (some 4) (.pv (some 4) b.pv),a1,.box none (P4 8)]):=by
 refine QI (t:=4) rfl rfl rfl rfl ?_;have h1:∀z,yR 110 (some 4) z true [.pv none (xW b)]=some (.tuple [.pv (some 4) b.pv,P5 true]):=fun _=>rfl;simp -dsimp -implicitDefEqProofs only[go_sem,seval,h1,QH,zN]
 grind
theorem oI(e:Int)(hp:Heap)(s0 v0:AV)(a1:AObj):sem (find tab) prim .dfr 84 [.pv none (QN e),.ptr hp.length 0,.ptr (hp.length+2) 0] (hp++[.box (some 4) s0,a1,.box none v0])=some (.ret (.tuple []),hp++[.box (some 4) s0,a1,.box none (P4 e)]):=by
 refine QI (t:=4) rfl rfl rfl rfl ?_;have h1:∀z,yR 110 (some 4) z true [.pv none (QN e)]=some (.tuple [z,P5 false]):=fun _=>rfl;have h2:∀z,yR 112 (some 1) z true [.pv none (QN e)]=some (.tuple [.pv (some 1) (.agg [(none,.int .i64 e)]),P5 true]):=fun _=>rfl;simp -dsimp -implicitDefEqProofs only[go_sem,seval,h1,h2,QH,zN]
 grind
def x3(n:Nat):Heap:=[.box (some 4) (zg (n+1)),.arr (some 4) [] false,.box none (P4 0)]
theorem bm(f:FuncId)(hp H:Heap)(r:Nat)(hH:H.length=hp.length)(h:S f [.ptr r 0] (hp++x3 hp.length)=some (.ret (.tuple []),H++x3 hp.length)):S 40 [.ptr r 0,.pv none (.func (.func f))] hp=some (.ret (.tuple [zg (hp.length+3),P4 0]),H++[.box (some 4) (zg (hp.length+3)),.arr (some 4) [] false,.box none (P4 0),.arr (some 4) [] false]):=by
 refine vA rfl rfl rfl rfl rfl ?_;unfold x3 at h;simp only[zg] at h;have hz0:=P1;simp -dsimp -implicitDefEqProofs only[go_sem,seval,h,hz0,zN,zH (Zc _),zH (Zf _ _),vr,vu,vw,getN hH,z7 hH,setN hH,Yi hH,hH];refine⟨rfl,84,[],_,rfl,_,_,oF _ _ _,?_,?_⟩
 ·simp[Yp,yA,YI,Fr.look,aload,getN hH,z7 hH,zg,Xo,AV.shp,total,Sh.size]
 simp_all[AV.refsIn,AV.refsIn.gol,AV.refsIn.go,zg]
theorem oJ(f:FuncId)(hp:Heap)(r:Nat)(b:Tm)(h:S f [.ptr r 0] (hp++x3 hp.length)=some (.panic (xW b),hp++x3 hp.length)):S 40 [.ptr r 0,.pv none (.func (.func f))] hp=some (.ret (.tuple [b.av,P4 8]),hp):=by
 refine vA rfl rfl rfl rfl rfl ?_;have hd:=oH b hp (zg (hp.length+1)) (P4 0) (.arr (some 4) [] false);unfold x3 at h;simp only[zg] at h;have hpan:∀A:Prop,panK true A=A:=fun _=>rfl;simp -dsimp -implicitDefEqProofs only[go_sem,seval,h,hpan,zN,vr,vu,vw];refine⟨rfl,84,[],_,rfl,_,_,hd,?_,?_⟩
 ·simp[Yp,yA,YI,Fr.look,aload,Xo,AV.shp,Tm.av,YR,XV]
 grind [AV.refsIn,AV.refsIn.gol,Tm.av]
theorem bn(f:FuncId)(hp H:Heap)(r:Nat)(hH:H.length=hp.length)(e:Int)(h:S f [.ptr r 0] (hp++x3 hp.length)=some (.panic (QN e),H++x3 hp.length)):S 40 [.ptr r 0,.pv none (.func (.func f))] hp=some (.ret (.tuple [zg (hp.length+1),P4 e]),H++[.box (some 4) (zg (hp.length+1)),.arr (some 4) [] false,.box none (P4 e)]):=by
 refine vA rfl rfl rfl rfl rfl ?_;have hd:=oI e H (zg (hp.length+1)) (P4 0) (.arr (some 4) [] false);rw[hH] at hd;unfold x3 at h;simp only[zg] at h;have hpan:∀A:Prop,panK true A=A:=fun _=>rfl;simp -dsimp -implicitDefEqProofs only[go_sem,seval,h,hpan,zN,vr,vu,vw];refine⟨rfl,84,[],_,rfl,_,_,hd,?_,?_⟩
 ·simp[Yp,yA,YI,Fr.look,aload,getN hH,z7 hH,zg,Xo,AV.shp,total,Sh.size]
 simp_all[AV.refsIn,AV.refsIn.gol,AV.refsIn.go,zg]
end Go.Proofs.YtgedfopkiebjkaaGreatDoor
