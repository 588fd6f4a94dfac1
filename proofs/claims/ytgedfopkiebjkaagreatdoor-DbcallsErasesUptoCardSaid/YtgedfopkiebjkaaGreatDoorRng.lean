/- Vars and Rename: from chapter 25. -/
import Derived.Test.YtgedfopkiebjkaaGreatDoorUnf
import Derived.Test.YtgedfopkiebjkaaGreatDoorAm5
import Derived.Test.YtgedfopkiebjkaaGreatDoorRdx
set_option linter.unusedSimpArgs false
set_option linter.unusedVariables false
namespace Go.Proofs.YtgedfopkiebjkaaGreatDoor
open Go.Am
mutual
def shT(d:Int):Tm->Tm
 | .mk k n s ts=>if k=0 then .mk 0 (n+d) [] [] else .mk k n s (shTs d ts)
def shTs(d:Int):List Tm->List Tm
 |[]=>[]
 |t::r=>shT d t::shTs d r
end
theorem jM(d:Int):∀l:List Tm,shTs d l=l.map (shT d)
 |[]=>rfl
 |t::r=>by rw[shTs,jM d r];rfl
theorem QD(d:Int)(t:Tm):shT d t=if t.kind=0 then .mk 0 (t.n+d) [] [] else .mk t.kind t.n t.name (shTs d t.args):=by cases t;rfl
def Xi(l:List Int):List (Int × PV):=l.map fun v=>(v,.int .i64 1)
theorem VL(v:Int):∀l:List Int,(Y6 v (Xi l)).getD (.int .i64 0)=.int .i64 (if v∈l then 1 else 0)
 |[]=>rfl
 |x::r=>by
  have ih:=VL v r
  grind [Xi,Y6]
theorem BB(v:Int):∀l:List Int,v ∉ l->mPut v (.int .i64 1) (Xi l)=Xi (l++[v])
 |[],_=>rfl
 |x::r,h=>by
  have ih:=BB v r fun hm=>h (Zm _ hm)
  grind [Xi,mPut]
def gV(t:Tm)(l:List Int):Heap:=[.box (some 4) (.pv (some 4) t.pv),.arr none [] false,.box none (.sl none 3 l.length 0 l.length),.arr none (ints l) false,.map none (Ya (Xi l)),.box none (.map 4)]
theorem Ox(t0 u:Tm)(l:List Int)(ext:Heap)(hl:l.length<100000000):
  S 140 [u.av,.ptr 5 0,.ptr 2 0] (gV t0 l++ext)=some (.ret u.av,gV t0 (vadd l u.n)++ext):=by
 refine Yj rfl rfl rfl rfl ?_;have hlim:l.length+1<=lim:=by grind [lim]
 by_cases hm:u.n∈l
 ·have e:vadd l u.n=l:=by grind [vadd]
  rw[e];have hlk:∀(a0 a1 a2 a3 a5:AObj) (e:Heap),YF false none (P4 0) false (a0::a1::a2::a3::.map none (Ya (Xi l))::a5::e) [.map 4,P4 u.n]=some (P4 1):=fun a0 a1 a2 a3 a5 e=>by
   rw[jk (m:=Xi l) rfl,VL,Zh hm]
  simp -dsimp -implicitDefEqProofs only[go_sem,seval,gV,Tm.av,Yb,hlk]
  grind [AV.refsIn]
 ·have e:vadd l u.n=l++[u.n]:=by grind [vadd]
  rw[e];have hlk:∀(a0 a1 a2 a3 a5:AObj) (e:Heap),YF false none (P4 0) false (a0::a1::a2::a3::.map none (Ya (Xi l))::a5::e) [.map 4,P4 u.n]=some (P4 0):=fun a0 a1 a2 a3 a5 e=>by
   rw[jk (m:=Xi l) rfl,VL,Zb hm]
  have hms:∀(a0 a1 a2 a3 a5:AObj) (e:Heap),yP false none (a0::a1::a2::a3::.map none (Ya (Xi l))::a5::e) [.map 4,P4 u.n,P4 1]=some (.undef,a0::a1::a2::a3::.map none (Ya (Xi (l++[u.n])))::a5::e):=fun a0 a1 a2 a3 a5 e=>by
   grind [QW,Qu,BB]
  have hst:∀(n o' n':Nat) (a0 a1 a3 a4 a5:AObj) (e:Heap) (b:Nat),zK none (b+6) (a0::a1::.box none (.sl none 3 n 0 n)::a3::a4::a5::e) [.ptr 2 0,.sl none 3 n' o' n']=some (.undef,a0::a1::.box none (.sl none 3 n' o' n')::a3::a4::a5::e):=fun n o' n' a0 a1 a3 a4 a5 e b=>mf (by omega) rfl;simp -dsimp -implicitDefEqProofs only[go_sem,seval,gV,Tm.av,Yb,hlk,hms,hst,ya,hlim,GX]
  grind [AV.refsIn]
theorem Oy(t0:Tm):∀(t:Tm) (l:List Int) (ext:Heap),t.fits=true->t.size<10000000->l.length+t.size<100000000->
  ∃v e,S 76 [t.av,.func (.func 140) [] [.ptr 5 0,.ptr 2 0]] (gV t0 l++ext)=some (.ret v,gV t0 (vads l t.occ)++(ext++e))/\v.shp=some 4/\v.plain=true/\
   ∃e2,AV.freeze deep v (gV t0 (vads l t.occ)++(ext++e))=some (t.pv,gV t0 (vads l t.occ)++(ext++e2)):=by
 intro t
 induction t using Tm.zAl with
 |h t ih=>
  intro l ext hf ht hl;have hts:=t.size_eq;have hlen:=Tm.zAk t.args;obtain⟨K,hK⟩:∃K:List Int->Heap,K=fun l=>gV t0 l++ext:=⟨_,rfl⟩;have hKs:∀l,gV t0 l++ext=K l:=fun l=>by rw[hK]
  have hKl:∀l,(K l).length=ext.length+6:=fun l=>by simp_all[gV]
  have hKa:∀l X,gV t0 l++(ext++X)=K l++X:=fun l X=>by grind
  simp only[hKa,hKs];obtain⟨n,hn⟩:∃n,n=ext.length+6:=⟨_,rfl⟩;rw[<-hn] at hKl;rw[Tm.zAm];by_cases hk:t.kind=0
  ·rw[Zh hk];have h1:=fun X=>Ox t0 t l (ext++X) (by omega);simp only[hKa] at h1;have e1:vads l [t.n]=vadd l t.n:=rfl;rw[e1];refine⟨t.av,[],?_,rfl,rfl,⟨[],rfl⟩⟩;rw[ZF];refine Yj rfl rfl rfl rfl ?_;have hk':=Zg hk;simp only[Tm.av] at h1;simp -dsimp -implicitDefEqProofs only[go_sem,seval,Tm.av,zQ,hk',h1,hKl,getN (hKl _),zX (hKl _),setN (hKl _),Yg (hKl _)]
   grind [AV.refsIn]
  ·rw[Zb hk];refine⟨.agg [(none,P4 t.kind),(none,P4 t.n),(none,P6 t.name),(none,.sl (some 4) (n+5) t.args.length 0 t.args.length)],
    [.box (some 4) (.pv (some 4) t.pv),.box (some 4) (.agg [(none,P4 t.kind),(none,P4 t.n),(none,P6 t.name),(none,.sl (some 4) (n+5) t.args.length 0 t.args.length)]),.arr (some 4) [] false,.box (some 4) (.agg [(none,P4 t.kind),(none,P4 t.n),(none,P6 t.name),(none,.sl (some 4) (n+5) t.args.length 0 t.args.length)]),.arr (some 4) [] false,.arr (some 4) (Tm.pvs t.args) false],?_,rfl,rfl,?_⟩
   ·refine Yj rfl rfl rfl rfl ?_;have hk':=Zj hk;have hb:zR A0 [0,1,2] [P4 t.kind,P4 t.n,P6 t.name]=some (.agg [(none,P4 t.kind),(none,P4 t.n),(none,P6 t.name),(none,.tsl (some 4) [])]):=rfl;have hle:∀k,n<=n+k:=fun k=>Zf _ _;rw[hKl];simp -dsimp -implicitDefEqProofs only[go_sem,seval,Tm.av,zQ,Yb,Ye,zN,hk',Tm.pvs_len,hb,zH (Zf _ _),hKl,getN (hKl _),zX (hKl _),setN (hKl _),Yg (hKl _)];refine Yf (α:=Unit) t.args.length (fun _ _=>True) (fun i _=>⟨[(1,.func (.func 140) [] [.ptr 5 0,.ptr 2 0]),(4,.ptr (n+1) 0),(5,.ptr (n+3) 0),(22,.pv none (.sl (some 4) (Tm.pvs t.args))),(23,P4 t.args.length),(24,P4 i)],K (vads l (Tm.occs (t.args.take i)))++appH n t i⟩) () ⟨trivial,?_⟩ ?_ ?_
    ·rw[ze];rfl
    ·rintro i - h -;have hc:(i:Int)<(t.args.length:Int):=by omega
     obtain⟨u,hu⟩:∃u,t.args[i]? =some u:=⟨_,Zd h⟩;have hum:=Zi hu;have husz:=Tm.zAq hum;have hst:=Tm.zAr hu;have hle2:=Tm.zAp t.args (i+1);have hvl:=xh (Tm.occs (t.args.take i)) l;have hol:=Tm.zAx (t.args.take i);obtain⟨v,e,hcall,hvs,hvp,e2,hfz⟩:=ih u hum (vads l (Tm.occs (t.args.take i))) (ext++(appH n t i++[.box (some 4) (.pv (some 4) u.pv),.arr (some 4) [] false])) (Tm.zAo hf hum) (by omega) (by omega);rw[<-xL,<-Tm.zAu hu] at hcall hfz;simp only[Zl,hKa] at hcall hfz;generalize vads l (Tm.occs (t.args.take (i+1)))=l2 at hcall hfz ⊢;generalize vads l (Tm.occs (t.args.take i))=l1 at hcall hfz hvl ⊢;have w2:IntKind.i64.wrap ((i:Int)+1)=((i+1:Nat):Int):=by grind [zO]
     have hl:(Tm.pvs (t.args.take i)).length=i:=by grind [Tm.pvs_len]
     have hlim:i+1<=lim:=by grind [lim]
     have hbs:YN (some 4) (K l2++(appH n t i++([.box (some 4) (.pv (some 4) u.pv),.arr (some 4) [] false]++e))) [v]=some (.tsl (some 4) [u.pv],K l2++(appH n t i++([.box (some 4) (.pv (some 4) u.pv),.arr (some 4) [] false]++e2))):=by
      simp_all[YN,zZ,YE]
     have hs1:∀(k k':List Int) (e e':Heap),Yv (K k++(appH n t i++e)) (K k'++(appH n t i++e')) (.ptr (n+3) 3)=true:=fun k k' e e'=>qP (t:=t) (q:=n+5) (i:=i) (by rw[getN (hKl _)];rfl) (by rw[getN (hKl _)];rfl);simp only[Tm.av] at hcall;simp only[appH,Zl,Zs,Zv] at hcall hbs hs1;simp -dsimp -implicitDefEqProofs only[go_sem,seval,appH,hc,zM (Tm.pvs_get hu),xg,ZK,ZX,ZS,ZU,hcall,hbs,hs1,w2,hl,hlim,Tm.zAn hu,zH (Zf _ _),Y4 (Zf _ _),hKl,getN (hKl _),zX (hKl _),setN (hKl _),Yg (hKl _)];simp_all[yF,AObj.refs,AV.ofComps,pures,AV.refsIn,AV.refsIn.go,AV.refsIn.gol]
    ·rintro - -;have hc:¬(t.args.length:Int)<(t.args.length:Int):=by omega
     simp -dsimp -implicitDefEqProofs only[go_sem,seval,appH,hc,ZJ,zT,zH (Zf _ _),Y4 (Zf _ _),hKl,getN (hKl _),zX (hKl _),setN (hKl _),Yg (hKl _)]
     grind [AV.refsIn,AV.refsIn.go]
   ·have e:=P0
    cases t with
    |mk k n' s ts=>
     refine⟨[.box (some 4) (.pv (some 4) (Tm.mk k n' s ts).pv),.box (some 4) (.agg [(none,P4 k),(none,P4 n'),(none,P6 s),(none,.sl (some 4) (n+5) ts.length 0 ts.length)]),.arr (some 4) [] false,.box (some 4) (.agg [(none,P4 k),(none,P4 n'),(none,P6 s),(none,.sl (some 4) (n+5) ts.length 0 ts.length)]),.arr (some 4) [] false,.arr (some 4) (Tm.pvs ts) true],?_⟩;show AV.freeze (7+1) (.agg _) _=_;simp[e,AV.freeze.go,AV.freeze,getN (hKl _),setN (hKl _),Tm.kind,Tm.n,Tm.name,Tm.args,Tm.pvs_len,Tm.pv]
theorem BC(t:Tm)(hv:t.valid=true)(hp:Heap):S 121 [t.av] hp=some (.ret (.pv none (.sl none (ints (vads [] t.occ)))),hp):=by
 refine zL rfl rfl rfl (zJ [(some 4,t.pv)]) rfl ?_;have hsz:=valid_size hv;have h1:=fun hp=>yu t hp (by omega);rw[hv] at h1;have hn0:∀H:Heap,YW none H=some (.sl none H.length 0 0 0,H++[.arr none [] false]):=fun H=>Xt (sh:=none) (by decide);obtain⟨v,e,h2,_,_,e2,hfz⟩:=Oy t t [] [] (valid_fits hv) (by omega) (by grind);generalize vads [] t.occ=l at*;simp only[Tm.av] at h1 h2;have hmk:∀(a0 a1 a2 a3:AObj),zK none 0 [a0,a1,a2,a3,.map none [],.box none (.pv none .nilmap)] [.ptr 5 0,.map 4]=some (.undef,[a0,a1,a2,a3,.map none [],.box none (.map 4)]):=fun _ _ _ _=>rfl;have e0:gV t []++[]=[.box (some 4) (.pv (some 4) t.pv),.arr none [] false,.box none (.sl none 3 0 0 0),.arr none [] false,.map none [],.box none (.map 4)]:=rfl;rw[e0] at h2;simp only[gV,Zv,Zs] at h2;have hal:∀a0 a1:AObj,yO none (.tsl none []) [a0,a1] []=some (.ptr 2 0,[a0,a1,.box none (.sl none 3 0 0 0),.arr none [] false]):=fun _ _=>rfl;have hfr:∀(a0 a1 a2 a4 a5:AObj),Am.frozen (.pv none (.sl none (ints l))) (.sl none 3 l.length 0 l.length) (a0::a1::a2::.arr none (ints l) false::a4::a5::e):=fun a0 a1 a2 a4 a5=>by
  refine⟨(a0::a1::a2::.arr none (ints l) false::a4::a5::e).set 3 (.arr none (ints l) true),?_⟩;simp[AV.freezeRes,AV.freeze,deep,ya,AV.shp]
 simp -dsimp -implicitDefEqProofs only[go_sem,seval,Tm.av,h1,hn0,hal,hmk,h2]
 grind
def cagg(k:Int)(q:Nat):AV:=.agg [(none,P4 0),(none,P4 k),(none,P6 []),(none,.sl (some 4) q 0 0 0)]
theorem jN{k:Int}{q:Nat}{H:Heap}(h:H[q]? =some (.arr (some 4) [] false)):AV.freeze deep (cagg k q) H=some ((tvar k).pv,H.set q (.arr (some 4) [] true)):=by
 have e:=P0
 show AV.freeze (7+1) (.agg _) _=_;simp[e,AV.freeze.go,AV.freeze,h];rfl
def gR(t:Tm)(d:Int):Heap:=[.box (some 4) (.pv (some 4) t.pv),.box none (P4 d),.box (some 4) (cagg 0 3),.arr (some 4) [] false]
theorem Oz(t0 u:Tm)(d:Int)(ext:Heap)(h0:0<=d)(h1:0<=u.n)(h2:d<=2000000000000)(h3:u.n<=2000000000000)(n:Nat)(hn:n=ext.length+4):
  S 142 [u.av,.ptr 1 0] (gR t0 d++ext)=some (.ret (cagg (u.n+d) (n+3)),gR t0 d++(ext++[.box (some 4) (.pv (some 4) u.pv),.box (some 4) (cagg (u.n+d) (n+3)),.arr (some 4) [] false,.arr (some 4) [] false])):=by
 obtain⟨K,hK⟩:∃K:Heap,K=gR t0 d++ext:=⟨_,rfl⟩;have hKl:K.length=n:=by simp_all[gR]
 have hK1:∀X,(K++X)[1]? =some (.box none (P4 d)):=fun X=>by rw[hK];rfl
 rw[<-Zl,<-hK];unfold cagg;refine Yj rfl rfl rfl rfl ?_;rw[hKl];have w1:IntKind.i64.wrap (u.n+d)=u.n+d:=zO (by omega) (by omega);have hb:∀k:Int,zR A0 [1] [P4 k]=some (.agg [(none,P4 0),(none,P4 k),(none,P6 []),(none,.tsl (some 4) [])]):=fun _=>rfl;simp -dsimp -implicitDefEqProofs only[go_sem,seval,Tm.av,Yb,w1,hb,zT,zH (Zf _ _),hK1,hKl,getN hKl,zX hKl,setN hKl,Yg hKl]
 grind [AV.refsIn,AV.refsIn.go]
def okV(t:Tm):Prop:=∀v∈t.occ,0<=v/\v<=2000000000000
theorem okV.arg{t u:Tm}(h:okV t)(hk:¬t.kind=0)(hu:u∈t.args):okV u:=fun v hv=>h v (by
 rw[Tm.zAm,Zb hk];have:∀l:List Tm,u∈l->v∈Tm.occs l:=by
  intro l
  induction l with
  |nil=>grind
  |cons x r ih=>
   grind [Tm.occs]
 grind)
theorem OA(t0:Tm)(d:Int)(h0:0<=d)(h2:d<=2000000000000):∀(t:Tm) (ext:Heap),t.fits=true->t.size<10000000->okV t->
  ∃v e,S 76 [t.av,.func (.func 142) [] [.ptr 1 0]] (gR t0 d++ext)=some (.ret v,gR t0 d++(ext++e))/\v.shp=some 4/\v.plain=true/\(∀H,v.own H=(v,H))/\
   (∃e2,AV.freeze deep v (gR t0 d++(ext++e))=some ((shT d t).pv,gR t0 d++(ext++e2)))/\
   ∀H:Heap,(∀j,ext.length+4<=j->H[j]? =(gR t0 d++(ext++e))[j]?)->∃H2,AV.freeze deep v H=some ((shT d t).pv,H2):=by
 intro t
 induction t using Tm.zAl with
 |h t ih=>
  intro ext hf ht hV;have hts:=t.size_eq;have hlen:=Tm.zAk t.args;obtain⟨n,hn⟩:∃n,n=ext.length+4:=⟨_,rfl⟩;obtain⟨K,hK⟩:∃K:Heap,K=gR t0 d++ext:=⟨_,rfl⟩;have hKl:K.length=n:=by simp_all[gR]
  have hKa:∀X,gR t0 d++(ext++X)=K++X:=fun X=>by grind
  simp only[<-hn];simp only[hKa,<-hK];by_cases hk:t.kind=0
  ·have hV1:=hV t.n (by grind [Tm.zAm]);have h1:=fun X=>Oz t0 t d (ext++X) h0 hV1.1 h2 hV1.2;simp only[Zl] at h1;simp only[hKa] at h1;have e2:shT d t=tvar (t.n+d):=by
    rw[QD,Zh hk];rfl
   rw[e2];generalize t.n+d=k at*;refine⟨cagg k (n+6),[.box (some 4) (.pv (some 4) t.pv),.box (some 4) (cagg k (n+6)),.arr (some 4) [] false,.box (some 4) (.pv (some 4) t.pv),.box (some 4) (cagg k (n+6)),.arr (some 4) [] false,.arr (some 4) [] false],?_,rfl,rfl,fun _=>rfl,?_,fun H hH=> ?_⟩
   ·unfold cagg;refine Yj rfl rfl rfl rfl ?_;have hk':=Zg hk;have h2:=h1 [.box (some 4) (.pv (some 4) t.pv),.box (some 4) (cagg 0 (n+2)),.arr (some 4) [] false] (n+3) (by grind);simp only[Tm.av,cagg,Zs,Zv] at h2;rw[hKl];simp -dsimp -implicitDefEqProofs only[go_sem,seval,Tm.av,cagg,zQ,hk',h2,zT,hKl,getN hKl,zX hKl,setN hKl,Yg hKl,zH (Zf _ _)];simp_all[Zb,AV.refsIn,AV.refsIn.go]
   ·refine⟨[.box (some 4) (.pv (some 4) t.pv),.box (some 4) (cagg k (n+6)),.arr (some 4) [] false,.box (some 4) (.pv (some 4) t.pv),.box (some 4) (cagg k (n+6)),.arr (some 4) [] false,.arr (some 4) [] true],?_⟩;rw[jN (by rw[getN hKl];rfl),setN hKl];rfl
   ·exact⟨_,jN (by rw[hH _ (by omega),getN hKl];rfl)⟩
  ·obtain⟨ts',hts'⟩:∃ts',ts'=t.args.map (shT d):=⟨_,rfl⟩;have htl:ts'.length=t.args.length:=by grind
   rw[QD,Zb hk,jM,<-hts'];refine⟨.agg [(none,P4 t.kind),(none,P4 t.n),(none,P6 t.name),(none,.sl (some 4) (n+5) t.args.length 0 t.args.length)],
    [.box (some 4) (.pv (some 4) t.pv),.box (some 4) (.agg [(none,P4 t.kind),(none,P4 t.n),(none,P6 t.name),(none,.sl (some 4) (n+5) t.args.length 0 t.args.length)]),.arr (some 4) [] false,.box (some 4) (.agg [(none,P4 t.kind),(none,P4 t.n),(none,P6 t.name),(none,.sl (some 4) (n+5) t.args.length 0 t.args.length)]),.arr (some 4) [] false,.arr (some 4) (Tm.pvs ts') false],?_,rfl,rfl,fun _=>rfl,?_,?_⟩
   ·refine Yj rfl rfl rfl rfl ?_;have hk':=Zj hk;have hb:zR A0 [0,1,2] [P4 t.kind,P4 t.n,P6 t.name]=some (.agg [(none,P4 t.kind),(none,P4 t.n),(none,P6 t.name),(none,.tsl (some 4) [])]):=rfl;rw[hKl];simp -dsimp -implicitDefEqProofs only[go_sem,seval,Tm.av,zQ,Yb,Ye,zN,hk',Tm.pvs_len,hb,zH (Zf _ _),hKl,getN hKl,zX hKl,setN hKl,Yg hKl];refine Yf (α:=Unit) t.args.length (fun _ _=>True) (fun i _=>⟨[(1,.func (.func 142) [] [.ptr 1 0]),(4,.ptr (n+1) 0),(5,.ptr (n+3) 0),(22,.pv none (.sl (some 4) (Tm.pvs t.args))),(23,P4 t.args.length),(24,P4 i)],K++appC n t ts' i⟩) () ⟨trivial,?_⟩ ?_ ?_
    ·rfl
    ·rintro i - h -;have hc:(i:Int)<(t.args.length:Int):=by omega
     obtain⟨u,hu⟩:∃u,t.args[i]? =some u:=⟨_,Zd h⟩;have hum:=Zi hu;have husz:=Tm.zAq hum;obtain⟨v,e,hcall,hvs,hvp,_,⟨e2,hfz⟩,_⟩:=ih u hum (ext++(appC n t ts' i++[.box (some 4) (.pv (some 4) u.pv),.arr (some 4) [] false])) (Tm.zAo hf hum) (by omega) (hV.arg hk hum);simp only[Zl,hKa] at hcall hfz;have w2:IntKind.i64.wrap ((i:Int)+1)=((i+1:Nat):Int):=by grind [zO]
     have hl:(Tm.pvs (ts'.take i)).length=i:=by grind [Tm.pvs_len]
     have hlim:i+1<=lim:=by grind [lim]
     have hus:ts'[i]? =some (shT d u):=by grind
     have hbs:YN (some 4) (K++(appC n t ts' i++([.box (some 4) (.pv (some 4) u.pv),.arr (some 4) [] false]++e))) [v]=some (.tsl (some 4) [(shT d u).pv],K++(appC n t ts' i++([.box (some 4) (.pv (some 4) u.pv),.arr (some 4) [] false]++e2))):=by
      simp_all[YN,zZ,YE]
     have hs1:∀(e e':Heap),Yv (K++(appC n t ts' i++e)) (K++(appC n t ts' i++e')) (.ptr (n+3) 3)=true:=fun e e'=>qP (t:=t) (q:=n+5) (i:=i) (by rw[getN hKl];rfl) (by rw[getN hKl];rfl);simp only[Tm.av] at hcall;simp only[appC,Zl,Zs,Zv] at hcall hbs hs1;simp -dsimp -implicitDefEqProofs only[go_sem,seval,appC,hc,zM (Tm.pvs_get hu),xg,ZK,ZX,ZS,ZU,hcall,hbs,hs1,w2,hl,hlim,Tm.zAn hus,zH (Zf _ _),Y4 (Zf _ _),hKl,getN hKl,zX hKl,setN hKl,Yg hKl];refine⟨(),?_⟩;rw[yF 6 hKl rfl (by simp[AObj.refs,AV.ofComps,pures,AV.refsIn,AV.refsIn.go]) (by simp[AV.refsIn,AV.refsIn.gol])];rfl
    ·rintro - -;have hc:¬(t.args.length:Int)<(t.args.length:Int):=by omega
     have htk:ts'.take t.args.length=ts':=Zn (by omega);simp -dsimp -implicitDefEqProofs only[go_sem,seval,appC,hc,htk,zT,zH (Zf _ _),Y4 (Zf _ _),hKl,getN hKl,zX hKl,setN hKl,Yg hKl]
     grind [AV.refsIn,AV.refsIn.go]
   ·have e:=P0
    refine⟨[.box (some 4) (.pv (some 4) t.pv),.box (some 4) (.agg [(none,P4 t.kind),(none,P4 t.n),(none,P6 t.name),(none,.sl (some 4) (n+5) t.args.length 0 t.args.length)]),.arr (some 4) [] false,.box (some 4) (.agg [(none,P4 t.kind),(none,P4 t.n),(none,P6 t.name),(none,.sl (some 4) (n+5) t.args.length 0 t.args.length)]),.arr (some 4) [] false,.arr (some 4) (Tm.pvs ts') true],?_⟩;show AV.freeze (7+1) (.agg _) _=_;simp[e,AV.freeze.go,AV.freeze,getN hKl,setN hKl,htl,Tm.pvs_len,Tm.pv]
   ·intro H hH;have h5:=hH (n+5) (by omega);rw[getN hKl] at h5;have e:=P0
    refine⟨H.set (n+5) (.arr (some 4) (Tm.pvs ts') true),?_⟩;show AV.freeze (7+1) (.agg _) _=_;simp_all[AV.freeze.go,AV.freeze,Tm.pvs_len,Tm.pv]
theorem OB:∀{t:Tm},t.fits=true->∀v∈t.occ,0<=v/\v<=1099511627776:=by
 intro t
 induction t using Tm.zAl with
 |h t ih=>
  intro hf v hv;rw[Tm.zAm] at hv;split at hv
  ·grind [Tm.zAs,Tm.node]
  ·have:∀l:List Tm,(∀u∈l,u∈t.args)->v∈Tm.occs l->0<=v/\v<=1099511627776:=by
    intro l
    induction l with
    |nil=>intro _ h;cases h
    |cons x r ihr=>
     grind [Tm.occs,Tm.zAo]
   grind
def movable(d:Int)(t:Tm):Bool:=t.occ.all fun v=>decide (v<=1099511627776 - d)
theorem BD(t:Tm)(hv:t.valid=true)(d:Int)(h0:0<=d)(hd:d<=1099511627776)(hp:Heap):S 122 [t.av,P4 d] hp=some (.ret (.tuple [if movable d t=true then(shT d t).av else zt.av,P4 (if movable d t=true then 0 else 2)]),hp):=by
 refine zL rfl rfl rfl (zJ [(some 4,t.pv),(none,.int .i64 d)]) rfl ?_;have hsz:=valid_size hv;have hf:=valid_fits hv;have h1:=fun hp=>yu t hp (by omega);rw[hv] at h1;have hn:∀hp,S 141 [P4 d] hp=some (.ret (P5 true),hp):=fun hp=>by
  refine zL rfl rfl rfl (zJ [(none,.int .i64 d)]) rfl ?_;have c1:(0:Int)<=d:=h0;have c2:d<=1099511627776:=hd
  (repeat' (first|(simp -dsimp -implicitDefEqProofs only[go_sem,seval,c1,c2, *])|(refine YT (fun _=> ?_) (fun _=> ?_))))
 have hvars:=fun hp=>BC t hv hp;have hol:t.occ.length<=t.size:=by
  have:=Tm.zAx [t]
  grind [Tm.occs,Tm.sizes]
 have hvl:=xh t.occ [];have hmem:=qT t.occ [];have hmv:movable d t=true↔∀v∈vads [] t.occ,v<=1099511627776 - d:=by
  grind [movable]
 obtain⟨v,e,h2,h3,h4,h5,_,h6⟩:=OA t d h0 (by omega) t [] hf (by omega) (fun v hv=>by have:=OB hf v hv;omega);generalize hl:vads [] t.occ=l at*;have hll:l.length<10000000:=by grind
 simp only[Tm.av,gR,cagg,Zs,Zv] at h1 h2 hvars;have w1:IntKind.i64.wrap (1099511627776 - d)=1099511627776 - d:=zO (by omega) (by omega);have hst:∀(a0 a1 a3:AObj),zK (some 4) 0 (a0::a1::.box (some 4) (.agg [(none,P4 0),(none,P4 0),(none,P6 []),(none,.sl (some 4) 3 0 0 0)])::a3::e) [.ptr 2 0,v]=some (.undef,a0::a1::.box (some 4) v::a3::e):=fun _ _ _=>by
  simp_all[zK,astore]
 have hb:=P1;simp -dsimp -implicitDefEqProofs only[go_sem,seval,Tm.av,h1,hn,hvars,ya,zT,zH (Za _)];refine Yf (α:=Unit) l.length (fun i _=>∀v∈l.take i,v<=1099511627776 - d) (fun i _=>⟨[(2,.ptr 0 0),(3,.ptr 1 0),(4,.ptr 2 0),(18,.pv none (.sl none (ints l))),(19,P4 l.length),(20,P4 i)],[.box (some 4) (.pv (some 4) t.pv),.box none (P4 d),.box (some 4) (.agg [(none,P4 0),(none,P4 0),(none,P6 []),(none,.sl (some 4) 3 0 0 0)]),.arr (some 4) [] false]⟩) () ⟨fun v hv=>by grind,rfl⟩ ?_ ?_
 ·rintro i - h hinv;have hc:(i:Int)<(l.length:Int):=by omega
  obtain⟨w,hw⟩:∃w,l[i]? =some w:=⟨_,Zd h⟩;have w2:IntKind.i64.wrap ((i:Int)+1)=((i+1:Nat):Int):=by grind [zO]
  by_cases hw2:1099511627776 - d<w
  ·have hm:¬movable d t=true:=fun hm=>by
    have:=hmv.1 hm w (Zi hw);omega
   simp -dsimp -implicitDefEqProofs only[go_sem,seval,hc,zM (Qs hw),w1,hw2,hb,zT,zH (Za _),kx];rw[Zb hm,Zb hm];rfl
  ·simp -dsimp -implicitDefEqProofs only[go_sem,seval,hc,zM (Qs hw),w1,w2,hw2];refine⟨(),fun v hv=> ?_,?_⟩
   ·grind [Z7]
   grind [xJ]
 ·rintro - hinv;have hc:¬(l.length:Int)<(l.length:Int):=by omega
  rw[ZJ] at hinv;have hm:movable d t=true:=hmv.2 hinv;simp -dsimp -implicitDefEqProofs only[go_sem,seval,hc,h2,hst,kx];rw[Zh hm,Zh hm];obtain⟨H2,k⟩:=h6 (.box (some 4) (.pv (some 4) t.pv)::.box none (P4 d)::.box (some 4) v::.arr (some 4) [] false::e) fun j hj=>by
   match j,hj with
   |j+4,_=>rfl
  have ef:zZ [v,P4 0] (.box (some 4) (.pv (some 4) t.pv)::.box none (P4 d)::.box (some 4) v::.arr (some 4) [] false::e)=some ([(some 4,(shT d t).pv),(none,.int .i64 0)],H2):=by
   simp only[zZ,k,h3];rfl
  rw[ef];rfl
def gC(t:Tm)(l:List Int):Heap:=[.box (some 4) (.pv (some 4) t.pv),.box (some 4) (cagg 0 2),.arr (some 4) [] false,.map none (Ya (posF 0 l)),.box none (.map 3)]
theorem BE(t:Tm)(l:List Int)(ext:Heap):(gC t l++ext).length=ext.length+5:=by simp[gC]
theorem gC_4(t:Tm)(l:List Int)(ext X:Heap):(gC t l++ext++X)[4]? =some (.box none (.map 3)):=rfl
theorem gC_3(t:Tm)(l:List Int)(ext X:Heap):(gC t l++ext++X)[3]? =some (.map none (Ya (posF 0 l))):=rfl
theorem OC(t:Tm)(l l':List Int)(ext X:Heap):(gC t l++ext++X).set 3 (.map none (Ya (posF 0 l')))=gC t l'++ext++X:=rfl
theorem OE(t0 u:Tm)(l:List Int)(ext:Heap)(hl:l.length<100000000)(n:Nat)(hn:n=ext.length+5):
  S 77 [u.av,.ptr 4 0] (gC t0 l++ext)=some (.ret (cagg ((vadd l u.n).idxOf u.n:Nat) (n+3)),gC t0 (vadd l u.n)++(ext++[.box (some 4) (.pv (some 4) u.pv),.box (some 4) (cagg ((vadd l u.n).idxOf u.n:Nat) (n+3)),.arr (some 4) [] false,.arr (some 4) [] false])):=by
 obtain⟨K,hK⟩:∃K:List Int->Heap,K=fun l=>gC t0 l++ext:=⟨_,rfl⟩;have hKs:∀l,gC t0 l++ext=K l:=fun l=>by rw[hK]
 have hKl:∀l,(K l).length=n:=fun l=>by grind [BE]
 have hKa:∀l X,gC t0 l++(ext++X)=K l++X:=fun l X=>by grind
 have hK4:∀l X,(K l++X)[4]? =some (.box none (.map 3)):=fun l X=>by grind [gC_4]
 have hK3:∀l X,(K l++X)[3]? =some (.map none (Ya (posF 0 l))):=fun l X=>by grind [gC_3]
 have hKS:∀l l' X,(K l++X).set 3 (.map none (Ya (posF 0 l')))=K l'++X:=fun l l' X=>by grind [OC]
 have hle:∀k,n<=n+k:=fun k=>Zf _ _;rw[hKa,hKs];unfold cagg;refine Yj rfl rfl rfl rfl ?_;rw[hKl];have hb:∀k:Int,zR A0 [1] [P4 k]=some (.agg [(none,P4 0),(none,P4 k),(none,P6 []),(none,.tsl (some 4) [])]):=fun _=>rfl;by_cases hm:u.n∈l
 ·have e:vadd l u.n=l:=by grind [vadd]
  rw[e];have hlk:∀X:Heap,YF false none (P4 0) true (K l++X) [.map 3,P4 u.n]=some (.tuple [P4 ((l.idxOf u.n:Nat):Int),P5 true]):=fun X=>by
   grind [jo,qV]
  simp -dsimp -implicitDefEqProofs only[go_sem,seval,cagg,Tm.av,Yb,hlk,hb,zT,zH (Zf _ _),hK4,hKl,getN (hKl _),zX (hKl _),setN (hKl _),Yg (hKl _)]
  grind [AV.refsIn,AV.refsIn.go]
 ·have e:vadd l u.n=l++[u.n]:=by grind [vadd]
  rw[e,kY hm];have hlk:∀X:Heap,YF false none (P4 0) true (K l++X) [.map 3,P4 u.n]=some (.tuple [P4 0,P5 false]):=fun X=>by
   grind [jo,qV]
  have hml:∀X:Heap,y0 (K l++X) [.map 3]=some (P4 (l.length:Int)):=fun X=>by
   grind [y0,Ya,jl]
  have hms:∀X:Heap,yP false none (K l++X) [.map 3,P4 u.n,P4 (l.length:Int)]=some (.undef,K (l++[u.n])++X):=fun X=>by
   have:=kW u.n l 0 hm
   grind [QW,Qu]
  simp -dsimp -implicitDefEqProofs only[go_sem,seval,cagg,Tm.av,Yb,hlk,hml,hms,hb,zT,zH (Zf _ _),hK4,hKl,getN (hKl _),zX (hKl _),setN (hKl _),Yg (hKl _)]
  grind [AV.refsIn,AV.refsIn.go]
theorem OF(t0:Tm):∀(t:Tm) (l L:List Int) (ext:Heap),t.fits=true->t.size<10000000->l.length+t.size<100000000->vads l t.occ <+: L->
  ∃v e,S 76 [t.av,.func (.func 77) [] [.ptr 4 0]] (gC t0 l++ext)=some (.ret v,gC t0 (vads l t.occ)++(ext++e))/\v.shp=some 4/\v.plain=true/\(∀H,v.own H=(v,H))/\
   (∃e2,AV.freeze deep v (gC t0 (vads l t.occ)++(ext++e))=some ((Tm.sub (cPos L) t).pv,gC t0 (vads l t.occ)++(ext++e2)))/\
   ∀H:Heap,(∀j,ext.length+5<=j->H[j]? =(gC t0 (vads l t.occ)++(ext++e))[j]?)->∃H2,AV.freeze deep v H=some ((Tm.sub (cPos L) t).pv,H2):=by
 intro t
 induction t using Tm.zAl with
 |h t ih=>
  intro l L ext hf ht hl hp;have hts:=t.size_eq;have hlen:=Tm.zAk t.args;obtain⟨n,hn⟩:∃n,n=ext.length+5:=⟨_,rfl⟩;have h1:=fun X=>OE t0 t l (ext++X) (by omega);obtain⟨K,hK⟩:∃K:List Int->Heap,K=fun l=>gC t0 l++ext:=⟨_,rfl⟩;have hKs:∀l,gC t0 l++ext=K l:=fun l=>by rw[hK]
  have hKl:∀l,(K l).length=n:=fun l=>by grind [BE]
  have hKa:∀l X,gC t0 l++(ext++X)=K l++X:=fun l X=>by grind
  simp only[<-hn];simp only[Zl] at h1;simp only[hKa] at h1;simp only[hKa,hKs];rw[Tm.zAm] at hp ⊢;by_cases hk:t.kind=0
  ·rw[Zh hk] at hp ⊢;have e1:vads l [t.n]=vadd l t.n:=rfl;rw[e1] at hp ⊢;have e2:Tm.sub (cPos L) t=tvar ((vadd l t.n).idxOf t.n:Nat):=by
    grind [Tm.zAt,cPos,kX,G0]
   rw[e2];generalize (((vadd l t.n).idxOf t.n:Nat):Int)=k at*;generalize vadd l t.n=l2 at*;refine⟨cagg k (n+6),[.box (some 4) (.pv (some 4) t.pv),.box (some 4) (cagg k (n+6)),.arr (some 4) [] false,.box (some 4) (.pv (some 4) t.pv),.box (some 4) (cagg k (n+6)),.arr (some 4) [] false,.arr (some 4) [] false],?_,rfl,rfl,fun _=>rfl,?_,fun H hH=> ?_⟩
   ·unfold cagg;refine Yj rfl rfl rfl rfl ?_;have hk':=Zg hk;have h2:=h1 [.box (some 4) (.pv (some 4) t.pv),.box (some 4) (cagg 0 (n+2)),.arr (some 4) [] false] (n+3) (by grind);simp only[Tm.av,cagg,Zs,Zv] at h2;rw[hKl];simp -dsimp -implicitDefEqProofs only[go_sem,seval,Tm.av,cagg,zQ,hk',h2,zT,hKl,getN (hKl _),zX (hKl _),setN (hKl _),Yg (hKl _),zH (Zf _ _)];simp_all[AV.refsIn,AV.refsIn.go]
   ·refine⟨[.box (some 4) (.pv (some 4) t.pv),.box (some 4) (cagg k (n+6)),.arr (some 4) [] false,.box (some 4) (.pv (some 4) t.pv),.box (some 4) (cagg k (n+6)),.arr (some 4) [] false,.arr (some 4) [] true],?_⟩;simp_all[jN]
   simp_all[jN]
  ·rw[Zb hk] at hp ⊢;rw[kZ hk];obtain⟨ts',hts'⟩:∃ts',ts'=t.args.map (Tm.sub (cPos L)):=⟨_,rfl⟩;have htl:ts'.length=t.args.length:=by grind
   rw[<-hts'];refine⟨.agg [(none,P4 t.kind),(none,P4 t.n),(none,P6 t.name),(none,.sl (some 4) (n+5) t.args.length 0 t.args.length)],
    [.box (some 4) (.pv (some 4) t.pv),.box (some 4) (.agg [(none,P4 t.kind),(none,P4 t.n),(none,P6 t.name),(none,.sl (some 4) (n+5) t.args.length 0 t.args.length)]),.arr (some 4) [] false,.box (some 4) (.agg [(none,P4 t.kind),(none,P4 t.n),(none,P6 t.name),(none,.sl (some 4) (n+5) t.args.length 0 t.args.length)]),.arr (some 4) [] false,.arr (some 4) (Tm.pvs ts') false],?_,rfl,rfl,fun _=>rfl,?_,?_⟩
   ·refine Yj rfl rfl rfl rfl ?_;have hk':=Zj hk;have hb:zR A0 [0,1,2] [P4 t.kind,P4 t.n,P6 t.name]=some (.agg [(none,P4 t.kind),(none,P4 t.n),(none,P6 t.name),(none,.tsl (some 4) [])]):=rfl;have hle:∀k,n<=n+k:=fun k=>Zf _ _;rw[hKl];simp -dsimp -implicitDefEqProofs only[go_sem,seval,Tm.av,zQ,Yb,Ye,zN,hk',Tm.pvs_len,hb,zH (Zf _ _),hKl,getN (hKl _),zX (hKl _),setN (hKl _),Yg (hKl _)];refine Yf (α:=Unit) t.args.length (fun _ _=>True) (fun i _=>⟨[(1,.func (.func 77) [] [.ptr 4 0]),(4,.ptr (n+1) 0),(5,.ptr (n+3) 0),(22,.pv none (.sl (some 4) (Tm.pvs t.args))),(23,P4 t.args.length),(24,P4 i)],K (vads l (Tm.occs (t.args.take i)))++appC n t ts' i⟩) () ⟨trivial,?_⟩ ?_ ?_
    ·rw[ze];rfl
    ·rintro i - h -;have hc:(i:Int)<(t.args.length:Int):=by omega
     obtain⟨u,hu⟩:∃u,t.args[i]? =some u:=⟨_,Zd h⟩;have hum:=Zi hu;have husz:=Tm.zAq hum;have hst:=Tm.zAr hu;have hle2:=Tm.zAp t.args (i+1);have hvl:=xh (Tm.occs (t.args.take i)) l;have hol:=Tm.zAx (t.args.take i);have hpre:vads (vads l (Tm.occs (t.args.take i))) u.occ <+: L:=by
      grind [xL,Tm.zAu,Z4,G1,jm]
     obtain⟨v,e,hcall,hvs,hvp,_,⟨e2,hfz⟩,_⟩:=ih u hum (vads l (Tm.occs (t.args.take i))) L (ext++(appC n t ts' i++[.box (some 4) (.pv (some 4) u.pv),.arr (some 4) [] false])) (Tm.zAo hf hum) (by omega) (by omega) hpre;rw[<-xL,<-Tm.zAu hu] at hcall hfz;simp only[Zl,hKa] at hcall hfz;generalize vads l (Tm.occs (t.args.take (i+1)))=l2 at hcall hfz ⊢;generalize vads l (Tm.occs (t.args.take i))=l1 at hcall hfz hvl ⊢;have w2:IntKind.i64.wrap ((i:Int)+1)=((i+1:Nat):Int):=by grind [zO]
     have hl:(Tm.pvs (ts'.take i)).length=i:=by grind [Tm.pvs_len]
     have hlim:i+1<=lim:=by grind [lim]
     have hus:ts'[i]? =some (Tm.sub (cPos L) u):=by grind
     have hbs:YN (some 4) (K l2++(appC n t ts' i++([.box (some 4) (.pv (some 4) u.pv),.arr (some 4) [] false]++e))) [v]=some (.tsl (some 4) [(Tm.sub (cPos L) u).pv],K l2++(appC n t ts' i++([.box (some 4) (.pv (some 4) u.pv),.arr (some 4) [] false]++e2))):=by
      simp_all[YN,zZ,YE]
     have hs1:∀(k k':List Int) (e e':Heap),Yv (K k++(appC n t ts' i++e)) (K k'++(appC n t ts' i++e')) (.ptr (n+3) 3)=true:=fun k k' e e'=>qP (t:=t) (q:=n+5) (i:=i) (by rw[getN (hKl _)];rfl) (by rw[getN (hKl _)];rfl);simp only[Tm.av] at hcall;simp only[appC,Zl,Zs,Zv] at hcall hbs hs1;simp -dsimp -implicitDefEqProofs only[go_sem,seval,appC,hc,zM (Tm.pvs_get hu),xg,ZK,ZX,ZS,ZU,hcall,hbs,hs1,w2,hl,hlim,Tm.zAn hus,zH (Zf _ _),Y4 (Zf _ _),hKl,getN (hKl _),zX (hKl _),setN (hKl _),Yg (hKl _)];simp_all[yF,AObj.refs,AV.ofComps,pures,AV.refsIn,AV.refsIn.go,AV.refsIn.gol]
    ·rintro - -;have hc:¬(t.args.length:Int)<(t.args.length:Int):=by omega
     have htk:ts'.take t.args.length=ts':=Zn (by omega);simp -dsimp -implicitDefEqProofs only[go_sem,seval,appC,hc,ZJ,htk,zT,zH (Zf _ _),Y4 (Zf _ _),hKl,getN (hKl _),zX (hKl _),setN (hKl _),Yg (hKl _)]
     grind [AV.refsIn,AV.refsIn.go]
   ·have e:=P0
    refine⟨[.box (some 4) (.pv (some 4) t.pv),.box (some 4) (.agg [(none,P4 t.kind),(none,P4 t.n),(none,P6 t.name),(none,.sl (some 4) (n+5) t.args.length 0 t.args.length)]),.arr (some 4) [] false,.box (some 4) (.agg [(none,P4 t.kind),(none,P4 t.n),(none,P6 t.name),(none,.sl (some 4) (n+5) t.args.length 0 t.args.length)]),.arr (some 4) [] false,.arr (some 4) (Tm.pvs ts') true],?_⟩;show AV.freeze (7+1) (.agg _) _=_;simp_all[AV.freeze.go,AV.freeze,Tm.pvs_len,Tm.pv]
   ·intro H hH;have h5:=hH (n+5) (by omega);rw[getN (hKl _)] at h5;have e:=P0
    refine⟨H.set (n+5) (.arr (some 4) (Tm.pvs ts') true),?_⟩;show AV.freeze (7+1) (.agg _) _=_;simp_all[AV.freeze.go,AV.freeze,Tm.pvs_len,Tm.pv]
def canR(t:Tm):Tm:=if t.valid=true then canT t else zt
theorem VM(t:Tm)(hp:Heap)(ht:t.size<1000000000):S 38 [t.av] hp=some (.ret (canR t).av,hp):=by
 refine zL rfl rfl rfl (zJ [(some 4,t.pv)]) rfl ?_;have h1:=fun hp=>yu t hp ht;unfold canR;by_cases hv:t.valid=true
 ·rw[Zh hv];have hsz:=valid_size hv;obtain⟨v,e,h2,h3,h4,h5,_,h6⟩:=OF t t [] (vads [] t.occ) [] (valid_fits hv) (by omega) (by grind) (List.prefix_refl _);rw[hv] at h1;simp only[Tm.av,gC,cagg,Zs,Zv] at h1 h2;have hmk:∀(a0 a1 a2:AObj),zK none 0 [a0,a1,a2,.map none [],.box none (.pv none .nilmap)] [.ptr 4 0,.map 3]=some (.undef,[a0,a1,a2,.map none [],.box none (.map 3)]):=fun _ _ _=>rfl;have e0:Ya (posF 0 [])=[]:=rfl;rw[e0] at h2;have hst:∀(a0 a2 a3 a4:AObj),zK (some 4) 0 (a0::.box (some 4) (.agg [(none,P4 0),(none,P4 0),(none,P6 []),(none,.sl (some 4) 2 0 0 0)])::a2::a3::a4::e) [.ptr 1 0,v]=some (.undef,a0::.box (some 4) v::a2::a3::a4::e):=fun _ _ _ _=>by
   grind [zK,astore]
  have hfr:∀(a0 a1 a2 a3 a4:AObj),Am.frozen (canT t).av v (a0::a1::a2::a3::a4::e):=fun a0 a1 a2 a3 a4=>by
   obtain⟨H2,k⟩:=h6 (a0::a1::a2::a3::a4::e) fun j hj=>by
    match j,hj with
    |j+5,_=>rfl
   exact GR h3 h4 k
  simp -dsimp -implicitDefEqProofs only[go_sem,seval,Tm.av,h1,h2,hst,hmk,zH (Za _)];exact hfr _ _ _ _ _
 ·rw[Zb hv];have hv':t.valid=false:=by grind
  rw[hv'] at h1;simp only[Tm.av] at h1;simp -dsimp -implicitDefEqProofs only[go_sem,seval,Tm.av,h1,zH (Za _),zt];exact⟨_,rfl⟩
def vari(a b:Tm):Bool:=a.valid && (b.valid && decide ((canT a).cmp (canT b)=0))
theorem OG{t:Tm}(h:t.valid=true):(canT t).size=t.size:=qX t (valid_fits h)
def appN(t:Tm)(ts:List Tm)(i:Nat):Heap:=[.box (some 4) (.pv (some 4) t.pv),.box (some 4) (.agg [(none,P4 0),(none,P4 0),(none,P6 []),(none,.sl (some 4) 2 0 0 0)]),.arr (some 4) [] false,.box (some 4) (.agg [(none,P4 t.kind),(none,P4 t.n),(none,P6 t.name),(none,.sl (some 4) 5 i 0 i)]),.arr (some 4) [] false,.arr (some 4) (Tm.pvs (ts.take i)) false]
theorem OH(L:List Int)(hL:L.length<100000000):∀(t:Tm) (hp:Heap),t.fits=true->t.size<1000000000->(∀w∈t.occ,w∈L)->S 34 [.pv none (.sl none (ints L)),t.av] hp=some (.ret (Tm.sub (cPos L) t).av,hp):=by
 intro t
 induction t using Tm.zAl with
 |h t ih=>
  intro hp hf ht ho;have hts:=t.size_eq;have hlen:=Tm.zAk t.args;refine zL rfl rfl rfl (zJ [(none,.sl none (ints L)),(some 4,t.pv)]) rfl ?_;have hb:zR A0 [0,1,2] [P4 t.kind,P4 t.n,P6 t.name]=some (.agg [(none,P4 t.kind),(none,P4 t.n),(none,P6 t.name),(none,.tsl (some 4) [])]):=rfl;by_cases hk:t.kind=0
  ·have hk':=Zg hk;have hm:t.n∈L:=ho _ (by grind [Tm.zAm]);have hpos:=fun hp=>gU L t.n (by omega) hm hp;have ha:t.args=[]:=by rw[yw hf hk];rfl
   have hnm:t.name=[]:=by rw[yw hf hk];rfl
   have e:Tm.sub (cPos L) t=tvar (L.idxOf t.n:Nat):=by rw[Tm.zAt,Zh hk];rfl
   rw[e];generalize ((L.idxOf t.n:Nat):Int)=k at hpos ⊢;simp -dsimp -implicitDefEqProofs only[go_sem,seval,Tm.av,zQ,Yb,Ye,zN,Tm.pvs_len,hk',hb,hpos,zH (Za _)];refine Yf (α:=Unit) 0 (fun _ _=>True) (fun i _=>⟨[(0,.pv none (.sl none (ints L))),(3,.ptr 0 0),(4,.ptr 1 0),(5,.ptr 3 0),(6,P4 i)],[.box (some 4) (.pv (some 4) t.pv),.box (some 4) (.agg [(none,P4 0),(none,P4 0),(none,P6 []),(none,.sl (some 4) 2 0 0 0)]),.arr (some 4) [] false,.box (some 4) (.agg [(none,P4 t.kind),(none,P4 k),(none,P6 t.name),(none,.sl (some 4) 5 0 0 0)]),.arr (some 4) [] false,.arr (some 4) [] false]⟩) () ⟨trivial,rfl⟩ ?_ ?_
   ·grind
   ·rintro - -;have hc:¬(0:Int)<(t.args.length:Int):=by grind
    simp -dsimp -implicitDefEqProofs only[go_sem,seval,zN,Tm.pvs_len,hc,zT,zH (Za _),Y4 (Za _)];rw[hk,hnm];exact jE _ _ _ [] _ rfl rfl
  ·have hk':=Zj hk;rw[kZ hk];obtain⟨ts',hts'⟩:∃ts',ts'=t.args.map (Tm.sub (cPos L)):=⟨_,rfl⟩;have htl:ts'.length=t.args.length:=by grind
   rw[<-hts'];simp -dsimp -implicitDefEqProofs only[go_sem,seval,Tm.av,zQ,Yb,Ye,zN,Tm.pvs_len,hk',hb,zH (Za _)];refine Yf (α:=Unit) t.args.length (fun _ _=>True) (fun i _=>⟨[(0,.pv none (.sl none (ints L))),(3,.ptr 0 0),(4,.ptr 1 0),(5,.ptr 3 0),(6,P4 i)],appN t ts' i⟩) () ⟨trivial,rfl⟩ ?_ ?_
   ·rintro i - h -;have hc:(i:Int)<(t.args.length:Int):=by omega
    obtain⟨u,hu⟩:∃u,t.args[i]? =some u:=⟨_,Zd h⟩;have hum:=Zi hu;have husz:=Tm.zAq hum;have hcall:=fun hp=>ih u hum hp (Tm.zAo hf hum) (by omega) fun w hw=>ho w (Tm.zAD hk hum hw);simp only[Tm.av] at hcall;have w2:IntKind.i64.wrap ((i:Int)+1)=((i+1:Nat):Int):=by grind [zO]
    have hl:(Tm.pvs (ts'.take i)).length=i:=by grind [Tm.pvs_len]
    have hlim:i+1<=lim:=by grind [lim]
    have hus:ts'[i]? =some (Tm.sub (cPos L) u):=by grind
    simp -dsimp -implicitDefEqProofs only[go_sem,seval,appN,zN,Tm.pvs_len,hc,zM (Tm.pvs_get hu),hcall,w2,hl,hlim,Tm.zAn hus,zH (Za _),Y4 (Za _)];exact⟨(),rfl⟩
   ·rintro - -;have hc:¬(t.args.length:Int)<(t.args.length:Int):=by omega
    have htk:ts'.take t.args.length=ts':=Zn (by omega);simp -dsimp -implicitDefEqProofs only[go_sem,seval,appN,zN,Tm.pvs_len,hc,htk,zT,zH (Za _),Y4 (Za _)];exact jE _ _ _ (Tm.pvs ts') _ (by rw[Tm.pvs_len,htl]) rfl
theorem BF(t:Tm)(hp:Heap)(ht:t.size<1000000000):S 10 [t.av] hp=some (.ret (canR t).av,hp):=by
 refine zL rfl rfl rfl (zJ [(some 4,t.pv)]) rfl ?_;have h1:=fun hp=>xK t hp ht;unfold canR;by_cases hv:t.valid=true
 ·rw[Zh hv];have hsz:=valid_size hv;obtain⟨s',H',hcall,hI,_,_⟩:=GY t (.tsl none []) [] [] (.inl ⟨rfl,rfl⟩) (valid_fits hv) (by grind);have ha:=nw hI;have hll:=xh t.occ [];have hol:=Tm.occ_len t;have hnum:=fun hp=>OH (vads [] t.occ) (by grind) t hp (valid_fits hv) ht fun w hw=>(qT t.occ [] w).2 (.inr hw);rw[hv] at h1;have e:Tm.sub (cPos (vads [] t.occ)) t=canT t:=rfl;rw[e] at hnum;generalize canT t=c at hnum ⊢;generalize vads [] t.occ=l at*;simp only[Tm.av] at h1 hcall hnum;simp -dsimp -implicitDefEqProofs only[go_sem,seval,Tm.av,h1,hcall,ha,hnum,zH (Za _)]
 ·rw[Zb hv];have hv':t.valid=false:=by grind
  rw[hv'] at h1;simp only[Tm.av] at h1;have hb0:=P1;simp -dsimp -implicitDefEqProofs only[go_sem,seval,Tm.av,h1,hb0,zH (Za _),zt];exact⟨_,rfl⟩
theorem OI(a b:Tm)(hp:Heap)(ha:a.size<1000000000)(hb:b.size<1000000000):S 22 [a.av,b.av] hp=some (.ret (P5 (vari a b)),hp):=by
 refine zL rfl rfl rfl (zJ [(some 4,a.pv),(some 4,b.pv)]) rfl ?_;have h1:=fun hp=>xK a hp ha;have h2:=fun hp=>xK b hp hb;simp only[Tm.av] at h1 h2;unfold vari;by_cases va:a.valid=true
 ·by_cases vb:b.valid=true
  ·have h4:=fun hp=>BF a hp ha;have h5:=fun hp=>BF b hp hb;have hs:=OG va;have h3:=fun hp=>GQ (canT a) (canT b) hp (by omega);rw[canR,Zh va] at h4;rw[canR,Zh vb] at h5;simp only[Tm.av] at h3 h4 h5
   (repeat' (first|(simp -dsimp -implicitDefEqProofs only[go_sem,seval, *])|(refine YT (fun _=> ?_) (fun _=> ?_))))
  ·(repeat' (first|(simp -dsimp -implicitDefEqProofs only[go_sem,seval, *])|(refine YT (fun _=> ?_) (fun _=> ?_))))
 ·(repeat' (first|(simp -dsimp -implicitDefEqProofs only[go_sem,seval, *])|(refine YT (fun _=> ?_) (fun _=> ?_))))
theorem OJ:yes (yY [] (find tab) prim 60 .fn 143 [.pv none (.sl (some 5) [])] [])=true:=by kernel_rfl
theorem OK(hp:Heap):S 143 [.pv none (.sl (some 5) [])] hp=some (.ret (P5 true),hp):=
 yX (ps:=[(none,.sl (some 5) [])]) rfl rfl rfl rfl (qM .nil 60 _ _ _ _ _ (GL OJ))
theorem punil(a b:Tm)(va:a.valid=true)(vb:b.valid=true):
  S 124 [.pv none (.sl (some 5) []),a.av,b.av] []=some (.ret (.tuple [.pv none (.sl (some 5) (bds (uni 1048576 [] [(a,b)]).1)),.pv none (.int .i64 (uni 1048576 [] [(a,b)]).2)]),[]):=by
 refine G3 rfl rfl rfl (zJ [(none,.sl (some 5) []),(some 4,a.pv),(some 4,b.pv)]) rfl rfl ?_;have h1:=OK;have h2:=fun hp=>yu a hp (fit9 va);have h3:=fun hp=>yu b hp (fit9 vb);simp only[Tm.av] at h2 h3;have hal:∀a0 a1:AObj,yO none (.tsl (some 5) []) [a0,a1] []=some (.ptr 2 0,[a0,a1,.box none (.sl (some 5) 3 0 0 0),.arr (some 5) [] false]):=fun _ _=>rfl;obtain⟨H5,hH5⟩:∃H5:Heap,H5=[.box (some 4) (.pv (some 4) a.pv),.box (some 4) (.pv (some 4) b.pv),.box none (.sl (some 5) 3 0 0 0),.arr (some 5) [] false,.box none (P4 0)]:=⟨_,rfl⟩;have hb5:Bq H5:=by
  rw[hH5];exact Bq.cons (Xg a) (Bq.cons (Xg b) (Bq.cons rfl (Bq.cons rfl (Bq.cons rfl Bq.nil))))
 have hcn:=Oo [] okb_nil.good (by simp) H5 hb5;obtain⟨res,hp',hrun,hP⟩:=Ou [] a b okb_nil (by simp) va vb (H5++[.arr (some 5) [] false,.arr (some 5) [] false,.box (some 1) .undef]) (hb5.app (Bq.cons rfl (Bq.cons rfl (Bq.cons rfl Bq.nil)))) 7 6 (by grind) (by grind) (by decide);have hU:∀l,US (H5++[.arr (some 5) [] false,.arr (some 5) [] false,.box (some 1) .undef]) 7 6 l=[.box (some 4) (.pv (some 4) a.pv),.box (some 4) (.pv (some 4) b.pv),.box none (.sl (some 5) 3 0 0 0),.arr (some 5) [] false,.box none (P4 0),.arr (some 5) [] false,.arr (some 5) (bds l) false,.box (some 1) (.agg [(none,.sl (some 5) 6 l.length 0 l.length)])]:=fun l=>by rw[hH5];rfl
 have hb0:bds []=[]:=rfl;rw[hH5,hb0] at hcn;rw[hU,hb0] at hrun;simp only[Tm.av,Zs,Zv,ZV,zp] at hrun hcn;have hbu:zR [(none,.tsl (some 5) [])] [0] [.sl (some 5) 6 0 0 0]=some (.agg [(none,.sl (some 5) 6 0 0 0)]):=rfl;have hpan:∀A:Prop,panK true A=A:=fun _=>rfl;rcases hP with⟨l',he,rfl,rfl⟩|⟨e,l',he,rfl,rfl⟩
 ·rw[hU] at hrun;rw[he];simp -dsimp -implicitDefEqProofs only[go_sem,seval,Tm.av,hal,h1,h2,h3,va,vb,hcn,hbu,hrun,zT,xM,Y4 (Za _),YD,qW,jp,jq,jr,hpan];refine⟨rfl,144,[],[.ptr 2 0,.ptr 4 0],rfl,_,_,_,Ov _ _ _ _ _ _,rfl,?_⟩;refine⟨[.box (some 4) (.pv (some 4) a.pv),.box (some 4) (.pv (some 4) b.pv),.box none (.sl (some 5) 6 l'.length 0 l'.length),.arr (some 5) [] false,.box none (P4 0),.arr (some 5) [] false,.arr (some 5) (bds l') true,.box (some 1) (.agg [(none,.sl (some 5) 6 l'.length 0 l'.length)])],?_⟩;simp[AV.freezeRes,zZ,AV.freeze,deep,Xh,pvs,AV.shp]
 ·rw[hU] at hrun;rw[he];simp -dsimp -implicitDefEqProofs only[go_sem,seval,Tm.av,hal,h1,h2,h3,va,vb,hcn,hbu,hrun,zT,xM,Y4 (Za _),YD,qW,jp,jq,jr,hpan];refine⟨rfl,144,[],[.ptr 2 0,.ptr 4 0],rfl,_,_,_,Ow _ _ _ _ _ _ _,rfl,?_⟩;exact⟨_,rfl⟩
theorem OL(a b:Tm)(va:a.valid=true)(vb:b.valid=true)(hp:Heap):S 124 [.tsl (some 5) [],a.av,b.av] hp=some (.ret (.tuple [.pv none (.sl (some 5) (bds (uni 1048576 [] [(a,b)]).1)),.pv none (.int .i64 (uni 1048576 [] [(a,b)]).2)]),hp):=
 yX (ps:=[(none,.sl (some 5) []),(some 4,a.pv),(some 4,b.pv)]) rfl rfl rfl rfl (punil a b va vb)
theorem BG(d:Int):∀t:Tm,(shT d t).occ=t.occ.map (·+d):=by
 intro t
 induction t using Tm.zAl with
 |h t ih=>
  have hl:∀l:List Tm,(∀u∈l,u∈t.args)->Tm.occs (shTs d l)=(Tm.occs l).map (·+d):=by
   intro l
   induction l with
   |nil=>intro _;rfl
   |cons x r ihr=>
    intro h;rw[shTs,Tm.occs,Tm.occs,List.map_append,ih x (h x (by simp)),ihr fun u hu=>h u (by simp[hu])]
  rw[QD,Tm.zAm t];split
  ·rw[Tm.zAm];rfl
  ·rename_i hk;rw[Tm.zAm,Zb (by exact hk),<-hl t.args fun _ h=>h];rfl
theorem BH(d:Int):∀t:Tm,(shT d t).size<=t.size:=by
 intro t
 induction t using Tm.zAl with
 |h t ih=>
  have hl:∀l:List Tm,(∀u∈l,u∈t.args)->Tm.sizes (shTs d l)<=Tm.sizes l:=by
   intro l
   induction l with
   |nil=>intro _;exact Zc _
   |cons x r ihr=>
    intro h;have h1:=ih x (h x (by simp));have h2:=ihr fun u hu=>h u (by simp[hu]);show(shT d x).size+Tm.sizes (shTs d r)<=x.size+Tm.sizes r;omega
  have:=hl t.args fun _ h=>h;rw[QD,t.size_eq];split
  ·show 1+0<=_;omega
  ·show 1+Tm.sizes (shTs d t.args)<=_;omega
theorem BI{t:Tm}(h:t.valid=true):t.name.length<=100/\t.args.length<=8:=by
 have h:=valid_fits h
 grind [Tm.zAs,Tm.node]
def AH(hp:Heap)(r q:Nat)(d:Dbs)(g:Tm)(L:List Tm):Heap:=(hp.set q (.arr (some 4) (Tm.pvs L) false)).set r (.box (some 7) (cB d g (slA q L.length)))
def ansC(g:Tm)(n:Int)(x:Sto):Tm:=ansT g ([shT n x.cl.head,shT n x.cl.body]++if g.args.length=3 then[intT x.id] else[])
def Yo(g:Tm):Int:=((vads [] g.occ).length:Int)
def clsQ(d:Dbs)(g:Tm)(cls:List Sto)(hp:Heap)(r q:Nat)(v:ARes)(hp':Heap):Prop:=
 (v=.ret (.tuple [])/\(∀x∈cls,(ansC g (Yo g) x).valid=true)/\hp'=AH hp r q d g (cls.map (ansC g (Yo g))))\/
 (v=.panic (Q0 2)/\(∃x∈cls,(ansC g (Yo g) x).valid=false)/\∃L,hp'=AH hp r q d g L)
theorem VN{d:Dbs}(hv:okD d=true){s:List UInt8}{a:Int}{p:Prc}(hf:yb d s a=some p):p.cls.length<=500:=by
 simp only[okD,Zk,ZH] at hv;have h4:=hv.2.2.2.1;unfold yb at hf;split at hf
 ·split at hf
  ·have:=Qx (Zi hf);omega
  grind
 grind
set_option maxRecDepth 20000 in
theorem OM(d:Dbs)(hv:okD d=true)(g h x y:Tm)(hgv:g.valid=true)(hga:g.args=[h,x,y])(hh:h.kind≠0/\h.kind≠1)(hx:x.kind=0)(hy:y.kind=0)
  (p:Prc)(hf:yb d h.name h.args.length=some p)(hs:yL d h.name h.args.length=false)
  (hcl:∀s∈p.cls,s.cl.head.valid=true/\s.cl.body.valid=true/\movable (Yo g) s.cl.head=true/\movable (Yo g) s.cl.body=true)
  (hfr:0<=Yo g/\Yo g<=1099511627776)
  (hun:∀s∈p.cls,(ansC g (Yo g) s).valid=true->(uni 1048576 [] [(g,ansC g (Yo g) s)]).2≠4)
  (hp:Heap)(r q:Nat)(hr:hp[r]? =some (.box (some 7) (cB d g (slA q 0))))(hq:hp[q]? =some (.arr (some 4) [] false)):
  ∃v hp',S 82 [.ptr r 0] hp=some (v,hp')/\clsQ d g p.cls hp r q v hp':=by
 refine QY (clsQ d g p.cls hp r q) rfl rfl rfl rfl ?_;have hlr:=Yz hr;have hlq:=Yz hq;have hr':∀X,(hp++X)[r]? =some (.box (some 7) (cB d g (slA q 0))):=fun X=>by grind
 have hha:h∈g.args:=by grind
 have hhv:h.valid=true:=Xv hgv hha;have h1:=fun hp=>gP h hhv hh.1 hh.2 hp;obtain⟨hhn,hh8⟩:=BI hhv;have e3:Tm.pvs g.args=[h.pv,x.pv,y.pv]:=by rw[hga];rfl
 have h3:=fun hp=>gS h.name h.args.length hhn (by omega) (by omega) hp;have hbd:=Qz hv;have hgz:=fit9 hgv;have i0:∀s kk,Yc (some 4) [.pv s (.sl (some 4) [h.pv,x.pv,y.pv]),.pv none (.int kk 0)]=some (.iptr (some 4) h.pv 0):=fun _ _=>rfl;have i1:∀s kk,Yc (some 4) [.pv s (.sl (some 4) [h.pv,x.pv,y.pv]),.pv none (.int kk 1)]=some (.iptr (some 4) x.pv 0):=fun _ _=>rfl;have i2:∀s kk,Yc (some 4) [.pv s (.sl (some 4) [h.pv,x.pv,y.pv]),.pv none (.int kk 2)]=some (.iptr (some 4) y.pv 0):=fun _ _=>rfl;have hstn:∀(H:Heap) (v:AV) (k:Nat) (s:Sh) (e:PV) (f:Nat),yj (some 4) hp.length H [.ptr hp.length 0,v,.ptr r k,.iptr s e f]=zK (some 4) hp.length H [.ptr hp.length 0,v]:=fun H v k s e f=>by
  grind [ZG,yj,zK,XT]
 have h4:=fun X=>N9 d hbd g (slA q 0) h.name h.args.length (indT h.name h.args.length) hs (hp++X) r (hr' X);have h5:=fun hp=>gj d hbd h.name h.args.length hp;rw[hf] at h5;have h6:=fun hp=>BC g hgv hp;have hil:(ints (vads [] g.occ)).length=(vads [] g.occ).length:=ya _;simp only[Tm.av,Dbs.av,Option.getD_some,Option.isSome_some,Prc.av] at h1 h3 h4 h5 h6;simp -dsimp -implicitDefEqProofs only[go_sem,seval,YD,hr,hr',Jb,Ja,e3,h1,h3,h4,h5,h6,hil,i0,i1,i2,hstn,hx,hy,q9,Y7,Ye,zQ,zN,Tm.pvs_len,zT,zH (Zf _ _)];obtain⟨E,hE⟩:∃E:Heap,E=[.box (some 4) (.pv (some 4) h.pv),.arr (some 4) [] false,.box (some 4) (.pv (some 4) x.pv),.arr (some 4) [] false,.box (some 4) (.pv (some 4) zt.pv),.arr (some 4) [] false,.box (some 4) (.pv (some 4) y.pv),.arr (some 4) [] false,.box (some 4) (.pv (some 4) p.pv),.arr (some 9) [] false]:=⟨_,rfl⟩;have hEl:E.length=10:=by simp_all
 have hEr:E.all (fun o=>o.refs.isEmpty)=true:=by rw[hE];rfl
 rw[<-hE];clear h1 h3 h4 h5 h6 hE hstn i0 i1 i2 hr';have hrq:r≠q:=fun e=>by grind
 have hAl:∀L,(AH hp r q d g L).length=hp.length:=fun L=>by simp[AH]
 have hAr:∀L X,(AH hp r q d g L++X)[r]? =some (.box (some 7) (cB d g (slA q L.length))):=fun L X=>by
  grind [AH]
 have hAq:∀L X,(AH hp r q d g L++X)[q]? =some (.arr (some 4) (Tm.pvs L) false):=fun L X=>by
  grind [AH]
 have hAn:∀(L:List Tm) (t:Tm) (X:Heap),((AH hp r q d g L++X).set q (.arr (some 4) (Tm.pvs (L++[t])) false)).set r (.box (some 7) (cB d g (slA q (L.length+1))))=AH hp r q d g (L++[t])++X:=fun L t X=>by
  rw[zx _ _ (by grind),zx _ _ (by grind)]
  congr 1
  simp only[AH,Z2,ZV,zp,ZE];refine Z3 fun j=> ?_
  grind
 have hA0:AH hp r q d g []=hp:=by
  have e1:hp.set q (.arr (some 4) [] false)=hp:=Z3 fun j=>by
   grind
  have e2:hp.set r (.box (some 7) (cB d g (slA q 0)))=hp:=Z3 fun j=>by
   grind
  show(hp.set q (.arr (some 4) [] false)).set r (.box (some 7) (cB d g (slA q 0)))=hp
  grind
 have hc5:p.cls.length<=500:=VN hv hf;have hgl:g.args.length=3:=by grind
 obtain⟨A,hA⟩:∃A:Sto->Tm,A=ansC g (Yo g):=⟨_,rfl⟩;refine Yf (α:=Unit) p.cls.length (fun i _=>∀x∈p.cls.take i,(ansC g (Yo g) x).valid=true) (fun i _=>⟨[(0,.ptr r 0),(8,P5 true),(12,P4 (Yo g)),(116,.pv none (.sl (some 9) (Sto.pvs p.cls))),(117,P4 p.cls.length),(118,P4 i)],AH hp r q d g ((p.cls.take i).map (ansC g (Yo g)))++E⟩) () ⟨fun x hx=>by grind,by rw[ze,List.map_nil,hA0,Sto.pvs_len];rfl⟩ ?_ ?_
 ·rintro i - hi hinv;obtain⟨c,hc⟩:∃c,p.cls[i]? =some c:=⟨_,Zd hi⟩;obtain⟨L,hL⟩:∃L,L=(p.cls.take i).map (ansC g (Yo g)):=⟨_,rfl⟩;have hLl:L.length=i:=by grind
  have hci:(i:Int)<(p.cls.length:Int):=by omega
  have hcm:=Zi hc;obtain⟨c1,c2,m1,m2⟩:=hcl c hcm;have hx:=zM (sh:=some 9) (s:=none) (s':=none) (k:=.i64) (Sto.pvs_get hc);have t1:PV.part deep c.pv 1 (some 4)=some c.cl.head.pv:=rfl;have t2:PV.part deep c.pv 5 (some 4)=some c.cl.body.pv:=rfl;have t3:PV.part deep c.pv 0 none=some (.int .i64 c.id):=rfl;have hf0:0<=Yo g/\Yo g<=1099511627776:=hfr;have h1:=fun hp=>BD c.cl.head c1 (Yo g) hf0.1 hf0.2 hp;have h2:=fun hp=>BD c.cl.body c2 (Yo g) hf0.1 hf0.2 hp;have h3:=gQ c.id;rw[Zh m1,Zh m1] at h1;rw[Zh m2,Zh m2] at h2;obtain⟨a,ha⟩:∃a,a=ansC g (Yo g) c:=⟨_,rfl⟩;obtain⟨hd,hhd⟩:∃t,t=shT (Yo g) c.cl.head:=⟨_,rfl⟩;obtain⟨bd,hbd⟩:∃t,t=shT (Yo g) c.cl.body:=⟨_,rfl⟩;have ha':a=ansT g [hd,bd,intT c.id]:=by grind [ansC]
  rw[<-hhd] at h1;rw[<-hbd] at h2;have h4:∀(X:Heap) (s:Nat),(AH hp r q d g L++X)[s]? =some (.arr (some 4) [hd.pv,bd.pv,(intT c.id).pv] false)->S 117 [.ptr r 0,.sl (some 4) s 3 0 3] (AH hp r q d g L++X)=some (.ret (.tuple []),AH hp r q d g (L++[a])++X):=fun X s hs=>by
   have:=nr d g (by omega) (by omega) L [hd,bd,intT c.id] (by omega) (by grind) (AH hp r q d g L++X) r q s (hAr L X) (hAq L X) hs
   grind
  obtain⟨K,hK⟩:∃K,K=AH hp r q d g L:=⟨_,rfl⟩;obtain⟨K2,hK2⟩:∃K,K=AH hp r q d g (L++[a]):=⟨_,rfl⟩;have hKl:hp.length=K.length:=by grind
  have hKl2:K2.length=K.length:=by grind
  have hbslo:∀H:Heap,XV (some 4) H [.pv (some 4) hd.pv,.pv (some 4) bd.pv]=some (.sl (some 4) H.length 2 0 2,H++[.arr (some 4) [hd.pv,bd.pv] false]):=fun H=>rfl;have happ:∀x1 x2 x3 x4 x5:AObj,z6 (some 4) (K++(E++[x1,x2,x3,x4,x5,.arr (some 4) [hd.pv,bd.pv] false])) [.sl (some 4) (K.length+(E.length+5)) 2 0 2,.tsl (some 4) [(intT c.id).pv]]=some (.sl (some 4) (K.length+(E.length+5)) 3 0 3,K++(E++[x1,x2,x3,x4,x5,.arr (some 4) [hd.pv,bd.pv,(intT c.id).pv] false])):=fun x1 x2 x3 x4 x5=>by
   simp[z6,aappend,elems,YQ,jh,lim]
  have h5:∀x1 x2 x3 x4 x5:AObj,S 117 [.ptr r 0,.sl (some 4) (K.length+(E.length+5)) 3 0 3] (K++(E++[x1,x2,x3,x4,x5,.arr (some 4) [hd.pv,bd.pv,(intT c.id).pv] false]))=some (.ret (.tuple []),K2++(E++[x1,x2,x3,x4,x5,.arr (some 4) [hd.pv,bd.pv,(intT c.id).pv] false])):=fun x1 x2 x3 x4 x5=>by
   rw[hK,hK2];refine h4 _ _ ?_;rw[YQ,YQ];rfl
  have hr2:∀X,(K2++X)[r]? =some (.box (some 7) (cB d g (slA q (i+1)))):=fun X=>by
   grind
  have hld:∀X,aload (some 4) (K2++X) (.eptr (some 4) q (i+1) i 0)=some (.pv (some 4) a.pv):=fun X=>by
   have e1:(K2++X)[q]? =some (.arr (some 4) (Tm.pvs (L++[a])) false):=by grind
   have e2:(Tm.pvs (L++[a]))[i]? =some a.pv:=Tm.pvs_get (by grind)
   grind [Tm.pvs_len,aload]
  have hia:Yc (some 4) [.sl (some 4) q (i+1) 0 (i+1),P4 (i:Int)]=some (.eptr (some 4) q (i+1) i 0):=by
   grind [xH]
  have hsl:sLen [.sl (some 4) q (i+1) 0 (i+1)]=some (P4 ((i+1:Nat):Int)):=rfl;have w1:IntKind.i64.wrap (((i+1:Nat):Int) - 1)=(i:Int):=by grind [zO]
  have w2:IntKind.i64.wrap ((i:Int)+1)=((i+1:Nat):Int):=by grind [zO]
  have haz:a.size<1000000000:=by
   have z1:=BH (Yo g) c.cl.head;have z2:=BH (Yo g) c.cl.body;have z3:=valid_size c1;have z4:=valid_size c2;have z5:a.size=1+(hd.size+(bd.size+(1+0))):=by rw[ha',ansT,hga];rfl
   grind
  have h6:=fun hp=>yu a hp haz;have hun':=hun c hcm;rw[<-ha] at hun';simp only[Tm.av] at h1 h2 h3 h6;rw[show(p.cls.take i).map (ansC g (Yo g))=L from hL.symm,<-hK,hKl];have hpan:∀A:Prop,panK true A=A:=fun _=>rfl;cases hva:a.valid with
  |false=>
   rw[hva] at h6;have h7:=fun hp=>N8 2 (by decide) hp;simp -dsimp -implicitDefEqProofs only[go_sem,seval,hci,hx,t1,t2,t3,h1,h2,h3,hbslo,happ,h5,h6,h7,hpan,YD,hr2,hld,hia,hsl,w1,w2,Vx,Ja,YH,zT,zH (Zf _ _)];refine .inr ⟨rfl,⟨c,hcm,by grind⟩,L++[a],?_⟩
   grind
  |true=>
   rw[hva] at h6;have h7:=fun hp=>OL g a hgv hva hp;have h8:=hun' hva;generalize uni 1048576 [] [(g,a)]=R at h7 h8;obtain⟨R1,R2⟩:=R;dsimp only at h7 h8;simp only[Tm.av] at h7;simp -dsimp -implicitDefEqProofs only[go_sem,seval,hci,hx,t1,t2,t3,h1,h2,h3,hbslo,happ,h5,h6,h7,h8,YD,hr2,hld,hia,hsl,w1,w2,Vx,Ja,zT,zH (Zf _ _)];have htk:p.cls.take (i+1)=p.cls.take i++[c]:=by grind [List.take_add_one]
   refine⟨(),fun z hz=> ?_,?_⟩
   ·grind
   ·have e1:(E++[AObj.box (some 9) (.pv (some 9) c.pv),.box (some 4) (.pv (some 4) hd.pv),.arr (some 4) [] false,.box (some 4) (.pv (some 4) bd.pv),.arr (some 4) [] false,.arr (some 4) [hd.pv,bd.pv,(intT c.id).pv] false]).take 10=E:=ZT hEl;have e2:AH hp r q d g ((p.cls.take (i+1)).map (ansC g (Yo g)))=K2:=by grind
    rw[e2,yF 10 hKl2 (by grind) (by
     grind) (by simp[AV.refsIn,hEl];omega),e1]
 ·rintro - hinv;have hci:¬(p.cls.length:Int)<(p.cls.length:Int):=by omega
  simp -dsimp -implicitDefEqProofs only[go_sem,seval,hci,YJ,YI];rw[ZJ] at hinv ⊢;exact .inl ⟨rfl,hinv,ZT (hAl _)⟩
theorem ON{l:List Sto}{id:Int}{k:Nat}(h:idS l id=some k):∃s,l[k]? =some s/\s.id=id:=by
 grind [idS,List.findIdx?_eq_some_iff_getElem]
theorem VO{id:Int}:∀{l:List Prc} {i k:Nat},whR l id=some (i,k)->∃p s,l[i]? =some p/\p.cls[k]? =some s/\s.id=id
 |[],i,k,h=>by cases h
 |x::r,i,k,h=>by
  rw[whR] at h;split at h
  ·grind [ON]
  ·split at h
   ·rename_i y hy;cases h;obtain⟨p,s,h1,h2,h3⟩:=VO (i:=y.1) (k:=y.2) hy
    grind
   grind
set_option maxRecDepth 20000 in
theorem OO(H:Heap)(q:Nat)(es:List PV)(k n:Nat)(hk:k<n)(he:es.length=n)(hn:n<=500)(hg:H[q]? =some (.arr (some 9) es false)):S 63 [.sl (some 9) q n 0 n,P4 (k:Int),P4 ((k:Int)+1)] H=some (.ret (.sl (some 9) q n 0 (n - 1)),H.set q (.arr (some 9) (es.take k++(es.drop (k+1)++[zS])) false)):=by
 refine Yj rfl rfl rfl rfl ?_;have hq:=Yz hg;have h0:((k:Int)=(k:Int)+1)=False:=by grind
 have hL:∀m:Nat,sLen [.sl (some 9) q n 0 m]=some (P4 (m:Int)):=fun m=>rfl;have h3:Xl (some 9) true [.sl (some 9) q n 0 n,P4 (k:Int),P4 ((k:Int)+1),P4 (n:Int)]=some .undef:=by
  grind [Xl]
 have s1:YL (some 9) false true [.sl (some 9) q n 0 n,P4 (k:Int)]=some (.sl (some 9) q n 0 k):=by
  grind [YL,aslice]
 have s2:YL (some 9) true false [.sl (some 9) q n 0 n,P4 ((k:Int)+1)]=some (.sl (some 9) q n (k+1) (n - (k+1))):=by
  grind [YL,aslice]
 have s3:YL (some 9) true true [.sl (some 9) q n 0 (n - 1),P4 ((n - 1:Nat):Int),P4 (n:Int)]=some (.sl (some 9) q n (n - 1) 1):=by
  grind [YL,aslice]
 have hset:∀o:AObj,(H++[AObj.arr (some 9) [] false]).set q o=H.set q o++[.arr (some 9) [] false]:=fun o=>zx _ _ hq;have hg0:(H++[AObj.arr (some 9) [] false])[q]? =some (.arr (some 9) es false):=by grind
 have hel:elems (H++[.arr (some 9) [] false]) (.sl (some 9) q n (k+1) (n - (k+1)))=some (some 9,es.drop (k+1)):=by
  grind [elems,Zn]
 have hap:z6 (some 9) (H++[.arr (some 9) [] false]) [.sl (some 9) q n 0 k,.sl (some 9) q n (k+1) (n - (k+1))]=some (.sl (some 9) q n 0 (n - 1),H.set q (.arr (some 9) (es.take k++(es.drop (k+1)++es.drop (n - 1))) false)++[.arr (some 9) [] false]):=by
  grind [lim,z6,aappend]
 have hcl:xp (some 9) zS (H.set q (.arr (some 9) (es.take k++(es.drop (k+1)++es.drop (n - 1))) false)++[.arr (some 9) [] false]) [.sl (some 9) q n (n - 1) 1]=some (.undef,H.set q (.arr (some 9) (es.take k++(es.drop (k+1)++[zS])) false)++[.arr (some 9) [] false]):=by
  have hg1:(H.set q (.arr (some 9) (es.take k++(es.drop (k+1)++es.drop (n - 1))) false)++[AObj.arr (some 9) [] false])[q]? =some (.arr (some 9) (es.take k++(es.drop (k+1)++es.drop (n - 1))) false):=by
   grind
  have l1:(es.take k++es.drop (k+1)).length=n - 1:=by grind
  have l2:(es.take k++(es.drop (k+1)++es.drop (n - 1))).length=n:=by grind
  have l3:(es.take k++(es.drop (k+1)++es.drop (n - 1))).take (n - 1)=es.take k++es.drop (k+1):=by grind
  have l4:n - 1+1=n:=by omega
  simp_all[List.drop_eq_nil_of_le,xp]
 simp only[zS] at hcl;have hni:YW (some 9) H=some (.sl (some 9) H.length 0 0 0,H++[.arr (some 9) [] false]):=by simp[YW,xI]
 simp -dsimp -implicitDefEqProofs only[go_sem,seval,hni,h0,hL,h3,s1,s2,s3,hap,hcl]
 grind [AV.refsIn,zS]
theorem P3:zR A1 [] []=some (.agg A1):=rfl
theorem BJ(d:Dbs)(hb:BndD d)(id:Int)(h:okD d=false\/whR d.procs id=none)(hp:Heap):S 19 [d.av,P4 id] hp=some (.ret (.tuple [Vg.av,P5 false]),hp):=by
 refine zL rfl rfl rfl (zJ [(some 2,d.pv),(none,.int .i64 id)]) rfl ?_;have h1:=fun hp=>Qy d hb.1 hb.2.1 hb.2.2 hp;have hz0:=P3;have hnil:∀H:Heap,zU A3 H=(A3,H):=fun _=>rfl;simp only[Dbs.av] at h1;cases hv:okD d with
 |false=>
  rw[hv] at h1;simp -dsimp -implicitDefEqProofs only[go_sem,seval,Dbs.av,h1,hz0,hnil,zH (Za _)];exact⟨_,rfl⟩
 |true=>
  have hf:whR d.procs id=none:=by
   grind
  have hl5:d.procs.length<=500/\totD d.procs<=500:=by
   grind [okD]
  have h3:=fun hp=>gm d id (by omega) (by omega) hp;simp only[Dbs.av] at h3;rw[hv] at h1;rw[hf] at h3;simp -dsimp -implicitDefEqProofs only[go_sem,seval,Dbs.av,h1,h3,hz0,hnil,zH (Za _)];exact⟨_,rfl⟩
set_option maxRecDepth 20000 in
theorem OP(d:Dbs)(hb:BndD d)(id:Int)(hv:okD d=true)(i k:Nat)(hw:whR d.procs id=some (i,k))(p:Prc)(hpp:d.procs[i]? =some p)(hkl:k<p.cls.length)(hp:Heap):S 19 [d.av,P4 id] hp=some (.ret (.tuple [(⟨d.next,d.procs.set i ⟨p.name,p.ar,p.dyn,p.cls.take k++p.cls.drop (k+1)⟩⟩:Dbs).av,P5 true]),hp):=by
 refine zL rfl rfl rfl (zJ [(some 2,d.pv),(none,.int .i64 id)]) rfl ?_;have h1:=fun hp=>Qy d hb.1 hb.2.1 hb.2.2 hp;have hl5:d.procs.length<=500/\totD d.procs<=500:=by
  grind [okD]
 have h3:=fun hp=>gm d id (by omega) (by omega) hp;have h4:∀x0 x1:AObj,S 62 [d.av] [x0,x1]=some (.ret (dA d 4),x0::x1::.box (some 2) (dA d 4)::.box (some 2) (dA d 4)::.arv (some 4) (elsA d.procs 10 d.procs.length)::cEs d.procs 10):=fun x0 x1=>NE d (by omega) (fun q hq=>⟨by have:=Qx hq;omega,jw hv q hq⟩) [x0,x1];have hnil:∀H:Heap,zU A3 H=(A3,H):=fun _=>rfl;have hst:∀(x0:AObj) (v:AV) (X:Heap),zK (some 2) 0 (x0::.box (some 2) v::X) [.ptr 1 0,dA d 4]=some (.undef,x0::.box (some 2) (dA d 4)::X):=fun x0 v X=>by
  simp[zK,astore,dA,AV.plain,AV.shp,AV.own,zU,Y3,total,Sh.size]
 simp only[Dbs.av] at h1 h3 h4;rw[hv] at h1;rw[hw] at h3;have hpm:=Zi hpp;have hc5:p.cls.length<=500:=by have:=Qx hpm;omega
 have hil:=(Ze.1 hpp).1;have hge:=gu (b:=10) hpp;have hpt:AV.part deep (dA d 4) 1 none=some (.slv (some 4) 4 d.procs.length 0 d.procs.length):=rfl;have hia:Yc (some 4) [.slv (some 4) 4 d.procs.length 0 d.procs.length,P4 i]=some (.epv (some 4) 4 d.procs.length i 0):=by
  grind [Yc,aindex]
 have hfa:Xk 3 [.epv (some 4) 4 d.procs.length i 0]=some (.epv (some 4) 4 d.procs.length i 3):=rfl;obtain⟨q,hq⟩:∃q,q=10+6*i:=⟨_,rfl⟩;rw[<-hq] at hge;have hld:∀(x0 x1 x2 x3:AObj) (X:Heap),aload none (x0::x1::x2::x3::.arv (some 4) (elsA d.procs 10 d.procs.length)::X) (.epv (some 4) 4 d.procs.length i 3)=some (.sl (some 9) q p.cls.length 0 p.cls.length):=fun x0 x1 x2 x3 X=>by
  have e:AV.part deep (pA p q) 3 none=some (.sl (some 9) q p.cls.length 0 p.cls.length):=rfl
  grind [aload,QZ]
 have hw1:IntKind.i64.wrap ((k:Int)+1)=(k:Int)+1:=by
  grind [zO]
 obtain⟨E,hE⟩:∃E,E=(cEs d.procs 10).set (6*i+5) (.arr (some 9) ((Sto.pvs p.cls).take k++((Sto.pvs p.cls).drop (k+1)++[zS])) false):=⟨_,rfl⟩;have hcg:=Vf d.procs 10 i p hpp;have h5:∀(x0 x1 x2 x3 x4:AObj),S 63 [.sl (some 9) q p.cls.length 0 p.cls.length,P4 (k:Int),P4 ((k:Int)+1)] (x0::x1::x2::x3::x4::cEs d.procs 10)=some (.ret (.sl (some 9) q p.cls.length 0 (p.cls.length - 1)),x0::x1::x2::x3::x4::E):=fun x0 x1 x2 x3 x4=>by
  grind [OO,Sto.pvs_len]
 obtain⟨pN,hpN⟩:∃pN:AV,pN=.agg [(none,P6 p.name),(none,P4 p.ar),(none,P5 p.dyn),(none,.sl (some 9) q p.cls.length 0 (p.cls.length - 1))]:=⟨_,rfl⟩;have hse:∀(x0 x1 x2 x3:AObj) (X:Heap),zK none 0 (x0::x1::x2::x3::.arv (some 4) (elsA d.procs 10 d.procs.length)::X) [.epv (some 4) 4 d.procs.length i 3,.sl (some 9) q p.cls.length 0 (p.cls.length - 1)]=some (.undef,x0::x1::x2::x3::.arv (some 4) ((elsA d.procs 10 d.procs.length).set i pN)::X):=fun x0 x1 x2 x3 X=>by
  have e:AV.upd deep (pA p q) 3 none (.sl (some 9) q p.cls.length 0 (p.cls.length - 1))=some pN:=by rw[hpN];rfl
  simp_all[zK,astore,QZ,AV.plain,AV.shp]
 have fin:∀(x0 x1 x2 x3:AObj),DbA ⟨d.next,d.procs.set i ⟨p.name,p.ar,p.dyn,p.cls.take k++p.cls.drop (k+1)⟩⟩ (dA d 4) (x0::x1::x2::x3::.arv (some 4) ((elsA d.procs 10 d.procs.length).set i pN)::E):=fun x0 x1 x2 x3=>by
  refine⟨4,d.procs.length,_,d.procs.set i ⟨p.name,p.ar,p.dyn,p.cls.take k++p.cls.drop (k+1)⟩,?_,rfl,by rw[List.length_set,QZ],by simp,by simp,by grind,fun j r v hr hv2=> ?_⟩
  ·simp[dA]
  ·by_cases hji:i=j
   ·subst hji;rw[ZO hil] at hr;cases hr;rw[ZO (by grind)] at hv2;cases hv2;rw[hpN];have hl:(p.cls.take k++p.cls.drop (k+1)).length=p.cls.length - 1:=by grind
    have hpvs:Sto.pvs (p.cls.take k++p.cls.drop (k+1))=(Sto.pvs p.cls).take k++(Sto.pvs p.cls).drop (k+1):=by simp[Sto.pvs]
    refine .inr ⟨.sl (some 9) q p.cls.length 0 (p.cls.length - 1),rfl,.inr ⟨q,p.cls.length,(Sto.pvs p.cls).take k++((Sto.pvs p.cls).drop (k+1)++[zS]),false,by rw[hl],?_,?_,by grind,?_⟩⟩
    ·grind
    ·grind [Sto.pvs_len]
    grind [Sto.pvs_len]
   ·rw[zz hji] at hr hv2;rw[gu hr] at hv2;cases hv2;refine .inr ⟨_,rfl,.inr ⟨10+6*j,r.cls.length,Sto.pvs r.cls,false,rfl,?_,Sto.pvs_len _,Zc _,Zn (by grind [Sto.pvs_len])⟩⟩
    grind [Vf]
 have hfr:∀(d':Dbs) (H:Heap),DbA d' (dA d 4) H->Am.frozen (.tuple [d'.av,P5 true]) (.tuple [dA d 4,P5 true]) H:=fun d' H hD=>by
  obtain⟨H',hz⟩:=hD.frz;have e3:∀X,AV.freeze deep (P5 true) X=some (.bool true,X):=fun _=>rfl;have hsh:(dA d 4).shp=some 2:=rfl;refine⟨H',?_⟩;simp only[AV.freezeRes,zZ,hz,e3,hsh];rfl
 have hr:∀(x0:AObj) (X:Heap),ye ⟨[(4,.ptr 1 0),(5,P5 true)],x0::.box (some 2) (dA d 4)::X⟩ (4,some (some 2))=some (dA d 4):=fun x0 X=>by
  simp[ye,Fr.look,aload]
 have hs1:∀(x0:AObj) (X X':Heap),Yv (x0::.box (some 2) (dA d 4)::X) (x0::.box (some 2) (dA d 4)::X') (.ptr 1 1)=true:=fun x0 X X'=>by
  simp[Yv,AObj.beq,dA,AV.beq,AV.beqc,PV.beq]
 simp -dsimp -implicitDefEqProofs only[go_sem,seval,ZK,ZX,ZS,ZU,hs1,Dbs.av,Yr,Prc.pvs_len,h1,h3,h4,hst,hnil,hpt,hia,hfa,hld,hw1,h5,hse,hr]
 grind [Gg,Dbs.av]
def cutC(p:Prc)(k:Nat):Prc:=⟨p.name,p.ar,p.dyn,p.cls.take k++p.cls.drop (k+1)⟩
def eraR(d:Dbs)(id:Int):Dbs × Bool:=
 if okD d=false then(Vg,false)
 else match whR d.procs id with
 |none=>(Vg,false)
 |some x=>(⟨d.next,d.procs.modify x.1 fun p=>cutC p x.2⟩,true)
theorem BK{α:Type}{l:List α}{i:Nat}{x:α}(h:l[i]? =some x)(f:α->α):l.modify i f=l.set i (f x):=by
 refine Z3 fun j=> ?_
 grind
theorem OQ(d:Dbs)(hb:BndD d)(id:Int)(hp:Heap):S 19 [d.av,P4 id] hp=some (.ret (.tuple [(eraR d id).1.av,.pv none (.bool (eraR d id).2)]),hp):=by
 cases hv:okD d with
 |false=>
  grind [BJ,eraR]
 |true=>
  grind [BJ,eraR,VO,OP,cutC,BK]
def rmP(id:Int)(p:Prc):Prc:=⟨p.name,p.ar,p.dyn,p.cls.filter fun s=>decide (s.id≠id)⟩
theorem OR{id:Int}{p:Prc}(h:∀s∈p.cls,s.id≠id):rmP id p=p:=by
 unfold rmP;rw[List.filter_eq_self.2 fun s hs=>ZL (h s hs)]
theorem OS{id:Int}{l:List Prc}(h:id ∉ ids l):l.map (rmP id)=l:=by
 have e:∀p∈l,rmP id p=p:=fun p hp=>OR fun s hs e=>h (mem_ids.2 ⟨p,hp,s,hs,e⟩);rw[List.map_congr_left (g:=fun p=>p) e];simp
theorem VP(id:Int)(l:List Prc):ids (l.map (rmP id))=(ids l).filter fun x=>decide (x≠id):=by
 induction l with
 |nil=>rfl
 |cons p r ih=>
  rw[ZW,XO,XO,ih,List.filter_append]
  congr 1
  show((p.cls.filter _).map _)=_;rw[List.filter_map];rfl
theorem BL(l:List Prc)(id:Int):whR l id=none↔id ∉ ids l:=by
 constructor
 ·intro h hm;obtain⟨p,hp,s,hs,e⟩:=mem_ids.1 hm
  induction l with
  |nil=>cases hp
  |cons x r ih=>
   grind [whR,idS,mem_ids]
 grind [Vd,gk,mem_ids]
theorem BM{l:List Sto}{k:Nat}{s:Sto}(h:l[k]? =some s)(hn:(l.map (·.id)).Nodup):l.take k++l.drop (k+1)=l.filter fun x=>decide (x.id≠s.id):=by
 have e:=jy h;obtain⟨A,hA⟩:∃A,A=l.take k:=⟨_,rfl⟩;obtain⟨B,hB⟩:∃B,B=l.drop (k+1):=⟨_,rfl⟩;rw[<-hA,<-hB] at e ⊢;rw[e,List.map_append,ZW,List.nodup_append,List.nodup_cons] at hn
 grind [List.filter_eq_self,Zw]
theorem OT{d:Dbs}{id:Int}(hv:okD d=true)(h:id∈ids d.procs):eraR d id=(⟨d.next,d.procs.map (rmP id)⟩,true):=by
 cases hw:whR d.procs id with
 |none=>grind [BL]
 |some x=>
  obtain⟨i,k⟩:=x;obtain⟨p,s,hpp,hs,hsi⟩:=VO hw;have d5:=((XP d).1 hv).2.2.2.2;have d5':=d5;rw[jy hpp] at d5';obtain⟨g1,g2,g3,g4,g5,g6,g7⟩:=(gy ..).1 d5';have hsm:=Zi hs;have hout:=g6 s hsm;rw[hsi,Vh,zj,not_or] at hout;have e1:cutC p k=rmP id p:=by
   grind [cutC,rmP,BM]
  have e2:d.procs.modify i (fun p=>cutC p k)=d.procs.map (rmP id):=by
   grind [BK,jy,OS]
  grind [eraR]
theorem eraR_iff{d:Dbs}{id:Int}:(eraR d id).2=true↔okD d=true/\id∈ids d.procs:=by
 grind [BL,eraR]
theorem BN{x:Int}:∀{l:List Int},l.Nodup->x∈l->(l.filter fun y=>decide (y≠x)).length+1=l.length
 |[],_,h=>by cases h
 |y::r,hn,h=>by
  obtain⟨n1,n2⟩:=List.nodup_cons.1 hn;by_cases e:y=x
  ·grind [List.filter_eq_self]
  ·rw[List.filter_cons_of_pos (by grind)];rcases ZB.1 h with h|h
   ·grind
   ·have:=BN n2 h
    grind
theorem OU{n:Int}{l:List Prc}(id:Int)(h:OkP n l):OkP n (l.map (rmP id)):=by
 refine⟨fun p hp=> ?_,?_,?_,fun p hp s hs=> ?_⟩
 ·obtain⟨q,hq,rfl⟩:=ZI.1 hp;exact h.1 q hq
 ·rw[List.pairwise_map];exact h.2.1
 ·rw[VP];exact h.2.2.1.filter _
 ·obtain⟨q,hq,rfl⟩:=ZI.1 hp;exact NJ (h.2.2.2 q hq s (List.mem_filter.1 hs).1) rfl rfl
theorem BO{d:Dbs}{id:Int}(h:(eraR d id).2=true):okD d=true/\id∈ids d.procs/\(eraR d id).1=⟨d.next,d.procs.map (rmP id)⟩/\okD (eraR d id).1=true/\totD (eraR d id).1.procs+1=totD d.procs/\id ∉ ids (eraR d id).1.procs:=by
 obtain⟨hv,hm⟩:=eraR_iff.1 h;obtain⟨d1,d2,d3,d4,d5⟩:=(XP d).1 hv;have e:=OT hv hm;rw[e];have ht:totD (d.procs.map (rmP id))+1=totD d.procs:=by
  rw[Vy,Vy,VP];exact BN d5.2.2.1 hm
 grind [XP,OU,VP]
set_option maxRecDepth 20000 in
theorem OV(d:Dbs)(hv:okD d=true)(g:Tm)(id:Int)(hga:g.args=[intT id])(hp:Heap)(r q:Nat)(hr:hp[r]? =some (.box (some 7) (cB d g (slA q 0)))):
  S 83 [.ptr r 0] hp=some (.ret (.tuple []),if(eraR d id).2=true then hp.set r (.box (some 7) (cB (eraR d id).1 g (.tsl (some 4) [g.pv]))) else hp):=by
 refine Yj rfl rfl rfl rfl ?_;have hlr:=Yz hr;have hr':∀X,(hp++X)[r]? =some (.box (some 7) (cB d g (slA q 0))):=fun X=>by rw[y8 hlr,hr]
 have hbd:=Qz hv;have e3:Tm.pvs g.args=[(intT id).pv]:=by rw[hga];rfl
 have i0:∀s kk,Yc (some 4) [.pv s (.sl (some 4) [(intT id).pv]),.pv none (.int kk 0)]=some (.iptr (some 4) (intT id).pv 0):=fun _ _=>rfl;have h1:=fun hp=>N2 id hp;have h2:=fun hp=>OQ d hbd id hp;have hnil:∀H:Heap,zU A3 H=(A3,H):=fun _=>rfl;simp only[Tm.av,Dbs.av] at h1 h2;cases he:(eraR d id).2 with
 |false=>
  rw[he] at h2;simp -dsimp -implicitDefEqProofs only[go_sem,seval,YD,hr,hr',Jb,q9,e3,i0,h1,h2,hnil,zT,zH (Zf _ _)];simp[AV.refsIn]
 |true=>
  rw[he] at h2;have hst:∀X:Heap,zK (some 2) hp.length (hp++X) [.ptr r 0,.pv (some 2) (eraR d id).1.pv]=some (.undef,hp.set r (.box (some 7) (cB (eraR d id).1 g (slA q 0)))++X):=fun X=>by
   rw[nc (hr' X) hlr,zx _ _ hlr]
  obtain⟨K,hK⟩:∃K,K=hp.set r (.box (some 7) (cB (eraR d id).1 g (slA q 0))):=⟨_,rfl⟩;have hKl:hp.length=K.length:=by rw[hK];simp
  have hKr:∀X,(K++X)[r]? =some (.box (some 7) (cB (eraR d id).1 g (slA q 0))):=fun X=>by rw[y8 (by omega),hK,ZO hlr]
  have h3:∀X,S 112 [.ptr r 0] (K++X)=some (.ret (.tuple []),hp.set r (.box (some 7) (cB (eraR d id).1 g (.tsl (some 4) [g.pv])))++X):=fun X=>by
   rw[ng _ g q 0 _ r (hKr X),zx _ _ (by omega),hK,List.set_set]
  rw[<-hK] at hst;simp -dsimp -implicitDefEqProofs only[go_sem,seval,YD,hr,hr',Jb,q9,e3,i0,h1,h2,hst,h3,hnil,zT,zH (Zf _ _)];simp[AV.refsIn]
def houD(F:FuncId->Option AFn)(prim:FuncId->Option z8)(rs:List RSlot)(n s:Nat)(st:St)(v:AV)(hp':Heap)(p:PV)(st2:St):Prop:=
 ∃g fs cs,st.fr.look s=some (.func (.func g) fs cs)/\∃r H,sem F prim .dfr g (.pv none p::(fs++cs)) st2.hp=some (.ret r,H)/\Yn ⟨st2.fr,H⟩ rs=some v/\(if v.refsIn.all (fun q=>decide (q<n))=true then H.take n else H)=hp'
def houK(F:FuncId->Option AFn)(prim:FuncId->Option z8)(rs:List RSlot)(n s:Nat)(st:St)(v:AV)(hp':Heap):AExit->St->Prop
 | .normal,st2=>houD F prim rs n s st v hp' .niliface st2
 | .ret,st2=>houD F prim rs n s st v hp' .niliface st2
 | .panic w,st2=>houD F prim rs n s st v hp' w st2
 | .exit _,_=>False
def hdfK(F:FuncId->Option AFn)(prim:FuncId->Option z8)(rs:List RSlot)(n s:Nat)(c2:ACode)(v:AV)(hp':Heap):AExit->St->Prop
 | .normal,st=>(st.fr.look s).isSome=true/\W (sem F prim) (sloop F prim) n c2 st (houK F prim rs n s st v hp')
 |_,_=>False
section
variable{F:FuncId->Option AFn} {prim:FuncId->Option z8} {rs:List RSlot} {n s:Nat} {c2:ACode} {v:AV} {hp':Heap} {st st2:St}
theorem VQ:hdfK F prim rs n s c2 v hp' .normal st=((st.fr.look s).isSome=true/\W (sem F prim) (sloop F prim) n c2 st (houK F prim rs n s st v hp')):=rfl
theorem VR:houK F prim rs n s st v hp' .ret st2=houD F prim rs n s st v hp' .niliface st2:=rfl
theorem VS{w:PV}:houK F prim rs n s st v hp' (.panic w) st2=houD F prim rs n s st v hp' w st2:=rfl
end
theorem VT{F:FuncId->Option AFn}{prim:FuncId->Option z8}{f:FuncId}{fn:AFn}{args:List AV}{hp hp':Heap}{v:AV}{s:Nat}{c2:ACode}(hp0:prim f=none)(hf:F f=some fn)(hm:fn.heapMode=true)(hn:args.length=fn.nparams)(hmo:fn.more=[(.dfr s,c2)])
  (h:W (sem F prim) (sloop F prim) hp.length fn.code ⟨params 0 args,hp⟩ (hdfK F prim fn.results hp.length s c2 v hp'))(hr:fn.rcv=none:=by rfl):sem F prim .fn f args hp=some (.ret v,hp'):=by
 rw[XJ];unfold YY;rw[hp0,hf]
 suffices hB:∃H,abody (sem F prim) (sloop F prim) fn args hp=some (.ret v,H)/\(if v.refsIn.all (fun q=>decide (q<hp.length))=true then H.take hp.length else H)=hp' by
  grind
 unfold abody;rw[Zb (by grind),hmo];simp only;unfold W at h;split at h
 ·rename_i e st1 he;cases e with
  |normal=>
   obtain⟨-,hW⟩:=h;unfold W at hW;split at hW
   ·rename_i e2 st2 he2;have fin:∀p:Option PV,houD F prim fn.results hp.length s st1 v hp' (p.getD .niliface) st2->∀e:AExit,(e=.normal\/e=.ret->p=none)->(∀w,e=.panic w->p=some w)->(∀i,e≠.exit i)->e=e2->∃H,aleave (sem F prim) fn (apieces (sem F prim) (sloop F prim) hp.length [(.dfr s,c2)] fn.code ⟨params 0 args,hp⟩ [])=some (.ret v,H)/\(if v.refsIn.all (fun q=>decide (q<hp.length))=true then H.take hp.length else H)=hp':=by
     rintro p ⟨g,fs,cs,k1,r,H,k2,k3,k4⟩ e n1 n2 n3 rfl;refine⟨H,?_,k4⟩;have k5:atop (sem F prim) (.dfr s) st1 []=some (.normal,st1,[.func (.func g) fs cs]):=by grind [atop]
     have ka:apieces (sem F prim) (sloop F prim) hp.length [(.dfr s,c2)] fn.code ⟨params 0 args,hp⟩ []=some (e,st2,[.func (.func g) fs cs]):=by
      grind [apieces]
     have ku:∀p':Option PV,p'=p->aunwind (sem F prim) [.func (.func g) fs cs] p' st2.hp=some (none,H):=by
      grind [aunwind,yp]
     rw[ka];cases e with
     |normal=>grind [aleave,aresult]
     |ret=>grind [aleave,aresult]
     |panic w=>grind [aleave,aresult]
     |exit i=>grind
    cases e2 with
    |normal=>exact fin none hW .normal (fun _=>rfl) (fun w e=>by cases e) (fun i e=>by cases e) rfl
    |ret=>exact fin none hW .ret (fun _=>rfl) (fun w e=>by cases e) (fun i e=>by cases e) rfl
    |panic w=>exact fin (some w) hW (.panic w) (fun e=>by grind) (fun w e=>by grind) (fun i e=>by cases e) rfl
    |exit i=>exact hW.elim
   grind
  |ret=>exact h.elim
  |exit i=>exact h.elim
  |panic v=>exact h.elim
 grind
theorem OW(H:Heap)(a b:AV):sem (find tab) prim .dfr 84 [.pv none .niliface,a,b] H=some (.ret (.tuple []),H):=by
 refine Qw (t:=4) rfl rfl rfl rfl ?_;have h1:∀z,yN 110 (some 4) z true [.pv none .niliface]=some (.tuple [z,P5 false]):=fun _=>rfl;have h2:∀z,yN 112 (some 1) z true [.pv none .niliface]=some (.tuple [z,P5 false]):=fun _=>rfl;simp -dsimp -implicitDefEqProofs only[go_sem,seval,h1,h2,Qv];simp
theorem OX(b:Tm)(hp:Heap)(s0 v0:AV)(a1:AObj):sem (find tab) prim .dfr 84 [.pv none (XQ b),.ptr hp.length 0,.ptr (hp.length+2) 0] (hp++[.box (some 4) s0,a1,.box none v0])=some (.ret (.tuple []),hp++[.box (some 4) (.pv (some 4) b.pv),a1,.box none (P4 8)]):=by
 refine Qw (t:=4) rfl rfl rfl rfl ?_;have h1:∀z,yN 110 (some 4) z true [.pv none (XQ b)]=some (.tuple [.pv (some 4) b.pv,P5 true]):=fun _=>rfl;simp -dsimp -implicitDefEqProofs only[go_sem,seval,h1,Qv,zT]
 grind
theorem OY(e:Int)(hp:Heap)(s0 v0:AV)(a1:AObj):sem (find tab) prim .dfr 84 [.pv none (Q0 e),.ptr hp.length 0,.ptr (hp.length+2) 0] (hp++[.box (some 4) s0,a1,.box none v0])=some (.ret (.tuple []),hp++[.box (some 4) s0,a1,.box none (P4 e)]):=by
 refine Qw (t:=4) rfl rfl rfl rfl ?_;have h1:∀z,yN 110 (some 4) z true [.pv none (Q0 e)]=some (.tuple [z,P5 false]):=fun _=>rfl;have h2:∀z,yN 112 (some 1) z true [.pv none (Q0 e)]=some (.tuple [.pv (some 1) (.agg [(none,.int .i64 e)]),P5 true]):=fun _=>rfl;simp -dsimp -implicitDefEqProofs only[go_sem,seval,h1,h2,Qv,zT]
 grind
def x3(n:Nat):Heap:=[.box (some 4) (zg (n+1)),.arr (some 4) [] false,.box none (P4 0)]
theorem VU(f:FuncId)(hp H:Heap)(r:Nat)(hH:H.length=hp.length)(h:S f [.ptr r 0] (hp++x3 hp.length)=some (.ret (.tuple []),H++x3 hp.length)):S 40 [.ptr r 0,.pv none (.func (.func f))] hp=some (.ret (.tuple [zg (hp.length+3),P4 0]),H++[.box (some 4) (zg (hp.length+3)),.arr (some 4) [] false,.box none (P4 0),.arr (some 4) [] false]):=by
 refine VT rfl rfl rfl rfl rfl ?_;unfold x3 at h;simp only[zg] at h;have hz0:=P1;simp -dsimp -implicitDefEqProofs only[go_sem,seval,h,hz0,zT,zH (Zc _),zH (Zf _ _),VQ,VR,VS,getN hH,zX hH,setN hH,Yg hH,hH];refine⟨rfl,84,[],_,rfl,_,_,OW _ _ _,?_,?_⟩
 ·simp[Yn,yz,ye,Fr.look,aload,getN hH,zX hH,zg,xd,AV.shp,total,Sh.size]
 simp_all[AV.refsIn,AV.refsIn.gol,AV.refsIn.go,zg]
theorem OZ(f:FuncId)(hp:Heap)(r:Nat)(b:Tm)(h:S f [.ptr r 0] (hp++x3 hp.length)=some (.panic (XQ b),hp++x3 hp.length)):S 40 [.ptr r 0,.pv none (.func (.func f))] hp=some (.ret (.tuple [b.av,P4 8]),hp):=by
 refine VT rfl rfl rfl rfl rfl ?_;have hd:=OX b hp (zg (hp.length+1)) (P4 0) (.arr (some 4) [] false);unfold x3 at h;simp only[zg] at h;have hpan:∀A:Prop,panK true A=A:=fun _=>rfl;simp -dsimp -implicitDefEqProofs only[go_sem,seval,h,hpan,zT,VQ,VR,VS];refine⟨rfl,84,[],_,rfl,_,_,hd,?_,?_⟩
 ·simp[Yn,yz,ye,Fr.look,aload,xd,AV.shp,Tm.av,YQ,Qr]
 grind [AV.refsIn,AV.refsIn.gol,Tm.av]
theorem O0(f:FuncId)(hp H:Heap)(r:Nat)(hH:H.length=hp.length)(e:Int)(h:S f [.ptr r 0] (hp++x3 hp.length)=some (.panic (Q0 e),H++x3 hp.length)):S 40 [.ptr r 0,.pv none (.func (.func f))] hp=some (.ret (.tuple [zg (hp.length+1),P4 e]),H++[.box (some 4) (zg (hp.length+1)),.arr (some 4) [] false,.box none (P4 e)]):=by
 refine VT rfl rfl rfl rfl rfl ?_;have hd:=OY e H (zg (hp.length+1)) (P4 0) (.arr (some 4) [] false);rw[hH] at hd;unfold x3 at h;simp only[zg] at h;have hpan:∀A:Prop,panK true A=A:=fun _=>rfl;simp -dsimp -implicitDefEqProofs only[go_sem,seval,h,hpan,zT,VQ,VR,VS];refine⟨rfl,84,[],_,rfl,_,_,hd,?_,?_⟩
 ·simp[Yn,yz,ye,Fr.look,aload,getN hH,zX hH,zg,xd,AV.shp,total,Sh.size]
 simp_all[AV.refsIn,AV.refsIn.gol,AV.refsIn.go,zg]
end Go.Proofs.YtgedfopkiebjkaaGreatDoor
