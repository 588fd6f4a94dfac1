/- Vars and Rename: from chapter 25. -/
import Derived.Test.YtgedfopkiebjkaaGreatDoorUnf
import Derived.Test.YtgedfopkiebjkaaGreatDoorAm5
import Derived.Test.YtgedfopkiebjkaaGreatDoorRdx
import Derived.Test.YtgedfopkiebjkaaGreatDoorDb1
set_option linter.unusedSimpArgs false
set_option linter.unusedVariables false
set_option maxRecDepth 20000
namespace Go.Proofs.YtgedfopkiebjkaaGreatDoor
open Go.Am
mutual
def shT(d:Int):Tm->Tm
 | .mk k n s ts=>if k=0 then .mk 0 (n+d) [] [] else .mk k n s (shTs d ts)
def shTs(d:Int):List Tm->List Tm
 |[]=>[]
 |t::r=>shT d t::shTs d r
end
theorem BK(d:Int):∀l:List Tm,shTs d l=l.map (shT d)
 |[]=>rfl
 |t::r=>by rw[shTs,BK d r];rfl
theorem vl(d:Int)(t:Tm):shT d t=if t.kind=0 then .mk 0 (t.n+d) [] [] else .mk t.kind t.n t.name (shTs d t.args):=by cases t;rfl
def Xv(l:List Int):List (Int × PV):=l.map fun v=>(v,.int .i64 1)
theorem vm(v:Int):∀l:List Int,(Y1 v (Xv l)).getD (.int .i64 0)=.int .i64 (if v∈l then 1 else 0)
 |[]=>rfl
 |x::r=>by
  have ih:=vm v r
  grind [Xv,Y1]
theorem BL(v:Int):∀l:List Int,v ∉ l->mPut v (.int .i64 1) (Xv l)=Xv (l++[v])
 |[],_=>rfl
 |x::r,h=>by
  have ih:=BL v r fun hm=>h (Zw _ hm)
  grind [Xv,mPut]
def gV(t:Tm)(l:List Int):Heap:=[.box (some 4) (.pv (some 4) t.pv),.arr none [] false,.box none (.sl none 3 l.length 0 l.length),.arr none (ints l) false,.map none (z7 (Xv l)),.box none (.map 4)]
theorem Ot(t0 u:Tm)(l:List Int)(ext:Heap)(hl:l.length<100000000):
  S 140 [u.av,.ptr 5 0,.ptr 2 0] (gV t0 l++ext)=some (.ret u.av,gV t0 (vadd l u.n)++ext):=by
 refine Yj rfl rfl rfl rfl ?_;have hlim:l.length+1<=lim:=by grind [lim]
 by_cases hm:u.n∈l
 ·have e:vadd l u.n=l:=by grind [vadd]
  rw[e];have hlk:∀(a0 a1 a2 a3 a5:AObj) (e:Heap),YF false none (P4 0) false (a0::a1::a2::a3::.map none (z7 (Xv l))::a5::e) [.map 4,P4 u.n]=some (P4 1):=fun a0 a1 a2 a3 a5 e=>by
   rw[jL (m:=Xv l) rfl,vm,Zj hm]
  simp -dsimp -implicitDefEqProofs only[go_sem,seval,gV,Tm.av,Yf,hlk]
  grind [AV.refsIn]
 ·have e:vadd l u.n=l++[u.n]:=by grind [vadd]
  rw[e];have hlk:∀(a0 a1 a2 a3 a5:AObj) (e:Heap),YF false none (P4 0) false (a0::a1::a2::a3::.map none (z7 (Xv l))::a5::e) [.map 4,P4 u.n]=some (P4 0):=fun a0 a1 a2 a3 a5 e=>by
   rw[jL (m:=Xv l) rfl,vm,Zb hm]
  have hms:∀(a0 a1 a2 a3 a5:AObj) (e:Heap),yR false none (a0::a1::a2::a3::.map none (z7 (Xv l))::a5::e) [.map 4,P4 u.n,P4 1]=some (.undef,a0::a1::a2::a3::.map none (z7 (Xv (l++[u.n])))::a5::e):=fun a0 a1 a2 a3 a5 e=>by
   grind [qf,QO,BL]
  have hst:∀(n o' n':Nat) (a0 a1 a3 a4 a5:AObj) (e:Heap) (b:Nat),zH none (b+6) (a0::a1::.box none (.sl none 3 n 0 n)::a3::a4::a5::e) [.ptr 2 0,.sl none 3 n' o' n']=some (.undef,a0::a1::.box none (.sl none 3 n' o' n')::a3::a4::a5::e):=fun n o' n' a0 a1 a3 a4 a5 e b=>mz (by omega) rfl;simp -dsimp -implicitDefEqProofs only[go_sem,seval,gV,Tm.av,Yf,hlk,hms,hst,Jl,hlim,Nb]
  grind [AV.refsIn]
theorem Ou(t0:Tm):∀(t:Tm) (l:List Int) (ext:Heap),t.fits=true->t.size<10000000->l.length+t.size<100000000->
  ∃v e,S 76 [t.av,.func (.func 140) [] [.ptr 5 0,.ptr 2 0]] (gV t0 l++ext)=some (.ret v,gV t0 (vads l t.occ)++(ext++e))/\v.shp=some 4/\v.plain=true/\
   ∃e2,AV.freeze deep v (gV t0 (vads l t.occ)++(ext++e))=some (t.pv,gV t0 (vads l t.occ)++(ext++e2)):=by
 intro t
 induction t using Tm.zAH with
 |h t ih=>
  intro l ext hf ht hl;have hts:=t.size_eq;have hlen:=Tm.zAG t.args;obtain⟨K,hK⟩:∃K:List Int->Heap,K=fun l=>gV t0 l++ext:=⟨_,rfl⟩;have hKs:∀l,gV t0 l++ext=K l:=fun l=>by rw[hK]
  have hKl:∀l,(K l).length=ext.length+6:=fun l=>by simp_all[gV]
  have hKa:∀l X,gV t0 l++(ext++X)=K l++X:=fun l X=>by grind
  simp only[hKa,hKs];obtain⟨n,hn⟩:∃n,n=ext.length+6:=⟨_,rfl⟩;rw[<-hn] at hKl;rw[Tm.zAJ];by_cases hk:t.kind=0
  ·rw[Zj hk];have h1:=fun X=>Ot t0 t l (ext++X) (by omega);simp only[hKa] at h1;have e1:vads l [t.n]=vadd l t.n:=rfl;rw[e1];refine⟨t.av,[],?_,rfl,rfl,⟨[],rfl⟩⟩;rw[ZL];refine Yj rfl rfl rfl rfl ?_;have hk':=Zi hk;simp only[Tm.av] at h1;simp -dsimp -implicitDefEqProofs only[go_sem,seval,Tm.av,zJ,hk',h1,hKl,getN (hKl _),Ye (hKl _),setN (hKl _),Yl (hKl _)]
   grind [AV.refsIn]
  ·rw[Zb hk];refine⟨.agg [(none,P4 t.kind),(none,P4 t.n),(none,P6 t.name),(none,.sl (some 4) (n+5) t.args.length 0 t.args.length)],
    [.box (some 4) (.pv (some 4) t.pv),.box (some 4) (.agg [(none,P4 t.kind),(none,P4 t.n),(none,P6 t.name),(none,.sl (some 4) (n+5) t.args.length 0 t.args.length)]),.arr (some 4) [] false,.box (some 4) (.agg [(none,P4 t.kind),(none,P4 t.n),(none,P6 t.name),(none,.sl (some 4) (n+5) t.args.length 0 t.args.length)]),.arr (some 4) [] false,.arr (some 4) (Tm.pvs t.args) false],?_,rfl,rfl,?_⟩
   ·refine Yj rfl rfl rfl rfl ?_;have hk':=Zg hk;have hb:zQ A0 [0,1,2] [P4 t.kind,P4 t.n,P6 t.name]=some (.agg [(none,P4 t.kind),(none,P4 t.n),(none,P6 t.name),(none,.tsl (some 4) [])]):=rfl;have hle:∀k,n<=n+k:=fun k=>Zd _ _;rw[hKl];simp -dsimp -implicitDefEqProofs only[go_sem,seval,Tm.av,zJ,Yf,zN,zL,hk',Tm.pvs_len,hb,zD (Zd _ _),hKl,getN (hKl _),Ye (hKl _),setN (hKl _),Yl (hKl _)];refine Yp (α:=Unit) t.args.length (fun _ _=>True) (fun i _=>⟨[(1,.func (.func 140) [] [.ptr 5 0,.ptr 2 0]),(4,.ptr (n+1) 0),(5,.ptr (n+3) 0),(22,.pv none (.sl (some 4) (Tm.pvs t.args))),(23,P4 t.args.length),(24,P4 i)],K (vads l (Tm.occs (t.args.take i)))++appH n t i⟩) () ⟨trivial,?_⟩ ?_ ?_
    ·rw[zu];rfl
    ·rintro i - h -;have hc:(i:Int)<(t.args.length:Int):=by omega
     obtain⟨u,hu⟩:∃u,t.args[i]? =some u:=⟨_,Ze h⟩;have hum:=Zh hu;have husz:=Tm.zAI hum;have hst:=Tm.zAP hu;have hle2:=Tm.zAL t.args (i+1);have hvl:=qj (Tm.occs (t.args.take i)) l;have hol:=Tm.zAZ (t.args.take i);obtain⟨v,e,hcall,hvs,hvp,e2,hfz⟩:=ih u hum (vads l (Tm.occs (t.args.take i))) (ext++(appH n t i++[.box (some 4) (.pv (some 4) u.pv),.arr (some 4) [] false])) (Tm.zAK hf hum) (by omega) (by omega);rw[<-qi,<-Tm.zAS hu] at hcall hfz;simp only[Zo,hKa] at hcall hfz;generalize vads l (Tm.occs (t.args.take (i+1)))=l2 at hcall hfz ⊢;generalize vads l (Tm.occs (t.args.take i))=l1 at hcall hfz hvl ⊢;have w2:IntKind.i64.wrap ((i:Int)+1)=((i+1:Nat):Int):=by grind [zU]
     have hl:(Tm.pvs (t.args.take i)).length=i:=by grind [Tm.pvs_len]
     have hlim:i+1<=lim:=by grind [lim]
     have hbs:YW (some 4) (K l2++(appH n t i++([.box (some 4) (.pv (some 4) u.pv),.arr (some 4) [] false]++e))) [v]=some (.tsl (some 4) [u.pv],K l2++(appH n t i++([.box (some 4) (.pv (some 4) u.pv),.arr (some 4) [] false]++e2))):=by
      simp_all[YW,zZ,YG]
     have hs1:∀(k k':List Int) (e e':Heap),Yy (K k++(appH n t i++e)) (K k'++(appH n t i++e')) (.ptr (n+3) 3)=true:=fun k k' e e'=>Jj (t:=t) (q:=n+5) (i:=i) (by rw[getN (hKl _)];rfl) (by rw[getN (hKl _)];rfl);simp only[Tm.av] at hcall;simp only[appH,Zo,Zq,Zu] at hcall hbs hs1;simp -dsimp -implicitDefEqProofs only[go_sem,seval,appH,hc,zT (Tm.pvs_get hu),Qb,ZE,ZX,ZR,ZS,hcall,hbs,hs1,w2,hl,hlim,Tm.zAM hu,zD (Zd _ _),yY (Zd _ _),hKl,getN (hKl _),Ye (hKl _),setN (hKl _),Yl (hKl _)];simp_all[ym,AObj.refs,AV.ofComps,pures,AV.refsIn,AV.refsIn.go,AV.refsIn.gol]
    ·rintro - -;have hc:¬(t.args.length:Int)<(t.args.length:Int):=by omega
     simp -dsimp -implicitDefEqProofs only[go_sem,seval,appH,hc,ZW,zF,zD (Zd _ _),yY (Zd _ _),hKl,getN (hKl _),Ye (hKl _),setN (hKl _),Yl (hKl _)]
     grind [AV.refsIn,AV.refsIn.go]
   ·have e:=P1
    cases t with
    |mk k n' s ts=>
     refine⟨[.box (some 4) (.pv (some 4) (Tm.mk k n' s ts).pv),.box (some 4) (.agg [(none,P4 k),(none,P4 n'),(none,P6 s),(none,.sl (some 4) (n+5) ts.length 0 ts.length)]),.arr (some 4) [] false,.box (some 4) (.agg [(none,P4 k),(none,P4 n'),(none,P6 s),(none,.sl (some 4) (n+5) ts.length 0 ts.length)]),.arr (some 4) [] false,.arr (some 4) (Tm.pvs ts) true],?_⟩;show AV.freeze (7+1) (.agg _) _=_;simp[e,AV.freeze.go,AV.freeze,getN (hKl _),setN (hKl _),Tm.kind,Tm.n,Tm.name,Tm.args,Tm.pvs_len,Tm.pv]
theorem BM(t:Tm)(hv:t.valid=true)(hp:Heap):S 121 [t.av] hp=some (.ret (.pv none (.sl none (ints (vads [] t.occ)))),hp):=by
 refine zM rfl rfl rfl (zK [(some 4,t.pv)]) rfl ?_;have hsz:=valid_size hv;have h1:=fun hp=>YR t hp (by omega);rw[hv] at h1;have hn0:∀H:Heap,YM none H=some (.sl none H.length 0 0 0,H++[.arr none [] false]):=fun H=>Xo (sh:=none) (by decide);obtain⟨v,e,h2,_,_,e2,hfz⟩:=Ou t t [] [] (valid_fits hv) (by omega) (by grind);generalize vads [] t.occ=l at*;simp only[Tm.av] at h1 h2;have hmk:∀(a0 a1 a2 a3:AObj),zH none 0 [a0,a1,a2,a3,.map none [],.box none (.pv none .nilmap)] [.ptr 5 0,.map 4]=some (.undef,[a0,a1,a2,a3,.map none [],.box none (.map 4)]):=fun _ _ _ _=>rfl;have e0:gV t []++[]=[.box (some 4) (.pv (some 4) t.pv),.arr none [] false,.box none (.sl none 3 0 0 0),.arr none [] false,.map none [],.box none (.map 4)]:=rfl;rw[e0] at h2;simp only[gV,Zu,Zq] at h2;have hal:∀a0 a1:AObj,yQ none (.tsl none []) [a0,a1] []=some (.ptr 2 0,[a0,a1,.box none (.sl none 3 0 0 0),.arr none [] false]):=fun _ _=>rfl;have hfr:∀(a0 a1 a2 a4 a5:AObj),Am.frozen (.pv none (.sl none (ints l))) (.sl none 3 l.length 0 l.length) (a0::a1::a2::.arr none (ints l) false::a4::a5::e):=fun a0 a1 a2 a4 a5=>by
  refine⟨(a0::a1::a2::.arr none (ints l) false::a4::a5::e).set 3 (.arr none (ints l) true),?_⟩;simp[AV.freezeRes,AV.freeze,deep,Jl,AV.shp]
 simp -dsimp -implicitDefEqProofs only[go_sem,seval,Tm.av,h1,hn0,hal,hmk,h2]
 grind
def cagg(k:Int)(q:Nat):AV:=.agg [(none,P4 0),(none,P4 k),(none,P6 []),(none,.sl (some 4) q 0 0 0)]
theorem Ko{k:Int}{q:Nat}{H:Heap}(h:H[q]? =some (.arr (some 4) [] false)):AV.freeze deep (cagg k q) H=some ((tvar k).pv,H.set q (.arr (some 4) [] true)):=by
 have e:=P1
 show AV.freeze (7+1) (.agg _) _=_;simp[e,AV.freeze.go,AV.freeze,h];rfl
def gR(t:Tm)(d:Int):Heap:=[.box (some 4) (.pv (some 4) t.pv),.box none (P4 d),.box (some 4) (cagg 0 3),.arr (some 4) [] false]
theorem Ov(t0 u:Tm)(d:Int)(ext:Heap)(h0:0<=d)(h1:0<=u.n)(h2:d<=2000000000000)(h3:u.n<=2000000000000)(n:Nat)(hn:n=ext.length+4):
  S 142 [u.av,.ptr 1 0] (gR t0 d++ext)=some (.ret (cagg (u.n+d) (n+3)),gR t0 d++(ext++[.box (some 4) (.pv (some 4) u.pv),.box (some 4) (cagg (u.n+d) (n+3)),.arr (some 4) [] false,.arr (some 4) [] false])):=by
 obtain⟨K,hK⟩:∃K:Heap,K=gR t0 d++ext:=⟨_,rfl⟩;have hKl:K.length=n:=by simp_all[gR]
 have hK1:∀X,(K++X)[1]? =some (.box none (P4 d)):=fun X=>by rw[hK];rfl
 rw[<-Zo,<-hK];unfold cagg;refine Yj rfl rfl rfl rfl ?_;rw[hKl];have w1:IntKind.i64.wrap (u.n+d)=u.n+d:=zU (by omega) (by omega);have hb:∀k:Int,zQ A0 [1] [P4 k]=some (.agg [(none,P4 0),(none,P4 k),(none,P6 []),(none,.tsl (some 4) [])]):=fun _=>rfl;simp -dsimp -implicitDefEqProofs only[go_sem,seval,Tm.av,Yf,w1,hb,zF,zD (Zd _ _),hK1,hKl,getN hKl,Ye hKl,setN hKl,Yl hKl]
 grind [AV.refsIn,AV.refsIn.go]
def okV(t:Tm):Prop:=∀v∈t.occ,0<=v/\v<=2000000000000
theorem okV.arg{t u:Tm}(h:okV t)(hk:¬t.kind=0)(hu:u∈t.args):okV u:=fun v hv=>h v (by
 rw[Tm.zAJ,Zb hk];have:∀l:List Tm,u∈l->v∈Tm.occs l:=by
  intro l
  induction l with
  |nil=>grind
  |cons x r ih=>
   grind [Tm.occs]
 grind)
theorem Ow(t0:Tm)(d:Int)(h0:0<=d)(h2:d<=2000000000000):∀(t:Tm) (ext:Heap),t.fits=true->t.size<10000000->okV t->
  ∃v e,S 76 [t.av,.func (.func 142) [] [.ptr 1 0]] (gR t0 d++ext)=some (.ret v,gR t0 d++(ext++e))/\v.shp=some 4/\v.plain=true/\(∀H,v.own H=(v,H))/\
   (∃e2,AV.freeze deep v (gR t0 d++(ext++e))=some ((shT d t).pv,gR t0 d++(ext++e2)))/\
   ∀H:Heap,(∀j,ext.length+4<=j->H[j]? =(gR t0 d++(ext++e))[j]?)->∃H2,AV.freeze deep v H=some ((shT d t).pv,H2):=by
 intro t
 induction t using Tm.zAH with
 |h t ih=>
  intro ext hf ht hV;have hts:=t.size_eq;have hlen:=Tm.zAG t.args;obtain⟨n,hn⟩:∃n,n=ext.length+4:=⟨_,rfl⟩;obtain⟨K,hK⟩:∃K:Heap,K=gR t0 d++ext:=⟨_,rfl⟩;have hKl:K.length=n:=by simp_all[gR]
  have hKa:∀X,gR t0 d++(ext++X)=K++X:=fun X=>by grind
  simp only[<-hn];simp only[hKa,<-hK];by_cases hk:t.kind=0
  ·have hV1:=hV t.n (by grind [Tm.zAJ]);have h1:=fun X=>Ov t0 t d (ext++X) h0 hV1.1 h2 hV1.2;simp only[Zo] at h1;simp only[hKa] at h1;have e2:shT d t=tvar (t.n+d):=by
    rw[vl,Zj hk];rfl
   rw[e2];generalize t.n+d=k at*;refine⟨cagg k (n+6),[.box (some 4) (.pv (some 4) t.pv),.box (some 4) (cagg k (n+6)),.arr (some 4) [] false,.box (some 4) (.pv (some 4) t.pv),.box (some 4) (cagg k (n+6)),.arr (some 4) [] false,.arr (some 4) [] false],?_,rfl,rfl,fun _=>rfl,?_,fun H hH=> ?_⟩
   ·unfold cagg;refine Yj rfl rfl rfl rfl ?_;have hk':=Zi hk;have h2:=h1 [.box (some 4) (.pv (some 4) t.pv),.box (some 4) (cagg 0 (n+2)),.arr (some 4) [] false] (n+3) (by grind);simp only[Tm.av,cagg,Zq,Zu] at h2;rw[hKl];simp -dsimp -implicitDefEqProofs only[go_sem,seval,Tm.av,cagg,zJ,hk',h2,zF,hKl,getN hKl,Ye hKl,setN hKl,Yl hKl,zD (Zd _ _)];simp_all[Zb,AV.refsIn,AV.refsIn.go]
   ·refine⟨[.box (some 4) (.pv (some 4) t.pv),.box (some 4) (cagg k (n+6)),.arr (some 4) [] false,.box (some 4) (.pv (some 4) t.pv),.box (some 4) (cagg k (n+6)),.arr (some 4) [] false,.arr (some 4) [] true],?_⟩;rw[Ko (by rw[getN hKl];rfl),setN hKl];rfl
   ·exact⟨_,Ko (by rw[hH _ (by omega),getN hKl];rfl)⟩
  ·obtain⟨ts',hts'⟩:∃ts',ts'=t.args.map (shT d):=⟨_,rfl⟩;have htl:ts'.length=t.args.length:=by grind
   rw[vl,Zb hk,BK,<-hts'];refine⟨.agg [(none,P4 t.kind),(none,P4 t.n),(none,P6 t.name),(none,.sl (some 4) (n+5) t.args.length 0 t.args.length)],
    [.box (some 4) (.pv (some 4) t.pv),.box (some 4) (.agg [(none,P4 t.kind),(none,P4 t.n),(none,P6 t.name),(none,.sl (some 4) (n+5) t.args.length 0 t.args.length)]),.arr (some 4) [] false,.box (some 4) (.agg [(none,P4 t.kind),(none,P4 t.n),(none,P6 t.name),(none,.sl (some 4) (n+5) t.args.length 0 t.args.length)]),.arr (some 4) [] false,.arr (some 4) (Tm.pvs ts') false],?_,rfl,rfl,fun _=>rfl,?_,?_⟩
   ·refine Yj rfl rfl rfl rfl ?_;have hk':=Zg hk;have hb:zQ A0 [0,1,2] [P4 t.kind,P4 t.n,P6 t.name]=some (.agg [(none,P4 t.kind),(none,P4 t.n),(none,P6 t.name),(none,.tsl (some 4) [])]):=rfl;rw[hKl];simp -dsimp -implicitDefEqProofs only[go_sem,seval,Tm.av,zJ,Yf,zN,zL,hk',Tm.pvs_len,hb,zD (Zd _ _),hKl,getN hKl,Ye hKl,setN hKl,Yl hKl];refine Yp (α:=Unit) t.args.length (fun _ _=>True) (fun i _=>⟨[(1,.func (.func 142) [] [.ptr 1 0]),(4,.ptr (n+1) 0),(5,.ptr (n+3) 0),(22,.pv none (.sl (some 4) (Tm.pvs t.args))),(23,P4 t.args.length),(24,P4 i)],K++appC n t ts' i⟩) () ⟨trivial,?_⟩ ?_ ?_
    ·rfl
    ·rintro i - h -;have hc:(i:Int)<(t.args.length:Int):=by omega
     obtain⟨u,hu⟩:∃u,t.args[i]? =some u:=⟨_,Ze h⟩;have hum:=Zh hu;have husz:=Tm.zAI hum;obtain⟨v,e,hcall,hvs,hvp,_,⟨e2,hfz⟩,_⟩:=ih u hum (ext++(appC n t ts' i++[.box (some 4) (.pv (some 4) u.pv),.arr (some 4) [] false])) (Tm.zAK hf hum) (by omega) (hV.arg hk hum);simp only[Zo,hKa] at hcall hfz;have w2:IntKind.i64.wrap ((i:Int)+1)=((i+1:Nat):Int):=by grind [zU]
     have hl:(Tm.pvs (ts'.take i)).length=i:=by grind [Tm.pvs_len]
     have hlim:i+1<=lim:=by grind [lim]
     have hus:ts'[i]? =some (shT d u):=by grind
     have hbs:YW (some 4) (K++(appC n t ts' i++([.box (some 4) (.pv (some 4) u.pv),.arr (some 4) [] false]++e))) [v]=some (.tsl (some 4) [(shT d u).pv],K++(appC n t ts' i++([.box (some 4) (.pv (some 4) u.pv),.arr (some 4) [] false]++e2))):=by
      simp_all[YW,zZ,YG]
     have hs1:∀(e e':Heap),Yy (K++(appC n t ts' i++e)) (K++(appC n t ts' i++e')) (.ptr (n+3) 3)=true:=fun e e'=>Jj (t:=t) (q:=n+5) (i:=i) (by rw[getN hKl];rfl) (by rw[getN hKl];rfl);simp only[Tm.av] at hcall;simp only[appC,Zo,Zq,Zu] at hcall hbs hs1;simp -dsimp -implicitDefEqProofs only[go_sem,seval,appC,hc,zT (Tm.pvs_get hu),Qb,ZE,ZX,ZR,ZS,hcall,hbs,hs1,w2,hl,hlim,Tm.zAM hus,zD (Zd _ _),yY (Zd _ _),hKl,getN hKl,Ye hKl,setN hKl,Yl hKl];refine⟨(),?_⟩;rw[ym 6 hKl rfl (by simp[AObj.refs,AV.ofComps,pures,AV.refsIn,AV.refsIn.go]) (by simp[AV.refsIn,AV.refsIn.gol])];rfl
    ·rintro - -;have hc:¬(t.args.length:Int)<(t.args.length:Int):=by omega
     have htk:ts'.take t.args.length=ts':=Zl (by omega);simp -dsimp -implicitDefEqProofs only[go_sem,seval,appC,hc,htk,zF,zD (Zd _ _),yY (Zd _ _),hKl,getN hKl,Ye hKl,setN hKl,Yl hKl]
     grind [AV.refsIn,AV.refsIn.go]
   ·have e:=P1
    refine⟨[.box (some 4) (.pv (some 4) t.pv),.box (some 4) (.agg [(none,P4 t.kind),(none,P4 t.n),(none,P6 t.name),(none,.sl (some 4) (n+5) t.args.length 0 t.args.length)]),.arr (some 4) [] false,.box (some 4) (.agg [(none,P4 t.kind),(none,P4 t.n),(none,P6 t.name),(none,.sl (some 4) (n+5) t.args.length 0 t.args.length)]),.arr (some 4) [] false,.arr (some 4) (Tm.pvs ts') true],?_⟩;show AV.freeze (7+1) (.agg _) _=_;simp[e,AV.freeze.go,AV.freeze,getN hKl,setN hKl,htl,Tm.pvs_len,Tm.pv]
   ·intro H hH;have h5:=hH (n+5) (by omega);rw[getN hKl] at h5;have e:=P1
    refine⟨H.set (n+5) (.arr (some 4) (Tm.pvs ts') true),?_⟩;show AV.freeze (7+1) (.agg _) _=_;simp_all[AV.freeze.go,AV.freeze,Tm.pvs_len,Tm.pv]
theorem Ox:∀{t:Tm},t.fits=true->∀v∈t.occ,0<=v/\v<=1099511627776:=by
 intro t
 induction t using Tm.zAH with
 |h t ih=>
  intro hf v hv;rw[Tm.zAJ] at hv;split at hv
  ·grind [Tm.zAO,Tm.node]
  ·have:∀l:List Tm,(∀u∈l,u∈t.args)->v∈Tm.occs l->0<=v/\v<=1099511627776:=by
    intro l
    induction l with
    |nil=>intro _ h;cases h
    |cons x r ihr=>
     grind [Tm.occs,Tm.zAK]
   grind
def movable(d:Int)(t:Tm):Bool:=t.occ.all fun v=>decide (v<=1099511627776 - d)
theorem BN(t:Tm)(hv:t.valid=true)(d:Int)(h0:0<=d)(hd:d<=1099511627776)(hp:Heap):S 122 [t.av,P4 d] hp=some (.ret (.tuple [if movable d t=true then(shT d t).av else zt.av,P4 (if movable d t=true then 0 else 2)]),hp):=by
 refine zM rfl rfl rfl (zK [(some 4,t.pv),(none,.int .i64 d)]) rfl ?_;have hsz:=valid_size hv;have hf:=valid_fits hv;have h1:=fun hp=>YR t hp (by omega);rw[hv] at h1;have hn:∀hp,S 141 [P4 d] hp=some (.ret (P5 true),hp):=fun hp=>by
  refine zM rfl rfl rfl (zK [(none,.int .i64 d)]) rfl ?_;have c1:(0:Int)<=d:=h0;have c2:d<=1099511627776:=hd
  (repeat' (first|(simp -dsimp -implicitDefEqProofs only[go_sem,seval,c1,c2, *])|(refine Y6 (fun _=> ?_) (fun _=> ?_))))
 have hvars:=fun hp=>BM t hv hp;have hol:t.occ.length<=t.size:=by
  have:=Tm.zAZ [t]
  grind [Tm.occs,Tm.sizes]
 have hvl:=qj t.occ [];have hmem:=VC t.occ [];have hmv:movable d t=true↔∀v∈vads [] t.occ,v<=1099511627776 - d:=by
  grind [movable]
 obtain⟨v,e,h2,h3,h4,h5,_,h6⟩:=Ow t d h0 (by omega) t [] hf (by omega) (fun v hv=>by have:=Ox hf v hv;omega);generalize hl:vads [] t.occ=l at*;have hll:l.length<10000000:=by grind
 simp only[Tm.av,gR,cagg,Zq,Zu] at h1 h2 hvars;have w1:IntKind.i64.wrap (1099511627776 - d)=1099511627776 - d:=zU (by omega) (by omega);have hst:∀(a0 a1 a3:AObj),zH (some 4) 0 (a0::a1::.box (some 4) (.agg [(none,P4 0),(none,P4 0),(none,P6 []),(none,.sl (some 4) 3 0 0 0)])::a3::e) [.ptr 2 0,v]=some (.undef,a0::a1::.box (some 4) v::a3::e):=fun _ _ _=>by
  simp_all[zH,astore]
 have hb:=P0;simp -dsimp -implicitDefEqProofs only[go_sem,seval,Tm.av,h1,hn,hvars,Jl,zF,zD (Za _)];refine Yp (α:=Unit) l.length (fun i _=>∀v∈l.take i,v<=1099511627776 - d) (fun i _=>⟨[(2,.ptr 0 0),(3,.ptr 1 0),(4,.ptr 2 0),(18,.pv none (.sl none (ints l))),(19,P4 l.length),(20,P4 i)],[.box (some 4) (.pv (some 4) t.pv),.box none (P4 d),.box (some 4) (.agg [(none,P4 0),(none,P4 0),(none,P6 []),(none,.sl (some 4) 3 0 0 0)]),.arr (some 4) [] false]⟩) () ⟨fun v hv=>by grind,rfl⟩ ?_ ?_
 ·rintro i - h hinv;have hc:(i:Int)<(l.length:Int):=by omega
  obtain⟨w,hw⟩:∃w,l[i]? =some w:=⟨_,Ze h⟩;have w2:IntKind.i64.wrap ((i:Int)+1)=((i+1:Nat):Int):=by grind [zU]
  by_cases hw2:1099511627776 - d<w
  ·have hm:¬movable d t=true:=fun hm=>by
    have:=hmv.1 hm w (Zh hw);omega
   simp -dsimp -implicitDefEqProofs only[go_sem,seval,hc,zT (G7 hw),w1,hw2,hb,zF,zD (Za _),jA];rw[Zb hm,Zb hm];rfl
  ·simp -dsimp -implicitDefEqProofs only[go_sem,seval,hc,zT (G7 hw),w1,w2,hw2];refine⟨(),fun v hv=> ?_,?_⟩
   ·grind [Z8]
   grind [QL]
 ·rintro - hinv;have hc:¬(l.length:Int)<(l.length:Int):=by omega
  rw[ZW] at hinv;have hm:movable d t=true:=hmv.2 hinv;simp -dsimp -implicitDefEqProofs only[go_sem,seval,hc,h2,hst,jA];rw[Zj hm,Zj hm];obtain⟨H2,k⟩:=h6 (.box (some 4) (.pv (some 4) t.pv)::.box none (P4 d)::.box (some 4) v::.arr (some 4) [] false::e) fun j hj=>by
   match j,hj with
   |j+4,_=>rfl
  have ef:zZ [v,P4 0] (.box (some 4) (.pv (some 4) t.pv)::.box none (P4 d)::.box (some 4) v::.arr (some 4) [] false::e)=some ([(some 4,(shT d t).pv),(none,.int .i64 0)],H2):=by
   simp only[zZ,k,h3];rfl
  rw[ef];rfl
def gC(t:Tm)(l:List Int):Heap:=[.box (some 4) (.pv (some 4) t.pv),.box (some 4) (cagg 0 2),.arr (some 4) [] false,.map none (z7 (posF 0 l)),.box none (.map 3)]
theorem BO(t:Tm)(l:List Int)(ext:Heap):(gC t l++ext).length=ext.length+5:=by simp[gC]
theorem gC_4(t:Tm)(l:List Int)(ext X:Heap):(gC t l++ext++X)[4]? =some (.box none (.map 3)):=rfl
theorem gC_3(t:Tm)(l:List Int)(ext X:Heap):(gC t l++ext++X)[3]? =some (.map none (z7 (posF 0 l))):=rfl
theorem Oy(t:Tm)(l l':List Int)(ext X:Heap):(gC t l++ext++X).set 3 (.map none (z7 (posF 0 l')))=gC t l'++ext++X:=rfl
theorem Oz(t0 u:Tm)(l:List Int)(ext:Heap)(hl:l.length<100000000)(n:Nat)(hn:n=ext.length+5):
  S 77 [u.av,.ptr 4 0] (gC t0 l++ext)=some (.ret (cagg ((vadd l u.n).idxOf u.n:Nat) (n+3)),gC t0 (vadd l u.n)++(ext++[.box (some 4) (.pv (some 4) u.pv),.box (some 4) (cagg ((vadd l u.n).idxOf u.n:Nat) (n+3)),.arr (some 4) [] false,.arr (some 4) [] false])):=by
 obtain⟨K,hK⟩:∃K:List Int->Heap,K=fun l=>gC t0 l++ext:=⟨_,rfl⟩;have hKs:∀l,gC t0 l++ext=K l:=fun l=>by rw[hK]
 have hKl:∀l,(K l).length=n:=fun l=>by grind [BO]
 have hKa:∀l X,gC t0 l++(ext++X)=K l++X:=fun l X=>by grind
 have hK4:∀l X,(K l++X)[4]? =some (.box none (.map 3)):=fun l X=>by grind [gC_4]
 have hK3:∀l X,(K l++X)[3]? =some (.map none (z7 (posF 0 l))):=fun l X=>by grind [gC_3]
 have hKS:∀l l' X,(K l++X).set 3 (.map none (z7 (posF 0 l')))=K l'++X:=fun l l' X=>by grind [Oy]
 have hle:∀k,n<=n+k:=fun k=>Zd _ _;rw[hKa,hKs];unfold cagg;refine Yj rfl rfl rfl rfl ?_;rw[hKl];have hb:∀k:Int,zQ A0 [1] [P4 k]=some (.agg [(none,P4 0),(none,P4 k),(none,P6 []),(none,.tsl (some 4) [])]):=fun _=>rfl;by_cases hm:u.n∈l
 ·have e:vadd l u.n=l:=by grind [vadd]
  rw[e];have hlk:∀X:Heap,YF false none (P4 0) true (K l++X) [.map 3,P4 u.n]=some (.tuple [P4 ((l.idxOf u.n:Nat):Int),P5 true]):=fun X=>by
   grind [jO,Jn]
  simp -dsimp -implicitDefEqProofs only[go_sem,seval,cagg,Tm.av,Yf,hlk,hb,zF,zD (Zd _ _),hK4,hKl,getN (hKl _),Ye (hKl _),setN (hKl _),Yl (hKl _)]
  grind [AV.refsIn,AV.refsIn.go]
 ·have e:vadd l u.n=l++[u.n]:=by grind [vadd]
  rw[e,VF hm];have hlk:∀X:Heap,YF false none (P4 0) true (K l++X) [.map 3,P4 u.n]=some (.tuple [P4 0,P5 false]):=fun X=>by
   grind [jO,Jn]
  have hml:∀X:Heap,y8 (K l++X) [.map 3]=some (P4 (l.length:Int)):=fun X=>by
   grind [y8,z7,jM]
  have hms:∀X:Heap,yR false none (K l++X) [.map 3,P4 u.n,P4 (l.length:Int)]=some (.undef,K (l++[u.n])++X):=fun X=>by
   have:=VD u.n l 0 hm
   grind [qf,QO]
  simp -dsimp -implicitDefEqProofs only[go_sem,seval,cagg,Tm.av,Yf,hlk,hml,hms,hb,zF,zD (Zd _ _),hK4,hKl,getN (hKl _),Ye (hKl _),setN (hKl _),Yl (hKl _)]
  grind [AV.refsIn,AV.refsIn.go]
theorem OA(t0:Tm):∀(t:Tm) (l L:List Int) (ext:Heap),t.fits=true->t.size<10000000->l.length+t.size<100000000->vads l t.occ <+: L->
  ∃v e,S 76 [t.av,.func (.func 77) [] [.ptr 4 0]] (gC t0 l++ext)=some (.ret v,gC t0 (vads l t.occ)++(ext++e))/\v.shp=some 4/\v.plain=true/\(∀H,v.own H=(v,H))/\
   (∃e2,AV.freeze deep v (gC t0 (vads l t.occ)++(ext++e))=some ((Tm.sub (cPos L) t).pv,gC t0 (vads l t.occ)++(ext++e2)))/\
   ∀H:Heap,(∀j,ext.length+5<=j->H[j]? =(gC t0 (vads l t.occ)++(ext++e))[j]?)->∃H2,AV.freeze deep v H=some ((Tm.sub (cPos L) t).pv,H2):=by
 intro t
 induction t using Tm.zAH with
 |h t ih=>
  intro l L ext hf ht hl hp;have hts:=t.size_eq;have hlen:=Tm.zAG t.args;obtain⟨n,hn⟩:∃n,n=ext.length+5:=⟨_,rfl⟩;have h1:=fun X=>Oz t0 t l (ext++X) (by omega);obtain⟨K,hK⟩:∃K:List Int->Heap,K=fun l=>gC t0 l++ext:=⟨_,rfl⟩;have hKs:∀l,gC t0 l++ext=K l:=fun l=>by rw[hK]
  have hKl:∀l,(K l).length=n:=fun l=>by grind [BO]
  have hKa:∀l X,gC t0 l++(ext++X)=K l++X:=fun l X=>by grind
  simp only[<-hn];simp only[Zo] at h1;simp only[hKa] at h1;simp only[hKa,hKs];rw[Tm.zAJ] at hp ⊢;by_cases hk:t.kind=0
  ·rw[Zj hk] at hp ⊢;have e1:vads l [t.n]=vadd l t.n:=rfl;rw[e1] at hp ⊢;have e2:Tm.sub (cPos L) t=tvar ((vadd l t.n).idxOf t.n:Nat):=by
    grind [Tm.zAR,cPos,VE,G8]
   rw[e2];generalize (((vadd l t.n).idxOf t.n:Nat):Int)=k at*;generalize vadd l t.n=l2 at*;refine⟨cagg k (n+6),[.box (some 4) (.pv (some 4) t.pv),.box (some 4) (cagg k (n+6)),.arr (some 4) [] false,.box (some 4) (.pv (some 4) t.pv),.box (some 4) (cagg k (n+6)),.arr (some 4) [] false,.arr (some 4) [] false],?_,rfl,rfl,fun _=>rfl,?_,fun H hH=> ?_⟩
   ·unfold cagg;refine Yj rfl rfl rfl rfl ?_;have hk':=Zi hk;have h2:=h1 [.box (some 4) (.pv (some 4) t.pv),.box (some 4) (cagg 0 (n+2)),.arr (some 4) [] false] (n+3) (by grind);simp only[Tm.av,cagg,Zq,Zu] at h2;rw[hKl];simp -dsimp -implicitDefEqProofs only[go_sem,seval,Tm.av,cagg,zJ,hk',h2,zF,hKl,getN (hKl _),Ye (hKl _),setN (hKl _),Yl (hKl _),zD (Zd _ _)];simp_all[AV.refsIn,AV.refsIn.go]
   ·refine⟨[.box (some 4) (.pv (some 4) t.pv),.box (some 4) (cagg k (n+6)),.arr (some 4) [] false,.box (some 4) (.pv (some 4) t.pv),.box (some 4) (cagg k (n+6)),.arr (some 4) [] false,.arr (some 4) [] true],?_⟩;simp_all[Ko]
   simp_all[Ko]
  ·rw[Zb hk] at hp ⊢;rw[Ng hk];obtain⟨ts',hts'⟩:∃ts',ts'=t.args.map (Tm.sub (cPos L)):=⟨_,rfl⟩;have htl:ts'.length=t.args.length:=by grind
   rw[<-hts'];refine⟨.agg [(none,P4 t.kind),(none,P4 t.n),(none,P6 t.name),(none,.sl (some 4) (n+5) t.args.length 0 t.args.length)],
    [.box (some 4) (.pv (some 4) t.pv),.box (some 4) (.agg [(none,P4 t.kind),(none,P4 t.n),(none,P6 t.name),(none,.sl (some 4) (n+5) t.args.length 0 t.args.length)]),.arr (some 4) [] false,.box (some 4) (.agg [(none,P4 t.kind),(none,P4 t.n),(none,P6 t.name),(none,.sl (some 4) (n+5) t.args.length 0 t.args.length)]),.arr (some 4) [] false,.arr (some 4) (Tm.pvs ts') false],?_,rfl,rfl,fun _=>rfl,?_,?_⟩
   ·refine Yj rfl rfl rfl rfl ?_;have hk':=Zg hk;have hb:zQ A0 [0,1,2] [P4 t.kind,P4 t.n,P6 t.name]=some (.agg [(none,P4 t.kind),(none,P4 t.n),(none,P6 t.name),(none,.tsl (some 4) [])]):=rfl;have hle:∀k,n<=n+k:=fun k=>Zd _ _;rw[hKl];simp -dsimp -implicitDefEqProofs only[go_sem,seval,Tm.av,zJ,Yf,zN,zL,hk',Tm.pvs_len,hb,zD (Zd _ _),hKl,getN (hKl _),Ye (hKl _),setN (hKl _),Yl (hKl _)];refine Yp (α:=Unit) t.args.length (fun _ _=>True) (fun i _=>⟨[(1,.func (.func 77) [] [.ptr 4 0]),(4,.ptr (n+1) 0),(5,.ptr (n+3) 0),(22,.pv none (.sl (some 4) (Tm.pvs t.args))),(23,P4 t.args.length),(24,P4 i)],K (vads l (Tm.occs (t.args.take i)))++appC n t ts' i⟩) () ⟨trivial,?_⟩ ?_ ?_
    ·rw[zu];rfl
    ·rintro i - h -;have hc:(i:Int)<(t.args.length:Int):=by omega
     obtain⟨u,hu⟩:∃u,t.args[i]? =some u:=⟨_,Ze h⟩;have hum:=Zh hu;have husz:=Tm.zAI hum;have hst:=Tm.zAP hu;have hle2:=Tm.zAL t.args (i+1);have hvl:=qj (Tm.occs (t.args.take i)) l;have hol:=Tm.zAZ (t.args.take i);have hpre:vads (vads l (Tm.occs (t.args.take i))) u.occ <+: L:=by
      grind [qi,Tm.zAS,ZY,G9,jN]
     obtain⟨v,e,hcall,hvs,hvp,_,⟨e2,hfz⟩,_⟩:=ih u hum (vads l (Tm.occs (t.args.take i))) L (ext++(appC n t ts' i++[.box (some 4) (.pv (some 4) u.pv),.arr (some 4) [] false])) (Tm.zAK hf hum) (by omega) (by omega) hpre;rw[<-qi,<-Tm.zAS hu] at hcall hfz;simp only[Zo,hKa] at hcall hfz;generalize vads l (Tm.occs (t.args.take (i+1)))=l2 at hcall hfz ⊢;generalize vads l (Tm.occs (t.args.take i))=l1 at hcall hfz hvl ⊢;have w2:IntKind.i64.wrap ((i:Int)+1)=((i+1:Nat):Int):=by grind [zU]
     have hl:(Tm.pvs (ts'.take i)).length=i:=by grind [Tm.pvs_len]
     have hlim:i+1<=lim:=by grind [lim]
     have hus:ts'[i]? =some (Tm.sub (cPos L) u):=by grind
     have hbs:YW (some 4) (K l2++(appC n t ts' i++([.box (some 4) (.pv (some 4) u.pv),.arr (some 4) [] false]++e))) [v]=some (.tsl (some 4) [(Tm.sub (cPos L) u).pv],K l2++(appC n t ts' i++([.box (some 4) (.pv (some 4) u.pv),.arr (some 4) [] false]++e2))):=by
      simp_all[YW,zZ,YG]
     have hs1:∀(k k':List Int) (e e':Heap),Yy (K k++(appC n t ts' i++e)) (K k'++(appC n t ts' i++e')) (.ptr (n+3) 3)=true:=fun k k' e e'=>Jj (t:=t) (q:=n+5) (i:=i) (by rw[getN (hKl _)];rfl) (by rw[getN (hKl _)];rfl);simp only[Tm.av] at hcall;simp only[appC,Zo,Zq,Zu] at hcall hbs hs1;simp -dsimp -implicitDefEqProofs only[go_sem,seval,appC,hc,zT (Tm.pvs_get hu),Qb,ZE,ZX,ZR,ZS,hcall,hbs,hs1,w2,hl,hlim,Tm.zAM hus,zD (Zd _ _),yY (Zd _ _),hKl,getN (hKl _),Ye (hKl _),setN (hKl _),Yl (hKl _)];simp_all[ym,AObj.refs,AV.ofComps,pures,AV.refsIn,AV.refsIn.go,AV.refsIn.gol]
    ·rintro - -;have hc:¬(t.args.length:Int)<(t.args.length:Int):=by omega
     have htk:ts'.take t.args.length=ts':=Zl (by omega);simp -dsimp -implicitDefEqProofs only[go_sem,seval,appC,hc,ZW,htk,zF,zD (Zd _ _),yY (Zd _ _),hKl,getN (hKl _),Ye (hKl _),setN (hKl _),Yl (hKl _)]
     grind [AV.refsIn,AV.refsIn.go]
   ·have e:=P1
    refine⟨[.box (some 4) (.pv (some 4) t.pv),.box (some 4) (.agg [(none,P4 t.kind),(none,P4 t.n),(none,P6 t.name),(none,.sl (some 4) (n+5) t.args.length 0 t.args.length)]),.arr (some 4) [] false,.box (some 4) (.agg [(none,P4 t.kind),(none,P4 t.n),(none,P6 t.name),(none,.sl (some 4) (n+5) t.args.length 0 t.args.length)]),.arr (some 4) [] false,.arr (some 4) (Tm.pvs ts') true],?_⟩;show AV.freeze (7+1) (.agg _) _=_;simp_all[AV.freeze.go,AV.freeze,Tm.pvs_len,Tm.pv]
   ·intro H hH;have h5:=hH (n+5) (by omega);rw[getN (hKl _)] at h5;have e:=P1
    refine⟨H.set (n+5) (.arr (some 4) (Tm.pvs ts') true),?_⟩;show AV.freeze (7+1) (.agg _) _=_;simp_all[AV.freeze.go,AV.freeze,Tm.pvs_len,Tm.pv]
def canR(t:Tm):Tm:=if t.valid=true then canT t else zt
theorem JK(t:Tm)(hp:Heap)(ht:t.size<1000000000):S 38 [t.av] hp=some (.ret (canR t).av,hp):=by
 refine zM rfl rfl rfl (zK [(some 4,t.pv)]) rfl ?_;have h1:=fun hp=>YR t hp ht;unfold canR;by_cases hv:t.valid=true
 ·rw[Zj hv];have hsz:=valid_size hv;obtain⟨v,e,h2,h3,h4,h5,_,h6⟩:=OA t t [] (vads [] t.occ) [] (valid_fits hv) (by omega) (by grind) (List.prefix_refl _);rw[hv] at h1;simp only[Tm.av,gC,cagg,Zq,Zu] at h1 h2;have hmk:∀(a0 a1 a2:AObj),zH none 0 [a0,a1,a2,.map none [],.box none (.pv none .nilmap)] [.ptr 4 0,.map 3]=some (.undef,[a0,a1,a2,.map none [],.box none (.map 3)]):=fun _ _ _=>rfl;have e0:z7 (posF 0 [])=[]:=rfl;rw[e0] at h2;have hst:∀(a0 a2 a3 a4:AObj),zH (some 4) 0 (a0::.box (some 4) (.agg [(none,P4 0),(none,P4 0),(none,P6 []),(none,.sl (some 4) 2 0 0 0)])::a2::a3::a4::e) [.ptr 1 0,v]=some (.undef,a0::.box (some 4) v::a2::a3::a4::e):=fun _ _ _ _=>by
   grind [zH,astore]
  have hfr:∀(a0 a1 a2 a3 a4:AObj),Am.frozen (canT t).av v (a0::a1::a2::a3::a4::e):=fun a0 a1 a2 a3 a4=>by
   obtain⟨H2,k⟩:=h6 (a0::a1::a2::a3::a4::e) fun j hj=>by
    match j,hj with
    |j+5,_=>rfl
   exact G3 h3 h4 k
  simp -dsimp -implicitDefEqProofs only[go_sem,seval,Tm.av,h1,h2,hst,hmk,zD (Za _)];exact hfr _ _ _ _ _
 ·rw[Zb hv];have hv':t.valid=false:=by grind
  rw[hv'] at h1;simp only[Tm.av] at h1;simp -dsimp -implicitDefEqProofs only[go_sem,seval,Tm.av,h1,zD (Za _),zt];exact⟨_,rfl⟩
theorem OB{t:Tm}(h:t.valid=true):(canT t).size=t.size:=Jp t (valid_fits h)
theorem OC:yes (y3 [] (find tab) prim 60 .fn 143 [.pv none (.sl (some 5) [])] [])=true:=by kernel_rfl
theorem OE(hp:Heap):S 143 [.pv none (.sl (some 5) [])] hp=some (.ret (P5 true),hp):=
 X7 (ps:=[(none,.sl (some 5) [])]) rfl rfl rfl rfl (Ji .nil 60 _ _ _ _ _ (G0 OC))
theorem punil(a b:Tm)(va:a.valid=true)(vb:b.valid=true):
  S 124 [.pv none (.sl (some 5) []),a.av,b.av] []=some (.ret (.tuple [.pv none (.sl (some 5) (bds (uni 1048576 [] [(a,b)]).1)),.pv none (.int .i64 (uni 1048576 [] [(a,b)]).2)]),[]):=by
 refine gd rfl rfl rfl (zK [(none,.sl (some 5) []),(some 4,a.pv),(some 4,b.pv)]) rfl rfl ?_;have h1:=OE;have h2:=fun hp=>YR a hp (fit9 va);have h3:=fun hp=>YR b hp (fit9 vb);simp only[Tm.av] at h2 h3;have hal:∀a0 a1:AObj,yQ none (.tsl (some 5) []) [a0,a1] []=some (.ptr 2 0,[a0,a1,.box none (.sl (some 5) 3 0 0 0),.arr (some 5) [] false]):=fun _ _=>rfl;obtain⟨H5,hH5⟩:∃H5:Heap,H5=[.box (some 4) (.pv (some 4) a.pv),.box (some 4) (.pv (some 4) b.pv),.box none (.sl (some 5) 3 0 0 0),.arr (some 5) [] false,.box none (P4 0)]:=⟨_,rfl⟩;have hb5:Bq H5:=by
  rw[hH5];exact Bq.cons (yG a) (Bq.cons (yG b) (Bq.cons rfl (Bq.cons rfl (Bq.cons rfl Bq.nil))))
 have hcn:=Ok [] okb_nil.good (by simp) H5 hb5;obtain⟨res,hp',hrun,hP⟩:=On [] a b okb_nil (by simp) va vb (H5++[.arr (some 5) [] false,.arr (some 5) [] false,.box (some 1) .undef]) (hb5.app (Bq.cons rfl (Bq.cons rfl (Bq.cons rfl Bq.nil)))) 7 6 (by grind) (by grind) (by decide);have hU:∀l,US (H5++[.arr (some 5) [] false,.arr (some 5) [] false,.box (some 1) .undef]) 7 6 l=[.box (some 4) (.pv (some 4) a.pv),.box (some 4) (.pv (some 4) b.pv),.box none (.sl (some 5) 3 0 0 0),.arr (some 5) [] false,.box none (P4 0),.arr (some 5) [] false,.arr (some 5) (bds l) false,.box (some 1) (.agg [(none,.sl (some 5) 6 l.length 0 l.length)])]:=fun l=>by rw[hH5];rfl
 have hb0:bds []=[]:=rfl;rw[hH5,hb0] at hcn;rw[hU,hb0] at hrun;simp only[Tm.av,Zq,Zu,Z5,List.length_nil] at hrun hcn;have hbu:zQ [(none,.tsl (some 5) [])] [0] [.sl (some 5) 6 0 0 0]=some (.agg [(none,.sl (some 5) 6 0 0 0)]):=rfl;have hpan:∀A:Prop,panK true A=A:=fun _=>rfl;rcases hP with⟨l',he,rfl,rfl⟩|⟨e,l',he,rfl,rfl⟩
 ·rw[hU] at hrun;rw[he];simp -dsimp -implicitDefEqProofs only[go_sem,seval,Tm.av,hal,h1,h2,h3,va,vb,hcn,hbu,hrun,zF,xy,yY (Za _),z6,Jo,jP,jQ,jR,hpan];refine⟨rfl,144,[],[.ptr 2 0,.ptr 4 0],rfl,_,_,_,Oo _ _ _ _ _ _,rfl,?_⟩;refine⟨[.box (some 4) (.pv (some 4) a.pv),.box (some 4) (.pv (some 4) b.pv),.box none (.sl (some 5) 6 l'.length 0 l'.length),.arr (some 5) [] false,.box none (P4 0),.arr (some 5) [] false,.arr (some 5) (bds l') true,.box (some 1) (.agg [(none,.sl (some 5) 6 l'.length 0 l'.length)])],?_⟩;simp[AV.freezeRes,zZ,AV.freeze,deep,Xu,pvs,AV.shp]
 ·rw[hU] at hrun;rw[he];simp -dsimp -implicitDefEqProofs only[go_sem,seval,Tm.av,hal,h1,h2,h3,va,vb,hcn,hbu,hrun,zF,xy,yY (Za _),z6,Jo,jP,jQ,jR,hpan];refine⟨rfl,144,[],[.ptr 2 0,.ptr 4 0],rfl,_,_,_,Oq _ _ _ _ _ _ _,rfl,?_⟩;exact⟨_,rfl⟩
theorem OF(a b:Tm)(va:a.valid=true)(vb:b.valid=true)(hp:Heap):S 124 [.tsl (some 5) [],a.av,b.av] hp=some (.ret (.tuple [.pv none (.sl (some 5) (bds (uni 1048576 [] [(a,b)]).1)),.pv none (.int .i64 (uni 1048576 [] [(a,b)]).2)]),hp):=
 X7 (ps:=[(none,.sl (some 5) []),(some 4,a.pv),(some 4,b.pv)]) rfl rfl rfl rfl (punil a b va vb)
theorem BP(d:Int):∀t:Tm,(shT d t).size<=t.size:=by
 intro t
 induction t using Tm.zAH with
 |h t ih=>
  have hl:∀l:List Tm,(∀u∈l,u∈t.args)->Tm.sizes (shTs d l)<=Tm.sizes l:=by
   intro l
   induction l with
   |nil=>intro _;exact Zc _
   |cons x r ihr=>
    intro h;have h1:=ih x (h x (by simp));have h2:=ihr fun u hu=>h u (by simp[hu]);show(shT d x).size+Tm.sizes (shTs d r)<=x.size+Tm.sizes r;omega
  have:=hl t.args fun _ h=>h;rw[vl,t.size_eq];split
  ·show 1+0<=_;omega
  ·show 1+Tm.sizes (shTs d t.args)<=_;omega
theorem JL{t:Tm}(h:t.valid=true):t.name.length<=100/\t.args.length<=8:=by
 have h:=valid_fits h
 grind [Tm.zAO,Tm.node]
def y6(g:Tm):Int:=((vads [] g.occ).length:Int)
theorem OG{d:Dbs}(hv:okD d=true){s:List UInt8}{a:Int}{p:Prc}(hf:Y3 d s a=some p):p.cls.length<=500:=by
 simp only[okD,Zk,ZN] at hv;have h4:=hv.2.2.2.1;unfold Y3 at hf;split at hf
 ·split at hf
  ·have:=y5 (Zh hf);omega
  grind
 grind
theorem Kq(t:Tm)(hv:t.valid=true)(hk:t.kind=0)(hp:Heap):S 139 [t.av] hp=some (.ret (.tuple [instT.av,P5 false]),hp):=by
 refine zM rfl rfl rfl (zK [(some 4,t.pv)]) rfl ?_;have h1:=fun hp=>YR t hp (by grind [valid_size]);have h2:=fun hp=>VW hp;have hz0:=P0;rw[hv] at h1;simp only[Tm.av] at h1 h2;simp -dsimp -implicitDefEqProofs only[go_sem,seval,Tm.av,zJ,h1,h2,hk,hz0,zD (Za _),zF];exact⟨_,rfl⟩
def BalT(b:Tm):Prop:=b.valid=true/\b.kind=3
theorem QU{nm:List UInt8}(hn:nm.length<=100){t:Tm}(hv:t.valid=true):BalT (typT nm t):=⟨(jZ hn hv).2,rfl⟩
theorem qr:BalT instT:=⟨VV,rfl⟩
theorem OH(t:Tm)(hv:t.valid=true):(∃b,BalT b/\∀hp,S 153 [t.av] hp=some (.ret (.tuple [P6 [],b.av,P5 false]),hp))\/(∀hp,S 153 [t.av] hp=some (.ret (.tuple [P6 t.name,zt.av,P5 true]),hp)):=by
 have hz0:=P0;by_cases k0:t.kind=0
 ·refine .inl ⟨instT,qr,fun hp=> ?_⟩;refine zM rfl rfl rfl (zK [(some 4,t.pv)]) rfl ?_;have h1:=Kq t hv k0;simp only[Tm.av] at h1;simp -dsimp -implicitDefEqProofs only[go_sem,seval,Tm.av,h1,hz0,zD (Za _),zF];exact⟨_,rfl⟩
 have h1:=Jx t hv k0;simp only[Tm.av] at h1;by_cases k2:t.kind=2
 ·refine .inr fun hp=> ?_;refine zM rfl rfl rfl (zK [(some 4,t.pv)]) rfl ?_;simp -dsimp -implicitDefEqProofs only[go_sem,seval,Tm.av,h1,zJ,zN,k2,hz0,zD (Za _),zF];exact⟨_,rfl⟩
 ·refine .inl ⟨typT [97,116,111,109] t,QU (by decide) hv,fun hp=> ?_⟩;refine zM rfl rfl rfl (zK [(some 4,t.pv)]) rfl ?_;have h2:=fun hp=>xC [97,116,111,109] (by decide) t hv hp;simp only[Tm.av] at h2;simp -dsimp -implicitDefEqProofs only[go_sem,seval,Tm.av,h1,h2,zJ,Zg k2,hz0,zD (Za _),zF];exact⟨_,rfl⟩
theorem BQ(t:Tm)(hv:t.valid=true):(∃b,BalT b/\∀hp,S 125 [t.av] hp=some (.ret (.tuple [P4 0,b.av,P5 false]),hp))\/(∀hp,S 125 [t.av] hp=some (.ret (.tuple [P4 t.n,zt.av,P5 true]),hp)):=by
 have hz0:=P0;by_cases k0:t.kind=0
 ·refine .inl ⟨instT,qr,fun hp=> ?_⟩;refine zM rfl rfl rfl (zK [(some 4,t.pv)]) rfl ?_;have h1:=Kq t hv k0;simp only[Tm.av] at h1;simp -dsimp -implicitDefEqProofs only[go_sem,seval,Tm.av,h1,hz0,zD (Za _),zF];exact⟨_,rfl⟩
 have h1:=Jx t hv k0;simp only[Tm.av] at h1;by_cases k1:t.kind=1
 ·refine .inr fun hp=> ?_;refine zM rfl rfl rfl (zK [(some 4,t.pv)]) rfl ?_;simp -dsimp -implicitDefEqProofs only[go_sem,seval,Tm.av,h1,zJ,Yf,k1,hz0,zD (Za _),zF];exact⟨_,rfl⟩
 ·refine .inl ⟨typT [105,110,116,101,103,101,114] t,QU (by decide) hv,fun hp=> ?_⟩;refine zM rfl rfl rfl (zK [(some 4,t.pv)]) rfl ?_;have h2:=fun hp=>xC [105,110,116,101,103,101,114] (by decide) t hv hp;simp only[Tm.av] at h2;simp -dsimp -implicitDefEqProofs only[go_sem,seval,Tm.av,h1,h2,zJ,Zg k1,hz0,zD (Za _),zF];exact⟨_,rfl⟩
def clbN:List UInt8:=[99,97,108,108,97,98,108,101]
theorem OI(t:Tm)(hv:t.valid=true):(∃b,BalT b/\∀hp,S 118 [t.av] hp=some (.ret (.tuple [b.av,P5 false]),hp))\/(t.kind≠0/\t.kind≠1/\∀hp,S 118 [t.av] hp=some (.ret (.tuple [zt.av,P5 true]),hp)):=by
 have hz0:=P0;by_cases k0:t.kind=0
 ·refine .inl ⟨instT,qr,fun hp=> ?_⟩;refine zM rfl rfl rfl (zK [(some 4,t.pv)]) rfl ?_;have h1:=Kq t hv k0;simp only[Tm.av] at h1;simp -dsimp -implicitDefEqProofs only[go_sem,seval,Tm.av,h1,hz0,zD (Za _),zF];exact⟨_,rfl⟩
 by_cases k1:t.kind=1
 ·refine .inl ⟨typT clbN t,QU (by decide) hv,fun hp=> ?_⟩;refine zM rfl rfl rfl (zK [(some 4,t.pv)]) rfl ?_;have h1:=Jx t hv k0;have h2:=fun hp=>xC clbN (by decide) t hv hp;simp only[Tm.av,clbN] at h1 h2;simp -dsimp -implicitDefEqProofs only[go_sem,seval,Tm.av,clbN,h1,h2,zJ,k1,hz0,zD (Za _),zF];exact⟨_,rfl⟩
 grind [nB]
def piN:List UInt8:=[112,114,101,100,105,99,97,116,101,95,105,110,100,105,99,97,116,111,114]
theorem QV(H:Heap)(v:AV)(w:Nat)(sh s:Sh)(e:PV)(f:Nat):YV sh 0 H [.ptr 3 0,v,.ptr 0 w,.iptr s e f]=zH sh 0 H [.ptr 3 0,v]:=by simp[YV,zH,XB]
theorem OJ(t:Tm)(hv:t.valid=true):(∃b,BalT b/\∀hp,S 135 [t.av] hp=some (.ret (.tuple [P6 [],P4 0,b.av,P5 false]),hp))\/(∃nm:List UInt8,∃k:Int,nm.length<=100/\0<=k/\k<=8/\∀hp,S 135 [t.av] hp=some (.ret (.tuple [P6 nm,P4 k,zt.av,P5 true]),hp)):=by
 have hz0:=P0;have h7:=fun hp=>VW hp;simp only[Tm.av] at h7;by_cases k0:t.kind=0
 ·refine .inl ⟨instT,qr,fun hp=> ?_⟩;refine zM rfl rfl rfl (zK [(some 4,t.pv)]) rfl ?_;have h1:=Kq t hv k0;simp only[Tm.av] at h1;simp -dsimp -implicitDefEqProofs only[go_sem,seval,Tm.av,h1,hz0,zD (Za _),zF];exact⟨_,rfl⟩
 have h1:=Jx t hv k0;simp only[Tm.av] at h1;by_cases hs:t.kind=3/\t.name=[47]/\t.args.length=2
 ·obtain⟨k3,hn,hl⟩:=hs;obtain⟨x,y,hxy⟩:∃x y,t.args=[x,y]:=by
   match h:t.args,hl with
   |[x,y],_=>grind
  have vx:x.valid=true:=YS hv (by grind);have vy:y.valid=true:=YS hv (by grind);have q3:PV.part deep t.pv 3 none=some (.sl (some 4) [x.pv,y.pv]):=by rw[zL,hxy];rfl
  have q2:PV.part deep t.pv 2 none=some (.str [47]):=by rw[zN,hn]
  have q0:PV.part deep t.pv 0 none=some (.int .i64 3):=by rw[zJ,k3]
  have ql:([x.pv,y.pv].length:Int)=2:=rfl;have i0:∀s kk,zX (some 4) [.pv s (.sl (some 4) [x.pv,y.pv]),.pv none (.int kk 0)]=some (.iptr (some 4) x.pv 0):=fun _ _=>rfl;have i1:∀s kk,zX (some 4) [.pv s (.sl (some 4) [x.pv,y.pv]),.pv none (.int kk 1)]=some (.iptr (some 4) y.pv 0):=fun _ _=>rfl;by_cases x0:x.kind=0
  ·refine .inl ⟨instT,qr,fun hp=> ?_⟩;refine zM rfl rfl rfl (zK [(some 4,t.pv)]) rfl ?_;simp -dsimp -implicitDefEqProofs only[go_sem,seval,Tm.av,h1,h7,q0,q2,q3,ql,i0,i1,zJ,x0,QV,hz0,zD (Za _),zF];exact⟨_,rfl⟩
  by_cases y0:y.kind=0
  ·refine .inl ⟨instT,qr,fun hp=> ?_⟩;refine zM rfl rfl rfl (zK [(some 4,t.pv)]) rfl ?_;simp -dsimp -implicitDefEqProofs only[go_sem,seval,Tm.av,h1,h7,q0,q2,q3,ql,i0,i1,zJ,Zg x0,y0,QV,hz0,zD (Za _),zF];exact⟨_,rfl⟩
  rcases OH x vx with⟨b,hb,h2⟩|h2
  ·refine .inl ⟨b,hb,fun hp=> ?_⟩;refine zM rfl rfl rfl (zK [(some 4,t.pv)]) rfl ?_;simp only[Tm.av] at h2;simp -dsimp -implicitDefEqProofs only[go_sem,seval,Tm.av,h1,h2,q0,q2,q3,ql,i0,i1,zJ,Zg x0,Zg y0,QV,hz0,zD (Za _),zF];exact⟨_,rfl⟩
  rcases BQ y vy with⟨b,hb,h3⟩|h3
  ·refine .inl ⟨b,hb,fun hp=> ?_⟩;refine zM rfl rfl rfl (zK [(some 4,t.pv)]) rfl ?_;simp only[Tm.av] at h2 h3;simp -dsimp -implicitDefEqProofs only[go_sem,seval,Tm.av,h1,h2,h3,q0,q2,q3,ql,i0,i1,zJ,Zg x0,Zg y0,QV,hz0,zD (Za _),zF];exact⟨_,rfl⟩
  by_cases c1:y.n<0
  ·have h4:=fun hp=>N8 negN (by decide) y vy hp;refine .inl ⟨domT negN y,⟨(Jw (by decide) (by decide) (by decide) vy).2,rfl⟩,fun hp=> ?_⟩;refine zM rfl rfl rfl (zK [(some 4,t.pv)]) rfl ?_;simp only[Tm.av,negN] at h2 h3 h4;simp -dsimp -implicitDefEqProofs only[go_sem,seval,Tm.av,negN,h1,h2,h3,h4,q0,q2,q3,ql,i0,i1,zJ,Zg x0,Zg y0,c1,QV,hz0,zD (Za _),zF];exact⟨_,rfl⟩
  by_cases c2:8<y.n
  ·have h4:=fun hp=>na maxN (by decide) hp;refine .inl ⟨repT maxN,⟨(Be (by decide)).2,rfl⟩,fun hp=> ?_⟩;refine zM rfl rfl rfl (zK [(some 4,t.pv)]) rfl ?_;simp only[Tm.av,maxN] at h2 h3 h4;simp -dsimp -implicitDefEqProofs only[go_sem,seval,Tm.av,maxN,h1,h2,h3,h4,q0,q2,q3,ql,i0,i1,zJ,Zg x0,Zg y0,c1,c2,QV,hz0,zD (Za _),zF];exact⟨_,rfl⟩
  ·refine .inr ⟨x.name,y.n,(JL vx).1,by omega,by omega,fun hp=> ?_⟩;have w1:IntKind.i64.wrap y.n=y.n:=zU (by omega) (by omega);refine zM rfl rfl rfl (zK [(some 4,t.pv)]) rfl ?_;simp only[Tm.av] at h2 h3;simp -dsimp -implicitDefEqProofs only[go_sem,seval,Tm.av,h1,h2,h3,q0,q2,q3,ql,i0,i1,zJ,Zg x0,Zg y0,c1,c2,w1,QV,hz0,zD (Za _),zF];exact⟨_,rfl⟩
 ·refine .inl ⟨typT piN t,QU (by decide) hv,fun hp=> ?_⟩;refine zM rfl rfl rfl (zK [(some 4,t.pv)]) rfl ?_;have h2:=fun hp=>xC piN (by decide) t hv hp;simp only[Tm.av,piN] at h2;by_cases k3:t.kind=3
  ·by_cases hn:t.name=[47]
   ·have hl:¬(t.args.length:Int)=2:=fun e=>hs ⟨k3,hn,by omega⟩;simp -dsimp -implicitDefEqProofs only[go_sem,seval,Tm.av,piN,h1,h2,zJ,zN,zL,Tm.pvs_len,k3,hn,Zg hl,hz0,zD (Za _),zF];exact⟨_,rfl⟩
   ·simp -dsimp -implicitDefEqProofs only[go_sem,seval,Tm.av,piN,h1,h2,zJ,zN,zL,Tm.pvs_len,k3,Zg hn,hz0,zD (Za _),zF];exact⟨_,rfl⟩
  ·simp -dsimp -implicitDefEqProofs only[go_sem,seval,Tm.av,piN,h1,h2,zJ,zN,zL,Tm.pvs_len,Zg k3,hz0,zD (Za _),zF];exact⟨_,rfl⟩
theorem BR(t:Tm)(hv:t.valid=true):(∃b,BalT b/\∀hp,S 113 [t.av] hp=some (.panic (XM b),hp))\/(∃nm:List UInt8,∃k:Int,nm.length<=100/\0<=k/\k<=8/\∀hp,S 113 [t.av] hp=some (.ret (.tuple [P6 nm,P4 k]),hp)):=by
 have hpan:∀A:Prop,panK true A=A:=fun _=>rfl;rcases OJ t hv with⟨b,hb,h1⟩|⟨nm,k,hn,h0,h8,h1⟩
 ·refine .inl ⟨b,hb,fun hp=> ?_⟩;refine qh rfl rfl rfl (zK [(some 4,t.pv)]) rfl ?_;have h2:=fun hp=>xE b hp;simp only[Tm.av] at h1 h2;simp -dsimp -implicitDefEqProofs only[go_sem,seval,Tm.av,h1,h2,hpan,zD (Za _),zF]
  try rfl
 ·refine .inr ⟨nm,k,hn,h0,h8,fun hp=> ?_⟩;refine zM rfl rfl rfl (zK [(some 4,t.pv)]) rfl ?_;simp only[Tm.av] at h1;simp -dsimp -implicitDefEqProofs only[go_sem,seval,Tm.av,h1,zD (Za _),zF]
  try rfl
abbrev slT(q n k:Nat):AV:=.sl (some 4) q (n+k) 0 n
theorem BS(d:Dbs)(g:Tm)(q n k:Nat):AObj.beq (.box (some 7) (cB d g (slT q n k))) (.box (some 7) (cB d g (slT q n k)))=true:=by
 simp[cB,AObj.beq,AV.beq,AV.beqc,xB,Dbs.pv,PV.beq,PV.beqc,V0]
theorem OK(d:Dbs)(g:Tm)(h0:0<g.args.length)(h8:g.args.length<=8)(L fs:List Tm)(tl:List PV)(htl:tl.length<=1)(hL:L.length<1000)(hf:fs.length<=g.args.length)(hp:Heap)(r q:Nat)(hr:hp[r]? =some (.box (some 7) (cB d g (slT q L.length tl.length))))(hq:hp[q]? =some (.arr (some 4) (Tm.pvs L++tl) false))(fv:AV)(hs:∀X,elems (hp++X) fv=some (some 4,Tm.pvs fs)):
  S 117 [.ptr r 0,fv] hp=some (.ret (.tuple []),(hp.set q (.arr (some 4) (Tm.pvs (L++[ansT g fs])) false)).set r (.box (some 7) (cB d g (slA q (L.length+1))))):=by
 refine Yj rfl rfl rfl rfl ?_;have h1:=fun hp=>nz (Tm.pvs g.args) (by grind [Tm.pvs_len]) (by grind [Tm.pvs_len]) hp;have hlr:=YZ hr;have hlq:=YZ hq;have hr':∀X,(hp++X)[r]? =some (.box (some 7) (cB d g (slT q L.length tl.length))):=fun X=>by grind
 have hsb:zQ A0 [0,2,3] [P4 g.kind,P6 g.name,.sl (some 4) (hp.length+1) g.args.length 0 g.args.length]=some (.agg [(none,P4 g.kind),(none,P4 0),(none,P6 g.name),(none,.sl (some 4) (hp.length+1) g.args.length 0 g.args.length)]):=rfl;have hsp:∀X k,Yy hp (hp++X) (.ptr r k)=true:=fun X k=>by simp_all[Yy,BS]
 have hA:Tm.pvs (fs++g.args.drop fs.length)=Tm.pvs fs++(Tm.pvs g.args).drop fs.length:=by simp[Tm.zAT]
 have hal:(fs++g.args.drop fs.length).length=g.args.length:=by grind
 have hcp:∀x0 x2 x3:AObj,XO (some 4) (hp++[x0,.arr (some 4) (Tm.pvs g.args) false,x2,x3]) [.sl (some 4) (hp.length+1) g.args.length 0 g.args.length,fv]=some (P4 (Nat.min g.args.length fs.length),hp++[x0,.arr (some 4) (Tm.pvs (fs++g.args.drop fs.length)) false,x2,x3]):=fun x0 x2 x3=>by
  simp_all[XO,Tm.pvs_len,Zl]
 have hfz:∀x0 x3:AObj,∀x2,AV.freeze deep (.agg [(none,P4 g.kind),(none,P4 0),(none,P6 g.name),(none,.sl (some 4) (hp.length+1) g.args.length 0 g.args.length)]) (hp++[x0,.arr (some 4) (Tm.pvs (fs++g.args.drop fs.length)) false,x2,x3])=some ((ansT g fs).pv,hp++[x0,.arr (some 4) (Tm.pvs (fs++g.args.drop fs.length)) true,x2,x3]):=fun x0 x3 x2=>by
  have e:=P1
  show AV.freeze (7+1) (.agg _) _=_;simp[e,AV.freeze.go,AV.freeze,getN rfl,setN rfl,Tm.pvs_len,hal];rfl
 have hst:∀(x0 x3:AObj) (fr:Fr),jB [] ⟨fr,hp++[x0,.arr (some 4) (Tm.pvs (fs++g.args.drop fs.length)) false,.box (some 4) (.agg [(none,P4 g.kind),(none,P4 0),(none,P6 g.name),(none,.sl (some 4) (hp.length+1) g.args.length 0 g.args.length)]),x3]⟩ (hp.length+2) (some (.box (some 4) (.agg [(none,P4 g.kind),(none,P4 0),(none,P6 g.name),(none,.sl (some 4) (hp.length+1) g.args.length 0 g.args.length)])))=some ⟨fr,hp++[x0,.arr (some 4) (Tm.pvs (fs++g.args.drop fs.length)) true,.box (some 4) (.pv (some 4) (ansT g fs).pv),x3]⟩:=fun x0 x3 fr=>by
  simp[jB,hfz,setN rfl];rfl
 obtain⟨z,hz⟩:∃z:PV,z=.agg [(none,.int .i64 0),(none,.int .i64 0),(none,.str []),(none,.sl (some 4) [])]:=⟨_,rfl⟩;have hbs:∀H:Heap,YW (some 4) H [.agg A0]=some (.tsl (some 4) [z],H):=fun H=>by
  have e:=P1
  have e2:AV.freeze deep (.agg A0) H=some (z,H):=by
   show AV.freeze (7+1) (.agg _) _=_;simp_all[AV.freeze.go,AV.freeze]
  simp_all[YW,zZ,AV.shp,total,Sh.size,YG]
 have hsp2:∀(X:Heap) (k:Nat),Yy (hp++X) (hp++X) (.ptr r k)=true:=fun X k=>by simp[Yy,hr',BS]
 have hsp3:∀(x0 x1 x3:AObj),Yy (hp++[x0,x1,.box (some 4) (.pv (some 4) (ansT g fs).pv),x3]) (hp++[x0,x1,.box (some 4) (.pv (some 4) (ansT g fs).pv),x3]) (.ptr (hp.length+2) 0)=true:=fun x0 x1 x3=>by grind [Yy,getN,AObj.beq,AV.beq,xB]
 have hlim:L.length+1<=lim:=by grind [lim]
 have hrq:r≠q:=fun e=>by grind
 have happ:∀X:Heap,z8 (some 4) (hp++X) [.sl (some 4) q (L.length+tl.length) 0 L.length,.tsl (some 4) [z]]=some (.sl (some 4) q (L.length+1) 0 (L.length+1),hp.set q (.arr (some 4) (Tm.pvs L++[z]) false)++X):=fun X=>by
  have e1:(hp++X)[q]? =some (.arr (some 4) (Tm.pvs L++tl) false):=by grind
  match tl,htl with
  |[],_=>
   grind [z8,aappend,elems,Tm.pvs_len]
  |[y],_=>
   grind [Tm.pvs_len,z8,aappend,elems]
 have hia:zX (some 4) [.sl (some 4) q (L.length+1) 0 (L.length+1),P4 (L.length:Int)]=some (.eptr (some 4) q (L.length+1) L.length 0):=by
  grind [xZ]
 have hw1:∀X:Heap,zH (some 4) hp.length (hp.set q (.arr (some 4) (Tm.pvs L++[z]) false)++X) [.eptr (some 4) q (L.length+1) L.length 0,.pv (some 4) (ansT g fs).pv]=some (.undef,hp.set q (.arr (some 4) (Tm.pvs (L++[ansT g fs])) false)++X):=fun X=>by
  have e:∀H,AV.freeze deep (.pv (some 4) (ansT g fs).pv) H=some ((ansT g fs).pv,H):=fun _=>rfl;have e1:(hp.set q (.arr (some 4) (Tm.pvs L++[z]) false)++X)[q]? =some (.arr (some 4) (Tm.pvs L++[z]) false):=by grind
  have e2:Tm.pvs (L++[ansT g fs])=Tm.pvs L++[(ansT g fs).pv]:=by simp[Tm.zAT]
  have e3:(Tm.pvs L++[z]).set L.length (ansT g fs).pv=Tm.pvs L++[(ansT g fs).pv]:=by
   simp_all[Tm.pvs_len]
  simp_all[zH,astore,AV.shp,Tm.pvs_len]
 have hw2:∀(X:Heap) (i:Nat),xk none hp.length (hp.set q (.arr (some 4) (Tm.pvs (L++[ansT g fs])) false)++X) [.ptr r 6,.sl (some 4) q (L.length+1) 0 (L.length+1),.eptr (some 4) q (L.length+1) i 0,.pv (some 4) (ansT g fs).pv]=some (.undef,(hp.set q (.arr (some 4) (Tm.pvs (L++[ansT g fs])) false)).set r (.box (some 7) (cB d g (slA q (L.length+1))))++X):=fun X i=>by
  have hu:AV.upd deep (cB d g (slT q L.length tl.length)) 6 none (.sl (some 4) q (L.length+1) 0 (L.length+1))=some (cB d g (slA q (L.length+1))):=rfl;have hm:q∈(cB d g (slT q L.length tl.length)).refsIn:=by simp[cB,AV.refsIn,AV.refsIn.go]
  have hb':¬hp.length<=r:=by omega
  have e1:(hp.set q (.arr (some 4) (Tm.pvs (L++[ansT g fs])) false)++X)[r]? =some (.box (some 7) (cB d g (slT q L.length tl.length))):=by grind
  grind [xk,astore,AV.plain,AV.shp,AV.refsIn]
 simp -dsimp -implicitDefEqProofs only[go_sem,seval,z6,hr,hr',Kc,nA,V1,YK,h1,hsb,hsp,hcp,hst,hbs,hsp2,hsp3,happ,hia,hw1,hw2,Tm.pvs_len,gv,Qb,ny,ZE,ZX,ZR,ZS,zF,zD (Zd _ _)]
 grind
def AT(hp:Heap)(r:Nat)(d:Dbs)(g:Tm)(L:List Tm)(tl:List PV):Heap:=(hp.set r (.box (some 7) (cB d g (slT (r+1) L.length tl.length)))).set (r+1) (.arr (some 4) (Tm.pvs L++tl) false)
section
variable{hp:Heap} {r:Nat} {d:Dbs} {g:Tm}
theorem Xw(L:List Tm)(tl:List PV):(AT hp r d g L tl).length=hp.length:=by simp[AT]
theorem at_r(hl:r+1<hp.length)(L:List Tm)(tl:List PV)(X:Heap):(AT hp r d g L tl++X)[r]? =some (.box (some 7) (cB d g (slT (r+1) L.length tl.length))):=by
 grind [AT]
theorem at_q(hl:r+1<hp.length)(L:List Tm)(tl:List PV)(X:Heap):(AT hp r d g L tl++X)[r+1]? =some (.arr (some 4) (Tm.pvs L++tl) false):=by
 grind [AT]
theorem BT(hl:r+1<hp.length)(L L':List Tm)(tl tl':List PV)(X:Heap):((AT hp r d g L tl++X).set (r+1) (.arr (some 4) (Tm.pvs L'++tl') false)).set r (.box (some 7) (cB d g (slT (r+1) L'.length tl'.length)))=AT hp r d g L' tl'++X:=by
 rw[List.set_append_left _ _ (by grind [Xw]),List.set_append_left _ _ (by grind [Xw])]
 congr 1
 refine Z4 fun j=> ?_
 grind [AT]
theorem BU(h0:0<g.args.length)(h8:g.args.length<=8)(hl:r+1<hp.length)(L fs:List Tm)(tl:List PV)(htl:tl.length<=1)(hL:L.length<1000)(hf:fs.length<=g.args.length)(X:Heap)(fv:AV)(hs:∀Y,elems (AT hp r d g L tl++(X++Y)) fv=some (some 4,Tm.pvs fs)):
  S 117 [.ptr r 0,fv] (AT hp r d g L tl++X)=some (.ret (.tuple []),AT hp r d g (L++[ansT g fs]) []++X):=by
 have h:=OK d g h0 h8 L fs tl htl hL hf (AT hp r d g L tl++X) r (r+1) (at_r hl L tl X) (at_q hl L tl X) fv (fun Y=>by grind);rw[h,<-BT hl L (L++[ansT g fs]) tl [] X];simp
theorem OL{s:Nat}{X:Heap}{es:List PV}{n:Nat}(hn:es.length=n)(hs:X[s]? =some (.arr (some 4) es false))(L:List Tm)(tl:List PV)(Y:Heap):elems (AT hp r d g L tl++(X++Y)) (.sl (some 4) (hp.length+s) n 0 n)=some (some 4,es):=by
 grind [Xw,elems]
theorem BV(hr:hp[r]? =some (.box (some 7) (cB d g (slA (r+1) 0))))(hq:hp[r+1]? =some (.arr (some 4) [] false)):AT hp r d g [] []=hp:=by
 show(hp.set r (.box (some 7) (cB d g (slA (r+1) 0)))).set (r+1) (.arr (some 4) [] false)=hp
 grind [Qd]
end
theorem OM{l:List Sto}{id:Int}{k:Nat}(h:idS l id=some k):∃s,l[k]? =some s/\s.id=id:=by
 grind [idS,List.findIdx?_eq_some_iff_getElem]
theorem vq{id:Int}:∀{l:List Prc} {i k:Nat},whR l id=some (i,k)->∃p s,l[i]? =some p/\p.cls[k]? =some s/\s.id=id
 |[],i,k,h=>by cases h
 |x::r,i,k,h=>by
  rw[whR] at h;split at h
  ·grind [OM]
  ·split at h
   ·rename_i y hy;cases h;obtain⟨p,s,h1,h2,h3⟩:=vq (i:=y.1) (k:=y.2) hy
    grind
   grind
theorem ON(H:Heap)(q:Nat)(es:List PV)(k n:Nat)(hk:k<n)(he:es.length=n)(hn:n<=500)(hg:H[q]? =some (.arr (some 9) es false)):S 63 [.sl (some 9) q n 0 n,P4 (k:Int),P4 ((k:Int)+1)] H=some (.ret (.sl (some 9) q n 0 (n - 1)),H.set q (.arr (some 9) (es.take k++(es.drop (k+1)++[zS])) false)):=by
 refine Yj rfl rfl rfl rfl ?_;have hq:=YZ hg;have h0:((k:Int)=(k:Int)+1)=False:=by grind
 have hL:∀m:Nat,sLen [.sl (some 9) q n 0 m]=some (P4 (m:Int)):=fun m=>rfl;have h3:y7 (some 9) true [.sl (some 9) q n 0 n,P4 (k:Int),P4 ((k:Int)+1),P4 (n:Int)]=some .undef:=by
  grind [y7]
 have s1:YE (some 9) false true [.sl (some 9) q n 0 n,P4 (k:Int)]=some (.sl (some 9) q n 0 k):=by
  grind [YE,aslice]
 have s2:YE (some 9) true false [.sl (some 9) q n 0 n,P4 ((k:Int)+1)]=some (.sl (some 9) q n (k+1) (n - (k+1))):=by
  grind [YE,aslice]
 have s3:YE (some 9) true true [.sl (some 9) q n 0 (n - 1),P4 ((n - 1:Nat):Int),P4 (n:Int)]=some (.sl (some 9) q n (n - 1) 1):=by
  grind [YE,aslice]
 have hset:∀o:AObj,(H++[AObj.arr (some 9) [] false]).set q o=H.set q o++[.arr (some 9) [] false]:=fun o=>List.set_append_left _ _ hq;have hg0:(H++[AObj.arr (some 9) [] false])[q]? =some (.arr (some 9) es false):=by grind
 have hel:elems (H++[.arr (some 9) [] false]) (.sl (some 9) q n (k+1) (n - (k+1)))=some (some 9,es.drop (k+1)):=by
  grind [elems,Zl]
 have hap:z8 (some 9) (H++[.arr (some 9) [] false]) [.sl (some 9) q n 0 k,.sl (some 9) q n (k+1) (n - (k+1))]=some (.sl (some 9) q n 0 (n - 1),H.set q (.arr (some 9) (es.take k++(es.drop (k+1)++es.drop (n - 1))) false)++[.arr (some 9) [] false]):=by
  grind [lim,z8,aappend]
 have hcl:XQ (some 9) zS (H.set q (.arr (some 9) (es.take k++(es.drop (k+1)++es.drop (n - 1))) false)++[.arr (some 9) [] false]) [.sl (some 9) q n (n - 1) 1]=some (.undef,H.set q (.arr (some 9) (es.take k++(es.drop (k+1)++[zS])) false)++[.arr (some 9) [] false]):=by
  have hg1:(H.set q (.arr (some 9) (es.take k++(es.drop (k+1)++es.drop (n - 1))) false)++[AObj.arr (some 9) [] false])[q]? =some (.arr (some 9) (es.take k++(es.drop (k+1)++es.drop (n - 1))) false):=by
   grind
  have l1:(es.take k++es.drop (k+1)).length=n - 1:=by grind
  have l2:(es.take k++(es.drop (k+1)++es.drop (n - 1))).length=n:=by grind
  have l3:(es.take k++(es.drop (k+1)++es.drop (n - 1))).take (n - 1)=es.take k++es.drop (k+1):=by grind
  have l4:n - 1+1=n:=by omega
  simp_all[List.drop_eq_nil_of_le,XQ]
 simp only[zS] at hcl;have hni:YM (some 9) H=some (.sl (some 9) H.length 0 0 0,H++[.arr (some 9) [] false]):=by simp[YM,X5]
 simp -dsimp -implicitDefEqProofs only[go_sem,seval,hni,h0,hL,h3,s1,s2,s3,hap,hcl]
 grind [AV.refsIn,zS]
theorem BW(d:Dbs)(hb:BndD d)(id:Int)(h:okD d=false\/whR d.procs id=none)(hp:Heap):S 19 [d.av,P4 id] hp=some (.ret (.tuple [Y7.av,P5 false]),hp):=by
 refine zM rfl rfl rfl (zK [(some 2,d.pv),(none,.int .i64 id)]) rfl ?_;have h1:=fun hp=>Y2 d hb.1 hb.2.1 hb.2.2 hp;have hz0:=P2;have hnil:∀H:Heap,zR A3 H=(A3,H):=fun _=>rfl;simp only[Dbs.av] at h1;cases hv:okD d with
 |false=>
  rw[hv] at h1;simp -dsimp -implicitDefEqProofs only[go_sem,seval,Dbs.av,h1,hz0,hnil,zD (Za _)];exact⟨_,rfl⟩
 |true=>
  have hf:whR d.procs id=none:=by
   grind
  have hl5:d.procs.length<=500/\totD d.procs<=500:=by
   grind [okD]
  have h3:=fun hp=>gE d id (by omega) (by omega) hp;simp only[Dbs.av] at h3;rw[hv] at h1;rw[hf] at h3;simp -dsimp -implicitDefEqProofs only[go_sem,seval,Dbs.av,h1,h3,hz0,hnil,zD (Za _)];exact⟨_,rfl⟩
theorem OO(d:Dbs)(hb:BndD d)(id:Int)(hv:okD d=true)(i k:Nat)(hw:whR d.procs id=some (i,k))(p:Prc)(hpp:d.procs[i]? =some p)(hkl:k<p.cls.length)(hp:Heap):S 19 [d.av,P4 id] hp=some (.ret (.tuple [(⟨d.next,d.procs.set i ⟨p.name,p.ar,p.dyn,p.cls.take k++p.cls.drop (k+1)⟩⟩:Dbs).av,P5 true]),hp):=by
 refine zM rfl rfl rfl (zK [(some 2,d.pv),(none,.int .i64 id)]) rfl ?_;have h1:=fun hp=>Y2 d hb.1 hb.2.1 hb.2.2 hp;have hl5:d.procs.length<=500/\totD d.procs<=500:=by
  grind [okD]
 have h3:=fun hp=>gE d id (by omega) (by omega) hp;have h4:∀x0 x1:AObj,S 62 [d.av] [x0,x1]=some (.ret (dA d 4),x0::x1::.box (some 2) (dA d 4)::.box (some 2) (dA d 4)::.arv (some 4) (elsA d.procs 10 d.procs.length)::cEs d.procs 10):=fun x0 x1=>qn d (by omega) (fun q hq=>⟨by have:=y5 hq;omega,xc hv q hq⟩) [x0,x1];have hnil:∀H:Heap,zR A3 H=(A3,H):=fun _=>rfl;have hst:∀(x0:AObj) (v:AV) (X:Heap),zH (some 2) 0 (x0::.box (some 2) v::X) [.ptr 1 0,dA d 4]=some (.undef,x0::.box (some 2) (dA d 4)::X):=fun x0 v X=>by
  simp[zH,astore,dA,AV.plain,AV.shp,AV.own,zR,YI,total,Sh.size]
 simp only[Dbs.av] at h1 h3 h4;rw[hv] at h1;rw[hw] at h3;have hpm:=Zh hpp;have hc5:p.cls.length<=500:=by have:=y5 hpm;omega
 have hil:=(Zf.1 hpp).1;have hge:=Xs (b:=10) hpp;have hpt:AV.part deep (dA d 4) 1 none=some (.slv (some 4) 4 d.procs.length 0 d.procs.length):=rfl;have hia:zX (some 4) [.slv (some 4) 4 d.procs.length 0 d.procs.length,P4 i]=some (.epv (some 4) 4 d.procs.length i 0):=by
  grind [zX,aindex]
 have hfa:yO 3 [.epv (some 4) 4 d.procs.length i 0]=some (.epv (some 4) 4 d.procs.length i 3):=rfl;obtain⟨q,hq⟩:∃q,q=10+6*i:=⟨_,rfl⟩;rw[<-hq] at hge;have hld:∀(x0 x1 x2 x3:AObj) (X:Heap),aload none (x0::x1::x2::x3::.arv (some 4) (elsA d.procs 10 d.procs.length)::X) (.epv (some 4) 4 d.procs.length i 3)=some (.sl (some 9) q p.cls.length 0 p.cls.length):=fun x0 x1 x2 x3 X=>by
  have e:AV.part deep (pA p q) 3 none=some (.sl (some 9) q p.cls.length 0 p.cls.length):=rfl
  grind [aload,YT]
 have hw1:IntKind.i64.wrap ((k:Int)+1)=(k:Int)+1:=by
  grind [zU]
 obtain⟨E,hE⟩:∃E,E=(cEs d.procs 10).set (6*i+5) (.arr (some 9) ((Sto.pvs p.cls).take k++((Sto.pvs p.cls).drop (k+1)++[zS])) false):=⟨_,rfl⟩;have hcg:=xz d.procs 10 i p hpp;have h5:∀(x0 x1 x2 x3 x4:AObj),S 63 [.sl (some 9) q p.cls.length 0 p.cls.length,P4 (k:Int),P4 ((k:Int)+1)] (x0::x1::x2::x3::x4::cEs d.procs 10)=some (.ret (.sl (some 9) q p.cls.length 0 (p.cls.length - 1)),x0::x1::x2::x3::x4::E):=fun x0 x1 x2 x3 x4=>by
  grind [ON,Sto.pvs_len]
 obtain⟨pN,hpN⟩:∃pN:AV,pN=.agg [(none,P6 p.name),(none,P4 p.ar),(none,P5 p.dyn),(none,.sl (some 9) q p.cls.length 0 (p.cls.length - 1))]:=⟨_,rfl⟩;have hse:∀(x0 x1 x2 x3:AObj) (X:Heap),zH none 0 (x0::x1::x2::x3::.arv (some 4) (elsA d.procs 10 d.procs.length)::X) [.epv (some 4) 4 d.procs.length i 3,.sl (some 9) q p.cls.length 0 (p.cls.length - 1)]=some (.undef,x0::x1::x2::x3::.arv (some 4) ((elsA d.procs 10 d.procs.length).set i pN)::X):=fun x0 x1 x2 x3 X=>by
  have e:AV.upd deep (pA p q) 3 none (.sl (some 9) q p.cls.length 0 (p.cls.length - 1))=some pN:=by rw[hpN];rfl
  simp_all[zH,astore,YT,AV.plain,AV.shp]
 have fin:∀(x0 x1 x2 x3:AObj),DbA ⟨d.next,d.procs.set i ⟨p.name,p.ar,p.dyn,p.cls.take k++p.cls.drop (k+1)⟩⟩ (dA d 4) (x0::x1::x2::x3::.arv (some 4) ((elsA d.procs 10 d.procs.length).set i pN)::E):=fun x0 x1 x2 x3=>by
  refine⟨4,d.procs.length,_,d.procs.set i ⟨p.name,p.ar,p.dyn,p.cls.take k++p.cls.drop (k+1)⟩,?_,rfl,by rw[List.length_set,YT],by simp,by simp,by grind,fun j r v hr hv2=> ?_⟩
  ·simp[dA]
  ·by_cases hji:i=j
   ·subst hji;rw[ZC hil] at hr;cases hr;rw[ZC (by grind)] at hv2;cases hv2;rw[hpN];have hl:(p.cls.take k++p.cls.drop (k+1)).length=p.cls.length - 1:=by grind
    have hpvs:Sto.pvs (p.cls.take k++p.cls.drop (k+1))=(Sto.pvs p.cls).take k++(Sto.pvs p.cls).drop (k+1):=by simp[Sto.pvs]
    refine .inr ⟨.sl (some 9) q p.cls.length 0 (p.cls.length - 1),rfl,.inr ⟨q,p.cls.length,(Sto.pvs p.cls).take k++((Sto.pvs p.cls).drop (k+1)++[zS]),false,by rw[hl],?_,?_,by grind,?_⟩⟩
    ·grind
    ·grind [Sto.pvs_len]
    grind [Sto.pvs_len]
   ·rw[zm hji] at hr hv2;rw[Xs hr] at hv2;cases hv2;refine .inr ⟨_,rfl,.inr ⟨10+6*j,r.cls.length,Sto.pvs r.cls,false,rfl,?_,Sto.pvs_len _,Zc _,Zl (by grind [Sto.pvs_len])⟩⟩
    grind [xz]
 have hfr:∀(d':Dbs) (H:Heap),DbA d' (dA d 4) H->Am.frozen (.tuple [d'.av,P5 true]) (.tuple [dA d 4,P5 true]) H:=fun d' H hD=>by
  obtain⟨H',hz⟩:=hD.frz;have e3:∀X,AV.freeze deep (P5 true) X=some (.bool true,X):=fun _=>rfl;have hsh:(dA d 4).shp=some 2:=rfl;refine⟨H',?_⟩;simp only[AV.freezeRes,zZ,hz,e3,hsh];rfl
 have hr:∀(x0:AObj) (X:Heap),Yn ⟨[(4,.ptr 1 0),(5,P5 true)],x0::.box (some 2) (dA d 4)::X⟩ (4,some (some 2))=some (dA d 4):=fun x0 X=>by
  simp[Yn,Fr.look,aload]
 have hs1:∀(x0:AObj) (X X':Heap),Yy (x0::.box (some 2) (dA d 4)::X) (x0::.box (some 2) (dA d 4)::X') (.ptr 1 1)=true:=fun x0 X X'=>by
  simp[Yy,AObj.beq,dA,AV.beq,AV.beqc,PV.beq]
 simp -dsimp -implicitDefEqProofs only[go_sem,seval,ZE,ZX,ZR,ZS,hs1,Dbs.av,YC,Prc.pvs_len,h1,h3,h4,hst,hnil,hpt,hia,hfa,hld,hw1,h5,hse,hr]
 grind [X6,Dbs.av]
def cutC(p:Prc)(k:Nat):Prc:=⟨p.name,p.ar,p.dyn,p.cls.take k++p.cls.drop (k+1)⟩
def eraR(d:Dbs)(id:Int):Dbs × Bool:=
 if okD d=false then(Y7,false)
 else match whR d.procs id with
 |none=>(Y7,false)
 |some x=>(⟨d.next,d.procs.modify x.1 fun p=>cutC p x.2⟩,true)
theorem BX{α:Type}{l:List α}{i:Nat}{x:α}(h:l[i]? =some x)(f:α->α):l.modify i f=l.set i (f x):=by
 refine Z4 fun j=> ?_
 grind
theorem OP(d:Dbs)(hb:BndD d)(id:Int)(hp:Heap):S 19 [d.av,P4 id] hp=some (.ret (.tuple [(eraR d id).1.av,.pv none (.bool (eraR d id).2)]),hp):=by
 cases hv:okD d with
 |false=>
  grind [BW,eraR]
 |true=>
  grind [BW,eraR,vq,OO,cutC,BX]
def rmP(id:Int)(p:Prc):Prc:=⟨p.name,p.ar,p.dyn,p.cls.filter fun s=>decide (s.id≠id)⟩
theorem OQ{id:Int}{p:Prc}(h:∀s∈p.cls,s.id≠id):rmP id p=p:=by
 unfold rmP;rw[List.filter_eq_self.2 fun s hs=>Z1 (h s hs)]
theorem OR{id:Int}{l:List Prc}(h:id ∉ ids l):l.map (rmP id)=l:=by
 have e:∀p∈l,rmP id p=p:=fun p hp=>OQ fun s hs e=>h (mem_ids.2 ⟨p,hp,s,hs,e⟩);rw[List.map_congr_left (g:=fun p=>p) e];simp
theorem OS(id:Int)(l:List Prc):ids (l.map (rmP id))=(ids l).filter fun x=>decide (x≠id):=by
 induction l with
 |nil=>rfl
 |cons p r ih=>
  rw[ZV,Qe,Qe,ih,List.filter_append]
  congr 1
  show((p.cls.filter _).map _)=_;rw[List.filter_map];rfl
theorem BY(l:List Prc)(id:Int):whR l id=none↔id ∉ ids l:=by
 constructor
 ·intro h hm;obtain⟨p,hp,s,hs,e⟩:=mem_ids.1 hm
  induction l with
  |nil=>cases hp
  |cons x r ih=>
   grind [whR,idS,mem_ids]
 grind [VJ,gB,mem_ids]
theorem OT{l:List Sto}{k:Nat}{s:Sto}(h:l[k]? =some s)(hn:(l.map (·.id)).Nodup):l.take k++l.drop (k+1)=l.filter fun x=>decide (x.id≠s.id):=by
 have e:=xA h;obtain⟨A,hA⟩:∃A,A=l.take k:=⟨_,rfl⟩;obtain⟨B,hB⟩:∃B,B=l.drop (k+1):=⟨_,rfl⟩;rw[<-hA,<-hB] at e ⊢;rw[e,List.map_append,ZV,List.nodup_append,List.nodup_cons] at hn
 grind [List.filter_eq_self,ZG]
theorem OU{d:Dbs}{id:Int}(hv:okD d=true)(h:id∈ids d.procs):eraR d id=(⟨d.next,d.procs.map (rmP id)⟩,true):=by
 cases hw:whR d.procs id with
 |none=>grind [BY]
 |some x=>
  obtain⟨i,k⟩:=x;obtain⟨p,s,hpp,hs,hsi⟩:=vq hw;have d5:=((yw d).1 hv).2.2.2.2;have d5':=d5;rw[xA hpp] at d5';obtain⟨g1,g2,g3,g4,g5,g6,g7⟩:=(QR ..).1 d5';have hsm:=Zh hs;have hout:=g6 s hsm;rw[hsi,gL,Z6,not_or] at hout;have e1:cutC p k=rmP id p:=by
   grind [cutC,rmP,OT]
  have e2:d.procs.modify i (fun p=>cutC p k)=d.procs.map (rmP id):=by
   grind [BX,xA,OR]
  grind [eraR]
theorem eraR_iff{d:Dbs}{id:Int}:(eraR d id).2=true↔okD d=true/\id∈ids d.procs:=by
 grind [BY,eraR]
theorem OV{n:Int}{l:List Prc}(id:Int)(h:OkP n l):OkP n (l.map (rmP id)):=by
 refine⟨fun p hp=> ?_,?_,?_,fun p hp s hs=> ?_⟩
 ·obtain⟨q,hq,rfl⟩:=zd.1 hp;exact h.1 q hq
 ·rw[List.pairwise_map];exact h.2.1
 ·rw[OS];exact h.2.2.1.filter _
 ·obtain⟨q,hq,rfl⟩:=zd.1 hp;exact VO (h.2.2.2 q hq s (List.mem_filter.1 hs).1) rfl rfl
theorem OW{d:Dbs}{id:Int}(h:(eraR d id).2=true):okD (eraR d id).1=true/\(eraR d id).1.next=d.next:=by
 obtain⟨hv,hm⟩:=eraR_iff.1 h;obtain⟨d1,d2,d3,d4,d5⟩:=(yw d).1 hv;rw[OU hv hm];have ht:∀l:List Prc,totD (l.map (rmP id))<=totD l:=fun l=>by
  induction l with
  |nil=>exact Zc _
  |cons x r ih=>
   have:=List.length_filter_le (fun s:Sto=>decide (s.id≠id)) x.cls;rw[ZV,qp,qp];exact Nat.add_le_add this ih
 exact⟨(yw _).2 ⟨d1,d2,by simpa using d3,Zz (ht _) d4,OV id d5⟩,rfl⟩
end Go.Proofs.YtgedfopkiebjkaaGreatDoor
