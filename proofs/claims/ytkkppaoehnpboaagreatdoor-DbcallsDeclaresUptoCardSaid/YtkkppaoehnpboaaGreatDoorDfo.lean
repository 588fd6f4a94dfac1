/- What is proved: checks of arguments: bound, Atom, Int, Indicator of a name and a number. -/
import Derived.Test.YtkkppaoehnpboaaGreatDoorBal
import Derived.Test.YtkkppaoehnpboaaGreatDoorDb1
import Derived.Test.YtkkppaoehnpboaaGreatDoorCl
import Derived.Test.YtkkppaoehnpboaaGreatDoorAm6
set_option linter.unusedSimpArgs false
set_option linter.unusedVariables false
namespace Go.Proofs.YtkkppaoehnpboaaGreatDoor
open Go.Am
def intT(k:Int):Tm:=.mk 1 k [] []
def indT(nm:List UInt8)(k:Int):Tm:=.mk 3 0 [47] [Ye nm,intT k]
theorem G7(k:Int):(intT k).fits=true:=by
 simp[intT,Tm.fits,Tm.fitsAll,Tm.node,Tm.kind,Tm.n,Tm.name,Tm.args]
theorem Vq(k:Int):(intT k).valid=true:=xM (G7 k) (by have:(intT k).size=1:=rfl;omega)
theorem ju{nm:List UInt8}{k:Int}(h:nm.length<=100):(indT nm k).valid=true:=by
 refine xM (Qs (nm:=[47]) (by decide) (by simp) (by simp) (by simp[Tm.fitsAll,valid_fits (Q1 h),G7])) ?_;have:(indT nm k).size=3:=rfl;omega
theorem Vr(t:Tm)(hv:t.valid=true)(hk:t.kind≠0)(hp:Heap):S 126 [t.av] hp=some (.ret (.tuple [zt.av,O6 true]),hp):=by
 refine Ya rfl rfl rfl (z8 [(some 4,t.pv)]) rfl ?_;have h1:=fun hp=>Xj t hp (by have:=yb hv;omega);have hk':=Zp hk;have hz0:=O2;rw[hv] at h1;simp only[Tm.av] at h1;simp -dsimp -implicitDefEqProofs only[go_sem,seval,Tm.av,Yk,h1,hk',hz0,z7 (Ze _),Yn];exact⟨_,rfl⟩
theorem mK(nm:List UInt8)(hn:nm.length<=100)(hp:Heap):S 145 [(Ye nm).av] hp=some (.ret (.tuple [O7 nm,zt.av,O6 true]),hp):=by
 refine Ya rfl rfl rfl (z8 [(some 4,(Ye nm).pv)]) rfl ?_;have h1:=Vr (Ye nm) (Q1 hn) (by show(2:Int)≠0;decide);have hk:PV.part deep (Ye nm).pv 0 none=some (.int .i64 2):=rfl;have hs:PV.part deep (Ye nm).pv 2 none=some (.str nm):=rfl;have hz0:=O2;simp only[Tm.av] at h1;simp -dsimp -implicitDefEqProofs only[go_sem,seval,Tm.av,h1,hk,hs,hz0,z7 (Ze _),Yn];exact⟨_,rfl⟩
theorem mL(k:Int)(hp:Heap):S 104 [(intT k).av] hp=some (.ret (.tuple [O5 k,zt.av,O6 true]),hp):=by
 refine Ya rfl rfl rfl (z8 [(some 4,(intT k).pv)]) rfl ?_;have h1:=Vr (intT k) (Vq k) (by show(1:Int)≠0;decide);have hk:PV.part deep (intT k).pv 0 none=some (.int .i64 1):=rfl;have hs:PV.part deep (intT k).pv 1 none=some (.int .i64 k):=rfl;have hz0:=O2;simp only[Tm.av] at h1;simp -dsimp -implicitDefEqProofs only[go_sem,seval,Tm.av,h1,hk,hs,hz0,z7 (Ze _),Yn];exact⟨_,rfl⟩
def negN:List UInt8:=[110,111,116,95,108,101,115,115,95,116,104,97,110,95,122,101,114,111]
def maxN:List UInt8:=[109,97,120,95,97,114,105,116,121]
def indB(k:Int):Option Tm:=if k<0 then some (domT negN (intT k)) else if 8<k then some (repT maxN) else none
theorem Vs(H:Heap)(v:AV)(w:Nat)(sh s:Sh)(e:PV)(f:Nat):y3 sh 0 H [.ptr 3 0,v,.ptr 0 w,.iptr s e f]=Yb sh 0 H [.ptr 3 0,v]:=by simp[y3,Yb,xp]
theorem G8(nm:List UInt8)(k:Int)(hn:nm.length<=100)(hp:Heap):S 121 [(indT nm k).av] hp=some (.ret (.tuple [O7 (match indB k with|some _=>[]|none=>nm),O5 (match indB k with|some _=>0|none=>k),((indB k).getD zt).av,.pv none (.bool (indB k).isNone)]),hp):=by
 refine Ya rfl rfl rfl (z8 [(some 4,(indT nm k).pv)]) rfl ?_;have h1:=Vr (indT nm k) (ju hn) (by show(3:Int)≠0;decide);have h2:=mK nm hn;have h3:=mL k;have h4:=fun hp=>mG negN (by decide) (intT k) (Vq k) hp;have h5:=fun hp=>mJ maxN (by decide) hp;have q0:PV.part deep (indT nm k).pv 0 none=some (.int .i64 3):=rfl;have q2:PV.part deep (indT nm k).pv 2 none=some (.str [47]):=rfl;have q3:PV.part deep (indT nm k).pv 3 none=some (.sl (some 4) (Tm.pvs [Ye nm,intT k])):=rfl;have ql:(Tm.pvs [Ye nm,intT k]).length=2:=rfl;have i0:∀s kk,Yq (some 4) [.pv s (.sl (some 4) (Tm.pvs [Ye nm,intT k])),.pv none (.int kk 0)]=some (.iptr (some 4) (Ye nm).pv 0):=fun _ _=>rfl;have i1:∀s kk,Yq (some 4) [.pv s (.sl (some 4) (Tm.pvs [Ye nm,intT k])),.pv none (.int kk 1)]=some (.iptr (some 4) (intT k).pv 0):=fun _ _=>rfl;have k0:PV.part deep (Ye nm).pv 0 none=some (.int .i64 2):=rfl;have k1:PV.part deep (intT k).pv 0 none=some (.int .i64 1):=rfl;have hz0:=O2;simp only[Tm.av,negN,maxN] at h1 h2 h3 h4 h5;by_cases c1:k<0
 ·have e:indB k=some (domT negN (intT k)):=by simp[indB,c1]
  rw[e];simp -dsimp -implicitDefEqProofs only[go_sem,seval,Tm.av,negN,h1,h2,h3,h4,q0,q2,q3,ql,i0,i1,k0,k1,c1,Vs,hz0,z7 (Ze _),Yn];exact⟨_,rfl⟩
 ·by_cases c2:8<k
  ·have e:indB k=some (repT maxN):=by simp[indB,c1,c2]
   rw[e];simp -dsimp -implicitDefEqProofs only[go_sem,seval,Tm.av,maxN,h1,h2,h3,h5,q0,q2,q3,ql,i0,i1,k0,k1,c1,c2,Vs,hz0,z7 (Ze _),Yn];exact⟨_,rfl⟩
  ·have e:indB k=none:=by simp[indB,c1,c2]
   have w1:IntKind.i64.wrap k=k:=Yh (by omega) (by omega);rw[e];simp -dsimp -implicitDefEqProofs only[go_sem,seval,Tm.av,h1,h2,h3,q0,q2,q3,ql,i0,i1,k0,k1,c1,c2,w1,Vs,hz0,z7 (Ze _),Yn];exact⟨_,rfl⟩
def y0:Dbs:=⟨0,[]⟩
def dynP(p:Prc)(b:Bool):Prc:=⟨p.name,p.ar,p.dyn || b,p.cls⟩
theorem O4:Yi A1 [] []=some (.agg A1):=rfl
theorem mM(d:Dbs)(hb:BndD d)(s:List UInt8)(a:Int)(b:Bool)(h:okD d=false\/namB (keyP s a)=false)(hp:Heap):S 94 [d.av,O7 s,O5 a,O6 b] hp=some (.ret (.tuple [y0.av,O5 1]),hp):=by
 refine Ya rfl rfl rfl (z8 [(some 2,d.pv),(none,.str s),(none,.int .i64 a),(none,.bool b)]) rfl ?_;have h1:=fun hp=>X1 d hb.1 hb.2.1 hb.2.2 hp;have h2:∀hp,S 46 [O7 s,O5 a] hp=some (.ret (O6 (namB (keyP s a))),hp):=fun hp=>q6 s a hp;have hz0:=O4;have hnil:∀H:Heap,Yf A3 H=(A3,H):=fun _=>rfl;simp only[Dbs.av] at h1;cases hv:okD d with
 |false=>
  rw[hv] at h1;simp -dsimp -implicitDefEqProofs only[go_sem,seval,Dbs.av,h1,hz0,hnil,z7 (Ze _)];exact⟨_,rfl⟩
 |true=>
  have hn:namB (keyP s a)=false:=by
   rcases h with h|h
   ·rw[hv] at h;cases h
   ·exact h
  rw[hv] at h1;rw[hn] at h2;simp -dsimp -implicitDefEqProofs only[go_sem,seval,Dbs.av,h1,h2,hz0,hnil,z7 (Ze _)];exact⟨_,rfl⟩
theorem mN(d:Dbs)(hb:BndD d)(s:List UInt8)(a:Int)(b:Bool)(hv:okD d=true)(hn:namB (keyP s a)=true)(hf:fnD d.procs (keyP s a)=false)(hl:d.procs.length=500)(hp:Heap):S 94 [d.av,O7 s,O5 a,O6 b] hp=some (.ret (.tuple [y0.av,O5 13]),hp):=by
 refine Ya rfl rfl rfl (z8 [(some 2,d.pv),(none,.str s),(none,.int .i64 a),(none,.bool b)]) rfl ?_;have h1:=fun hp=>X1 d hb.1 hb.2.1 hb.2.2 hp;have h2:∀hp,S 46 [O7 s,O5 a] hp=some (.ret (O6 (namB (keyP s a))),hp):=fun hp=>q6 s a hp;have h3:∀hp,S 33 [d.av,O7 s,O5 a] hp=some (.ret (.tuple [O5 (lbD d.procs (keyP s a):Int),O6 (fnD d.procs (keyP s a))]),hp):=fun hp=>jp d s a hb.1 (jq hv) hp;have hz0:=O4;have hnil:∀H:Heap,Yf A3 H=(A3,H):=fun _=>rfl;have hl':((d.procs.length:Int)=500)=True:=Zn (by omega);simp only[Dbs.av] at h1 h3;rw[hv] at h1;rw[hn] at h2;rw[hf] at h3;simp -dsimp -implicitDefEqProofs only[go_sem,seval,Dbs.av,YB,Prc.pvs_len,h1,h2,h3,hz0,hl',hnil,z7 (Ze _)];exact⟨_,rfl⟩
set_option maxRecDepth 20000 in
theorem mO(d:Dbs)(hb:BndD d)(s:List UInt8)(a:Int)(b:Bool)(hv:okD d=true)(hn:namB (keyP s a)=true)(hf:fnD d.procs (keyP s a)=true)(p:Prc)(i:Nat)(hi:i=lbD d.procs (keyP s a))(hpp:d.procs[i]? =some p)(hp:Heap):S 94 [d.av,O7 s,O5 a,O6 b] hp=some (.ret (.tuple [(⟨d.next,d.procs.set i (dynP p b)⟩:Dbs).av,O5 0]),hp):=by
 refine Ya rfl rfl rfl (z8 [(some 2,d.pv),(none,.str s),(none,.int .i64 a),(none,.bool b)]) rfl ?_;have h1:=fun hp=>X1 d hb.1 hb.2.1 hb.2.2 hp;have h2:∀hp,S 46 [O7 s,O5 a] hp=some (.ret (O6 (namB (keyP s a))),hp):=fun hp=>q6 s a hp;have h3:∀hp,S 33 [d.av,O7 s,O5 a] hp=some (.ret (.tuple [O5 (lbD d.procs (keyP s a):Int),O6 (fnD d.procs (keyP s a))]),hp):=fun hp=>jp d s a hb.1 (jq hv) hp;have hl5:d.procs.length<=500/\totD d.procs<=500:=by
  simp only[okD,Zg,Zr] at hv;exact⟨hv.2.2.1,hv.2.2.2.1⟩
 have h4:∀x0 x1:AObj,S 118 [d.av] [x0,x1]=some (.ret (dA d 4),x0::x1::.box (some 2) (dA d 4)::.box (some 2) (dA d 4)::.arv (some 4) (elsA d.procs 10 d.procs.length)::cEs d.procs 10):=fun x0 x1=>GW d (by omega) (fun q hq=>⟨by have:=QX hq;omega,QZ hv q hq⟩) [x0,x1];have hnil:∀H:Heap,Yf A3 H=(A3,H):=fun _=>rfl;have hst:∀(x0:AObj) (v:AV) (X:Heap),Yb (some 2) 0 (x0::.box (some 2) v::X) [.ptr 1 0,dA d 4]=some (.undef,x0::.box (some 2) (dA d 4)::X):=fun x0 v X=>by
  simp[Yb,astore,dA,AV.plain,AV.shp,AV.own,Yf,yI,total,Sh.size]
 simp only[Dbs.av] at h1 h3 h4;rw[hv] at h1;rw[hn] at h2;rw[hf,<-hi] at h3;have hil:=(Zb.1 hpp).1;have hge:=jr (b:=10) hpp;have hpt:AV.part deep (dA d 4) 1 none=some (.slv (some 4) 4 d.procs.length 0 d.procs.length):=rfl;have hia:Yq (some 4) [.slv (some 4) 4 d.procs.length 0 d.procs.length,O5 i]=some (.epv (some 4) 4 d.procs.length i 0):=by
  simp[Yq,aindex,hil]
 have hld:∀(x0 x1 x2 x3:AObj) (X:Heap),aload none (x0::x1::x2::x3::.arv (some 4) (elsA d.procs 10 d.procs.length)::X) (.epv (some 4) 4 d.procs.length i 2)=some (O6 p.dyn):=fun x0 x1 x2 x3 X=>by
  have e:AV.part deep (pA p (10+6*i)) 2 none=some (O6 p.dyn):=rfl;simp[aload,X3,hge,e]
 have hse:∀(x0 x1 x2 x3:AObj) (X:Heap) (c:Bool),Yb none 0 (x0::x1::x2::x3::.arv (some 4) (elsA d.procs 10 d.procs.length)::X) [.epv (some 4) 4 d.procs.length i 2,O6 c]=some (.undef,x0::x1::x2::x3::.arv (some 4) ((elsA d.procs 10 d.procs.length).set i (pA ⟨p.name,p.ar,c,p.cls⟩ (10+6*i)))::X):=fun x0 x1 x2 x3 X c=>by
  have e:AV.upd deep (pA p (10+6*i)) 2 none (O6 c)=some (pA ⟨p.name,p.ar,c,p.cls⟩ (10+6*i)):=rfl;simp[Yb,astore,X3,hge,e,AV.plain,AV.shp]
 have fin:∀(x0 x1 x2 x3:AObj) (c:Bool),c=(p.dyn || b)->DbA ⟨d.next,d.procs.set i (dynP p b)⟩ (dA d 4) (x0::x1::x2::x3::.arv (some 4) ((elsA d.procs 10 d.procs.length).set i (pA ⟨p.name,p.ar,c,p.cls⟩ (10+6*i)))::cEs d.procs 10):=fun x0 x1 x2 x3 c hc=>by
  refine⟨4,d.procs.length,_,d.procs.set i (dynP p b),?_,rfl,by rw[List.length_set,X3],by simp,by simp,by simp[Zu],fun j q v hq hv2=> ?_⟩
  ·simp[dA]
  ·have hcl5:∀(k:Nat) (x:Prc),d.procs[k]? =some x->(x0::x1::x2::x3::AObj.arv (some 4) ((elsA d.procs 10 d.procs.length).set i (pA ⟨p.name,p.ar,c,p.cls⟩ (10+6*i)))::cEs d.procs 10)[10+6*k]? =some (.arr (some 9) (Sto.pvs x.cls) false):=fun k x hx=>by
    rw[show 10+6*k=(6*k+5)+1+1+1+1+1 by omega];simp only[zN];exact Vm _ _ _ _ hx
   have htake:∀l:List Sto,(Sto.pvs l).take l.length=Sto.pvs l:=fun l=>Zu (by rw[Sto.pvs_len];exact Zc _);by_cases hji:i=j
   ·subst hji;rw[Zx hil] at hq;cases hq;rw[Zx (by rw[X3];exact hil)] at hv2;cases hv2;subst hc;exact .inr ⟨_,rfl,.inr ⟨10+6*i,p.cls.length,Sto.pvs p.cls,false,rfl,hcl5 i p hpp,Sto.pvs_len _,Zc _,htake _⟩⟩
   ·rw[Zo hji] at hq hv2;rw[jr hq] at hv2;cases hv2;exact .inr ⟨_,rfl,.inr ⟨10+6*j,q.cls.length,Sto.pvs q.cls,false,rfl,hcl5 j q hq,Sto.pvs_len _,Zc _,htake _⟩⟩
 have hfr:∀(d':Dbs) (H:Heap),DbA d' (dA d 4) H->Am.frozen (.tuple [d'.av,O5 0]) (.tuple [dA d 4,O5 0]) H:=fun d' H hD=>by
  obtain⟨H',hz⟩:=hD.frz;have e3:∀X,AV.freeze deep (O5 0) X=some (.int .i64 0,X):=fun _=>rfl;have hsh:(dA d 4).shp=some 2:=rfl;refine⟨H',?_⟩;simp only[AV.freezeRes,Yp,hz,e3,hsh];rfl
 have hr:∀(x0:AObj) (X:Heap),Y8 ⟨[(8,.ptr 1 0),(9,O5 0)],x0::.box (some 2) (dA d 4)::X⟩ (8,some (some 2))=some (dA d 4):=fun x0 X=>by
  simp[Y8,Fr.look,aload]
 have hfa:XJ 2 [.epv (some 4) 4 d.procs.length i 0]=some (.epv (some 4) 4 d.procs.length i 2):=rfl;cases hd:p.dyn with
 |true=>
  rw[hd] at hld;simp -dsimp -implicitDefEqProofs only[go_sem,seval,Dbs.av,YB,Prc.pvs_len,h1,h2,h3,h4,hst,hnil,hpt,hia,hfa,hld,hse,hr];have hF:=hfr _ _ (fin (.box (some 2) (.pv (some 2) d.pv)) (.box (some 2) (dA d 4)) (.box (some 2) (dA d 4)) (.box (some 2) (dA d 4)) true (by rw[hd];rfl));simp only[J9,Dbs.av] at hF;exact hF
 |false=>
  rw[hd] at hld;simp -dsimp -implicitDefEqProofs only[go_sem,seval,Dbs.av,YB,Prc.pvs_len,h1,h2,h3,h4,hst,hnil,hpt,hia,hfa,hld,hse,hr];have hF:=hfr _ _ (fin (.box (some 2) (.pv (some 2) d.pv)) (.box (some 2) (dA d 4)) (.box (some 2) (dA d 4)) (.box (some 2) (dA d 4)) b (by rw[hd];rfl));simp only[J9,Dbs.av] at hF;exact hF
set_option maxRecDepth 20000 in
theorem mP(d:Dbs)(hb:BndD d)(s:List UInt8)(a:Int)(b:Bool)(hv:okD d=true)(hn:namB (keyP s a)=true)(hf:fnD d.procs (keyP s a)=false)(i:Nat)(hi:i=lbD d.procs (keyP s a))(hl:d.procs.length≠500)(hp:Heap):S 94 [d.av,O7 s,O5 a,O6 b] hp=some (.ret (.tuple [(⟨d.next,d.procs.take i++(⟨s,a,b,[]⟩:Prc)::d.procs.drop i⟩:Dbs).av,O5 0]),hp):=by
 refine Ya rfl rfl rfl (z8 [(some 2,d.pv),(none,.str s),(none,.int .i64 a),(none,.bool b)]) rfl ?_;have h1:=fun hp=>X1 d hb.1 hb.2.1 hb.2.2 hp;have h2:∀hp,S 46 [O7 s,O5 a] hp=some (.ret (O6 (namB (keyP s a))),hp):=fun hp=>q6 s a hp;have h3:∀hp,S 33 [d.av,O7 s,O5 a] hp=some (.ret (.tuple [O5 (lbD d.procs (keyP s a):Int),O6 (fnD d.procs (keyP s a))]),hp):=fun hp=>jp d s a hb.1 (jq hv) hp;have hl5:d.procs.length<=500/\totD d.procs<=500:=by
  simp only[okD,Zg,Zr] at hv;exact⟨hv.2.2.1,hv.2.2.2.1⟩
 have h4:∀x0 x1:AObj,S 118 [d.av] [x0,x1]=some (.ret (dA d 4),x0::x1::.box (some 2) (dA d 4)::.box (some 2) (dA d 4)::.arv (some 4) (elsA d.procs 10 d.procs.length)::cEs d.procs 10):=fun x0 x1=>GW d (by omega) (fun q hq=>⟨by have:=QX hq;omega,QZ hv q hq⟩) [x0,x1];have hnil:∀H:Heap,Yf A3 H=(A3,H):=fun _=>rfl;have hst:∀(x0:AObj) (v:AV) (X:Heap),Yb (some 2) 0 (x0::.box (some 2) v::X) [.ptr 1 0,dA d 4]=some (.undef,x0::.box (some 2) (dA d 4)::X):=fun x0 v X=>by
  simp[Yb,astore,dA,AV.plain,AV.shp,AV.own,Yf,yI,total,Sh.size]
 simp only[Dbs.av] at h1 h3 h4;rw[hv] at h1;rw[hn] at h2;rw[hf,<-hi] at h3;have hl':((d.procs.length:Int)=500)=False:=Zp (by omega);have hpt:AV.part deep (dA d 4) 1 none=some (.slv (some 4) 4 d.procs.length 0 d.procs.length):=rfl;have hbu:Yi A2 [0,1] [O7 s,O5 a]=some (.agg [(none,O7 s),(none,O5 a),(none,O6 false),(none,.tsl (some 9) [])]):=rfl;have hil:i<=d.procs.length:=by rw[hi];exact Vj _ _
 obtain⟨nv,hnv⟩:∃nv:Bool->AV,nv=fun c=>.agg [(none,O7 s),(none,O5 a),(none,O6 c),(none,.tsl (some 9) [])]:=⟨_,rfl⟩;obtain⟨el,hel⟩:∃el:AV->List AV,el=fun v=>(elsA d.procs 10 d.procs.length).take i++v::(elsA d.procs 10 d.procs.length).drop i:=⟨_,rfl⟩;have hell:∀v,(el v).length=d.procs.length+1:=fun v=>by rw[hel];simp[X3];omega
 have hli:((elsA d.procs 10 d.procs.length).take i).length=i:=by rw[Zh,X3];omega
 have heli:∀v,(el v)[i]? =some v:=fun v=>by
  rw[hel];show(_++_)[i]? =_;rw[ZZ (by omega),hli,zy];rfl
 have hels:∀v v',(el v).set i v'=el v':=fun v v'=>by
  rw[hel];show List.set (_++_) i v'=_;rw[List.set_append_right _ _ (by omega),hli,zy];rfl
 obtain⟨m,hm⟩:∃m,m=(cEs d.procs 10).length+5:=⟨_,rfl⟩;have op_bslov:∀{vs:List AV} {H:Heap} {K:AV->Heap->Prop} {Kp:PV->Heap->Prop},opK (aOp (sem (find tab) prim) 0 (.bslov (some 4)) vs H) K Kp=YL (yV (some 4) H vs) K:=fun{vs H K Kp}=>by
  show opK (match yV (some 4) H vs with|some (v,hp')=>some (OpRes.val v hp')|none=>none) K Kp=_;cases yV (some 4) H vs with
  |none=>rfl
  |some r=>cases r;rfl
 have hbs:∀x0 x1 x2 x3 x4:AObj,yV (some 4) (x0::x1::x2::x3::x4::cEs d.procs 10) [nv false]=some (.slv (some 4) m 1 0 1,x0::x1::x2::x3::x4::(cEs d.procs 10++[.arv (some 4) [nv false]])):=fun x0 x1 x2 x3 x4=>by
  have e1:(nv false).plain=true:=by rw[hnv];rfl
  have e2:(nv false).shp=some 4:=by rw[hnv];rfl
  simp[yV,e1,e2,xJ,hm]
 have hpr:∀x0 x1 x2 x3:AObj,S 119 [.slv (some 4) 4 d.procs.length 0 d.procs.length,O5 i,.slv (some 4) m 1 0 1] (x0::x1::x2::x3::.arv (some 4) (elsA d.procs 10 d.procs.length)::(cEs d.procs 10++[.arv (some 4) [nv false]]))=some (.ret (.slv (some 4) 4 (d.procs.length+1) 0 (d.procs.length+1)),x0::x1::x2::x3::.arv (some 4) (el (nv false))::(cEs d.procs 10++[.arv (some 4) [nv false]])):=fun x0 x1 x2 x3=>by
  rw[S,ky (F:=find tab) (prim:=prim) (p:=QJ (some 4)) rfl];have hg:(x0::x1::x2::x3::AObj.arv (some 4) (elsA d.procs 10 d.procs.length)::(cEs d.procs 10++[.arv (some 4) [nv false]]))[m]? =some (.arv (some 4) [nv false]):=by
   rw[hm];show(cEs d.procs 10++[.arv (some 4) [nv false]])[(cEs d.procs 10).length]? =_;simp
  have hne:4≠m:=by omega
  have hrf:∀n,xP n 4 (elsA d.procs 10 d.procs.length) [nv false]=true:=fun n=>by
   rw[hnv];simp[xP,AV.refsIn.gol,AV.refsIn,AV.refsIn.go]
  have hlm:d.procs.length+1<=lim:=by unfold lim;omega
  have hii:(i:Int)<=(d.procs.length:Int):=by omega
  rw[hel];simp[QJ,hg,X3,hne,hrf,hlm,hii]
 have hnv0:(.agg [(none,O7 s),(none,O5 a),(none,O6 false),(none,.tsl (some 9) [])]:AV)=nv false:=by rw[hnv]
 rw[hnv0] at hbu;obtain⟨dN,hdN⟩:∃dN:AV,dN=.agg [(none,O5 d.next),(none,.slv (some 4) 4 (d.procs.length+1) 0 (d.procs.length+1))]:=⟨_,rfl⟩;have hsf:∀(x0:AObj) (X:Heap),Yb none 0 (x0::.box (some 2) (dA d 4)::X) [.ptr 1 1,.slv (some 4) 4 (d.procs.length+1) 0 (d.procs.length+1)]=some (.undef,x0::.box (some 2) dN::X):=fun x0 X=>by
  have e:AV.upd deep (dA d 4) 1 none (.slv (some 4) 4 (d.procs.length+1) 0 (d.procs.length+1))=some dN:=by rw[hdN];rfl
  simp[Yb,astore,e,AV.plain,AV.shp,AV.own]
 have hpt2:AV.part deep dN 1 none=some (.slv (some 4) 4 (d.procs.length+1) 0 (d.procs.length+1)):=by rw[hdN];rfl
 have hi1:i<d.procs.length+1:=by omega
 have hia:Yq (some 4) [.slv (some 4) 4 (d.procs.length+1) 0 (d.procs.length+1),O5 i]=some (.epv (some 4) 4 (d.procs.length+1) i 0):=by
  have:(i:Int)<(d.procs.length:Int)+1:=by omega
  simp[Yq,aindex,this]
 have hfa:XJ 2 [.epv (some 4) 4 (d.procs.length+1) i 0]=some (.epv (some 4) 4 (d.procs.length+1) i 2):=rfl;have hld:∀(x0 x1 x2 x3:AObj) (X:Heap),aload none (x0::x1::x2::x3::.arv (some 4) (el (nv false))::X) (.epv (some 4) 4 (d.procs.length+1) i 2)=some (O6 false):=fun x0 x1 x2 x3 X=>by
  have e:AV.part deep (nv false) 2 none=some (O6 false):=by rw[hnv];rfl
  simp[aload,hell,heli,e]
 have hse:∀(x0 x1 x2 x3:AObj) (X:Heap),Yb none 0 (x0::x1::x2::x3::.arv (some 4) (el (nv false))::X) [.epv (some 4) 4 (d.procs.length+1) i 2,O6 b]=some (.undef,x0::x1::x2::x3::.arv (some 4) (el (nv b))::X):=fun x0 x1 x2 x3 X=>by
  have e:AV.upd deep (nv false) 2 none (O6 b)=some (nv b):=by rw[hnv];rfl
  simp[Yb,astore,hell,heli,e,hels,AV.plain,AV.shp]
 have hs2:∀(x0:AObj) (X:Heap),Yb (some 2) 0 (x0::.box (some 2) dN::X) [.ptr 1 0,dN]=some (.undef,x0::.box (some 2) dN::X):=fun x0 X=>by
  rw[hdN];simp[Yb,astore,AV.plain,AV.shp,AV.own,Yf,yI,total,Sh.size]
 have hr:∀(x0:AObj) (X:Heap),Y8 ⟨[(8,.ptr 1 0),(9,O5 0)],x0::.box (some 2) dN::X⟩ (8,some (some 2))=some dN:=fun x0 X=>by
  simp[Y8,Fr.look,aload]
 have fin:∀(x0 x1 x2 x3:AObj),DbA ⟨d.next,d.procs.take i++(⟨s,a,b,[]⟩:Prc)::d.procs.drop i⟩ dN (x0::x1::x2::x3::.arv (some 4) (el (nv b))::(cEs d.procs 10++[.arv (some 4) [nv false]])):=fun x0 x1 x2 x3=>by
  have hpl:(d.procs.take i++(⟨s,a,b,[]⟩:Prc)::d.procs.drop i).length=d.procs.length+1:=by simp;omega
  refine⟨4,d.procs.length+1,el (nv b),d.procs.take i++(⟨s,a,b,[]⟩:Prc)::d.procs.drop i,?_,rfl,hell _,by rw[hpl];omega,hpl,ZS,fun j q v hq hv2=> ?_⟩
  ·rw[hdN,hpl]
  ·have hE:∀(k:Nat) (x:Prc),d.procs[k]? =some x->ElP x (pA x (10+6*k)) (x0::x1::x2::x3::AObj.arv (some 4) (el (nv b))::(cEs d.procs 10++[.arv (some 4) [nv false]])):=fun k x hx=>by
    refine .inr ⟨_,rfl,.inr ⟨10+6*k,x.cls.length,Sto.pvs x.cls,false,rfl,?_,Sto.pvs_len _,Zc _,Zu (by rw[Sto.pvs_len];exact Zc _)⟩⟩;rw[show 10+6*k=(6*k+5)+1+1+1+1+1 by omega];simp only[zN];have hg:=Vm d.procs 10 k x hx;rw[ZI (Zb.1 hg).1,hg]
   have hlp:(d.procs.take i).length=i:=by rw[Zh];omega
   rw[hel] at hv2;have hv3:((elsA d.procs 10 d.procs.length).take i++nv b::(elsA d.procs 10 d.procs.length).drop i)[j]? =some v:=hv2;rcases Nat.lt_trichotomy j i with k|k|k
   ·rw[ZI (by omega),ZN,Zd k] at hq hv3;rw[jr hq] at hv3;cases hv3;exact hE j q hq
   ·subst k;rw[ZZ (by omega),hlp,zy] at hq;rw[ZZ (by omega),hli,zy] at hv3;cases hq;cases hv3;rw[hnv];exact .inr ⟨.tsl (some 9) [],rfl,.inl rfl⟩
   ·rw[ZZ (by omega),hlp,show j - i=(j - i - 1)+1 by omega,zN,ZR] at hq;rw[ZZ (by omega),hli,show j - i=(j - i - 1)+1 by omega,zN,ZR] at hv3;rw[jr hq] at hv3;cases hv3;exact hE _ q hq
 have hfr:∀(d':Dbs) (H:Heap),DbA d' dN H->Am.frozen (.tuple [d'.av,O5 0]) (.tuple [dN,O5 0]) H:=fun d' H hD=>by
  obtain⟨H',hz⟩:=hD.frz;have e3:∀X,AV.freeze deep (O5 0) X=some (.int .i64 0,X):=fun _=>rfl;have hsh:dN.shp=some 2:=by rw[hdN];rfl
  refine⟨H',?_⟩;simp only[AV.freezeRes,Yp,hz,e3,hsh];rfl
 simp -dsimp -implicitDefEqProofs only[go_sem,seval,Dbs.av,YB,Prc.pvs_len,h1,h2,h3,h4,hl',hpt,hbu,op_bslov,hbs,hpr,hsf,hs2,hst,hnil,hpt2,hia,hfa,hld,hse,hr];have hF:=hfr _ _ (fin (.box (some 2) (.pv (some 2) d.pv)) (.box (some 2) dN) (.box (some 2) (dA d 4)) (.box (some 2) (dA d 4)));simp only[J9,Dbs.av] at hF;exact hF
def Yo(d:Dbs)(s:List UInt8)(a:Int)(b:Bool):Dbs × Int:=
 if okD d=false\/namB (keyP s a)=false then(y0,1)
 else match fnD d.procs (keyP s a),d.procs[lbD d.procs (keyP s a)]? with
 |true,some p=>(⟨d.next,d.procs.set (lbD d.procs (keyP s a)) (dynP p b)⟩,0)
 |_,_=>if d.procs.length=500 then(y0,13)
  else(⟨d.next,d.procs.take (lbD d.procs (keyP s a))++(⟨s,a,b,[]⟩:Prc)::d.procs.drop (lbD d.procs (keyP s a))⟩,0)
theorem jv{ps:List Prc}{k:Prc}(h:fnD ps k=true):∃p,ps[lbD ps k]? =some p:=by
 cases e:ps[lbD ps k]? with
 |some p=>exact⟨p,rfl⟩
 |none=>simp[fnD,e] at h
theorem mQ(d:Dbs)(hb:BndD d)(s:List UInt8)(a:Int)(b:Bool)(hp:Heap):S 94 [d.av,O7 s,O5 a,O6 b] hp=some (.ret (.tuple [(Yo d s a b).1.av,.pv none (.int .i64 (Yo d s a b).2)]),hp):=by
 by_cases h:okD d=false\/namB (keyP s a)=false
 ·rw[mM d hb s a b h hp];simp only[Yo,Zd h]
 ·have hv:okD d=true:=by cases e:okD d with|true=>rfl|false=>exact absurd (Or.inl e) h
  have hn:namB (keyP s a)=true:=by cases e:namB (keyP s a) with|true=>rfl|false=>exact absurd (Or.inr e) h
  cases hf:fnD d.procs (keyP s a) with
  |true=>
   obtain⟨p,hpp⟩:=jv hf;rw[mO d hb s a b hv hn hf p _ rfl hpp hp];simp only[Yo,Za h,hf,hpp]
  |false=>
   by_cases hl:d.procs.length=500
   ·rw[mN d hb s a b hv hn hf hl hp];simp only[Yo,Za h,hf,Zd hl]
   ·rw[mP d hb s a b hv hn hf _ rfl hl hp];simp only[Yo,Za h,hf,Za hl]
def strs(l:List (List UInt8)):List PV:=l.map .str
theorem Ja(l:List (List UInt8)):(strs l).length=l.length:=by simp[strs]
theorem jw{l:List (List UInt8)}{i:Nat}{s:List UInt8}(h:l[i]? =some s):(strs l)[i]? =some (.str s):=by simp[strs,h]
def idxI:List (List UInt8)->List UInt8->Nat->Int
 |[],_,_=> -1
 |x::r,s,k=>if s=x then k else idxI r s (k+1)
theorem G9:∀(l:List (List UInt8)) (s:List UInt8) (k:Nat),0<=idxI l s k↔s∈l
 |[],s,k=>by simp[idxI]
 |x::r,s,k=>by
  unfold idxI;split
  ·rename_i h;simp[h]
  ·rename_i h;rw[G9 r s (k+1)];simp[h]
theorem mR(l:List (List UInt8))(s:List UInt8)(hl:l.length<=1000000)(hp:Heap):S 67 [.pv none (.sl none (strs l)),O7 s] hp=some (.ret (O5 (idxI l s 0)),hp):=by
 refine Ya rfl rfl rfl (z8 [(none,.sl none (strs l)),(none,.str s)]) rfl ?_;simp -dsimp -implicitDefEqProofs only[go_sem,seval,Ja];refine Yy (α:=Unit) l.length (fun i _=>idxI l s 0=idxI (l.drop i) s i) (fun i _=>⟨[(0,.pv none (.sl none (strs l))),(1,O7 s),(7,O5 l.length),(8,O5 i)],[]⟩) () ⟨rfl,rfl⟩ ?_ ?_
 ·rintro i - h hinv;have hc:(i:Int)<(l.length:Int):=by omega
  obtain⟨u,hu⟩:∃u,l[i]? =some u:=⟨_,Zf h⟩;have w2:=O0 i (by omega)
  have hd:l.drop i=u::l.drop (i+1):=by
   have hlt:=(Zb.1 hu).1;rw[zC hlt]
   congr 1
   exact(Zb.1 hu).2
  rw[hd,idxI] at hinv;by_cases hs:s=u
  ·rw[Zd hs] at hinv;subst hs;simp -dsimp -implicitDefEqProofs only[go_sem,seval,hc,Yc (jw hu),hinv]
  ·rw[Za hs] at hinv;simp -dsimp -implicitDefEqProofs only[go_sem,seval,hc,Yc (jw hu),hs,w2];exact⟨(),hinv⟩
 ·rintro - hinv;have hc:¬(l.length:Int)<(l.length:Int):=by omega
  rw[zK,idxI] at hinv;simp -dsimp -implicitDefEqProofs only[go_sem,seval,hc,hinv]
theorem mS(l:List (List UInt8))(s:List UInt8)(hl:l.length<=1000000)(hp:Heap):S 35 [.pv none (.sl none (strs l)),O7 s] hp=some (.ret (O6 (decide (s∈l))),hp):=by
 refine Ya rfl rfl rfl (z8 [(none,.sl none (strs l)),(none,.str s)]) rfl ?_;have h:=mR l s hl;have e:decide (0<=idxI l s 0)=decide (s∈l):=by simp[G9]
 simp -dsimp -implicitDefEqProofs only[go_sem,seval,h,e]
def sp1(l:List UInt8):List UInt8 × List (List UInt8):=l.foldr (fun b r=>if b=32 then([],r.1::r.2) else(b::r.1,r.2)) ([],[])
def sp(l:List UInt8):List (List UInt8):=(sp1 l).1::(sp1 l).2
def rs0:List UInt8:=[116,114,117,101,32,102,97,105,108,32,33,32,104,97,108,116,32,110,108,32,102,108,117,115,104,95,111,117,116,112,117,116,32,97,116,95,101,110,100,95,111,102,95,115,116,114,101,97,109]
def nm0:List (List UInt8):=sp rs0
def rs1:List UInt8:=[92,43,32,111,110,99,101,32,99,97,108,108,32,116,104,114,111,119,32,114,101,116,114,97,99,116,32,118,97,114,32,110,111,110,118,97,114,32,97,116,111,109,32,105,110,116,101,103,101,114,32,97,116,111,109,105,99,32,99,111,109,112,111,117,110,100,32,99,97,108,108,97,98,108,101,32,105,115,95,108,105,115,116,32,103,114,111,117,110,100,32,97,115,115,101,114,116,97,32,97,115,115,101,114,116,122,32,97,98,111,108,105,115,104,32,100,121,110,97,109,105,99,32,99,117,114,114,101,110,116,95,112,114,101,100,105,99,97,116,101,32,36,101,114,97,115,101,32,99,117,114,114,101,110,116,95,105,110,112,117,116,32,99,117,114,114,101,110,116,95,111,117,116,112,117,116,32,115,101,116,95,105,110,112,117,116,32,115,101,116,95,111,117,116,112,117,116,32,99,108,111,115,101,32,102,108,117,115,104,95,111,117,116,112,117,116,32,97,116,95,101,110,100,95,111,102,95,115,116,114,101,97,109,32,103,101,116,95,99,104,97,114,32,112,101,101,107,95,99,104,97,114,32,112,117,116,95,99,104,97,114,32,103,101,116,95,99,111,100,101,32,112,101,101,107,95,99,111,100,101,32,112,117,116,95,99,111,100,101,32,110,108,32,114,101,97,100,32,119,114,105,116,101,32,119,114,105,116,101,113,32,119,114,105,116,101,95,99,97,110,111,110,105,99,97,108]
def nm1:List (List UInt8):=sp rs1
def rs2:List UInt8:=[44,32,59,32,45,62,32,61,32,100,101,108,95,97,116,116,114,32,99,97,108,108,32,99,117,114,114,101,110,116,95,99,104,97,114,95,99,111,110,118,101,114,115,105,111,110,32,99,104,97,114,95,99,111,110,118,101,114,115,105,111,110,32,115,101,116,95,112,114,111,108,111,103,95,102,108,97,103,32,99,117,114,114,101,110,116,95,112,114,111,108,111,103,95,102,108,97,103,32,105,115,32,61,58,61,32,61,92,61,32,60,32,62,32,61,60,32,62,61,32,61,61,32,92,61,61,32,64,60,32,64,61,60,32,64,62,32,64,62,61,32,92,61,32,61,46,46,32,99,111,112,121,95,116,101,114,109,32,116,101,114,109,95,118,97,114,105,97,98,108,101,115,32,108,101,110,103,116,104,32,109,115,111,114,116,32,115,111,114,116,32,107,101,121,115,111,114,116,32,97,116,111,109,95,108,101,110,103,116,104,32,97,116,111,109,95,99,104,97,114,115,32,97,116,111,109,95,99,111,100,101,115,32,99,104,97,114,95,99,111,100,101,32,110,117,109,98,101,114,95,99,104,97,114,115,32,110,117,109,98,101,114,95,99,111,100,101,115,32,99,108,97,117,115,101,32,99,108,111,115,101,32,103,101,116,95,99,104,97,114,32,112,101,101,107,95,99,104,97,114,32,112,117,116,95,99,104,97,114,32,103,101,116,95,99,111,100,101,32,112,101,101,107,95,99,111,100,101,32,112,117,116,95,99,111,100,101,32,114,101,97,100,32,114,101,97,100,95,116,101,114,109,32,119,114,105,116,101,32,119,114,105,116,101,113,32,119,114,105,116,101,95,99,97,110,111,110,105,99,97,108,32,119,114,105,116,101,95,116,101,114,109]
def nm2:List (List UInt8):=sp rs2
def rs3:List UInt8:=[99,97,108,108,32,99,97,116,99,104,32,102,105,110,100,97,108,108,32,98,97,103,111,102,32,115,101,116,111,102,32,112,117,116,95,97,116,116,114,32,103,101,116,95,97,116,116,114,32,111,112,32,99,117,114,114,101,110,116,95,111,112,32,99,111,109,112,97,114,101,32,102,117,110,99,116,111,114,32,97,114,103,32,98,101,116,119,101,101,110,32,97,116,111,109,95,99,111,110,99,97,116,32,36,99,108,97,117,115,101,32,36,98,97,103,32,36,115,101,116,32,111,112,101,110,32,114,101,97,100,95,116,101,114,109,32,119,114,105,116,101,95,116,101,114,109]
def nm3:List (List UInt8):=sp rs3
def rs4:List UInt8:=[99,97,108,108,32,111,112,101,110]
def nm4:List (List UInt8):=sp rs4
def rs5:List UInt8:=[99,97,108,108,32,115,117,98,95,97,116,111,109]
def nm5:List (List UInt8):=sp rs5
def rs6:List UInt8:=[99,97,108,108]
def nm6:List (List UInt8):=sp rs6
def Q2(n:Int):List (List UInt8):=if n=0 then nm0 else if n=1 then nm1 else if n=2 then nm2 else if n=3 then nm3 else if n=4 then nm4 else if n=5 then nm5 else if n=6 then nm6 else if n=7 then nm6 else if n=8 then nm6 else[]
def rsOf:List PV:=[.str rs0,.str rs1,.str rs2,.str rs3,.str rs4,.str rs5,.str rs6,.str rs6,.str rs6]
theorem Qt{s:List UInt8}{l:List (List UInt8)}(h1:decide (s.length<4294967281)=true)(h2:s.all (fun b=>decide (b.toNat<128))=true)(h3:Lib.fields s=l)(hp:Heap):S 36 [O7 s] hp=some (.ret (.pv none (.sl none (strs l))),hp):=by
 have h:Qr 36 [O7 s] hp=some (.ret (.pv none (.sl none (strs l))),hp):=by
  unfold Qr;simp only[];rw[Zd ⟨zl h1,h2⟩,h3];rfl
 rw[S,ky (F:=find tab) (prim:=prim) (p:=Qr) rfl];exact h
theorem fl0(hp:Heap):S 36 [O7 rs0] hp=some (.ret (.pv none (.sl none (strs nm0))),hp):=Qt (by kernel_rfl) (by kernel_rfl) (by kernel_rfl) hp
theorem fl1(hp:Heap):S 36 [O7 rs1] hp=some (.ret (.pv none (.sl none (strs nm1))),hp):=Qt (by kernel_rfl) (by kernel_rfl) (by kernel_rfl) hp
theorem fl2(hp:Heap):S 36 [O7 rs2] hp=some (.ret (.pv none (.sl none (strs nm2))),hp):=Qt (by kernel_rfl) (by kernel_rfl) (by kernel_rfl) hp
theorem fl3(hp:Heap):S 36 [O7 rs3] hp=some (.ret (.pv none (.sl none (strs nm3))),hp):=Qt (by kernel_rfl) (by kernel_rfl) (by kernel_rfl) hp
theorem fl4(hp:Heap):S 36 [O7 rs4] hp=some (.ret (.pv none (.sl none (strs nm4))),hp):=Qt (by kernel_rfl) (by kernel_rfl) (by kernel_rfl) hp
theorem fl5(hp:Heap):S 36 [O7 rs5] hp=some (.ret (.pv none (.sl none (strs nm5))),hp):=Qt (by kernel_rfl) (by kernel_rfl) (by kernel_rfl) hp
theorem fl6(hp:Heap):S 36 [O7 rs6] hp=some (.ret (.pv none (.sl none (strs nm6))),hp):=Qt (by kernel_rfl) (by kernel_rfl) (by kernel_rfl) hp
theorem mT:S 37 [] []=some (.ret (.pv (some 9) (.agg (rsOf.map fun p=>(none,p)))),[]):=sem_iff.2 ⟨20,by kernel_rfl⟩
theorem xj{n:Int}{r:List UInt8}{l:List (List UInt8)}(h1:¬n<0)(h2:¬8<n)(ha:∀s':Sh,xS 9 [.pv s' (.agg (rsOf.map fun p=>(none,p))),O5 n]=some (O7 r))(hf:∀hp:Heap,S 36 [O7 r] hp=some (.ret (.pv none (.sl none (strs l))),hp))(hl:l.length<=1000000)(s:List UInt8)(hp:Heap):S 13 [O7 s,O5 n] hp=some (.ret (O6 (decide (s∈l))),hp):=by
 refine Ya rfl rfl rfl (z8 [(none,.str s),(none,.int .i64 n)]) rfl ?_;have hr:=mT;have hc:=mS l s hl;generalize decide (s∈l)=q at hc;simp -dsimp -implicitDefEqProofs only[go_sem,seval,hr,h1,h2,ha,hf,hc]
theorem gc(s:List UInt8)(n:Int)(hp:Heap):S 13 [O7 s,O5 n] hp=some (.ret (O6 (decide (s∈Q2 n))),hp):=by
 by_cases hn:n<0\/8<n
 ·have e:Q2 n=[]:=by
   unfold Q2;simp only[show ¬n=0 by omega,show ¬n=1 by omega,show ¬n=2 by omega,show ¬n=3 by omega,show ¬n=4 by omega,show ¬n=5 by omega,show ¬n=6 by omega,show ¬n=7 by omega,show ¬n=8 by omega,if_false]
  rw[e];refine Ya rfl rfl rfl (z8 [(none,.str s),(none,.int .i64 n)]) rfl ?_;by_cases h:n<0
  ·simp -dsimp -implicitDefEqProofs only[go_sem,seval,h];simp
  ·have h2:8<n:=by omega
   simp -dsimp -implicitDefEqProofs only[go_sem,seval,h,h2];simp
 ·have h:n=0\/n=1\/n=2\/n=3\/n=4\/n=5\/n=6\/n=7\/n=8:=by omega
  rcases h with rfl|rfl|rfl|rfl|rfl|rfl|rfl|rfl|rfl
  ·exact xj (by decide) (by decide) (fun _=>rfl) fl0 (by decide) s hp
  ·exact xj (by decide) (by decide) (fun _=>rfl) fl1 (by decide) s hp
  ·exact xj (by decide) (by decide) (fun _=>rfl) fl2 (by decide) s hp
  ·exact xj (by decide) (by decide) (fun _=>rfl) fl3 (by decide) s hp
  ·exact xj (by decide) (by decide) (fun _=>rfl) fl4 (by decide) s hp
  ·exact xj (by decide) (by decide) (fun _=>rfl) fl5 (by decide) s hp
  ·exact xj (by decide) (by decide) (fun _=>rfl) fl6 (by decide) s hp
  ·exact xj (by decide) (by decide) (fun _=>rfl) fl6 (by decide) s hp
  ·exact xj (by decide) (by decide) (fun _=>rfl) fl6 (by decide) s hp
theorem Vt(hp:Heap):S 27 [] hp=some (.ret (.map hp.length),hp++[.map none (YX 8 prS prN prF)]):=by
 rw[S,ky (F:=find tab) (prim:=prim) (p:=qJ none (YX 8 prS prN prF)) rfl];rfl
def xk(b:Tm):PV:=.iface 94 (some 4) (.agg [(some 4,b.pv)])
def Q3(e:Int):PV:=.iface 96 (some 1) (.agg [(none,.int .i64 e)])
theorem gd(b:Tm)(hp:Heap):S 85 [b.av] hp=some (.panic (xk b),hp):=by
 refine QV rfl rfl rfl (z8 [(some 4,b.pv)]) rfl ?_;have hsb:Yi [(some 4,.agg A0)] [0] [.pv (some 4) b.pv]=some (.pv (some 4) (.agg [(some 4,b.pv)])):=rfl;have hmi:∀(s:Sh) (p:PV),X4 94 [.pv s p]=some (.pv none (.iface 94 s p)):=fun _ _=>rfl;have hpan:∀A:Prop,panK true A=A:=fun _=>rfl;simp -dsimp -implicitDefEqProofs only[go_sem,seval,Tm.av,hsb,hmi,hpan,QU]
 try rfl
theorem mU(hp:Heap):S 86 [O5 0] hp=some (.ret (.tuple []),hp):=by
 refine Ya rfl rfl rfl (z8 [(none,.int .i64 0)]) rfl ?_;simp -dsimp -implicitDefEqProofs only[go_sem,seval]
 try rfl
theorem mV(e:Int)(h:e≠0)(hp:Heap):S 86 [O5 e] hp=some (.panic (Q3 e),hp):=by
 refine QV rfl rfl rfl (z8 [(none,.int .i64 e)]) rfl ?_;have hsb:Yi A5 [0] [O5 e]=some (.pv (some 1) (.agg [(none,.int .i64 e)])):=rfl;have hmi:∀(s:Sh) (p:PV),X4 96 [.pv s p]=some (.pv none (.iface 96 s p)):=fun _ _=>rfl;have hpan:∀A:Prop,panK true A=A:=fun _=>rfl;simp -dsimp -implicitDefEqProofs only[go_sem,seval,h,hsb,hmi,hpan,QU]
 try rfl
def cB(d:Dbs)(g:Tm)(s:AV):AV:=.agg [(some 2,.pv (some 2) d.pv),(some 4,.pv (some 4) g.pv),(none,s)]
theorem Vu(d:Dbs)(g:Tm)(s:AV):AV.part deep (cB d g s) 0 (some 2)=some (.pv (some 2) d.pv):=rfl
def XH(d:Dbs)(s:List UInt8)(a:Int):Bool:=decide (s∈Q2 a) || ((YC d s a).isSome && !((YC d s a).getD zP).dyn)
theorem ge(d:Dbs)(hb:BndD d)(g:Tm)(sv:AV)(s:List UInt8)(a:Int)(hp:Heap)(r:Nat)(hr:hp[r]? =some (.box (some 7) (cB d g sv))):S 98 [.ptr r 0,O7 s,O5 a] hp=some (.ret (O6 (XH d s a)),hp):=by
 refine yp rfl rfl rfl rfl ?_;have hr':∀X,(hp++X)[r]? =some (.box (some 7) (cB d g sv)):=fun X=>by rw[yY (ya hr),hr]
 have h1:=fun hp=>Vk d hb s a hp;have h2:=fun hp=>gc s a hp;unfold XH;generalize (YC d s a).getD zP=w at h1;generalize (YC d s a).isSome=z at h1;generalize decide (s∈Q2 a)=q at h2;have p2:=Vc w;simp only[Dbs.av,Prc.av] at h1;cases q <;> cases z
 all_goals simp -dsimp -implicitDefEqProofs only[go_sem,seval,xi,h1,h2,hr,hr',Vu,p2,Yn,z7 (Zs _ _)]
 all_goals simp[AV.refsIn]
def stN:List UInt8:=[115,116,97,116,105,99,95,112,114,111,99,101,100,117,114,101]
def moN:List UInt8:=[109,111,100,105,102,121]
theorem mW(d:Dbs)(hb:BndD d)(g:Tm)(sv:AV)(s:List UInt8)(a:Int)(t:Tm)(hs:XH d s a=false)(hp:Heap)(r:Nat)(hr:hp[r]? =some (.box (some 7) (cB d g sv))):S 87 [.ptr r 0,O7 s,O5 a,t.av] hp=some (.ret (.tuple []),hp):=by
 refine yp rfl rfl rfl rfl ?_;have hr':∀X,(hp++X)[r]? =some (.box (some 7) (cB d g sv)):=fun X=>by rw[yY (ya hr),hr]
 have h1:∀X,_:=fun X=>ge d hb g sv s a (hp++X) r (hr' X);rw[hs] at h1;simp -dsimp -implicitDefEqProofs only[go_sem,seval,Tm.av,h1];simp[AV.refsIn,AV.refsIn.gol]
theorem mX(d:Dbs)(hb:BndD d)(g:Tm)(sv:AV)(s:List UInt8)(a:Int)(t:Tm)(hv:t.valid=true)(hs:XH d s a=true)(hp:Heap)(r:Nat)(hr:hp[r]? =some (.box (some 7) (cB d g sv))):S 87 [.ptr r 0,O7 s,O5 a,t.av] hp=some (.panic (xk (perT moN stN t)),hp):=by
 obtain⟨v,hp',h,rfl,rfl⟩:∃v hp',S 87 [.ptr r 0,O7 s,O5 a,t.av] hp=some (v,hp')/\v=.panic (xk (perT moN stN t))/\hp'=hp:=by
  refine GD (fun v hp'=>v=.panic (xk (perT moN stN t))/\hp'=hp) rfl rfl rfl rfl ?_;have hr':∀X,(hp++X)[r]? =some (.box (some 7) (cB d g sv)):=fun X=>by rw[yY (ya hr),hr]
  have h1:∀X,_:=fun X=>ge d hb g sv s a (hp++X) r (hr' X);rw[hs] at h1;have h2:=fun hp=>mH moN stN (by decide) (by decide) t hv hp;have h3:=fun hp=>gd (perT moN stN t) hp;have hpan:∀A:Prop,panK true A=A:=fun _=>rfl;simp only[Tm.av,moN,stN] at h2 h3;simp -dsimp -implicitDefEqProofs only[go_sem,seval,Tm.av,moN,stN,h1,h2,h3,hpan,jk,k9,Va]
  first|exact⟨rfl,Z7⟩|exact Z7|exact ZS
 exact h
theorem gf(nm:List UInt8)(k:Int)(hn:nm.length<=100)(hk:indB k=none)(hp:Heap):S 91 [(indT nm k).av] hp=some (.ret (.tuple [O7 nm,O5 k]),hp):=by
 refine Ya rfl rfl rfl (z8 [(some 4,(indT nm k).pv)]) rfl ?_;have h1:=fun hp=>G8 nm k hn hp;rw[hk] at h1;simp only[Tm.av,Option.getD_none,Option.isNone_none] at h1;simp -dsimp -implicitDefEqProofs only[go_sem,seval,Tm.av,h1,z7 (Ze _)]
 try rfl
theorem mY(nm:List UInt8)(k:Int)(hn:nm.length<=100)(b:Tm)(hk:indB k=some b)(hp:Heap):S 91 [(indT nm k).av] hp=some (.panic (xk b),hp):=by
 refine QV rfl rfl rfl (z8 [(some 4,(indT nm k).pv)]) rfl ?_;have h1:=fun hp=>G8 nm k hn hp;have h2:=fun hp=>gd b hp;rw[hk] at h1;have hpan:∀A:Prop,panK true A=A:=fun _=>rfl;simp only[Tm.av,zH,Option.isNone_some] at h1 h2;simp -dsimp -implicitDefEqProofs only[go_sem,seval,Tm.av,h1,h2,hpan,QU,z7 (Ze _)]
 try rfl
theorem mZ(d:Dbs)(g:Tm)(s:AV):AV.part deep (cB d g s) 2 (some 4)=some (.pv (some 4) g.pv):=rfl
theorem m5(d:Dbs)(g:Tm)(s:AV):AV.part deep (cB d g s) 5 none=some (.pv none (.sl (some 4) (Tm.pvs g.args))):=by cases g;rfl
abbrev slA(q m:Nat):AV:=.sl (some 4) q m 0 m
theorem m6{d n:Dbs}{g:Tm}{q m b:Nat}{hp:Heap}{r:Nat}(hr:hp[r]? =some (.box (some 7) (cB d g (slA q m))))(hb:r<b):Yb (some 2) b hp [.ptr r 0,.pv (some 2) n.pv]=some (.undef,hp.set r (.box (some 7) (cB n g (slA q m)))):=by
 have hu:AV.upd deep (cB d g (slA q m)) 0 (some 2) (.pv (some 2) n.pv)=some (cB n g (slA q m)):=rfl;have hb':¬b<=r:=by omega
 simp[Yb,astore,hr,hb',AV.plain,AV.shp,AV.refsIn,hu]
theorem m7{d:Dbs}{g:Tm}{q m b:Nat}{hp:Heap}{r:Nat}(hr:hp[r]? =some (.box (some 7) (cB d g (slA q m))))(hb:r<b):Yb none b hp [.ptr r 6,.tsl (some 4) [g.pv]]=some (.undef,hp.set r (.box (some 7) (cB d g (.tsl (some 4) [g.pv])))):=by
 have hu:AV.upd deep (cB d g (slA q m)) 6 none (.tsl (some 4) [g.pv])=some (cB d g (.tsl (some 4) [g.pv])):=rfl;have hb':¬b<=r:=by omega
 simp[Yb,astore,hr,hb',AV.plain,AV.shp,AV.refsIn,hu]
theorem m8(d:Dbs)(g:Tm)(q m:Nat)(hp:Heap)(r:Nat)(hr:hp[r]? =some (.box (some 7) (cB d g (slA q m)))):S 90 [.ptr r 0] hp=some (.ret (.tuple []),hp.set r (.box (some 7) (cB d g (.tsl (some 4) [g.pv])))):=by
 refine yp rfl rfl rfl rfl ?_;have hs:=m7 hr (ya hr);simp -dsimp -implicitDefEqProofs only[go_sem,seval,xi,hr,mZ,hs];have hl:(hp.set r (.box (some 7) (cB d g (.tsl (some 4) [g.pv])))).length=hp.length:=by simp
 rw[<-hl];exact ZS
def Bq(hp:Heap):Prop:=∀x∈hp,AObj.beq x x=true
theorem Bq.same:∀{hp:Heap},Bq hp->yW hp hp=true
 |[],_=>rfl
 |x::r,h=>by
  show(AObj.beq x x && yW r r)=true;rw[h x ZT,Bq.same (hp:=r) fun y hy=>h y (Zy _ hy)];rfl
theorem Bq.app{a b:Heap}(h1:Bq a)(h2:Bq b):Bq (a++b):=fun x hx=>(ZE.1 hx).elim (h1 x) (h2 x)
theorem Bq.cons{x:AObj}{b:Heap}(h1:AObj.beq x x=true)(h2:Bq b):Bq (x::b):=fun y hy=>(Zl.1 hy).elim (fun e=>e▸h1) (h2 y)
theorem Bq.nil:Bq []:=fun _ h=>by cases h
theorem Bq.set{hp:Heap}(h:Bq hp)(i:Nat){x:AObj}(hx:AObj.beq x x=true):Bq (hp.set i x):=fun y hy=>by
 rcases List.mem_or_eq_of_mem_set hy with h1|rfl
 ·exact h y h1
 ·exact hx
theorem yt(t:Tm):AObj.beq (.box (some 4) (.pv (some 4) t.pv)) (.box (some 4) (.pv (some 4) t.pv))=true:=by simp[AObj.beq,AV.beq,Q0]
theorem m9{es:List PV}(h:∀x∈es,PV.beq x x=true):PV.beqs es es=true:=by
 induction es with
 |nil=>rfl
 |cons x r ih=>
  show(PV.beq x x && PV.beqs r r)=true;rw[h x ZT,ih fun y hy=>h y (Zy _ hy)];rfl
def gK(r:Option (ARes × Heap))(hp:Heap)(K:AV->Heap->Prop):Prop:=match r with
 |some (.ret v,hp')=>yW (hp'.take hp.length) hp=true/\K v hp'
 |_=>False
theorem Q4{Γ:Oracle}{b:Nat}{s:Sh}{f:FuncId}{vs:List AV}{hp:Heap}{K:AV->Heap->Prop}{Kp:PV->Heap->Prop}:opK (aOp Γ b .callg (.pv s (.func (.func f))::vs) hp) K Kp=gK (Γ .fn f vs hp) hp K:=by
 unfold gK;simp only[aOp,xZ,yw,yL,ZP,ZB];cases Γ .fn f vs hp with
 |none=>rfl
 |some r=>
  obtain⟨r,hp'⟩:=r;cases r with
  |panic p=>rfl
  |ret v=>
   by_cases h:yW (hp'.take hp.length) hp=true
   ·simp only[h,if_true,true_and];rfl
   ·have h':yW (hp'.take hp.length) hp=false:=by simpa using h
    simp only[h',ZM,if_false,false_and];rfl
theorem Q5{v:AV}{hp hp':Heap}{K:AV->Heap->Prop}:gK (some (.ret v,hp')) hp K=(yW (hp'.take hp.length) hp=true/\K v hp'):=rfl
theorem jx{hp a b:Heap}(h:Bq hp):yW (hp++a) (hp++b)=yW a b:=by
 induction hp with
 |nil=>rfl
 |cons x r ih=>
  show(AObj.beq x x && yW (r++a) (r++b))=_;rw[h x ZT,ih fun y hy=>h y (Zy _ hy)];rfl
theorem Jb(x y:AObj)(a b:Heap):yW (x::a) (y::b)=(AObj.beq x y && yW a b):=rfl
theorem Jc:yW [] []=true:=rfl
theorem YA(s:Sh)(z:Bool):AObj.beq (.arr s [] z) (.arr s [] z)=true:=by simp[AObj.beq,PV.beqs]
theorem Na(l:List Tm):PV.beqs (Tm.pvs l) (Tm.pvs l)=true:=m9 fun x hx=>by
 rw[Tm.zyS] at hx;obtain⟨t,_,rfl⟩:=Z0.1 hx;exact Q0 t
theorem Jd(s:Sh)(l:List Tm)(z:Bool):AObj.beq (.arr s (Tm.pvs l) z) (.arr s (Tm.pvs l) z)=true:=by simp[AObj.beq,Na]
def Ys:List Tm->Tm
 |[]=>nilT
 |x::r=>strT [46] [x,Ys r]
def comT:List Tm->Tm
 |[]=>nilT
 |[x]=>x
 |x::y::r=>strT [44] [x,comT (y::r)]
theorem gg(x y:Tm):cs (strT [46] [x,y]):=⟨rfl,rfl,rfl⟩
theorem gh:∀l:List Tm,els (Ys l)=l
 |[]=>js (by decide)
 |x::r=>by
  show els (strT [46] [x,Ys r])=_;rw[Vn (gg _ _)];show x::els (Ys r)=_;rw[gh r]
theorem gi:∀l:List Tm,tl (Ys l)=nilT
 |[]=>tl_n (by decide)
 |x::r=>by
  show tl (strT [46] [x,Ys r])=_;rw[tl_c (gg _ _)];exact gi r
def Nb(t:Tm):Prop:=∃s k,t=indT s k
theorem gj(l:List Tm)(hv:(Ys l).valid=true)(hp:Heap):S 93 [(Ys l).av] hp=some (.ret (.pv none (.sl (some 4) (Tm.pvs l))),hp):=by
 refine yp rfl rfl rfl rfl ?_;have h1:=fun hp=>G0 (Ys l) hv hp;rw[gh,gi] at h1;have n0:PV.part deep nilT.pv 0 none=some (.int .i64 2):=rfl;have n2:PV.part deep nilT.pv 2 none=some (.str [91,93]):=rfl;have hn0:=O1;cases l with
 |nil=>
  have k1:=Zp (show ¬(Ys []).kind=3 by decide);generalize Ys []=T at*;simp only[Tm.av] at h1;simp -dsimp -implicitDefEqProofs only[go_sem,seval,Tm.av,Yk,Yt,Yd,Tm.pvs_len,k1,h1,n0,n2,hn0,Yn,z7 (Zs _ _)];simp[AV.refsIn]
 |cons x r=>
  have k1:=Zn (show(Ys (x::r)).kind=3 from rfl);have k2:=Zp (show ¬(Ys (x::r)).name=[44] from fun h=>by cases h);generalize Ys (x::r)=T at*;simp only[Tm.av] at h1;simp -dsimp -implicitDefEqProofs only[go_sem,seval,Tm.av,Yk,Yt,Yd,Tm.pvs_len,k1,k2,h1,n0,n2,hn0,Yn,z7 (Zs _ _)];simp[AV.refsIn]
def e5(t:Tm):Heap:=[.box (some 4) (.pv (some 4) t.pv),.arr (some 4) [] false,.box (some 4) (.pv (some 4) t.pv),.arr (some 4) [] false,.arr (some 4) [t.pv] false]
theorem gk(s:List UInt8)(k:Int)(hv:(indT s k).valid=true)(hp:Heap):S 93 [(indT s k).av] hp=some (.ret (.sl (some 4) (hp.length+4) 1 0 1),hp++e5 (indT s k)):=by
 refine yp rfl rfl rfl rfl ?_;have h1:=fun hp=>G0 (indT s k) hv hp;have hc:¬cs (indT s k):=fun h=>by have:=h.2.1;cases this
 rw[js hc,tl_n hc] at h1;have hn0:=O1;have k1:=Zn (show(indT s k).kind=3 from rfl);have k2:=Zp (show ¬(indT s k).name=[44] from fun h=>by cases h);have k3:=Zp (show ¬(3:Int)=2 by decide);have k4:=Zp (show ¬(3:Int)=0 by decide);have n0:PV.part deep (indT s k).pv 0 none=some (.int .i64 3):=rfl;unfold e5;generalize indT s k=T at*;have hbo:∀(H:Heap) (p:PV),xY (some 4) H [.pv (some 4) p]=some (.sl (some 4) H.length 1 0 1,H++[.arr (some 4) [p] false]):=fun _ _=>rfl;simp only[Tm.av,Tm.pvs] at h1;simp -dsimp -implicitDefEqProofs only[go_sem,seval,Tm.av,Yt,Yd,Tm.pvs_len,k2,k3,k4,h1,n0,hn0,hbo,Yn,z7 (Zs _ _)];rw[Za (by simp[AV.refsIn])]
 try exact⟨rfl,rfl⟩
theorem Nc{hp E2:Heap}(a b c d e f:AObj)(x:PV)(k:Nat)(es:List PV)(n:Nat)(hn:es.length=n)(h0:0<n)(hl:n<1000000)(he:E2[k]? =some (.arr (some 4) es false)):YK (some 4) (hp++a::b::c::d::e::f::.arr (some 4) [x] false::E2) [.sl (some 4) (hp.length+6) 1 0 1,.sl (some 4) (hp.length+(7+k)) n 0 n]=some (.sl (some 4) (hp.length+6) (n+1) 0 (n+1),hp++a::b::c::d::e::f::.arr (some 4) (x::es) false::E2):=by
 have g1:(hp++a::b::c::d::e::f::.arr (some 4) [x] false::E2)[hp.length+6]? =some (.arr (some 4) [x] false):=by rw[yc];rfl
 have g2:(hp++a::b::c::d::e::f::.arr (some 4) [x] false::E2)[hp.length+(7+k)]? =some (.arr (some 4) es false):=by
  rw[yc,show 7+k=k+1+1+1+1+1+1+1 by omega];simpa using he
 have hlim:n+1<=lim:=by unfold lim;omega
 have e1:1+n=n+1:=by omega
 have hne:es≠[]:=fun h=>by rw[h] at hn;simp at hn;omega
 simp[YK,aappend,elems,g1,g2,hn,hlim,e1]
theorem gl(t:Tm):∀o∈e5 t,o.refs=[]/\AObj.beq o o=true:=by
 intro o ho;simp only[e5,Zl,zj,or_false] at ho;have ha:=Jd (some 4) [t] false;rcases ho with rfl|rfl|rfl|rfl|rfl
 ·exact⟨rfl,yt t⟩
 ·exact⟨rfl,YA _ _⟩
 ·exact⟨rfl,yt t⟩
 ·exact⟨rfl,YA _ _⟩
 ·exact⟨rfl,ha⟩
theorem gm:∀(l:List Tm),l≠[]->(∀t∈l,Nb t)->(comT l).valid=true->l.length<1000000->∀hp:Heap,Bq hp->∃(k:Nat) (E:Heap),S 93 [(comT l).av] hp=some (.ret (.sl (some 4) (hp.length+k) l.length 0 l.length),hp++E)/\E[k]? =some (.arr (some 4) (Tm.pvs l) false)/\∀o∈E,o.refs=[]/\AObj.beq o o=true
 |[],h,_,_,_,_,_=>absurd rfl h
 |[x],_,hi,hv,_,hp,hb=>by
  obtain⟨s,k,rfl⟩:=hi x (by simp);exact⟨4,e5 (indT s k),gk s k hv hp,rfl,gl _⟩
 |x::y::r,_,hi,hv,hlen,hp,hb=>by
  have hv:(strT [44] [x,comT (y::r)]).valid=true:=hv;have vx:=yR hv (show x∈[x,comT (y::r)] by simp);have vy:=yR hv (show comT (y::r)∈[x,comT (y::r)] by simp);obtain⟨T,hT⟩:∃T,T=strT [44] [x,comT (y::r)]:=⟨_,rfl⟩;have hx:=hi x (by simp);have bT:∀o∈([.box (some 4) (.pv (some 4) T.pv),.arr (some 4) [] false]:Heap),AObj.beq o o=true:=by
   intro o ho;simp only[Zl,zj,or_false] at ho;rcases ho with rfl|rfl
   ·exact yt T
   ·exact YA _ _
  obtain⟨k,E2,h2,hk,hE⟩:=gm (y::r) (by simp) (fun t ht=>hi t (Zy _ ht)) vy (by simp at hlen ⊢;omega) (hp++([.box (some 4) (.pv (some 4) T.pv),.arr (some 4) [] false]++e5 x)) (hb.app (Bq.app (a:=[.box (some 4) (.pv (some 4) T.pv),.arr (some 4) [] false]) bT fun o ho=>(gl x o ho).2));have h1:S 93 [x.av] (hp++([.box (some 4) (.pv (some 4) T.pv),.arr (some 4) [] false]:Heap))=some (.ret (.sl (some 4) (hp.length+6) 1 0 1),hp++(([.box (some 4) (.pv (some 4) T.pv),.arr (some 4) [] false]:Heap)++e5 x)):=by
   obtain⟨s,kk,rfl⟩:=hx;rw[gk s kk vx];simp
  have e1:(hp++(([.box (some 4) (.pv (some 4) T.pv),.arr (some 4) [] false]:Heap)++e5 x)).length+k=hp.length+(7+k):=by
   simp[e5];omega
  rw[e1] at h2;have hn:(Tm.pvs (y::r)).length=(y::r).length:=Tm.pvs_len _;have hap:=fun a b c d e f=>Nc (hp:=hp) (E2:=E2) a b c d e f x.pv k (Tm.pvs (y::r)) (y::r).length hn (by simp) (by simp at hlen ⊢;omega) hk;obtain⟨n,hnd⟩:∃n,n=(y::r).length:=⟨_,rfl⟩;have hx1:(x::y::r).length=n+1:=by rw[hnd];rfl
  rw[<-hnd] at hap h2;refine⟨6,AObj.box (some 4) (.pv (some 4) T.pv)::AObj.arr (some 4) [] false::AObj.box (some 4) (.pv (some 4) x.pv)::AObj.arr (some 4) [] false::AObj.box (some 4) (.pv (some 4) x.pv)::AObj.arr (some 4) [] false::AObj.arr (some 4) (x.pv::Tm.pvs (y::r)) false::E2,?_,rfl,?_⟩
  ·show S 93 [(strT [44] [x,comT (y::r)]).av] hp=_;rw[<-hT];have k1:=Zn (show T.kind=3 by rw[hT];rfl);have k2:=Zn (show T.name=[44] by rw[hT];rfl);have k3:=Zn (show((T.args.length:Nat):Int)=2 by rw[hT];rfl);have i0:(Tm.pvs T.args)[0]? =some x.pv:=by rw[hT];rfl
   have i1:(Tm.pvs T.args)[1]? =some (comT (y::r)).pv:=by rw[hT];rfl
   have hn0:=O1;rw[hx1];generalize comT (y::r)=C at*;generalize Tm.pvs (y::r)=es at*;clear hT;simp only[Tm.av,e5,ZJ,ZP] at h1 h2;refine yp rfl rfl rfl rfl ?_;simp -dsimp -implicitDefEqProofs only[go_sem,seval,Tm.av,Yk,Yt,Yd,Tm.pvs_len,k1,k2,k3,ia0 i0,ia1 i1,h1,h2,hap,hn0,Q4,Q5,xL rfl,jx hb,ZW,Jb,Jc,yt,YA,Yn,z7 (Zs _ _)];rw[Za (by simp[AV.refsIn])]
   try exact⟨rfl,rfl⟩
  ·intro o ho;simp only[Zl] at ho;rcases ho with rfl|rfl|rfl|rfl|rfl|rfl|rfl|ho
   ·exact⟨rfl,yt T⟩
   ·exact⟨rfl,YA _ _⟩
   ·exact⟨rfl,yt x⟩
   ·exact⟨rfl,YA _ _⟩
   ·exact⟨rfl,yt x⟩
   ·exact⟨rfl,YA _ _⟩
   ·exact⟨rfl,Jd (some 4) (x::y::r) false⟩
   ·exact hE o ho
def ids(l:List Prc):List Int:=l.flatMap fun p=>p.cls.map (·.id)
theorem gn(A B:List Prc):ids (A++B)=ids A++ids B:=by simp[ids]
theorem Q6(p:Prc)(B:List Prc):ids (p::B)=p.cls.map (·.id)++ids B:=by simp[ids]
theorem mem_ids{l:List Prc}{x:Int}:x∈ids l↔∃p∈l,∃s∈p.cls,s.id=x:=by simp[ids]
def okS(next:Int)(p:Prc)(s:Sto):Prop:=1<=s.id/\s.id<next/\okC s.cl=true/\s.cl.head.name=p.name/\(s.cl.head.args.length:Int)=p.ar
theorem gq(next:Int)(p:Prc)(seen:List Int)(s:Sto):okSt next p seen s=true↔s.id ∉ seen/\okS next p s:=by
 unfold okSt okS;simp only[Zg,Zr];constructor
 ·rintro⟨a,b,c,d,e,f⟩;exact⟨c,a,b,d,e,f⟩
 ·rintro⟨c,a,b,d,e,f⟩;exact⟨a,b,c,d,e,f⟩
theorem Vv(next:Int)(p:Prc):∀(l:List Sto) (seen s':List Int),okSs next p seen l=some s'↔s'=seen++l.map (·.id)/\(l.map (·.id)).Nodup/\(∀x∈l,x.id ∉ seen)/\∀s∈l,okS next p s
 |[],seen,s'=>by simp[okSs,eq_comm]
 |s::r,seen,s'=>by
  rw[okSs];by_cases h:okSt next p seen s=true
  ·rw[Zd h,Vv next p r];obtain⟨h1,h2⟩:=(gq ..).1 h;constructor
   ·rintro⟨rfl,g1,g2,g3⟩;refine⟨by simp,List.nodup_cons.2 ⟨fun hm=> ?_,g1⟩,fun x hx=> ?_,fun x hx=> ?_⟩
    ·obtain⟨u,hu,e⟩:=Z0.1 hm;exact g2 u hu (by rw[e];simp)
    ·rcases Zl.1 hx with rfl|hx
     ·exact h1
     ·exact fun hm=>g2 x hx (by simp[hm])
    ·rcases Zl.1 hx with rfl|hx
     ·exact h2
     ·exact g3 x hx
   ·rintro⟨rfl,g1,g2,g3⟩;obtain⟨k1,k2⟩:=List.nodup_cons.1 g1;refine⟨by simp,k2,fun x hx hm=> ?_,fun x hx=>g3 x (Zy _ hx)⟩;rcases ZE.1 hm with hm|hm
    ·exact g2 x (Zy _ hx) hm
    ·exact k1 (Z0.2 ⟨x,hx,by simpa using hm⟩)
  ·rw[Za h];constructor
   ·intro hh;cases hh
   ·rintro⟨_,_,g2,g3⟩;exact absurd ((gq ..).2 ⟨g2 s ZT,g3 s ZT⟩) h
def OkP(next:Int)(l:List Prc):Prop:=(∀p∈l,namB p=true)/\l.Pairwise (fun a b=>ordP a b<0)/\(ids l).Nodup/\∀p∈l,∀s∈p.cls,okS next p s
theorem gr(next:Int):∀(l:List Prc) (q:Option Prc) (seen:List Int),okPs next q seen l=true->OkP next l/\(∀p,l.head? =some p->preB q p=true)/\∀x∈ids l,x ∉ seen
 |[],q,seen,_=>⟨⟨fun p h=>(by cases h),List.Pairwise.nil,List.nodup_nil,fun p h=>(by cases h)⟩,fun p h=>(by cases h),fun x h=>(by cases h)⟩
 |x::r,q,seen,h=>by
  rw[okPs,Zg,Zg] at h;obtain⟨h1,h2,h3⟩:=h;split at h3
  ·cases h3
  ·rename_i s' hs;obtain⟨rfl,e2,e3,e4⟩:=(Vv ..).1 hs;obtain⟨⟨g1,g2,g3,g4⟩,g5,g6⟩:=gr next r (some x) _ h3
   have hx:∀b∈r,ordP x b<0:=by
    intro b hb;cases r with
    |nil=>cases hb
    |cons y r'=>
     have h0:ordP x y<0:=zl (g5 y rfl);rcases Zl.1 hb with rfl|hb
     ·exact h0
     ·exact Vi h0 ((List.pairwise_cons.1 g2).1 b hb)
   refine⟨⟨fun p hp=> ?_,List.pairwise_cons.2 ⟨hx,g2⟩,?_,fun p hp=> ?_⟩,fun p hp=>by cases hp;exact h2,fun y hy=> ?_⟩
   ·rcases Zl.1 hp with rfl|hp
    ·exact h1
    ·exact g1 p hp
   ·rw[Q6,List.nodup_append];refine⟨e2,g3,fun a ha b hb e=> ?_⟩;subst e;exact g6 a hb (zR _ ha)
   ·rcases Zl.1 hp with rfl|hp
    ·exact e4
    ·exact g4 p hp
   ·rw[Q6] at hy;rcases ZE.1 hy with hy|hy
    ·obtain⟨u,hu,rfl⟩:=Z0.1 hy;exact e3 u hu
    ·exact fun hm=>g6 y hy (List.mem_append_left _ hm)
theorem gt(next:Int):∀(l:List Prc) (q:Option Prc) (seen:List Int),OkP next l->(∀p,l.head? =some p->preB q p=true)->(∀x∈ids l,x ∉ seen)->okPs next q seen l=true
 |[],q,seen,_,_,_=>rfl
 |x::r,q,seen,⟨h1,h2,h3,h4⟩,h5,h6=>by
  rw[okPs,h1 x ZT,h5 x rfl];rw[Q6,List.nodup_append] at h3;obtain⟨k1,k2⟩:=List.pairwise_cons.1 h2;have hs:okSs next x seen x.cls=some (seen++x.cls.map (·.id)):=(Vv ..).2 ⟨rfl,h3.1,fun u hu=>h6 u.id (by rw[Q6];exact List.mem_append_left _ (Z0.2 ⟨u,hu,rfl⟩)),h4 x ZT⟩
  rw[hs];simp only[Bool.true_and];refine gt next r (some x) _ ⟨fun p hp=>h1 p (Zy _ hp),k2,h3.2.1,fun p hp=>h4 p (Zy _ hp)⟩ (fun p hp=> ?_) fun y hy hm=> ?_
  ·exact ZG (k1 p (List.mem_of_mem_head? (by rw[hp];rfl)))
  ·rcases ZE.1 hm with hm|hm
   ·exact h6 y (by rw[Q6];exact zR _ hy) hm
   ·exact h3.2.2 y hm y hy rfl
theorem Qu(d:Dbs):okD d=true↔1<=d.next/\d.next<=4294967296/\d.procs.length<=500/\totD d.procs<=500/\OkP d.next d.procs:=by
 simp only[okD,Zg,Zr];constructor
 ·rintro⟨a,b,c,e,f⟩;exact⟨a,b,c,e,(gr _ _ _ _ f).1⟩
 ·rintro⟨a,b,c,e,f⟩;exact⟨a,b,c,e,gt _ _ _ _ f (fun _ _=>rfl) fun _ _ h=>by cases h⟩
theorem OkP.mono{n n':Int}{l:List Prc}(h:OkP n l)(hn:n<=n'):OkP n' l:=⟨h.1,h.2.1,h.2.2.1,fun p hp s hs=>by
 obtain⟨a,b,c⟩:=h.2.2.2 p hp s hs;exact⟨a,by omega,c⟩⟩
theorem jy(next:Int)(A B:List Prc)(q:Prc):OkP next (A++q::B)↔OkP next (A++B)/\namB q=true/\(∀a∈A,ordP a q<0)/\(∀b∈B,ordP q b<0)/\(q.cls.map (·.id)).Nodup/\(∀s∈q.cls,s.id ∉ ids (A++B))/\∀s∈q.cls,okS next q s:=by
 have hperm:(ids (A++q::B)).Perm (q.cls.map (·.id)++ids (A++B)):=by
  rw[gn,Q6,gn,<-Zw,<-Zw];exact List.Perm.append_right _ List.perm_append_comm
 unfold OkP;rw[hperm.nodup_iff,List.nodup_append,List.pairwise_append,List.pairwise_append,List.pairwise_cons];constructor
 ·rintro⟨h1,⟨h2,⟨h3,h4⟩,h5⟩,⟨h6,h7,h8⟩,h9⟩;have hs:∀p,p∈A++B->p∈A++q::B:=fun p hp=>by
   rcases ZE.1 hp with hp|hp
   ·exact List.mem_append_left _ hp
   ·exact zR _ (Zy _ hp)
  have hq:q∈A++q::B:=zR _ ZT;exact⟨⟨fun p hp=>h1 p (hs p hp),⟨h2,h4,fun a ha b hb=>h5 a ha b (Zy _ hb)⟩,h7,fun p hp=>h9 p (hs p hp)⟩,h1 q hq,fun a ha=>h5 a ha q ZT,h3,h6,fun s hs' hm=>h8 s.id (Z0.2 ⟨s,hs',rfl⟩) s.id hm rfl,h9 q hq⟩
 ·rintro⟨⟨h1,⟨h2,h4,h5⟩,h7,h9⟩,g1,g2,g3,g4,g5,g6⟩;have hc:∀p,p∈A++q::B->p=q\/p∈A++B:=fun p hp=>by
   rcases ZE.1 hp with hp|hp
   ·exact .inr (List.mem_append_left _ hp)
   ·rcases Zl.1 hp with hp|hp
    ·exact .inl hp
    ·exact .inr (zR _ hp)
  refine⟨fun p hp=> ?_,⟨h2,⟨g3,h4⟩,fun a ha b hb=> ?_⟩,⟨g4,h7,fun a ha b hb e=> ?_⟩,fun p hp=> ?_⟩
  ·rcases hc p hp with rfl|hp
   ·exact g1
   ·exact h1 p hp
  ·rcases Zl.1 hb with rfl|hb
   ·exact g2 a ha
   ·exact h5 a ha b hb
  ·subst e;obtain⟨u,hu,rfl⟩:=Z0.1 ha;exact g5 u hu hb
  ·rcases hc p hp with rfl|hp
   ·exact g6
   ·exact h9 p hp
theorem Je{p q p' q':Prc}(h1:p.name=p'.name)(h2:p.ar=p'.ar)(h3:q.name=q'.name)(h4:q.ar=q'.ar):ordP p q=ordP p' q':=by
 unfold ordP;rw[h1,h2,h3,h4]
theorem gu:∀a b:List UInt8,Op.bytesLess a b=false->a≠b->Op.bytesLess b a=true
 |[],[],_,h=>absurd rfl h
 |[],_::_,h,_=>by simp[Op.bytesLess] at h
 |_::_,[],_,_=>rfl
 |x::a,y::b,h,hne=>by
  simp only[Op.bytesLess,Bool.or_eq_false_iff,Bool.and_eq_false_iff,zr,Zg,Zr,decide_eq_false_iff_not,beq_iff_eq,beq_eq_false_iff_ne] at h ⊢;obtain⟨h1,h2⟩:=h;by_cases e:x=y
  ·subst e;rcases h2 with h2|h2
   ·exact absurd rfl h2
   ·exact .inr ⟨rfl,gu a b h2 fun e=>hne (by rw[e])⟩
  ·left;rw[UInt8.lt_iff_toNat_lt] at*;have:x.toNat≠y.toNat:=fun h=>e (UInt8.toNat_inj.1 h);omega
theorem Nd{p q:Prc}(h1:¬ordP p q<0)(h2:ordP p q≠0):ordP q p<0:=by
 rw[Vh] at h1 ⊢;rw[Ne,ordP_zero] at h2;by_cases e:p.name=q.name
 ·right;refine⟨e.symm,?_⟩;have a:¬p.ar<q.ar:=fun h=>h1 (.inr ⟨e,h⟩);have b:p.ar≠q.ar:=fun h=>h2 ⟨e,h⟩;omega
 ·left;refine gu _ _ ?_ e;cases h:Op.bytesLess p.name q.name with
  |false=>rfl
  |true=>exact absurd (.inl h) h1
theorem Vw{l:List Prc}(h:l.Pairwise (fun a b=>ordP a b<0)):IncP l:=fun i j a b hij ha hb=>by
 obtain⟨h1,e1⟩:=Zb.1 ha;obtain⟨h2,e2⟩:=Zb.1 hb;rw[<-e1,<-e2];exact List.pairwise_iff_getElem.1 h i j h1 h2 hij
theorem Nf{l:List Prc}(k:Prc)(h:l.Pairwise (fun a b=>ordP a b<0)):(∀a∈l.take (lbD l k),ordP a k<0)/\∀b∈l.drop (lbD l k),¬ordP b k<0:=by
 have hi:=Vw h;constructor
 ·intro a ha;obtain⟨j,hj⟩:=Z6.1 ha;rw[ZN] at hj;split at hj
  ·rename_i hlt;exact(QY hi hj).2 hlt
  ·cases hj
 ·intro b hb;obtain⟨j,hj⟩:=Z6.1 hb;rw[ZR] at hj;intro hlt;have:=(QY hi hj).1 hlt;omega
theorem Vx{l:List Prc}(k:Prc)(h:l.Pairwise (fun a b=>ordP a b<0)):fnD l k=true↔∃p∈l,ordP p k=0:=by
 have hi:=Vw h;constructor
 ·intro hf;obtain⟨p,hp⟩:=jv hf;refine⟨p,Zj hp,?_⟩;unfold fnD at hf;rw[hp] at hf;exact zl hf
 ·rintro⟨p,hp,e⟩;obtain⟨j,hj⟩:=Z6.1 hp;have h1:¬j<lbD l k:=fun hlt=>by
   have:=(QY hi hj).2 hlt;omega
  have h2:¬lbD l k<j:=fun hlt=>by
   have hl:lbD l k<l.length:=by
    have:=(Zb.1 hj).1;omega
   have hx:=hi _ j _ p hlt (Zf hl) hj;have hz:=ordP_zero.1 e;have hx':ordP l[lbD l k] k<0:=by
    rw[<-Je rfl rfl hz.1 hz.2];exact hx
   have:=(QY hi (Zf hl)).1 hx';omega
  have e3:j=lbD l k:=by omega
  subst e3;unfold fnD;rw[hj];exact ZG e
theorem Ng{l:List Prc}{k p:Prc}(h:l.Pairwise (fun a b=>ordP a b<0))(hp:p∈l)(e:ordP p k=0):l[lbD l k]? =some p:=by
 have hi:=Vw h;have hf:=(Vx k h).2 ⟨p,hp,e⟩;obtain⟨q,hq⟩:=jv hf;have e2:ordP q k=0:=by
  unfold fnD at hf;rw[hq] at hf;exact zl hf
 obtain⟨j,hj⟩:=Z6.1 hp;have z1:=ordP_zero.1 e;have z2:=ordP_zero.1 e2;have e0:ordP p q=0:=ordP_zero.2 ⟨z1.1.trans z2.1.symm,z1.2.trans z2.2.symm⟩;have e1:ordP q p=0:=ordP_zero.2 ⟨z2.1.trans z1.1.symm,z2.2.trans z1.2.symm⟩;rcases Nat.lt_trichotomy j (lbD l k) with hlt|hlt|hlt
 ·have:=hi _ _ _ _ hlt hj hq;omega
 ·rw[<-hlt,hj]
 ·have:=hi _ _ _ _ hlt hq hj;omega
theorem xN{d:Dbs}(hv:okD d=true)(s:List UInt8)(a:Int)(p:Prc):YC d s a=some p↔p∈d.procs/\p.name=s/\p.ar=a:=by
 have hpw:=((Qu d).1 hv).2.2.2.2.2.1;unfold YC;rw[Zd hv];constructor
 ·intro h;split at h
  ·rename_i hf;refine⟨Zj h,?_⟩;unfold fnD at hf;rw[h] at hf;exact ordP_zero.1 (zl hf)
  ·cases h
 ·rintro⟨h1,h2,h3⟩;have e:ordP p (keyP s a)=0:=ordP_zero.2 ⟨h2,h3⟩;rw[Zd ((Vx _ hpw).2 ⟨p,h1,e⟩)];exact Ng hpw h1 e
theorem gv{d:Dbs}(hv:okD d=true)(s:List UInt8)(a:Int):YC d s a=none↔∀p∈d.procs,¬(p.name=s/\p.ar=a):=by
 constructor
 ·intro h p hp hk;rw[(xN hv s a p).2 ⟨hp,hk⟩] at h;cases h
 ·intro h;cases e:YC d s a with
  |none=>rfl
  |some p=>
   have:=(xN hv s a p).1 e;exact absurd this.2 (h p this.1)
theorem Q7{d:Dbs}(hv:okD d=true):BndD d:=by
 have h:=(Qu d).1 hv;refine⟨by omega,by omega,fun p hp s hs=> ?_⟩;obtain⟨vh,vb⟩:=QZ hv p hp s hs;have h1:=yb vh;have h2:=yb vb;omega
theorem Nh:BndD y0:=⟨by decide,by decide,fun p hp=>by cases hp⟩
theorem Vy{α:Type}{l:List α}{i:Nat}{x:α}(h:l[i]? =some x):l=l.take i++x::l.drop (i+1):=by
 rw[<-jm h,zi]
theorem Vz{α:Type}{l:List α}{i:Nat}{x:α}(h:l[i]? =some x)(y:α):l.set i y=l.take i++y::l.drop (i+1):=by
 have hi:=(Zb.1 h).1;rw[List.set_eq_take_append_cons_drop,Zd hi]
theorem Q8(A B:List Prc):totD (A++B)=totD A+totD B:=by simp[totD]
theorem jz(p:Prc)(B:List Prc):totD (p::B)=p.cls.length+totD B:=by simp[totD]
theorem gw{l:List Prc}{i:Nat}{p:Prc}(h:l[i]? =some p)(q:Prc):totD (l.set i q)+p.cls.length=totD l+q.cls.length:=by
 have e:totD l=totD (l.take i++p::l.drop (i+1)):=by rw[<-Vy h]
 rw[Vz h,e,Q8,Q8,jz,jz];omega
theorem jA{l:List Prc}{i:Nat}{p:Prc}(h:l[i]? =some p)(q x:Prc):x∈l.set i q↔x=q\/x∈l.take i++l.drop (i+1):=by
 rw[Vz h];simp only[ZE,Zl];constructor
 ·rintro(h|h|h)
  ·exact .inr (.inl h)
  ·exact .inl h
  ·exact .inr (.inr h)
 ·rintro(h|h|h)
  ·exact .inr (.inl h)
  ·exact .inl h
  ·exact .inr (.inr h)
theorem VA{l:List Prc}{i:Nat}{p:Prc}(h:l[i]? =some p)(x:Prc):x∈l↔x=p\/x∈l.take i++l.drop (i+1):=by
 have e:=jA h p x;rw[GO h] at e;exact e
theorem Ni{l m:List Prc}(h:∀x∈l,x∈m){y:Int}(hy:y∈ids l):y∈ids m:=by
 obtain⟨p,hp,s,hs,e⟩:=mem_ids.1 hy;exact mem_ids.2 ⟨p,h p hp,s,hs,e⟩
theorem Nj{n:Int}{p q:Prc}{s:Sto}(h:okS n p s)(h1:p.name=q.name)(h2:p.ar=q.ar):okS n q s:=by
 obtain⟨a,b,c,d,e⟩:=h;exact⟨a,b,c,by rw[d,h1],by rw[e,h2]⟩
theorem Nk{n n':Int}{l:List Prc}{i:Nat}{p q:Prc}(h:OkP n l)(hp:l[i]? =some p)(hn:q.name=p.name)(ha:q.ar=p.ar)(hle:n<=n')(hnd:(q.cls.map (·.id)).Nodup)(hfr:∀s∈q.cls,s∈p.cls\/s.id ∉ ids l)(hok:∀s∈q.cls,okS n' q s):OkP n' (l.set i q):=by
 rw[Vz hp];rw[Vy hp] at h;obtain⟨g1,g2,g3,g4,g5,g6,g7⟩:=(jy ..).1 h;refine(jy ..).2 ⟨g1.mono hle,?_,fun a ha'=> ?_,fun b hb=> ?_,hnd,fun s hs=> ?_,hok⟩
 ·unfold namB at g2 ⊢;rw[hn,ha];exact g2
 ·rw[Je rfl rfl hn ha];exact g3 a ha'
 ·rw[Je hn ha rfl rfl];exact g4 b hb
 ·rcases hfr s hs with hc|hc
  ·exact g6 s hc
  ·exact fun hm=>hc (Ni (fun x hx=>(VA hp x).2 (.inr hx)) hm)
theorem Nl{n n':Int}{l:List Prc}{q:Prc}(h:OkP n l)(hf:fnD l (keyP q.name q.ar)=false)(hnm:namB q=true)(hle:n<=n')(hnd:(q.cls.map (·.id)).Nodup)(hfr:∀s∈q.cls,s.id ∉ ids l)(hok:∀s∈q.cls,okS n' q s):OkP n' (l.take (lbD l (keyP q.name q.ar))++q::l.drop (lbD l (keyP q.name q.ar))):=by
 obtain⟨c1,c2⟩:=Nf (keyP q.name q.ar) h.2.1;have ht:l.take (lbD l (keyP q.name q.ar))++l.drop (lbD l (keyP q.name q.ar))=l:=zi _ _;refine(jy ..).2 ⟨by rw[ht];exact h.mono hle,hnm,fun a ha=> ?_,fun b hb=> ?_,hnd,fun s hs=>by rw[ht];exact hfr s hs,hok⟩
 ·rw[Je (q:=q) (q':=keyP q.name q.ar) rfl rfl rfl rfl];exact c1 a ha
 ·rw[Je (p:=q) (p':=keyP q.name q.ar) rfl rfl rfl rfl];refine Nd (c2 b hb) fun e=> ?_;rw[(Vx _ h.2.1).2 ⟨b,zM hb,e⟩] at hf;cases hf
def ApR(d n:Dbs)(s:List UInt8)(a:Int):Prop:=∀p∈d.procs,¬(p.name=s/\p.ar=a)->YC n p.name p.ar=some p
theorem gx{d n:Dbs}{s:List UInt8}{a:Int}(hn:okD n=true)(h:∀p∈d.procs,¬(p.name=s/\p.ar=a)->p∈n.procs):ApR d n s a:=fun p hp hk=>(xN hn _ _ _).2 ⟨h p hp hk,rfl,rfl⟩
theorem gy{d:Dbs}(hv:okD d=true){s:List UInt8}{a:Int}(hf:fnD d.procs (keyP s a)=true):∃p,d.procs[lbD d.procs (keyP s a)]? =some p/\p.name=s/\p.ar=a/\YC d s a=some p:=by
 obtain⟨p,hpp⟩:=jv hf;have e:YC d s a=some p:=by
  unfold YC;rw[Zd hv,Zd hf,hpp]
 exact⟨p,hpp,((xN hv ..).1 e).2.1,((xN hv ..).1 e).2.2,e⟩
theorem Nm{d:Dbs}{s:List UInt8}{a:Int}(hf:fnD d.procs (keyP s a)=false):YC d s a=none:=by
 unfold YC;rw[hf];simp
theorem VB{d:Dbs}{s:List UInt8}{a:Int}{b:Bool}(h:(Yo d s a b).2=0):okD d=true/\okD (Yo d s a b).1=true/\(Yo d s a b).1.next=d.next/\YC (Yo d s a b).1 s a=some ⟨s,a,((YC d s a).getD zP).dyn || b,((YC d s a).getD zP).cls⟩/\ApR d (Yo d s a b).1 s a:=by
 by_cases hbad:okD d=false\/namB (keyP s a)=false
 ·simp only[Yo,Zd hbad] at h;cases h
 have hv:okD d=true:=by cases e:okD d with|true=>rfl|false=>exact absurd (Or.inl e) hbad
 have hnm:namB (keyP s a)=true:=by cases e:namB (keyP s a) with|true=>rfl|false=>exact absurd (Or.inr e) hbad
 obtain⟨d1,d2,d3,d4,d5⟩:=(Qu d).1 hv;cases hf:fnD d.procs (keyP s a) with
 |true=>
  obtain⟨p,hpp,rfl,rfl,hfd⟩:=gy hv hf;have e:Yo d p.name p.ar b=(⟨d.next,d.procs.set (lbD d.procs (keyP p.name p.ar)) (dynP p b)⟩,0):=by simp only[Yo,Za hbad,hf,hpp]
  rw[e,hfd];have hok:okD ⟨d.next,d.procs.set (lbD d.procs (keyP p.name p.ar)) (dynP p b)⟩=true:=by
   have ht:=gw hpp (dynP p b);have hq:(dynP p b).cls=p.cls:=rfl;rw[hq] at ht;have hpm:=Zj hpp;have d5':=d5;rw[Vy hpp] at d5';refine(Qu _).2 ⟨d1,d2,by simpa using d3,by show totD (d.procs.set _ _)<=500;omega,Nk d5 hpp rfl rfl (Int.le_refl _) ((jy ..).1 d5').2.2.2.2.1 (fun s hs=>.inl hs) fun s hs=>Nj (d5.2.2.2 p hpm s hs) rfl rfl⟩
  refine⟨hv,hok,rfl,(xN hok ..).2 ⟨(jA hpp _ _).2 (.inl rfl),rfl,rfl⟩,gx hok fun q hq hk=> ?_⟩;refine(jA hpp _ _).2 (.inr ?_);rcases(VA hpp q).1 hq with rfl|hq
  ·exact absurd ⟨rfl,rfl⟩ hk
  ·exact hq
 |false=>
  by_cases hl:d.procs.length=500
  ·simp only[Yo,Za hbad,hf,Zd hl] at h;cases h
  have e:Yo d s a b=(⟨d.next,d.procs.take (lbD d.procs (keyP s a))++(⟨s,a,b,[]⟩:Prc)::d.procs.drop (lbD d.procs (keyP s a))⟩,0):=by simp only[Yo,Za hbad,hf,Za hl]
  rw[e,Nm hf];have hok:okD ⟨d.next,d.procs.take (lbD d.procs (keyP s a))++(⟨s,a,b,[]⟩:Prc)::d.procs.drop (lbD d.procs (keyP s a))⟩=true:=by
   have hlb:=Vj d.procs (keyP s a);refine(Qu _).2 ⟨d1,d2,?_,?_,Nl (q:=⟨s,a,b,[]⟩) d5 hf hnm (Int.le_refl _) List.nodup_nil (fun s hs=>by cases hs) fun s hs=>by cases hs⟩
   ·simp;omega
   ·have ht:totD d.procs=totD (d.procs.take (lbD d.procs (keyP s a))++d.procs.drop (lbD d.procs (keyP s a))):=by rw[zi]
    rw[Q8] at ht;show totD (_++_::_)<=500;rw[Q8,jz];simp;omega
  refine⟨hv,hok,rfl,(xN hok ..).2 ⟨zR _ ZT,rfl,rfl⟩,gx hok fun q hq hk=> ?_⟩;show q∈_++_::_;rw[<-zi (lbD d.procs (keyP s a)) d.procs] at hq;rcases ZE.1 hq with hq|hq
  ·exact List.mem_append_left _ hq
  ·exact zR _ (Zy _ hq)
theorem Nn(d:Dbs)(s:List UInt8)(a:Int)(b:Bool):(Yo d s a b).2=0\/(Yo d s a b).2=1\/(Yo d s a b).2=13:=by
 unfold Yo;split
 ·exact .inr (.inl rfl)
 ·split
  ·exact .inl rfl
  ·split
   ·exact .inr (.inr rfl)
   ·exact .inl rfl
theorem Np(d:Dbs)(s:List UInt8)(a:Int)(b:Bool):BndD (Yo d s a b).1:=by
 rcases Nn d s a b with h|h
 ·exact Q7 (VB h).2.1
 ·have e:(Yo d s a b).1=y0:=by
   unfold Yo at h ⊢;split
   ·rfl
   ·split
    ·rename_i h1 _ _ _ h2 h3;rw[Za h1] at h;simp only[h2,h3] at h;rcases h with h|h <;> cases h
    ·split
     ·rfl
     ·rename_i h1 _ _ h2 h3;rw[Za h1] at h;exfalso;split at h
      ·rcases h with h|h <;> cases h
      ·rw[Za h3] at h;rcases h with h|h <;> cases h
  rw[e];exact Nh
theorem gA{d:Dbs}{s:List UInt8}{a:Int}{b:Bool}(h:(Yo d s a b).2=0):okD d=true/\((∃p,d.procs[lbD d.procs (keyP s a)]? =some p/\p.name=s/\p.ar=a/\Yo d s a b=(⟨d.next,d.procs.set (lbD d.procs (keyP s a)) (dynP p b)⟩,0))\/Yo d s a b=(⟨d.next,d.procs.take (lbD d.procs (keyP s a))++(⟨s,a,b,[]⟩:Prc)::d.procs.drop (lbD d.procs (keyP s a))⟩,0)):=by
 by_cases hbad:okD d=false\/namB (keyP s a)=false
 ·simp only[Yo,Zd hbad] at h;cases h
 have hv:okD d=true:=by cases e:okD d with|true=>rfl|false=>exact absurd (Or.inl e) hbad
 refine⟨hv,?_⟩;cases hf:fnD d.procs (keyP s a) with
 |true=>
  obtain⟨p,hpp,h1,h2,-⟩:=gy hv hf;exact .inl ⟨p,hpp,h1,h2,by simp only[Yo,Za hbad,hf,hpp]⟩
 |false=>
  by_cases hl:d.procs.length=500
  ·simp only[Yo,Za hbad,hf,Zd hl] at h;cases h
  exact .inr (by simp only[Yo,Za hbad,hf,Za hl])
theorem Nq{d:Dbs}{s:List UInt8}{a:Int}{b:Bool}(h:(Yo d s a b).2=0):totD (Yo d s a b).1.procs=totD d.procs:=by
 rcases(gA h).2 with⟨p,hpp,-,-,e⟩|e
 ·rw[e];have ht:=gw hpp (dynP p b);have hq:(dynP p b).cls=p.cls:=rfl;rw[hq] at ht;show totD (d.procs.set _ _)=_;omega
 ·rw[e];have ht:totD d.procs=totD (d.procs.take (lbD d.procs (keyP s a))++d.procs.drop (lbD d.procs (keyP s a))):=by rw[zi]
  rw[Q8] at ht;show totD (_++_::_)=_;rw[Q8,jz];simp;omega
theorem Nr{d:Dbs}{s:List UInt8}{a:Int}{b:Bool}(h:(Yo d s a b).2=0)(q:Prc)(hq:q∈(Yo d s a b).1.procs)(hk:¬(q.name=s/\q.ar=a)):q∈d.procs:=by
 rcases(gA h).2 with⟨p,hpp,h1,h2,e⟩|e
 ·rw[e] at hq;rcases(jA hpp _ _).1 hq with rfl|hq
  ·exact absurd ⟨h1,h2⟩ hk
  ·exact(VA hpp q).2 (.inr hq)
 ·rw[e] at hq;rcases ZE.1 (show q∈_++_::_ from hq) with hq|hq
  ·exact List.mem_of_mem_take hq
  ·rcases Zl.1 hq with rfl|hq
   ·exact absurd ⟨rfl,rfl⟩ hk
   ·exact zM hq
theorem gB{d:Dbs}{s:List UInt8}{a:Int}{b:Bool}(h:(Yo d s a b).2=0)(s':List UInt8)(a':Int)(hk:¬(s'=s/\a'=a)):YC (Yo d s a b).1 s' a'=YC d s' a':=by
 obtain⟨hv,hok,-,-,hap⟩:=VB h;cases e:YC d s' a' with
 |some p=>
  obtain⟨h1,rfl,rfl⟩:=(xN hv ..).1 e;exact hap p h1 hk
 |none=>
  refine(gv hok ..).2 fun q hq hn=> ?_;refine(gv hv ..).1 e q (Nr h q hq fun hs=>hk ?_) hn;rw[<-hn.1,<-hn.2];exact hs
def chkL(d:Dbs):List (List UInt8 × Int)->Option Tm
 |[]=>none
 |x::r=>match indB x.2 with
  |some b=>some b
  |none=>if XH d x.1 x.2=true then some (perT moN stN (indT x.1 x.2)) else chkL d r
def decL(d:Dbs):List (List UInt8 × Int)->Dbs × Int
 |[]=>(d,0)
 |x::r=>if(Yo d x.1 x.2 true).2=0 then decL (Yo d x.1 x.2 true).1 r else Yo d x.1 x.2 true
theorem VC{d:Dbs}:∀{L:List (List UInt8 × Int)},chkL d L=none->∀x∈L,indB x.2=none/\XH d x.1 x.2=false
 |[],_,x,hx=>by cases hx
 |y::r,h,x,hx=>by
  rw[chkL] at h;cases e:indB y.2 with
  |some b=>rw[e] at h;cases h
  |none=>
   rw[e] at h;dsimp only at h;by_cases hs:XH d y.1 y.2=true
   ·rw[Zd hs] at h;cases h
   ·rw[Za hs] at h;rcases Zl.1 hx with rfl|hx
    ·exact⟨e,by simpa using hs⟩
    ·exact VC h x hx
def Dyd(d d':Dbs):Prop:=okD d'=true/\d'.next=d.next/\totD d'.procs=totD d.procs/\(∀s a,((YC d' s a).getD zP).cls=((YC d s a).getD zP).cls)/\∀s a p,YC d s a=some p->p.dyn=true->∃p',YC d' s a=some p'/\p'.dyn=true
theorem Ns{d:Dbs}{s:List UInt8}{a:Int}(h:(Yo d s a true).2=0):Dyd d (Yo d s a true).1/\∃p,YC (Yo d s a true).1 s a=some p/\p.dyn=true:=by
 obtain⟨hv,hok,hn,hf,hap⟩:=VB h;refine⟨⟨hok,hn,Nq h,fun s' a'=> ?_,fun s' a' p hp hd=> ?_⟩,_,hf,by simp⟩
 ·by_cases hk:s'=s/\a'=a
  ·obtain⟨rfl,rfl⟩:=hk;rw[hf];rfl
  ·rw[gB h s' a' hk]
 ·by_cases hk:s'=s/\a'=a
  ·obtain⟨rfl,rfl⟩:=hk;exact⟨_,hf,by simp⟩
  ·exact⟨p,by rw[gB h s' a' hk,hp],hd⟩
theorem jB:∀(L:List (List UInt8 × Int)) (d:Dbs),okD d=true->(decL d L).2=0->Dyd d (decL d L).1/\∀x∈L,∃p,YC (decL d L).1 x.1 x.2=some p/\p.dyn=true
 |[],d,hv,_=>⟨⟨hv,rfl,rfl,fun _ _=>rfl,fun _ _ p hp hd=>⟨p,hp,hd⟩⟩,fun x hx=>by cases hx⟩
 |x::r,d,hv,h=>by
  rw[decL] at h ⊢;by_cases h0:(Yo d x.1 x.2 true).2=0
  ·rw[Zd h0] at h ⊢;obtain⟨⟨a1,a2,a3,a4,a5⟩,p,hp,hpd⟩:=Ns h0;obtain⟨⟨b1,b2,b3,b4,b5⟩,b6⟩:=jB r _ a1 h;refine⟨⟨b1,by rw[b2,a2],by rw[b3,a3],fun s a=>by rw[b4,a4],fun s a q hq hd=> ?_⟩,fun y hy=> ?_⟩
   ·obtain⟨q',hq',hd'⟩:=a5 s a q hq hd;exact b5 s a q' hq' hd'
   ·rcases Zl.1 hy with rfl|hy
    ·exact b5 _ _ p hp hpd
    ·exact b6 y hy
  ·rw[Za h0] at h;exact absurd h h0
end Go.Proofs.YtkkppaoehnpboaaGreatDoor
