/- What is proved: the predicates compare and \=. -/
import Derived.Test.YtiifblpdlphchaaGreatRRRv
import Derived.Test.YtiifblpdlphchaaGreatRRGol
import Derived.Test.YtiifblpdlphchaaGreatRRSml
import Derived.Test.YtiifblpdlphchaaGreatRRAm4
import Derived.Test.YtiifblpdlphchaaGreatRRAm5
set_option linter.unusedSimpArgs false
set_option linter.unusedVariables false
namespace Go.Proofs.YtiifblpdlphchaaGreatRR
open Go.Am
theorem zsW(s:List UInt8)(hp:Heap):S 125 [.pv none (.str s)] hp=some (.ret (tatm s).av,hp):=by
 refine zak rfl rfl rfl (zab [(none,.str s)]) rfl ?_
 have hbu:zaJ [(none,.pv none (.int .i64 0)),(none,.pv none (.int .i64 0)),(none,.pv none (.str [])),(none,.tsl (some 4) [])] [0,2] [.pv none (.int .i64 2),.pv none (.str s)]=some (.agg [(none,.pv none (.int .i64 2)),(none,.pv none (.int .i64 0)),(none,.pv none (.str s)),(none,.tsl (some 4) [])]):=rfl
 simp -dsimp -implicitDefEqProofs only[go_sem,seval,↓reduceIte,hbu]
 exact⟨_,rfl⟩
theorem zna(s:List UInt8)(t:Tm)(hp:Heap):S 124 [.pv none (.str s),t.av] hp=some (.ret (.func (.func 140) [] [.ptr hp.length 0,.ptr (hp.length+1) 0]),hp++[.box none (.pv none (.str s)),.box (some 4) (.pv (some 4) t.pv)]):=by
 refine zav rfl rfl rfl rfl ?_
 simp -dsimp -implicitDefEqProofs only[go_sem,seval,↓reduceIte,Tm.av,List.append_assoc,zaf,zac,zah,zad,Nat.add_assoc,List.length_append]
 rw[if_neg (by simp[AV.refsIn,AV.refsIn.gol])]
def signs:List (List UInt8):=[[60],[61],[62]]
theorem zkP(l:List (List UInt8))(s:List UInt8)(hl:l.length<=1000000)(hp:Heap)(q n:Nat)(hn:l.length=n)(hq:hp[q]? =some (.arr none (strs l) false)):S 41 [.sl none q n 0 n,.pv none (.str s)] hp=some (.ret (.pv none (.bool (decide (s∈l)))),hp):=by
 have h:=zkU l s hl []
 have hz:zam [.sl none q n 0 n,.pv none (.str s)] hp=some ([(none,.sl none (strs l)),(none,.str s)],hp.set q (.arr none (strs l) true)):=by
  have e1:AV.freeze deep (.sl none q n 0 n) hp=some (.sl none (strs l),hp.set q (.arr none (strs l) true)):=by
   simp[AV.freeze,deep,hq,zlN,hn]
  have e2:∀X,AV.freeze deep (.pv none (.str s)) X=some (.str s,X):=fun _=>rfl
  simp[zam,e1,e2,AV.shp]
 exact ze5 (v:=.pv none (.bool (decide (s∈l)))) rfl rfl rfl hz h
theorem zsX(s:Sh)(l:List (List UInt8))(z:Bool):AObj.beq (.arr s (strs l) z) (.arr s (strs l) z)=true:=by
 have:PV.beqs (strs l) (strs l)=true:=zfP fun x hx=>by
  obtain⟨y,_,rfl⟩:=List.mem_map.1 hx
  simp[PV.beq]
 simp[AObj.beq,this]
def sgn(c:Int):List UInt8:=if c<0 then[60] else if c=0 then[61] else[62]
def cJ(s:List UInt8)(u w:Tm):Heap:=[.box (some 4) (.pv (some 4) (tatm s).pv),.box (some 4) (.pv (some 4) u.pv),.box (some 4) (.pv (some 4) w.pv),.arr (some 4) [] false,.box none (.pv none (.str [97,116,111,109])),.box (some 4) (.pv (some 4) (tatm s).pv),.arr none (strs signs) false,.box none (.pv none (.str [111,114,100,101,114])),.box (some 4) (.pv (some 4) (tatm s).pv)]
theorem zkQ(g:Tm)(k:Nat)(s:List UInt8)(hs:s∈signs)(u w:Tm)(vu:u.valid=true)(vw:w.valid=true)(hga:g.args.length=3)(hp:Heap)(r:Nat)(hr:hp[r]? =some (.box (some 5) (.pv (some 5) (runV g k))))(hb:Bq hp):
  S 97 [.ptr r 0,(tatm s).av,u.av,w.av] hp=some (.ret (.sl (some 4) (hp.length+15) 1 0 1),hp++(cJ s u w++wJ (hp.length+9) g 0 (tatm (sgn (u.cmp w))))):=by
 refine zav rfl rfl rfl rfl ?_
 have hlt:=zbh hr
 have hr':∀X,(hp++X)[r]? =some (.box (some 5) (.pv (some 5) (runV g k))):=fun X=>by rw[zcY hlt,hr]
 have h1:=fun hp=>zrQ (tatm s) hp
 have h2:=fun hp=>zp8 (tatm s) hp
 have h3:=zrR
 have h4:=fun n hp=>zrS n (tatm s) hp
 have h5:=fun n hp=>zna n (tatm s) hp
 have h6:=fun hp=>zkX u w hp vu vw
 have h7:=fun n hp=>zsW n hp
 have k0:decide ((tatm s).kind=0)=false:=rfl
 have k2:decide ((tatm s).kind=2)=true:=rfl
 have kn:(tatm s).name=s:=rfl
 rw[k0] at h1
 rw[k2] at h2
 have hbs:∀H:Heap,zd7 none H [.pv none (.str [60]),.pv none (.str [61]),.pv none (.str [62])]=some (.sl none H.length 3 0 3,H++[.arr none (strs signs) false]):=fun H=>by
  have e:∀x X,AV.freeze deep (.pv none (.str x)) X=some (.str x,X):=fun _ _=>rfl
  simp[zd7,zam,e,zaR,AV.shp,Sh.size,strs,signs]
 have hco:∀(x0 x1 x2 x3 x4 x5:AObj) (Z:Heap),S 41 [.sl none (hp.length+6) 3 0 3,.pv none (.str s)] (hp++x0::x1::x2::x3::x4::x5::.arr none (strs signs) false::Z)=some (.ret (.pv none (.bool true)),hp++x0::x1::x2::x3::x4::x5::.arr none (strs signs) false::Z):=fun x0 x1 x2 x3 x4 x5 Z=>by
  have h:=zkP signs s (by decide) (hp++x0::x1::x2::x3::x4::x5::.arr none (strs signs) false::Z) (hp.length+6) 3 rfl (by rw[getN rfl];rfl)
  rw[decide_eq_true hs] at h
  exact h
 have hrg:=Tm.zvp u w
 have h8:=fun X=>ztp g k 0 (tatm (sgn (u.cmp w))) (by omega) (by omega) (hp++X) r (hr' X)
 have e0:((0:Nat):Int)=0:=rfl
 obtain⟨c,hc⟩:∃c,c=u.cmp w:=⟨_,rfl⟩
 rw[<-hc] at h6 h8 hrg ⊢
 have hw:IntKind.i64.wrap (c+1)=c+1:=zaH (by omega) (by omega)
 obtain⟨j,hj,hjc⟩:∃j:Nat,j<3/\c+1=j:=⟨(c+1).toNat,by omega,by omega⟩
 rw[hjc] at hw
 have hia:zaT none [.sl none (hp.length+6) 3 0 3,.pv none (.int .i64 (j:Int))]=some (.eptr none (hp.length+6) 3 (0+j) 0):=zcd hj
 have hgj:(strs signs)[0+j]? =some (.str (sgn c)):=by
  have h3:j=0\/j=1\/j=2:=by omega
  rcases h3 with rfl|rfl|rfl
  ·have:c= -1:=by omega
   subst this
   rfl
  ·have:c=0:=by omega
   subst this
   rfl
  ·have:c=1:=by omega
   subst this
   rfl
 have hlde:∀(x0 x1 x2 x3 x4 x5:AObj) (Z:Heap),aload none (hp++x0::x1::x2::x3::x4::x5::.arr none (strs signs) false::Z) (.eptr none (hp.length+6) 3 (0+j) 0)=some (.pv none (.str (sgn c))):=fun x0 x1 x2 x3 x4 x5 Z=>by
  have hl3:(strs signs).length=3:=rfl
  simp only[aload,getN rfl,List.getElem?_cons_succ,List.getElem?_cons_zero,hl3,hgj,if_true,and_self]
 rw[Nat.zero_add] at hia
 simp only[Nat.zero_add] at hlde
 simp only[Tm.av] at h1 h2 h4 h5 h6 h7
 simp only[Tm.av,wJ,e0] at h8
 simp -dsimp -implicitDefEqProofs only[go_sem,seval,↓reduceIte,Tm.av,h1,h2,h3,h4,h5,h6,h7,h8,hw,hjc,hia,hlde,hbs,hco,zsX,kn,zaA,hr,hr',zne,zhm,zkM rfl,zdJ hb,List.take_succ_cons,zcL,zdK,zgz,zfb,zhn,zan,zbH (sh:=some 4) (by decide),List.append_assoc,zaf,zac,zah,zad,Nat.add_assoc,List.length_append]
 rw[if_neg (by simp[AV.refsIn])]
 rfl
def nCmp:List UInt8:=[99,111,109,112,97,114,101]
def nNeq:List UInt8:=[92,61]
theorem zjD(g a u w:Tm)(hn:g.name=nCmp)(hga:g.args=[a,u,w])(k:Nat)(hp:Heap)(r:Nat)(hr:hp[r]? =some (.box (some 5) (.pv (some 5) (runV g k))))(hb:Bq hp)(v:AV)(X:Heap)(hv:v.refsIn.all (fun q=>decide (q<hp.length))=false)
  (hex:S 97 [.ptr r 0,a.av,u.av,w.av] (hp++eJ g)=some (.ret v,hp++(eJ g++X))):
  S 50 [.ptr r 0] hp=some (.ret (.tuple [v,.pv none (.int .i64 0)]),hp++(eJ g++X)):=by
 refine zav rfl rfl rfl rfl ?_
 have hlt:=zbh hr
 have hr':∀X,(hp++X)[r]? =some (.box (some 5) (.pv (some 5) (runV g k))):=fun X=>by rw[zcY hlt,hr]
 have hl:g.args.length=3:=by rw[hga];rfl
 have h1:=fun hp=>zeK (Tm.pvs g.args) (by rw[Tm.pvs_len];omega) (by rw[Tm.pvs_len];omega) hp
 have hz0:zaJ [(none,.pv none (.int .i64 0)),(none,.pv none (.int .i64 0)),(none,.pv none (.str [])),(none,.tsl (some 4) [])] [] []=some zagC:=rfl
 have h2:=zif
 have h3:=zcD
 have ha:∀y0 y1,_:=fun y0 y1=> @zpy hp y0 y1 g.args 3 hl (by decide)
 have l0:∀Z y0 y1 z,_:=fun Z y0 y1 z=> @zkS hp Z y0 y1 (g.args++[zt,zt]) z 5 0 a (by rw[List.length_append,hl];rfl) (by rw[hga];rfl)
 have i0:zaT (some 4) [.sl (some 4) (hp.length+2) 5 0 5,.pv none (.int .i64 0)]=some (.eptr (some 4) (hp.length+2) 5 0 0):=rfl
 have l1:∀Z y0 y1 z,_:=fun Z y0 y1 z=> @zkS hp Z y0 y1 (g.args++[zt,zt]) z 5 1 u (by rw[List.length_append,hl];rfl) (by rw[hga];rfl)
 have i1:zaT (some 4) [.sl (some 4) (hp.length+2) 5 0 5,.pv none (.int .i64 1)]=some (.eptr (some 4) (hp.length+2) 5 1 0):=rfl
 have l2:∀Z y0 y1 z,_:=fun Z y0 y1 z=> @zkS hp Z y0 y1 (g.args++[zt,zt]) z 5 2 w (by rw[List.length_append,hl];rfl) (by rw[hga];rfl)
 have i2:zaT (some 4) [.sl (some 4) (hp.length+2) 5 0 5,.pv none (.int .i64 2)]=some (.eptr (some 4) (hp.length+2) 5 2 0):=rfl
 have k1:∀Z y0 y1 y2,_:=fun Z y0 y1 y2=> @zpz hp Z y0 y1 y2 nCmp rows1 rfl
 have k2:∀Z y0 y1 y2 y3,_:=fun Z y0 y1 y2 y3=> @zr7 hp Z y0 y1 y2 y3 nCmp rows2 rfl
 have q0:(nCmp=[99,111,109,112,97,114,101])=True:=eq_true (by decide)
 simp only[eJ,Tm.av] at hex
 simp -dsimp -implicitDefEqProofs only[go_sem,seval,↓reduceIte,Tm.av,hr,hr',h1,h2,h3,ha,hn,hl,hz0,l0,i0,l1,i1,l2,i2,k1,k2,q0,hex,Tm.pvs_len,zdt,zdu,zjF,zne,zhm,zkM rfl,zdJ hb,List.take_succ_cons,zcL,zdK,zgz,zfb,zfa,zdH,zdI,zhn,zan,zbH (sh:=some 4) (by decide),List.append_assoc,zaf,zac,zah,zad,Nat.add_assoc,List.length_append]
 have hrf:(AV.tuple [v,.pv none (.int .i64 0)]).refsIn=v.refsIn:=by simp[AV.refsIn,AV.refsIn.gol]
 rw[hrf,if_neg (by rw[hv];simp)]
 rfl
theorem ztY(u w:Tm)(vu:u.valid=true)(vw:w.valid=true)(hp:Heap):S 21 [.tsl (some 5) [],u.av,w.av] hp=some (.ret (.tuple [.pv none (.sl (some 5) (bds (unR [] u w).1)),.pv none (.int .i64 (unR [] u w).2)]),hp):=by
 have hu:=valid_size vu
 have hw:=valid_size vw
 have ou:=Tm.occ_len u
 have ow:=Tm.occ_len w
 have h:=zpQ (u.occ++w.occ) [] u w (by rw[List.length_append];omega) (fun b hb=>by cases hb) (fun x hx=>List.mem_append.2 (.inl hx)) (fun x hx=>List.mem_append.2 (.inr hx)) (by simp) (fun b hb=>by cases hb) (by omega) (by omega) []
 have h2:=ze5 (F:=find tab) (prim:=prim) (f:=21) (args:=[.tsl (some 5) [],u.av,w.av]) (ps:=[(none,.sl (some 5) (bds [])),(some 4,u.pv),(some 4,w.pv)]) (hp:=hp) (hp1:=hp) rfl rfl rfl rfl h
 refine h2.trans ?_
 cases AV.scalar _ <;> rfl
theorem zrq(g u w:Tm)(hn:g.name=nNeq)(hga:g.args=[u,w])(vu:u.valid=true)(vw:w.valid=true)(k:Nat)(hp:Heap)(r:Nat)(hr:hp[r]? =some (.box (some 5) (.pv (some 5) (runV g k))))(hb:Bq hp)(e:Int)(he:(unR [] u w).2=e):
  S 50 [.ptr r 0] hp=some (if e≠0/\e≠4 then(.ret (.tuple [.sl (some 4) (hp.length+5) 0 0 0,.pv none (.int .i64 e)]),hp++(eJ g++[.arr (some 4) [] false])) else(.ret (.tuple [.sl (some 4) (hp.length+6) (sucL (decide (e=4)) g).length 0 (sucL (decide (e=4)) g).length,.pv none (.int .i64 0)]),hp++(eJ g++[.arr (some 4) [] false,.arr (some 4) (Tm.pvs (sucL (decide (e=4)) g)) false]))):=by
 have hlt:=zbh hr
 have hr':∀X,(hp++X)[r]? =some (.box (some 5) (.pv (some 5) (runV g k))):=fun X=>by rw[zcY hlt,hr]
 have hl:g.args.length=2:=by rw[hga];rfl
 have h1:=fun hp=>zeK (Tm.pvs g.args) (by rw[Tm.pvs_len];omega) (by rw[Tm.pvs_len];omega) hp
 have hz0:zaJ [(none,.pv none (.int .i64 0)),(none,.pv none (.int .i64 0)),(none,.pv none (.str [])),(none,.tsl (some 4) [])] [] []=some zagC:=rfl
 have h2:=zif
 have h3:=zcD
 have ha:∀y0 y1,_:=fun y0 y1=> @zpy hp y0 y1 g.args 2 hl (by decide)
 have l0:∀Z y0 y1 z,_:=fun Z y0 y1 z=> @zkS hp Z y0 y1 (g.args++[zt,zt]) z 4 0 u (by rw[List.length_append,hl];rfl) (by rw[hga];rfl)
 have i0:zaT (some 4) [.sl (some 4) (hp.length+2) 4 0 4,.pv none (.int .i64 0)]=some (.eptr (some 4) (hp.length+2) 4 0 0):=rfl
 have l1:∀Z y0 y1 z,_:=fun Z y0 y1 z=> @zkS hp Z y0 y1 (g.args++[zt,zt]) z 4 1 w (by rw[List.length_append,hl];rfl) (by rw[hga];rfl)
 have i1:zaT (some 4) [.sl (some 4) (hp.length+2) 4 0 4,.pv none (.int .i64 1)]=some (.eptr (some 4) (hp.length+2) 4 1 0):=rfl
 have k1:∀Z y0 y1 y2,_:=fun Z y0 y1 y2=> @zpz hp Z y0 y1 y2 nNeq rows1 rfl
 have k2:∀Z y0 y1 y2 y3,_:=fun Z y0 y1 y2 y3=> @zr7 hp Z y0 y1 y2 y3 nNeq rows2 rfl
 have q0:(nNeq=[99,111,109,112,97,114,101])=False:=eq_false (by decide)
 have q1:(nNeq=[92,61])=True:=eq_true (by decide)
 have h4:=fun hp=>ztY u w vu vw hp
 have h5:=fun X=>zhk g k (decide (e=4)) (hp++X) r (hr' X)
 rw[he] at h4
 simp only[Tm.av] at h4
 have hsn:∀H:Heap,zcs (some 4) H=some (.sl (some 4) H.length 0 0 0,H++[.arr (some 4) [] false]):=fun H=>zbH (sh:=some 4) (by decide)
 by_cases h0:e=0
 ·rw[if_neg (fun h=>h.1 h0)]
  subst h0
  have e4:decide ((0:Int)=4)=false:=rfl
  rw[e4] at h5 ⊢
  generalize sucL false g=ts at h5 ⊢
  have z4:((0:Int)=4)=False:=eq_false (by decide)
  refine zav rfl rfl rfl rfl ?_
  simp -dsimp -implicitDefEqProofs only[go_sem,seval,↓reduceIte,Tm.av,hr,hr',h1,h2,h3,ha,hn,hl,hz0,l0,i0,l1,i1,k1,k2,q0,q1,h4,h5,z4,e4,Tm.pvs_len,zdt,zdu,zjF,zne,zhm,zkM rfl,zdJ hb,List.take_succ_cons,zcL,zdK,zgz,zfb,zfa,zdH,zdI,zhn,zan,zbH (sh:=some 4) (by decide),List.append_assoc,zaf,zac,zah,zad,Nat.add_assoc,List.length_append]
  rw[if_neg (by simp[AV.refsIn,AV.refsIn.gol])]
  rfl
 by_cases h4':e=4
 ·rw[if_neg (fun h=>h.2 h4')]
  subst h4'
  have e4:decide ((4:Int)=4)=true:=rfl
  rw[e4] at h5 ⊢
  generalize sucL true g=ts at h5 ⊢
  have z4:((4:Int)=0)=False:=eq_false (by decide)
  refine zav rfl rfl rfl rfl ?_
  simp -dsimp -implicitDefEqProofs only[go_sem,seval,↓reduceIte,Tm.av,hr,hr',h1,h2,h3,ha,hn,hl,hz0,l0,i0,l1,i1,k1,k2,q0,q1,h4,h5,z4,e4,Tm.pvs_len,zdt,zdu,zjF,zne,zhm,zkM rfl,zdJ hb,List.take_succ_cons,zcL,zdK,zgz,zfb,zfa,zdH,zdI,zhn,zan,zbH (sh:=some 4) (by decide),List.append_assoc,zaf,zac,zah,zad,Nat.add_assoc,List.length_append]
  rw[if_neg (by simp[AV.refsIn,AV.refsIn.gol])]
  rfl
 ·rw[if_pos ⟨h0,h4'⟩]
  refine zav rfl rfl rfl rfl ?_
  simp -dsimp -implicitDefEqProofs only[go_sem,seval,↓reduceIte,Tm.av,hr,hr',h1,h2,h3,ha,hn,hl,hz0,l0,i0,l1,i1,k1,k2,q0,q1,h4,h0,h4',Tm.pvs_len,zdt,zdu,zjF,zne,zhm,zkM rfl,zdJ hb,List.take_succ_cons,zcL,zdK,zgz,zfb,zfa,zdH,zdI,zhn,zan,zbH (sh:=some 4) (by decide),List.append_assoc,zaf,zac,zah,zad,Nat.add_assoc,List.length_append]
  rw[if_neg (by simp[AV.refsIn,AV.refsIn.gol])]
  rfl
theorem zcp{s:List UInt8}(h:s∈signs):s.length=1:=by
 simp[signs] at h
 rcases h with rfl|rfl|rfl <;> rfl
theorem zpq(c:Int):sgn c∈signs:=by
 unfold sgn signs
 split
 ·simp
 ·split <;> simp
def cmpG(s:List UInt8)(u w:Tm):Tm:=tstr nCmp [tatm s,u,w]
theorem ze7{s s':List UInt8}(h:s.length=1)(h':s'.length=1)(u w:Tm):(cmpG s u w).valid=(cmpG s' u w).valid:=by
 unfold Tm.valid
 have e:∀x:List UInt8,x.length=1->(cmpG x u w).fits=(u.fits && w.fits):=fun x hx=>by
  rw[Tm.zu0]
  simp[cmpG,tstr,tatm,Tm.node,Tm.kind,Tm.n,Tm.name,Tm.args,Tm.fitsAll,Tm.fits,hx,nCmp]
 have e2:(cmpG s u w).size=(cmpG s' u w).size:=by
  rw[Tm.size_eq,Tm.size_eq]
  rfl
 rw[e s h,e s' h',e2]
theorem zjy(s:List UInt8)(hs:s∈signs)(u w:Tm)(hv:(cmpG s u w).valid=true)(hc:canT (cmpG s u w)=cmpG s u w):zeC (cmpG s u w) [cmpG (sgn (u.cmp w)) u w] zt 0:=by
 intro hp
 obtain⟨g,hg⟩:∃g,g=cmpG s u w:=⟨_,rfl⟩
 have hga:g.args=[tatm s,u,w]:=by rw[hg];rfl
 rw[<-hg] at hv hc ⊢
 have vu:u.valid=true:=zbl hv (by rw[hga];simp)
 have vw:w.valid=true:=zbl hv (by rw[hga];simp)
 have hb:=zsY g
 have h1:=zkQ g (vads [] g.occ).length s hs u w vu vw (by rw[hga];rfl) (hE g++eJ g) 6 rfl (hb.app (Bq.cons rfl (Bq.cons rfl (Bq.cons (zfa _ _) (Bq.cons (zdH _) (Bq.cons (zdI _) Bq.nil))))))
 rw[List.append_assoc] at h1
 have h2:=zjD g (tatm s) u w (by rw[hg];rfl) hga (vads [] g.occ).length (hE g) 6 rfl hb _ _ rfl h1
 have hset:setA g 0 (tatm (sgn (u.cmp w)))=cmpG (sgn (u.cmp w)) u w:=by rw[hg];rfl
 have hans:(cmpG (sgn (u.cmp w)) u w).valid=true:=by
  rw[ze7 (zcp (zpq _)) (zcp hs),<-hg]
  exact hv
 have hmem:g.name∈zbt g.args.length:=by
  rw[hga,hg]
  exact(by decide:nCmp∈zbt 3)
 have h3:=zkT g hp hv hc (by rw[hg];rfl) hmem [cmpG (sgn (u.cmp w)) u w] 0 _ _ false h2 (by show 7<=12+15;omega) (by rw[<-hset];rfl) (by simp) fun t ht=>by
  have:t=cmpG (sgn (u.cmp w)) u w:=by simpa using ht
  rw[this]
  have:=valid_size hans
  omega
 have hr:zdP [cmpG (sgn (u.cmp w)) u w] 0=([cmpG (sgn (u.cmp w)) u w],0):=by simp[zdP,hans]
 rw[hr] at h3
 exact h3
def neqG(u w:Tm):Tm:=tstr nNeq [u,w]
theorem zrg(u w:Tm)(hv:(neqG u w).valid=true)(hc:canT (neqG u w)=neqG u w)(e:Int)(he:(unR [] u w).2=e):if e≠0/\e≠4 then zeC (neqG u w) [] zt e else zeC (neqG u w) (sucL (decide (e=4)) (neqG u w)) zt 0:=by
 obtain⟨g,hg⟩:∃g,g=neqG u w:=⟨_,rfl⟩
 have hga:g.args=[u,w]:=by rw[hg];rfl
 rw[<-hg] at hv hc ⊢
 have vu:u.valid=true:=zbl hv (by rw[hga];simp)
 have vw:w.valid=true:=zbl hv (by rw[hga];simp)
 have hmem:g.name∈zbt g.args.length:=by
  rw[hga,hg]
  exact(by decide:nNeq∈zbt 2)
 have h2:=zrq g u w (by rw[hg];rfl) hga vu vw (vads [] g.occ).length (hE g) 6 rfl (zsY g) e he
 by_cases h:e≠0/\e≠4
 ·rw[if_pos h] at h2 ⊢
  intro hp
  have h3:=zkT g hp hv hc (by rw[hg];rfl) hmem [] e _ _ false h2 (by show 7<=7+5;omega) rfl (by simp) fun t ht=>by cases ht
  have hr:zdP [] e=([],e):=by simp[zdP,h.1]
  rw[hr] at h3
  exact h3
 ·rw[if_neg h] at h2 ⊢
  exact zlS g _ _ _ hv hc (by rw[hg];rfl) hmem h2 (by show 7<=7+6;omega) rfl
theorem zdL(a b:Sh)(p q:PV)(hp:Heap):(AV.tuple [.pv a p,.pv b q]).alone hp=some (.tuple [.pv a p,.pv b q]):=rfl
theorem zt6(g a:Tm)(ha:a.valid=true)(hc:zeC g [a] zt 0)(hp:Heap):S 18 [g.av,a.av] hp=some (.ret (.pv none (.bool true)),hp):=by
 refine zak rfl rfl rfl (zab [(some 4,g.pv),(some 4,a.pv)]) rfl ?_
 have hsz:=valid_size ha
 have h1:=fun hp=>zpD zt hp (by decide)
 have h2:=fun hp=>zig a a hp (by omega) (by omega)
 have hz0:zaJ [(none,.pv none (.int .i64 0)),(none,.pv none (.int .i64 0)),(none,.pv none (.str [])),(none,.tsl (some 4) [])] [] []=some zV:=rfl
 unfold zeC at hc
 rw[zpE] at h1
 rw[zfc ha] at h2
 have hge:(Tm.pvs [a])[0]? =some a.pv:=rfl
 have hpl:(Tm.pvs [a]).length=1:=rfl
 simp only[Tm.av] at h1 h2 hc
 simp -dsimp -implicitDefEqProofs only[go_sem,seval,↓reduceIte,Tm.av,h1,h2,hc,hz0,hpl,zd0 hge,zae (Nat.zero_le _)]
theorem zs6(i:Nat)(h:i<6):(names2a.getD i []).length<=100:=by
 match i,h with
 |0,_=>decide
 |1,_=>decide
 |2,_=>decide
 |3,_=>decide
 |4,_=>decide
 |5,_=>decide
theorem zng{s s':List UInt8}(h:s.length<=100)(h':s'.length<=100)(l:List Tm):(tstr s l).valid=(tstr s' l).valid:=by
 unfold Tm.valid
 have hs:(s.length:Int)<=100:=by omega
 have hs':(s'.length:Int)<=100:=by omega
 have e2:(tstr s l).size=(tstr s' l).size:=by
  rw[Tm.size_eq,Tm.size_eq]
  rfl
 rw[e2,Tm.zu0,Tm.zu0]
 simp[tstr,Tm.node,Tm.kind,Tm.n,Tm.name,Tm.args,hs,hs']
 rfl
def tabP(c:Int):List PV:=[.agg [(none,.str [61,61]),(none,.bool (cmt 0 c))],.agg [(none,.str [92,61,61]),(none,.bool (cmt 1 c))],.agg [(none,.str [64,60]),(none,.bool (cmt 2 c))],.agg [(none,.str [64,61,60]),(none,.bool (cmt 3 c))],.agg [(none,.str [64,62]),(none,.bool (cmt 4 c))],.agg [(none,.str [64,62,61]),(none,.bool (cmt 5 c))]]
def rowP(i:Nat)(c:Int):PV:=.agg [(none,.str (names2a.getD i [])),(none,.bool (cmt i c))]
theorem zry(c:Int)(i:Nat)(h:i<6):(tabP c)[i]? =some (rowP i c):=by
 match i,h with
 |0,_=>rfl|1,_=>rfl|2,_=>rfl|3,_=>rfl|4,_=>rfl|5,_=>rfl
set_option maxRecDepth 100000 in
theorem znh(p q:Tm)(hp0:p.size<100000000)(hq0:q.size<100000000):S 4 [p.av,q.av] []=some (.ret (.pv none (.bool true)),[]):=by
 refine zak rfl rfl rfl (zab [(some 4,p.pv),(some 4,q.pv)]) rfl ?_
 have haw:=zrw
 have hgs:∀s:List UInt8,(tstr s [p,q]).size=1+(p.size+(q.size+0)):=fun s=>by rw[Tm.size_eq];rfl
 have hg0:=fun s hp=>zrt s [p,q] (by rw[hgs];omega) hp
 have hpq:Tm.pvs [p,q]=[p.pv,q.pv]:=rfl
 rw[hpq] at hg0
 have hG:=hg0 [61,61]
 obtain⟨v,hv⟩:∃v,v=(tstr [61,61] [p,q]).valid:=⟨_,rfl⟩
 rw[<-hv] at hG
 cases v with
 |false=>
  have hcr:canR (tstr [61,61] [p,q])=zt:=by
   unfold canR
   rw[<-hv,if_neg (by simp)]
  rw[hcr] at hG
  simp only[Tm.av] at hG
  simp -dsimp -implicitDefEqProofs only[go_sem,seval,↓reduceIte,Tm.av,hG,haw,zdL,zae (Nat.zero_le _)]
 |true=>
  obtain⟨u,w,huw,huw3⟩:∃u w,(∀s,canT (tstr s [p,q])=tstr s [u,w])/\∀s,canT (tstr nCmp [tatm s,p,q])=cmpG s u w:=⟨_,_,fun s=>zlM s [p,q],fun s=>by
   rw[zlM]
   have e1:Tm.occs [tatm s,p,q]=Tm.occs [p,q]:=rfl
   have e2:∀f,Tm.sub f (tatm s)=tatm s:=fun f=>rfl
   rw[e1]
   show tstr nCmp [Tm.sub _ (tatm s),_,_]=_
   rw[e2]
   rfl⟩
  have hvs:∀s:List UInt8,s.length<=100->(tstr s [p,q]).valid=true:=fun s hs=>by
   rw[zng hs (show([61,61]:List UInt8).length<=100 by decide)]
   exact hv.symm
  have hcrs:∀s:List UInt8,s.length<=100->canR (tstr s [p,q])=tstr s [u,w]:=fun s hs=>by
   unfold canR
   rw[if_pos (hvs s hs),huw]
  have hcvs:∀s:List UInt8,s.length<=100->(tstr s [u,w]).valid=true:=fun s hs=>by
   rw[<-huw]
   exact zhl (hvs s hs)
  have hccs:∀s:List UInt8,canT (tstr s [u,w])=tstr s [u,w]:=fun s=>by
   rw[<-huw]
   exact zlG _
  have vu:u.valid=true:=zbl (hcvs [61,61] (by decide)) (by show u∈[u,w];simp)
  have vw:w.valid=true:=zbl (hcvs [61,61] (by decide)) (by show w∈[u,w];simp)
  have hgl:∀s:List UInt8,s.length<=100->∀hp,S 14 [.pv none (.str s),.tsl (some 4) [p.pv,q.pv]] hp=some (.ret (.tuple [.pv (some 4) (tstr s [u,w]).pv,.pv none (.bool true)]),hp):=fun s hs hp=>by
   have:=hg0 s hp
   rw[hcrs s hs,hvs s hs] at this
   exact this
  have hG:=hgl [61,61] (by decide)
  have hcm:=fun hp=>zkX u w hp vu vw
  obtain⟨c,hc⟩:∃c,c=u.cmp w:=⟨_,rfl⟩
  rw[<-hc] at hcm
  have hga:PV.part deep (tstr [61,61] [u,w]).pv 3 none=some (.sl (some 4) [u.pv,w.pv]):=rfl
  simp only[Tm.av] at hcm
  have hbu:∀(s:List UInt8) (b:Bool),zaJ [(none,.pv none (.str [])),(none,.pv none (.bool false))] [0,1] [.pv none (.str s),.pv none (.bool b)]=some (.pv (some 2) (.agg [(none,.str s),(none,.bool b)])):=fun _ _=>rfl
  have i0:zaT (some 4) [.pv none (.sl (some 4) [u.pv,w.pv]),.pv none (.int .i64 0)]=some (.iptr (some 4) u.pv 0):=rfl
  have i1:zaT (some 4) [.pv none (.sl (some 4) [u.pv,w.pv]),.pv none (.int .i64 1)]=some (.iptr (some 4) w.pv 0):=rfl
  simp -dsimp -implicitDefEqProofs only[go_sem,seval,↓reduceIte,Tm.av,hG,hcm,hga,hbu,zdL,i0,i1,zae (Nat.zero_le _)]
  have hrg:=Tm.zvp u w
  rw[<-hc] at hrg
  have hbb:∀x:Bool,(x == x)=true:=fun x=>by cases x <;> rfl
  refine zc0 (α:=Unit) 6 (fun _ _=>True) (fun i _=>⟨[(2,.ptr 0 0),(3,.ptr 1 0),(7,.pv none (.int .i64 c)),(62,.tsl (some 2) (tabP c)),(63,.pv none (.int .i64 6)),(64,.pv none (.int .i64 i))],[.box (some 4) (.pv (some 4) p.pv),.box (some 4) (.pv (some 4) q.pv),.box (some 4) (.pv (some 4) (tstr [61,61] [u,w]).pv),.arr (some 4) [] false]⟩) () ⟨trivial,rfl⟩ ?_ ?_
  ·rintro i - h -
   have hlt:(i:Int)<6:=by omega
   have w2:IntKind.i64.wrap ((i:Int)+1)=((i+1:Nat):Int):=by rw[zaH (by omega) (by omega)];omega
   have hln:=zs6 i h
   have hGi:=hgl (names2a.getD i []) hln
   have hcl:=zrA i h u w (tstr (names2a.getD i []) [u,w]) rfl (hcvs _ hln) (hccs _)
   have hsi:=fun hp=>zkV _ _ (hcvs _ hln) hcl (by unfold sucL;split <;> simp) hp
   have hsl:decide ((sucL (cmt i (u.cmp w)) (tstr (names2a.getD i []) [u,w])).length=1)=cmt i c:=by
    rw[hc]
    cases cmt i (u.cmp w) <;> rfl
   rw[hsl] at hsi
   have hia:zaT (some 2) [.tsl (some 2) (tabP c),.pv none (.int .i64 i)]=some (.iptr (some 2) (rowP i c) 0):=by
    simp[zaT,aindex,zry c i h]
   have hp1:PV.part deep (rowP i c) 0 none=some (.str (names2a.getD i [])):=rfl
   have hp2:PV.part deep (rowP i c) 1 none=some (.bool (cmt i c)):=rfl
   generalize tstr (names2a.getD i []) [u,w]=g at hGi hsi
   generalize names2a.getD i []=s at hGi hp1
   simp only[Tm.av] at hsi
   simp -dsimp -implicitDefEqProofs only[go_sem,seval,↓reduceIte,Tm.av,hlt,w2,hGi,hsi,hia,hp1,hp2,hbb,zae (Nat.zero_le _)]
   exact⟨(),rfl⟩
  rintro - -
  have hlt6:¬((6:Nat):Int)<6:=by decide
  simp -dsimp -implicitDefEqProofs only[go_sem,seval,↓reduceIte,Tm.av,hlt6,zae (Nat.zero_le _)]
  have hsz3:∀s,(tstr nCmp [tatm s,p,q]).size<1000000000:=fun s=>by
   have:(tstr nCmp [tatm s,p,q]).size=1+((tatm s).size+(p.size+(q.size+0))):=by rw[Tm.size_eq];rfl
   rw[this]
   show 1+(1+(p.size+(q.size+0)))<1000000000
   omega
  have hv3:∀s:List UInt8,s.length=1->(tstr nCmp [tatm s,p,q]).valid=(tstr nCmp [tatm [60],p,q]).valid:=fun s hs=>ze7 (s:=s) (s':=[60]) hs rfl p q
  have hw1:IntKind.i64.wrap (c+1)=c+1:=zaH (by omega) (by omega)
  have hia3:zaT none [.tsl none [.str [60],.str [61],.str [62]],.pv none (.int .i64 (c+1))]=some (.iptr none (.str (sgn c)) 0):=by
   have h3:c= -1\/c=0\/c=1:=by omega
   rcases h3 with h|h|h <;> (rw[h];rfl)
  have h_a:=fun s hp=>a_ok s hp
  simp only[Tm.av] at h_a
  refine zc0 (α:=Unit) 3 (fun _ _=>True) (fun i _=>⟨[(2,.ptr 0 0),(3,.ptr 1 0),(7,.pv none (.int .i64 c)),(91,.tsl none [.str [60],.str [61],.str [62]]),(92,.pv none (.int .i64 3)),(93,.pv none (.int .i64 i))],[.box (some 4) (.pv (some 4) p.pv),.box (some 4) (.pv (some 4) q.pv),.box (some 4) (.pv (some 4) (tstr [61,61] [u,w]).pv),.arr (some 4) [] false]⟩) () ⟨trivial,rfl⟩ ?_ ?_
  ·rintro i - h -
   have hlt:(i:Int)<3:=by omega
   have w2:IntKind.i64.wrap ((i:Int)+1)=((i+1:Nat):Int):=by rw[zaH (by omega) (by omega)];omega
   obtain⟨s,hs,hia⟩:∃s,s∈signs/\zaT none [.tsl none [.str [60],.str [61],.str [62]],.pv none (.int .i64 i)]=some (.iptr none (.str s) 0):=by
    match i,h with
    |0,_=>exact⟨[60],by decide,rfl⟩
    |1,_=>exact⟨[61],by decide,rfl⟩
    |2,_=>exact⟨[62],by decide,rfl⟩
   have hG3:=fun hp=>zs1 nCmp [tatm s,p,q] (hsz3 s) hp
   have hp3:Tm.pvs [tatm s,p,q]=[(tatm s).pv,p.pv,q.pv]:=rfl
   rw[hv3 s (zcp hs),hp3] at hG3
   unfold nCmp at hG3
   cases hvv:(tstr nCmp [tatm [60],p,q]).valid with
   |false=>
    have hcr:canR (tstr nCmp [tatm s,p,q])=zt:=by
     unfold canR
     rw[hv3 s (zcp hs),hvv,if_neg (by simp)]
    unfold nCmp at hcr hvv
    rw[hcr,hvv] at hG3
    simp only[Tm.av] at hG3
    simp -dsimp -implicitDefEqProofs only[go_sem,seval,↓reduceIte,Tm.av,hlt,w2,hia,h_a,hG3,zdL,zae (Nat.zero_le _)]
    exact⟨(),rfl⟩
   |true=>
    have hvs3:(tstr nCmp [tatm s,p,q]).valid=true:=by rw[hv3 s (zcp hs),hvv]
    have hcr:canR (tstr nCmp [tatm s,p,q])=cmpG s u w:=by
     unfold canR
     rw[if_pos hvs3,huw3]
    have hcv:(cmpG s u w).valid=true:=by
     rw[<-huw3]
     exact zhl hvs3
    have hcc:canT (cmpG s u w)=cmpG s u w:=by
     rw[<-huw3]
     exact zlG _
    have hcl:=zjy s hs u w hcv hcc
    rw[<-hc] at hcl
    have hav:(cmpG (sgn c) u w).valid=true:=by
     rw[ze7 (zcp (zpq _)) (zcp hs)]
     exact hcv
    have hon:=fun hp=>zt6 _ _ hav hcl hp
    have hfa:∀hp,S 19 [.pv none (.str [99,111,109,112,97,114,101]),.pv none (.sl (some 4) [(tatm (sgn c)).pv,u.pv,w.pv])] hp=some (.ret (.pv (some 4) (cmpG (sgn c) u w).pv),hp):=fun hp=>f_ok nCmp [tatm (sgn c),u,w] hp
    have hpa:PV.part deep (cmpG s u w).pv 3 none=some (.sl (some 4) [(tatm s).pv,u.pv,w.pv]):=rfl
    have j1:zaT (some 4) [.pv none (.sl (some 4) [(tatm s).pv,u.pv,w.pv]),.pv none (.int .i64 1)]=some (.iptr (some 4) u.pv 0):=rfl
    have j2:zaT (some 4) [.pv none (.sl (some 4) [(tatm s).pv,u.pv,w.pv]),.pv none (.int .i64 2)]=some (.iptr (some 4) w.pv 0):=rfl
    unfold nCmp at hcr hvv
    rw[hcr,hvv] at hG3
    generalize cmpG s u w=g at hG3 hon hpa
    generalize cmpG (sgn c) u w=g2 at hon hfa
    simp only[Tm.av] at hG3 hon
    simp -dsimp -implicitDefEqProofs only[go_sem,seval,↓reduceIte,Tm.av,hlt,w2,hia,h_a,hG3,hon,hfa,hpa,j1,j2,hw1,hia3,zdL,zae (Nat.zero_le _)]
    exact⟨(),rfl⟩
  rintro - -
  have hlt3:¬((3:Nat):Int)<3:=by decide
  have hGn:=hgl [92,61] (by decide)
  have hcn:=zrg u w (hcvs [92,61] (by decide)) (hccs [92,61])
  have hun:=fun hp=>ztY u w vu vw hp
  obtain⟨e,he⟩:∃e,e=(unR [] u w).2:=⟨_,rfl⟩
  have hcn:=hcn e he.symm
  rw[<-he] at hun
  have hpn:PV.part deep (tstr [92,61] [u,w]).pv 3 none=some (.sl (some 4) [u.pv,w.pv]):=rfl
  have hnv:(neqG u w).valid=true:=hcvs [92,61] (by decide)
  have hnz:=valid_size hnv
  have hsm:=fun hp=>zig (neqG u w) (neqG u w) hp (by omega) (by omega)
  rw[zfc hnv] at hsm
  have hge:(Tm.pvs [neqG u w])[0]? =some (neqG u w).pv:=rfl
  have hp1:(Tm.pvs [neqG u w]).length=1:=rfl
  have hp0':(Tm.pvs []).length=0:=rfl
  have hee:tstr [92,61] [u,w]=neqG u w:=rfl
  rw[hee] at hGn hpn
  simp only[Tm.av] at hun hsm
  by_cases h0:e=0
  ·rw[if_neg (fun h=>h.1 h0)] at hcn
   subst h0
   have hcn:zeC (neqG u w) [] zt 0:=hcn
   unfold zeC at hcn
   simp only[Tm.av] at hcn
   simp -dsimp -implicitDefEqProofs only[go_sem,seval,↓reduceIte,Tm.av,hlt3,hGn,hun,hcn,hpn,hp0',i0,i1,haw,zae (Nat.zero_le _)]
   done
  ·by_cases h4:e=4
   ·rw[if_neg (fun h=>h.2 h4)] at hcn
    subst h4
    have hcn:zeC (neqG u w) [neqG u w] zt 0:=hcn
    unfold zeC at hcn
    simp only[Tm.av] at hcn
    have z4:((4:Int)=0)=False:=eq_false (by decide)
    simp -dsimp -implicitDefEqProofs only[go_sem,seval,↓reduceIte,Tm.av,hlt3,hGn,hun,hcn,hpn,hp1,hsm,zd0 hge,z4,i0,i1,haw,zae (Nat.zero_le _)]
    done
   ·rw[if_pos ⟨h0,h4⟩] at hcn
    unfold zeC at hcn
    simp only[Tm.av] at hcn
    simp -dsimp -implicitDefEqProofs only[go_sem,seval,↓reduceIte,Tm.av,hlt3,hGn,hun,hcn,hpn,hp0',h0,h4,i0,i1,haw,zae (Nat.zero_le _)]
    done
end Go.Proofs.YtiifblpdlphchaaGreatRR
namespace Go.Proofs.YtiifblpdlphchaaGreatRR
open Go.Am Go.ChangeShapes Go.WideShapes Go.ChangeAt Go.RowKit
theorem zpw(H:Type):BulkLaws (H:=H) Rows.uptoBulk Rows.uptoBulkAll where
 nil:=by simp[Rows.uptoBulkAll]
 cons d r:=by simp[Rows.uptoBulkAll]
 slice e s:=by simp[Rows.uptoBulk]
 agg l:=by simp[Rows.uptoBulk]
 string l:=by simp[Rows.uptoBulk]
theorem znd{H:Type}{l:List (DataW H)}(hk:Rows.uptoSmall H l=true):Rows.uptoBulkAll l<=1048576:=of_decide_eq_true hk
def zlK(P:Program)(tA tT:TypeId):Bool:=
 (match P.underlying tA with|some (.slice t)=>t == tT|_=>false) &&
 (match P.underlying tT with
  |some (.struct fs)=>match fs.toList.map (·.type) with
   |[a,b,c,d]=>d == tA && (match P.underlying a with|some (.int .i64)=>true|_=>false) && (match P.underlying b with|some (.int .i64)=>true|_=>false) && (match P.underlying c with|some .string=>true|_=>false) && decide (shOf P a=none) && decide (shOf P b=none) && decide (shOf P c=none)
   |_=>false
  |_=>false) && decide (shOf P tT=some 4) && decide (shOf P tA=none)
theorem zkR{P:Program}{tA tT:TypeId}(h:zlK P tA tT=true):TermTy P tA tT:=by
 unfold zlK at h
 simp only[Bool.and_eq_true,decide_eq_true_eq] at h
 obtain⟨⟨⟨h1,h2⟩,h3⟩,h4⟩:=h
 refine⟨?_,?_⟩
 ·split at h1
  ·rename_i t ht;rw[ht];simp at h1;rw[h1]
  ·cases h1
 ·split at h2
  ·rename_i fs hfs
   split at h2
   ·rename_i a b c d hl
    simp only[Bool.and_eq_true,decide_eq_true_eq,beq_iff_eq] at h2
    obtain⟨⟨⟨⟨⟨⟨k1,k2⟩,k3⟩,k4⟩,k5⟩,k6⟩,k7⟩:=h2
    subst k1
    refine⟨fs,a,b,c,hfs,hl,?_,?_,?_,h3,h4,k5,k6,k7⟩
    ·split at k2
     ·assumption
     ·cases k2
    ·split at k3
     ·assumption
     ·cases k3
    ·split at k4
     ·assumption
     ·cases k4
   ·cases h2
  ·cases h2
theorem zt1:TermTy Tryz.prog 24 26:=zkR (by kernel_rfl)
def zpx:List TypeId:=[2,3,4,5,9,24,26]
theorem closed:zlA Tryz.prog zpx=true:=by kernel_rfl
set_option maxRecDepth 100000 in
theorem zjE{H:Type}{enc:TypeId × Value->H}{W:World}{base:Nat}{v:Value}{d:DataW H}{ps:List MemPlace}(h:DataW.Trod enc Tryz.prog W 0 (fun _=>true) true 26 v d ps)(hv:Value.okWide Tryz.prog W .any base 26 v):
  ∃t:Tm,AR W (noX (P:=Tryz.prog)) noμ [] t.av v/\t.size<=Rows.uptoBulk d/\t.rng:=by
 obtain⟨fuel,h0⟩:=h
 obtain⟨p,hp⟩:=zpm closed fuel _ _ _ _ (by simp[zpx]) h0
 obtain⟨t,rfl,h1,h2⟩:=(zjv zt1 (zpw H) fuel).1 d p hp
 have:=ztQ ⟨fuel,h0⟩ (by kernel_rfl) hp (zm6 hv)
 rw[show shOf Tryz.prog 26=some 4 from by kernel_rfl] at this
 exact⟨t,this,h1,h2⟩
end Go.Proofs.YtiifblpdlphchaaGreatRR
namespace Go.Proofs.YtiifblpdlphchaaGreatRR
open Go.Am Go.ChangeShapes Go.WideShapes Go.ChangeAt Go.RowKit
end Go.Proofs.YtiifblpdlphchaaGreatRR
namespace Go.Proofs.YtiifblpdlphchaaGreatRR
open Go.Am Go.ChangeShapes Go.WideShapes Go.ChangeAt Go.RowKit
end Go.Proofs.YtiifblpdlphchaaGreatRR
