/- What is proved: the program's =.. with a structure, and with a variable. -/
import Derived.Test.YtiifblpdlphchaaGreatRRCpr
import Derived.Test.YtiifblpdlphchaaGreatRRDfr
import Derived.Test.YtiifblpdlphchaaGreatRRSml
import Derived.Test.YtiifblpdlphchaaGreatRRAm5
set_option linter.unusedSimpArgs false
set_option linter.unusedVariables false
namespace Go.Proofs.YtiifblpdlphchaaGreatRR
open Go.Am
theorem zfq(t:Tm)(hv:t.valid=true)(hp:Heap):S 132 [t.av] hp=some (.ret (.pv none (.bool (decide ((tl t).kind=0)))),hp):=by
 refine zak rfl rfl rfl (zab [(some 4,t.pv)]) rfl ?_
 have h1:=fun hp=>zgt t hv hp
 have h2:=fun hp=>zbI (tl t) hp
 simp only[Tm.av] at h1 h2
 simp -dsimp -implicitDefEqProofs only[go_sem,seval,↓reduceIte,Tm.av,h1,h2,zae (Nat.zero_le _)]
theorem zgD(t:Tm)(hv:t.valid=true)(hp:Heap):S 130 [t.av] hp=some (.ret (.pv none (.bool (decide (zcm (tl t)) || decide ((tl t).kind=0)))),hp):=by
 refine zak rfl rfl rfl (zab [(some 4,t.pv)]) rfl ?_
 have h1:=fun hp=>zqo t hv hp
 have h2:=fun hp=>zfq t hv hp
 simp only[Tm.av] at h1 h2
 cases hk:decide (zcm (tl t))
 ·rw[hk] at h1
  simp -dsimp -implicitDefEqProofs only[go_sem,seval,↓reduceIte,Tm.av,h1,h2,Bool.false_or]
 ·rw[hk] at h1
  simp -dsimp -implicitDefEqProofs only[go_sem,seval,↓reduceIte,Tm.av,h1,h2,Bool.true_or]
theorem ztz(l:List Tm)(hl:l.length<1000000000)(t:Tm)(hp:Heap)(q n:Nat)(hn:l.length=n)(hq:hp[q]? =some (.arr (some 4) (Tm.pvs l) false)):S 131 [.sl (some 4) q n 0 n,t.av] hp=some (.ret (lstT l t).av,hp.set q (.arr (some 4) (Tm.pvs l) true)):=by
 have h:=zrY l hl t []
 have hz:zal [.sl (some 4) q n 0 n,t.av] hp=some ([(none,.sl (some 4) (Tm.pvs l)),(some 4,t.pv)],hp.set q (.arr (some 4) (Tm.pvs l) true)):=by
  have e1:AV.freeze deep (.sl (some 4) q n 0 n) hp=some (.sl (some 4) (Tm.pvs l),hp.set q (.arr (some 4) (Tm.pvs l) true)):=by
   simp[AV.freeze,deep,hq,Tm.pvs_len,hn]
  have e2:∀X,AV.freeze deep (.pv (some 4) t.pv) X=some (t.pv,X):=fun _=>rfl
  simp[zal,e1,e2,AV.shp,Tm.av]
 have h2:=zil (F:=find tab) (prim:=prim) (f:=131) (args:=[.sl (some 4) q n 0 n,t.av]) rfl rfl rfl hz h
 have hs:∀u:Tm,u.av.scalar=false:=fun u=>by cases u;rfl
 rw[hs] at h2
 exact h2
def strL:List UInt8:=[108,105,115,116]
def uJ(t y:Tm):Heap:=[.box (some 4) (.pv (some 4) t.pv),.box (some 4) (.pv (some 4) y.pv),.arr (some 4) [] false,.box none (.pv none (.str strL)),.box (some 4) (.pv (some 4) y.pv),.arr (some 4) (Tm.pvs (tatm t.name::t.args)) true]
theorem zr9(g:Tm)(k:Nat)(t y:Tm)(hk:t.kind=3)(htl:t.args.length<=8)(htn:0<t.args.length)(vy:y.valid=true)(hy:y.kind=0)(hga:g.args.length=2)(hp:Heap)(r:Nat)(hr:hp[r]? =some (.box (some 5) (.pv (some 5) (runV g k))))(hb:Bq hp):
  S 100 [.ptr r 0,t.av,y.av] hp=some (.ret (.sl (some 4) (hp.length+12) 1 0 1),hp++(uJ t y++wJ (hp.length+6) g 1 (lstT (tatm t.name::t.args) (tatm [91,93])))):=by
 refine zay rfl rfl rfl rfl ?_
 have hlt:=zbs hr
 have hr':∀X,(hp++X)[r]? =some (.box (some 5) (.pv (some 5) (runV g k))):=fun X=>by rw[zb3 hlt,hr]
 have hcy:¬cs y:=fun h=>by
  have:=h.1
  rw[hy] at this
  cases this
 have h1:=fun hp=>zgD y vy hp
 have e1:(decide (zcm (tl y)) || decide ((tl y).kind=0))=true:=by
  rw[tl_n hcy,hy]
  simp
 rw[e1] at h1
 have h2:=fun hp=>zbv t hp
 have e2:decide (t.kind=3)=true:=decide_eq_true hk
 rw[e2] at h2
 have h3:=zeC
 have h4:=fun n hp=>zeD n y hp
 have h5:=fun n hp=>zpV n hp
 have h6:=fun x X=>ziM g k 1 x (by omega) (by omega) (hp++X) r (hr' X)
 have h7:∀(x0 x1 x2 x3 x4:AObj),S 131 [.sl (some 4) (hp.length+5) (t.args.length+1) 0 (t.args.length+1),(tatm [91,93]).av] (hp++[x0,x1,x2,x3,x4,.arr (some 4) (Tm.pvs (tatm t.name::t.args)) false])=some (.ret (lstT (tatm t.name::t.args) (tatm [91,93])).av,hp++[x0,x1,x2,x3,x4,.arr (some 4) (Tm.pvs (tatm t.name::t.args)) true]):=fun x0 x1 x2 x3 x4=>by
  rw[ztz (tatm t.name::t.args) (by simp;omega) (tatm [91,93]) _ (hp.length+5) (t.args.length+1) rfl (by rw[getN rfl];rfl),setN rfl]
  rfl
 have e0:((1:Nat):Int)=1:=rfl
 obtain⟨ls,hls⟩:∃ls,ls=lstT (tatm t.name::t.args) (tatm [91,93]):=⟨_,rfl⟩
 rw[<-hls] at h7 ⊢
 have hap:∀H:Heap,zaJ (some 4) H [.tsl (some 4) [(tatm t.name).pv],.pv none (.sl (some 4) (Tm.pvs t.args))]=some (.sl (some 4) H.length (t.args.length+1) 0 (t.args.length+1),H++[.arr (some 4) (Tm.pvs (tatm t.name::t.args)) false]):=fun H=>by
  have hlim:t.args.length+1<=lim:=by unfold lim;omega
  have e:Tm.pvs (tatm t.name::t.args)=(tatm t.name).pv::Tm.pvs t.args:=rfl
  have hna:¬Tm.pvs t.args=[]:=fun h=>by
   have h2:=Tm.pvs_len t.args
   rw[h] at h2
   exact absurd h2 (by simp;omega)
  rw[e]
  simp[zaJ,aappend,elems,Tm.pvs_len,Nat.add_comm 1,hlim,hna]
 simp only[Tm.av] at h1 h2 h4 h5 h7
 simp only[Tm.av,wJ,e0] at h6
 simp -dsimp -implicitDefEqProofs only[go_sem,seval,↓reduceIte,Tm.av,h1,h2,h3,h4,h5,h6,h7,hap,zao,zad,hr,hr',ziE,zex,zj1,zgR rfl,zca hb,List.take_succ_cons,zbG,zcb,zgV,zc9,zey,zaA,za9 (sh:=some 4) (by decide),List.append_assoc,zaj,zag,zan,zah,Nat.add_assoc,List.length_append]
 rw[if_neg (by simp[AV.refsIn])]
 rfl
theorem zfr(s:List UInt8)(l:List Tm)(hp:Heap):S 129 [.pv none (.str s),.pv none (.sl (some 4) (Tm.pvs l))] hp=some (.ret (tstr s l).av,hp):=by
 refine zak rfl rfl rfl (zab [(none,.str s),(none,.sl (some 4) (Tm.pvs l))]) rfl ?_
 have hbu:zaQ [(none,.pv none (.int .i64 0)),(none,.pv none (.int .i64 0)),(none,.pv none (.str [])),(none,.tsl (some 4) [])] [0,2,3] [.pv none (.int .i64 3),.pv none (.str s),.pv none (.sl (some 4) (Tm.pvs l))]=some (.pv (some 4) (tstr s l).pv):=rfl
 simp -dsimp -implicitDefEqProofs only[go_sem,seval,↓reduceIte,hbu,Tm.av]
def vJ(y ps:Tm)(nm:List UInt8):Heap:=[.box (some 4) (.pv (some 4) y.pv),.box (some 4) (.pv (some 4) ps.pv),.arr (some 4) [] false,.box none (.pv none (.str strL)),.box (some 4) (.pv (some 4) ps.pv),.box none (.pv none (.str [110,111,110,95,101,109,112,116,121,95,108,105,115,116])),.box (some 4) (.pv (some 4) ps.pv),.box (some 4) (.pv (some 4) (tl ps).pv),.arr (some 4) [] false,.box (some 4) (.pv (some 4) (tatm nm).pv),.arr (some 4) [] false,.box none (.pv none (.str [97,116,111,109])),.box (some 4) (.pv (some 4) (tatm nm).pv)]
theorem zsa(g:Tm)(k:Nat)(y ps:Tm)(nm:List UInt8)(rest:List Tm)(hy:y.kind=0)(vp:ps.valid=true)(hnl:zcm (tl ps))(hel:els ps=tatm nm::rest)(hr1:0<rest.length)(hr8:rest.length<=8)(hga:g.args.length=2)(hp:Heap)(r:Nat)(hr:hp[r]? =some (.box (some 5) (.pv (some 5) (runV g k))))(hb:Bq hp):
  S 100 [.ptr r 0,y.av,ps.av] hp=some (.ret (.sl (some 4) (hp.length+19) 1 0 1),hp++(vJ y ps nm++wJ (hp.length+13) g 0 (tstr nm rest))):=by
 refine zay rfl rfl rfl rfl ?_
 have hlt:=zbs hr
 have hr':∀X,(hp++X)[r]? =some (.box (some 5) (.pv (some 5) (runV g k))):=fun X=>by rw[zb3 hlt,hr]
 have h1:=fun hp=>zgD ps vp hp
 have e1:(decide (zcm (tl ps)) || decide ((tl ps).kind=0))=true:=by rw[decide_eq_true hnl];rfl
 rw[e1] at h1
 have h2:=fun hp=>zbv y hp
 have e2:decide (y.kind=3)=false:=by rw[hy];rfl
 rw[e2] at h2
 have h3:=zeC
 have h4:=fun n t hp=>zeD n t hp
 have h5:=fun n t hp=>zdF n t hp
 have h6:=fun x X=>ziM g k 0 x (by omega) (by omega) (hp++X) r (hr' X)
 have h7:=fun hp=>zbI y hp
 have e7:decide (y.kind=0)=true:=decide_eq_true hy
 rw[e7] at h7
 have h8:=fun hp=>zfq ps vp hp
 have e8:decide ((tl ps).kind=0)=false:=by rw[hnl.1];rfl
 rw[e8] at h8
 have hcp:cs ps:=by
  by_cases h:cs ps
  ·exact h
  ·rw[zlf h] at hel
   cases hel
 have h9:=fun hp=>zmk ps hp
 have e9:decide (zcm ps)=false:=by
  refine decide_eq_false fun h=> ?_
  have:=h.1
  rw[hcp.1] at this
  cases this
 rw[e9] at h9
 have h10:=fun hp=>zgt ps vp hp
 rw[hel] at h10
 have h11:∀hp,S 71 [(tatm nm).av] hp=some (.ret (.pv none (.bool false)),hp):=fun hp=>zbI (tatm nm) hp
 have h12:∀hp,S 73 [(tatm nm).av] hp=some (.ret (.pv none (.bool true)),hp):=fun hp=>zgI (tatm nm) hp
 have h13:=fun hp=>zfr nm rest hp
 have hpl:(Tm.pvs (tatm nm::rest)).length=rest.length+1:=by rw[Tm.pvs_len];rfl
 have hi0:zaT (some 4) [.pv none (.sl (some 4) (Tm.pvs (tatm nm::rest))),.pv none (.int .i64 0)]=some (.iptr (some 4) (tatm nm).pv 0):=rfl
 have hr0:¬((rest.length:Nat):Int)=0:=by omega
 have hsl:zb4 (some 4) true false [.pv none (.sl (some 4) (Tm.pvs (tatm nm::rest))),.pv none (.int .i64 1)]=some (.pv none (.sl (some 4) (Tm.pvs rest))):=znr (h:=1) (by rw[hpl];omega)
 have e0:((0:Nat):Int)=0:=rfl
 have hgt:¬(8:Int)<(rest.length:Int):=by omega
 have kn:(tatm nm).name=nm:=rfl
 simp only[Tm.av] at h1 h2 h4 h5 h7 h8 h9 h10 h11 h12 h13
 simp only[Tm.av,wJ,e0] at h6
 simp -dsimp -implicitDefEqProofs only[go_sem,seval,↓reduceIte,Tm.av,h1,h2,h3,h4,h5,h6,h7,h8,h9,h10,h11,h12,h13,hi0,hsl,hr0,hgt,kn,Tm.pvs_len,zao,zad,hr,hr',ziE,zex,zj1,zgR rfl,zca hb,List.take_succ_cons,zbG,zcb,zgV,zc9,zey,zaA,za9 (sh:=some 4) (by decide),zae (Nat.le_add_right _ _),List.append_assoc,zaj,zag,zan,zah,Nat.add_assoc,List.length_append]
 rw[if_neg (by simp[AV.refsIn])]
 rfl
theorem zli(n:Int)(hp:Heap):S 126 [.pv none (.int .i64 n)] hp=some (.ret (tint n).av,hp):=by
 refine zak rfl rfl rfl (zab [(none,.int .i64 n)]) rfl ?_
 have hbu:zaQ [(none,.pv none (.int .i64 0)),(none,.pv none (.int .i64 0)),(none,.pv none (.str [])),(none,.tsl (some 4) [])] [0,1] [.pv none (.int .i64 1),.pv none (.int .i64 n)]=some (.agg [(none,.pv none (.int .i64 1)),(none,.pv none (.int .i64 n)),(none,.pv none (.str [])),(none,.tsl (some 4) [])]):=rfl
 simp -dsimp -implicitDefEqProofs only[go_sem,seval,↓reduceIte,hbu,zae (Nat.zero_le _)]
 exact⟨_,rfl⟩
def aJ(i:Int)(t:Tm):Heap:=[.box (some 4) (.pv (some 4) (tint i).pv),.box (some 4) (.pv (some 4) t.pv),.arr (some 4) [] false,.box none (.pv none (.str [105,110,116,101,103,101,114])),.box (some 4) (.pv (some 4) (tint i).pv),.box none (.pv none (.str [99,111,109,112,111,117,110,100])),.box (some 4) (.pv (some 4) t.pv),.box none (.pv none (.str [110,111,116,95,108,101,115,115,95,116,104,97,110,95,122,101,114,111])),.box (some 4) (.pv (some 4) (tint i).pv)]
theorem zrO(g:Tm)(k:Nat)(i:Nat)(t:Tm)(hk:t.kind=3)(hi:i=0\/t.args.length<i)(hp:Heap)(r:Nat)(hr:hp[r]? =some (.box (some 5) (.pv (some 5) (runV g k))))(hb:Bq hp):
  S 99 [.ptr r 0,(tint i).av,t.av] hp=some (.ret (.sl (some 4) (hp.length+9) 0 0 0),hp++(aJ i t++[.arr (some 4) [] false])):=by
 refine zay rfl rfl rfl rfl ?_
 obtain⟨j,hj⟩:∃j:Int,j=(i:Int):=⟨_,rfl⟩
 rw[<-hj]
 have h1:∀hp,S 71 [(tint j).av] hp=some (.ret (.pv none (.bool false)),hp):=fun hp=>zbI (tint j) hp
 have h2:=fun hp=>zbI t hp
 have e2:decide (t.kind=0)=false:=by rw[hk];rfl
 rw[e2] at h2
 have h3:=zeC
 have h4:=fun n t hp=>zeD n t hp
 have h5:=fun n t hp=>zdF n t hp
 have h6:∀hp,S 74 [(tint j).av] hp=some (.ret (.pv none (.bool true)),hp):=fun hp=>ziL (tint j) hp
 have h7:=fun hp=>zbv t hp
 have e7:decide (t.kind=3)=true:=decide_eq_true hk
 rw[e7] at h7
 have kn:(tint j).n=j:=rfl
 have hn0:¬j<0:=by omega
 simp only[Tm.av] at h1 h2 h4 h5 h6 h7
 by_cases h0:i=0
 ·have hz:(j=0)=True:=eq_true (by omega)
  simp -dsimp -implicitDefEqProofs only[go_sem,seval,↓reduceIte,Tm.av,h1,h2,h3,h4,h5,h6,h7,kn,hn0,hz,Tm.pvs_len,za8,zad,hr,ziE,zex,zgR rfl,zca hb,List.take_succ_cons,zbG,zcb,zgV,zc9,zey,zaA,za9 (sh:=some 4) (by decide),List.append_assoc,zaj,zag,zan,zah,Nat.add_assoc,List.length_append]
  try rw[if_neg (by simp[AV.refsIn])]
  try rfl
 ·have hz:(j=0)=False:=eq_false (by omega)
  have hgt:(t.args.length:Int)<j:=by omega
  simp -dsimp -implicitDefEqProofs only[go_sem,seval,↓reduceIte,Tm.av,h1,h2,h3,h4,h5,h6,h7,kn,hn0,hz,hgt,Tm.pvs_len,za8,zad,hr,ziE,zex,zgR rfl,zca hb,List.take_succ_cons,zbG,zcb,zgV,zc9,zey,zaA,za9 (sh:=some 4) (by decide),List.append_assoc,zaj,zag,zan,zah,Nat.add_assoc,List.length_append]
  try rw[if_neg (by simp[AV.refsIn])]
  try rfl
theorem zrP(g:Tm)(k:Nat)(i:Nat)(t u:Tm)(hk:t.kind=3)(hu:t.args[i]? =some u)(htl:t.args.length<=8)(hga:g.args.length=3)(hp:Heap)(r:Nat)(hr:hp[r]? =some (.box (some 5) (.pv (some 5) (runV g k))))(hb:Bq hp):
  S 99 [.ptr r 0,(tint ((i+1:Nat):Int)).av,t.av] hp=some (.ret (.sl (some 4) (hp.length+15) 1 0 1),hp++(aJ ((i+1:Nat):Int) t++wJ (hp.length+9) g 2 u)):=by
 refine zay rfl rfl rfl rfl ?_
 have hlt:=zbs hr
 have hr':∀X,(hp++X)[r]? =some (.box (some 5) (.pv (some 5) (runV g k))):=fun X=>by rw[zb3 hlt,hr]
 have hil:=(List.getElem?_eq_some_iff.1 hu).1
 obtain⟨j,hj⟩:∃j:Int,j=((i+1:Nat):Int):=⟨_,rfl⟩
 rw[<-hj]
 have h1:∀hp,S 71 [(tint j).av] hp=some (.ret (.pv none (.bool false)),hp):=fun hp=>zbI (tint j) hp
 have h2:=fun hp=>zbI t hp
 have e2:decide (t.kind=0)=false:=by rw[hk];rfl
 rw[e2] at h2
 have h3:=zeC
 have h4:=fun n t hp=>zeD n t hp
 have h5:=fun n t hp=>zdF n t hp
 have h6:∀hp,S 74 [(tint j).av] hp=some (.ret (.pv none (.bool true)),hp):=fun hp=>ziL (tint j) hp
 have h7:=fun hp=>zbv t hp
 have e7:decide (t.kind=3)=true:=decide_eq_true hk
 rw[e7] at h7
 have h8:=fun X=>ziM g k 2 u (by omega) (by omega) (hp++X) r (hr' X)
 have e0:((2:Nat):Int)=2:=rfl
 have kn:(tint j).n=j:=rfl
 have hn0:¬j<0:=by omega
 have hz:¬j=0:=by omega
 have hgt:¬(t.args.length:Int)<j:=by omega
 have hw:IntKind.i64.wrap (j - 1)=(i:Int):=by rw[zaO (by omega) (by omega)];omega
 simp only[Tm.av] at h1 h2 h4 h5 h6 h7
 simp only[Tm.av,wJ,e0] at h8
 simp -dsimp -implicitDefEqProofs only[go_sem,seval,↓reduceIte,Tm.av,h1,h2,h3,h4,h5,h6,h7,h8,kn,hn0,hz,hgt,hw,zar (Tm.pvs_get hu),Tm.pvs_len,za8,zad,hr,ziE,zex,zgR rfl,zca hb,List.take_succ_cons,zbG,zcb,zgV,zc9,zey,zaA,za9 (sh:=some 4) (by decide),List.append_assoc,zaj,zag,zan,zah,Nat.add_assoc,List.length_append]
 rw[if_neg (by simp[AV.refsIn])]
 rfl
theorem zhs{hp X:Heap}{u:Tm}{o:Nat}(n:Nat)(h:X[n]? =some (.box (some 4) (.pv (some 4) u.pv))):zbo (hp++X) (hp++X) (.ptr (hp.length+n) o)=true:=
 zj6 (p:=u) (by rw[getN rfl];exact h)
def fJ(g t y1 y2:Tm):Heap:=[.box (some 4) (.pv (some 4) t.pv),.box (some 4) (.pv (some 4) y1.pv),.box (some 4) (.pv (some 4) y2.pv),.arr (some 4) [] false,.box (some 4) (.agg [(none,.pv none (.int .i64 g.kind)),(none,.pv none (.int .i64 g.n)),(none,.pv none (.str g.name)),(none,.tsl (some 4) [t.pv,(tatm t.name).pv,(tint (t.args.length:Int)).pv])]),.arr (some 4) [] false,.box (some 4) (.pv (some 4) (tatm t.name).pv),.arr (some 4) [] false,.arr (some 4) [(Tm.mk g.kind g.n g.name [t,tatm t.name,tint (t.args.length:Int)]).pv] false]
theorem zlj(g:Tm)(k:Nat)(t y1 y2:Tm)(hk:t.kind=3)(hp:Heap)(r:Nat)(hr:hp[r]? =some (.box (some 5) (.pv (some 5) (runV g k))))(hb:Bq hp):
  S 98 [.ptr r 0,t.av,y1.av,y2.av] hp=some (.ret (.sl (some 4) (hp.length+8) 1 0 1),hp++fJ g t y1 y2):=by
 refine zay rfl rfl rfl rfl ?_
 have hlt:=zbs hr
 have hr':∀X,(hp++X)[r]? =some (.box (some 5) (.pv (some 5) (runV g k))):=fun X=>by rw[zb3 hlt,hr]
 have h2:=fun hp=>zbI t hp
 have e2:decide (t.kind=0)=false:=by rw[hk];rfl
 rw[e2] at h2
 have h5:=fun n hp=>zpV n hp
 have h6:=fun n hp=>zli n hp
 have h7:=fun hp=>zbv t hp
 have e7:decide (t.kind=3)=true:=decide_eq_true hk
 rw[e7] at h7
 have hs0:∀(Z:Heap),zbo (hp++.box (some 4) (.pv (some 4) t.pv)::Z) (hp++.box (some 4) (.pv (some 4) t.pv)::Z) (.ptr hp.length 0)=true:=fun Z=>zhs (hp:=hp) (u:=t) (X:=.box (some 4) (.pv (some 4) t.pv)::Z) 0 rfl
 have hs6:∀(x0 x1 x2 x3 x4 x5:AObj) (Z:Heap),zbo (hp++x0::x1::x2::x3::x4::x5::.box (some 4) (.pv (some 4) (tatm t.name).pv)::Z) (hp++x0::x1::x2::x3::x4::x5::.box (some 4) (.pv (some 4) (tatm t.name).pv)::Z) (.ptr (hp.length+6) 0)=true:=fun x0 x1 x2 x3 x4 x5 Z=>zhs (hp:=hp) (u:=tatm t.name) (X:=x0::x1::x2::x3::x4::x5::.box (some 4) (.pv (some 4) (tatm t.name).pv)::Z) 6 rfl
 have hup:∀es:List PV,AV.upd deep (.pv (some 4) g.pv) 3 none (.tsl (some 4) es)=some (.agg [(none,.pv none (.int .i64 g.kind)),(none,.pv none (.int .i64 g.n)),(none,.pv none (.str g.name)),(none,.tsl (some 4) es)]):=fun es=>by cases g;rfl
 have hst:∀(x0 x1 x2 x3 x5 x6 x7:AObj) (a:PV) (es:List PV),zaC none hp.length (hp++[x0,x1,x2,x3,.box (some 4) (.pv (some 4) g.pv),x5,x6,x7]) [.ptr (hp.length+4) 3,.tsl (some 4) (a::es)]=some (.undef,hp++[x0,x1,x2,x3,.box (some 4) (.agg [(none,.pv none (.int .i64 g.kind)),(none,.pv none (.int .i64 g.n)),(none,.pv none (.str g.name)),(none,.tsl (some 4) (a::es))]),x5,x6,x7]):=fun x0 x1 x2 x3 x5 x6 x7 a es=>by
  simp[zaC,astore,getN rfl,setN rfl,AV.plain,AV.shp,AV.own,hup]
 have hbs:∀(H:Heap),zgK (some 4) H [.agg [(none,.pv none (.int .i64 g.kind)),(none,.pv none (.int .i64 g.n)),(none,.pv none (.str g.name)),(none,.tsl (some 4) [t.pv,(tatm t.name).pv,(tint (t.args.length:Int)).pv])]]=some (.sl (some 4) H.length 1 0 1,H++[.arr (some 4) [(Tm.mk g.kind g.n g.name [t,tatm t.name,tint (t.args.length:Int)]).pv] false]):=fun H=>by
  have e2:AV.freeze deep (.agg [(none,.pv none (.int .i64 g.kind)),(none,.pv none (.int .i64 g.n)),(none,.pv none (.str g.name)),(none,.tsl (some 4) [t.pv,(tatm t.name).pv,(tint (t.args.length:Int)).pv])]) H=some ((Tm.mk g.kind g.n g.name [t,tatm t.name,tint (t.args.length:Int)]).pv,H):=rfl
  simp only[zgK,zal,e2]
  simp[AV.shp,total,Sh.size,zaN]
 simp only[Tm.av] at h2 h5 h6 h7
 simp -dsimp -implicitDefEqProofs only[go_sem,seval,↓reduceIte,Tm.av,h2,h5,h6,h7,hs0,hs6,hst,hbs,Tm.pvs_len,za8,zao,zad,hr,hr',zkc,List.drop_succ_cons,List.take_succ_cons,List.all_cons,List.all_nil,zaA,zae (Nat.le_add_right _ _),za9 (sh:=some 4) (by decide),List.append_assoc,zaj,zag,zan,zah,Nat.add_assoc,List.length_append]
 rw[if_neg (by simp[AV.refsIn])]
 rfl
def hK(hp:Heap)(r:Nat)(g:Tm)(j:Nat):Heap:=hp.set r (.box (some 5) (.pv (some 5) (runV g j)))
theorem zl7(hp:Heap)(r:Nat)(g:Tm)(j:Nat):(hK hp r g j).length=hp.length:=by simp[hK]
theorem zsq{hp:Heap}{r:Nat}(h:r<hp.length)(g:Tm)(j:Nat)(X:Heap):(hK hp r g j++X)[r]? =some (.box (some 5) (.pv (some 5) (runV g j))):=by
 rw[List.getElem?_append_left (by rw[zl7];exact h)]
 simp[hK,h]
theorem zuf{hp:Heap}{r:Nat}(h:r<hp.length)(g:Tm)(j i:Nat)(X:Heap):(hK hp r g j++X).set r (.box (some 5) (.pv (some 5) (runV g i)))=hK hp r g i++X:=by
 rw[List.set_append_left _ _ (by rw[zl7];exact h)]
 simp[hK]
theorem ztk{hp:Heap}{r:Nat}{g:Tm}{k:Nat}(hr:hp[r]? =some (.box (some 5) (.pv (some 5) (runV g k)))):hK hp r g k=hp:=by
 obtain⟨h,he⟩:=List.getElem?_eq_some_iff.1 hr
 unfold hK
 rw[<-he]
 exact List.set_getElem_self h
theorem zrM(g:Tm)(j i:Nat):AV.upd deep (.pv (some 5) (runV g j)) 4 none (.pv none (.int .i64 (i:Int)))=some (.pv (some 5) (runV g i)):=by cases g;rfl
theorem zrN(g:Tm)(j:Nat)(hj:j<1000000)(hp:Heap)(r:Nat)(h:r<hp.length)(X:Heap)(n:Nat)(hn:n=hp.length+X.length):S 128 [.ptr r 0] (hK hp r g j++X)=some (.ret (nagg (tvar j) (n+2)),hK hp r g (j+1)++(X++[.box (some 4) (nagg (tvar j) (n+2)),.arr (some 4) [] false,.arr (some 4) [] false])):=by
 refine zay rfl rfl rfl rfl ?_
 obtain⟨K,hK0⟩:∃K:Nat->Heap,K=fun j=>hK hp r g j++X:=⟨_,rfl⟩
 have hKs:∀j,hK hp r g j++X=K j:=fun j=>by rw[hK0]
 have hKa:∀j Y,hK hp r g j++(X++Y)=K j++Y:=fun j Y=>by rw[<-hKs,List.append_assoc]
 have hKl:∀j,(K j).length=n:=fun j=>by rw[<-hKs,List.length_append,zl7,hn]
 have hKr:∀j Y,(K j++Y)[r]? =some (.box (some 5) (.pv (some 5) (runV g j))):=fun j Y=>by
  rw[<-hKa]
  exact zsq h g j _
 have hst:∀Y,zaC none n (K j++Y) [.ptr r 4,.pv none (.int .i64 ((j+1:Nat):Int))]=some (.undef,K (j+1)++Y):=fun Y=>by
  have hb:¬n<=r:=by omega
  have e:(K j++Y).set r (.box (some 5) (.pv (some 5) (runV g (j+1))))=K (j+1)++Y:=by
   rw[<-hKa,<-hKa]
   exact zuf h g j (j+1) _
  simp only[zaC,astore,hKr,AV.plain,AV.shp,hb,AV.refsIn,zrM,if_false]
  simp[e]
 have hw:IntKind.i64.wrap ((j:Int)+1)=((j+1:Nat):Int):=by rw[zaO (by omega) (by omega)];omega
 have hw2:IntKind.i64.wrap (((j+1:Nat):Int) - 1)=(j:Int):=by rw[zaO (by omega) (by omega)];omega
 have hbu:zaQ [(none,.pv none (.int .i64 0)),(none,.pv none (.int .i64 0)),(none,.pv none (.str [])),(none,.tsl (some 4) [])] [0,1] [.pv none (.int .i64 0),.pv none (.int .i64 (j:Int))]=some (.agg [(none,.pv none (.int .i64 0)),(none,.pv none (.int .i64 (j:Int))),(none,.pv none (.str [])),(none,.tsl (some 4) [])]):=rfl
 rw[hKa,hKs,hKl]
 simp -dsimp -implicitDefEqProofs only[go_sem,seval,↓reduceIte,hKr,hst,hw,hw2,hbu,zqs,zaA,zae (Nat.le_refl _),zaz,List.append_assoc,zaj,zag,zan,zah,Nat.add_assoc,List.length_append,hKl,getN (hKl _),zdG (hKl _),setN (hKl _),zdV (hKl _)]
 exact⟨rfl,by rw[if_neg (by simp[nagg,AV.refsIn,AV.refsIn.go])];rfl⟩
theorem zj0(s:List UInt8)(l:List Tm)(hp:Heap)(q n:Nat)(hn:l.length=n)(hq:hp[q]? =some (.arr (some 4) (Tm.pvs l) false)):S 129 [.pv none (.str s),.sl (some 4) q n 0 n] hp=some (.ret (tstr s l).av,hp.set q (.arr (some 4) (Tm.pvs l) true)):=by
 have h:=zfr s l []
 have hz:zal [.pv none (.str s),.sl (some 4) q n 0 n] hp=some ([(none,.str s),(none,.sl (some 4) (Tm.pvs l))],hp.set q (.arr (some 4) (Tm.pvs l) true)):=by
  have e1:AV.freeze deep (.sl (some 4) q n 0 n) hp=some (.sl (some 4) (Tm.pvs l),hp.set q (.arr (some 4) (Tm.pvs l) true)):=by
   simp[AV.freeze,deep,hq,Tm.pvs_len,hn]
  have e2:∀X,AV.freeze deep (.pv none (.str s)) X=some (.str s,X):=fun _=>rfl
  simp[zal,e1,e2,AV.shp]
 have h2:=zil (F:=find tab) (prim:=prim) (f:=129) (args:=[.pv none (.str s),.sl (some 4) q n 0 n]) rfl rfl rfl hz h
 have hs:∀u:Tm,u.av.scalar=false:=fun u=>by cases u;rfl
 rw[hs] at h2
 exact h2
def frT(k n:Nat):List Tm:=(List.range n).map fun j=>tvar ((k+j:Nat):Int)
theorem ziD(k n:Nat):frT k (n+1)=frT k n++[tvar ((k+n:Nat):Int)]:=by simp[frT,List.range_succ]
theorem ze4(k n:Nat):(frT k n).length=n:=by simp[frT]
def gJ(y a:Tm)(N:Int):Heap:=[.box (some 4) (.pv (some 4) y.pv),.box (some 4) (.pv (some 4) a.pv),.box (some 4) (.pv (some 4) (tint N).pv),.arr (some 4) [] false,.box none (.pv none (.str [97,116,111,109,105,99])),.box (some 4) (.pv (some 4) a.pv),.box none (.pv none (.str [105,110,116,101,103,101,114])),.box (some 4) (.pv (some 4) (tint N).pv),.box none (.pv none (.str [110,111,116,95,108,101,115,115,95,116,104,97,110,95,122,101,114,111])),.box (some 4) (.pv (some 4) (tint N).pv),.box none (.pv none (.str [97,116,111,109])),.box (some 4) (.pv (some 4) a.pv)]
theorem zlh(g:Tm)(k:Nat)(y:Tm)(nm:List UInt8)(N:Nat)(hy:y.kind=0)(hN1:0<N)(hN8:N<=8)(hk:k<100000)(hga:g.args.length=3)(hp:Heap)(r:Nat)(hr:hp[r]? =some (.box (some 5) (.pv (some 5) (runV g k))))(hb:Bq hp):
  S 98 [.ptr r 0,y.av,(tatm nm).av,(tint N).av] hp=some (.ret (.sl (some 4) (hp.length+19) 1 0 1),hK hp r g (k+N)++(gJ y (tatm nm) N++(.arr (some 4) (Tm.pvs (frT k N)) true::wJ (hp.length+13) g 0 (tstr nm (frT k N))))):=by
 refine zay rfl rfl rfl rfl ?_
 have hlt:=zbs hr
 have hr':∀X,(hp++X)[r]? =some (.box (some 5) (.pv (some 5) (runV g k))):=fun X=>by rw[zb3 hlt,hr]
 have h1:=fun hp=>zbI y hp
 have e1:decide (y.kind=0)=true:=decide_eq_true hy
 rw[e1] at h1
 have h2:∀hp,S 71 [(tatm nm).av] hp=some (.ret (.pv none (.bool false)),hp):=fun hp=>zbI (tatm nm) hp
 have h2':∀hp,S 71 [(tint N).av] hp=some (.ret (.pv none (.bool false)),hp):=fun hp=>zbI (tint N) hp
 have h3:=zeC
 have h4:=fun n t hp=>zeD n t hp
 have h5:=fun n t hp=>zdF n t hp
 have h6:∀hp,S 74 [(tint N).av] hp=some (.ret (.pv none (.bool true)),hp):=fun hp=>ziL (tint N) hp
 have h7:∀hp,S 47 [(tatm nm).av] hp=some (.ret (.pv none (.bool false)),hp):=fun hp=>zbv (tatm nm) hp
 have h8:∀hp,S 73 [(tatm nm).av] hp=some (.ret (.pv none (.bool true)),hp):=fun hp=>zgI (tatm nm) hp
 have kn:(tint (N:Int)).n=(N:Int):=rfl
 have hn0:¬(N:Int)<0:=by omega
 have hn8:¬(8:Int)<(N:Int):=by omega
 have hnp:(0:Int)<(N:Int):=by omega
 have hnz:¬(N:Int)=0:=by omega
 simp only[Tm.av] at h1 h2 h2' h4 h5 h6 h7 h8
 simp -dsimp -implicitDefEqProofs only[go_sem,seval,↓reduceIte,Tm.av,h1,h2,h2',h3,h4,h5,h6,h7,h8,kn,hn0,hn8,hnp,hnz,za8,hr,hr',ziE,zex,zgR rfl,zca hb,List.take_succ_cons,zbG,zcb,zgV,zc9,zey,zaA,za9 (sh:=some 4) (by decide),List.append_assoc,zaj,zag,zan,zah,Nat.add_assoc,List.length_append]
 obtain⟨P,hP⟩:∃P:Nat->Heap,P=hK hp r g:=⟨_,rfl⟩
 have hPs:∀j,hK hp r g j=P j:=fun j=>by rw[hP]
 have hPl:∀j,(P j).length=hp.length:=fun j=>by rw[hP,zl7]
 have hPk:P k=hp:=by rw[hP,ztk hr]
 have hPr:∀j Y,(P j++Y)[r]? =some (.box (some 5) (.pv (some 5) (runV g j))):=fun j Y=>by rw[hP];exact zsq hlt g j Y
 rw[hPs]
 refine zet (α:=Unit) N (fun _ _=>True) (fun i _=>⟨[(0,.ptr r 0),(6,.ptr (hp.length+1) 0),(11,.sl (some 4) (hp.length+12) i 0 i),(81,.pv none (.int .i64 N)),(82,.pv none (.int .i64 i))],P (k+i)++(gJ y (tatm nm) N++[.arr (some 4) (Tm.pvs (frT k i)) false])⟩) () ⟨trivial,by show _=(⟨_,P k++_⟩:St);rw[hPk];rfl⟩ ?_ ?_
 ·rintro i - h -
  have hc:(i:Int)<(N:Int):=by omega
  have w2:IntKind.i64.wrap ((i:Int)+1)=((i+1:Nat):Int):=by rw[zaO (by omega) (by omega)];omega
  have h9:=zrN g (k+i) (by omega) hp r hlt (gJ y (tatm nm) N++[.arr (some 4) (Tm.pvs (frT k i)) false]) (hp.length+13) rfl
  obtain⟨u,hu⟩:∃u,u=tvar ((k+i:Nat):Int):=⟨_,rfl⟩
  rw[<-hu,hPs,hPs] at h9
  have hua:u.args=[]:=by rw[hu];rfl
  have hbs:∀(j:Nat) (x0 x1 x2 x3 x4 x5 x6 x7 x8 x9 x10 x11 x12 x13 x14:AObj),zaZ (some 4) (P j++[x0,x1,x2,x3,x4,x5,x6,x7,x8,x9,x10,x11,x12,x13,x14,.arr (some 4) [] false]) [nagg u (hp.length+15)]=some (.tsl (some 4) [u.pv],P j++[x0,x1,x2,x3,x4,x5,x6,x7,x8,x9,x10,x11,x12,x13,x14,.arr (some 4) [] true]):=fun j x0 x1 x2 x3 x4 x5 x6 x7 x8 x9 x10 x11 x12 x13 x14=>by
   have e:=zlp (u:=u) hua (q:=hp.length+15) (H:=P j++[x0,x1,x2,x3,x4,x5,x6,x7,x8,x9,x10,x11,x12,x13,x14,.arr (some 4) [] false]) (z:=false) (by rw[getN (hPl j)];rfl)
   have e4:(nagg u (hp.length+15)).shp=some 4:=rfl
   simp only[zaZ,zal,e,e4,setN (hPl j),zaN]
   rfl
  have hap:∀(j:Nat) (x0 x1 x2 x3 x4 x5 x6 x7 x8 x9 x10 x11:AObj) (Z:Heap),zaJ (some 4) (P j++x0::x1::x2::x3::x4::x5::x6::x7::x8::x9::x10::x11::.arr (some 4) (Tm.pvs (frT k i)) false::Z) [.sl (some 4) (hp.length+12) i 0 i,.tsl (some 4) [u.pv]]=some (.sl (some 4) (hp.length+12) (i+1) 0 (i+1),P j++x0::x1::x2::x3::x4::x5::x6::x7::x8::x9::x10::x11::.arr (some 4) (Tm.pvs (frT k (i+1))) false::Z):=fun j x0 x1 x2 x3 x4 x5 x6 x7 x8 x9 x10 x11 Z=>by
   have hlim:i+1<=lim:=by unfold lim;omega
   have e:Tm.pvs (frT k (i+1))=Tm.pvs (frT k i)++[u.pv]:=by rw[ziD,Tm.zu4,hu];rfl
   rw[e]
   simp[zaJ,aappend,elems,getN (hPl j),setN (hPl j),Tm.pvs_len,ze4,hlim]
  simp only[gJ,List.cons_append,List.nil_append] at h9
  simp -dsimp -implicitDefEqProofs only[go_sem,seval,↓reduceIte,gJ,hc,w2,h9,hbs,hap,List.append_assoc,zaj,zag,zan,zah,Nat.add_assoc,List.length_append]
  try refine⟨(),?_⟩
  rw[zc3 13 (hPl _) rfl (by simp[AObj.refs,AV.refsIn]) (by simp[AV.refsIn];omega)]
  rfl
 ·rintro - -
  have hc:¬(N:Int)<(N:Int):=by omega
  have h10:∀(x0 x1 x2 x3 x4 x5 x6 x7 x8 x9 x10 x11:AObj),S 129 [.pv none (.str nm),.sl (some 4) (hp.length+12) N 0 N] (P (k+N)++[x0,x1,x2,x3,x4,x5,x6,x7,x8,x9,x10,x11,.arr (some 4) (Tm.pvs (frT k N)) false])=some (.ret (tstr nm (frT k N)).av,P (k+N)++[x0,x1,x2,x3,x4,x5,x6,x7,x8,x9,x10,x11,.arr (some 4) (Tm.pvs (frT k N)) true]):=fun x0 x1 x2 x3 x4 x5 x6 x7 x8 x9 x10 x11=>by
   rw[zj0 nm (frT k N) _ (hp.length+12) N (ze4 _ _) (by rw[getN (hPl _)];rfl),setN (hPl _)]
   rfl
  have h11:=fun X=>ziM g (k+N) 0 (tstr nm (frT k N)) (by omega) (by omega) (P (k+N)++X) r (hPr _ X)
  have e0:((0:Nat):Int)=0:=rfl
  have kname:(tatm nm).name=nm:=rfl
  simp only[Tm.av] at h10
  simp only[Tm.av,wJ,e0] at h11
  simp -dsimp -implicitDefEqProofs only[go_sem,seval,↓reduceIte,gJ,hc,h10,h11,zao,kname,hPl,getN (hPl _),zdG (hPl _),List.append_assoc,zaj,zag,zan,zah,Nat.add_assoc,List.length_append]
  rw[if_neg (by simp[AV.refsIn])]
  rfl
def nArg:List UInt8:=[97,114,103]
theorem zl1(g a0 a1 a2:Tm)(hn:g.name=nArg)(hga:g.args=[a0,a1,a2])(k:Nat)(hp:Heap)(r:Nat)(hr:hp[r]? =some (.box (some 5) (.pv (some 5) (runV g k))))(hb:Bq hp)(v:AV)(H:Heap)(hv:v.refsIn.all (fun q=>decide (q<hp.length))=false)
  (hex:S 99 [.ptr r 0,a0.av,a1.av] (hp++eJ g)=some (.ret v,H)):
  S 50 [.ptr r 0] hp=some (.ret (.tuple [v,.pv none (.int .i64 0)]),H):=by
 refine zay rfl rfl rfl rfl ?_
 have hlt:=zbs hr
 have hr':∀X,(hp++X)[r]? =some (.box (some 5) (.pv (some 5) (runV g k))):=fun X=>by rw[zb3 hlt,hr]
 have hl:g.args.length=3:=by rw[hga];rfl
 have h1:=fun hp=>zeE (Tm.pvs g.args) (by rw[Tm.pvs_len];omega) (by rw[Tm.pvs_len];omega) hp
 have hz0:zaQ [(none,.pv none (.int .i64 0)),(none,.pv none (.int .i64 0)),(none,.pv none (.str [])),(none,.tsl (some 4) [])] [] []=some zagC:=rfl
 have h2:=ziC
 have h3:=zcF
 have ha:∀y0 y1,_:=fun y0 y1=> @zp4 hp y0 y1 g.args 3 hl (by decide)
 have l0:∀Z y0 y1 z,_:=fun Z y0 y1 z=> @zjZ hp Z y0 y1 (g.args++[zt,zt]) z 5 0 a0 (by rw[List.length_append,hl];rfl) (by rw[hga];rfl)
 have i0:zaT (some 4) [.sl (some 4) (hp.length+2) 5 0 5,.pv none (.int .i64 0)]=some (.eptr (some 4) (hp.length+2) 5 0 0):=rfl
 have l1:∀Z y0 y1 z,_:=fun Z y0 y1 z=> @zjZ hp Z y0 y1 (g.args++[zt,zt]) z 5 1 a1 (by rw[List.length_append,hl];rfl) (by rw[hga];rfl)
 have i1:zaT (some 4) [.sl (some 4) (hp.length+2) 5 0 5,.pv none (.int .i64 1)]=some (.eptr (some 4) (hp.length+2) 5 1 0):=rfl
 have l2:∀Z y0 y1 z,_:=fun Z y0 y1 z=> @zjZ hp Z y0 y1 (g.args++[zt,zt]) z 5 2 a2 (by rw[List.length_append,hl];rfl) (by rw[hga];rfl)
 have i2:zaT (some 4) [.sl (some 4) (hp.length+2) 5 0 5,.pv none (.int .i64 2)]=some (.eptr (some 4) (hp.length+2) 5 2 0):=rfl
 have k1:∀Z y0 y1 y2,_:=fun Z y0 y1 y2=> @zp5 hp Z y0 y1 y2 nArg rows1 rfl
 have k2:∀Z y0 y1 y2 y3,_:=fun Z y0 y1 y2 y3=> @zp6 hp Z y0 y1 y2 y3 nArg rows2 rfl
 have q0:(nArg=[99,111,109,112,97,114,101])=False:=eq_false (by decide)
 have q1:(nArg=[92,61])=False:=eq_false (by decide)
 have q2:(nArg=[102,117,110,99,116,111,114])=False:=eq_false (by decide)
 have q3:(nArg=[97,114,103])=True:=eq_true (by decide)
 simp only[eJ,Tm.av] at hex
 simp -dsimp -implicitDefEqProofs only[go_sem,seval,↓reduceIte,Tm.av,hr,hr',h1,h2,h3,ha,hn,hl,hz0,l0,i0,l1,i1,l2,i2,k1,k2,q0,q1,q2,q3,hex,Tm.pvs_len,zgG,zgH,zp3,ziE,zex,zgR rfl,zca hb,List.take_succ_cons,zbG,zcb,zgV,zc9,ziB,zfA,zfB,zey,zaA,za9 (sh:=some 4) (by decide),List.append_assoc,zaj,zag,zan,zah,Nat.add_assoc,List.length_append]
 have hrf:(AV.tuple [v,.pv none (.int .i64 0)]).refsIn=v.refsIn:=by simp[AV.refsIn,AV.refsIn.gol]
 rw[hrf,if_neg (by rw[hv];simp)]
def nFun:List UInt8:=[102,117,110,99,116,111,114]
theorem zfo(g a0 a1 a2:Tm)(hn:g.name=nFun)(hga:g.args=[a0,a1,a2])(k:Nat)(hp:Heap)(r:Nat)(hr:hp[r]? =some (.box (some 5) (.pv (some 5) (runV g k))))(hb:Bq hp)(v:AV)(H:Heap)(hv:v.refsIn.all (fun q=>decide (q<hp.length))=false)
  (hex:S 98 [.ptr r 0,a0.av,a1.av,a2.av] (hp++eJ g)=some (.ret v,H)):
  S 50 [.ptr r 0] hp=some (.ret (.tuple [v,.pv none (.int .i64 0)]),H):=by
 refine zay rfl rfl rfl rfl ?_
 have hlt:=zbs hr
 have hr':∀X,(hp++X)[r]? =some (.box (some 5) (.pv (some 5) (runV g k))):=fun X=>by rw[zb3 hlt,hr]
 have hl:g.args.length=3:=by rw[hga];rfl
 have h1:=fun hp=>zeE (Tm.pvs g.args) (by rw[Tm.pvs_len];omega) (by rw[Tm.pvs_len];omega) hp
 have hz0:zaQ [(none,.pv none (.int .i64 0)),(none,.pv none (.int .i64 0)),(none,.pv none (.str [])),(none,.tsl (some 4) [])] [] []=some zagC:=rfl
 have h2:=ziC
 have h3:=zcF
 have ha:∀y0 y1,_:=fun y0 y1=> @zp4 hp y0 y1 g.args 3 hl (by decide)
 have l0:∀Z y0 y1 z,_:=fun Z y0 y1 z=> @zjZ hp Z y0 y1 (g.args++[zt,zt]) z 5 0 a0 (by rw[List.length_append,hl];rfl) (by rw[hga];rfl)
 have i0:zaT (some 4) [.sl (some 4) (hp.length+2) 5 0 5,.pv none (.int .i64 0)]=some (.eptr (some 4) (hp.length+2) 5 0 0):=rfl
 have l1:∀Z y0 y1 z,_:=fun Z y0 y1 z=> @zjZ hp Z y0 y1 (g.args++[zt,zt]) z 5 1 a1 (by rw[List.length_append,hl];rfl) (by rw[hga];rfl)
 have i1:zaT (some 4) [.sl (some 4) (hp.length+2) 5 0 5,.pv none (.int .i64 1)]=some (.eptr (some 4) (hp.length+2) 5 1 0):=rfl
 have l2:∀Z y0 y1 z,_:=fun Z y0 y1 z=> @zjZ hp Z y0 y1 (g.args++[zt,zt]) z 5 2 a2 (by rw[List.length_append,hl];rfl) (by rw[hga];rfl)
 have i2:zaT (some 4) [.sl (some 4) (hp.length+2) 5 0 5,.pv none (.int .i64 2)]=some (.eptr (some 4) (hp.length+2) 5 2 0):=rfl
 have k1:∀Z y0 y1 y2,_:=fun Z y0 y1 y2=> @zp5 hp Z y0 y1 y2 nFun rows1 rfl
 have k2:∀Z y0 y1 y2 y3,_:=fun Z y0 y1 y2 y3=> @zp6 hp Z y0 y1 y2 y3 nFun rows2 rfl
 have q0:(nFun=[99,111,109,112,97,114,101])=False:=eq_false (by decide)
 have q1:(nFun=[92,61])=False:=eq_false (by decide)
 have q2:(nFun=[102,117,110,99,116,111,114])=True:=eq_true (by decide)
 simp only[eJ,Tm.av] at hex
 simp -dsimp -implicitDefEqProofs only[go_sem,seval,↓reduceIte,Tm.av,hr,hr',h1,h2,h3,ha,hn,hl,hz0,l0,i0,l1,i1,l2,i2,k1,k2,q0,q1,q2,hex,Tm.pvs_len,zgG,zgH,zp3,ziE,zex,zgR rfl,zca hb,List.take_succ_cons,zbG,zcb,zgV,zc9,ziB,zfA,zfB,zey,zaA,za9 (sh:=some 4) (by decide),List.append_assoc,zaj,zag,zan,zah,Nat.add_assoc,List.length_append]
 have hrf:(AV.tuple [v,.pv none (.int .i64 0)]).refsIn=v.refsIn:=by simp[AV.refsIn,AV.refsIn.gol]
 rw[hrf,if_neg (by rw[hv];simp)]
def nUnv:List UInt8:=[61,46,46]
theorem zjT(g a0 a1:Tm)(hn:g.name=nUnv)(hga:g.args=[a0,a1])(k:Nat)(hp:Heap)(r:Nat)(hr:hp[r]? =some (.box (some 5) (.pv (some 5) (runV g k))))(hb:Bq hp)(v:AV)(H:Heap)(hv:v.refsIn.all (fun q=>decide (q<hp.length))=false)
  (hex:S 100 [.ptr r 0,a0.av,a1.av] (hp++eJ g)=some (.ret v,H)):
  S 50 [.ptr r 0] hp=some (.ret (.tuple [v,.pv none (.int .i64 0)]),H):=by
 refine zay rfl rfl rfl rfl ?_
 have hlt:=zbs hr
 have hr':∀X,(hp++X)[r]? =some (.box (some 5) (.pv (some 5) (runV g k))):=fun X=>by rw[zb3 hlt,hr]
 have hl:g.args.length=2:=by rw[hga];rfl
 have h1:=fun hp=>zeE (Tm.pvs g.args) (by rw[Tm.pvs_len];omega) (by rw[Tm.pvs_len];omega) hp
 have hz0:zaQ [(none,.pv none (.int .i64 0)),(none,.pv none (.int .i64 0)),(none,.pv none (.str [])),(none,.tsl (some 4) [])] [] []=some zagC:=rfl
 have h2:=ziC
 have h3:=zcF
 have ha:∀y0 y1,_:=fun y0 y1=> @zp4 hp y0 y1 g.args 2 hl (by decide)
 have l0:∀Z y0 y1 z,_:=fun Z y0 y1 z=> @zjZ hp Z y0 y1 (g.args++[zt,zt]) z 4 0 a0 (by rw[List.length_append,hl];rfl) (by rw[hga];rfl)
 have i0:zaT (some 4) [.sl (some 4) (hp.length+2) 4 0 4,.pv none (.int .i64 0)]=some (.eptr (some 4) (hp.length+2) 4 0 0):=rfl
 have l1:∀Z y0 y1 z,_:=fun Z y0 y1 z=> @zjZ hp Z y0 y1 (g.args++[zt,zt]) z 4 1 a1 (by rw[List.length_append,hl];rfl) (by rw[hga];rfl)
 have i1:zaT (some 4) [.sl (some 4) (hp.length+2) 4 0 4,.pv none (.int .i64 1)]=some (.eptr (some 4) (hp.length+2) 4 1 0):=rfl
 have k1:∀Z y0 y1 y2,_:=fun Z y0 y1 y2=> @zp5 hp Z y0 y1 y2 nUnv rows1 rfl
 have k2:∀Z y0 y1 y2 y3,_:=fun Z y0 y1 y2 y3=> @zp6 hp Z y0 y1 y2 y3 nUnv rows2 rfl
 have q0:(nUnv=[99,111,109,112,97,114,101])=False:=eq_false (by decide)
 have q1:(nUnv=[92,61])=False:=eq_false (by decide)
 have q2:(nUnv=[102,117,110,99,116,111,114])=False:=eq_false (by decide)
 have q3:(nUnv=[97,114,103])=False:=eq_false (by decide)
 have q4:(nUnv=[61,46,46])=True:=eq_true (by decide)
 simp only[eJ,Tm.av] at hex
 simp -dsimp -implicitDefEqProofs only[go_sem,seval,↓reduceIte,Tm.av,hr,hr',h1,h2,h3,ha,hn,hl,hz0,l0,i0,l1,i1,k1,k2,q0,q1,q2,q3,q4,hex,Tm.pvs_len,zgG,zgH,zp3,ziE,zex,zgR rfl,zca hb,List.take_succ_cons,zbG,zcb,zgV,zc9,ziB,zfA,zfB,zey,zaA,za9 (sh:=some 4) (by decide),List.append_assoc,zaj,zag,zan,zah,Nat.add_assoc,List.length_append]
 have hrf:(AV.tuple [v,.pv none (.int .i64 0)]).refsIn=v.refsIn:=by simp[AV.refsIn,AV.refsIn.gol]
 rw[hrf,if_neg (by rw[hv];simp)]
theorem ze0(g:Tm)(ts:List Tm)(hv:g.valid=true)(hc:canT g=g)(hk:g.kind=3)(hn:g.name∈zbx g.args.length)(hts:ts.all Tm.valid=true)(hl:ts.length<=1000)(q:Nat)(x6:AObj)(X:Heap)(z:Bool)
  (he:S 50 [.ptr 6 0] (hE g)=some (.ret (.tuple [.sl (some 4) q ts.length 0 ts.length,.pv none (.int .i64 0)]),(hE g).take 6++x6::X))(hq:7<=q)(hX:X[q - 7]? =some (.arr (some 4) (Tm.pvs ts) z)):zfu g ts zt 0:=by
 intro hp
 have h3:=zrC g hp hv hc hk hn ts 0 _ x6 X he (fun H hH=>zud (z:=z) rfl (hH q _ (by omega) (by
  obtain⟨j,rfl⟩:∃j,q=j+7:=⟨q - 7,by omega⟩
  exact hX))) (by omega) fun t ht=>by
   have:=valid_size (List.all_eq_true.1 hts t ht)
   omega
 have hr:zgU ts 0=(ts,0):=by
  have:¬1000<ts.length:=by omega
  simp only[zgU,ne_eq,not_true_eq_false,if_false,this,hts,if_true]
 rw[hr] at h3
 exact h3
theorem znz(g:Tm):Bq (hE g++eJ g):=(zlg g).app (Bq.cons rfl (Bq.cons rfl (Bq.cons (ziB _ _) (Bq.cons (zfA _) (Bq.cons (zfB _) Bq.nil)))))
theorem zpM(i:Nat)(t y:Tm)(hk:t.kind=3)(hi:i=0\/t.args.length<i)(hv:(tstr nArg [tint i,t,y]).valid=true)(hc:canT (tstr nArg [tint i,t,y])=tstr nArg [tint i,t,y]):zfu (tstr nArg [tint i,t,y]) [] zt 0:=by
 obtain⟨g,hg⟩:∃g,g=tstr nArg [tint i,t,y]:=⟨_,rfl⟩
 have hga:g.args=[tint i,t,y]:=by rw[hg];rfl
 rw[<-hg] at hv hc ⊢
 have h1:=zrO g (vads [] g.occ).length i t hk hi (hE g++eJ g) 6 rfl (znz g)
 have h2:=zl1 g (tint i) t y (by rw[hg];rfl) hga (vads [] g.occ).length (hE g) 6 rfl (zlg g) _ _ rfl h1
 exact ze0 g [] hv hc (by rw[hg];rfl) (by rw[hga,hg];exact(by decide:nArg∈zbx 3)) rfl (by simp) _ _ _ false h2 (by show 7<=12+9;omega) rfl
theorem zpN(i:Nat)(t y u:Tm)(hk:t.kind=3)(hu:t.args[i]? =some u)(htl:t.args.length<=8)(hv:(tstr nArg [tint ((i+1:Nat):Int),t,y]).valid=true)(hc:canT (tstr nArg [tint ((i+1:Nat):Int),t,y])=tstr nArg [tint ((i+1:Nat):Int),t,y])(hans:(tstr nArg [tint ((i+1:Nat):Int),t,u]).valid=true):zfu (tstr nArg [tint ((i+1:Nat):Int),t,y]) [tstr nArg [tint ((i+1:Nat):Int),t,u]] zt 0:=by
 obtain⟨g,hg⟩:∃g,g=tstr nArg [tint ((i+1:Nat):Int),t,y]:=⟨_,rfl⟩
 have hga:g.args=[tint ((i+1:Nat):Int),t,y]:=by rw[hg];rfl
 rw[<-hg] at hv hc ⊢
 have h1:=zrP g (vads [] g.occ).length i t u hk hu htl (by rw[hga];rfl) (hE g++eJ g) 6 rfl (znz g)
 have h2:=zl1 g (tint ((i+1:Nat):Int)) t y (by rw[hg];rfl) hga (vads [] g.occ).length (hE g) 6 rfl (zlg g) _ _ rfl h1
 exact ze0 g [tstr nArg [tint ((i+1:Nat):Int),t,u]] hv hc (by rw[hg];rfl) (by rw[hga,hg];exact(by decide:nArg∈zbx 3)) (by simp only[List.all_cons,List.all_nil,hans,Bool.and_self]) (by simp) _ _ _ false h2 (by show 7<=12+15;omega) (by rw[hg];rfl)
theorem zpO(t y1 y2:Tm)(hk:t.kind=3)(hv:(tstr nFun [t,y1,y2]).valid=true)(hc:canT (tstr nFun [t,y1,y2])=tstr nFun [t,y1,y2])(hans:(tstr nFun [t,tatm t.name,tint t.args.length]).valid=true):zfu (tstr nFun [t,y1,y2]) [tstr nFun [t,tatm t.name,tint t.args.length]] zt 0:=by
 obtain⟨g,hg⟩:∃g,g=tstr nFun [t,y1,y2]:=⟨_,rfl⟩
 have hga:g.args=[t,y1,y2]:=by rw[hg];rfl
 rw[<-hg] at hv hc ⊢
 have h1:=zlj g (vads [] g.occ).length t y1 y2 hk (hE g++eJ g) 6 rfl (znz g)
 have h2:=zfo g t y1 y2 (by rw[hg];rfl) hga (vads [] g.occ).length (hE g) 6 rfl (zlg g) _ _ rfl h1
 exact ze0 g [tstr nFun [t,tatm t.name,tint t.args.length]] hv hc (by rw[hg];rfl) (by rw[hga,hg];exact(by decide:nFun∈zbx 3)) (by simp only[List.all_cons,List.all_nil,hans,Bool.and_self]) (by simp) _ _ _ false h2 (by show 7<=12+8;omega) (by rw[hg];rfl)
theorem zpP(y:Tm)(nm:List UInt8)(N:Nat)(hy:y.kind=0)(hN1:0<N)(hN8:N<=8)(hv:(tstr nFun [y,tatm nm,tint N]).valid=true)(hc:canT (tstr nFun [y,tatm nm,tint N])=tstr nFun [y,tatm nm,tint N])(k:Nat)(hk:k=(vads [] (tstr nFun [y,tatm nm,tint N]).occ).length)(hans:(tstr nFun [tstr nm (frT k N),tatm nm,tint N]).valid=true):zfu (tstr nFun [y,tatm nm,tint N]) [tstr nFun [tstr nm (frT k N),tatm nm,tint N]] zt 0:=by
 obtain⟨g,hg⟩:∃g,g=tstr nFun [y,tatm nm,tint N]:=⟨_,rfl⟩
 have hga:g.args=[y,tatm nm,tint N]:=by rw[hg];rfl
 rw[<-hg] at hv hc hk ⊢
 have hks:k<100000:=by
  have h1:=zcB g.occ []
  have h2:=Tm.occ_len g
  have h3:=valid_size hv
  simp only[List.length_nil] at h1
  omega
 have h1:=zlh g k y nm N hy hN1 hN8 hks (by rw[hga];rfl) (hE g++eJ g) 6 (by rw[hk];rfl) (znz g)
 have h2:=zfo g y (tatm nm) (tint N) (by rw[hg];rfl) hga k (hE g) 6 (by rw[hk];rfl) (zlg g) _ _ rfl h1
 exact ze0 g [tstr nFun [tstr nm (frT k N),tatm nm,tint N]] hv hc (by rw[hg];rfl) (by rw[hga,hg];exact(by decide:nFun∈zbx 3)) (by simp only[List.all_cons,List.all_nil,hans,Bool.and_self]) (by simp) _ _ _ false h2 (by show 7<=12+19;omega) (by rw[hg];rfl)
theorem zpQ(t y:Tm)(hk:t.kind=3)(hy:y.kind=0)(htn:0<t.args.length)(htl:t.args.length<=8)(hv:(tstr nUnv [t,y]).valid=true)(hc:canT (tstr nUnv [t,y])=tstr nUnv [t,y])(hans:(tstr nUnv [t,lstT (tatm t.name::t.args) (tatm [91,93])]).valid=true):zfu (tstr nUnv [t,y]) [tstr nUnv [t,lstT (tatm t.name::t.args) (tatm [91,93])]] zt 0:=by
 obtain⟨g,hg⟩:∃g,g=tstr nUnv [t,y]:=⟨_,rfl⟩
 have hga:g.args=[t,y]:=by rw[hg];rfl
 rw[<-hg] at hv hc ⊢
 have vy:y.valid=true:=zbH hv (by rw[hga];simp)
 have h1:=zr9 g (vads [] g.occ).length t y hk htl htn vy hy (by rw[hga];rfl) (hE g++eJ g) 6 rfl (znz g)
 have h2:=zjT g t y (by rw[hg];rfl) hga (vads [] g.occ).length (hE g) 6 rfl (zlg g) _ _ rfl h1
 exact ze0 g [tstr nUnv [t,lstT (tatm t.name::t.args) (tatm [91,93])]] hv hc (by rw[hg];rfl) (by rw[hga,hg];exact(by decide:nUnv∈zbx 2)) (by simp only[List.all_cons,List.all_nil,hans,Bool.and_self]) (by simp) _ _ _ false h2 (by show 7<=12+12;omega) (by rw[hg];rfl)
theorem zpR(y ps:Tm)(nm:List UInt8)(rest:List Tm)(hy:y.kind=0)(hnl:zcm (tl ps))(hel:els ps=tatm nm::rest)(hr1:0<rest.length)(hr8:rest.length<=8)(hv:(tstr nUnv [y,ps]).valid=true)(hc:canT (tstr nUnv [y,ps])=tstr nUnv [y,ps])(hans:(tstr nUnv [tstr nm rest,ps]).valid=true):zfu (tstr nUnv [y,ps]) [tstr nUnv [tstr nm rest,ps]] zt 0:=by
 obtain⟨g,hg⟩:∃g,g=tstr nUnv [y,ps]:=⟨_,rfl⟩
 have hga:g.args=[y,ps]:=by rw[hg];rfl
 rw[<-hg] at hv hc ⊢
 have vp:ps.valid=true:=zbH hv (by rw[hga];simp)
 have h1:=zsa g (vads [] g.occ).length y ps nm rest hy vp hnl hel hr1 hr8 (by rw[hga];rfl) (hE g++eJ g) 6 rfl (znz g)
 have h2:=zjT g y ps (by rw[hg];rfl) hga (vads [] g.occ).length (hE g) 6 rfl (zlg g) _ _ rfl h1
 exact ze0 g [tstr nUnv [tstr nm rest,ps]] hv hc (by rw[hg];rfl) (by rw[hga,hg];exact(by decide:nUnv∈zbx 2)) (by simp only[List.all_cons,List.all_nil,hans,Bool.and_self]) (by simp) _ _ _ false h2 (by show 7<=12+19;omega) (by rw[hg];rfl)
def sgg(u:Tm)(q:Nat):AV:=.agg [(none,.pv none (.int .i64 u.kind)),(none,.pv none (.int .i64 u.n)),(none,.pv none (.str u.name)),(none,.sl (some 4) q u.args.length 0 u.args.length)]
theorem znA{u:Tm}{q:Nat}{H:Heap}{z:Bool}(h:H[q]? =some (.arr (some 4) (Tm.pvs u.args) z)):AV.freeze deep (sgg u q) H=some (u.pv,H.set q (.arr (some 4) (Tm.pvs u.args) true)):=by
 have e:∀l hp,AV.freeze (7+1) (.agg l) hp=match AV.freeze.go 7 l hp with|some (ps,hp')=>some (.agg ps,hp')|none=>none:=fun _ _=>rfl
 show AV.freeze (7+1) (.agg _) _=_
 simp[e,AV.freeze.go,AV.freeze,h,Tm.pvs_len]
 cases u
 rfl
def CopR(v:AV)(u:Tm)(n:Nat)(H:Heap):Prop:=v=.pv (some 4) u.pv\/∃q z,n<=q/\v=sgg u q/\H[q]? =some (.arr (some 4) (Tm.pvs u.args) z)
theorem CopR.shp{v:AV}{u:Tm}{n:Nat}{H:Heap}(h:CopR v u n H):v.shp=some 4:=by
 rcases h with rfl|⟨q,z,_,rfl,_⟩ <;> rfl
theorem CopR.frz{v:AV}{u:Tm}{n:Nat}{B e:Heap}(h:CopR v u n (B++e))(hn:B.length=n):∃e2,e2.length=e.length/\AV.freeze deep v (B++e)=some (u.pv,B++e2):=by
 rcases h with rfl|⟨q,z,hq,rfl,hH⟩
 ·exact⟨e,rfl,rfl⟩
 ·obtain⟨j,rfl⟩:∃j,q=n+j:=⟨q - n,by omega⟩
  refine⟨e.set j (.arr (some 4) (Tm.pvs u.args) true),by simp,?_⟩
  rw[znA hH,setN hn]
theorem zjV{s:List UInt8}(hs:s.length<=100){a b:Tm}(ha:a.fits=true)(hb:b.fits=true):(tstr s [a,b]).fits=true:=by
 have hs':(s.length:Int)<=100:=by omega
 rw[Tm.zu3]
 simp[tstr,Tm.node,Tm.kind,Tm.n,Tm.name,Tm.args,Tm.fitsAll,ha,hb,hs']
theorem ziz{s:List UInt8}(hs:s.length<=100){a b:Tm}(ha:a.fits=true)(hb:b.fits=true)(hz:a.size+b.size<2000):(tstr s [a,b]).valid=true:=by
 unfold Tm.valid
 rw[zjV hs ha hb,Tm.size_eq]
 show(decide (1+(a.size+(b.size+0))<=2000) && true)=true
 rw[Bool.and_true,decide_eq_true_eq]
 omega
theorem zpU{hp hp':Heap}(h:PresV (.tsl none []) hp hp'):∃e,hp'=hp++e:=by
 refine⟨hp'.drop hp.length,?_⟩
 have e1:hp'.take hp.length=hp:=by
  refine List.ext_getElem? fun j=> ?_
  rw[List.getElem?_take]
  by_cases hj:j<hp.length
  ·rw[if_pos hj]
   have hx:hp[j]? =some hp[j]:=List.getElem?_eq_getElem hj
   rw[hx]
   exact h.2 j _ hx fun v o n=>by simp
  ·rw[if_neg hj,List.getElem?_eq_none (by omega)]
 conv=>lhs;rw[<-List.take_append_drop hp.length hp',e1]
theorem zti(t:Tm)(hv:t.valid=true)(hp:Heap):∃s e,S 26 [t.av] hp=some (.ret s,hp++e)/\IsV s (hp++e) (vads [] t.occ):=by
 obtain⟨s,hp',h1,h2,h3,_⟩:=ztB t hv hp
 obtain⟨e,rfl⟩:=zpU h3
 exact⟨s,e,h1,h2⟩
theorem ztj{s:AV}{H:Heap}{l:List Int}(h:IsV s H l):sLen [s]=some (.pv none (.int .i64 l.length)):=by
 rcases h with⟨rfl,rfl⟩|⟨r,rfl,h⟩
 ·rfl
 ·exact zif _ _ _ _
theorem znF(a b:Sh)(p q:PV)(hp:Heap):(AV.tuple [.pv a p,.pv b q]).alone hp=some (.tuple [.pv a p,.pv b q]):=rfl
theorem zmh(g a:Tm)(ha:a.valid=true)(hc:zfu g [a] zt 0)(hp:Heap):S 18 [g.av,a.av] hp=some (.ret (.pv none (.bool true)),hp):=by
 refine zak rfl rfl rfl (zab [(some 4,g.pv),(some 4,a.pv)]) rfl ?_
 have hsz:=valid_size ha
 have h1:=fun hp=>zqa zt hp (by decide)
 have h2:=fun hp=>zme a a hp (by omega) (by omega)
 have hz0:zaQ [(none,.pv none (.int .i64 0)),(none,.pv none (.int .i64 0)),(none,.pv none (.str [])),(none,.tsl (some 4) [])] [] []=some zV:=rfl
 unfold zfu at hc
 rw[zqb] at h1
 rw[zhu ha] at h2
 have hge:(Tm.pvs [a])[0]? =some a.pv:=rfl
 have hpl:(Tm.pvs [a]).length=1:=rfl
 simp only[Tm.av] at h1 h2 hc
 simp -dsimp -implicitDefEqProofs only[go_sem,seval,↓reduceIte,Tm.av,h1,h2,hc,hz0,hpl,zgj hge,zae (Nat.zero_le _)]
theorem zrJ(l:List Tm)(hl:l.length<1000000000)(t:Tm)(hp:Heap):S 27 [t.av,.pv none (.sl (some 4) (Tm.pvs l))] hp=some (.ret (lstT l t).av,hp):=by
 refine zak rfl rfl rfl (zab [(some 4,t.pv),(none,.sl (some 4) (Tm.pvs l))]) rfl ?_
 have hw0:IntKind.i64.wrap ((l.length:Int) - 1)=(l.length:Int) - 1:=zaO (by omega) (by omega)
 simp -dsimp -implicitDefEqProofs only[go_sem,seval,↓reduceIte,Tm.av,hw0,Tm.pvs_len]
 refine zdK (fun n st=>n<=l.length/\st=⟨[(1,.pv none (.sl (some 4) (Tm.pvs l))),(2,.ptr 0 0),(4,.ptr 1 0),(5,.pv none (.int .i64 ((n:Int) - 1)))],[.box (some 4) (.pv (some 4) (lstT (l.drop n) t).pv),.box (some 4) (zg 2),.arr (some 4) [] false]⟩) (n:=l.length) ⟨Nat.le_refl _,by rw[List.drop_length];rfl⟩ ?_
 rintro n st ⟨hn,rfl⟩
 cases n with
 |zero=>
  have hc:¬(0:Int)<=((0:Nat):Int) - 1:=by decide
  simp -dsimp -implicitDefEqProofs only[go_sem,seval,↓reduceIte,hc,zg]
  try rfl
 |succ i=>
  obtain⟨x,hx⟩:∃x,l[i]? =some x:=⟨_,List.getElem?_eq_getElem (by omega)⟩
  have e1:((i+1:Nat):Int) - 1=i:=by omega
  have hc:(0:Int)<=(i:Int):=by omega
  have hw:IntKind.i64.wrap ((i:Int) - 1)=(i:Int) - 1:=zaO (by omega) (by omega)
  have hf:∀hp,S 19 [.pv none (.str [46]),.tsl (some 4) [x.pv,(lstT (l.drop (i+1)) t).pv]] hp=some (.ret (.pv (some 4) (lstT (l.drop i) t).pv),hp):=fun hp=>by
   rw[zj3 t hx]
   exact zuS [46] [x,lstT (l.drop (i+1)) t] hp
  rw[e1]
  simp -dsimp -implicitDefEqProofs only[go_sem,seval,↓reduceIte,hc,hw,hf,zg,zar (Tm.pvs_get hx)]
  exact⟨i,by omega,by omega,rfl⟩
theorem zny(x t:Tm):(zir x t).size=1+x.size+t.size:=by
 rw[Tm.size_eq]
 show 1+(x.size+(t.size+0))=_
 omega
theorem zte(l:List Tm)(u:Tm):(lstT l u).size=l.length+Tm.sizes l+u.size:=by
 induction l with
 |nil=>simp[lstT,Tm.sizes]
 |cons x r ih=>
  have e:lstT (x::r) u=zir x (lstT r u):=rfl
  rw[e,zny,ih,List.length_cons]
  simp only[Tm.sizes]
  omega
theorem ztf(l:List Tm)(u:Tm)(hu:u.fits=true)(h:∀t∈l,t.fits=true):(lstT l u).fits=true:=by
 induction l with
 |nil=>exact hu
 |cons x r ih=>
  have e:lstT (x::r) u=zir x (lstT r u):=rfl
  rw[e]
  exact zjV (by decide) (h x (by simp)) (ih fun t ht=>h t (by simp[ht]))
theorem zlZ(x t:Tm):cs (zir x t):=⟨rfl,rfl,rfl⟩
theorem zrx(l:List Tm)(u:Tm)(hu:¬cs u):els (lstT l u)=l:=by
 induction l with
 |nil=>exact zlf hu
 |cons x r ih=>
  have e:lstT (x::r) u=zir x (lstT r u):=rfl
  rw[e,znD (zlZ _ _)]
  show x::els (lstT r u)=_
  rw[ih]
theorem ztg(l:List Tm)(u:Tm)(hu:¬cs u):tl (lstT l u)=u:=by
 induction l with
 |nil=>exact tl_n hu
 |cons x r ih=>
  have e:lstT (x::r) u=zir x (lstT r u):=rfl
  rw[e,tl_c (zlZ _ _)]
  show tl (lstT r u)=_
  rw[ih]
def nilL:Tm:=tatm [91,93]
theorem zpJ:¬cs nilL:=by decide
theorem zjS{u:Tm}{n:Nat}(hf:u.fits=true)(h:vads [] u.occ=cntI n):canT u=u:=by
 unfold canT
 rw[h,Tm.zu9 u (g:=tvar) fun w hw=> ?_,zr0 u hf]
 have hm:w∈vads [] u.occ:=(ziK _ _ _).2 (.inr hw)
 rw[h] at hm
 obtain⟨i,hi,rfl⟩:=cntI_mem.1 hm
 show tvar _=tvar _
 rw[ziw hi]
theorem zis(n:Nat):vads (cntI n) [(n:Int)]=cntI (n+1):=by
 have hn:((n:Nat):Int) ∉ cntI n:=fun h=>by
  obtain⟨i,hi,e⟩:=cntI_mem.1 h
  omega
 rw[zgq]
 simp[vads,vadd,hn]
theorem zry(n:Nat):vads (cntI n) [(n:Int),((n+1:Nat):Int)]=cntI (n+2):=by
 have e:[(n:Int),((n+1:Nat):Int)]=[(n:Int)]++[((n+1:Nat):Int)]:=rfl
 rw[e,zcA,zis,zis]
theorem zit{s:List UInt8}{l:List Tm}(hs:s.length<=100)(h1:0<l.length)(h2:l.length<=8)(h:∀t∈l,t.fits=true):(tstr s l).fits=true:=zp2 hs h1 h2 (Tm.fitsAll_iff.2 h)
theorem zrz{t:Tm}(h:t.fits=true)(hz:t.size<=2000):t.valid=true:=by
 unfold Tm.valid
 rw[h,decide_eq_true hz]
 rfl
theorem zdX{s:List UInt8}(hs:s.length<=100){a b c:Tm}(ha:a.fits=true)(hb:b.fits=true)(hc:c.fits=true)(hz:a.size+b.size+c.size<2000):(tstr s [a,b,c]).valid=true:=by
 refine zrz (zit hs (by simp) (by simp) (by simp[ha,hb,hc])) ?_
 rw[Tm.size_eq]
 show 1+(a.size+(b.size+(c.size+0)))<=2000
 omega
theorem zcN(n:Int):(tint n).fits=true:=rfl
theorem zdq{s:List UInt8}(h:s.length<=100):(tatm s).fits=true:=by
 have h':(s.length:Int)<=100:=by omega
 rw[Tm.zu3]
 simp[tatm,Tm.node,Tm.kind,Tm.n,Tm.name,Tm.args,Tm.fitsAll,h']
theorem zpK{t:Tm}(hf:t.fits=true)(hk:t.kind=3):t=tstr t.name t.args/\t.name.length<=100/\0<t.args.length/\t.args.length<=8/\∀u∈t.args,u.fits=true:=by
 have hx:=hf
 rw[Tm.zu3,Bool.and_eq_true] at hx
 obtain⟨h1,h2⟩:=hx
 have h3:=Tm.fitsAll_iff.1 h2
 cases t with
 |mk k n s ts=>
  have hk:k=3:=hk
  subst hk
  simp only[Tm.node,Tm.kind,Tm.n,Tm.name,Tm.args] at h1
  simp only[show ¬((3:Int)=0) by decide,show ¬((3:Int)=1) by decide,show ¬((3:Int)=2) by decide,if_false,if_true,Bool.and_eq_true,decide_eq_true_eq] at h1
  obtain⟨⟨⟨a,b⟩,c⟩,d⟩:=h1
  have a:=of_decide_eq_true a
  have b:=of_decide_eq_true b
  have c:=of_decide_eq_true c
  have d:=of_decide_eq_true d
  subst a
  exact⟨rfl,by show s.length<=100;omega,by show 0<ts.length;omega,by show ts.length<=8;omega,h3⟩
theorem zl0(s:List UInt8)(l:List Tm):(tstr s l).size=1+Tm.sizes l:=by rw[Tm.size_eq];rfl
theorem zrA{k n:Nat}(h:k+n<=1000):∀t∈frT k n,t.fits=true:=fun t ht=>by
 obtain⟨j,hj,rfl⟩:=List.mem_map.1 ht
 have:=List.mem_range.1 hj
 exact zdr ⟨by omega,by omega⟩
theorem zpL(k n:Nat):Tm.sizes (frT k n)=n:=by
 induction n with
 |zero=>rfl
 |succ n ih=>
  rw[ziD,Tm.zu6,ih]
  rfl
theorem ztd(g:Tm)(hc:zfu g [] zt 0)(hp:Heap):S 31 [g.av] hp=some (.ret (.pv none (.bool true)),hp):=by
 refine zak rfl rfl rfl (zab [(some 4,g.pv)]) rfl ?_
 have h1:=fun hp=>zqa zt hp (by decide)
 have hz0:zaQ [(none,.pv none (.int .i64 0)),(none,.pv none (.int .i64 0)),(none,.pv none (.str [])),(none,.tsl (some 4) [])] [] []=some zV:=rfl
 unfold zfu at hc
 rw[zqb] at h1
 have hpl:(Tm.pvs []).length=0:=rfl
 simp only[Tm.av] at h1 hc
 simp -dsimp -implicitDefEqProofs only[go_sem,seval,↓reduceIte,Tm.av,h1,hc,hz0,hpl,zae (Nat.zero_le _)]
theorem zlc(t:Tm)(hv:t.valid=true)(x:Tm)(r:List Tm)(he:els t=x::r)(hp:Heap):S 29 [t.av] hp=some (.ret (.pv none (.sl (some 4) (Tm.pvs r))),hp):=by
 refine zak rfl rfl rfl (zab [(some 4,t.pv)]) rfl ?_
 have h1:=zp1 t hv [.box (some 4) (.pv (some 4) t.pv),.arr (some 4) [] false]
 have hn:¬(((els t).length:Nat):Int)=0:=by rw[he,List.length_cons];omega
 have hl1:(0:Int)<=1/\(1:Int)<=((els t).length:Int):=by rw[he,List.length_cons];omega
 have hs:∀q,zb4 (some 4) true false [.sl (some 4) q (els t).length 0 (els t).length,.pv none (.int .i64 1)]=some (.sl (some 4) q (els t).length 1 ((els t).length - 1)):=fun q=>by
  simp[zb4,aslice,hl1.2]
 unfold eE at h1
 simp only[Tm.av] at h1
 simp -dsimp -implicitDefEqProofs only[go_sem,seval,↓reduceIte,Tm.av,h1,hn,hs,zae (Nat.zero_le _),za9 (sh:=some 4) (by decide),List.append_assoc,zaj,zag,zan,zah,Nat.add_assoc,List.length_append]
 have hd:(Tm.pvs (els t)).drop 1=Tm.pvs r:=by rw[he];rfl
 have hlr:(els t).length - 1=(Tm.pvs r).length:=by rw[he,Tm.pvs_len,List.length_cons];omega
 have hle:1+((els t).length - 1)<=(els t).length:=by rw[he,List.length_cons];omega
 have hf:AV.freeze deep (.sl (some 4) 6 (els t).length 1 ((els t).length - 1)) [.box (some 4) (.pv (some 4) t.pv),.arr (some 4) [] false,.box (some 4) (.pv (some 4) (tl t).pv),.arr (some 4) [] false,.box (some 4) (.pv (some 4) (tl t).pv),.arr (some 4) [] false,.arr (some 4) (Tm.pvs (els t)) false,.box (some 4) (.pv (some 4) (tl t).pv),.arr (some 4) [] false]=some (.sl (some 4) (Tm.pvs r),[.box (some 4) (.pv (some 4) t.pv),.arr (some 4) [] false,.box (some 4) (.pv (some 4) (tl t).pv),.arr (some 4) [] false,.box (some 4) (.pv (some 4) (tl t).pv),.arr (some 4) [] false,.arr (some 4) (Tm.pvs (els t)) true,.box (some 4) (.pv (some 4) (tl t).pv),.arr (some 4) [] false]):=by
  have hn1:¬((els t).length=(Tm.pvs (els t)).length/\1=0/\(els t).length - 1=(Tm.pvs (els t)).length):=by omega
  have hn2:(els t).length=(Tm.pvs (els t)).length/\1+((els t).length - 1)<=(Tm.pvs (els t)).length:=by rw[Tm.pvs_len];exact⟨rfl,hle⟩
  simp only[AV.freeze,deep,List.getElem?_cons_succ,List.getElem?_cons_zero]
  rw[if_neg hn1,if_pos hn2,hd,hlr,List.take_length]
  rfl
 exact⟨_,by simp only[AV.freezeRes,hf];rfl⟩
set_option maxRecDepth 100000 in
theorem znx(t:Tm)(ht0:t.size<100000000):S 5 [t.av] []=some (.ret (.pv none (.bool true)),[]):=by
 refine zak rfl rfl rfl (zab [(some 4,t.pv)]) rfl ?_
 have haw:=zrZ
 have hv1:=fun hp=>zcl t hp (by omega)
 have hs1:=fun hp=>zmj t hp (by omega)
 simp only[Tm.av] at hv1 hs1
 by_cases vt:t.valid=true
 rotate_left
 ·have vt':t.valid=false:=by simpa using vt
  simp -dsimp -implicitDefEqProofs only[go_sem,seval,↓reduceIte,Tm.av,hv1,vt',haw]
 rw[vt] at hv1
 by_cases hk:t.kind=3
 rotate_left
 ·have hk':¬t.kind=3:=hk
  simp -dsimp -implicitDefEqProofs only[go_sem,seval,↓reduceIte,Tm.av,hv1,zap,hk',haw]
 have zt1:=valid_size vt
 have m1:min t.size 2001=t.size:=by omega
 rw[m1] at hs1
 by_cases bt:900<t.size
 ·have bt':(900:Int)<(t.size:Int):=by omega
  simp -dsimp -implicitDefEqProofs only[go_sem,seval,↓reduceIte,Tm.av,hv1,zap,hk,hs1,bt',haw]
 have bt':¬(900:Int)<(t.size:Int):=by omega

 have hcn:=fun hp=>zj9 t hp (by omega)
 have hcr:canR t=canT t:=by unfold canR;rw[if_pos vt]
 rw[hcr] at hcn
 have vC:(canT t).valid=true:=zhr vt
 have hCk:(canT t).kind=3:=by rw[zp7];exact hk
 have hCv:=zjU t
 have hCz:(canT t).size=t.size:=zkb vt
 obtain⟨C,hC⟩:∃C,C=canT t:=⟨_,rfl⟩
 rw[<-hC] at hcn vC hCk hCv hCz
 obtain⟨k,hkk⟩:∃k,k=(vads [] t.occ).length:=⟨_,rfl⟩
 rw[<-hkk] at hCv
 have hkl:k<=900:=by
  have h1:=zcB t.occ []
  have h2:=Tm.occ_len t
  simp only[List.length_nil] at h1
  omega
 have hCf:=valid_fits vC
 obtain⟨hCe,hCn,hn1,hn8,hCa⟩:=zpK hCf hCk
 obtain⟨s1,e1,hV1,hI1⟩:=zti C vC [.box (some 4) (.pv (some 4) C.pv)]
 have hl1:=ztj hI1
 rw[hCv] at hl1
 have hcl:(cntI k).length=k:=by simp[cntI]
 rw[hcl] at hl1
 have h_a:=fun s hp=>a_ok s hp
 have h_x:=fun v hp=>x_ok v hp
 have h_n:=fun v hp=>n_ok v hp
 simp only[Tm.av] at hcn hV1 h_a h_x h_n

 obtain⟨P,hP⟩:∃P,P=lstT (tatm C.name::C.args) (tatm [91,93]):=⟨_,rfl⟩
 have hcz:C.size=1+Tm.sizes C.args:=by rw[Tm.size_eq]
 have hPz:P.size=C.size+C.args.length+2:=by
  rw[hP,zte,List.length_cons]
  show _+((tatm C.name).size+Tm.sizes C.args)+(tatm [91,93]).size=_
  have h1:(tatm C.name).size=1:=rfl
  have h2:(tatm [91,93]).size=1:=rfl
  omega
 have hPf:P.fits=true:=by
  rw[hP]
  refine ztf _ _ (zdq (by decide)) fun u hu=> ?_
  rcases List.mem_cons.1 hu with rfl|hu
  ·exact zdq hCn
  ·exact hCa u hu
 have hel:els P=tatm C.name::C.args:=by rw[hP];exact zrx _ _ zpJ
 have htl:tl P=tatm [91,93]:=by rw[hP];exact ztg _ _ zpJ
 have hll:=fun hp=>zrJ (tatm C.name::C.args) (by rw[List.length_cons];omega) (tatm [91,93]) hp
 rw[<-hP] at hll
 have hap:zco (some 4) [.tsl (some 4) [(tatm C.name).pv],.pv none (.sl (some 4) (Tm.pvs C.args))]=some (.pv none (.sl (some 4) (Tm.pvs (tatm C.name::C.args)))):=by
  have h2:¬Tm.pvs C.args=[]:=fun h=>by
   have h3:=Tm.pvs_len C.args
   rw[h] at h3
   simp at h3
   omega
  have h3:1+(Tm.pvs C.args).length<=lim:=by rw[Tm.pvs_len];unfold lim;omega
  have h4:Tm.pvs (tatm C.name::C.args)=(tatm C.name).pv::Tm.pvs C.args:=rfl
  simp only[zco]
  rw[if_pos ⟨.inl trivial,.inl trivial,h3⟩,if_neg h2,h4]
  rfl
 have hkf:(tvar (k:Int)).fits=true:=zdr ⟨by omega,by omega⟩
 have hkf1:(tvar ((k+1:Nat):Int)).fits=true:=zdr ⟨by omega,by omega⟩
 have hkz:∀n:Int,(tvar n).size=1:=fun _=>rfl
 have haz:∀s,(tatm s).size=1:=fun _=>rfl
 have hiz:∀n,(tint n).size=1:=fun _=>rfl
 have o1:∀s,(tstr s [C,tvar k]).occ=C.occ++[(k:Int)]:=fun s=>by rw[Tm.occ_eq];show Tm.occs [C,tvar k]=_;simp[Tm.occs];rfl
 have v1:vads [] (C.occ++[(k:Int)])=cntI (k+1):=by rw[zcA,hCv,zis]

 obtain⟨gA1,hg1⟩:∃g,g=tstr nUnv [C,tvar k]:=⟨_,rfl⟩
 obtain⟨a1,ha1⟩:∃g,g=tstr nUnv [C,P]:=⟨_,rfl⟩
 have hF1:∀hp,S 19 [.pv none (.str [61,46,46]),.pv none (.sl (some 4) [C.pv,(tvar k).pv])] hp=some (.ret (.pv (some 4) gA1.pv),hp):=fun hp=>by rw[hg1];exact f_ok nUnv [C,tvar k] hp
 have hF2:∀hp,S 19 [.pv none (.str [61,46,46]),.pv none (.sl (some 4) [C.pv,P.pv])] hp=some (.ret (.pv (some 4) a1.pv),hp):=fun hp=>by rw[ha1];exact f_ok nUnv [C,P] hp
 have vg1:gA1.valid=true:=by rw[hg1];exact ziz (by decide) hCf hkf (by rw[hkz];omega)
 have va1:a1.valid=true:=by rw[ha1];exact ziz (by decide) hCf hPf (by omega)
 have cg1:canT gA1=gA1:=zjS (valid_fits vg1) (by rw[hg1,o1];exact v1)
 have hO1:=fun hp=>zmh gA1 a1 va1 (by
  rw[hg1,ha1,hP]
  exact zpQ C (tvar k) hCk rfl hn1 hn8 (by rw[<-hg1];exact vg1) (by rw[<-hg1];exact cg1) (by rw[<-hP,<-ha1];exact va1)) hp
 simp only[Tm.av] at hll hO1

 have vg2:(tstr nUnv [tvar k,P]).valid=true:=ziz (by decide) hkf hPf (by rw[hkz];omega)
 have hG2:=fun hp=>ztn nUnv [tvar k,P] (by rw[Tm.size_eq];show 1+((tvar k).size+(P.size+0))<_;rw[hkz];omega) hp
 obtain⟨L0,hL0⟩:∃L0,L0=vads [] (Tm.occs [tvar k,P]):=⟨_,rfl⟩
 have hcan2:canT (tstr nUnv [tvar k,P])=tstr nUnv [Tm.sub (cPos L0) (tvar k),Tm.sub (cPos L0) P]:=by rw[hL0];exact zrS nUnv _
 have hcr2:canR (tstr nUnv [tvar k,P])=tstr nUnv [Tm.sub (cPos L0) (tvar k),Tm.sub (cPos L0) P]:=by
  unfold canR
  rw[if_pos vg2,hcan2]
 rw[hcr2,vg2] at hG2
 have vG:(tstr nUnv [Tm.sub (cPos L0) (tvar k),Tm.sub (cPos L0) P]).valid=true:=by
  rw[<-hcan2]
  exact zhr vg2
 have cG:canT (tstr nUnv [Tm.sub (cPos L0) (tvar k),Tm.sub (cPos L0) P])=tstr nUnv [Tm.sub (cPos L0) (tvar k),Tm.sub (cPos L0) P]:=by
  rw[<-hcan2]
  exact zrI _
 have hL0l:L0.length<=3000:=by
  have h1:=zcB (Tm.occs [tvar k,P]) []
  have h2:=Tm.zvd [tvar k,P]
  have h3:Tm.sizes [tvar k,P]=(tvar k).size+(P.size+0):=rfl
  rw[hkz] at h3
  rw[hL0]
  simp only[List.length_nil] at h1
  omega
 obtain⟨Y,hY⟩:∃Y,Y=Tm.sub (cPos L0) (tvar k):=⟨_,rfl⟩
 obtain⟨Q,hQ⟩:∃Q,Q=Tm.sub (cPos L0) P:=⟨_,rfl⟩
 have hYk:Y.kind=0:=by rw[hY,zl8];rfl
 have hQf:Q.fits=true:=by rw[hQ];exact zgr (by omega) P hPf
 have hQz:Q.size=P.size:=by rw[hQ];exact zgE P hPf
 obtain⟨rest,hrest⟩:∃r,r=C.args.map (Tm.sub (cPos L0)):=⟨_,rfl⟩
 have hqe:els Q=tatm C.name::rest:=by rw[hQ,zto L0 _ P rfl,hel,List.map_cons,hrest];rfl
 have hqt:zcm (tl Q):=by rw[hQ,zug L0 _ P rfl,htl];exact⟨rfl,rfl⟩
 have hrl:rest.length=C.args.length:=by rw[hrest,List.length_map]
 have hrf:∀u∈rest,u.fits=true:=fun u hu=>by
  rw[hrest] at hu
  obtain⟨w,hw,rfl⟩:=List.mem_map.1 hu
  exact zgr (by omega) w (hCa w hw)
 have hrz:Tm.sizes rest=Tm.sizes C.args:=by
  rw[hrest]
  have:∀l:List Tm,(∀u∈l,u.fits=true)->Tm.sizes (l.map (Tm.sub (cPos L0)))=Tm.sizes l:=by
   intro l
   induction l with
   |nil=>intro _;rfl
   |cons x r ih=>
    intro h
    show(Tm.sub (cPos L0) x).size+Tm.sizes (r.map _)=x.size+Tm.sizes r
    rw[zgE x (h x (by simp)),ih fun u hu=>h u (by simp[hu])]
  exact this _ hCa
 rw[<-hY,<-hQ] at hG2 vG cG
 have hB:(tstr C.name rest).fits=true:=zit hCn (by omega) (by omega) hrf
 have hBz:(tstr C.name rest).size=C.size:=by rw[zl0,hrz,hcz]
 have va2:(tstr nUnv [tstr C.name rest,Q]).valid=true:=ziz (by decide) hB hQf (by omega)
 have hC2:=zpR Y Q C.name rest hYk hqt hqe (by omega) (by omega) vG cG va2
 have vQ:Q.valid=true:=zbH vG (by show Q∈[Y,Q];simp)
 have hEl:=fun hp=>zlc Q vQ _ _ hqe hp
 obtain⟨G,hG⟩:∃g,g=tstr nUnv [Y,Q]:=⟨_,rfl⟩
 obtain⟨a2,ha2⟩:∃g,g=tstr nUnv [tstr C.name rest,Q]:=⟨_,rfl⟩
 have hF3:∀hp,S 19 [.pv none (.str [61,46,46]),.pv none (.sl (some 4) [(tstr C.name rest).pv,Q.pv])] hp=some (.ret (.pv (some 4) a2.pv),hp):=fun hp=>by rw[ha2];exact f_ok nUnv [tstr C.name rest,Q] hp
 have hbu:zaQ [(none,.pv none (.int .i64 0)),(none,.pv none (.int .i64 0)),(none,.pv none (.str [])),(none,.tsl (some 4) [])] [0,2,3] [.pv none (.int .i64 3),.pv none (.str C.name),.pv none (.sl (some 4) (Tm.pvs rest))]=some (.pv (some 4) (tstr C.name rest).pv):=rfl
 have hpG:PV.part deep G.pv 3 none=some (.sl (some 4) [Y.pv,Q.pv]):=by rw[hG];rfl
 have iG:zaT (some 4) [.pv none (.sl (some 4) [Y.pv,Q.pv]),.pv none (.int .i64 1)]=some (.iptr (some 4) Q.pv 0):=rfl
 have i2:zaT (some 4) [.pv none (.sl (some 4) [a2.pv]),.pv none (.int .i64 0)]=some (.iptr (some 4) a2.pv 0):=rfl
 have p2:Tm.pvs [a2]=[a2.pv]:=rfl
 rw[<-hG] at hC2 hG2
 rw[<-ha2] at hC2 va2
 have hsm2:=fun hp=>zme a2 a2 hp (by have:=valid_size va2;omega) (by have:=valid_size va2;omega)
 rw[zhu va2] at hsm2
 unfold zfu at hC2
 rw[p2] at hC2
 have hGx:Tm.pvs [tvar k,P]=[(tvar k).pv,P.pv]:=rfl
 rw[hGx] at hG2
 unfold nUnv at hG2

 obtain⟨gA3,hg3⟩:∃g,g=tstr nFun [C,tvar k,tvar ((k+1:Nat):Int)]:=⟨_,rfl⟩
 obtain⟨a3,ha3⟩:∃g,g=tstr nFun [C,tatm C.name,tint C.args.length]:=⟨_,rfl⟩
 have hF4:∀hp,S 19 [.pv none (.str [102,117,110,99,116,111,114]),.pv none (.sl (some 4) [C.pv,(tvar k).pv,(tvar ((k+1:Nat):Int)).pv])] hp=some (.ret (.pv (some 4) gA3.pv),hp):=fun hp=>by rw[hg3];exact f_ok nFun [C,tvar k,tvar ((k+1:Nat):Int)] hp
 have hF5:∀hp,S 19 [.pv none (.str [102,117,110,99,116,111,114]),.pv none (.sl (some 4) [C.pv,(tatm C.name).pv,(tint C.args.length).pv])] hp=some (.ret (.pv (some 4) a3.pv),hp):=fun hp=>by rw[ha3];exact f_ok nFun [C,tatm C.name,tint C.args.length] hp
 have vg3:gA3.valid=true:=by rw[hg3];exact zdX (by decide) hCf hkf hkf1 (by rw[hkz,hkz];omega)
 have va3:a3.valid=true:=by rw[ha3];exact zdX (by decide) hCf (zdq hCn) (zcN _) (by rw[haz,hiz];omega)
 have o3:gA3.occ=C.occ++[(k:Int),((k+1:Nat):Int)]:=by rw[hg3,Tm.occ_eq];show Tm.occs [C,tvar k,tvar ((k+1:Nat):Int)]=_;simp[Tm.occs];rfl
 have cg3:canT gA3=gA3:=zjS (valid_fits vg3) (n:=k+2) (by rw[o3,zcA,hCv,zry])
 have hO3:=fun hp=>zmh gA3 a3 va3 (by
  rw[hg3,ha3]
  exact zpO C (tvar k) (tvar ((k+1:Nat):Int)) hCk (by rw[<-hg3];exact vg3) (by rw[<-hg3];exact cg3) (by rw[<-ha3];exact va3)) hp
 have hw1:IntKind.i64.wrap ((k:Int)+1)=((k+1:Nat):Int):=by rw[zaO (by omega) (by omega)];omega
 simp only[Tm.av] at hG2 hC2 hEl hsm2 hO3
 simp -dsimp -implicitDefEqProofs only[go_sem,seval,↓reduceIte,Tm.av,hv1,zap,zao,zad,hk,hs1,bt',hcn,hV1,hl1,h_a,h_x,h_n,hap,hll,hF1,hF2,hO1,hG2,hC2,hEl,hF3,hbu,hpG,iG,i2,hsm2,hF4,hF5,hO3,hw1,Tm.pvs_len,znF,zae (Nat.zero_le _),za9 (sh:=some 4) (by decide),List.append_assoc,zaj,zag,zan,zah,Nat.add_assoc,List.length_append]
 obtain⟨E,hE⟩:∃E:Heap,E=e1++[.box (some 4) (.pv (some 4) P.pv),.arr (some 4) [] false,.box (some 4) (.pv (some 4) G.pv),.arr (some 4) [] false,.box (some 4) (.pv (some 4) zt.pv),.arr (some 4) [] false]:=⟨_,rfl⟩
 have e2:e1++[.box (some 4) (.pv (some 4) P.pv),.arr (some 4) [] false,.box (some 4) (.pv (some 4) G.pv),.arr (some 4) [] false,.box (some 4) (.pv (some 4) zt.pv),.arr (some 4) [] false,.arr (some 4) [] false]=E++[.arr (some 4) [] false]:=by rw[hE];simp
 have e3:e1.length+7=E.length+1:=by rw[hE];simp
 rw[e2,e3]
 clear hG2 hC2 hEl hsm2 hO3 hO1 hF1 hF2 hF3 hF4 hF5 hll hap
 have hfl:∀i,Tm.pvs (frT 1 (i+1))=Tm.pvs (frT 1 i)++[(tvar ((1+i:Nat):Int)).pv]:=fun i=>by rw[ziD,Tm.zu4];rfl
 refine zet (α:=Unit) C.args.length (fun _ _=>True) (fun i _=>⟨[(1,.ptr 0 0),(3,.pv none (.int .i64 k)),(10,.sl (some 4) (E.length+1) i 0 i),(115,.pv none (.int .i64 C.args.length)),(116,.pv none (.int .i64 i))],.box (some 4) (.pv (some 4) C.pv)::(E++[.arr (some 4) (Tm.pvs (frT 1 i)) false])⟩) () ⟨trivial,rfl⟩ ?_ ?_
 ·rintro i - h -
  have hc:(i:Int)<(C.args.length:Int):=by omega
  have w2:IntKind.i64.wrap ((i:Int)+1)=((i+1:Nat):Int):=by rw[zaO (by omega) (by omega)];omega
  have w3:IntKind.i64.wrap (1+(i:Int))=((1+i:Nat):Int):=by rw[zaO (by omega) (by omega)];omega
  obtain⟨u,hu⟩:∃u,C.args[i]? =some u:=⟨_,List.getElem?_eq_getElem h⟩
  have hum:u∈C.args:=List.mem_of_getElem? hu
  have huz:=Tm.zvf hum
  have iu:zaT (some 4) [.pv none (.sl (some 4) (Tm.pvs C.args)),.pv none (.int .i64 i)]=some (.iptr (some 4) u.pv 0):=zar (Tm.pvs_get hu)
  obtain⟨gA4,hg4⟩:∃g,g=tstr nArg [tint ((i+1:Nat):Int),C,tvar k]:=⟨_,rfl⟩
  obtain⟨a4,ha4⟩:∃g,g=tstr nArg [tint ((i+1:Nat):Int),C,u]:=⟨_,rfl⟩
  have hF6:∀hp,S 19 [.pv none (.str [97,114,103]),.pv none (.sl (some 4) [(tint ((i+1:Nat):Int)).pv,C.pv,(tvar k).pv])] hp=some (.ret (.pv (some 4) gA4.pv),hp):=fun hp=>by rw[hg4];exact f_ok nArg [tint ((i+1:Nat):Int),C,tvar k] hp
  have hF7:∀hp,S 19 [.pv none (.str [97,114,103]),.pv none (.sl (some 4) [(tint ((i+1:Nat):Int)).pv,C.pv,u.pv])] hp=some (.ret (.pv (some 4) a4.pv),hp):=fun hp=>by rw[ha4];exact f_ok nArg [tint ((i+1:Nat):Int),C,u] hp
  have vg4:gA4.valid=true:=by rw[hg4];exact zdX (by decide) (zcN _) hCf hkf (by rw[hkz,hiz];omega)
  have va4:a4.valid=true:=by rw[ha4];exact zdX (by decide) (zcN _) hCf (hCa u hum) (by rw[hiz];omega)
  have o4:gA4.occ=C.occ++[(k:Int)]:=by rw[hg4,Tm.occ_eq];show Tm.occs [tint ((i+1:Nat):Int),C,tvar k]=_;simp[Tm.occs];rfl
  have cg4:canT gA4=gA4:=zjS (valid_fits vg4) (n:=k+1) (by rw[o4];exact v1)
  have hO4:=fun hp=>zmh gA4 a4 va4 (by
   rw[hg4,ha4]
   exact zpN i C (tvar k) u hCk hu hn8 (by rw[<-hg4];exact vg4) (by rw[<-hg4];exact cg4) (by rw[<-ha4];exact va4)) hp
  have hap:zaJ (some 4) (.box (some 4) (.pv (some 4) C.pv)::(E++[.arr (some 4) (Tm.pvs (frT 1 i)) false])) [.sl (some 4) (E.length+1) i 0 i,.tsl (some 4) [(tvar ((1+i:Nat):Int)).pv]]=some (.sl (some 4) (E.length+1) (i+1) 0 (i+1),.box (some 4) (.pv (some 4) C.pv)::(E++[.arr (some 4) (Tm.pvs (frT 1 (i+1))) false])):=by
   have hlim:i+1<=lim:=by unfold lim;omega
   rw[hfl]
   simp[zaJ,aappend,elems,Tm.pvs_len,ze4,hlim]
  simp only[Tm.av] at hO4
  simp -dsimp -implicitDefEqProofs only[go_sem,seval,↓reduceIte,Tm.av,hc,w2,w3,zad,h_x,h_n,hap,hF6,hF7,hO4,iu,List.append_assoc,zaj,zag,zan,zah,Nat.add_assoc,List.length_append]
  try refine⟨(),?_⟩
  try rw[zdW (by simp)]
  done
 rintro - -
 have hc:¬(C.args.length:Int)<(C.args.length:Int):=by omega
 have hwN:IntKind.i64.wrap ((C.args.length:Int)+1)=((C.args.length+1:Nat):Int):=by rw[zaO (by omega) (by omega)];omega

 have argN:∀j:Nat,j=0\/C.args.length<j->∃g:Tm,(∀hp,S 19 [.pv none (.str [97,114,103]),.pv none (.sl (some 4) [(tint (j:Int)).pv,C.pv,(tvar k).pv])] hp=some (.ret (.pv (some 4) g.pv),hp))/\∀hp,S 31 [.pv (some 4) g.pv] hp=some (.ret (.pv none (.bool true)),hp):=by
  intro j hj
  obtain⟨g,hg⟩:∃g,g=tstr nArg [tint (j:Int),C,tvar k]:=⟨_,rfl⟩
  have vg:g.valid=true:=by rw[hg];exact zdX (by decide) (zcN _) hCf hkf (by rw[hkz,hiz];omega)
  have o:g.occ=C.occ++[(k:Int)]:=by rw[hg,Tm.occ_eq];show Tm.occs [tint (j:Int),C,tvar k]=_;simp[Tm.occs];rfl
  have cg:canT g=g:=zjS (valid_fits vg) (n:=k+1) (by rw[o];exact v1)
  refine⟨g,fun hp=>by rw[hg];exact f_ok nArg [tint (j:Int),C,tvar k] hp,fun hp=>ztd g (by
   rw[hg]
   exact zpM j C (tvar k) hCk hj (by rw[<-hg];exact vg) (by rw[<-hg];exact cg)) hp⟩
 obtain⟨gA5,hF8,hO5⟩:=argN (C.args.length+1) (.inr (by omega))
 obtain⟨gA6,hF9,hO6⟩:=argN 0 (.inl rfl)
 have e0:((0:Nat):Int)=0:=rfl
 rw[e0] at hF9

 obtain⟨gA7,hg7⟩:∃g,g=tstr nFun [tvar 0,tatm C.name,tint C.args.length]:=⟨_,rfl⟩
 obtain⟨B7,hB7⟩:∃g,g=tstr C.name (frT 1 C.args.length):=⟨_,rfl⟩
 obtain⟨a7,ha7⟩:∃g,g=tstr nFun [B7,tatm C.name,tint C.args.length]:=⟨_,rfl⟩
 have hF10:∀hp,S 19 [.pv none (.str [102,117,110,99,116,111,114]),.pv none (.sl (some 4) [(tvar 0).pv,(tatm C.name).pv,(tint C.args.length).pv])] hp=some (.ret (.pv (some 4) gA7.pv),hp):=fun hp=>by rw[hg7];exact f_ok nFun [tvar 0,tatm C.name,tint C.args.length] hp
 have hF11:∀hp,S 19 [.pv none (.str C.name),.pv none (.sl (some 4) (Tm.pvs (frT 1 C.args.length)))] hp=some (.ret (.pv (some 4) B7.pv),hp):=fun hp=>by rw[hB7];exact f_ok C.name (frT 1 C.args.length) hp
 have hF12:∀hp,S 19 [.pv none (.str [102,117,110,99,116,111,114]),.pv none (.sl (some 4) [B7.pv,(tatm C.name).pv,(tint C.args.length).pv])] hp=some (.ret (.pv (some 4) a7.pv),hp):=fun hp=>by rw[ha7];exact f_ok nFun [B7,tatm C.name,tint C.args.length] hp
 have vg7:gA7.valid=true:=by rw[hg7];exact zdX (by decide) (zdr (by decide)) (zdq hCn) (zcN _) (by rw[hkz,haz,hiz];decide)
 have hB7f:B7.fits=true:=by rw[hB7];exact zit hCn (by rw[ze4];omega) (by rw[ze4];omega) (zrA (by omega))
 have hB7z:B7.size=1+C.args.length:=by rw[hB7,zl0,zpL]
 have va7:a7.valid=true:=by rw[ha7];exact zdX (by decide) hB7f (zdq hCn) (zcN _) (by rw[haz,hiz];omega)
 have o7:gA7.occ=[0]:=by rw[hg7,Tm.occ_eq];rfl
 have w7:vads [] gA7.occ=cntI 1:=by rw[o7];rfl
 have cg7:canT gA7=gA7:=zjS (valid_fits vg7) w7
 have hO7:=fun hp=>zmh gA7 a7 va7 (by
  rw[hg7,ha7,hB7]
  exact zpP (tvar 0) C.name C.args.length rfl hn1 hn8 (by rw[<-hg7];exact vg7) (by rw[<-hg7];exact cg7) 1 (by rw[<-hg7,w7];rfl) (by rw[<-hB7,<-ha7];exact va7)) hp
 have hset:∀fr:Fr,zeY 10 [] ⟨fr,.box (some 4) (.pv (some 4) C.pv)::(E++[.arr (some 4) (Tm.pvs (frT 1 C.args.length)) false])⟩ (some (.sl (some 4) (E.length+1) C.args.length 0 C.args.length))=some ⟨(10,.pv none (.sl (some 4) (Tm.pvs (frT 1 C.args.length))))::fr,.box (some 4) (.pv (some 4) C.pv)::(E++[.arr (some 4) (Tm.pvs (frT 1 C.args.length)) true])⟩:=fun fr=>by
  have hz:AV.freeze deep (.sl (some 4) (E.length+1) C.args.length 0 C.args.length) (.box (some 4) (.pv (some 4) C.pv)::(E++[.arr (some 4) (Tm.pvs (frT 1 C.args.length)) false]))=some (.sl (some 4) (Tm.pvs (frT 1 C.args.length)),.box (some 4) (.pv (some 4) C.pv)::(E++[.arr (some 4) (Tm.pvs (frT 1 C.args.length)) true])):=by
   simp[AV.freeze,deep,Tm.pvs_len,ze4]
  simp only[zeY,hz]
  rfl
 simp only[Tm.av] at hO7
 simp -dsimp -implicitDefEqProofs only[go_sem,seval,↓reduceIte,Tm.av,hc,hwN,zad,zao,h_a,h_x,h_n,hF8,hF9,hF10,hF11,hF12,hO5,hO6,hO7,haw,hset,Tm.pvs_len,List.append_assoc,zaj,zag,zan,zah,Nat.add_assoc,List.length_append]
end Go.Proofs.YtiifblpdlphchaaGreatRR
namespace Go.Proofs.YtiifblpdlphchaaGreatRR
open Go.Am Go.ChangeShapes Go.WideShapes Go.ChangeAt Go.RowKit
theorem zpW(H:Type):BulkLaws (H:=H) Rows.uptoBulk Rows.uptoBulkAll where
 nil:=by simp[Rows.uptoBulkAll]
 cons d r:=by simp[Rows.uptoBulkAll]
 slice e s:=by simp[Rows.uptoBulk]
 agg l:=by simp[Rows.uptoBulk]
 string l:=by simp[Rows.uptoBulk]
theorem znB{H:Type}{l:List (DataW H)}(hk:Rows.uptoSmall H l=true):Rows.uptoBulkAll l<=1048576:=of_decide_eq_true hk
def zl6(P:Program)(tA tT:TypeId):Bool:=
 (match P.underlying tA with|some (.slice t)=>t == tT|_=>false) &&
 (match P.underlying tT with
  |some (.struct fs)=>match fs.toList.map (·.type) with
   |[a,b,c,d]=>d == tA && (match P.underlying a with|some (.int .i64)=>true|_=>false) && (match P.underlying b with|some (.int .i64)=>true|_=>false) && (match P.underlying c with|some .string=>true|_=>false) && decide (shOf P a=none) && decide (shOf P b=none) && decide (shOf P c=none)
   |_=>false
  |_=>false) && decide (shOf P tT=some 4) && decide (shOf P tA=none)
theorem zle{P:Program}{tA tT:TypeId}(h:zl6 P tA tT=true):TermTy P tA tT:=by
 unfold zl6 at h
 simp only[Bool.and_eq_true,decide_eq_true_eq] at h
 obtain⟨⟨⟨h1,h2⟩,h3⟩,h4⟩:=h
 refine⟨?_,?_⟩
 ·split at h1
  ·rename_i t ht;rw[ht];simp at h1;rw[h1]
  ·cases h1
 ·split at h2
  ·rename_i fs hfs
   split at h2
   ·rename_i a b c d hl
    simp only[Bool.and_eq_true,decide_eq_true_eq,beq_iff_eq] at h2
    obtain⟨⟨⟨⟨⟨⟨k1,k2⟩,k3⟩,k4⟩,k5⟩,k6⟩,k7⟩:=h2
    subst k1
    refine⟨fs,a,b,c,hfs,hl,?_,?_,?_,h3,h4,k5,k6,k7⟩
    ·split at k2
     ·assumption
     ·cases k2
    ·split at k3
     ·assumption
     ·cases k3
    ·split at k4
     ·assumption
     ·cases k4
   ·cases h2
  ·cases h2
theorem zub:TermTy Tryz.prog 24 26:=zle (by kernel_rfl)
def zpX:List TypeId:=[2,3,4,5,9,24,26]
theorem closed:zlW Tryz.prog zpX=true:=by kernel_rfl
set_option maxRecDepth 100000 in
theorem zpY{H:Type}{enc:TypeId × Value->H}{W:World}{base:Nat}{v:Value}{d:DataW H}{ps:List MemPlace}(h:DataW.Trod enc Tryz.prog W 0 (fun _=>true) true 26 v d ps)(hv:Value.okWide Tryz.prog W .any base 26 v):
  ∃t:Tm,AR W (noX (P:=Tryz.prog)) noμ [] t.av v/\t.size<=Rows.uptoBulk d/\t.rng:=by
 obtain⟨fuel,h0⟩:=h
 obtain⟨p,hp⟩:=zpH closed fuel _ _ _ _ (by simp[zpX]) h0
 obtain⟨t,rfl,h1,h2⟩:=(zjR zub (zpW H) fuel).1 d p hp
 have:=zt3 ⟨fuel,h0⟩ (by kernel_rfl) hp (znw hv)
 rw[show shOf Tryz.prog 26=some 4 from by kernel_rfl] at this
 exact⟨t,this,h1,h2⟩
end Go.Proofs.YtiifblpdlphchaaGreatRR
namespace Go.Proofs.YtiifblpdlphchaaGreatRR
open Go.Am Go.ChangeShapes Go.WideShapes Go.ChangeAt Go.RowKit
end Go.Proofs.YtiifblpdlphchaaGreatRR
namespace Go.Proofs.YtiifblpdlphchaaGreatRR
open Go.Am Go.ChangeShapes Go.WideShapes Go.ChangeAt Go.RowKit
end Go.Proofs.YtiifblpdlphchaaGreatRR
