/- What is proved: the predicates compare and \=. -/
import Derived.Test.YtiifblpdlphchaaGreatRRGol
import Derived.Test.YtiifblpdlphchaaGreatRRSml
import Derived.Test.YtiifblpdlphchaaGreatRRDfr
import Derived.Test.YtiifblpdlphchaaGreatRRAm5
set_option linter.unusedSimpArgs false
set_option linter.unusedVariables false
namespace Go.Proofs.YtiifblpdlphchaaGreatRR
open Go.Am
theorem ztQ(s:List UInt8)(hp:Heap):S 125 [.pv none (.str s)] hp=some (.ret (tatm s).av,hp):=by
 refine zal rfl rfl rfl (zab [(none,.str s)]) rfl ?_
 have hbu:zaN [(none,.pv none (.int .i64 0)),(none,.pv none (.int .i64 0)),(none,.pv none (.str [])),(none,.tsl (some 4) [])] [0,2] [.pv none (.int .i64 2),.pv none (.str s)]=some (.agg [(none,.pv none (.int .i64 2)),(none,.pv none (.int .i64 0)),(none,.pv none (.str s)),(none,.tsl (some 4) [])]):=rfl
 simp -dsimp -implicitDefEqProofs only[go_sem,seval,↓reduceIte,hbu]
 exact⟨_,rfl⟩
theorem zcS(s:List UInt8)(t:Tm)(hp:Heap):S 124 [.pv none (.str s),t.av] hp=some (.ret (.func (.func 140) [] [.ptr hp.length 0,.ptr (hp.length+1) 0]),hp++[.box none (.pv none (.str s)),.box (some 4) (.pv (some 4) t.pv)]):=by
 refine zaE rfl rfl rfl rfl ?_
 simp -dsimp -implicitDefEqProofs only[go_sem,seval,↓reduceIte,Tm.av,List.append_assoc,zah,zae,zai,zaf,Nat.add_assoc,List.length_append]
 rw[if_neg (by simp[AV.refsIn,AV.refsIn.gol])]
theorem zkd(t:Tm)(hv:t.valid=true)(hp:Heap):S 132 [t.av] hp=some (.ret (.pv none (.bool (decide ((tl t).kind=0)))),hp):=by
 refine zal rfl rfl rfl (zab [(some 4,t.pv)]) rfl ?_
 have h1:=fun hp=>zcT t hv hp
 have h2:=fun hp=>zdU (tl t) hp
 simp only[Tm.av] at h1 h2
 simp -dsimp -implicitDefEqProofs only[go_sem,seval,↓reduceIte,Tm.av,h1,h2,eE,zac (Nat.zero_le _),List.append_assoc,zah,zae,zai,zaf,Nat.add_assoc,List.length_append]
theorem zdj(t:Tm)(hv:t.valid=true)(hp:Heap):S 130 [t.av] hp=some (.ret (.pv none (.bool (decide (zbM (tl t)) || decide ((tl t).kind=0)))),hp):=by
 refine zal rfl rfl rfl (zab [(some 4,t.pv)]) rfl ?_
 have h1:=fun hp=>zqP t hv hp
 have h2:=fun hp=>zkd t hv hp
 simp only[Tm.av] at h1 h2
 cases hk:decide (zbM (tl t))
 ·rw[hk] at h1
  simp -dsimp -implicitDefEqProofs only[go_sem,seval,↓reduceIte,Tm.av,h1,h2,Bool.false_or]
 ·rw[hk] at h1
  simp -dsimp -implicitDefEqProofs only[go_sem,seval,↓reduceIte,Tm.av,h1,h2,Bool.true_or]
theorem zt7(l:List Tm)(hl:l.length<1000000000)(t:Tm)(hp:Heap)(q n:Nat)(hn:l.length=n)(hq:hp[q]? =some (.arr (some 4) (Tm.pvs l) false)):S 131 [.sl (some 4) q n 0 n,t.av] hp=some (.ret (lstT l t).av,hp.set q (.arr (some 4) (Tm.pvs l) true)):=by
 have h:=zss l hl t []
 have hz:zam [.sl (some 4) q n 0 n,t.av] hp=some ([(none,.sl (some 4) (Tm.pvs l)),(some 4,t.pv)],hp.set q (.arr (some 4) (Tm.pvs l) true)):=by
  have e1:AV.freeze deep (.sl (some 4) q n 0 n) hp=some (.sl (some 4) (Tm.pvs l),hp.set q (.arr (some 4) (Tm.pvs l) true)):=by
   simp[AV.freeze,deep,hq,Tm.pvs_len,hn]
  have e2:∀X,AV.freeze deep (.pv (some 4) t.pv) X=some (t.pv,X):=fun _=>rfl
  simp[zam,e1,e2,AV.shp,Tm.av]
 have h2:=zgn (F:=find tab) (prim:=prim) (f:=131) (args:=[.sl (some 4) q n 0 n,t.av]) rfl rfl rfl hz h
 have hs:∀u:Tm,u.av.scalar=false:=fun u=>by cases u;rfl
 rw[hs] at h2
 exact h2
def strL:List UInt8:=[108,105,115,116]
theorem zlr(n:Int)(hp:Heap):S 126 [.pv none (.int .i64 n)] hp=some (.ret (tint n).av,hp):=by
 refine zal rfl rfl rfl (zab [(none,.int .i64 n)]) rfl ?_
 have hbu:zaN [(none,.pv none (.int .i64 0)),(none,.pv none (.int .i64 0)),(none,.pv none (.str [])),(none,.tsl (some 4) [])] [0,1] [.pv none (.int .i64 1),.pv none (.int .i64 n)]=some (.agg [(none,.pv none (.int .i64 1)),(none,.pv none (.int .i64 n)),(none,.pv none (.str [])),(none,.tsl (some 4) [])]):=rfl
 simp -dsimp -implicitDefEqProofs only[go_sem,seval,↓reduceIte,hbu,zac (Nat.zero_le _)]
 exact⟨_,rfl⟩
def hK(hp:Heap)(r:Nat)(g:Tm)(j:Nat):Heap:=hp.set r (.box (some 5) (.pv (some 5) (runV g j)))
theorem zmq(hp:Heap)(r:Nat)(g:Tm)(j:Nat):(hK hp r g j).length=hp.length:=by simp[hK]
theorem zsW{hp:Heap}{r:Nat}(h:r<hp.length)(g:Tm)(j:Nat)(X:Heap):(hK hp r g j++X)[r]? =some (.box (some 5) (.pv (some 5) (runV g j))):=by
 rw[List.getElem?_append_left (by rw[zmq];exact h)]
 simp[hK,h]
theorem zuL{hp:Heap}{r:Nat}(h:r<hp.length)(g:Tm)(j i:Nat)(X:Heap):(hK hp r g j++X).set r (.box (some 5) (.pv (some 5) (runV g i)))=hK hp r g i++X:=by
 rw[List.set_append_left _ _ (by rw[zmq];exact h)]
 simp[hK]
theorem ztS{hp:Heap}{r:Nat}{g:Tm}{k:Nat}(hr:hp[r]? =some (.box (some 5) (.pv (some 5) (runV g k)))):hK hp r g k=hp:=by
 obtain⟨h,he⟩:=List.getElem?_eq_some_iff.1 hr
 unfold hK
 rw[<-he]
 exact List.set_getElem_self h
theorem zsf(g:Tm)(j i:Nat):AV.upd deep (.pv (some 5) (runV g j)) 4 none (.pv none (.int .i64 (i:Int)))=some (.pv (some 5) (runV g i)):=by cases g;rfl
theorem zsg(g:Tm)(j:Nat)(hj:j<1000000)(hp:Heap)(r:Nat)(h:r<hp.length)(X:Heap)(n:Nat)(hn:n=hp.length+X.length):S 128 [.ptr r 0] (hK hp r g j++X)=some (.ret (nagg (tvar j) (n+2)),hK hp r g (j+1)++(X++[.box (some 4) (nagg (tvar j) (n+2)),.arr (some 4) [] false,.arr (some 4) [] false])):=by
 refine zaE rfl rfl rfl rfl ?_
 obtain⟨K,hK0⟩:∃K:Nat->Heap,K=fun j=>hK hp r g j++X:=⟨_,rfl⟩
 have hKs:∀j,hK hp r g j++X=K j:=fun j=>by rw[hK0]
 have hKa:∀j Y,hK hp r g j++(X++Y)=K j++Y:=fun j Y=>by rw[<-hKs,List.append_assoc]
 have hKl:∀j,(K j).length=n:=fun j=>by rw[<-hKs,List.length_append,zmq,hn]
 have hKr:∀j Y,(K j++Y)[r]? =some (.box (some 5) (.pv (some 5) (runV g j))):=fun j Y=>by
  rw[<-hKa]
  exact zsW h g j _
 have hst:∀Y,zaD none n (K j++Y) [.ptr r 4,.pv none (.int .i64 ((j+1:Nat):Int))]=some (.undef,K (j+1)++Y):=fun Y=>by
  have hb:¬n<=r:=by omega
  have e:(K j++Y).set r (.box (some 5) (.pv (some 5) (runV g (j+1))))=K (j+1)++Y:=by
   rw[<-hKa,<-hKa]
   exact zuL h g j (j+1) _
  simp only[zaD,astore,hKr,AV.plain,AV.shp,hb,AV.refsIn,zsf,if_false]
  simp[e]
 have hw:IntKind.i64.wrap ((j:Int)+1)=((j+1:Nat):Int):=by rw[zaR (by omega) (by omega)];omega
 have hw2:IntKind.i64.wrap (((j+1:Nat):Int) - 1)=(j:Int):=by rw[zaR (by omega) (by omega)];omega
 have hbu:zaN [(none,.pv none (.int .i64 0)),(none,.pv none (.int .i64 0)),(none,.pv none (.str [])),(none,.tsl (some 4) [])] [0,1] [.pv none (.int .i64 0),.pv none (.int .i64 (j:Int))]=some (.agg [(none,.pv none (.int .i64 0)),(none,.pv none (.int .i64 (j:Int))),(none,.pv none (.str [])),(none,.tsl (some 4) [])]):=rfl
 rw[hKa,hKs,hKl]
 simp -dsimp -implicitDefEqProofs only[go_sem,seval,↓reduceIte,hKr,hst,hw,hw2,hbu,zqV,zaL,zac (Nat.le_refl _),zaz,List.append_assoc,zah,zae,zai,zaf,Nat.add_assoc,List.length_append,hKl,getN (hKl _),zdm (hKl _),setN (hKl _),zdV (hKl _)]
 exact⟨rfl,by rw[if_neg (by simp[nagg,AV.refsIn,AV.refsIn.go])];rfl⟩
def frT(k n:Nat):List Tm:=(List.range n).map fun j=>tvar ((k+j:Nat):Int)
theorem ziE(k n:Nat):frT k (n+1)=frT k n++[tvar ((k+n:Nat):Int)]:=by simp[frT,List.range_succ]
theorem zlq(k n:Nat):(frT k n).length=n:=by simp[frT]
theorem ztN(g:Tm)(ts:List Tm)(hv:g.valid=true)(hc:canT g=g)(hk:g.kind=3)(hn:g.name∈zbT g.args.length)(hts:ts.all Tm.valid=true)(hl:ts.length<=1000)(q:Nat)(x6:AObj)(X:Heap)(z:Bool)
  (he:S 50 [.ptr 6 0] (hE g)=some (.ret (.tuple [.sl (some 4) q ts.length 0 ts.length,.pv none (.int .i64 0)]),(hE g).take 6++x6::X))(hq:7<=q)(hX:X[q - 7]? =some (.arr (some 4) (Tm.pvs ts) z)):zdo g ts zt 0:=by
 intro hp
 have h3:=zmf g hp hv hc hk hn ts 0 _ x6 X he (fun H hH=>zsV (z:=z) rfl (hH q _ (by omega) (by
  obtain⟨j,rfl⟩:∃j,q=j+7:=⟨q - 7,by omega⟩
  exact hX))) (by omega) fun t ht=>by
   have:=valid_size (List.all_eq_true.1 hts t ht)
   omega
 have hr:zcg ts 0=(ts,0):=by
  have:¬1000<ts.length:=by omega
  simp only[zcg,ne_eq,not_true_eq_false,if_false,this,hts,if_true]
 rw[hr] at h3
 exact h3
theorem zp8(g:Tm):Bq (hE g++eJ g):=(zn0 g).app (Bq.cons rfl (Bq.cons rfl (Bq.cons (zdB _ _) (Bq.cons (ziC _) (Bq.cons (ziD _) Bq.nil)))))
def sgg(u:Tm)(q:Nat):AV:=.agg [(none,.pv none (.int .i64 u.kind)),(none,.pv none (.int .i64 u.n)),(none,.pv none (.str u.name)),(none,.sl (some 4) q u.args.length 0 u.args.length)]
theorem znW{u:Tm}{q:Nat}{H:Heap}{z:Bool}(h:H[q]? =some (.arr (some 4) (Tm.pvs u.args) z)):AV.freeze deep (sgg u q) H=some (u.pv,H.set q (.arr (some 4) (Tm.pvs u.args) true)):=by
 have e:∀l hp,AV.freeze (7+1) (.agg l) hp=match AV.freeze.go 7 l hp with|some (ps,hp')=>some (.agg ps,hp')|none=>none:=fun _ _=>rfl
 show AV.freeze (7+1) (.agg _) _=_
 simp[e,AV.freeze.go,AV.freeze,h,Tm.pvs_len]
 cases u
 rfl
def CopR(v:AV)(u:Tm)(n:Nat)(H:Heap):Prop:=v=.pv (some 4) u.pv\/∃q z,n<=q/\v=sgg u q/\H[q]? =some (.arr (some 4) (Tm.pvs u.args) z)
theorem CopR.shp{v:AV}{u:Tm}{n:Nat}{H:Heap}(h:CopR v u n H):v.shp=some 4:=by
 rcases h with rfl|⟨q,z,_,rfl,_⟩ <;> rfl
theorem CopR.frz{v:AV}{u:Tm}{n:Nat}{B e:Heap}(h:CopR v u n (B++e))(hn:B.length=n):∃e2,e2.length=e.length/\AV.freeze deep v (B++e)=some (u.pv,B++e2):=by
 rcases h with rfl|⟨q,z,hq,rfl,hH⟩
 ·exact⟨e,rfl,rfl⟩
 ·obtain⟨j,rfl⟩:∃j,q=n+j:=⟨q - n,by omega⟩
  refine⟨e.set j (.arr (some 4) (Tm.pvs u.args) true),by simp,?_⟩
  rw[znW hH,setN hn]
def zcw(b:Tm):PV:=.iface 74 (some 4) (.agg [(some 4,b.pv)])
theorem zqC(b:Tm)(x0 x2 x4 x6:AObj)(q1 q2:Nat):sem (find tab) prim .dfr 48 [.pv none (zcw b),.ptr 1 0,.ptr 3 0,.ptr 5 0] [x0,.box none (.sl (some 4) q1 0 0 0),x2,.box (some 4) (cagg 0 q2),x4,.box none (.pv none (.int .i64 0)),x6]=some (.ret (.tuple []),[x0,.box none (.tsl (some 4) []),x2,.box (some 4) (.pv (some 4) b.pv),x4,.box none (.pv none (.int .i64 8)),x6]):=by
 refine zmo (t:=6) rfl rfl rfl rfl ?_
 have hin:zff true [.pv none (zcw b)]=some (.pv none (.bool true)):=rfl
 have has:zd1 74 (some 4) (.agg [(some 4,.agg [(none,.pv none (.int .i64 0)),(none,.pv none (.int .i64 0)),(none,.pv none (.str [])),(none,.tsl (some 4) [])])]) true [.pv none (zcw b)]=some (.tuple [.pv (some 4) b.pv,.pv none (.bool true)]):=rfl
 have hsn:∀X:AObj,zb5 none 7 [x0,.box none (.sl (some 4) q1 0 0 0),x2,.box (some 4) (cagg 0 q2),x4,.box none (.pv none (.int .i64 0)),x6,X] [.ptr 1 0,.tsl (some 4) [],.ptr 7 0]=some (.undef,[x0,.box none (.tsl (some 4) []),x2,.box (some 4) (cagg 0 q2),x4,.box none (.pv none (.int .i64 0)),x6,X]):=fun X=>by
  simp[zb5,astore,zfN,AV.plain,AV.shp,AV.refsIn]
 have hs2:∀X:AObj,zaD (some 4) 7 [x0,.box none (.tsl (some 4) []),x2,.box (some 4) (cagg 0 q2),x4,.box none (.pv none (.int .i64 0)),x6,X] [.ptr 3 0,.pv (some 4) b.pv]=some (.undef,[x0,.box none (.tsl (some 4) []),x2,.box (some 4) (.pv (some 4) b.pv),x4,.box none (.pv none (.int .i64 0)),x6,X]):=fun X=>by
  simp[zaD,astore,AV.plain,AV.shp,AV.refsIn,cagg]
 simp -dsimp -implicitDefEqProofs only[go_sem,seval,↓reduceIte,hin,has,hsn,hs2,zfx,zac (Nat.zero_le _),List.append_assoc,zah,zae,zai,zaf,Nat.add_assoc,List.length_append]
 rfl
theorem zqD(g:Tm)(hp:Heap)(hv:g.valid=true)(hc:canT g=g)(hk:g.kind=3)(hn:g.name∈zbT g.args.length)(b:Tm)
  (he:S 50 [.ptr 6 0] (hE g)=some (.panic (zcw b),hE g)):
  S 20 [g.av] hp=some (.ret (.tuple [.pv none (.sl (some 4) []),b.av,.pv none (.int .i64 8)]),hp):=by
 refine zfw rfl rfl rfl (zab [(some 4,g.pv)]) rfl rfl ?_
 have hsz:=valid_size hv
 have h1:=fun hp=>zbY g hp (by omega)
 have h2:=fun hp=>zmg g hp (by omega)
 have h3:=fun hp=>zmE g g hp (by omega) (by omega)
 have h4:=fun hp=>zgq g hp
 have h5:=fun hp=>zsY g.name g.args.length hp
 have h6:=fun hp=>zmG g hv hp
 have hcr:canR g=g:=by unfold canR;rw[if_pos hv,hc]
 have hsm:same g g=true:=by simp[same,hv,Tm.cmp_zero]
 rw[hcr] at h2
 rw[hsm] at h3
 rw[hv] at h1
 have hn':decide (g.name∈zbT g.args.length)=true:=decide_eq_true hn
 rw[hn'] at h5
 have hk':decide (g.kind=3)=true:=decide_eq_true hk
 rw[hk'] at h4
 have hal:∀a0:AObj,zcl none (.tsl (some 4) []) [a0] []=some (.ptr 1 0,[a0,.box none (.sl (some 4) 2 0 0 0),.arr (some 4) [] false]):=fun _=>rfl
 have hnx:(ints (vads [] g.occ)).length=(vads [] g.occ).length:=zbb _
 simp only[Tm.av] at h1 h2 h3 h4 h5 h6
 have hbu:∀k:Nat,zaN [(some 4,.agg [(none,.pv none (.int .i64 0)),(none,.pv none (.int .i64 0)),(none,.pv none (.str [])),(none,.tsl (some 4) [])]),(none,.pv none (.int .i64 0))] [0,1] [.pv (some 4) g.pv,.pv none (.int .i64 (k:Int))]=some (.pv (some 5) (runV g k)):=fun _=>rfl
 simp only[hE,cagg] at he
 have hpan:∀A:Prop,panK true A=A:=fun _=>rfl
 simp -dsimp -implicitDefEqProofs only[go_sem,seval,↓reduceIte,Tm.av,hal,hbu,h1,h2,h3,h4,h5,h6,hnx,he,hpan,zar,zag,Tm.pvs_len,zac (Nat.zero_le _),zaz,zch,zbm,zcG,zbD,List.append_assoc,zah,zae,zai,zaf,Nat.add_assoc,List.length_append]
 refine⟨rfl,48,[],[.ptr 1 0,.ptr 3 0,.ptr 5 0],rfl,_,_,_,zqC b _ _ _ _ 2 4,rfl,?_⟩
 exact⟨_,rfl⟩
def doN:List UInt8:=[100,111,109,97,105,110,95,101,114,114,111,114]
def domT(nm:List UInt8)(t:Tm):Tm:=errT (strT doN [zba nm,cul t])
theorem zj4{nm:List UInt8}(hn:nm.length<=100){t:Tm}(hv:t.valid=true):(strT doN [zba nm,cul t]).valid=true/\(domT nm t).valid=true:=by
 obtain⟨h1,h2⟩:=zql hv
 have h3:=zd9 hn
 have f1:(strT doN [zba nm,cul t]).fits=true:=zj5 (by decide) (by simp) (by simp) (by simp[Tm.fitsAll,valid_fits h1,valid_fits h3])
 have s1:(strT doN [zba nm,cul t]).size=1+(1+((cul t).size+0)):=by rw[Tm.size_eq];rfl
 have f2:(domT nm t).fits=true:=zj5 (by decide) (by simp) (by simp) (by simp[Tm.fitsAll,f1];decide)
 have s2:(domT nm t).size=1+((strT doN [zba nm,cul t]).size+(1+0)):=by
  show(errT _).size=_
  rw[Tm.size_eq]
  rfl
 exact⟨zfH f1 (by omega),zfH f2 (by omega)⟩
theorem zqg(nm:List UInt8)(hn:nm.length<=100)(t:Tm)(hv:t.valid=true)(hp:Heap):S 115 [t.av,.pv none (.str doN),.pv none (.sl none [.str nm])] hp=some (.ret (domT nm t).av,hp):=by
 refine zal rfl rfl rfl (zab [(some 4,t.pv),(none,.str doN),(none,.sl none [.str nm])]) rfl ?_
 have hz:=valid_size hv
 have h1:=fun hp=>zbY t hp (by omega)
 have h2:=fun hp=>zqM t hp (by omega)
 have h3:=ziB nm hn
 have h4:=ziB [46,46,46] (by decide)
 obtain⟨v1,v2⟩:=zj4 hn hv
 have hn0:∀H:Heap,zbZ (some 4) H=some (.sl (some 4) H.length 0 0 0,H++[.arr (some 4) [] false]):=fun H=>zbs (sh:=some 4) (by decide)
 have hmin:min t.size 2001=t.size:=by omega
 rw[hmin] at h2
 have hsl:=eq_false (show ¬(100:Int)<(nm.length:Int) by omega)
 have hia:za2 none [.pv none (.sl none [.str nm]),.pv none (.int .i64 0)]=some (.iptr none (.str nm) 0):=rfl
 have w1:IntKind.i64.wrap 4=4:=by decide
 have w2:IntKind.i64.wrap ((4:Int)+(t.size:Int))=4+(t.size:Int):=zaR (by omega) (by omega)
 have w3:IntKind.i64.wrap 1=1:=by decide
 have hp0:Tm.pvs []=[]:=rfl
 have hra:∀(a0 a1 a2:AObj),S 114 [.pv none (.str doN),.sl (some 4) 3 2 0 2] [a0,a1,a2,.arr (some 4) [(zba nm).pv,(cul t).pv] false]=some (.ret (domT nm t).av,[a0,a1,a2,.arr (some 4) [(zba nm).pv,(cul t).pv] true]):=fun a0 a1 a2=>
  zqk (ps:=[(none,.str doN),(none,.sl (some 4) (Tm.pvs [zba nm,cul t]))]) rfl rfl rfl rfl rfl (zsd doN [zba nm,cul t] (by simp) v1 v2 [])
 have hl1:(1:Nat)+1<=lim:=by unfold lim;omega
 have hl0:(0:Nat)+1<=lim:=by unfold lim;omega
 simp only[Tm.av] at h1 h2 h3 h4 hra
 simp -dsimp -implicitDefEqProofs only[go_sem,seval,↓reduceIte,Tm.av,h1,hv,hn0]
 refine zdn (α:=Unit) 1 (fun _ _=>True) (fun i _=>⟨[(1,.pv none (.str doN)),(2,.pv none (.sl none [.str nm])),(3,.ptr 0 0),(6,.ptr 1 0),(7,.sl (some 4) 3 i 0 i),(14,.pv none (.sl none [.str nm])),(15,.pv none (.int .i64 1)),(16,.pv none (.int .i64 i))],[.box (some 4) (.pv (some 4) t.pv),.box (some 4) (zg 2),.arr (some 4) [] false,.arr (some 4) (Tm.pvs ([zba nm].take i)) false]⟩) () ⟨trivial,rfl⟩ ?_ ?_
 ·rintro i - hi -
  have:i=0:=by omega
  subst this
  have hc:(0:Int)<(1:Int):=by omega
  have hap:∀a0 a1 a2:AObj,zaB (some 4) [a0,a1,a2,.arr (some 4) [] false] [.sl (some 4) 3 0 0 0,.tsl (some 4) [(zba nm).pv]]=some (.sl (some 4) 3 1 0 1,[a0,a1,a2,.arr (some 4) [(zba nm).pv] false]):=fun _ _ _=>rfl
  have htk:Tm.pvs ([zba nm].take 0)=[]:=rfl
  have htk1:Tm.pvs ([zba nm].take 1)=[(zba nm).pv]:=rfl
  generalize (zba nm).pv=X at*
  simp -dsimp -implicitDefEqProofs only[go_sem,seval,↓reduceIte,zg,htk,hp0,hc,hia,hsl,h3,hap,w3]
  exact⟨(),by rw[htk1];rfl⟩
 ·rintro - -
  have hc:¬(1:Int)<(1:Int):=by omega
  have htk:Tm.pvs ([zba nm].take 1)=[(zba nm).pv]:=rfl
  by_cases hbig:(2000:Int)<4+(t.size:Int)
  ·have hcu:cul t=zba [46,46,46]:=by unfold cul;rw[if_pos (by omega)]
   have hap:∀(a0 a1 a2:AObj),zaB (some 4) [a0,a1,a2,.arr (some 4) [(zba nm).pv] false] [.sl (some 4) 3 1 0 1,.tsl (some 4) [(zba [46,46,46]).pv]]=some (.sl (some 4) 3 2 0 2,[a0,a1,a2,.arr (some 4) [(zba nm).pv,(zba [46,46,46]).pv] false]):=fun _ _ _=>rfl
   rw[hcu] at hra
   generalize (zba [46,46,46]).pv=Y at*
   generalize (zba nm).pv=X at*
   simp -dsimp -implicitDefEqProofs only[go_sem,seval,↓reduceIte,zg,htk,hc,h2,w1,w2,hbig,h4,hap,hra]
   rfl
  ·have hcu:cul t=t:=by unfold cul;rw[if_neg (by omega)]
   have hap:∀(a0 a1 a2:AObj),zaB (some 4) [a0,a1,a2,.arr (some 4) [(zba nm).pv] false] [.sl (some 4) 3 1 0 1,.tsl (some 4) [t.pv]]=some (.sl (some 4) 3 2 0 2,[a0,a1,a2,.arr (some 4) [(zba nm).pv,t.pv] false]):=fun _ _ _=>rfl
   rw[hcu] at hra
   generalize (zba nm).pv=X at*
   simp -dsimp -implicitDefEqProofs only[go_sem,seval,↓reduceIte,zg,htk,hc,h2,w1,w2,hbig,hap,hra]
   rfl
theorem ztR(nm:List UInt8)(hn:nm.length<=100)(t:Tm)(hv:t.valid=true)(hp:Heap):S 141 [.pv none (.str nm),t.av] hp=some (.ret (domT nm t).av,hp):=by
 refine zal rfl rfl rfl (zab [(none,.str nm),(some 4,t.pv)]) rfl ?_
 have h1:∀H:Heap,S 115 [t.av,.pv none (.str doN),.tsl none [.str nm]] H=some (.ret (domT nm t).av,H):=fun H=>zqk (ps:=[(some 4,t.pv),(none,.str doN),(none,.sl none [.str nm])]) rfl rfl rfl rfl rfl (zqg nm hn t hv [])
 simp only[Tm.av,doN] at h1
 simp -dsimp -implicitDefEqProofs only[go_sem,seval,↓reduceIte,Tm.av,h1]
 try rfl
def negN:List UInt8:=[110,111,116,95,108,101,115,115,95,116,104,97,110,95,122,101,114,111]
theorem zlm(t:Tm)(hv:t.valid=true)(hp:Heap)(a b:Nat)(ha:hp[a]? =some (.box none (.pv none (.str negN))))(hb:hp[b]? =some (.box (some 4) (.pv (some 4) t.pv))):S 140 [.ptr a 0,.ptr b 0] hp=some (.ret (domT negN t).av,hp):=by
 refine zaE rfl rfl rfl rfl ?_
 have h1:=fun hp=>ztR negN (by decide) t hv hp
 have ha':∀X,(hp++X)[a]? =some (.box none (.pv none (.str negN))):=fun X=>by rw[zbR (zbr ha),ha]
 have hb':∀X,(hp++X)[b]? =some (.box (some 4) (.pv (some 4) t.pv)):=fun X=>by rw[zbR (zbr hb),hb]
 simp only[Tm.av] at h1
 simp -dsimp -implicitDefEqProofs only[go_sem,seval,↓reduceIte,Tm.av,ha',hb',h1,zac (Nat.le_refl _),List.append_assoc,zah,zae,zai,zaf,Nat.add_assoc,List.length_append]
 simp[AV.refsIn]
theorem zqh(t:Tm)(hv:t.valid=true)(hp:Heap)(a b:Nat)(ha:hp[a]? =some (.box none (.pv none (.str negN))))(hb:hp[b]? =some (.box (some 4) (.pv (some 4) t.pv))):S 122 [.pv none (.bool true),.func (.func 140) [] [.ptr a 0,.ptr b 0]] hp=some (.panic (zcw (domT negN t)),hp):=by
 obtain⟨v,hp',h,rfl,rfl⟩:∃v hp',S 122 [.pv none (.bool true),.func (.func 140) [] [.ptr a 0,.ptr b 0]] hp=some (v,hp')/\v=.panic (zcw (domT negN t))/\hp'=hp:=by
  refine zcH (fun v hp'=>v=.panic (zcw (domT negN t))/\hp'=hp) rfl rfl rfl rfl ?_
  have h1:=zlm t hv hp a b ha hb
  have hsb:zaN [(some 4,.agg [(none,.pv none (.int .i64 0)),(none,.pv none (.int .i64 0)),(none,.pv none (.str [])),(none,.tsl (some 4) [])])] [0] [.pv (some 4) (domT negN t).pv]=some (.pv (some 4) (.agg [(some 4,(domT negN t).pv)])):=rfl
  have hmi:∀(s:Sh) (p:PV),zcX 74 [.pv s p]=some (.pv none (.iface 74 s p)):=fun _ _=>rfl
  have hpan:∀A:Prop,panK true A=A:=fun _=>rfl
  simp only[Tm.av] at h1
  simp -dsimp -implicitDefEqProofs only[go_sem,seval,↓reduceIte,h1,hsb,hmi,hpan,zdS,zdT,zbS,List.append_assoc,zah,zae,zai,zaf,Nat.add_assoc,List.length_append]
  exact⟨rfl,List.take_length⟩
 exact h
def intN:List UInt8:=[105,110,116,101,103,101,114]
theorem zuM(m:Int):(tint m).valid=true:=zfH (by simp[tint,Tm.fits,Tm.fitsAll,Tm.node,Tm.kind,Tm.n,Tm.name,Tm.args]) (by show(1:Nat)<=2000;omega)
def lJ(L y:Tm):Heap:=[.box (some 4) (.pv (some 4) L.pv),.box (some 4) (.pv (some 4) y.pv),.arr (some 4) [] false,.box none (.pv none (.str intN)),.box (some 4) (.pv (some 4) y.pv),.box none (.pv none (.str negN)),.box (some 4) (.pv (some 4) y.pv),.box none (.pv none (.str strL)),.box (some 4) (.pv (some 4) L.pv),.box (some 4) (.pv (some 4) (tl L).pv),.arr (some 4) [] false,.box (some 4) (.pv (some 4) (tl L).pv),.arr (some 4) [] false,.arr (some 4) (Tm.pvs (els L)) false,.box (some 4) (.pv (some 4) (tl L).pv),.arr (some 4) [] false]
theorem zlu(g:Tm)(k:Nat)(L y:Tm)(vL:L.valid=true)(hnl:zbM (tl L))(hy:y.kind=0)(hga:g.args.length=2)(hp:Heap)(r:Nat)(hr:hp[r]? =some (.box (some 5) (.pv (some 5) (runV g k))))(hb:Bq hp):
  S 104 [.ptr r 0,L.av,y.av] hp=some (.ret (.tuple [.sl (some 4) (hp.length+22) 1 0 1,.pv none (.int .i64 0)]),hp++(lJ L y++wJ (hp.length+16) g 1 (tint ((els L).length:Int)))):=by
 refine zaE rfl rfl rfl rfl ?_
 have hlt:=zbr hr
 have hr':∀X,(hp++X)[r]? =some (.box (some 5) (.pv (some 5) (runV g k))):=fun X=>by rw[zbR hlt,hr]
 have h1:=fun hp=>zdU y hp
 have e1:decide (y.kind=0)=true:=decide_eq_true hy
 rw[e1] at h1
 have h2:=fun hp=>zeN y hp
 have e2:decide (y.kind=1)=false:=by rw[hy];rfl
 rw[e2] at h2
 have h3:=zeO
 have h4:=fun n t hp=>zeP n t hp
 have h5:=fun n t hp=>zcS n t hp
 have h6:=fun hp=>zdj L vL hp
 have e6:(decide (zbM (tl L)) || decide ((tl L).kind=0))=true:=by rw[decide_eq_true hnl];rfl
 rw[e6] at h6
 have h7:=fun hp=>zcT L vL hp
 have h8:=fun hp=>zeJ (tl L) hp
 have e8:decide (zbM (tl L))=true:=decide_eq_true hnl
 rw[e8] at h8
 have h9:=fun n hp=>zlr n hp
 have h10:=fun x X=>zqX g k 1 x (by omega) (by omega) (hp++X) r (hr' X)
 have e0:((1:Nat):Int)=1:=rfl
 simp only[Tm.av] at h1 h2 h4 h5 h6 h7 h8 h9
 simp only[Tm.av,wJ,e0] at h10
 simp -dsimp -implicitDefEqProofs only[go_sem,seval,↓reduceIte,Tm.av,eE,h1,h2,h3,h4,h5,h6,h7,h8,h9,h10,za3,hr,hr',zls,zgx,zdC,zjT rfl,zdg hb,List.take_succ_cons,zcv,zdh,zj6,zea,zdB,zgy,zaL,zbs (sh:=some 4) (by decide),zac (Nat.le_add_right _ _),List.append_assoc,zah,zae,zai,zaf,Nat.add_assoc,List.length_append]
 rw[if_neg (by simp[AV.refsIn,AV.refsIn.gol])]
 rfl
theorem zn1(g:Tm)(k:Nat)(L:Tm)(m:Int)(vL:L.valid=true)(hk:(tl L).kind=0)(hm0:0<=m)(hm:m<((els L).length:Int))(hp:Heap)(r:Nat)(hr:hp[r]? =some (.box (some 5) (.pv (some 5) (runV g k))))(hb:Bq hp):
  S 104 [.ptr r 0,L.av,(tint m).av] hp=some (.ret (.tuple [.sl (some 4) (hp.length+16) 0 0 0,.pv none (.int .i64 0)]),hp++(lJ L (tint m)++[.arr (some 4) [] false])):=by
 refine zaE rfl rfl rfl rfl ?_
 have hlt:=zbr hr
 have hr':∀X,(hp++X)[r]? =some (.box (some 5) (.pv (some 5) (runV g k))):=fun X=>by rw[zbR hlt,hr]
 have h1:∀hp,S 71 [(tint m).av] hp=some (.ret (.pv none (.bool false)),hp):=fun hp=>zdU (tint m) hp
 have h2:∀hp,S 74 [(tint m).av] hp=some (.ret (.pv none (.bool true)),hp):=fun hp=>zeN (tint m) hp
 have h3:=zeO
 have h4:=fun n t hp=>zeP n t hp
 have h5:=fun n t hp=>zcS n t hp
 have h6:=fun hp=>zdj L vL hp
 have e6:(decide (zbM (tl L)) || decide ((tl L).kind=0))=true:=by rw[decide_eq_true hk,Bool.or_true]
 rw[e6] at h6
 have h7:=fun hp=>zcT L vL hp
 have h8:=fun hp=>zeJ (tl L) hp
 have e8:decide (zbM (tl L))=false:=decide_eq_false fun h=>by
  have:=h.1
  rw[hk] at this
  cases this
 rw[e8] at h8
 have kn:(tint m).n=m:=rfl
 simp only[Tm.av] at h1 h2 h4 h5 h6 h7 h8
 have hn0:¬m<0:=by omega
 simp -dsimp -implicitDefEqProofs only[go_sem,seval,↓reduceIte,Tm.av,eE,h1,h2,h3,h4,h5,h6,h7,h8,kn,hn0,hm,za3,hr,hr',zls,zgx,zdC,zjT rfl,zdg hb,List.take_succ_cons,zcv,zdh,zj6,zea,zdB,zgy,zaL,zbs (sh:=some 4) (by decide),zac (Nat.le_add_right _ _),List.append_assoc,zah,zae,zai,zaf,Nat.add_assoc,List.length_append]
 rw[if_neg (by simp[AV.refsIn,AV.refsIn.gol])]
 rfl
theorem zlv(g:Tm)(k:Nat)(L:Tm)(m:Int)(vL:L.valid=true)(hk:(tl L).kind=0)(hm:((els L).length:Int)<=m)(hm2:2000<m)(hp:Heap)(r:Nat)(hr:hp[r]? =some (.box (some 5) (.pv (some 5) (runV g k))))(hb:Bq hp):
  S 104 [.ptr r 0,L.av,(tint m).av] hp=some (.ret (.tuple [.sl (some 4) (hp.length+16) 0 0 0,.pv none (.int .i64 2)]),hp++(lJ L (tint m)++[.arr (some 4) [] false])):=by
 refine zaE rfl rfl rfl rfl ?_
 have hlt:=zbr hr
 have hr':∀X,(hp++X)[r]? =some (.box (some 5) (.pv (some 5) (runV g k))):=fun X=>by rw[zbR hlt,hr]
 have h1:∀hp,S 71 [(tint m).av] hp=some (.ret (.pv none (.bool false)),hp):=fun hp=>zdU (tint m) hp
 have h2:∀hp,S 74 [(tint m).av] hp=some (.ret (.pv none (.bool true)),hp):=fun hp=>zeN (tint m) hp
 have h3:=zeO
 have h4:=fun n t hp=>zeP n t hp
 have h5:=fun n t hp=>zcS n t hp
 have h6:=fun hp=>zdj L vL hp
 have e6:(decide (zbM (tl L)) || decide ((tl L).kind=0))=true:=by rw[decide_eq_true hk,Bool.or_true]
 rw[e6] at h6
 have h7:=fun hp=>zcT L vL hp
 have h8:=fun hp=>zeJ (tl L) hp
 have e8:decide (zbM (tl L))=false:=decide_eq_false fun h=>by
  have:=h.1
  rw[hk] at this
  cases this
 rw[e8] at h8
 have kn:(tint m).n=m:=rfl
 simp only[Tm.av] at h1 h2 h4 h5 h6 h7 h8
 have hn0:¬m<0:=by omega
 have hn1:¬m<((els L).length:Int):=by omega
 simp -dsimp -implicitDefEqProofs only[go_sem,seval,↓reduceIte,Tm.av,eE,h1,h2,h3,h4,h5,h6,h7,h8,kn,hn0,hn1,hm2,za3,hr,hr',zls,zgx,zdC,zjT rfl,zdg hb,List.take_succ_cons,zcv,zdh,zj6,zea,zdB,zgy,zaL,zbs (sh:=some 4) (by decide),zac (Nat.le_add_right _ _),List.append_assoc,zah,zae,zai,zaf,Nat.add_assoc,List.length_append]
 rw[if_neg (by simp[AV.refsIn,AV.refsIn.gol])]
 rfl
theorem zn2(L:Tm)(m:Int)(vL:L.valid=true)(hm:m<0)(hp:Heap)(r:Nat)(hr:r<hp.length)(hb:Bq hp):S 104 [.ptr r 0,L.av,(tint m).av] hp=some (.panic (zcw (domT negN (tint m))),hp):=by
 obtain⟨v,hp',h,rfl,rfl⟩:∃v hp',S 104 [.ptr r 0,L.av,(tint m).av] hp=some (v,hp')/\v=.panic (zcw (domT negN (tint m)))/\hp'=hp:=by
  refine zcH (fun v hp'=>v=.panic (zcw (domT negN (tint m)))/\hp'=hp) rfl rfl rfl rfl ?_
  have h1:∀hp,S 71 [(tint m).av] hp=some (.ret (.pv none (.bool false)),hp):=fun hp=>zdU (tint m) hp
  have h2:∀hp,S 74 [(tint m).av] hp=some (.ret (.pv none (.bool true)),hp):=fun hp=>zeN (tint m) hp
  have h3:=zeO
  have h4:=fun n t hp=>zeP n t hp
  have h5:=fun n t hp=>zcS n t hp
  have vm:(tint m).valid=true:=zuM m
  have h6:∀(x0 x1 x2 x3 x4:AObj),S 122 [.pv none (.bool true),.func (.func 140) [] [.ptr (hp.length+5) 0,.ptr (hp.length+6) 0]] (hp++[x0,x1,x2,x3,x4,.box none (.pv none (.str negN)),.box (some 4) (.pv (some 4) (tint m).pv)])=some (.panic (zcw (domT negN (tint m))),hp++[x0,x1,x2,x3,x4,.box none (.pv none (.str negN)),.box (some 4) (.pv (some 4) (tint m).pv)]):=fun x0 x1 x2 x3 x4=>
   zqh (tint m) vm _ _ _ (by rw[getN rfl];rfl) (by rw[getN rfl];rfl)
  have kn:(tint m).n=m:=rfl
  simp only[Tm.av] at h1 h2 h4 h5
  simp only[negN] at h6
  simp -dsimp -implicitDefEqProofs only[go_sem,seval,↓reduceIte,Tm.av,h1,h2,h3,h4,h5,h6,kn,hm,za3,zls,zgx,zdC,zjT rfl,zdg hb,List.take_succ_cons,zcv,zdh,zj6,zea,zdB,zgy,zaL,zbs (sh:=some 4) (by decide),zac (Nat.le_add_right _ _),zdS,zdT,zbS,List.append_assoc,zah,zae,zai,zaf,Nat.add_assoc,List.length_append]
  exact⟨rfl,List.take_left⟩
 exact h
def lJn(L y:Tm)(es:List Tm)(z:Bool):Heap:=[.box (some 4) (.pv (some 4) L.pv),.box (some 4) (.pv (some 4) y.pv),.arr (some 4) [] false,.box none (.pv none (.str intN)),.box (some 4) (.pv (some 4) y.pv),.box none (.pv none (.str negN)),.box (some 4) (.pv (some 4) y.pv),.box none (.pv none (.str strL)),.box (some 4) (.pv (some 4) L.pv),.box (some 4) (.pv (some 4) (tl L).pv),.arr (some 4) [] false,.box (some 4) (.pv (some 4) (tl L).pv),.arr (some 4) [] false,.arr (some 4) (Tm.pvs es) z,.box (some 4) (.pv (some 4) (tl L).pv),.arr (some 4) [] false]
theorem zlw(g:Tm)(k:Nat)(L:Tm)(m:Int)(vL:L.valid=true)(hk:(tl L).kind=0)(N:Nat)(hm:m=(((els L).length+N:Nat):Int))(hm2:m<=2000)(hkk:k<100000)(hga:g.args.length=2)(hp:Heap)(r:Nat)(hr:hp[r]? =some (.box (some 5) (.pv (some 5) (runV g k))))(hb:Bq hp):
  S 104 [.ptr r 0,L.av,(tint m).av] hp=some (.ret (.tuple [.sl (some 4) (hp.length+22) 1 0 1,.pv none (.int .i64 0)]),hK hp r g (k+N)++(lJn L (tint m) (els L++frT k N) true++wJ (hp.length+16) g 0 (lstT (els L++frT k N) (tatm [91,93])))):=by
 refine zaE rfl rfl rfl rfl ?_
 have hlt:=zbr hr
 have hr':∀X,(hp++X)[r]? =some (.box (some 5) (.pv (some 5) (runV g k))):=fun X=>by rw[zbR hlt,hr]
 have h1:∀hp,S 71 [(tint m).av] hp=some (.ret (.pv none (.bool false)),hp):=fun hp=>zdU (tint m) hp
 have h2:∀hp,S 74 [(tint m).av] hp=some (.ret (.pv none (.bool true)),hp):=fun hp=>zeN (tint m) hp
 have h3:=zeO
 have h4:=fun n t hp=>zeP n t hp
 have h5:=fun n t hp=>zcS n t hp
 have h6:=fun hp=>zdj L vL hp
 have e6:(decide (zbM (tl L)) || decide ((tl L).kind=0))=true:=by rw[decide_eq_true hk,Bool.or_true]
 rw[e6] at h6
 have h7:=fun hp=>zcT L vL hp
 have h8:=fun hp=>zeJ (tl L) hp
 have e8:decide (zbM (tl L))=false:=decide_eq_false fun h=>by
  have:=h.1
  rw[hk] at this
  cases this
 rw[e8] at h8
 have kn:(tint m).n=m:=rfl
 simp only[Tm.av] at h1 h2 h4 h5 h6 h7 h8
 have hn0:¬m<0:=by omega
 have hn1:¬m<((els L).length:Int):=by omega
 have hn2:¬2000<m:=by omega
 simp -dsimp -implicitDefEqProofs only[go_sem,seval,↓reduceIte,Tm.av,eE,h1,h2,h3,h4,h5,h6,h7,h8,kn,hn0,hn1,hn2,za3,hr,hr',zls,zgx,zdC,zjT rfl,zdg hb,List.take_succ_cons,zcv,zdh,zj6,zea,zdB,zgy,zaL,zbs (sh:=some 4) (by decide),zac (Nat.le_add_right _ _),List.append_assoc,zah,zae,zai,zaf,Nat.add_assoc,List.length_append]
 obtain⟨P,hP⟩:∃P:Nat->Heap,P=hK hp r g:=⟨_,rfl⟩
 have hPs:∀j,hK hp r g j=P j:=fun j=>by rw[hP]
 have hPl:∀j,(P j).length=hp.length:=fun j=>by rw[hP,zmq]
 have hPk:P k=hp:=by rw[hP,ztS hr]
 have hPr:∀j Y,(P j++Y)[r]? =some (.box (some 5) (.pv (some 5) (runV g j))):=fun j Y=>by rw[hP];exact zsW hlt g j Y
 rw[hPs]
 have hel:=Tm.pvs_len (els L)
 have hlL:=zlp _ L rfl
 have hLs:=valid_size vL
 have hEl:∀i,(els L++frT k i).length=(els L).length+i:=fun i=>by rw[List.length_append,zlq]
 refine zdn (α:=Unit) N (fun _ _=>True) (fun i _=>⟨[(0,.ptr r 0),(5,.ptr (hp.length+1) 0),(8,.sl (some 4) (hp.length+13) ((els L).length+i) 0 ((els L).length+i))],P (k+i)++lJn L (tint m) (els L++frT k i) false⟩) () ⟨trivial,by
  have e0:frT k 0=[]:=rfl
  rw[e0,List.append_nil]
  show _=(⟨_,P k++_⟩:St)
  rw[hPk]
  rfl⟩ ?_ ?_
 ·rintro i - h -
  have hc:(((els L).length+i:Nat):Int)<m:=by omega
  have h9:=zsg g (k+i) (by omega) hp r hlt (lJn L (tint m) (els L++frT k i) false) (hp.length+16) rfl
  obtain⟨u,hu⟩:∃u,u=tvar ((k+i:Nat):Int):=⟨_,rfl⟩
  rw[<-hu,hPs,hPs] at h9
  have hua:u.args=[]:=by rw[hu];rfl
  have hbs:∀(j:Nat) (x0 x1 x2 x3 x4 x5 x6 x7 x8 x9 x10 x11 x12 x13 x14 x15 x16 x17:AObj),za0 (some 4) (P j++[x0,x1,x2,x3,x4,x5,x6,x7,x8,x9,x10,x11,x12,x13,x14,x15,x16,x17,.arr (some 4) [] false]) [nagg u (hp.length+18)]=some (.tsl (some 4) [u.pv],P j++[x0,x1,x2,x3,x4,x5,x6,x7,x8,x9,x10,x11,x12,x13,x14,x15,x16,x17,.arr (some 4) [] true]):=fun j x0 x1 x2 x3 x4 x5 x6 x7 x8 x9 x10 x11 x12 x13 x14 x15 x16 x17=>by
   have e:=zlD (u:=u) hua (q:=hp.length+18) (H:=P j++[x0,x1,x2,x3,x4,x5,x6,x7,x8,x9,x10,x11,x12,x13,x14,x15,x16,x17,.arr (some 4) [] false]) (z:=false) (by rw[getN (hPl j)];rfl)
   have e4:(nagg u (hp.length+18)).shp=some 4:=rfl
   simp only[za0,zam,e,e4,setN (hPl j),zaP]
   rfl
  have hap:∀(j:Nat) (x0 x1 x2 x3 x4 x5 x6 x7 x8 x9 x10 x11 x12:AObj) (Z:Heap),zaB (some 4) (P j++x0::x1::x2::x3::x4::x5::x6::x7::x8::x9::x10::x11::x12::.arr (some 4) (Tm.pvs (els L++frT k i)) false::Z) [.sl (some 4) (hp.length+13) ((els L).length+i) 0 ((els L).length+i),.tsl (some 4) [u.pv]]=some (.sl (some 4) (hp.length+13) ((els L).length+i+1) 0 ((els L).length+i+1),P j++x0::x1::x2::x3::x4::x5::x6::x7::x8::x9::x10::x11::x12::.arr (some 4) (Tm.pvs (els L++frT k (i+1))) false::Z):=fun j x0 x1 x2 x3 x4 x5 x6 x7 x8 x9 x10 x11 x12 Z=>by
   have hlim:(els L).length+i+1<=lim:=by unfold lim;omega
   have e:Tm.pvs (els L++frT k (i+1))=Tm.pvs (els L++frT k i)++[u.pv]:=by rw[ziE,<-List.append_assoc,Tm.zvA,hu];rfl
   have e5:(Tm.pvs (els L++frT k i)).length=(els L).length+i:=by rw[Tm.pvs_len,hEl]
   rw[e]
   simp[zaB,aappend,elems,getN (hPl j),setN (hPl j),e5,hlim]
  simp only[lJn,List.cons_append,List.nil_append] at h9
  simp -dsimp -implicitDefEqProofs only[go_sem,seval,↓reduceIte,lJn,kn,za3,hc,h9,hbs,hap,List.append_assoc,zah,zae,zai,zaf,Nat.add_assoc,List.length_append,hPl,getN (hPl _),zdm (hPl _)]
  try refine⟨(),?_⟩
  rw[zcr 16 (hPl _) rfl (by simp[AObj.refs,AV.refsIn]) (by simp[AV.refsIn];omega)]
  rfl
 ·rintro - -
  have hc:¬(((els L).length+N:Nat):Int)<m:=by omega
  have h10:∀(x0 x1 x2 x3 x4 x5 x6 x7 x8 x9 x10 x11 x12 x14 x15:AObj),S 131 [.sl (some 4) (hp.length+13) ((els L).length+N) 0 ((els L).length+N),(tatm [91,93]).av] (P (k+N)++[x0,x1,x2,x3,x4,x5,x6,x7,x8,x9,x10,x11,x12,.arr (some 4) (Tm.pvs (els L++frT k N)) false,x14,x15])=some (.ret (lstT (els L++frT k N) (tatm [91,93])).av,P (k+N)++[x0,x1,x2,x3,x4,x5,x6,x7,x8,x9,x10,x11,x12,.arr (some 4) (Tm.pvs (els L++frT k N)) true,x14,x15]):=fun x0 x1 x2 x3 x4 x5 x6 x7 x8 x9 x10 x11 x12 x14 x15=>by
   rw[zt7 (els L++frT k N) (by rw[hEl];omega) (tatm [91,93]) _ (hp.length+13) ((els L).length+N) (hEl N) (by rw[getN (hPl _)];rfl),setN (hPl _)]
   rfl
  have h11:=fun x X=>zqX g (k+N) 0 x (by omega) (by omega) (P (k+N)++X) r (hPr _ X)
  have h12:=fun n hp=>ztQ n hp
  have e0:((0:Nat):Int)=0:=rfl
  simp only[Tm.av] at h10 h12
  simp only[Tm.av,wJ,e0] at h11
  generalize hls:lstT (els L++frT k N) (tatm [91,93])=ls at h10 ⊢
  simp -dsimp -implicitDefEqProofs only[go_sem,seval,↓reduceIte,lJn,kn,za3,hc,h10,h11,h12,hPl,getN (hPl _),zdm (hPl _),List.append_assoc,zah,zae,zai,zaf,Nat.add_assoc,List.length_append]
  rw[if_neg (by simp[AV.refsIn,AV.refsIn.gol])]
  rfl
def nLen:List UInt8:=[108,101,110,103,116,104]
theorem zfG(g a0 a1:Tm)(hn:g.name=nLen)(hga:g.args=[a0,a1])(k:Nat)(hp:Heap)(r:Nat)(hr:hp[r]? =some (.box (some 5) (.pv (some 5) (runV g k))))(hb:Bq hp)(v:AV)(e:Int)(H:Heap)(hv:v.refsIn.all (fun q=>decide (q<hp.length))=false)
  (hex:S 104 [.ptr r 0,a0.av,a1.av] (hp++eJ g)=some (.ret (.tuple [v,.pv none (.int .i64 e)]),H)):
  S 50 [.ptr r 0] hp=some (.ret (.tuple [v,.pv none (.int .i64 e)]),H):=by
 refine zaE rfl rfl rfl rfl ?_
 have hlt:=zbr hr
 have hr':∀X,(hp++X)[r]? =some (.box (some 5) (.pv (some 5) (runV g k))):=fun X=>by rw[zbR hlt,hr]
 have hl:g.args.length=2:=by rw[hga];rfl
 have h1:=fun hp=>zgM (Tm.pvs g.args) (by rw[Tm.pvs_len];omega) (by rw[Tm.pvs_len];omega) hp
 have hz0:zaN [(none,.pv none (.int .i64 0)),(none,.pv none (.int .i64 0)),(none,.pv none (.str [])),(none,.tsl (some 4) [])] [] []=some zagC:=rfl
 have h2:=zmp
 have h3:=zdZ
 have ha:∀y0 y1,_:=fun y0 y1=> @zsS hp y0 y1 g.args 2 hl (by decide)
 have l0:∀Z y0 y1 z,_:=fun Z y0 y1 z=> @zse hp Z y0 y1 (g.args++[zt,zt]) z 4 0 a0 (by rw[List.length_append,hl];rfl) (by rw[hga];rfl)
 have i0:za2 (some 4) [.sl (some 4) (hp.length+2) 4 0 4,.pv none (.int .i64 0)]=some (.eptr (some 4) (hp.length+2) 4 0 0):=rfl
 have l1:∀Z y0 y1 z,_:=fun Z y0 y1 z=> @zse hp Z y0 y1 (g.args++[zt,zt]) z 4 1 a1 (by rw[List.length_append,hl];rfl) (by rw[hga];rfl)
 have i1:za2 (some 4) [.sl (some 4) (hp.length+2) 4 0 4,.pv none (.int .i64 1)]=some (.eptr (some 4) (hp.length+2) 4 1 0):=rfl
 have k1:∀Z y0 y1 y2,_:=fun Z y0 y1 y2=> @zsT hp Z y0 y1 y2 nLen rows1 rfl
 have k2:∀Z y0 y1 y2 y3,_:=fun Z y0 y1 y2 y3=> @zsU hp Z y0 y1 y2 y3 nLen rows2 rfl
 have q0:(nLen=[99,111,109,112,97,114,101])=False:=eq_false (by decide)
 have q1:(nLen=[92,61])=False:=eq_false (by decide)
 have q2:(nLen=[102,117,110,99,116,111,114])=False:=eq_false (by decide)
 have q3:(nLen=[97,114,103])=False:=eq_false (by decide)
 have q4:(nLen=[61,46,46])=False:=eq_false (by decide)
 have q5:(nLen=[99,111,112,121,95,116,101,114,109])=False:=eq_false (by decide)
 have q6:(nLen=[116,101,114,109,95,118,97,114,105,97,98,108,101,115])=False:=eq_false (by decide)
 have q7:(nLen=[108,101,110,103,116,104])=True:=eq_true (by decide)
 simp only[eJ,Tm.av] at hex
 simp -dsimp -implicitDefEqProofs only[go_sem,seval,↓reduceIte,Tm.av,hr,hr',h1,h2,h3,ha,hn,hl,hz0,l0,i0,l1,i1,k1,k2,q0,q1,q2,q3,q4,q5,q6,q7,hex,Tm.pvs_len,zkf,zkg,zsR,zls,zgx,zjT rfl,zdg hb,List.take_succ_cons,zcv,zdh,zj6,zea,zdB,ziC,ziD,zgy,zaL,zbs (sh:=some 4) (by decide),List.append_assoc,zah,zae,zai,zaf,Nat.add_assoc,List.length_append]
 have hrf:(AV.tuple [v,.pv none (.int .i64 e)]).refsIn=v.refsIn:=by simp[AV.refsIn,AV.refsIn.gol]
 rw[hrf,if_neg (by rw[hv];simp)]
theorem zqp(g a0 a1:Tm)(hn:g.name=nLen)(hga:g.args=[a0,a1])(k:Nat)(hp:Heap)(r:Nat)(hr:hp[r]? =some (.box (some 5) (.pv (some 5) (runV g k))))(hb:Bq hp)(w:PV)
  (hex:S 104 [.ptr r 0,a0.av,a1.av] (hp++eJ g)=some (.panic w,hp++eJ g)):
  S 50 [.ptr r 0] hp=some (.panic w,hp):=by
 obtain⟨v,hp',h,rfl,rfl⟩:∃v hp',S 50 [.ptr r 0] hp=some (v,hp')/\v=.panic w/\hp'=hp:=by
  refine zcH (fun v hp'=>v=.panic w/\hp'=hp) rfl rfl rfl rfl ?_
  have hlt:=zbr hr
  have hr':∀X,(hp++X)[r]? =some (.box (some 5) (.pv (some 5) (runV g k))):=fun X=>by rw[zbR hlt,hr]
  have hl:g.args.length=2:=by rw[hga];rfl
  have h1:=fun hp=>zgM (Tm.pvs g.args) (by rw[Tm.pvs_len];omega) (by rw[Tm.pvs_len];omega) hp
  have hz0:zaN [(none,.pv none (.int .i64 0)),(none,.pv none (.int .i64 0)),(none,.pv none (.str [])),(none,.tsl (some 4) [])] [] []=some zagC:=rfl
  have h2:=zmp
  have h3:=zdZ
  have ha:∀y0 y1,_:=fun y0 y1=> @zsS hp y0 y1 g.args 2 hl (by decide)
  have l0:∀Z y0 y1 z,_:=fun Z y0 y1 z=> @zse hp Z y0 y1 (g.args++[zt,zt]) z 4 0 a0 (by rw[List.length_append,hl];rfl) (by rw[hga];rfl)
  have i0:za2 (some 4) [.sl (some 4) (hp.length+2) 4 0 4,.pv none (.int .i64 0)]=some (.eptr (some 4) (hp.length+2) 4 0 0):=rfl
  have l1:∀Z y0 y1 z,_:=fun Z y0 y1 z=> @zse hp Z y0 y1 (g.args++[zt,zt]) z 4 1 a1 (by rw[List.length_append,hl];rfl) (by rw[hga];rfl)
  have i1:za2 (some 4) [.sl (some 4) (hp.length+2) 4 0 4,.pv none (.int .i64 1)]=some (.eptr (some 4) (hp.length+2) 4 1 0):=rfl
  have k1:∀Z y0 y1 y2,_:=fun Z y0 y1 y2=> @zsT hp Z y0 y1 y2 nLen rows1 rfl
  have k2:∀Z y0 y1 y2 y3,_:=fun Z y0 y1 y2 y3=> @zsU hp Z y0 y1 y2 y3 nLen rows2 rfl
  have q0:(nLen=[99,111,109,112,97,114,101])=False:=eq_false (by decide)
  have q1:(nLen=[92,61])=False:=eq_false (by decide)
  have q2:(nLen=[102,117,110,99,116,111,114])=False:=eq_false (by decide)
  have q3:(nLen=[97,114,103])=False:=eq_false (by decide)
  have q4:(nLen=[61,46,46])=False:=eq_false (by decide)
  have q5:(nLen=[99,111,112,121,95,116,101,114,109])=False:=eq_false (by decide)
  have q6:(nLen=[116,101,114,109,95,118,97,114,105,97,98,108,101,115])=False:=eq_false (by decide)
  have q7:(nLen=[108,101,110,103,116,104])=True:=eq_true (by decide)
  simp only[eJ,Tm.av] at hex
  simp -dsimp -implicitDefEqProofs only[go_sem,seval,↓reduceIte,(fun A=>rfl:∀A:Prop,panK true A=A),Tm.av,hr,hr',h1,h2,h3,ha,hn,hl,hz0,l0,i0,l1,i1,k1,k2,q0,q1,q2,q3,q4,q5,q6,q7,hex,Tm.pvs_len,zkf,zkg,zsR,zls,zgx,zjT rfl,zdg hb,List.take_succ_cons,zcv,zdh,zj6,zea,zdB,ziC,ziD,zgy,zaL,zbs (sh:=some 4) (by decide),zdS,zdT,zbS,List.append_assoc,zah,zae,zai,zaf,Nat.add_assoc,List.length_append]
  exact⟨rfl,List.take_left⟩
 exact h
theorem zgC:nLen∈zbT 2:=by decide
theorem ziG(g:Tm)(ts:List Tm)(e:Int)(hv:g.valid=true)(hc:canT g=g)(hk:g.kind=3)(hn:g.name∈zbT g.args.length)(hts:∀t∈ts,t.size<1000000)(hl:ts.length<=1000)(q:Nat)(x6:AObj)(X:Heap)(z:Bool)
  (he:S 50 [.ptr 6 0] (hE g)=some (.ret (.tuple [.sl (some 4) q ts.length 0 ts.length,.pv none (.int .i64 e)]),(hE g).take 6++x6::X))(hq:7<=q)(hX:X[q - 7]? =some (.arr (some 4) (Tm.pvs ts) z)):zdo g (zcg ts e).1 zt (zcg ts e).2:=by
 intro hp
 exact zmf g hp hv hc hk hn ts e _ x6 X he (fun H hH=>zsV (z:=z) rfl (hH q _ (by omega) (by
  obtain⟨j,rfl⟩:∃j,q=j+7:=⟨q - 7,by omega⟩
  exact hX))) (by omega) hts
theorem zqq(L y:Tm)(hnl:zbM (tl L))(hy:y.kind=0)(hv:(tstr nLen [L,y]).valid=true)(hc:canT (tstr nLen [L,y])=tstr nLen [L,y])(hans:(tstr nLen [L,tint ((els L).length:Int)]).valid=true):zdo (tstr nLen [L,y]) [tstr nLen [L,tint ((els L).length:Int)]] zt 0:=by
 obtain⟨g,hg⟩:∃g,g=tstr nLen [L,y]:=⟨_,rfl⟩
 have hga:g.args=[L,y]:=by rw[hg];rfl
 rw[<-hg] at hv hc ⊢
 have vL:L.valid=true:=za8 hv (by rw[hga];simp)
 have h1:=zlu g (vads [] g.occ).length L y vL hnl hy (by rw[hga];rfl) (hE g++eJ g) 6 rfl (zp8 g)
 have h2:=zfG g L y (by rw[hg];rfl) hga (vads [] g.occ).length (hE g) 6 rfl (zn0 g) _ _ _ rfl h1
 exact ztN g [tstr nLen [L,tint ((els L).length:Int)]] hv hc (by rw[hg];rfl) (by rw[hga];rw[hg];exact zgC) (by simp only[List.all_cons,List.all_nil,hans,Bool.and_self]) (by simp) _ _ _ false h2 (by show 7<=12+22;omega) (by rw[hg];rfl)
theorem zqr(L:Tm)(m:Int)(hk:(tl L).kind=0)(hm0:0<=m)(hm:m<((els L).length:Int))(hv:(tstr nLen [L,tint m]).valid=true)(hc:canT (tstr nLen [L,tint m])=tstr nLen [L,tint m]):zdo (tstr nLen [L,tint m]) [] zt 0:=by
 obtain⟨g,hg⟩:∃g,g=tstr nLen [L,tint m]:=⟨_,rfl⟩
 have hga:g.args=[L,tint m]:=by rw[hg];rfl
 rw[<-hg] at hv hc ⊢
 have vL:L.valid=true:=za8 hv (by rw[hga];simp)
 have h1:=zn1 g (vads [] g.occ).length L m vL hk hm0 hm (hE g++eJ g) 6 rfl (zp8 g)
 have h2:=zfG g L (tint m) (by rw[hg];rfl) hga (vads [] g.occ).length (hE g) 6 rfl (zn0 g) _ _ _ rfl h1
 exact ziG g [] 0 hv hc (by rw[hg];rfl) (by rw[hga];rw[hg];exact zgC) (by simp) (by simp) _ _ _ false h2 (by show 7<=12+16;omega) rfl
theorem zqs(L:Tm)(m:Int)(hk:(tl L).kind=0)(hm:((els L).length:Int)<=m)(hm2:2000<m)(hv:(tstr nLen [L,tint m]).valid=true)(hc:canT (tstr nLen [L,tint m])=tstr nLen [L,tint m]):zdo (tstr nLen [L,tint m]) [] zt 2:=by
 obtain⟨g,hg⟩:∃g,g=tstr nLen [L,tint m]:=⟨_,rfl⟩
 have hga:g.args=[L,tint m]:=by rw[hg];rfl
 rw[<-hg] at hv hc ⊢
 have vL:L.valid=true:=za8 hv (by rw[hga];simp)
 have h1:=zlv g (vads [] g.occ).length L m vL hk hm hm2 (hE g++eJ g) 6 rfl (zp8 g)
 have h2:=zfG g L (tint m) (by rw[hg];rfl) hga (vads [] g.occ).length (hE g) 6 rfl (zn0 g) _ _ _ rfl h1
 exact ziG g [] 2 hv hc (by rw[hg];rfl) (by rw[hga];rw[hg];exact zgC) (by simp) (by simp) _ _ _ false h2 (by show 7<=12+16;omega) rfl
theorem zqt(L:Tm)(m:Int)(k N:Nat)(hk:(tl L).kind=0)(hm:m=(((els L).length+N:Nat):Int))(hm2:m<=2000)(hv:(tstr nLen [L,tint m]).valid=true)(hc:canT (tstr nLen [L,tint m])=tstr nLen [L,tint m])(hkk:k=(vads [] (tstr nLen [L,tint m]).occ).length)(ans:Tm)(ha:ans=tstr nLen [lstT (els L++frT k N) (tatm [91,93]),tint m])(hz:ans.size<1000000):zdo (tstr nLen [L,tint m]) (zcg [ans] 0).1 zt (zcg [ans] 0).2:=by
 obtain⟨g,hg⟩:∃g,g=tstr nLen [L,tint m]:=⟨_,rfl⟩
 have hga:g.args=[L,tint m]:=by rw[hg];rfl
 rw[<-hg] at hv hc hkk ⊢
 have vL:L.valid=true:=za8 hv (by rw[hga];simp)
 have hks:k<100000:=by
  have h1:=zcI g.occ []
  have h2:=Tm.occ_len g
  have h3:=valid_size hv
  simp only[List.length_nil] at h1
  omega
 have h1:=zlw g k L m vL hk N hm hm2 hks (by rw[hga];rfl) (hE g++eJ g) 6 (by rw[hkk];rfl) (zp8 g)
 have h2:=zfG g L (tint m) (by rw[hg];rfl) hga k (hE g) 6 (by rw[hkk];rfl) (zn0 g) _ _ _ rfl h1
 exact ziG g [ans] 0 hv hc (by rw[hg];rfl) (by rw[hga];rw[hg];exact zgC) (by intro t ht;simp at ht;rw[ht];exact hz) (by simp) _ _ _ false h2 (by show 7<=12+22;omega) (by rw[ha,hg];rfl)
theorem zqu(L:Tm)(m:Int)(hm:m<0)(hv:(tstr nLen [L,tint m]).valid=true)(hc:canT (tstr nLen [L,tint m])=tstr nLen [L,tint m]):zdo (tstr nLen [L,tint m]) [] (domT negN (tint m)) 8:=by
 obtain⟨g,hg⟩:∃g,g=tstr nLen [L,tint m]:=⟨_,rfl⟩
 have hga:g.args=[L,tint m]:=by rw[hg];rfl
 rw[<-hg] at hv hc ⊢
 have vL:L.valid=true:=za8 hv (by rw[hga];simp)
 have h1:=zn2 L m vL hm (hE g++eJ g) 6 (by rw[List.length_append];show 6<7+_;omega) (zp8 g)
 have h2:=zqp g L (tint m) (by rw[hg];rfl) hga (vads [] g.occ).length (hE g) 6 rfl (zn0 g) _ h1
 intro hp
 exact zqD g hp hv hc (by rw[hg];rfl) (by rw[hga];rw[hg];exact zgC) (domT negN (tint m)) h2
theorem zj2{s:List UInt8}(hs:s.length<=100){a b:Tm}(ha:a.fits=true)(hb:b.fits=true):(tstr s [a,b]).fits=true:=by
 have hs':(s.length:Int)<=100:=by omega
 rw[Tm.zvB]
 simp[tstr,Tm.node,Tm.kind,Tm.n,Tm.name,Tm.args,Tm.fitsAll,ha,hb,hs']
theorem zlj{s:List UInt8}(hs:s.length<=100){a b:Tm}(ha:a.fits=true)(hb:b.fits=true)(hz:a.size+b.size<2000):(tstr s [a,b]).valid=true:=by
 unfold Tm.valid
 rw[zj2 hs ha hb,Tm.size_eq]
 show(decide (1+(a.size+(b.size+0))<=2000) && true)=true
 rw[Bool.and_true,decide_eq_true_eq]
 omega
theorem zqd{hp hp':Heap}(h:PresV (.tsl none []) hp hp'):∃e,hp'=hp++e:=by
 refine⟨hp'.drop hp.length,?_⟩
 have e1:hp'.take hp.length=hp:=by
  refine List.ext_getElem? fun j=> ?_
  rw[List.getElem?_take]
  by_cases hj:j<hp.length
  ·rw[if_pos hj]
   have hx:hp[j]? =some hp[j]:=List.getElem?_eq_getElem hj
   rw[hx]
   exact h.2 j _ hx fun v o n=>by simp
  ·rw[if_neg hj,List.getElem?_eq_none (by omega)]
 conv=>lhs;rw[<-List.take_append_drop hp.length hp',e1]
theorem zqe(t:Tm)(hv:t.valid=true)(hp:Heap):∃s e,S 26 [t.av] hp=some (.ret s,hp++e)/\IsV s (hp++e) (vads [] t.occ):=by
 obtain⟨s,hp',h1,h2,h3,_⟩:=zt9 t hv hp
 obtain⟨e,rfl⟩:=zqd h3
 exact⟨s,e,h1,h2⟩
theorem zqf{s:AV}{H:Heap}{l:List Int}(h:IsV s H l):sLen [s]=some (.pv none (.int .i64 l.length)):=by
 rcases h with⟨rfl,rfl⟩|⟨r,rfl,h⟩
 ·rfl
 ·exact zik _ _ _ _
theorem ztP{s:AV}{H:Heap}{l:List Int}(h:IsV s H l){i:Nat}{v:Int}(hv:l[i]? =some v):∃p,za2 none [s,.pv none (.int .i64 i)]=some p/\∀X,aload none (H++X) p=some (.pv none (.int .i64 v)):=by
 rcases h with⟨rfl,rfl⟩|⟨r,rfl,h⟩
 ·simp at hv
 ·have hi:=(List.getElem?_eq_some_iff.1 hv).1
  have hr:=zbr h
  refine⟨.eptr none r l.length (0+i) 0,zcP hi,fun X=> ?_⟩
  simp[aload,zbR hr,h,zbb,zeL hv]
theorem zbE(a b:Sh)(p q:PV)(hp:Heap):(AV.tuple [.pv a p,.pv b q]).alone hp=some (.tuple [.pv a p,.pv b q]):=rfl
theorem zs0(g a:Tm)(ha:a.valid=true)(hc:zdo g [a] zt 0)(hp:Heap):S 18 [g.av,a.av] hp=some (.ret (.pv none (.bool true)),hp):=by
 refine zal rfl rfl rfl (zab [(some 4,g.pv),(some 4,a.pv)]) rfl ?_
 have hsz:=valid_size ha
 have h1:=fun hp=>zqw zt hp (by decide)
 have h2:=fun hp=>zmA a a hp (by omega) (by omega)
 have hz0:zaN [(none,.pv none (.int .i64 0)),(none,.pv none (.int .i64 0)),(none,.pv none (.str [])),(none,.tsl (some 4) [])] [] []=some zV:=rfl
 unfold zdo at hc
 rw[zqx] at h1
 rw[zhv ha] at h2
 have hge:(Tm.pvs [a])[0]? =some a.pv:=rfl
 have hpl:(Tm.pvs [a]).length=1:=rfl
 simp only[Tm.av] at h1 h2 hc
 simp -dsimp -implicitDefEqProofs only[go_sem,seval,↓reduceIte,Tm.av,h1,h2,hc,hz0,hpl,zgo hge,zac (Nat.zero_le _)]
theorem zr9(l:List Tm)(hl:l.length<1000000000)(t:Tm)(hp:Heap):S 27 [t.av,.pv none (.sl (some 4) (Tm.pvs l))] hp=some (.ret (lstT l t).av,hp):=by
 refine zal rfl rfl rfl (zab [(some 4,t.pv),(none,.sl (some 4) (Tm.pvs l))]) rfl ?_
 have hw0:IntKind.i64.wrap ((l.length:Int) - 1)=(l.length:Int) - 1:=zaR (by omega) (by omega)
 simp -dsimp -implicitDefEqProofs only[go_sem,seval,↓reduceIte,Tm.av,hw0,Tm.pvs_len]
 refine zdY (fun n st=>n<=l.length/\st=⟨[(1,.pv none (.sl (some 4) (Tm.pvs l))),(2,.ptr 0 0),(4,.ptr 1 0),(5,.pv none (.int .i64 ((n:Int) - 1)))],[.box (some 4) (.pv (some 4) (lstT (l.drop n) t).pv),.box (some 4) (zg 2),.arr (some 4) [] false]⟩) (n:=l.length) ⟨Nat.le_refl _,by rw[List.drop_length];rfl⟩ ?_
 rintro n st ⟨hn,rfl⟩
 cases n with
 |zero=>
  have hc:¬(0:Int)<=((0:Nat):Int) - 1:=by decide
  simp -dsimp -implicitDefEqProofs only[go_sem,seval,↓reduceIte,hc,zg]
  try rfl
 |succ i=>
  obtain⟨x,hx⟩:∃x,l[i]? =some x:=⟨_,List.getElem?_eq_getElem (by omega)⟩
  have e1:((i+1:Nat):Int) - 1=i:=by omega
  have hc:(0:Int)<=(i:Int):=by omega
  have hw:IntKind.i64.wrap ((i:Int) - 1)=(i:Int) - 1:=zaR (by omega) (by omega)
  have hf:∀hp,S 19 [.pv none (.str [46]),.tsl (some 4) [x.pv,(lstT (l.drop (i+1)) t).pv]] hp=some (.ret (.pv (some 4) (lstT (l.drop i) t).pv),hp):=fun hp=>by
   rw[zj8 t hx]
   exact zvp [46] [x,lstT (l.drop (i+1)) t] hp
  rw[e1]
  simp -dsimp -implicitDefEqProofs only[go_sem,seval,↓reduceIte,hc,hw,hf,zg,zap (Tm.pvs_get hx)]
  exact⟨i,by omega,by omega,rfl⟩
theorem znV(x t:Tm):(zix x t).size=1+x.size+t.size:=by
 rw[Tm.size_eq]
 show 1+(x.size+(t.size+0))=_
 omega
theorem zlh(l:List Tm)(u:Tm):(lstT l u).size=l.length+Tm.sizes l+u.size:=by
 induction l with
 |nil=>simp[lstT,Tm.sizes]
 |cons x r ih=>
  have e:lstT (x::r) u=zix x (lstT r u):=rfl
  rw[e,znV,ih,List.length_cons]
  simp only[Tm.sizes]
  omega
theorem zp5(l:List Tm)(u:Tm)(hu:u.fits=true)(h:∀t∈l,t.fits=true):(lstT l u).fits=true:=by
 induction l with
 |nil=>exact hu
 |cons x r ih=>
  have e:lstT (x::r) u=zix x (lstT r u):=rfl
  rw[e]
  exact zj2 (by decide) (h x (by simp)) (ih fun t ht=>h t (by simp[ht]))
theorem zmd(x t:Tm):cs (zix x t):=⟨rfl,rfl,rfl⟩
theorem zme(l:List Tm)(u:Tm)(hu:¬cs u):els (lstT l u)=l:=by
 induction l with
 |nil=>exact zlo hu
 |cons x r ih=>
  have e:lstT (x::r) u=zix x (lstT r u):=rfl
  rw[e,zln (zmd _ _)]
  show x::els (lstT r u)=_
  rw[ih]
theorem zp6(l:List Tm)(u:Tm)(hu:¬cs u):tl (lstT l u)=u:=by
 induction l with
 |nil=>exact tl_n hu
 |cons x r ih=>
  have e:lstT (x::r) u=zix x (lstT r u):=rfl
  rw[e,tl_c (zmd _ _)]
  show tl (lstT r u)=_
  rw[ih]
theorem zj0(n:Int):(tint n).fits=true:=rfl
theorem zp7(k n:Nat):Tm.sizes (frT k n)=n:=by
 induction n with
 |zero=>rfl
 |succ n ih=>
  rw[ziE,Tm.zvC,ih]
  rfl
theorem zt3{t:Tm}(h:cs t):t.size=1+(arg0 t).size+(arg1 t).size:=by
 rw[Tm.size_eq,args_two h.2.2]
 show 1+((arg0 t).size+((arg1 t).size+0))=_
 omega
theorem zu0:∀(n:Nat) (t:Tm),t.size=n->(els t).length+Tm.sizes (els t)+(tl t).size=t.size:=by
 intro n
 induction n using Nat.strongRecOn with
 |_ n ih=>
  intro t hn
  by_cases h:cs t
  ·have hlt:=Tm.zvv (zbL h.2.2)
   have:=ih _ (by omega) (arg1 t) rfl
   rw[zln h,tl_c h,zt3 h,List.length_cons]
   simp only[Tm.sizes]
   omega
  ·rw[zlo h,tl_n h]
   simp[Tm.sizes]
theorem zqL(g t b:Tm)(hb:b=tstr errN [t,tatm [91,93]])(hv:b.valid=true)(hc:zdo g [] b 8)(hp:Heap):S 37 [g.av,t.av] hp=some (.ret (.pv none (.bool true)),hp):=by
 refine zal rfl rfl rfl (zab [(some 4,g.pv),(some 4,t.pv)]) rfl ?_
 have hsz:=valid_size hv
 have h1:=fun hp=>a_ok [91,93] hp
 have h2:∀hp,S 19 [.pv none (.str [101,114,114,111,114]),.pv none (.sl (some 4) [t.pv,(tatm [91,93]).pv])] hp=some (.ret b.av,hp):=fun hp=>by
  rw[hb]
  exact f_ok errN [t,tatm [91,93]] hp
 have h3:=fun hp=>zmA b b hp (by omega) (by omega)
 rw[zhv hv] at h3
 unfold zdo at hc
 have hpl:(Tm.pvs []).length=0:=rfl
 simp only[Tm.av] at h1 h2 h3 hc
 simp -dsimp -implicitDefEqProofs only[go_sem,seval,↓reduceIte,Tm.av,h1,h2,h3,hc,hpl,zac (Nat.zero_le _)]
theorem ztW(g:Tm)(hc:zdo g [] zt 0)(hp:Heap):S 31 [g.av] hp=some (.ret (.pv none (.bool true)),hp):=by
 refine zal rfl rfl rfl (zab [(some 4,g.pv)]) rfl ?_
 have h1:=fun hp=>zqw zt hp (by decide)
 have hz0:zaN [(none,.pv none (.int .i64 0)),(none,.pv none (.int .i64 0)),(none,.pv none (.str [])),(none,.tsl (some 4) [])] [] []=some zV:=rfl
 unfold zdo at hc
 rw[zqx] at h1
 have hpl:(Tm.pvs []).length=0:=rfl
 simp only[Tm.av] at h1 hc
 simp -dsimp -implicitDefEqProofs only[go_sem,seval,↓reduceIte,Tm.av,h1,hc,hz0,hpl,zac (Nat.zero_le _)]
theorem ziH:nLen.length<=100:=by decide
theorem zso(own:List Tm)(hf:∀t∈own,t.fits=true)(hz:own.length+Tm.sizes own<=950):
  ∃g L Y:Tm,(∀hp,S 14 [.pv none (.str nLen),.tsl (some 4) [(lstT own (tatm [91,93])).pv,(tvar 1099511627776).pv]] hp=some (.ret (.tuple [g.av,.pv none (.bool true)]),hp))/\PV.part deep g.pv 3 none=some (.sl (some 4) [L.pv,Y.pv])/\
   ∀hp,S 18 [g.av,(tstr nLen [L,tint (own.length:Int)]).av] hp=some (.ret (.pv none (.bool true)),hp):=by
 obtain⟨M,hM⟩:∃M,M=lstT own (tatm [91,93]):=⟨_,rfl⟩
 have nc:¬cs (tatm [91,93]):=fun h=>by cases h.1
 have hMz:M.size=own.length+Tm.sizes own+1:=by rw[hM,zlh];rfl
 have hMf:M.fits=true:=by rw[hM];exact zp5 _ _ (by decide) hf
 have hyf:(tvar 1099511627776).fits=true:=zgE (by decide)
 have hG:=fun hp=>zmr nLen [M,tvar 1099511627776] (by rw[Tm.size_eq];show 1+(M.size+(1+0))<_;omega) hp
 have hgv:(tstr nLen [M,tvar 1099511627776]).valid=true:=zlj ziH hMf hyf (by show M.size+1<2000;omega)
 obtain⟨L0,hL0⟩:∃L0,L0=vads [] (Tm.occs [M,tvar 1099511627776]):=⟨_,rfl⟩
 have hcan:canT (tstr nLen [M,tvar 1099511627776])=tstr nLen [Tm.sub (cPos L0) M,Tm.sub (cPos L0) (tvar 1099511627776)]:=by rw[hL0];exact zms _ _
 have hcr:canR (tstr nLen [M,tvar 1099511627776])=tstr nLen [Tm.sub (cPos L0) M,Tm.sub (cPos L0) (tvar 1099511627776)]:=by
  unfold canR
  rw[if_pos hgv,hcan]
 rw[hcr,hgv] at hG
 have hgv2:(tstr nLen [Tm.sub (cPos L0) M,Tm.sub (cPos L0) (tvar 1099511627776)]).valid=true:=by
  rw[<-hcan]
  exact zhs hgv
 have hgc2:canT (tstr nLen [Tm.sub (cPos L0) M,Tm.sub (cPos L0) (tvar 1099511627776)])=tstr nLen [Tm.sub (cPos L0) M,Tm.sub (cPos L0) (tvar 1099511627776)]:=by
  rw[<-hcan]
  exact zmj _
 have hyk:(Tm.sub (cPos L0) (tvar 1099511627776)).kind=0:=by rw[ziF];rfl
 have hel:els (Tm.sub (cPos L0) M)=own.map (Tm.sub (cPos L0)):=by rw[zqm L0 _ M rfl,hM,zme _ _ nc]
 have htl:tl (Tm.sub (cPos L0) M)=tatm [91,93]:=by rw[zsX L0 _ M rfl,hM,zp6 _ _ nc];rfl
 have hLz:(Tm.sub (cPos L0) M).size=M.size:=zgK M hMf
 obtain⟨L,hL⟩:∃L,L=Tm.sub (cPos L0) M:=⟨_,rfl⟩
 obtain⟨Y,hY⟩:∃Y,Y=Tm.sub (cPos L0) (tvar 1099511627776):=⟨_,rfl⟩
 rw[<-hL,<-hY] at hG hgv2 hgc2
 rw[<-hL] at hel htl hLz
 rw[<-hY] at hyk
 have vL:L.valid=true:=za8 hgv2 (by show L∈[L,Y];simp)
 have hll:(els L).length=own.length:=by rw[hel,List.length_map]
 have hans:(tstr nLen [L,tint ((els L).length:Int)]).valid=true:=zlj ziH (valid_fits vL) (zj0 _) (by show L.size+1<2000;omega)
 have hcall:=zqq L Y (by rw[htl];exact⟨rfl,rfl⟩) hyk hgv2 hgc2 hans
 rw[hll] at hcall hans
 exact⟨tstr nLen [L,Y],L,Y,fun hp=>by rw[<-hM];exact hG hp,rfl,fun hp=>zs0 _ _ hans hcall hp⟩
theorem zsp(l:List Tm):l.length<=Tm.sizes l:=Tm.zvt l
theorem zsq(own:List Tm)(hf:∀t∈own,t.fits=true)(hz:own.length+Tm.sizes own<=950)(m:Int):
  ∃(g L:Tm) (k:Nat),(∀hp,S 14 [.pv none (.str nLen),.tsl (some 4) [(lstT own (tvar 1099511627776)).pv,(tint m).pv]] hp=some (.ret (.tuple [g.av,.pv none (.bool true)]),hp))/\PV.part deep g.pv 3 none=some (.sl (some 4) [L.pv,(tint m).pv])/\L.valid=true/\g.valid=true/\(vads [] g.occ).length=k/\(els L).length=own.length/\k<=2000/\
   (m<0->∀hp,S 37 [g.av,(tstr doN [tatm negN,tint m]).av] hp=some (.ret (.pv none (.bool true)),hp))/\
   (0<=m->m<(own.length:Int)->∀hp,S 31 [g.av] hp=some (.ret (.pv none (.bool true)),hp))/\
   ((own.length:Int)<=m->2000<m->zdo g [] zt 2)/\
   ∀N:Nat,m=((own.length+N:Nat):Int)->m<=2000->∃a,a=tstr nLen [lstT (els L++frT k N) (tatm [91,93]),tint m]/\2*(own.length+N)+3<=a.size/\a.size<1000000/\zdo g (zcg [a] 0).1 zt (zcg [a] 0).2:=by
 obtain⟨M,hM⟩:∃M,M=lstT own (tvar 1099511627776):=⟨_,rfl⟩
 have nc:¬cs (tvar 1099511627776):=fun h=>by cases h.1
 have hMz:M.size=own.length+Tm.sizes own+1:=by rw[hM,zlh];rfl
 have hMf:M.fits=true:=by rw[hM];exact zp5 _ _ (zgE (by decide)) hf
 have hG:=fun hp=>zmr nLen [M,tint m] (by rw[Tm.size_eq];show 1+(M.size+(1+0))<_;omega) hp
 have hgv:(tstr nLen [M,tint m]).valid=true:=zlj ziH hMf (zj0 m) (by show M.size+1<2000;omega)
 obtain⟨L0,hL0⟩:∃L0,L0=vads [] (Tm.occs [M,tint m]):=⟨_,rfl⟩
 have hsm:Tm.sub (cPos L0) (tint m)=tint m:=rfl
 have hcan:canT (tstr nLen [M,tint m])=tstr nLen [Tm.sub (cPos L0) M,tint m]:=by rw[hL0];exact zms _ _
 have hcr:canR (tstr nLen [M,tint m])=tstr nLen [Tm.sub (cPos L0) M,tint m]:=by
  unfold canR
  rw[if_pos hgv,hcan]
 rw[hcr,hgv] at hG
 have hgv2:(tstr nLen [Tm.sub (cPos L0) M,tint m]).valid=true:=by
  rw[<-hcan]
  exact zhs hgv
 have hgc2:canT (tstr nLen [Tm.sub (cPos L0) M,tint m])=tstr nLen [Tm.sub (cPos L0) M,tint m]:=by
  rw[<-hcan]
  exact zmj _
 have htl:(tl (Tm.sub (cPos L0) M)).kind=0:=by rw[zsX L0 _ M rfl,hM,zp6 _ _ nc,ziF];rfl
 have hel:els (Tm.sub (cPos L0) M)=own.map (Tm.sub (cPos L0)):=by rw[zqm L0 _ M rfl,hM,zme _ _ nc]
 have hLz:(Tm.sub (cPos L0) M).size=M.size:=zgK M hMf
 obtain⟨L,hL⟩:∃L,L=Tm.sub (cPos L0) M:=⟨_,rfl⟩
 rw[<-hL] at hG hgv2 hgc2 hel htl hLz
 have vL:L.valid=true:=za8 hgv2 (by show L∈[L,tint m];simp)
 have hll:(els L).length=own.length:=by rw[hel,List.length_map]
 have hes:=zu0 _ L rfl
 have hks:(vads [] (tstr nLen [L,tint m]).occ).length<=2000:=by
  have h1:=zcI (tstr nLen [L,tint m]).occ []
  have h2:=Tm.occ_len (tstr nLen [L,tint m])
  have h3:=valid_size hgv2
  simp only[List.length_nil] at h1
  omega
 refine⟨tstr nLen [L,tint m],L,_,fun hp=>by rw[<-hM];exact hG hp,rfl,vL,hgv2,rfl,hll,hks,fun hm hp=> ?_,fun hm0 hm hp=> ?_,fun hm hm2=> ?_,fun N hm hm2=> ?_⟩
 ·have hcu:cul (tint m)=tint m:=by
   unfold cul
   rw[if_neg (by show ¬2000<1+4;omega)]
  have hd:domT negN (tint m)=tstr errN [tstr doN [tatm negN,tint m],tatm [91,93]]:=by
   show errT (strT doN [zba negN,cul (tint m)])=_
   rw[hcu]
   rfl
  exact zqL _ _ (domT negN (tint m)) hd (zj4 (by decide) (zuM m)).2 (zqu L m hm hgv2 hgc2) hp
 ·exact ztW _ (zqr L m htl hm0 (by rw[hll];exact hm) hgv2 hgc2) hp
 ·exact zqs L m htl (by rw[hll];exact hm) hm2 hgv2 hgc2
 ·have hsz:Tm.sizes (els L++frT (vads [] (tstr nLen [L,tint m]).occ).length N)=Tm.sizes (els L)+N:=by rw[Tm.zvC,zp7]
  have hlz:(tstr nLen [lstT (els L++frT (vads [] (tstr nLen [L,tint m]).occ).length N) (tatm [91,93]),tint m]).size=1+((own.length+N+(Tm.sizes (els L)+N)+1)+(1+0)):=by
   rw[Tm.size_eq]
   show 1+((lstT _ _).size+(1+0))=_
   rw[zlh,List.length_append,zlq,hsz,hll]
   rfl
  have hge:=zsp (els L)
  exact⟨_,rfl,by rw[hlz];omega,by rw[hlz];omega,zqt L m _ N htl (by rw[hll];exact hm) hm2 hgv2 hgc2 rfl _ rfl (by rw[hlz];omega)⟩
def kkS(t:Tm):Bool:=t.valid && decide (t.size<=20)
def fewS(l:List Tm):List Tm:=l.filter kkS
theorem zqv{l:List Tm}{i:Nat}{u:Tm}(h:l[i]? =some u):fewS (l.take (i+1))=fewS (l.take i)++(if kkS u=true then[u] else[]):=by
 unfold fewS
 rw[List.take_add_one,h,List.filter_append]
 cases hk:kkS u <;> simp[hk]
theorem zmx(l:List Tm):(fewS l).length<=l.length:=List.length_filter_le _ _
theorem zsr{l:List Tm}{k:Nat}(h:∀t∈l,t.size<=k):Tm.sizes l<=l.length*k:=by
 induction l with
 |nil=>simp[Tm.sizes]
 |cons x r ih=>
  have h1:=h x (by simp)
  have h2:=ih fun t ht=>h t (by simp[ht])
  simp only[Tm.sizes,List.length_cons,Nat.succ_mul]
  omega
theorem ztX{l:List Tm}(hl:l.length<=40):(∀t∈fewS l,t.valid=true)/\(fewS l).length<=40/\(fewS l).length+Tm.sizes (fewS l)<=950:=by
 have hk:∀t∈fewS l,t.valid=true/\t.size<=20:=fun t ht=>by
  have:=(List.mem_filter.1 ht).2
  simpa[kkS] using this
 have h1:=zmx l
 have h2:=zsr fun t ht=>(hk t ht).2
 refine⟨fun t ht=>(hk t ht).1,by omega,?_⟩
 have h3:(fewS l).length*20<=40*20:=Nat.mul_le_mul_right _ (by omega)
 omega
theorem zmy(own:List Tm)(hl:own.length<1000000000)(t:Tm)(H:Heap)(r:Nat)(z:Bool)(h:H[r]? =some (.arr (some 4) (Tm.pvs own) z)):S 27 [t.av,.sl (some 4) r own.length 0 own.length] H=some (.ret (lstT own t).av,H.set r (.arr (some 4) (Tm.pvs own) true)):=by
 refine zqk (ps:=[(some 4,t.pv),(none,.sl (some 4) (Tm.pvs own))]) rfl rfl rfl ?_ rfl (zr9 own hl t [])
 simp[zam,Tm.av,AV.freeze,deep,h,Tm.pvs_len,AV.shp]
theorem zlx(l:List Tm)(m:Int)(hm64: -9223372036854775808<=m/\m<=9223372036854775807)(hb:∀t∈l,t.size<100000000)(hl:l.length<100000000):S 8 [.pv none (.sl (some 4) (Tm.pvs l)),.pv none (.int .i64 m)] []=some (.ret (.pv none (.bool true)),[]):=by
 refine zal rfl rfl rfl (zab [(none,.sl (some 4) (Tm.pvs l)),(none,.int .i64 m)]) rfl ?_
 have haw:=zst
 have hn0:∀H:Heap,zbZ (some 4) H=some (.sl (some 4) H.length 0 0 0,H++[.arr (some 4) [] false]):=fun H=>zbs (sh:=some 4) (by decide)
 have h_n:=fun v hp=>n_ok v hp
 have h_a:=fun s hp=>a_ok s hp
 have h_x:=fun v hp=>x_ok v hp
 simp only[Tm.av] at h_n h_a h_x
 simp -dsimp -implicitDefEqProofs only[go_sem,seval,↓reduceIte,hn0,Tm.pvs_len]
 obtain⟨N,hN⟩:∃N,N=min l.length 40:=⟨_,rfl⟩
 refine zdn (α:=Unit) N (fun _ _=>True) (fun i _=>⟨[(0,.pv none (.sl (some 4) (Tm.pvs l))),(1,.pv none (.int .i64 m)),(5,.sl (some 4) 0 (fewS (l.take i)).length 0 (fewS (l.take i)).length),(6,.pv none (.int .i64 i))],[.arr (some 4) (Tm.pvs (fewS (l.take i))) false]⟩) () ⟨trivial,rfl⟩ ?_ ?_
 ·rintro i - h -
  have hc:(i:Int)<(l.length:Int):=by omega
  have hc4:(i:Int)<40:=by omega
  have w2:IntKind.i64.wrap ((i:Int)+1)=((i+1:Nat):Int):=by rw[zaR (by omega) (by omega)];omega
  obtain⟨u,hu⟩:∃u,l[i]? =some u:=⟨_,List.getElem?_eq_getElem (by omega)⟩
  have hum:=List.mem_of_getElem? hu
  have husz:=hb u hum
  have hv:=fun hp=>zb4 u hp (by omega)
  have hs:=fun hp=>zmF u hp (by omega)
  have hf:=zqv hu
  have hfl:=zmx (l.take i)
  have htl:(l.take i).length=i:=by rw[List.length_take];omega
  have hlim1:(fewS (l.take i)).length+1<=lim:=by unfold lim;omega
  simp only[Tm.av] at hv hs
  cases vu:u.valid with
  |false=>
   have hk:kkS u=false:=by simp[kkS,vu]
   rw[hk] at hf
   rw[vu] at hv
   simp only[Bool.false_eq_true,if_false,List.append_nil] at hf
   simp -dsimp -implicitDefEqProofs only[go_sem,seval,↓reduceIte,Tm.pvs_len,hc,hc4,w2,zap (Tm.pvs_get hu),hv,hf]
   exact⟨(),trivial⟩
  |true=>
   rw[vu] at hv
   have zu:=valid_size vu
   have m1:min u.size 2001=u.size:=by omega
   rw[m1] at hs
   by_cases hz:u.size<=20
   ·have hk:kkS u=true:=by simp[kkS,vu,hz]
    have hz':(u.size:Int)<=20:=by omega
    rw[hk] at hf
    simp only[if_true] at hf
    have hap1:∀(p:PV),zaB (some 4) [.arr (some 4) (Tm.pvs (fewS (l.take i))) false] [.sl (some 4) 0 (fewS (l.take i)).length 0 (fewS (l.take i)).length,.tsl (some 4) [p]]=some (.sl (some 4) 0 ((fewS (l.take i)).length+1) 0 ((fewS (l.take i)).length+1),[.arr (some 4) (Tm.pvs (fewS (l.take i))++[p]) false]):=fun p=>by
     simp[zaB,aappend,elems,Tm.pvs_len,hlim1]
    simp -dsimp -implicitDefEqProofs only[go_sem,seval,↓reduceIte,Tm.pvs_len,hc,hc4,w2,zap (Tm.pvs_get hu),hv,hs,hz',h_n,hap1]
    try refine⟨(),?_⟩
    rw[hf,Tm.zvA,List.length_append]
    rfl
   ·have hk:kkS u=false:=by simp[kkS,hz]
    have hz':¬(u.size:Int)<=20:=by omega
    rw[hk] at hf
    simp only[Bool.false_eq_true,if_false,List.append_nil] at hf
    simp -dsimp -implicitDefEqProofs only[go_sem,seval,↓reduceIte,Tm.pvs_len,hc,hc4,w2,zap (Tm.pvs_get hu),hv,hs,hz',hf]
    exact⟨(),trivial⟩
 rintro - -
 have hNl:(l.take N).length<=40:=by rw[List.length_take];omega
 obtain⟨hFv,hF40,hFz⟩:=ztX hNl
 have hcE:¬(N:Int)<(l.length:Int)\/¬(N:Int)<40:=by omega
 obtain⟨F,hFe⟩:∃F,F=fewS (l.take N):=⟨_,rfl⟩
 rw[<-hFe] at hFv hF40 hFz ⊢
 have hFf:∀t∈F,t.fits=true:=fun t ht=>valid_fits (hFv t ht)
 have hlF:F.length<1000000000:=by omega
 have hll:=fun(z:Bool) (X:Heap) (t:Tm)=>zmy F hlF t (.arr (some 4) (Tm.pvs F) z::X) 0 z rfl
 simp only[Tm.av,List.set_cons_zero] at hll
 refine zl3 (Q:=fun e st=>e=.exit 0/\st=⟨[(0,.pv none (.sl (some 4) (Tm.pvs l))),(1,.pv none (.int .i64 m)),(5,.sl (some 4) 0 F.length 0 F.length),(6,.pv none (.int .i64 N)),(31,.pv none (.bool false))],[.arr (some 4) (Tm.pvs F) false]⟩) ?_ ?_
 ·by_cases h1:(N:Int)<(l.length:Int)
  ·have h2:¬(N:Int)<40:=by omega
   simp -dsimp -implicitDefEqProofs only[go_sem,seval,↓reduceIte,Tm.pvs_len,h1,h2]
  ·simp -dsimp -implicitDefEqProofs only[go_sem,seval,↓reduceIte,Tm.pvs_len,h1]
 rintro e st ⟨rfl,rfl⟩
 obtain⟨g1,L1,Y1,hG1,hp1,hO1⟩:=zso F hFf hFz
 obtain⟨g2,L2,k,hG2,hp2,vL2,vg2,hk2,hel2,hk2000,cN,cF,cG,cM⟩:=zsq F hFf hFz m
 have i1:za2 (some 4) [.pv none (.sl (some 4) [L1.pv,Y1.pv]),.pv none (.int .i64 0)]=some (.iptr (some 4) L1.pv 0):=rfl
 have hf1:∀hp,S 19 [.pv none (.str nLen),.pv none (.sl (some 4) [L1.pv,(tint (F.length:Int)).pv])] hp=some (.ret (.pv (some 4) (tstr nLen [L1,tint (F.length:Int)]).pv),hp):=fun hp=>f_ok nLen [L1,tint (F.length:Int)] hp
 simp only[Tm.av,nLen] at hG1 hG2 hO1 hf1
 simp -dsimp -implicitDefEqProofs only[go_sem,seval,↓reduceIte,Tm.pvs_len,h_a,h_x,h_n,hll,hG1,hp1,i1,hf1,hO1,zbE,zac (Nat.zero_le _),List.append_assoc,zah,zae,zai,zaf,Nat.add_assoc,List.length_append]
 obtain⟨hp3,hhp⟩:∃hp3:Heap,hp3=[.arr (some 4) (Tm.pvs F) true,.box (some 4) (.pv (some 4) g1.pv),.arr (some 4) [] false]:=⟨_,rfl⟩
 refine zl3 (Q:=fun e st=>(e=.exit 2/\st=⟨[(1,.pv none (.int .i64 m)),(5,.sl (some 4) 0 F.length 0 F.length),(7,.ptr 1 0),(9,.pv none (.int .i64 1099511627776)),(75,.sl (some 4) 0 F.length 0 F.length),(76,.pv none (.int .i64 F.length)),(77,.pv none (.int .i64 F.length)),(78,.pv none (.bool false))],hp3⟩)\/(e=.ret/\endK (g8).results (Am.frozen (.pv none (.bool true))) .ret st)) ?_ ?_
 ·refine zdn (α:=Unit) F.length (fun _ _=>True) (fun i _=>⟨[(1,.pv none (.int .i64 m)),(5,.sl (some 4) 0 F.length 0 F.length),(7,.ptr 1 0),(9,.pv none (.int .i64 1099511627776)),(75,.sl (some 4) 0 F.length 0 F.length),(76,.pv none (.int .i64 F.length)),(77,.pv none (.int .i64 i))],hp3⟩) () ⟨trivial,by rw[hhp];rfl⟩ ?_ ?_
  ·rintro i - h -
   have hc:(i:Int)<(F.length:Int):=by omega
   have w2:IntKind.i64.wrap ((i:Int)+1)=((i+1:Nat):Int):=by rw[zaR (by omega) (by omega)];omega
   obtain⟨t,ht⟩:∃t,F[i]? =some t:=⟨_,List.getElem?_eq_getElem h⟩
   have vt:=hFv t (List.mem_of_getElem? ht)
   have hia:za2 (some 4) [.sl (some 4) 0 F.length 0 F.length,.pv none (.int .i64 i)]=some (.eptr (some 4) 0 F.length i 0):=by
    have:=zcP (sh:=some 4) (s':=none) (k:=.i64) (r:=0) (v:=F.length) (o:=0) h
    rw[Nat.zero_add] at this
    exact this
   have hld:∀X,aload (some 4) (hp3++X) (.eptr (some 4) 0 F.length i 0)=some (.pv (some 4) t.pv):=fun X=>by
    rw[hhp]
    simp[aload,Tm.pvs_len,Tm.pvs_get ht]
   have hld0:=hld []
   rw[List.append_nil] at hld0
   have hl3:hp3.length=3:=by rw[hhp];rfl
   obtain⟨s,e,hV,hI⟩:=zqe t vt (hp3++[.box (some 4) (.pv (some 4) t.pv),.arr (some 4) [] false])
   have hlen:=zqf hI
   obtain⟨E,hE⟩:∃E:Heap,E=[.box (some 4) (.pv (some 4) t.pv),.arr (some 4) [] false]++e:=⟨_,rfl⟩
   simp only[Tm.av,List.append_assoc] at hV
   simp only[List.append_assoc] at hI
   rw[<-hE] at hV hI
   simp -dsimp -implicitDefEqProofs only[go_sem,seval,↓reduceIte,hc,w2,hia,hld0,hld,hV,hlen,hl3,zac (Nat.zero_le _),List.append_assoc,zah,zae,zai,zaf,Nat.add_assoc,List.length_append,getN hl3,zdm hl3,setN hl3,zdV hl3]
   have hlv:=zcI t.occ []
   have hlo:=Tm.occ_len t
   have hvz:=valid_size vt
   simp only[List.length_nil] at hlv
   refine zdn (α:=Unit) (vads [] t.occ).length (fun _ _=>True) (fun j _=>⟨[(1,.pv none (.int .i64 m)),(5,.sl (some 4) 0 F.length 0 F.length),(7,.ptr 1 0),(9,.pv none (.int .i64 1099511627776)),(75,.sl (some 4) 0 F.length 0 F.length),(76,.pv none (.int .i64 F.length)),(77,.pv none (.int .i64 i)),(82,s),(83,.pv none (.int .i64 (vads [] t.occ).length)),(84,.pv none (.int .i64 j))],hp3++E⟩) () ⟨trivial,rfl⟩ ?_ ?_
   ·rintro j - hj -
    have hcj:(j:Int)<((vads [] t.occ).length:Int):=by omega
    have w3:IntKind.i64.wrap ((j:Int)+1)=((j+1:Nat):Int):=by rw[zaR (by omega) (by omega)];omega
    obtain⟨w,hw⟩:∃w,(vads [] t.occ)[j]? =some w:=⟨_,List.getElem?_eq_getElem hj⟩
    obtain⟨p,hpi,hpl⟩:=ztP hI hw
    have hpl0:=hpl []
    rw[List.append_nil] at hpl0
    by_cases hwv:w=1099511627776
    ·simp -dsimp -implicitDefEqProofs only[go_sem,seval,↓reduceIte,hcj,w3,hpi,hpl0,hwv,haw,zac (Nat.zero_le _),List.append_assoc,zah,zae,zai,zaf,Nat.add_assoc,List.length_append]
     exact .inr trivial
    ·simp -dsimp -implicitDefEqProofs only[go_sem,seval,↓reduceIte,hcj,w3,hpi,hpl0,hwv,haw,zac (Nat.zero_le _),List.append_assoc,zah,zae,zai,zaf,Nat.add_assoc,List.length_append]
     refine⟨(),?_⟩
     rw[zcs (by simp)]
   ·rintro - -
    have hcj:¬((vads [] t.occ).length:Int)<((vads [] t.occ).length:Int):=by omega
    simp -dsimp -implicitDefEqProofs only[go_sem,seval,↓reduceIte,hcj,w2,zac (Nat.zero_le _),List.append_assoc,zah,zae,zai,zaf,Nat.add_assoc,List.length_append]
    refine⟨(),?_⟩
    rw[hhp]
    rw[show ∀fr:Fr,fr.all (fun x=>x.2.refsIn.all (fun q=>decide (q<3)))=true->collect 3 0 fr ([.arr (some 4) (Tm.pvs F) true,.box (some 4) (.pv (some 4) g1.pv),.arr (some 4) [] false]++E)=[.arr (some 4) (Tm.pvs F) true,.box (some 4) (.pv (some 4) g1.pv),.arr (some 4) [] false] from fun fr h=>zcr (n:=3) (b:=0) 3 (base:=[]) rfl rfl (by simp[AObj.refs,AV.refsIn]) h]
    simp[AV.refsIn]
  ·rintro - -
   have hc:¬(F.length:Int)<(F.length:Int):=by omega
   simp -dsimp -implicitDefEqProofs only[go_sem,seval,↓reduceIte,hc]
   exact .inl trivial
 rintro e st (⟨rfl,rfl⟩|⟨rfl,h⟩)
 rotate_left
 ·simp -dsimp -implicitDefEqProofs only[go_sem,seval,↓reduceIte]
  exact h
 rw[hhp]
 clear hG1 hO1 hf1
 by_cases c1:m<0
 ·have hR:=cN c1
  have hfd:∀hp,S 19 [.pv none (.str doN),.pv none (.sl (some 4) [(tatm negN).pv,(tint m).pv])] hp=some (.ret (.pv (some 4) (tstr doN [tatm negN,tint m]).pv),hp):=fun hp=>f_ok doN [tatm negN,tint m] hp
  simp only[Tm.av,doN,negN] at hR hfd
  simp -dsimp -implicitDefEqProofs only[go_sem,seval,↓reduceIte,Tm.pvs_len,h_a,h_x,h_n,hll,hG2,hp2,c1,hR,hfd,haw,zbE,zac (Nat.zero_le _),List.append_assoc,zah,zae,zai,zaf,Nat.add_assoc,List.length_append]
  done
 by_cases c2:m<(F.length:Int)
 ·have hR:=cF (by omega) c2
  simp only[Tm.av] at hR
  simp -dsimp -implicitDefEqProofs only[go_sem,seval,↓reduceIte,Tm.pvs_len,h_a,h_x,h_n,hll,hG2,hp2,c1,c2,hR,haw,zbE,zac (Nat.zero_le _),List.append_assoc,zah,zae,zai,zaf,Nat.add_assoc,List.length_append]
  done
 by_cases c3:500<m
 ·by_cases c4:2000<m
  ·have hC:=cG (by omega) c4
   unfold zdo at hC
   have hpl:(Tm.pvs []).length=0:=rfl
   simp only[Tm.av] at hC
   simp -dsimp -implicitDefEqProofs only[go_sem,seval,↓reduceIte,Tm.pvs_len,h_a,h_x,h_n,hll,hG2,hp2,c1,c2,c3,hC,hpl,haw,zbE,zac (Nat.zero_le _),List.append_assoc,zah,zae,zai,zaf,Nat.add_assoc,List.length_append]
   done
  ·obtain⟨a,ha,haz,haz2,hC⟩:=cM (m.toNat - F.length) (by omega) (by omega)
   unfold zdo at hC
   simp only[Tm.av] at hC
   by_cases va:a.valid=true
   ·have hcr:zcg [a] 0=([a],0):=by simp[zcg,va]
    have hpl:(Tm.pvs [a]).length=1:=rfl
    have zva:=valid_size va
    have hm1:m<=1000:=by omega
    rw[hcr] at hC
    simp -dsimp -implicitDefEqProofs only[go_sem,seval,↓reduceIte,Tm.pvs_len,h_a,h_x,h_n,hll,hG2,hp2,c1,c2,c3,hC,hpl,hm1,haw,zbE,zac (Nat.zero_le _),List.append_assoc,zah,zae,zai,zaf,Nat.add_assoc,List.length_append]
    done
   ·have hcr:zcg [a] 0=([],2):=by simp[zcg,va]
    have hpl:(Tm.pvs []).length=0:=rfl
    rw[hcr] at hC
    simp -dsimp -implicitDefEqProofs only[go_sem,seval,↓reduceIte,Tm.pvs_len,h_a,h_x,h_n,hll,hG2,hp2,c1,c2,c3,hC,hpl,haw,zbE,zac (Nat.zero_le _),List.append_assoc,zah,zae,zai,zaf,Nat.add_assoc,List.length_append]
    done
 obtain⟨N,hN⟩:∃N:Nat,m=((F.length+N:Nat):Int):=⟨m.toNat - F.length,by omega⟩
 obtain⟨a,ha,haz,haz2,hC⟩:=cM N hN (by omega)
 have hE:=zqj L2 vL2 [.arr (some 4) (Tm.pvs F) true,.box (some 4) (.pv (some 4) g2.pv),.arr (some 4) [] false]
 have i2:za2 (some 4) [.pv none (.sl (some 4) [L2.pv,(tint m).pv]),.pv none (.int .i64 0)]=some (.iptr (some 4) L2.pv 0):=rfl
 obtain⟨B,hB⟩:∃B:List Tm->Bool->Heap,B=fun es z=>[.arr (some 4) (Tm.pvs F) true,.box (some 4) (.pv (some 4) g2.pv),.arr (some 4) [] false,.box (some 4) (.pv (some 4) (tl L2).pv),.arr (some 4) [] false,.box (some 4) (.pv (some 4) (tl L2).pv),.arr (some 4) [] false,.arr (some 4) (Tm.pvs es) z,.box (some 4) (.pv (some 4) (tl L2).pv),.arr (some 4) [] false]:=⟨_,rfl⟩
 obtain⟨s,e,hV,hI⟩:=zqe g2 vg2 (B (els L2) false)
 have hlen:=zqf hI
 rw[hk2] at hlen
 unfold eE at hE
 rw[hB] at hV
 simp only[Tm.av,List.cons_append,List.nil_append] at hE hV
 simp -dsimp -implicitDefEqProofs only[go_sem,seval,↓reduceIte,Tm.pvs_len,h_a,h_x,h_n,hll,hG2,hp2,c1,c2,c3,i2,hE,hV,hlen,haw,zbE,zac (Nat.zero_le _),List.append_assoc,zah,zae,zai,zaf,Nat.add_assoc,List.length_append]
 have hEl:∀i,(els L2++frT k i).length=F.length+i:=fun i=>by rw[List.length_append,zlq,hel2]
 refine zdn (α:=Unit) N (fun _ _=>True) (fun i _=>⟨[(1,.pv none (.int .i64 m)),(7,.ptr 1 0),(17,.sl (some 4) 7 (F.length+i) 0 (F.length+i)),(19,.pv none (.int .i64 ((k+i:Nat):Int)))],B (els L2++frT k i) false++e⟩) () ⟨trivial,by
  have e0:frT k 0=[]:=rfl
  rw[e0,List.append_nil,hB,<-hel2]
  rfl⟩ ?_ ?_
 ·rintro i - h -
  have hc:((F.length+i:Nat):Int)<m:=by omega
  have w2:IntKind.i64.wrap (((k+i:Nat):Int)+1)=((k+(i+1):Nat):Int):=by rw[zaR (by omega) (by omega)];omega
  have hap:zaB (some 4) (B (els L2++frT k i) false++e) [.sl (some 4) 7 (F.length+i) 0 (F.length+i),.tsl (some 4) [(tvar ((k+i:Nat):Int)).pv]]=some (.sl (some 4) 7 (F.length+(i+1)) 0 (F.length+(i+1)),B (els L2++frT k (i+1)) false++e):=by
   have hlim:F.length+i+1<=lim:=by unfold lim;omega
   have e1:Tm.pvs (els L2++frT k (i+1))=Tm.pvs (els L2++frT k i)++[(tvar ((k+i:Nat):Int)).pv]:=by rw[ziE,<-List.append_assoc,Tm.zvA];rfl
   have e5:(Tm.pvs (els L2++frT k i)).length=F.length+i:=by rw[Tm.pvs_len,hEl]
   rw[hB]
   simp only[e1]
   simp[zaB,aappend,elems,e5,hlim]
   omega
  simp -dsimp -implicitDefEqProofs only[go_sem,seval,↓reduceIte,hc,w2,h_x,hap,List.append_assoc,zah,zae,zai,zaf,Nat.add_assoc,List.length_append]
  refine⟨(),?_⟩
  rw[zcs (by rw[hB];simp)]
 rintro - -
 have hc:¬((F.length+N:Nat):Int)<m:=by omega
 obtain⟨R,hR⟩:∃R,R=els L2++frT k N:=⟨_,rfl⟩
 have hRl:R.length=F.length+N:=by rw[hR];exact hEl N
 have hl2:=zmy R (by omega) (tatm [91,93]) (B R false++e) 7 false (by rw[hB];rfl)
 have hset:(B R false++e).set 7 (.arr (some 4) (Tm.pvs R) true)=B R true++e:=by rw[hB];rfl
 have hB1:∀z X,(B R z++X)[1]? =some (.box (some 4) (.pv (some 4) g2.pv)):=fun z X=>by rw[hB];rfl
 rw[hset,hRl] at hl2
 rw[<-hR] at ha ⊢
 have hfa:∀hp,S 19 [.pv none (.str nLen),.tsl (some 4) [(lstT R (tatm [91,93])).pv,(tint m).pv]] hp=some (.ret (.pv (some 4) a.pv),hp):=fun hp=>by
  rw[ha]
  exact zqk (ps:=[(none,.str nLen),(none,.sl (some 4) [(lstT R (tatm [91,93])).pv,(tint m).pv])]) rfl rfl rfl rfl rfl (f_ok nLen [lstT R (tatm [91,93]),tint m] [])
 have hva:=fun hp=>zb4 a hp (by omega)
 simp only[Tm.av,nLen] at hl2 hfa hva
 obtain⟨H,hH⟩:∃H,H=B R true++e:=⟨_,rfl⟩
 have hH1:∀X,(H++X)[1]? =some (.box (some 4) (.pv (some 4) g2.pv)):=fun X=>by rw[hH,List.append_assoc];exact hB1 _ _
 rw[<-hH] at hl2
 by_cases va:a.valid=true
 ·have hcr:zcg [a] 0=([a],0):=by simp[zcg,va]
  rw[hcr] at hC
  rw[va] at hva
  have hO:=fun hp=>zs0 g2 a va hC hp
  simp only[Tm.av] at hO
  simp -dsimp -implicitDefEqProofs only[go_sem,seval,↓reduceIte,hc,h_a,h_n,hl2,hfa,hva,hO,hH1,haw,zac (Nat.zero_le _),List.append_assoc,zah,zae,zai,zaf,Nat.add_assoc,List.length_append]
  done
 ·have hcr:zcg [a] 0=([],2):=by simp[zcg,va]
  have hpl:(Tm.pvs []).length=0:=rfl
  have va':a.valid=false:=by simpa using va
  rw[hcr] at hC
  rw[va'] at hva
  unfold zdo at hC
  simp only[Tm.av] at hC
  simp -dsimp -implicitDefEqProofs only[go_sem,seval,↓reduceIte,hc,h_a,h_n,hl2,hfa,hva,hC,hH1,hpl,haw,zbE,zac (Nat.zero_le _),List.append_assoc,zah,zae,zai,zaf,Nat.add_assoc,List.length_append]
  done
end Go.Proofs.YtiifblpdlphchaaGreatRR
namespace Go.Proofs.YtiifblpdlphchaaGreatRR
open Go.Am Go.ChangeShapes Go.WideShapes Go.ChangeAt Go.RowKit
theorem zj3(H:Type):BulkLaws (H:=H) Rows.uptoBulk Rows.uptoBulkAll where
 nil:=by simp[Rows.uptoBulkAll]
 cons d r:=by simp[Rows.uptoBulkAll]
 slice e s:=by simp[Rows.uptoBulk]
 agg l:=by simp[Rows.uptoBulk]
 string l:=by simp[Rows.uptoBulk]
theorem znX{H:Type}{l:List (DataW H)}(hk:Rows.uptoSmall H l=true):Rows.uptoBulkAll l<=1048576:=of_decide_eq_true hk
def zmn(P:Program)(tA tT:TypeId):Bool:=
 (match P.underlying tA with|some (.slice t)=>t == tT|_=>false) &&
 (match P.underlying tT with
  |some (.struct fs)=>match fs.toList.map (·.type) with
   |[a,b,c,d]=>d == tA && (match P.underlying a with|some (.int .i64)=>true|_=>false) && (match P.underlying b with|some (.int .i64)=>true|_=>false) && (match P.underlying c with|some .string=>true|_=>false) && decide (shOf P a=none) && decide (shOf P b=none) && decide (shOf P c=none)
   |_=>false
  |_=>false) && decide (shOf P tT=some 4) && decide (shOf P tA=none)
theorem zlk{P:Program}{tA tT:TypeId}(h:zmn P tA tT=true):TermTy P tA tT:=by
 unfold zmn at h
 simp only[Bool.and_eq_true,decide_eq_true_eq] at h
 obtain⟨⟨⟨h1,h2⟩,h3⟩,h4⟩:=h
 refine⟨?_,?_⟩
 ·split at h1
  ·rename_i t ht;rw[ht];simp at h1;rw[h1]
  ·cases h1
 ·split at h2
  ·rename_i fs hfs
   split at h2
   ·rename_i a b c d hl
    simp only[Bool.and_eq_true,decide_eq_true_eq,beq_iff_eq] at h2
    obtain⟨⟨⟨⟨⟨⟨k1,k2⟩,k3⟩,k4⟩,k5⟩,k6⟩,k7⟩:=h2
    subst k1
    refine⟨fs,a,b,c,hfs,hl,?_,?_,?_,h3,h4,k5,k6,k7⟩
    ·split at k2
     ·assumption
     ·cases k2
    ·split at k3
     ·assumption
     ·cases k3
    ·split at k4
     ·assumption
     ·cases k4
   ·cases h2
  ·cases h2
theorem zuI:TermTy Tryz.prog 24 26:=zlk (by kernel_rfl)
def zll:List TypeId:=[2,3,4,5,9,24,26]
theorem closed:zma Tryz.prog zll=true:=by kernel_rfl
set_option maxRecDepth 100000 in
theorem znY{H:Type}{enc:TypeId × Value->H}{W:World}{base:Nat}{v:Value}{d:DataW H}{ps:List MemPlace}(h:DataW.Trod enc Tryz.prog W 0 (fun _=>true) true 24 v d ps)(hv:Value.okWide Tryz.prog W .any base 24 v):
  ∃l:List Tm,AR W (noX (P:=Tryz.prog)) noμ [] (.pv none (.sl (some 4) (Tm.pvs l))) v/\Tm.sizes l<=Rows.uptoBulk d/\Tm.rngs l:=by
 obtain⟨fuel,h0⟩:=h
 obtain⟨p,hp⟩:=zjW closed fuel _ _ _ _ (by simp[zll]) h0
 obtain⟨t,rfl,h1,h2⟩:=(zjY zuI (zj3 H) fuel).2 d p hp
 have:=zsM ⟨fuel,h0⟩ (by kernel_rfl) hp (zhq hv)
 rw[show shOf Tryz.prog 24=none from by kernel_rfl] at this
 exact⟨t,this,h1,h2⟩
end Go.Proofs.YtiifblpdlphchaaGreatRR
namespace Go.Proofs.YtiifblpdlphchaaGreatRR
open Go.Am Go.ChangeShapes Go.WideShapes Go.ChangeAt Go.RowKit
theorem znZ(H:Type):BulkLaws2 (H:=H) Rows.uptoBulk Rows.uptoBulkAll:=
 ⟨zj3 H,fun d=>by
  cases d with
  |lit l=>cases l <;> simp[Rows.uptoBulk]
  |_=>simp[Rows.uptoBulk]⟩
set_option maxRecDepth 100000 in
theorem zsb{H:Type}{enc:TypeId × Value->H}{W:World}{base:Nat}{v:Value}{d:DataW H}{ps:List MemPlace}{t:TypeId}(ht:t∈zll)(hok:okT Tryz.prog t=true)(h:DataW.Trod enc Tryz.prog W 0 (fun _=>true) true t v d ps)(hv:Value.okWide Tryz.prog W .any base t v):
  ∃n p,AR W (noX (P:=Tryz.prog)) noμ [] (.pv (shOf Tryz.prog t) p) v/\wt Tryz.prog n t p/\p.sz<=Rows.uptoBulk d:=by
 obtain⟨fuel,h0⟩:=h
 obtain⟨p,hp⟩:=zjW closed fuel _ _ _ _ ht h0
 obtain⟨h1,h2⟩:=zp4 (znZ H) fuel _ _ _ hp
 exact⟨fuel,p,zsM ⟨fuel,h0⟩ hok hp (zhq hv),h1,h2⟩
end Go.Proofs.YtiifblpdlphchaaGreatRR
namespace Go.Proofs.YtiifblpdlphchaaGreatRR
open Go.Am Go.ChangeShapes Go.WideShapes Go.ChangeAt Go.RowKit
set_option maxRecDepth 100000 in
theorem zsc{H:Type}{enc:TypeId × Value->H}{W:World}{base:Nat}{v:Value}{d:DataW H}{ps:List MemPlace}(h:DataW.Trod enc Tryz.prog W 0 (fun _=>true) true 2 v d ps)(hv:Value.okWide Tryz.prog W .any base 2 v):
  ∃x:Int,AR W (noX (P:=Tryz.prog)) noμ [] (.pv none (.int .i64 x)) v/\zjX x:=by
 obtain⟨n,p,h1,h2,h3⟩:=zsb (by decide) (by kernel_rfl) h hv
 obtain⟨x,rfl,hx⟩:=zuB (by kernel_rfl) h2
 rw[show shOf Tryz.prog 2=none from by kernel_rfl] at h1
 exact⟨x,h1,hx⟩
end Go.Proofs.YtiifblpdlphchaaGreatRR
