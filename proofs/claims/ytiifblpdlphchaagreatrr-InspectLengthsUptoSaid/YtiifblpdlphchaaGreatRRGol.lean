/- What is proved: inspect.Call, given what its execute returns. -/
import Derived.Test.YtiifblpdlphchaaGreatRRDfr
import Derived.Test.YtiifblpdlphchaaGreatRRAm5
import Derived.Test.YtiifblpdlphchaaGreatRRSml
set_option linter.unusedSimpArgs false
set_option linter.unusedVariables false
namespace Go.Proofs.YtiifblpdlphchaaGreatRR
open Go.Am
structure IsT(v:AV)(hp:Heap)(l:List Tm):Prop where
 len:sLen [v]=some (.pv none (.int .i64 l.length))
 idx:∀(i:Nat) (u:Tm),l[i]? =some u->∃p,(∀(s:Sh) (k:IntKind),za2 (some 4) [v,.pv s (.int k i)]=some p)/\aload (some 4) hp p=some (.pv (some 4) u.pv)
def zcg(ts:List Tm)(e:Int):List Tm × Int:=if e≠0 then([],e) else if 1000<ts.length then([],2) else if ts.all Tm.valid=true then(ts,0) else([],2)
def runV(g:Tm)(k:Nat):PV:=.agg [(some 4,g.pv),(none,.int .i64 (k:Int))]
def hE(g:Tm):Heap:=[.box (some 4) (.pv (some 4) g.pv),.box none (.sl (some 4) 2 0 0 0),.arr (some 4) [] false,.box (some 4) (cagg 0 4),.arr (some 4) [] false,.box none (.pv none (.int .i64 0)),.box (some 5) (.pv (some 5) (runV g (vads [] g.occ).length))]
theorem zgq(t:Tm)(hp:Heap):S 47 [t.av] hp=some (.ret (.pv none (.bool (decide (t.kind=3)))),hp):=by
 refine zal rfl rfl rfl (zab [(some 4,t.pv)]) rfl ?_
 simp -dsimp -implicitDefEqProofs only[go_sem,seval,↓reduceIte,Tm.av,zaq]
theorem zgr(a0:AObj)(s:AV)(r:Heap):zaD none 0 (a0::.box none s::r) [.ptr 1 0,.tsl (some 4) []]=some (.undef,a0::.box none (.sl (some 4) (r.length+2) 0 0 0)::(r++[.arr (some 4) [] false])):=by
 simp[zaD,astore,AV.shp,AV.plain,AV.own,zcQ]
theorem ze9(a0:AObj)(s:AV)(r:Heap):zb5 none 0 (a0::.box none s::r) [.ptr 1 0,.tsl (some 4) [],.ptr 5 0]=some (.undef,a0::.box none (.sl (some 4) (r.length+2) 0 0 0)::(r++[.arr (some 4) [] false])):=by
 simp[zb5,astore,AV.shp,AV.plain,AV.own,zcQ,zfN]
def zagC:AV:=.agg [(none,.pv none (.int .i64 0)),(none,.pv none (.int .i64 0)),(none,.pv none (.str [])),(none,.tsl (some 4) [])]
theorem zd8(a0 a1 a2:AObj)(s:AV)(r:Heap):zaD (some 4) 0 (a0::a1::a2::.box (some 4) s::r) [.ptr 3 0,zagC]=some (.undef,a0::a1::a2::.box (some 4) (cagg 0 (r.length+4))::(r++[.arr (some 4) [] false])):=by
 simp[zaD,astore,AV.shp,AV.plain,AV.own,zcQ,zagC,cagg,zao,zdc,total,Sh.size]
theorem zdR(a0 a1 a2:AObj)(s:AV)(r:Heap):zb5 (some 4) 0 (a0::a1::a2::.box (some 4) s::r) [.ptr 3 0,zagC,.ptr 5 0]=some (.undef,a0::a1::a2::.box (some 4) (cagg 0 (r.length+4))::(r++[.arr (some 4) [] false])):=by
 simp[zb5,astore,AV.shp,AV.plain,AV.own,zcQ,zagC,cagg,zao,zdc,total,Sh.size,zfN]
theorem zr4(H:Heap):sem (find tab) prim .dfr 48 [.pv none .niliface,.ptr 1 0,.ptr 3 0,.ptr 5 0] H=some (.ret (.tuple []),H):=by
 refine zmo (t:=6) rfl rfl rfl rfl ?_
 have hin:zff true [.pv none .niliface]=some (.pv none (.bool false)):=rfl
 simp -dsimp -implicitDefEqProofs only[go_sem,seval,↓reduceIte,hin,zfx,List.append_assoc,zah,zae,zai,zaf,Nat.add_assoc,List.length_append]
 simp
theorem ziy{fr:Fr}{hp0 H:Heap}{es:List PV}{n q1 q2:Nat}{b1 b2:Bool}{e:Int}(hf:fr.look 33=some (.func (.func 48) [] [.ptr 1 0,.ptr 3 0,.ptr 5 0]))(h1:H[1]? =some (.box none (.sl (some 4) q1 n 0 n)))(h3:H[3]? =some (.box (some 4) (cagg 0 q2)))(h5:H[5]? =some (.box none (.pv none (.int .i64 e))))(he:H[q1]? =some (.arr (some 4) es b1))(hn:es.length=n)(hz:H[q2]? =some (.arr (some 4) [] b2))(hq:q1≠q2):
  outD (find tab) prim [(2,some none),(3,some (some 4)),(4,some none)] 33 (.tuple [.pv none (.sl (some 4) es),.pv (some 4) zt.pv,.pv none (.int .i64 e)]) ⟨fr,hp0⟩ .niliface ⟨[(2,.ptr 1 0),(3,.ptr 3 0),(4,.ptr 5 0)],H⟩:=by
 refine⟨_,[],_,hf,.tuple [],H,.tuple [.sl (some 4) q1 n 0 n,cagg 0 q2,.pv none (.int .i64 e)],zr4 H,?_,?_⟩
 ·simp[zas,zaQ,zcc,Fr.look,h1,h3,h5,cagg,aload,zil,AV.shp,total,Sh.size]
 ·have hz':(H.set q1 (.arr (some 4) es true))[q2]? =some (.arr (some 4) [] b2):=by rw[List.getElem?_set_ne hq];exact hz
  have e1:AV.freeze deep (.sl (some 4) q1 n 0 n) H=some (.sl (some 4) es,H.set q1 (.arr (some 4) es true)):=by
   simp[AV.freeze,deep,he,hn]
  have e2:AV.freeze deep (cagg 0 q2) (H.set q1 (.arr (some 4) es true))=some (zt.pv,(H.set q1 (.arr (some 4) es true)).set q2 (.arr (some 4) [] true)):=by
   have e:∀l hp,AV.freeze (7+1) (.agg l) hp=match AV.freeze.go 7 l hp with|some (ps,hp')=>some (.agg ps,hp')|none=>none:=fun _ _=>rfl
   show AV.freeze (7+1) (.agg _) _=_
   simp[e,AV.freeze.go,AV.freeze,hz']
   rfl
  have e3:∀X,AV.freeze deep (.pv none (.int .i64 e)) X=some (.int .i64 e,X):=fun _=>rfl
  refine⟨(H.set q1 (.arr (some 4) es true)).set q2 (.arr (some 4) [] true),?_⟩
  have e4:(cagg 0 q2).shp=some 4:=rfl
  simp[AV.freezeRes,zam,e1,e2,e3,pvs,e4,AV.shp]
  exact rfl
theorem zgs{Γ:Oracle}{b:Nat}{vs:List AV}{hp:Heap}{K:AV->Heap->Prop}{Kp:PV->Heap->Prop}(sh:Sh):opK (aOp Γ b (.storex sh) vs hp) K Kp=zb9 (zcJ sh b hp vs) K:=by
 show opK (match zcJ sh b hp vs with|some (v,hp')=>some (OpRes.val v hp')|none=>none) K Kp=_
 cases zcJ sh b hp vs with
 |none=>rfl
 |some r=>cases r;rfl
def kC(a0 x6:AObj)(ext:Heap)(j:Nat)(es:List PV):Heap:=a0::.box none (.sl (some 4) 2 j 0 j)::.arr (some 4) es false::.box (some 4) (cagg 0 4)::.arr (some 4) [] false::.box none (.pv none (.int .i64 0))::x6::ext
theorem zuD{a0 x6:AObj}{ext:Heap}{j:Nat}{es:List PV}(h:es.length=j)(hj:j<1000000)(p:PV)(X:Heap):zaB (some 4) (kC a0 x6 ext j es++X) [.sl (some 4) 2 j 0 j,.tsl (some 4) [p]]=some (.sl (some 4) 2 (j+1) 0 (j+1),kC a0 x6 ext j (es++[p])++X):=by
 have hlim:j+1<=lim:=by unfold lim;omega
 simp[zaB,aappend,elems,kC,h,hlim]
theorem zvn{a0 x6:AObj}{ext:Heap}{j:Nat}{es:List PV}(h:es.length=j)(p q:PV)(X:Heap):zaD (some 4) 0 (kC a0 x6 ext j (es++[p])++X) [.eptr (some 4) 2 (j+1) (0+j) 0,.pv (some 4) q]=some (.undef,kC a0 x6 ext j (es++[q])++X):=by
 have e:AV.freeze deep (.pv (some 4) q) (kC a0 x6 ext j (es++[p])++X)=some (q,kC a0 x6 ext j (es++[p])++X):=rfl
 simp only[zaD,astore,AV.shp,e]
 simp[kC,h]
theorem zuE{a0 x6:AObj}{ext:Heap}{j:Nat}{es:List PV}(q:PV)(s:Sh)(r v i o:Nat)(X:Heap):zcJ none 0 (kC a0 x6 ext j es++X) [.ptr 1 0,.sl (some 4) 2 (j+1) 0 (j+1),.eptr s r v i o,.pv (some 4) q]=some (.undef,kC a0 x6 ext (j+1) es++X):=by
 simp[zcJ,astore,AV.shp,AV.plain,AV.own,kC]
theorem zuF{a0 x6:AObj}{ext X:Heap}(hp:ext <+: X){j:Nat}{es:List PV}(fr:Fr)(Y:Heap):∃Z,ext <+: Z/\collect (ext.length+7) 0 fr (kC a0 x6 X j es++Y)=kC a0 x6 Z j es:=by
 have e:kC a0 x6 X j es++Y=kC a0 x6 (X++Y) j es:=rfl
 rw[e]
 unfold collect
 split
 ·refine⟨ext,List.prefix_refl _,?_⟩
  obtain⟨Y2,rfl⟩:=hp
  rw[List.append_assoc]
  simp only[kC,List.take_succ_cons,List.take_left]
 ·exact⟨X++Y,hp.trans (List.prefix_append _ _),rfl⟩
theorem zmf(g:Tm)(hp:Heap)(hv:g.valid=true)(hc:canT g=g)(hk:g.kind=3)(hn:g.name∈zbT g.args.length)(ts:List Tm)(e:Int)(lv:AV)(x6:AObj)(ext:Heap)
  (he:S 50 [.ptr 6 0] (hE g)=some (.ret (.tuple [lv,.pv none (.int .i64 e)]),(hE g).take 6++x6::ext))(hL:∀H:Heap,(∀j x,6<=j->((hE g).take 6++x6::ext)[j]? =some x->H[j]? =some x)->IsT lv H ts)(hlt:ts.length<100000000)(hts:∀t∈ts,t.size<1000000):
  S 20 [g.av] hp=some (.ret (.tuple [.pv none (.sl (some 4) (Tm.pvs (zcg ts e).1)),zt.av,.pv none (.int .i64 (zcg ts e).2)]),hp):=by
 refine zfw rfl rfl rfl (zab [(some 4,g.pv)]) rfl rfl ?_
 have hsz:=valid_size hv
 have h1:=fun hp=>zbY g hp (by omega)
 have h2:=fun hp=>zmg g hp (by omega)
 have h3:=fun hp=>zmE g g hp (by omega) (by omega)
 have h4:=fun hp=>zgq g hp
 have h5:=fun hp=>zsY g.name g.args.length hp
 have h6:=fun hp=>zmG g hv hp
 have hcr:canR g=g:=by unfold canR;rw[if_pos hv,hc]
 have hsm:same g g=true:=by simp[same,hv,Tm.cmp_zero]
 rw[hcr] at h2
 rw[hsm] at h3
 rw[hv] at h1
 have hn':decide (g.name∈zbT g.args.length)=true:=decide_eq_true hn
 rw[hn'] at h5
 have hk':decide (g.kind=3)=true:=decide_eq_true hk
 rw[hk'] at h4
 have hal:∀a0:AObj,zcl none (.tsl (some 4) []) [a0] []=some (.ptr 1 0,[a0,.box none (.sl (some 4) 2 0 0 0),.arr (some 4) [] false]):=fun _=>rfl
 have hnx:(ints (vads [] g.occ)).length=(vads [] g.occ).length:=zbb _
 simp only[Tm.av] at h1 h2 h3 h4 h5 h6
 have hbu:∀k:Nat,zaN [(some 4,.agg [(none,.pv none (.int .i64 0)),(none,.pv none (.int .i64 0)),(none,.pv none (.str [])),(none,.tsl (some 4) [])]),(none,.pv none (.int .i64 0))] [0,1] [.pv (some 4) g.pv,.pv none (.int .i64 (k:Int))]=some (.pv (some 5) (runV g k)):=fun _=>rfl
 simp only[hE,cagg,List.take_succ_cons,List.take_zero,List.cons_append,List.nil_append] at he
 have hz0:zaN [(none,.pv none (.int .i64 0)),(none,.pv none (.int .i64 0)),(none,.pv none (.str [])),(none,.tsl (some 4) [])] [] []=some zagC:=rfl
 by_cases h0:e=0
 rotate_left
 ·have hr:zcg ts e=([],e):=by simp[zcg,h0]
  rw[hr]
  simp -dsimp -implicitDefEqProofs only[go_sem,seval,↓reduceIte,Tm.av,hal,hbu,hz0,h0,h1,h2,h3,h4,h5,h6,hnx,he,zgr,ze9,zd8,zdR,zar,zag,Tm.pvs_len,zac (Nat.zero_le _),zaz,zch,zbm,zcG,zbD,List.append_assoc,zah,zae,zai,zaf,Nat.add_assoc,List.length_append]
  exact⟨rfl,ziy (es:=[]) (b1:=false) (b2:=false) rfl rfl rfl rfl (by simp) rfl (by simp) (by omega)⟩
 subst h0
 have hlen:=(hL ((hE g).take 6++x6::ext) fun _ _ _ h=>h).len
 by_cases hg:(1000:Int)<(ts.length:Int)
 ·have hr:zcg ts 0=([],2):=by
   have:1000<ts.length:=by omega
   simp[zcg,this]
  rw[hr]
  simp -dsimp -implicitDefEqProofs only[go_sem,seval,↓reduceIte,Tm.av,hal,hbu,hz0,hg,hlen,h1,h2,h3,h4,h5,h6,hnx,he,zgr,ze9,zd8,zdR,zar,zag,Tm.pvs_len,zac (Nat.zero_le _),zaz,zch,zbm,zcG,zbD,List.append_assoc,zah,zae,zai,zaf,Nat.add_assoc,List.length_append]
  exact⟨rfl,ziy (es:=[]) (b1:=false) (b2:=false) rfl rfl rfl rfl (by simp) rfl (by simp) (by omega)⟩
 have hg':¬1000<ts.length:=by omega
 have hr:zcg ts 0=if ts.all Tm.valid=true then(ts,0) else([],2):=by simp[zcg,hg']
 simp -dsimp -implicitDefEqProofs only[go_sem,seval,↓reduceIte,Tm.av,hal,hbu,hz0,hg,hlen,h1,h2,h3,h4,h5,h6,hnx,he,zgr,ze9,zd8,zdR,zar,zag,Tm.pvs_len,zac (Nat.zero_le _),zaz,zch,zbm,zcG,zbD,List.append_assoc,zah,zae,zai,zaf,Nat.add_assoc,List.length_append]
 refine⟨rfl,?_⟩
 refine zdn (α:=Heap) ts.length (fun i X=>ext <+: X/\∀t∈ts.take i,t.valid=true) (fun i X=>⟨[(2,.ptr 1 0),(3,.ptr 3 0),(4,.ptr 5 0),(53,lv),(54,.pv none (.int .i64 ts.length)),(55,.pv none (.int .i64 i))],kC (.box (some 4) (.pv (some 4) g.pv)) x6 X i (Tm.pvs (ts.take i))⟩) ext ⟨⟨List.prefix_refl _,?_⟩,?_⟩ ?_ ?_
 ·intro t ht
  simp at ht
 ·rfl
 ·rintro i X0 h ⟨hpre,hinv⟩
  obtain⟨K,hK⟩:∃K:Nat->List PV->Heap,K=kC (.box (some 4) (.pv (some 4) g.pv)) x6 X0:=⟨_,rfl⟩
  obtain⟨n,hn2⟩:∃n,n=X0.length+7:=⟨_,rfl⟩
  have hKl:∀j es,(K j es).length=n:=fun j es=>by rw[hK,hn2];rfl
  have hK1:∀j es X,(K j es++X)[1]? =some (.box none (.sl (some 4) 2 j 0 j)):=fun j es X=>by rw[hK];rfl
  have hKK:kC (.box (some 4) (.pv (some 4) g.pv)) x6 X0 i (Tm.pvs (ts.take i))=K i (Tm.pvs (ts.take i)):=by rw[hK]
  rw[hKK]
  have hc:(i:Int)<(ts.length:Int):=by omega
  obtain⟨u,hu⟩:∃u,ts[i]? =some u:=⟨_,List.getElem?_eq_getElem h⟩
  have w2:IntKind.i64.wrap ((i:Int)+1)=((i+1:Nat):Int):=by rw[zaR (by omega) (by omega)];omega
  have husz:=hts u (List.mem_of_getElem? hu)
  have h7:=fun hp=>zbY u hp (by omega)
  simp only[Tm.av] at h7
  have hl:(Tm.pvs (ts.take i)).length=i:=by rw[Tm.pvs_len,List.length_take];omega
  obtain⟨p,hp1,hp2⟩:=(hL (K i (Tm.pvs (ts.take i))) fun j x hj hx=>by
   rw[hK]
   match j,hj with
   |6,_=>exact hx
   |j+7,_=>
    obtain⟨Y,hY⟩:=hpre
    have h1:ext[j]? =some x:=hx
    show X0[j]? =some x
    rw[<-hY,List.getElem?_append_left (zbr h1),h1]).idx i u hu
  have happ:=fun p X=>zuD (a0:=.box (some 4) (.pv (some 4) g.pv)) (x6:=x6) (ext:=X0) hl (by omega) p X
  have hste:=fun p q X=>zvn (a0:=.box (some 4) (.pv (some 4) g.pv)) (x6:=x6) (ext:=X0) hl p q X
  have hstx:=fun(j:Nat) (es:List PV) (q:PV) s r v i o X=>zuE (a0:=.box (some 4) (.pv (some 4) g.pv)) (x6:=x6) (ext:=X0) (j:=j) (es:=es) q s r v i o X
  rw[<-hK] at happ hste hstx
  have hwk:zaG [.agg [(none,.pv none (.int .i64 0)),(none,.pv none (.int .i64 0)),(none,.pv none (.str [])),(none,.tsl (some 4) [])]]=some [(some 4,zt.pv)]:=rfl
  have hia:za2 (some 4) [.sl (some 4) 2 (i+1) 0 (i+1),.pv none (.int .i64 i)]=some (.eptr (some 4) 2 (i+1) (0+i) 0):=zcP (by omega)
  rw[Nat.zero_add] at hia
  simp only[Nat.zero_add] at hste
  have htk:Tm.pvs (ts.take i)++[u.pv]=Tm.pvs (ts.take (i+1)):=Tm.zvx hu
  by_cases hvu:u.valid=true
  ·have h8:=fun hp=>zeG u hp hvu (by omega)
   simp only[Tm.av] at h8
   simp -dsimp -implicitDefEqProofs only[go_sem,seval,↓reduceIte,zgs,Tm.av,hc,h7,h8,hvu,w2,hp1,hp2,hwk,htk,hia,hK1,happ,hste,hstx,hKl,zgr,ze9,zd8,zdR,zar,zag,Tm.pvs_len,zac (Nat.zero_le _),zaz,zch,zbm,zcG,zbD,List.append_assoc,zah,zae,zai,zaf,Nat.add_assoc,List.length_append,getN (hKl _ _),zdm (hKl _ _),setN (hKl _ _),zdV (hKl _ _)]
   have hc2:∀fr Y,∃Z,ext <+: Z/\collect (ext.length+7) 0 fr (K (i+1) (Tm.pvs (ts.take (i+1)))++Y)=kC (.box (some 4) (.pv (some 4) g.pv)) x6 Z (i+1) (Tm.pvs (ts.take (i+1))):=fun fr Y=>by
    rw[hK]
    exact zuF hpre fr Y
   obtain⟨Z,hZ1,hZ⟩:=hc2 [(2,.ptr 1 0),(3,.ptr 3 0),(4,.ptr 5 0),(53,lv),(54,.pv none (.int .i64 ts.length)),(55,.pv none (.int .i64 (i+1:Nat)))] [.box (some 4) (.pv (some 4) u.pv),.arr (some 4) [] false]
   refine⟨Z,⟨hZ1,fun t ht=> ?_⟩,?_⟩
   ·rw[List.take_add_one,hu,List.mem_append] at ht
    rcases ht with ht|ht
    ·exact hinv t ht
    ·simp at ht
     rw[ht]
     exact hvu
   ·rw[hZ]
  ·have hvu':u.valid=false:=by simpa using hvu
   have hall:ts.all Tm.valid=false:=by
    rw[List.all_eq_false]
    exact⟨u,List.mem_of_getElem? hu,hvu⟩
   rw[hr,hall]
   simp -dsimp -implicitDefEqProofs only[go_sem,seval,↓reduceIte,zgs,Tm.av,hc,h7,hvu',hz0,hp1,hp2,hK1,hKl,zgr,ze9,zd8,zdR,zar,zag,Tm.pvs_len,zac (Nat.zero_le _),zaz,zch,zbm,zcG,zbD,List.append_assoc,zah,zae,zai,zaf,Nat.add_assoc,List.length_append,getN (hKl _ _),zdm (hKl _ _),setN (hKl _ _),zdV (hKl _ _)]
   simp -dsimp -implicitDefEqProofs only[hK,kC,go_sem,seval,↓reduceIte,zgr,zd8,zch,zbm,zcG,zbD,List.append_assoc,zah,zae,zai,zaf,Nat.add_assoc,List.length_append]
   exact ziy (es:=[]) (b1:=false) (b2:=false) rfl rfl rfl rfl (by simp) rfl (by simp) (by omega)
 ·rintro X0 ⟨hpre,hinv⟩
  have hc:¬(ts.length:Int)<(ts.length:Int):=by omega
  rw[List.take_length] at hinv ⊢
  have hall:ts.all Tm.valid=true:=List.all_eq_true.2 hinv
  rw[hr,if_pos hall]
  simp -dsimp -implicitDefEqProofs only[go_sem,seval,↓reduceIte,zgs,Tm.av,hc,hz0,kC,zgr,ze9,zd8,zdR,zar,zag,Tm.pvs_len,zac (Nat.zero_le _),zaO (Nat.zero_le _),zaz,zch,zbm,zcG,zbD,List.append_assoc,zah,zae,zai,zaf,Nat.add_assoc,List.length_append]
  exact ziy (b1:=false) (b2:=false) rfl rfl rfl rfl (by simp) (Tm.pvs_len _) (by simp) (by omega)
theorem zsC{Γ:Oracle}{b:Nat}{vs:List AV}{hp:Heap}{K:AV->Heap->Prop}{Kp:PV->Heap->Prop}(neg:Bool):opK (aOp Γ b (.slnil neg) vs hp) K Kp=valK (zfM neg vs) fun v=>K v hp:=by
 show opK (match(match zfM neg vs with|some v=>some (v,hp)|none=>none) with|some (v,hp')=>some (OpRes.val v hp')|none=>none) K Kp=_
 cases zfM neg vs <;> rfl
theorem zqU(g:Tm)(k:Nat):PV.part deep (runV g k) 0 (some 4)=some g.pv:=by cases g;rfl
theorem zkf(g:Tm)(k:Nat):PV.part deep (runV g k) 3 none=some (.sl (some 4) (Tm.pvs g.args)):=by cases g;rfl
theorem zkg(g:Tm)(k:Nat):PV.part deep (runV g k) 2 none=some (.str g.name):=by cases g;rfl
theorem zqV(g:Tm)(k:Nat):PV.part deep (runV g k) 4 none=some (.int .i64 (k:Int)):=by cases g;rfl
theorem zsD(g:Tm)(s:Sh)(q v o n:Nat):AV.upd deep (.pv (some 4) g.pv) 3 none (.sl s q v o n)=some (.agg [(none,.pv none (.int .i64 g.kind)),(none,.pv none (.int .i64 g.n)),(none,.pv none (.str g.name)),(none,.sl s q v o n)]):=by cases g;rfl
theorem zdU(t:Tm)(hp:Heap):S 71 [t.av] hp=some (.ret (.pv none (.bool (decide (t.kind=0)))),hp):=by
 refine zal rfl rfl rfl (zab [(some 4,t.pv)]) rfl ?_
 simp -dsimp -implicitDefEqProofs only[go_sem,seval,↓reduceIte,Tm.av,zaq]
theorem zeN(t:Tm)(hp:Heap):S 74 [t.av] hp=some (.ret (.pv none (.bool (decide (t.kind=1)))),hp):=by
 refine zal rfl rfl rfl (zab [(some 4,t.pv)]) rfl ?_
 simp -dsimp -implicitDefEqProofs only[go_sem,seval,↓reduceIte,Tm.av,zaq]
theorem zqW(t:Tm)(hp:Heap):S 73 [t.av] hp=some (.ret (.pv none (.bool (decide (t.kind=2)))),hp):=by
 refine zal rfl rfl rfl (zab [(some 4,t.pv)]) rfl ?_
 simp -dsimp -implicitDefEqProofs only[go_sem,seval,↓reduceIte,Tm.av,zaq]
theorem zeO(v:AV)(hp:Heap):S 122 [.pv none (.bool false),v] hp=some (.ret (.tuple []),hp):=by
 refine zaE rfl rfl rfl rfl ?_
 simp -dsimp -implicitDefEqProofs only[go_sem,seval,↓reduceIte,List.append_assoc,zah,zae,zai,zaf,Nat.add_assoc,List.length_append]
 exact List.take_length
theorem zeP(s:List UInt8)(t:Tm)(hp:Heap):S 123 [.pv none (.str s),t.av] hp=some (.ret (.func (.func 139) [] [.ptr hp.length 0,.ptr (hp.length+1) 0]),hp++[.box none (.pv none (.str s)),.box (some 4) (.pv (some 4) t.pv)]):=by
 refine zaE rfl rfl rfl rfl ?_
 simp -dsimp -implicitDefEqProofs only[go_sem,seval,↓reduceIte,Tm.av,List.append_assoc,zah,zae,zai,zaf,Nat.add_assoc,List.length_append]
 rw[if_neg (by simp[AV.refsIn,AV.refsIn.gol])]
theorem zgM(es:List PV)(hne:0<es.length)(hl:es.length<=10)(hp:Heap):S 95 [.pv none (.sl (some 4) es)] hp=some (.ret (.sl (some 4) (hp.length+1) es.length 0 es.length),hp++[.arr (some 4) [] false,.arr (some 4) es false]):=by
 refine zaE rfl rfl rfl rfl ?_
 have hlim:es.length<=lim:=by unfold lim;omega
 have happ:∀H:Heap,zaB (some 4) H [.tsl (some 4) [],.pv none (.sl (some 4) es)]=some (.sl (some 4) H.length es.length 0 es.length,H++[.arr (some 4) es false]):=fun H=>by
  have hne':¬es=[]:=fun e=>by rw[e] at hne;simp at hne
  simp[zaB,aappend,elems,hlim,zcQ,hne']
 have hni:zfM false [.pv none (.sl (some 4) es)]=some (.pv none (.bool false)):=by
  cases es with
  |nil=>simp at hne
  |cons x r=>rfl
 simp -dsimp -implicitDefEqProofs only[go_sem,seval,↓reduceIte,zsC,hni,hlim,happ,zbs (sh:=some 4) (by decide),List.append_assoc,zah,zae,zai,zaf,Nat.add_assoc,List.length_append]
 rw[if_neg (by simp[AV.refsIn])]
def setA(g:Tm)(i:Nat)(u:Tm):Tm:=.mk g.kind g.n g.name (g.args.set i u)
theorem zub(l:List Tm)(i:Nat)(u:Tm):(Tm.pvs l).set i u.pv=Tm.pvs (l.set i u):=by
 simp[Tm.zvH,List.map_set]
def wJ(n:Nat)(g:Tm)(i:Nat)(u:Tm):Heap:=[.box (some 4) (.pv (some 4) u.pv),.arr (some 4) [] false,.box (some 4) (.agg [(none,.pv none (.int .i64 g.kind)),(none,.pv none (.int .i64 g.n)),(none,.pv none (.str g.name)),(none,.sl (some 4) (n+5) g.args.length 0 g.args.length)]),.arr (some 4) [] false,.arr (some 4) [] false,.arr (some 4) (Tm.pvs (g.args.set i u)) true,.arr (some 4) [(setA g i u).pv] false]
theorem zqX(g:Tm)(k:Nat)(i:Nat)(u:Tm)(hi:i<g.args.length)(hl:g.args.length<=8)(hp:Heap)(r:Nat)(hr:hp[r]? =some (.box (some 5) (.pv (some 5) (runV g k)))):
  S 101 [.ptr r 0,.pv none (.int .i64 i),u.av] hp=some (.ret (.sl (some 4) (hp.length+6) 1 0 1),hp++wJ hp.length g i u):=by
 refine zaE rfl rfl rfl rfl ?_
 have h1:=fun hp=>zgM (Tm.pvs g.args) (by rw[Tm.pvs_len];omega) (by rw[Tm.pvs_len];omega) hp
 have hlt:=zbr hr
 have hia:∀q,za2 (some 4) [.sl (some 4) q g.args.length 0 g.args.length,.pv none (.int .i64 i)]=some (.eptr (some 4) q g.args.length i 0):=fun q=>by
  have:=zcP (sh:=some 4) (s':=none) (k:=.i64) (r:=q) (v:=g.args.length) (o:=0) hi
  rw[Nat.zero_add] at this
  exact this
 have hil:i<(Tm.pvs g.args).length:=by rw[Tm.pvs_len];exact hi
 have hst:∀(x0 x1 x2 x3 x4:AObj),zaD (some 4) hp.length (hp++[x0,x1,x2,x3,x4,.arr (some 4) (Tm.pvs g.args) false]) [.eptr (some 4) (hp.length+5) g.args.length i 0,.pv (some 4) u.pv]=some (.undef,hp++[x0,x1,x2,x3,x4,.arr (some 4) ((Tm.pvs g.args).set i u.pv) false]):=fun x0 x1 x2 x3 x4=>by
  have e:∀H,AV.freeze deep (.pv (some 4) u.pv) H=some (u.pv,H):=fun _=>rfl
  simp[zaD,astore,AV.shp,e,getN rfl,setN rfl,Tm.pvs_len,hi,hil]
 have hbs:∀(x0 x1 x2 x3 x4:AObj),ziO (some 4) (hp++[x0,x1,x2,x3,x4,.arr (some 4) ((Tm.pvs g.args).set i u.pv) false]) [.agg [(none,.pv none (.int .i64 g.kind)),(none,.pv none (.int .i64 g.n)),(none,.pv none (.str g.name)),(none,.sl (some 4) (hp.length+5) g.args.length 0 g.args.length)]]=some (.sl (some 4) (hp.length+6) 1 0 1,hp++[x0,x1,x2,x3,x4,.arr (some 4) (Tm.pvs (g.args.set i u)) true,.arr (some 4) [(setA g i u).pv] false]):=fun x0 x1 x2 x3 x4=>by
  have e:∀l hp,AV.freeze (7+1) (.agg l) hp=match AV.freeze.go 7 l hp with|some (ps,hp')=>some (.agg ps,hp')|none=>none:=fun _ _=>rfl
  have e2:AV.freeze deep (.agg [(none,.pv none (.int .i64 g.kind)),(none,.pv none (.int .i64 g.n)),(none,.pv none (.str g.name)),(none,.sl (some 4) (hp.length+5) g.args.length 0 g.args.length)]) (hp++[x0,x1,x2,x3,x4,.arr (some 4) (Tm.pvs (g.args.set i u)) false])=some ((setA g i u).pv,hp++[x0,x1,x2,x3,x4,.arr (some 4) (Tm.pvs (g.args.set i u)) true]):=by
   show AV.freeze (7+1) (.agg _) _=_
   simp[e,AV.freeze.go,AV.freeze,getN rfl,setN rfl,Tm.pvs_len]
   rfl
  rw[zub]
  simp only[ziO,zam,e2]
  simp[AV.shp,total,Sh.size,zaP]
 have hr':∀X,(hp++X)[r]? =some (.box (some 5) (.pv (some 5) (runV g k))):=fun X=>by rw[zbR hlt,hr]
 simp -dsimp -implicitDefEqProofs only[go_sem,seval,↓reduceIte,Tm.av,h1,hr,hr',hia,hst,hbs,zqU,zsD,zag,Tm.pvs_len,zaO (Nat.le_add_right _ _),zaL,zbs (sh:=some 4) (by decide),zac (Nat.le_add_right _ _),zaz,List.append_assoc,zah,zae,zai,zaf,Nat.add_assoc,List.length_append]
 rw[if_neg (by simp[AV.refsIn])]
 rfl
def nagg(u:Tm)(q:Nat):AV:=.agg [(none,.pv none (.int .i64 u.kind)),(none,.pv none (.int .i64 u.n)),(none,.pv none (.str u.name)),(none,.sl (some 4) q 0 0 0)]
theorem zlD{u:Tm}(ha:u.args=[]){q:Nat}{H:Heap}{z:Bool}(h:H[q]? =some (.arr (some 4) [] z)):AV.freeze deep (nagg u q) H=some (u.pv,H.set q (.arr (some 4) [] true)):=by
 have e:∀l hp,AV.freeze (7+1) (.agg l) hp=match AV.freeze.go 7 l hp with|some (ps,hp')=>some (.agg ps,hp')|none=>none:=fun _ _=>rfl
 show AV.freeze (7+1) (.agg _) _=_
 simp[e,AV.freeze.go,AV.freeze,h]
 cases u with
 |mk a b c d=>
  have hd:d=[]:=ha
  subst hd
  rfl
def qd(t:Tm):Prop:=t.kind=3/\t.name=[94]/\t.args.length=2
instance (t:Tm):Decidable (qd t):=inferInstanceAs (Decidable (_/\_))
def arg0(t:Tm):Tm:=match t.args with
 |x::_=>x
 |_=>.mk 0 0 [] []
def arg1(t:Tm):Tm:=match t.args with
 |_::y::_=>y
 |_=>.mk 0 0 [] []
theorem args_two{t:Tm}(h:t.args.length=2):t.args=[arg0 t,arg1 t]:=by
 unfold arg0 arg1
 match e:t.args,h with
 |[x,y],_=>rfl
theorem ziv{t:Tm}(h:t.args.length=2):t.args[0]? =some (arg0 t):=by rw[args_two h];rfl
theorem ziw{t:Tm}(h:t.args.length=2):t.args[1]? =some (arg1 t):=by rw[args_two h];rfl
theorem zmc{t:Tm}(h:t.args.length=2):arg0 t∈t.args:=List.mem_of_getElem? (ziv h)
theorem zbL{t:Tm}(h:t.args.length=2):arg1 t∈t.args:=List.mem_of_getElem? (ziw h)
def quants(t:Tm):List Tm:=if h:qd t then arg0 t::quants (arg1 t) else[]
termination_by t.size
decreasing_by exact Tm.zvv (zbL h.2.2)
def hid(p g:Tm):List Int:=p.occ++Tm.occs (quants g)
def free(p g:Tm):List Int:=(vads [] g.occ).filter fun v=>decide (v ∉ hid p g)
def nilT:Tm:=.mk 2 0 [91,93] []
def zix(x y:Tm):Tm:=.mk 3 0 [46] [x,y]
theorem ia0{es:List PV}{p:PV}(h:es[0]? =some p):za2 (some 4) [.pv none (.sl (some 4) es),.pv none (.int .i64 0)]=some (.iptr (some 4) p 0):=zgo h
theorem ia1{es:List PV}{p:PV}(h:es[1]? =some p):za2 (some 4) [.pv none (.sl (some 4) es),.pv none (.int .i64 1)]=some (.iptr (some 4) p 0):=by
 simp[za2,aindex,h]
def zg(q:Nat):AV:=.agg [(none,.pv none (.int .i64 0)),(none,.pv none (.int .i64 0)),(none,.pv none (.str [])),(none,.sl (some 4) q 0 0 0)]
def lstT(l:List Tm)(t:Tm):Tm:=l.foldr zix t
def zj7(x t:Tm):AV:=.agg [(none,.pv none (.int .i64 3)),(none,.pv none (.int .i64 0)),(none,.pv none (.str [46])),(none,.tsl (some 4) [x.pv,t.pv])]
def TA(a:AV)(t:Tm):Prop:=a=.pv (some 4) t.pv\/∃x u,a=zj7 x u/\t=zix x u
theorem TA.frz{a:AV}{t:Tm}(h:TA a t)(H:Heap):AV.freeze deep a H=some (t.pv,H):=by
 rcases h with rfl|⟨x,u,rfl,rfl⟩ <;> rfl
theorem TA.shp{a:AV}{t:Tm}(h:TA a t):a.shp=some 4:=by
 rcases h with rfl|⟨x,u,rfl,rfl⟩ <;> rfl
theorem TA.plain{a:AV}{t:Tm}(h:TA a t):a.plain=true:=by
 rcases h with rfl|⟨x,u,rfl,rfl⟩ <;> rfl
def kL(l:List Tm)(a:AV):Heap:=[.box (some 4) a,.box (some 4) (zg 2),.arr (some 4) [] false,.box none (.pv none (.sl (some 4) (Tm.pvs l))),.loop 131 [9,10] [(3,.ptr 0 0)] false]
theorem zmz(l:List Tm)(a:AV)(t x:Tm)(i:Int)(h:TA a t)(ext:Heap):sem (find tab) prim .rnd 131 [.yield 4,.pv none (.int .i64 i),x.av] (kL l a++ext)=some (.ret (.pv none (.bool true)),kL l (zj7 x t)++ext):=by
 refine zp3 (ps:=[9,10]) (env:=[(3,.ptr 0 0)]) rfl rfl rfl rfl ?_
 have hbs:∀H:Heap,za0 (some 4) H [.pv (some 4) x.pv,a]=some (.tsl (some 4) [x.pv,t.pv],H):=fun H=>by
  rcases h with rfl|⟨x',u,rfl,rfl⟩ <;> rfl
 have hbu:zaN [(none,.pv none (.int .i64 0)),(none,.pv none (.int .i64 0)),(none,.pv none (.str [])),(none,.tsl (some 4) [])] [0,2,3] [.pv none (.int .i64 3),.pv none (.str [46]),.tsl (some 4) [x.pv,t.pv]]=some (zj7 x t):=rfl
 have hst:∀(b:Nat) (s:AV) (r:Heap),zaD (some 4) (b+5) (.box (some 4) s::r) [.ptr 0 0,zj7 x t]=some (.undef,.box (some 4) (zj7 x t)::r):=fun b s r=>by
  simp[zaD,astore,zj7,AV.plain,AV.shp,AV.refsIn,AV.refsIn.go,total,Sh.size]
 simp -dsimp -implicitDefEqProofs only[go_sem,seval,↓reduceIte,kL,zg,zee,Tm.av,hbs,hbu,hst,List.append_assoc,zah,zae,zai,zaf,Nat.add_assoc,List.length_append]
 exact⟨⟨_,rfl⟩,by simp⟩
theorem zj8{l:List Tm}{i:Nat}{x:Tm}(t:Tm)(h:l[i]? =some x):lstT (l.drop i) t=zix x (lstT (l.drop (i+1)) t):=by
 have hlt:=(List.getElem?_eq_some_iff.1 h).1
 rw[List.drop_eq_getElem_cons hlt]
 have:l[i]=x:=(List.getElem?_eq_some_iff.1 h).2
 rw[this]
 rfl
theorem zvo(l:List Tm)(hl:l.length<1000000000)(t:Tm)(a:AV)(h:TA a t):∃a',S 150 [.yield 4,.ptr 3 0] (kL l a)=some (.ret (.tuple []),kL l a')/\TA a' (lstT l t):=by
 obtain⟨v,hp',h1,a',h2,h3,h4⟩:=zcH (F:=find tab) (prim:=prim) (f:=150) (args:=[.yield 4,.ptr 3 0]) (hp:=kL l a) (fun v hp'=>∃a',v=.ret (.tuple [])/\hp'=kL l a'/\TA a' (lstT l t)) rfl rfl rfl rfl (by
  have hw0:IntKind.i64.wrap ((l.length:Int) - 1)=(l.length:Int) - 1:=zaR (by omega) (by omega)
  have hKl:∀a,(kL l a).length=5:=fun a=>rfl
  have hK3:∀a X,(kL l a++X)[3]? =some (.box none (.pv none (.sl (some 4) (Tm.pvs l)))):=fun a X=>rfl
  have hK3':∀a,(kL l a)[3]? =some (.box none (.pv none (.sl (some 4) (Tm.pvs l)))):=fun a=>rfl
  have hK4:∀a X,(kL l a++X)[4]? =some (.loop 131 [9,10] [(3,.ptr 0 0)] false):=fun a X=>rfl
  have hK4':∀a,(kL l a)[4]? =some (.loop 131 [9,10] [(3,.ptr 0 0)] false):=fun a=>rfl
  simp -dsimp -implicitDefEqProofs only[go_sem,seval,↓reduceIte,hK3',hK3,hw0,Tm.pvs_len]
  refine zdY (fun n st=>∃(a1:AV),n<=l.length/\TA a1 (lstT (l.drop n) t)/\st=⟨[(0,.yield 4),(1,.ptr 3 0),(3,.pv none (.int .i64 ((n:Int) - 1)))],kL l a1⟩) (n:=l.length) ⟨a,Nat.le_refl _,by rw[List.drop_length];exact h,rfl⟩ ?_
  rintro n st ⟨a1,hn,h1,rfl⟩
  cases n with
  |zero=>
   have hc:¬(0:Int)<=((0:Nat):Int) - 1:=by decide
   simp -dsimp -implicitDefEqProofs only[go_sem,seval,↓reduceIte,hc,zbS,zdT]
   exact⟨a1,List.take_of_length_le (Nat.le_refl _),h1⟩
  |succ i=>
   obtain⟨x,hx⟩:∃x,l[i]? =some x:=⟨_,List.getElem?_eq_getElem (by omega)⟩
   have e1:((i+1:Nat):Int) - 1=i:=by omega
   have hc:(0:Int)<=(i:Int):=by omega
   have hw:IntKind.i64.wrap ((i:Int) - 1)=(i:Int) - 1:=zaR (by omega) (by omega)
   have hcall:=fun j ext=>zmz l a1 _ x j h1 ext
   have hcall0:=fun j=>zmz l a1 _ x j h1 []
   simp only[List.append_nil] at hcall0
   rw[e1]
   simp only[Tm.av] at hcall hcall0
   simp -dsimp -implicitDefEqProofs only[go_sem,seval,↓reduceIte,hc,hK3,hK3',hK4,hK4',hKl,hcall,hcall0,zap (Tm.pvs_get hx),hw,zbS,zdT,zdS]
   refine⟨i,by omega,zj7 x (lstT (l.drop (i+1)) t),by omega,.inr ⟨x,_,rfl,zj8 t hx⟩,?_⟩
   rw[zcs (hKl _)])
 rw[h2,h3] at h1
 exact⟨a',h1,h4⟩
theorem zss(l:List Tm)(hl:l.length<1000000000)(t:Tm)(hp:Heap):S 131 [.pv none (.sl (some 4) (Tm.pvs l)),t.av] hp=some (.ret (lstT l t).av,hp):=by
 refine zgV rfl rfl rfl (zab [(none,.sl (some 4) (Tm.pvs l)),(some 4,t.pv)]) rfl rfl ?_
 have hbw:∀H:Heap,S 143 [.pv none (.sl (some 4) (Tm.pvs l))] H=some (.ret (.func (.func 150) [] [.ptr H.length 0]),H++[.box none (.pv none (.sl (some 4) (Tm.pvs l)))]):=fun H=>by
  refine zaE rfl rfl rfl rfl ?_
  simp -dsimp -implicitDefEqProofs only[go_sem,seval,↓reduceIte,List.append_assoc,zah,zae,zai,zaf,Nat.add_assoc,List.length_append]
  simp[AV.refsIn,AV.refsIn.gol]
 simp -dsimp -implicitDefEqProofs only[go_sem,seval,↓reduceIte,Tm.av,hbw]
 obtain⟨a',h1,h2⟩:=zvo l hl t (.pv (some 4) t.pv) (.inl rfl)
 refine⟨_,znU rfl rfl (by rw[ztk (by rfl)];exact h1) rfl,?_⟩
 have hst:∀(x0:AObj) (s:AV) (r:Heap),zaD (some 4) 0 (x0::.box (some 4) s::r) [.ptr 1 0,a']=some (.undef,x0::.box (some 4) a'::r):=fun x0 s r=>by
  rcases h2 with rfl|⟨x,u,rfl,_⟩
  ·simp[zaD,astore,AV.plain,AV.shp,AV.own]
  ·simp[zaD,astore,zj7,AV.plain,AV.shp,AV.own,zao,zdc,total,Sh.size]
 simp -dsimp -implicitDefEqProofs only[go_sem,seval,↓reduceIte,kL,List.take_succ_cons,hst,zg]
 have hf:=h2.frz [.box (some 4) a',.box (some 4) a',.arr (some 4) [] false,.box none (.pv none (.sl (some 4) (Tm.pvs l)))]
 exact zgu h2.shp h2.plain hf
def tint(n:Int):Tm:=.mk 1 n [] []
def tatm(s:List UInt8):Tm:=.mk 2 0 s []
def tstr(s:List UInt8)(l:List Tm):Tm:=.mk 3 0 s l
theorem n_ok(n:Int)(hp:Heap):S 30 [.pv none (.int .i64 n)] hp=some (.ret (tint n).av,hp):=by
 refine zal rfl rfl rfl (zab [(none,.int .i64 n)]) rfl ?_
 have hbu:zaN [(none,.pv none (.int .i64 0)),(none,.pv none (.int .i64 0)),(none,.pv none (.str [])),(none,.tsl (some 4) [])] [0,1] [.pv none (.int .i64 1),.pv none (.int .i64 n)]=some (.agg [(none,.pv none (.int .i64 1)),(none,.pv none (.int .i64 n)),(none,.pv none (.str [])),(none,.tsl (some 4) [])]):=rfl
 simp -dsimp -implicitDefEqProofs only[go_sem,seval,↓reduceIte,hbu]
 exact⟨_,rfl⟩
theorem x_ok(n:Int)(hp:Heap):S 28 [.pv none (.int .i64 n)] hp=some (.ret (tvar n).av,hp):=by
 refine zal rfl rfl rfl (zab [(none,.int .i64 n)]) rfl ?_
 have hbu:zaN [(none,.pv none (.int .i64 0)),(none,.pv none (.int .i64 0)),(none,.pv none (.str [])),(none,.tsl (some 4) [])] [1] [.pv none (.int .i64 n)]=some (.agg [(none,.pv none (.int .i64 0)),(none,.pv none (.int .i64 n)),(none,.pv none (.str [])),(none,.tsl (some 4) [])]):=rfl
 simp -dsimp -implicitDefEqProofs only[go_sem,seval,↓reduceIte,hbu]
 exact⟨_,rfl⟩
theorem a_ok(s:List UInt8)(hp:Heap):S 17 [.pv none (.str s)] hp=some (.ret (tatm s).av,hp):=by
 refine zal rfl rfl rfl (zab [(none,.str s)]) rfl ?_
 have hbu:zaN [(none,.pv none (.int .i64 0)),(none,.pv none (.int .i64 0)),(none,.pv none (.str [])),(none,.tsl (some 4) [])] [0,2] [.pv none (.int .i64 2),.pv none (.str s)]=some (.agg [(none,.pv none (.int .i64 2)),(none,.pv none (.int .i64 0)),(none,.pv none (.str s)),(none,.tsl (some 4) [])]):=rfl
 simp -dsimp -implicitDefEqProofs only[go_sem,seval,↓reduceIte,hbu]
 exact⟨_,rfl⟩
theorem zuN(s:List UInt8)(l:List Tm):W Z L 0 (g19).code ⟨params 0 (pvs [(none,.str s),(none,.sl (some 4) (Tm.pvs l))]),[]⟩ (endK (g19).results (Am.frozen (tstr s l).av)):=by
 have hbu:zaN [(none,.pv none (.int .i64 0)),(none,.pv none (.int .i64 0)),(none,.pv none (.str [])),(none,.tsl (some 4) [])] [0,2,3] [.pv none (.int .i64 3),.pv none (.str s),.pv none (.sl (some 4) (Tm.pvs l))]=some (.pv (some 4) (tstr s l).pv):=rfl
 simp -dsimp -implicitDefEqProofs only[go_sem,seval,↓reduceIte,hbu,Tm.av]
theorem f_ok(s:List UInt8)(l:List Tm)(hp:Heap):S 19 [.pv none (.str s),.pv none (.sl (some 4) (Tm.pvs l))] hp=some (.ret (tstr s l).av,hp):=
 zal rfl rfl rfl (zab [(none,.str s),(none,.sl (some 4) (Tm.pvs l))]) rfl (zuN s l)
theorem zvp(s:List UInt8)(l:List Tm)(hp:Heap):S 19 [.pv none (.str s),.tsl (some 4) (Tm.pvs l)] hp=some (.ret (tstr s l).av,hp):=
 zal (ps:=[(none,.str s),(none,.sl (some 4) (Tm.pvs l))]) rfl rfl rfl rfl rfl (zuN s l)
theorem zj9(a b:Tm)(ha:a.size<1000000000)(hb:b.size<1000000000):W Z L 0 (g22).code ⟨params 0 (pvs [(some 4,a.pv),(some 4,b.pv)]),[]⟩ (endK (g22).results (Am.frozen (.pv none (.bool (same a b))))):=by
 have h1:=fun hp=>zsv a b hp ha hb
 simp only[Tm.av] at h1
 simp -dsimp -implicitDefEqProofs only[go_sem,seval,↓reduceIte,h1]
theorem zmA(a b:Tm)(hp:Heap)(ha:a.size<1000000000)(hb:b.size<1000000000):S 22 [a.av,b.av] hp=some (.ret (.pv none (.bool (same a b))),hp):=
 zal rfl rfl rfl (zab [(some 4,a.pv),(some 4,b.pv)]) rfl (zj9 a b ha hb)
def zV:AV:=.agg [(none,.pv none (.int .i64 0)),(none,.pv none (.int .i64 0)),(none,.pv none (.str [])),(none,.tsl (some 4) [])]
theorem zqw(a:Tm)(hp:Heap)(ha:a.size<1000000000):S 22 [a.av,zV] hp=some (.ret (.pv none (.bool (same a zt))),hp):=
 zal (ps:=[(some 4,a.pv),(some 4,zt.pv)]) rfl rfl rfl rfl rfl (zj9 a zt ha (by decide))
def zdo(g:Tm)(l:List Tm)(b:Tm)(e:Int):Prop:=∀hp:Heap,S 20 [g.av] hp=some (.ret (.tuple [.pv none (.sl (some 4) (Tm.pvs l)),b.av,.pv none (.int .i64 e)]),hp)
theorem zhv{g:Tm}(h:g.valid=true):same g g=true:=by simp[same,h,Tm.cmp_zero]
theorem zqx:same zt zt=true:=by decide
theorem zst(hp:Heap):S 13 [] hp=some (.ret (.pv none (.bool true)),hp):=by
 have h:=zgn (hp:=hp) (args:=[]) (ps:=[]) (hp1:=hp) (f:=13) rfl rfl rfl rfl zvs
 exact h
def Bq(hp:Heap):Prop:=∀x∈hp,AObj.beq x x=true
theorem Bq.same:∀{hp:Heap},Bq hp->zaS hp hp=true
 |[],_=>rfl
 |x::r,h=>by
  show(AObj.beq x x && zaS r r)=true
  rw[h x List.mem_cons_self,Bq.same (hp:=r) fun y hy=>h y (List.mem_cons_of_mem _ hy)]
  rfl
theorem Bq.app{a b:Heap}(h1:Bq a)(h2:Bq b):Bq (a++b):=fun x hx=>(List.mem_append.1 hx).elim (h1 x) (h2 x)
theorem Bq.cons{x:AObj}{b:Heap}(h1:AObj.beq x x=true)(h2:Bq b):Bq (x::b):=fun y hy=>(List.mem_cons.1 hy).elim (fun e=>e▸h1) (h2 y)
theorem Bq.nil:Bq []:=fun _ h=>by cases h
theorem Bq.set{hp:Heap}(h:Bq hp)(i:Nat){x:AObj}(hx:AObj.beq x x=true):Bq (hp.set i x):=fun y hy=>by
 rcases List.mem_or_eq_of_mem_set hy with h1|rfl
 ·exact h y h1
 ·exact hx
theorem zj6(t:Tm):AObj.beq (.box (some 4) (.pv (some 4) t.pv)) (.box (some 4) (.pv (some 4) t.pv))=true:=by simp[AObj.beq,AV.beq,ziJ]
theorem zsh{es:List PV}(h:∀x∈es,PV.beq x x=true):PV.beqs es es=true:=by
 induction es with
 |nil=>rfl
 |cons x r ih=>
  show(PV.beq x x && PV.beqs r r)=true
  rw[h x List.mem_cons_self,ih fun y hy=>h y (List.mem_cons_of_mem _ hy)]
  rfl
theorem zdC{v:AV}{hp:Heap}{K:AV->Heap->Prop}(h:zaS hp hp=true):zrL (some (.ret v,hp)) hp K=K v hp:=by
 simp[zrL,h]
def gK(r:Option (ARes × Heap))(hp:Heap)(K:AV->Heap->Prop):Prop:=match r with
 |some (.ret v,hp')=>zaS (hp'.take hp.length) hp=true/\K v hp'
 |_=>False
theorem zls{Γ:Oracle}{b:Nat}{s:Sh}{f:FuncId}{vs:List AV}{hp:Heap}{K:AV->Heap->Prop}{Kp:PV->Heap->Prop}:opK (aOp Γ b .callg (.pv s (.func (.func f))::vs) hp) K Kp=gK (Γ .fn f vs hp) hp K:=by
 unfold gK
 simp only[aOp,zfQ,zcY,zaT,List.nil_append,List.append_nil]
 cases Γ .fn f vs hp with
 |none=>rfl
 |some r=>
  obtain⟨r,hp'⟩:=r
  cases r with
  |panic p=>rfl
  |ret v=>
   by_cases h:zaS (hp'.take hp.length) hp=true
   ·simp only[h,if_true,true_and]
    rfl
   ·have h':zaS (hp'.take hp.length) hp=false:=by simpa using h
    simp only[h',Bool.false_eq_true,if_false,false_and]
    rfl
theorem zgx{v:AV}{hp hp':Heap}{K:AV->Heap->Prop}:gK (some (.ret v,hp')) hp K=(zaS (hp'.take hp.length) hp=true/\K v hp'):=rfl
theorem zdg{hp a b:Heap}(h:Bq hp):zaS (hp++a) (hp++b)=zaS a b:=by
 induction hp with
 |nil=>rfl
 |cons x r ih=>
  show(AObj.beq x x && zaS (r++a) (r++b))=_
  rw[h x List.mem_cons_self,ih fun y hy=>h y (List.mem_cons_of_mem _ hy)]
  rfl
theorem zcv(x y:AObj)(a b:Heap):zaS (x::a) (y::b)=(AObj.beq x y && zaS a b):=rfl
theorem zdh:zaS [] []=true:=rfl
theorem zea(s:Sh)(z:Bool):AObj.beq (.arr s [] z) (.arr s [] z)=true:=by simp[AObj.beq,PV.beqs]
theorem zgy(s:List UInt8)(a b:Sh):AObj.beq (.box a (.pv b (.str s))) (.box a (.pv b (.str s)))=true:=by simp[AObj.beq,AV.beq,PV.beq]
theorem ztT(l:List Tm):PV.beqs (Tm.pvs l) (Tm.pvs l)=true:=zsh fun x hx=>by
 rw[Tm.zvH] at hx
 obtain⟨t,_,rfl⟩:=List.mem_map.1 hx
 exact ziJ t
theorem ztU(s:Sh)(l:List Tm)(z:Bool):AObj.beq (.arr s (Tm.pvs l) z) (.arr s (Tm.pvs l) z)=true:=by simp[AObj.beq,ztT]
def rows1:List (PV × PV):=[(.str (names1.getD 0 []),.func (.func 71)),(.str (names1.getD 1 []),.func (.func 72)),(.str (names1.getD 2 []),.func (.func 73)),(.str (names1.getD 3 []),.func (.func 74)),(.str (names1.getD 4 []),.func (.func 75)),(.str (names1.getD 5 []),.func (.func 47)),(.str (names1.getD 6 []),.func (.func 76)),(.str (names1.getD 7 []),.func (.func 77)),(.str (names1.getD 8 []),.func (.func 78))]
def rows2:List (PV × PV):=[(.str (names2a.getD 0 []),.func (.func 79)),(.str (names2a.getD 1 []),.func (.func 80)),(.str (names2a.getD 2 []),.func (.func 81)),(.str (names2a.getD 3 []),.func (.func 82)),(.str (names2a.getD 4 []),.func (.func 83)),(.str (names2a.getD 5 []),.func (.func 84))]
theorem zmp(hp:Heap):S 39 [] hp=some (.ret (.map hp.length),hp++[.map none rows1]):=by
 refine zaE rfl rfl rfl rfl ?_
 have hms:∀(es es':List (PV × PV)) (k v:PV),aput true k v es=some es'->zb6 true none (hp++[.map none es]) [.map hp.length,.pv none k,.pv none v]=some (.undef,hp++[.map none es']):=fun es es' k v h=>by
  rw[zde (es:=es) (by rw[zdm rfl];rfl) h,zdV rfl]
  rfl
 have m0:=hms ([]) (rows1.take 1) (.str [118,97,114]) (.func (.func 71)) rfl
 have m1:=hms (rows1.take 1) (rows1.take 2) (.str [110,111,110,118,97,114]) (.func (.func 72)) rfl
 have m2:=hms (rows1.take 2) (rows1.take 3) (.str [97,116,111,109]) (.func (.func 73)) rfl
 have m3:=hms (rows1.take 3) (rows1.take 4) (.str [105,110,116,101,103,101,114]) (.func (.func 74)) rfl
 have m4:=hms (rows1.take 4) (rows1.take 5) (.str [97,116,111,109,105,99]) (.func (.func 75)) rfl
 have m5:=hms (rows1.take 5) (rows1.take 6) (.str [99,111,109,112,111,117,110,100]) (.func (.func 47)) rfl
 have m6:=hms (rows1.take 6) (rows1.take 7) (.str [99,97,108,108,97,98,108,101]) (.func (.func 76)) rfl
 have m7:=hms (rows1.take 7) (rows1.take 8) (.str [105,115,95,108,105,115,116]) (.func (.func 77)) rfl
 have m8:=hms (rows1.take 8) (rows1.take 9) (.str [103,114,111,117,110,100]) (.func (.func 78)) rfl
 simp -dsimp -implicitDefEqProofs only[go_sem,seval,↓reduceIte,m0,m1,m2,m3,m4,m5,m6,m7,m8,List.append_assoc,zah,zae,zai,zaf,Nat.add_assoc,List.length_append]
 rw[if_neg (by simp[AV.refsIn])]
 rfl
theorem zdZ(hp:Heap):S 40 [] hp=some (.ret (.map hp.length),hp++[.map none rows2]):=by
 refine zaE rfl rfl rfl rfl ?_
 have hms:∀(es es':List (PV × PV)) (k v:PV),aput true k v es=some es'->zb6 true none (hp++[.map none es]) [.map hp.length,.pv none k,.pv none v]=some (.undef,hp++[.map none es']):=fun es es' k v h=>by
  rw[zde (es:=es) (by rw[zdm rfl];rfl) h,zdV rfl]
  rfl
 have m0:=hms ([]) (rows2.take 1) (.str [61,61]) (.func (.func 79)) rfl
 have m1:=hms (rows2.take 1) (rows2.take 2) (.str [92,61,61]) (.func (.func 80)) rfl
 have m2:=hms (rows2.take 2) (rows2.take 3) (.str [64,60]) (.func (.func 81)) rfl
 have m3:=hms (rows2.take 3) (rows2.take 4) (.str [64,61,60]) (.func (.func 82)) rfl
 have m4:=hms (rows2.take 4) (rows2.take 5) (.str [64,62]) (.func (.func 83)) rfl
 have m5:=hms (rows2.take 5) (rows2.take 6) (.str [64,62,61]) (.func (.func 84)) rfl
 simp -dsimp -implicitDefEqProofs only[go_sem,seval,↓reduceIte,m0,m1,m2,m3,m4,m5,List.append_assoc,zah,zae,zai,zaf,Nat.add_assoc,List.length_append]
 rw[if_neg (by simp[AV.refsIn])]
 rfl
theorem zsQ(s:Sh)(l:List (PV × PV))(h:PV.beqm l l=true):AObj.beq (.map s l) (.map s l)=true:=by simp[AObj.beq,h]
theorem ziC(s:Sh):AObj.beq (.map s rows1) (.map s rows1)=true:=zsQ s _ (by decide+kernel)
theorem ziD(s:Sh):AObj.beq (.map s rows2) (.map s rows2)=true:=zsQ s _ (by decide+kernel)
theorem zdB(s:Sh)(l:List Tm):AObj.beq (.arr s (Tm.pvs l) false) (.arr s (Tm.pvs l) false)=true:=ztU s l false
theorem zsR(H:Heap):zam [zagC,zagC] H=some ([(some 4,zt.pv),(some 4,zt.pv)],H):=rfl
theorem zsS{hp:Heap}{y0 y1:AObj}{l:List Tm}{n:Nat}(hn:l.length=n)(hl:n<=100):zaB (some 4) (hp++[y0,y1,.arr (some 4) (Tm.pvs l) false]) [.sl (some 4) (hp.length+2) n 0 n,.tsl (some 4) [zt.pv,zt.pv]]=some (.sl (some 4) (hp.length+2) (n+2) 0 (n+2),hp++[y0,y1,.arr (some 4) (Tm.pvs (l++[zt,zt])) false]):=by
 have hlim:n+2<=lim:=by unfold lim;omega
 have e:Tm.pvs (l++[zt,zt])=Tm.pvs l++[zt.pv,zt.pv]:=by rw[Tm.zvA];rfl
 rw[e]
 simp[zaB,aappend,elems,getN rfl,setN rfl,Tm.pvs_len,hn,hlim]
theorem zse{hp Z:Heap}{y0 y1:AObj}{l:List Tm}{z:Bool}{n i:Nat}{t:Tm}(hn:l.length=n)(ht:l[i]? =some t):aload (some 4) (hp++y0::y1::.arr (some 4) (Tm.pvs l) z::Z) (.eptr (some 4) (hp.length+2) n i 0)=some (.pv (some 4) t.pv):=by
 simp[aload,getN rfl,Tm.pvs_len,hn,Tm.pvs_get ht]
theorem zsT{hp Z:Heap}{y0 y1 y2:AObj}{s:List UInt8}{rows:List (PV × PV)}(h:afind true (.str s) rows=some none):za4 true none (.pv none .nilfunc) true (hp++y0::y1::y2::.map none rows::Z) [.map (hp.length+3),.pv none (.str s)]=some (.tuple [.pv none .nilfunc,.pv none (.bool false)]):=
 zbJ (es:=rows) (by rw[getN rfl];rfl) h
theorem zsU{hp Z:Heap}{y0 y1 y2 y3:AObj}{s:List UInt8}{rows:List (PV × PV)}(h:afind true (.str s) rows=some none):za4 true none (.pv none .nilfunc) true (hp++y0::y1::y2::y3::.map none rows::Z) [.map (hp.length+4),.pv none (.str s)]=some (.tuple [.pv none .nilfunc,.pv none (.bool false)]):=
 zbJ (es:=rows) (by rw[getN rfl];rfl) h
def eJ(g:Tm):Heap:=[.arr (some 4) [] false,.arr (some 4) [] false,.arr (some 4) (Tm.pvs (g.args++[zt,zt])) false,.map none rows1,.map none rows2]
theorem zsV{H:Heap}{q n:Nat}{ts:List Tm}{z:Bool}(hn:ts.length=n)(h:H[q]? =some (.arr (some 4) (Tm.pvs ts) z)):IsT (.sl (some 4) q n 0 n) H ts where
 len:=by rw[zik,hn]
 idx:=fun i u hu=>by
  have hi:=(List.getElem?_eq_some_iff.1 hu).1
  refine⟨.eptr (some 4) q n (0+i) 0,fun s k=>zcP (by omega),?_⟩
  simp[aload,h,Tm.pvs_len,hn,Tm.pvs_get hu]
theorem zn0(g:Tm):Bq (hE g):=by
 have h1:=zj6 g
 refine Bq.cons h1 (Bq.cons rfl (Bq.cons rfl (Bq.cons rfl (Bq.cons rfl (Bq.cons rfl (Bq.cons ?_ Bq.nil))))))
 simp[AObj.beq,AV.beq,PV.beq,PV.beqc,runV,ziJ]
def cs(t:Tm):Prop:=t.kind=3/\t.name=[46]/\t.args.length=2
instance (t:Tm):Decidable (cs t):=inferInstanceAs (Decidable (_/\_))
def tl(t:Tm):Tm:=if h:cs t then tl (arg1 t) else t
termination_by t.size
decreasing_by exact Tm.zvv (zbL h.2.2)
def els(t:Tm):List Tm:=if h:cs t then arg0 t::els (arg1 t) else[]
termination_by t.size
decreasing_by exact Tm.zvv (zbL h.2.2)
theorem tl_c{t:Tm}(h:cs t):tl t=tl (arg1 t):=by rw[tl,dif_pos h]
theorem tl_n{t:Tm}(h:¬cs t):tl t=t:=by rw[tl,dif_neg h]
theorem zln{t:Tm}(h:cs t):els t=arg0 t::els (arg1 t):=by rw[els,dif_pos h]
theorem zlo{t:Tm}(h:¬cs t):els t=[]:=by rw[els,dif_neg h]
theorem zlp:∀(n:Nat) (t:Tm),t.size=n->(els t).length<=t.size:=by
 intro n
 induction n using Nat.strongRecOn with
 |_ n ih=>
  intro t hn
  by_cases h:cs t
  ·have h3:=Tm.zvv (zbL h.2.2)
   have:=ih _ (by omega) (arg1 t) rfl
   rw[zln h,List.length_cons];omega
  ·rw[zlo h];exact Nat.zero_le _
theorem zqi(t:Tm)(hp:Heap):S 62 [t.av] hp=some (.ret (.pv none (.bool (decide (cs t)))),hp):=by
 refine zal rfl rfl rfl (zab [(some 4,t.pv)]) rfl ?_
 by_cases h1:t.kind=3
 ·have h1':=eq_true h1
  by_cases h2:t.name=[46]
  ·have h2':=eq_true h2
   by_cases h3:t.args.length=2
   ·have h3':=eq_true (show(t.args.length:Int)=2 by omega)
    have e:decide (cs t)=true:=by simp[cs,h1,h2,h3]
    rw[e]
    simp -dsimp -implicitDefEqProofs only[go_sem,seval,↓reduceIte,Tm.av,zaq,zar,zag,Tm.pvs_len,h1',h2',h3']
   ·have h3':=eq_false (show ¬(t.args.length:Int)=2 by omega)
    have e:decide (cs t)=false:=by simp[cs,h3]
    rw[e]
    simp -dsimp -implicitDefEqProofs only[go_sem,seval,↓reduceIte,Tm.av,zaq,zar,zag,Tm.pvs_len,h1',h2',h3']
  ·have h2':=eq_false h2
   have e:decide (cs t)=false:=by simp[cs,h2]
   rw[e]
   simp -dsimp -implicitDefEqProofs only[go_sem,seval,↓reduceIte,Tm.av,zaq,zar,zag,Tm.pvs_len,h1',h2']
 ·have h1':=eq_false h1
  have e:decide (cs t)=false:=by simp[cs,h1]
  rw[e]
  simp -dsimp -implicitDefEqProofs only[go_sem,seval,↓reduceIte,Tm.av,zaq,zar,zag,Tm.pvs_len,h1']
def eE(t:Tm):Heap:=[.box (some 4) (.pv (some 4) (tl t).pv),.arr (some 4) [] false,.box (some 4) (.pv (some 4) (tl t).pv),.arr (some 4) [] false,.arr (some 4) (Tm.pvs (els t)) false]
theorem zqj(t:Tm)(hv:t.valid=true)(hp:Heap):S 33 [t.av] hp=some (.ret (.tuple [.sl (some 4) (hp.length+4) (els t).length 0 (els t).length,(tl t).av]),hp++eE t):=by
 refine zaE rfl rfl rfl rfl ?_
 have hz:=valid_size hv
 have hlen:=zlp _ t rfl
 have h1:=fun hp=>zb4 t hp (by omega)
 have hn0:∀H:Heap,zbZ (some 4) H=some (.sl (some 4) H.length 0 0 0,H++[.arr (some 4) [] false]):=fun H=>zbs (sh:=some 4) (by decide)
 simp only[Tm.av] at h1
 simp -dsimp -implicitDefEqProofs only[go_sem,seval,↓reduceIte,Tm.av,h1,hv,hn0,List.append_assoc,zah,zae,zai,zaf,Nat.add_assoc,List.length_append]
 refine zdY (fun n st=>∃(t1:Tm) (d:List Tm),n=t1.size/\t1.valid=true/\d++els t1=els t/\tl t1=tl t/\st=⟨[(1,.ptr hp.length 0),(3,.ptr (hp.length+2) 0),(4,.sl (some 4) (hp.length+4) d.length 0 d.length)],hp++[.box (some 4) (.pv (some 4) t1.pv),.arr (some 4) [] false,.box (some 4) (zg (hp.length+3)),.arr (some 4) [] false,.arr (some 4) (Tm.pvs d) false]⟩) (n:=t.size) ⟨t,[],rfl,hv,rfl,rfl,rfl⟩ ?_
 rintro n st ⟨t1,d,rfl,hv1,he,ht,rfl⟩
 have hq:=zqi t1
 simp only[Tm.av] at hq
 have hdl:=congrArg List.length he
 rw[List.length_append] at hdl
 by_cases h:cs t1
 ·have hd:decide (cs t1)=true:=by simp[h]
  rw[hd] at hq
  have hlt:=Tm.zvv (zbL h.2.2)
  have v0:=za8 hv1 (zmc h.2.2)
  have v1:=za8 hv1 (zbL h.2.2)
  have hcp:=fun hp=>zkb (arg0 t1) hp (fit9 v0)
  have hlim:d.length+1<=lim:=by unfold lim;omega
  have hpl:=Tm.pvs_len d
  rw[zln h] at he
  simp only[Tm.av] at hcp
  have hap:∀(x0 x1 x2 x3:AObj) (p:PV),zaB (some 4) (hp++[x0,x1,x2,x3,.arr (some 4) (Tm.pvs d) false]) [.sl (some 4) (hp.length+4) d.length 0 d.length,.tsl (some 4) [p]]=some (.sl (some 4) (hp.length+4) (d.length+1) 0 (d.length+1),hp++[x0,x1,x2,x3,.arr (some 4) (Tm.pvs d++[p]) false]):=fun x0 x1 x2 x3 p=>by
   simp[zaB,aappend,elems,getN rfl,setN rfl,hpl,hlim]
  simp -dsimp -implicitDefEqProofs only[go_sem,seval,↓reduceIte,zg,hq,zag,hcp,ia0 (Tm.pvs_get (ziv h.2.2)),ia1 (Tm.pvs_get (ziw h.2.2)),hpl,hlim,hap,List.append_assoc,zah,zae,zai,zaf,Nat.add_assoc,List.length_append]
  refine⟨_,hlt,arg1 t1,d++[arg0 t1],rfl,v1,by rw[<-he,List.append_assoc];rfl,by rw[<-ht,tl_c h],?_⟩
  rw[Tm.zvA,List.length_append,zcs (by rw[List.length_append];rfl)]
  rfl
 ·have hd:decide (cs t1)=false:=by simp[h]
  rw[hd] at hq
  have hcp:=fun hp=>zkb t1 hp (fit9 hv1)
  rw[zlo h,List.append_nil] at he
  rw[tl_n h] at ht
  simp only[Tm.av] at hcp
  unfold eE
  rw[<-he,<-ht]
  simp -dsimp -implicitDefEqProofs only[go_sem,seval,↓reduceIte,zg,hq,hcp,List.append_assoc,zah,zae,zai,zaf,Nat.add_assoc,List.length_append]
  rw[if_neg (by simp[AV.refsIn,AV.refsIn.gol];omega)]
  have e2:∀(H:Heap) (v:AV),H[hp.length+2]? =some (.box (some 4) v)->zcc ⟨[(2,.sl (some 4) (hp.length+4) d.length 0 d.length),(3,.ptr (hp.length+2) 0)],H⟩ (3,some (some 4))=some v:=fun H v h=>by
   rw[zhm]
   simp[Fr.look,aload,h]
  rw[e2 _ _ ((zah hp _ 2).trans rfl)]
  exact⟨rfl,rfl⟩
theorem zcT(t:Tm)(hv:t.valid=true)(hp:Heap):S 116 [t.av] hp=some (.ret (.tuple [.sl (some 4) (hp.length+4) (els t).length 0 (els t).length,(tl t).av]),hp++eE t):=by
 refine zaE rfl rfl rfl rfl ?_
 have hz:=valid_size hv
 have hlen:=zlp _ t rfl
 have h1:=fun hp=>zbY t hp (by omega)
 have hn0:∀H:Heap,zbZ (some 4) H=some (.sl (some 4) H.length 0 0 0,H++[.arr (some 4) [] false]):=fun H=>zbs (sh:=some 4) (by decide)
 simp only[Tm.av] at h1
 simp -dsimp -implicitDefEqProofs only[go_sem,seval,↓reduceIte,Tm.av,h1,hv,hn0,List.append_assoc,zah,zae,zai,zaf,Nat.add_assoc,List.length_append]
 refine zdY (fun n st=>∃(t1:Tm) (d:List Tm),n=t1.size/\t1.valid=true/\d++els t1=els t/\tl t1=tl t/\st=⟨[(1,.ptr hp.length 0),(3,.ptr (hp.length+2) 0),(4,.sl (some 4) (hp.length+4) d.length 0 d.length)],hp++[.box (some 4) (.pv (some 4) t1.pv),.arr (some 4) [] false,.box (some 4) (zg (hp.length+3)),.arr (some 4) [] false,.arr (some 4) (Tm.pvs d) false]⟩) (n:=t.size) ⟨t,[],rfl,hv,rfl,rfl,rfl⟩ ?_
 rintro n st ⟨t1,d,rfl,hv1,he,ht,rfl⟩
 have hdl:=congrArg List.length he
 rw[List.length_append] at hdl
 by_cases h:cs t1
 ·have hlt:=Tm.zvv (zbL h.2.2)
  have v0:=za8 hv1 (zmc h.2.2)
  have v1:=za8 hv1 (zbL h.2.2)
  have hcp:=fun hp=>zeG (arg0 t1) hp v0 (fit9 v0)
  have hlim:d.length+1<=lim:=by unfold lim;omega
  have hpl:=Tm.pvs_len d
  have k1:=eq_true h.1
  have k2:=eq_true h.2.1
  have k3:=eq_true (show(t1.args.length:Int)=2 by have:=h.2.2;omega)
  rw[zln h] at he
  simp only[Tm.av] at hcp
  have hap:∀(x0 x1 x2 x3:AObj) (p:PV),zaB (some 4) (hp++[x0,x1,x2,x3,.arr (some 4) (Tm.pvs d) false]) [.sl (some 4) (hp.length+4) d.length 0 d.length,.tsl (some 4) [p]]=some (.sl (some 4) (hp.length+4) (d.length+1) 0 (d.length+1),hp++[x0,x1,x2,x3,.arr (some 4) (Tm.pvs d++[p]) false]):=fun x0 x1 x2 x3 p=>by
   simp[zaB,aappend,elems,getN rfl,setN rfl,hpl,hlim]
  simp -dsimp -implicitDefEqProofs only[go_sem,seval,↓reduceIte,zg,zaq,zar,zag,Tm.pvs_len,k1,k2,k3,hcp,ia0 (Tm.pvs_get (ziv h.2.2)),ia1 (Tm.pvs_get (ziw h.2.2)),hpl,hlim,hap,List.append_assoc,zah,zae,zai,zaf,Nat.add_assoc,List.length_append]
  refine⟨_,hlt,arg1 t1,d++[arg0 t1],rfl,v1,by rw[<-he,List.append_assoc];rfl,by rw[<-ht,tl_c h],?_⟩
  rw[Tm.zvA,List.length_append,zcs (by rw[List.length_append];rfl)]
  rfl
 ·have hcp:=fun hp=>zeG t1 hp hv1 (fit9 hv1)
  rw[zlo h,List.append_nil] at he
  rw[tl_n h] at ht
  simp only[Tm.av] at hcp
  unfold eE
  rw[<-he,<-ht]
  have e2:∀(H:Heap) (v:AV),H[hp.length+2]? =some (.box (some 4) v)->zcc ⟨[(2,.sl (some 4) (hp.length+4) d.length 0 d.length),(3,.ptr (hp.length+2) 0)],H⟩ (3,some (some 4))=some v:=fun H v h=>by
   rw[zhm]
   simp[Fr.look,aload,h]
  by_cases k1:t1.kind=3
  ·have k1':=eq_true k1
   by_cases k2:t1.name=[46]
   ·have k2':=eq_true k2
    have k3':=eq_false (show ¬(t1.args.length:Int)=2 by
     intro e
     exact h ⟨k1,k2,by omega⟩)
    simp -dsimp -implicitDefEqProofs only[go_sem,seval,↓reduceIte,zg,zaq,zar,zag,Tm.pvs_len,k1',k2',k3',hcp,List.append_assoc,zah,zae,zai,zaf,Nat.add_assoc,List.length_append]
    rw[if_neg (by simp[AV.refsIn,AV.refsIn.gol];omega)]
    rw[e2 _ _ ((zah hp _ 2).trans rfl)]
    exact⟨rfl,rfl⟩
   ·have k2':=eq_false k2
    simp -dsimp -implicitDefEqProofs only[go_sem,seval,↓reduceIte,zg,zaq,zar,zag,Tm.pvs_len,k1',k2',hcp,List.append_assoc,zah,zae,zai,zaf,Nat.add_assoc,List.length_append]
    rw[if_neg (by simp[AV.refsIn,AV.refsIn.gol];omega)]
    rw[e2 _ _ ((zah hp _ 2).trans rfl)]
    exact⟨rfl,rfl⟩
  ·have k1':=eq_false k1
   simp -dsimp -implicitDefEqProofs only[go_sem,seval,↓reduceIte,zg,zaq,zar,zag,Tm.pvs_len,k1',hcp,List.append_assoc,zah,zae,zai,zaf,Nat.add_assoc,List.length_append]
   rw[if_neg (by simp[AV.refsIn,AV.refsIn.gol];omega)]
   rw[e2 _ _ ((zah hp _ 2).trans rfl)]
   exact⟨rfl,rfl⟩
def ll(t:Tm):Prop:=(tl t).kind=0\/((tl t).kind=2/\(tl t).name=[91,93])
instance (t:Tm):Decidable (ll t):=inferInstanceAs (Decidable (_\/_))
def mx(x y:Int):Int:=if x<y then y else x
def zba(nm:List UInt8):Tm:=.mk 2 0 nm []
def strT(nm:List UInt8)(l:List Tm):Tm:=.mk 3 0 nm l
theorem zd9{nm:List UInt8}(h:nm.length<=100):(zba nm).valid=true:=by
 have:(nm.length:Int)<=100:=by omega
 refine zfH ?_ (by have:(zba nm).size=1:=rfl;omega)
 simp[zba,Tm.fits,Tm.fitsAll,Tm.node,Tm.kind,Tm.n,Tm.name,Tm.args,this]
theorem zj5{nm:List UInt8}{l:List Tm}(h:nm.length<=100)(h1:0<l.length)(h2:l.length<=8)(hl:Tm.fitsAll l=true):(strT nm l).fits=true:=by
 have a:(nm.length:Int)<=100:=by omega
 have b:0<(l.length:Int):=by omega
 have c:(l.length:Int)<=8:=by omega
 simp[strT,Tm.fits,Tm.node,Tm.kind,Tm.n,Tm.name,Tm.args,a,b,c,h1,hl]
theorem ziB(nm:List UInt8)(h:nm.length<=100)(hp:Heap):S 137 [.pv none (.str nm)] hp=some (.ret (zba nm).av,hp):=by
 refine zal rfl rfl rfl (zab [(none,.str nm)]) rfl ?_
 have hv:=zd9 h
 have hb:zaN [(none,.pv none (.int .i64 0)),(none,.pv none (.int .i64 0)),(none,.pv none (.str [])),(none,.tsl (some 4) [])] [0,2] [.pv none (.int .i64 2),.pv none (.str nm)]=some (.agg [(none,.pv none (.int .i64 2)),(none,.pv none (.int .i64 0)),(none,.pv none (.str nm)),(none,.tsl (some 4) [])]):=rfl
 have hcl:∀H:Heap,S 51 [.agg [(none,.pv none (.int .i64 2)),(none,.pv none (.int .i64 0)),(none,.pv none (.str nm)),(none,.tsl (some 4) [])]] H=some (.ret (zba nm).av,H):=fun H=>
  zgn (F:=find tab) (prim:=prim) (f:=51) (args:=[.agg [(none,.pv none (.int .i64 2)),(none,.pv none (.int .i64 0)),(none,.pv none (.str nm)),(none,.tsl (some 4) [])]]) (ps:=[(some 4,(zba nm).pv)]) (hp:=H) (hp1:=H) rfl rfl rfl rfl (zeG (zba nm) [] hv (fit9 hv))
 simp only[Tm.av] at hcl
 simp -dsimp -implicitDefEqProofs only[go_sem,seval,↓reduceIte,Tm.av,hb,hcl]
 try rfl
theorem zht(nm:List UInt8)(l:List Tm)(h1:0<l.length)(hv:(strT nm l).valid=true)(hp:Heap):S 136 [.pv none (.str nm),.pv none (.sl (some 4) (Tm.pvs l))] hp=some (.ret (strT nm l).av,hp):=by
 refine zal rfl rfl rfl (zab [(none,.str nm),(none,.sl (some 4) (Tm.pvs l))]) rfl ?_
 have hb:zaN [(none,.pv none (.int .i64 0)),(none,.pv none (.int .i64 0)),(none,.pv none (.str [])),(none,.tsl (some 4) [])] [0,2,3] [.pv none (.int .i64 3),.pv none (.str nm),.pv none (.sl (some 4) (Tm.pvs l))]=some (.pv (some 4) (strT nm l).pv):=rfl
 have hcl:=fun hp=>zeG (strT nm l) hp hv (fit9 hv)
 have hne:=eq_false (show ¬(l.length:Int)=0 by omega)
 simp only[Tm.av] at hcl
 simp -dsimp -implicitDefEqProofs only[go_sem,seval,↓reduceIte,Tm.av,hb,hcl,Tm.pvs_len,hne]
 try rfl
theorem zqk{f:FuncId}{fn:AFn}{ps:List (Sh × PV)}{args:List AV}{t:Tm}{hp hp1:Heap}(hp0:prim f=none)(hf:find tab f=some fn)(hm:fn.heapMode=false)(hz:zam args hp=some (ps,hp1))(hr:fn.rcv=none)(h:S f (pvs ps) []=some (.ret t.av,[])):S f args hp=some (.ret t.av,hp1):=by
 have h:=zgn (F:=find tab) (prim:=prim) (f:=f) (args:=args) (ps:=ps) (hp:=hp) (hp1:=hp1) hp0 hf hm hz h hr
 have hs:∀t:Tm,t.av.scalar=false:=fun t=>by cases t;rfl
 rw[hs] at h
 exact h
def errN:List UInt8:=[101,114,114,111,114]
def errT(f:Tm):Tm:=strT errN [f,nilT]
theorem zsd(fn:List UInt8)(l:List Tm)(h1:0<l.length)(hv1:(strT fn l).valid=true)(hv2:(errT (strT fn l)).valid=true)(hp:Heap):S 114 [.pv none (.str fn),.pv none (.sl (some 4) (Tm.pvs l))] hp=some (.ret (errT (strT fn l)).av,hp):=by
 refine zal rfl rfl rfl (zab [(none,.str fn),(none,.sl (some 4) (Tm.pvs l))]) rfl ?_
 have ha:=zht fn l h1 hv1
 have hb:=ziB [91,93] (by decide)
 have hc:∀H:Heap,S 136 [.pv none (.str errN),.tsl (some 4) [(strT fn l).pv,nilT.pv]] H=some (.ret (errT (strT fn l)).av,H):=fun H=>
  zqk (ps:=[(none,.str errN),(none,.sl (some 4) (Tm.pvs [strT fn l,nilT]))]) rfl rfl rfl rfl rfl (zht errN [strT fn l,nilT] (by simp) hv2 [])
 have e:zba [91,93]=nilT:=rfl
 rw[e] at hb
 simp only[Tm.av] at ha hb hc
 generalize strT fn l=F at*
 simp only[errN] at hc
 simp -dsimp -implicitDefEqProofs only[go_sem,seval,↓reduceIte,Tm.av,ha,hb,hc]
 try rfl
def cul(t:Tm):Tm:=if 2000<t.size+4 then zba [46,46,46] else t
theorem zql{t:Tm}(hv:t.valid=true):(cul t).valid=true/\(cul t).size+4<=2000:=by
 unfold cul
 split
 ·exact⟨zd9 (by decide),by have:(zba [46,46,46]).size=1:=rfl;omega⟩
 ·exact⟨hv,by omega⟩
def zbM(t:Tm):Prop:=t.kind=2/\t.name=[91,93]
instance (t:Tm):Decidable (zbM t):=inferInstanceAs (Decidable (_/\_))
theorem zeJ(t:Tm)(hp:Heap):S 117 [t.av] hp=some (.ret (.pv none (.bool (decide (zbM t)))),hp):=by
 refine zal rfl rfl rfl (zab [(some 4,t.pv)]) rfl ?_
 have h1:=fun hp=>zqW t hp
 simp only[Tm.av] at h1
 by_cases hk:t.kind=2
 ·have e:decide (zbM t)=decide (t.name=[91,93]):=by simp[zbM,hk]
  rw[hk] at h1
  rw[e]
  simp -dsimp -implicitDefEqProofs only[go_sem,seval,↓reduceIte,Tm.av,h1,zar]
 ·have e:decide (zbM t)=false:=by simp[zbM,hk]
  have e2:decide (t.kind=2)=false:=by simp[hk]
  rw[e2] at h1
  rw[e]
  simp -dsimp -implicitDefEqProofs only[go_sem,seval,↓reduceIte,Tm.av,h1,zar]
theorem zqP(t:Tm)(hv:t.valid=true)(hp:Heap):S 77 [t.av] hp=some (.ret (.pv none (.bool (decide (zbM (tl t))))),hp):=by
 refine zal rfl rfl rfl (zab [(some 4,t.pv)]) rfl ?_
 have h1:=fun hp=>zcT t hv hp
 have h2:=fun hp=>zeJ (tl t) hp
 simp only[Tm.av] at h1 h2
 simp -dsimp -implicitDefEqProofs only[go_sem,seval,↓reduceIte,Tm.av,h1,h2,eE,zac (Nat.zero_le _),List.append_assoc,zah,zae,zai,zaf,Nat.add_assoc,List.length_append]
theorem find_mem{l:List B}{v:Int}(h:fndB l v=true):(v,toB l v)∈l:=List.mem_of_getElem? (zgH h)
theorem zn3{l:List B}{v:Int}{t:Tm}{x:B}(h:x=(v,t)\/x∈l):x∈insB l v t:=by
 unfold insB
 simp only[List.mem_append,List.mem_singleton]
 rcases h with h|h
 ·exact .inl (.inr h)
 ·rw[<-List.take_append_drop (lbB l v) l] at h
  rcases List.mem_append.1 h with h|h
  ·exact .inl (.inl h)
  ·exact .inr h
theorem ztY{l:List B}(hs:Srt' l){b:B}(hb:b∈l):fndB l b.1=true/\toB l b.1=b.2:=by
 obtain⟨i,hlt,rfl⟩:=List.getElem_of_mem hb
 have hg:=List.getElem?_eq_getElem hlt
 obtain⟨h1,h2⟩:=zs1 hs hg
 refine⟨h1,?_⟩
 unfold toB
 rw[h2,hg]
theorem zqy{l:List B}(hs:Srt' l)(v:Int):fndB l v=true↔v∈l.map (·.1):=by
 constructor
 ·intro h;exact List.mem_map.2 ⟨_,find_mem h,rfl⟩
 ·intro h
  obtain⟨b,hb,rfl⟩:=List.mem_map.1 h
  exact(ztY hs hb).1
theorem zgE{n:Int}(h:0<=n/\n<=1099511627776):(tvar n).fits=true:=by
 simp[tvar,Tm.fits,Tm.fitsAll,Tm.node,Tm.kind,Tm.n,Tm.name,Tm.args,h.1,h.2]
open Classical in
noncomputable def okb(l:List B):Bool:=decide (OKB l)
def IsS(s:AV)(hp:Heap)(l:List B):Prop:=s=.pv none (.sl (some 5) (bds l))\/IsB s hp l
theorem IsS.more{s:AV}{hp:Heap}{l:List B}(h:IsS s hp l)(e:Heap):IsS s (hp++e) l:=h.elim .inl fun h=>.inr (h.more e)
def MapI(m:List (Int × PV))(f:Int->Int):Prop:=∀v,(zdi v m).getD (.int .i64 0)=.int .i64 (f v)
theorem MapI.put{m:List (Int × PV)}{f:Int->Int}(h:MapI m f)(v x:Int):MapI (mPut v (.int .i64 x) m) (fun w=>if w=v then x else f w):=fun w=>by
 rw[zka]
 by_cases e:w=v
 ·simp[e]
 ·simp only[if_neg e];exact h w
structure CInv(l:List B)(st:Int->Int):Prop where
 val:∀o,st o=0\/st o=1\/st o=2
 bnd:∀o,st o≠0->fndB l o=true
 done:∃(rk:Int->Nat) (c:Nat),∀v,st v=2->rk v<c/\∀w∈(toB l v).occ,fndB l w=true->st w=2/\rk w<rk v
structure CPost(l:List B)(st st':Int->Int)(v:Int):Prop where
 inv:CInv l st'
 opn:∀o,st' o=1↔st o=1
 dn:∀o,st o=2->st' o=2
 me:fndB l v=true->st' v=2
def cnt(l:List B)(st:Int->Int):Nat:=(l.filter fun b=>decide (st b.1=0)).length
theorem CPost.mono{l:List B}{st st':Int->Int}{v:Int}(h:CInv l st)(hp:CPost l st st' v)(o:Int)(ho:st o≠0):st' o≠0:=by
 rcases h.val o with e|e|e
 ·exact absurd e ho
 ·rw[(hp.opn o).2 e];decide
 ·rw[hp.dn o e];decide
theorem CInv.acyc{l:List B}{st:Int->Int}(h:CInv l st)(hall:∀v,fndB l v=true->st v=2):Acyc l:=by
 obtain⟨_,_,rk,c,g3⟩:=h
 exact⟨rk,fun v hv w hw hf=>((g3 v (hall v hv)).2 w hw hf).2⟩
def SzI(l:List B)(m:List (Int × PV)):Prop:=∃f:Int->Int,MapI m f/\∀v,f v≠0->fndB l v=true/\f v=((min (rs l (toB l v)).size 2001:Nat):Int)
theorem SzI.put{l:List B}{m:List (Int × PV)}(h:SzI l m){v:Int}(hf:fndB l v=true):SzI l (mPut v (.int .i64 ((min (rs l (toB l v)).size 2001:Nat):Int)) m):=by
 obtain⟨f,h1,h2⟩:=h
 refine⟨_,h1.put v _,fun w hw=> ?_⟩
 by_cases e:w=v
 ·subst e;simp[hf]
 ·simp only[if_neg e] at hw ⊢;exact h2 w hw
def inR(l:List B)(v:Int)(t:Tm):Prop:=v∈(rs l t).occ
theorem zmB{l:List B}(h:Acyc l){v:Int}{t:Tm}(hv:t.fits=true)(hk:t.kind=0)(hf:¬fndB l t.n=true):inR l v t↔v=t.n:=by
 unfold inR
 rw[zt2 h hv hk hf,Tm.occ_eq,if_pos hk]
 simp
theorem zmC{l:List B}(h:Acyc l){v:Int}{t:Tm}(hk:t.kind=0)(hf:fndB l t.n=true):inR l v t↔inR l v (toB l t.n):=by
 unfold inR
 rw[zqI h hk,if_pos hf]
theorem ztZ{l:List B}{v:Int}{t:Tm}(hk:¬t.kind=0):inR l v t↔∃u∈t.args,inR l v u:=by
 unfold inR
 rw[zuS l hk,Tm.occ_eq,if_neg (by exact hk)]
 constructor
 ·intro h
  obtain⟨u,hu,h⟩:=Tm.zvJ h
  obtain⟨x,hx,rfl⟩:=List.mem_map.1 hu
  exact⟨x,hx,h⟩
 ·rintro⟨u,hu,h⟩
  exact Tm.zvS (List.mem_map.2 ⟨u,hu,rfl⟩) h
def SeenPre(l:List B)(v:Int)(sn:Int->Prop)(t:Tm):Prop:=∀w,sn w->fndB l w=true/\(¬inR l v (tvar w)\/mu l t<mu l (tvar w))
structure SeenPost(l:List B)(v:Int)(sn sn':Int->Prop)(t:Tm)(b:Bool):Prop where
 yes:b=true->inR l v t
 no:b=false->¬inR l v t/\∀w,sn' w->sn w\/(fndB l w=true/\¬inR l v (tvar w))
theorem SeenPre.arg{l:List B}{v:Int}{sn:Int->Prop}{t u:Tm}(h:SeenPre l v sn t)(hm:mu l u<mu l t):SeenPre l v sn u:=fun w hw=>by
 obtain⟨h1,h2|h2⟩:=h w hw
 ·exact⟨h1,.inl h2⟩
 ·exact⟨h1,.inr (by omega)⟩
theorem zsu{l:List B}{t:Tm}(hv:t.fits=true)(hk:t.kind=0):mu l (tvar t.n)=mu l t:=by rw[<-zbx hv hk]
theorem SeenPre.old{l:List B}{v:Int}{sn:Int->Prop}{t:Tm}(h:SeenPre l v sn t)(hv:t.fits=true)(hk:t.kind=0)(hs:sn t.n):¬inR l v t:=by
 obtain⟨_,h2|h2⟩:=h t.n hs
 ·rw[<-zbx hv hk] at h2;exact h2
 ·rw[zsu hv hk] at h2;exact absurd h2 (Nat.lt_irrefl _)
theorem SeenPre.new{l:List B}{v:Int}{sn:Int->Prop}{t:Tm}(h:SeenPre l v sn t)(ha:Acyc l)(hv:t.fits=true)(hk:t.kind=0)(hf:fndB l t.n=true):SeenPre l v (fun w=>w=t.n\/sn w) (toB l t.n):=fun w hw=>by
 have hlt:=zlB ha hk hf
 rcases hw with rfl|hw
 ·exact⟨hf,.inr (by rw[zsu hv hk];exact hlt)⟩
 ·exact h.arg hlt w hw
theorem SeenPost.new{l:List B}{v:Int}{sn sn':Int->Prop}{t:Tm}{b:Bool}(h:SeenPost l v (fun w=>w=t.n\/sn w) sn' (toB l t.n) b)(ha:Acyc l)(hv:t.fits=true)(hk:t.kind=0)(hf:fndB l t.n=true):SeenPost l v sn sn' t b:=
 ⟨fun hb=>(zmC ha hk hf).2 (h.yes hb),fun hb=>by
  obtain⟨h1,h2⟩:=h.no hb
  refine⟨fun e=>h1 ((zmC ha hk hf).1 e),fun w hw=> ?_⟩
  rcases h2 w hw with(rfl|h3)|h3
  ·exact .inr ⟨hf,fun e=>h1 ((zmC ha hk hf).1 (by rw[zbx hv hk];exact e))⟩
  ·exact .inl h3
  ·exact .inr h3⟩
theorem zgG:∀(a b:List Int),a.Nodup->(∀x∈a,x∈b)->a.length<=b.length
 |[],_,_,_=>Nat.zero_le _
 |x::a,b,h,hs=>by
  have hx:=hs x List.mem_cons_self
  have h1:=List.nodup_cons.1 h
  have ih:=zgG a (b.erase x) h1.2 fun y hy=>(List.mem_erase_of_ne (fun e=>h1.1 (by rw[<-e];exact hy))).2 (hs y (List.mem_cons_of_mem _ hy))
  have h2:=List.length_erase_of_mem hx
  have h3:=List.length_pos_of_mem hx
  simp only[List.length_cons]
  omega
theorem zt0{l:List B}{σ:List Int}(h1:σ.Nodup)(h2:∀w∈σ,fndB l w=true):σ.length<=l.length:=by
 have:=zgG σ (l.map (·.1)) h1 fun w hw=>by
  exact List.mem_map.2 ⟨_,find_mem (h2 w hw),rfl⟩
 simpa using this
inductive UStep where
 |err (e:Int)
 |bind (v:Int) (t:Tm)
 |args (xs:List (Tm × Tm))
open Classical in
noncomputable def ustep(l:List B)(x y:Tm):UStep:=
 if x.kind=0/\y.kind=0 then
  if y.n<x.n then .bind x.n y else if x.n<y.n then .bind y.n x else .args []
 else if x.kind=0 then(if inR l x.n y then .err 9 else .bind x.n y)
 else if y.kind=0 then(if inR l y.n x then .err 9 else .bind y.n x)
 else if x.kind=y.kind/\x.n=y.n/\x.name=y.name/\x.args.length=y.args.length then .args (x.args.zip y.args) else .err 4
noncomputable def uni:Nat->List B->List (Tm × Tm)->List B × Int
 |_,l,[]=>(l,0)
 |0,_,_::_=>([],2)
 |n+1,l,p::r=>match ustep l (flw l p.1) (flw l p.2) with
  | .err e=>([],e)
  | .bind v t=>uni n (insB l v t) r
  | .args xs=>uni n l (xs++r)
theorem zsz{n:Nat}{l:List B}{p:Tm × Tm}{v:Int}{t:Tm}(r:List (Tm × Tm))(h:ustep l (flw l p.1) (flw l p.2)=.bind v t):uni (n+1) l (p::r)=uni n (insB l v t) r:=by rw[uni,h]
theorem zsA{n:Nat}{l:List B}{p:Tm × Tm}{xs:List (Tm × Tm)}(r:List (Tm × Tm))(h:ustep l (flw l p.1) (flw l p.2)=.args xs):uni (n+1) l (p::r)=uni n l (xs++r):=by rw[uni,h]
theorem mem_insB_iff{l:List B}{v:Int}{t:Tm}{x:B}:x∈insB l v t↔x=(v,t)\/x∈l:=⟨zeH,zn3⟩
theorem ziN{l:List B}(hG:Good l){v:Int}{t:Tm}(hf:fndB l v=false)(w:Int):fndB (insB l v t) w=true↔w=v\/fndB l w=true:=by
 rw[zqy (zeI hG.1 hf),zqy hG.1]
 simp only[List.mem_map,mem_insB_iff]
 constructor
 ·rintro⟨x,rfl|h,rfl⟩
  ·exact .inl rfl
  ·exact .inr ⟨x,h,rfl⟩
 ·rintro(rfl|⟨x,h,rfl⟩)
  ·exact⟨_,.inl rfl,rfl⟩
  ·exact⟨x,.inr h,rfl⟩
theorem zu1{l:List B}(hG:Good l){v:Int}{t:Tm}(hf:fndB l v=false):toB (insB l v t) v=t:=(ztY (zeI hG.1 hf) (mem_insB_iff.2 (.inl rfl))).2
theorem zgJ{l:List B}(hG:Good l){v:Int}{t:Tm}(hf:fndB l v=false){w:Int}(hw:fndB l w=true):toB (insB l v t) w=toB l w:=
 (ztY (zeI hG.1 hf) (mem_insB_iff.2 (.inr (find_mem hw)))).2
theorem zs4{l:List B}{w:Int}:∀t:Tm,t.fits=true->w∈t.occ->mu l (tvar w)<=mu l t:=by
 intro t
 induction t using Tm.zvu with
 |h t ih=>
  intro hf hw
  rw[Tm.occ_eq] at hw
  by_cases hk:t.kind=0
  ·rw[if_pos hk,List.mem_singleton] at hw
   rw[hw,zsu hf hk]
   exact Nat.le_refl _
  ·rw[if_neg hk] at hw
   obtain⟨u,hu,h⟩:=Tm.zvJ hw
   have:=ih u hu (Tm.zvw hf hu) h
   have:=zs2 l hk hu
   omega
theorem zqQ{l:List B}{v w:Int}:∀t:Tm,t.fits=true->w∈t.occ->inR l v (tvar w)->inR l v t:=by
 intro t
 induction t using Tm.zvu with
 |h t ih=>
  intro hf hw hi
  rw[Tm.occ_eq] at hw
  by_cases hk:t.kind=0
  ·rw[if_pos hk,List.mem_singleton] at hw
   rw[zbx hf hk,<-hw]
   exact hi
  ·rw[if_neg hk] at hw
   obtain⟨u,hu,h⟩:=Tm.zvJ hw
   exact(ztZ hk).2 ⟨u,hu,ih u hu (Tm.zvw hf hu) h hi⟩
theorem zt5{l:List B}(hO:OKB l){v:Int}{t:Tm}(hf:fndB l v=false)(hv:0<=v/\v<=1099511627776)(ht:t.valid=true)(hn:¬inR l v t):OKB (insB l v t):=by
 have htz:=valid_size ht
 have hA:=hO.Acyc
 refine zuP (zqB hO.good hf ht (by omega)) (fun b hb=> ?_) ?_
 ·rcases zeH hb with rfl|h
  ·exact hv
  ·exact hO.rng b h
 ·refine⟨fun w=>by classical exact if inR l v (tvar w) then mu l (tvar w)+mu l t+1 else mu l (tvar w),fun x hx y hy hfy=> ?_⟩
  have hvv:inR l v (tvar v):=(zmB hA (zgE hv) rfl (by show ¬fndB l v=true;simp[hf])).2 rfl
  simp only
  by_cases hxv:x=v
  ·subst hxv
   rw[zu1 hO.good hf] at hy
   have h1:¬inR l x (tvar y):=fun h=>hn (zqQ t (valid_fits ht) hy h)
   have h2:=zs4 (l:=l) t (valid_fits ht) hy
   rw[if_pos hvv,if_neg h1]
   omega
  ·have hfx:fndB l x=true:=((ziN hO.good hf x).1 hx).resolve_left hxv
   rw[zgJ hO.good hf hfx] at hy
   have hto:=valid_fits (hO.to hfx).1
   have h2:=zs4 (l:=l) _ hto hy
   have h3:=zlB (l:=l) hA (t:=tvar x) rfl hfx
   have h3:mu l (toB l x)<mu l (tvar x):=h3
   have h4:inR l v (tvar y)->inR l v (tvar x):=fun h=>(zmC hA (t:=tvar x) rfl hfx).2 (zqQ _ hto hy h)
   by_cases h5:inR l v (tvar y)
   ·rw[if_pos h5,if_pos (h4 h5)];omega
   ·rw[if_neg h5]
    split <;> omega
def Flwd(l:List B)(x:Tm):Prop:=x.valid=true/\(x.kind=0->fndB l x.n=false/\x=tvar x.n/\0<=x.n/\x.n<=1099511627776)
theorem zt6{x:Tm}(hf:x.fits=true)(hk:x.kind=0):0<=x.n/\x.n<=1099511627776:=by
 exact zua hf x.n (by rw[Tm.occ_eq,if_pos hk];simp)
theorem zeK{l:List B}(hO:OKB l){t:Tm}(hv:t.valid=true):Flwd l (flw l t):=by
 obtain⟨h1,_,_,h4⟩:=zuT hO _ t rfl hv
 refine⟨h1,fun hk=>⟨?_,zbx (valid_fits h1) hk,zt6 (valid_fits h1) hk⟩⟩
 cases e:fndB l (flw l t).n with
 |false=>rfl
 |true=>exact absurd ⟨hk,e⟩ h4
theorem zqR{l:List B}(hO:OKB l){x:Tm}(hx:Flwd l x)(hk:x.kind=0)(v:Int):inR l v x↔v=x.n:=
 zmB hO.Acyc (valid_fits hx.1) hk (by simp[(hx.2 hk).1])
structure UBind(l:List B)(v:Int)(t:Tm):Prop where
 unb:fndB l v=false
 rng:0<=v/\v<=1099511627776
 val:t.valid=true
 out:¬inR l v t
theorem zn4{l:List B}(hO:OKB l){x y:Tm}(hx:Flwd l x)(hy:Flwd l y){v:Int}{t:Tm}(h:ustep l x y=.bind v t):UBind l v t:=by
 unfold ustep at h
 split at h
 ·rename_i hk
  have hx2:=hx.2 hk.1
  have hy2:=hy.2 hk.2
  split at h
  ·rename_i hlt
   cases h
   exact⟨hx2.1,hx2.2.2,hy.1,fun e=>by have:=(zqR hO hy hk.2 _).1 e;omega⟩
  ·split at h
   ·rename_i hlt
    cases h
    exact⟨hy2.1,hy2.2.2,hx.1,fun e=>by have:=(zqR hO hx hk.1 _).1 e;omega⟩
   ·cases h
 ·split at h
  ·rename_i hk
   split at h
   ·cases h
   ·rename_i hn
    cases h
    exact⟨(hx.2 hk).1,(hx.2 hk).2.2,hy.1,hn⟩
  ·split at h
   ·rename_i hk
    split at h
    ·cases h
    ·rename_i hn
     cases h
     exact⟨(hy.2 hk).1,(hy.2 hk).2.2,hx.1,hn⟩
   ·split at h <;> cases h
theorem zn5{l:List B}{x y:Tm}(hx:Flwd l x)(hy:Flwd l y){xs:List (Tm × Tm)}(h:ustep l x y=.args xs):(∀p∈xs,p.1.valid=true/\p.2.valid=true)/\xs.length<=2000:=by
 unfold ustep at h
 split at h
 ·split at h
  ·cases h
  ·split at h
   ·cases h
   ·cases h;exact⟨(fun p hp=>by cases hp),Nat.zero_le _⟩
 ·split at h
  ·split at h <;> cases h
  ·split at h
   ·split at h <;> cases h
   ·split at h
    ·cases h
     have hs:=valid_size hx.1
     have hse:=x.size_eq
     have hlen:=Tm.zvt x.args
     refine⟨fun p hp=> ?_,by rw[List.length_zip];omega⟩
     have:=List.of_mem_zip hp
     exact⟨za8 hx.1 this.1,za8 hy.1 this.2⟩
    ·cases h
inductive Vis(l:List B)(w:Int):Tm->Prop
 |to:fndB l w=true->Vis l w (toB l w)
 |arg {x u:Tm}:Vis l w x->¬x.kind=0->u∈x.args->Vis l w u
 |jump {x:Tm}:Vis l w x->x.kind=0->fndB l x.n=true->Vis l w (toB l x.n)
theorem Vis.lt{l:List B}(hA:Acyc l){w:Int}{x:Tm}(h:Vis l w x):mu l x<mu l (tvar w):=by
 induction h with
 |to hf=>exact zlB (t:=tvar w) hA rfl hf
 |arg _ hk hu ih=>have:=zs2 l hk hu;omega
 |jump _ hk hf ih=>have:=zlB hA hk hf;omega
theorem Vis.ins{l:List B}(hG:Good l){v:Int}{t:Tm}(hf:fndB l v=false){w:Int}{x:Tm}(h:Vis l w x):Vis (insB l v t) w x:=by
 induction h with
 |to h1=>
  have:=Vis.to (l:=insB l v t) (w:=w) ((ziN hG hf w).2 (.inr h1))
  rw[zgJ hG hf h1] at this
  exact this
 |arg _ hk hu ih=>exact ih.arg hk hu
 |jump _ hk h1 ih=>
  have:=ih.jump hk ((ziN hG hf _).2 (.inr h1))
  rw[zgJ hG hf h1] at this
  exact this
theorem Vis.flw{l:List B}(hO:OKB l){w:Int}:∀(k:Nat) (u:Tm),mu l u=k->u.valid=true->Vis l w u->Vis l w (flw l u):=by
 intro k
 induction k using Nat.strongRecOn with
 |_ k ih=>
  intro u hk hv h
  by_cases hk0:u.kind=0
  ·by_cases hf:fndB l u.n=true
   ·rw[zmD hO.Acyc hk0 hf]
    have:=zlB hO.Acyc hk0 hf
    exact ih _ (by omega) _ rfl (hO.to hf).1 (h.jump hk0 hf)
   ·rw[zfI hO.Acyc (valid_fits hv) hk0 hf];exact h
  ·rw[ziL l hk0];exact h
def PosI(l:List B)(u:Tm)(i:Nat):Prop:=∃D:List Int,D.Nodup/\(∀w∈D,fndB l w=true/\Vis l w u)/\i+u.size<=2000*(D.length+1)
def StkI(l:List B):List (Tm × Tm)->Prop
 |[]=>True
 |p::r=>PosI l p.1 r.length/\StkI l r
theorem PosI.ins{l:List B}(hG:Good l){v:Int}{t:Tm}(hf:fndB l v=false){u:Tm}{i:Nat}(h:PosI l u i):PosI (insB l v t) u i:=by
 obtain⟨D,h1,h2,h3⟩:=h
 exact⟨D,h1,fun w hw=>⟨(ziN hG hf w).2 (.inr (h2 w hw).1),(h2 w hw).2.ins hG hf⟩,h3⟩
theorem StkI.ins{l:List B}(hG:Good l){v:Int}{t:Tm}(hf:fndB l v=false):∀{r:List (Tm × Tm)},StkI l r->StkI (insB l v t) r
 |[],_=>trivial
 |_::_,h=>⟨h.1.ins hG hf,StkI.ins hG hf h.2⟩
theorem StkI.len{l:List B}{r:List (Tm × Tm)}(h:StkI l r):r.length<=2000*(l.length+1):=by
 cases r with
 |nil=>exact Nat.zero_le _
 |cons p r=>
  obtain⟨D,h1,h2,h3⟩:=h.1
  have:=zt0 h1 fun w hw=>(h2 w hw).1
  have h4:=p.1.size_eq
  simp only[List.length_cons]
  omega
theorem ziM{l:List B}{D:List Int}(h1:D.Nodup):∀(us vs:List Tm) (r:List (Tm × Tm)),us.length=vs.length->(∀u∈us,∀w∈D,fndB l w=true/\Vis l w u)->r.length+Tm.sizes us<=2000*(D.length+1)->StkI l r->StkI l (us.zip vs++r)
 |[],_,r,_,_,_,hr=>hr
 |u::us,[],r,hl,_,_,_=>by cases hl
 |u::us,v::vs,r,hl,hD,hs,hr=>by
  have hl':us.length=vs.length:=by simpa using hl
  have hs':r.length+(u.size+Tm.sizes us)<=2000*(D.length+1):=hs
  have hz:=Tm.zvt us
  refine⟨⟨D,h1,hD u List.mem_cons_self,?_⟩,ziM h1 us vs r hl' (fun x hx=>hD x (List.mem_cons_of_mem _ hx)) (by omega) hr⟩
  show(us.zip vs++r).length+u.size<=_
  rw[List.length_append,List.length_zip]
  omega
theorem StkI.push{l:List B}(hO:OKB l){p:Tm × Tm}{r:List (Tm × Tm)}(hp:p.1.valid=true)(h:StkI l (p::r))(vs:List Tm)(hk:¬(Go.Proofs.YtiifblpdlphchaaGreatRR.flw l p.1).kind=0)(hl:(Go.Proofs.YtiifblpdlphchaaGreatRR.flw l p.1).args.length=vs.length):StkI l ((Go.Proofs.YtiifblpdlphchaaGreatRR.flw l p.1).args.zip vs++r):=by
 obtain⟨⟨D,h1,h2,h3⟩,hr⟩:=h
 have hx:=zeK hO hp
 have hxs:=valid_size hx.1
 have hxe:=(Go.Proofs.YtiifblpdlphchaaGreatRR.flw l p.1).size_eq
 by_cases hk0:p.1.kind=0
 ·have hps:p.1.size=1:=by rw[zbx (valid_fits hp) hk0];rfl
  have hf:fndB l p.1.n=true:=by
   cases e:fndB l p.1.n with
   |true=>rfl
   |false=>exact absurd (by rw[zfI hO.Acyc (valid_fits hp) hk0 (by simp[e])];exact hk0) hk
  have hv:Vis l p.1.n (Go.Proofs.YtiifblpdlphchaaGreatRR.flw l p.1):=by
   rw[zmD hO.Acyc hk0 hf]
   exact Vis.flw hO _ _ rfl (hO.to hf).1 (.to hf)
  have hnm:p.1.n ∉ D:=fun hm=>by
   have:=(h2 _ hm).2.lt hO.Acyc
   rw[zsu (valid_fits hp) hk0] at this
   omega
  refine ziM (D:=p.1.n::D) (List.nodup_cons.2 ⟨hnm,h1⟩) _ vs r hl (fun u hu w hw=> ?_) (by simp only[List.length_cons];omega) hr
  rcases List.mem_cons.1 hw with rfl|hw
  ·exact⟨hf,hv.arg hk hu⟩
  ·exact⟨(h2 w hw).1,(Vis.flw hO _ _ rfl hp (h2 w hw).2).arg hk hu⟩
 ·rw[ziL l hk0] at hxe hk hl ⊢
  exact ziM h1 _ vs r hl (fun u hu w hw=>⟨(h2 w hw).1,(h2 w hw).2.arg hk0 hu⟩) (by omega) hr
def InV(V:List Int)(t:Tm):Prop:=∀w∈t.occ,w∈V
def InVB(V:List Int)(l:List B):Prop:=∀b∈l,b.1∈V/\InV V b.2
theorem InV.arg{V:List Int}{t u:Tm}(h:InV V t)(hk:¬t.kind=0)(hu:u∈t.args):InV V u:=fun w hw=>h w (Tm.zvM hk hu hw)
theorem InV.var{V:List Int}{t:Tm}(h:InV V t)(hk:t.kind=0):t.n∈V:=h _ (by rw[Tm.occ_eq,if_pos hk];simp)
theorem InV.flw{V:List Int}{l:List B}(hO:OKB l)(hb:InVB V l):∀(k:Nat) (u:Tm),mu l u=k->u.valid=true->InV V u->InV V (flw l u):=by
 intro k
 induction k using Nat.strongRecOn with
 |_ k ih=>
  intro u hk hv h
  by_cases hk0:u.kind=0
  ·by_cases hf:fndB l u.n=true
   ·rw[zmD hO.Acyc hk0 hf]
    have:=zlB hO.Acyc hk0 hf
    exact ih _ (by omega) _ rfl (hO.to hf).1 (hb _ (find_mem hf)).2
   ·rw[zfI hO.Acyc (valid_fits hv) hk0 hf];exact h
  ·rw[ziL l hk0];exact h
theorem InVB.len{V:List Int}{l:List B}(hG:Good l)(hb:InVB V l):l.length<=V.length:=by
 have h1:(l.map (·.1)).Nodup:=by
  refine List.pairwise_map.2 (hG.1.imp fun{a b} h=> ?_)
  omega
 have h2:=zgG (l.map (·.1)) V h1 fun x hx=>by
  obtain⟨b,hb1,rfl⟩:=List.mem_map.1 hx
  exact(hb b hb1).1
 rwa [List.length_map] at h2
theorem zly{V:List Int}{l:List B}{x y:Tm}(hx:InV V x)(hy:InV V y){v:Int}{t:Tm}(h:ustep l x y=.bind v t):v∈V/\InV V t:=by
 unfold ustep at h
 split at h
 ·rename_i hk
  split at h
  ·cases h;exact⟨hx.var hk.1,hy⟩
  ·split at h
   ·cases h;exact⟨hy.var hk.2,hx⟩
   ·cases h
 ·split at h
  ·rename_i hk
   split at h
   ·cases h
   ·cases h;exact⟨hx.var hk,hy⟩
  ·split at h
   ·rename_i hk
    split at h
    ·cases h
    ·cases h;exact⟨hy.var hk,hx⟩
   ·split at h <;> cases h
theorem zlz{V:List Int}{l:List B}{x y:Tm}(hx:InV V x)(hy:InV V y){xs:List (Tm × Tm)}(h:ustep l x y=.args xs):∀p∈xs,InV V p.1/\InV V p.2:=by
 unfold ustep at h
 split at h
 ·split at h
  ·cases h
  ·split at h
   ·cases h
   ·cases h;exact fun p hp=>by cases hp
 ·split at h
  ·split at h <;> cases h
  ·split at h
   ·split at h <;> cases h
   ·split at h
    ·rename_i hk1 hk2 _
     cases h
     exact fun p hp=>⟨hx.arg hk1 (List.of_mem_zip hp).1,hy.arg hk2 (List.of_mem_zip hp).2⟩
    ·cases h
structure RunI(V:List Int)(l0:List B)(p0:Tm × Tm)(n:Nat)(l:List B)(r:List (Tm × Tm)):Prop where
 okb:OKB l
 val:∀p∈r,p.1.valid=true/\p.2.valid=true
 eq:uni 1048576 l0 [p0]=uni n l r
 le:n<=1048576
 stk:StkI l r
 vb:InVB V l
 vp:∀p∈r,InV V p.1/\InV V p.2
theorem RunI.flw{V:List Int}{l0:List B}{p0:Tm × Tm}{n:Nat}{l:List B}{p:Tm × Tm}{r:List (Tm × Tm)}(h:RunI V l0 p0 n l (p::r)):InV V (flw l p.1)/\InV V (flw l p.2):=
 have hv:=h.val p List.mem_cons_self
 have hi:=h.vp p List.mem_cons_self
 ⟨InV.flw h.okb h.vb _ _ rfl hv.1 hi.1,InV.flw h.okb h.vb _ _ rfl hv.2 hi.2⟩
theorem RunI.bind{V:List Int}{l0:List B}{p0:Tm × Tm}{n:Nat}{l:List B}{p:Tm × Tm}{r:List (Tm × Tm)}(h:RunI V l0 p0 (n+1) l (p::r)){v:Int}{t:Tm}(hu:ustep l (Go.Proofs.YtiifblpdlphchaaGreatRR.flw l p.1) (Go.Proofs.YtiifblpdlphchaaGreatRR.flw l p.2)=.bind v t):RunI V l0 p0 n (insB l v t) r:=by
 have hbv:=zly h.flw.1 h.flw.2 hu
 obtain⟨hO,hv,he,hle,hs,hvb,hvp⟩:=h
 have hp:=hv p List.mem_cons_self
 have hb:=zn4 hO (zeK hO hp.1) (zeK hO hp.2) hu
 refine⟨zt5 hO hb.unb hb.rng hb.val hb.out,fun q hq=>hv q (List.mem_cons_of_mem _ hq),by rw[he,zsz r hu],by omega,StkI.ins hO.good hb.unb hs.2,fun b hb=> ?_,fun q hq=>hvp q (List.mem_cons_of_mem _ hq)⟩
 rcases zeH hb with rfl|h
 ·exact hbv
 ·exact hvb b h
theorem RunI.args{V:List Int}{l0:List B}{p0:Tm × Tm}{n:Nat}{l:List B}{p:Tm × Tm}{r:List (Tm × Tm)}(h:RunI V l0 p0 (n+1) l (p::r))(hk:¬(Go.Proofs.YtiifblpdlphchaaGreatRR.flw l p.1).kind=0)(hl:(Go.Proofs.YtiifblpdlphchaaGreatRR.flw l p.1).args.length=(Go.Proofs.YtiifblpdlphchaaGreatRR.flw l p.2).args.length)(hu:ustep l (Go.Proofs.YtiifblpdlphchaaGreatRR.flw l p.1) (Go.Proofs.YtiifblpdlphchaaGreatRR.flw l p.2)=.args ((Go.Proofs.YtiifblpdlphchaaGreatRR.flw l p.1).args.zip (Go.Proofs.YtiifblpdlphchaaGreatRR.flw l p.2).args)):RunI V l0 p0 n l ((Go.Proofs.YtiifblpdlphchaaGreatRR.flw l p.1).args.zip (Go.Proofs.YtiifblpdlphchaaGreatRR.flw l p.2).args++r):=by
 have hav:=zlz h.flw.1 h.flw.2 hu
 obtain⟨hO,hv,he,hle,hs,hvb,hvp⟩:=h
 have hp:=hv p List.mem_cons_self
 have ha:=zn5 (zeK hO hp.1) (zeK hO hp.2) hu
 exact⟨hO,fun q hq=>(List.mem_append.1 hq).elim (ha.1 q) fun hq=>hv q (List.mem_cons_of_mem _ hq),by rw[he,zsA r hu],by omega,hs.push hO hp.1 _ hk hl,hvb,fun q hq=>(List.mem_append.1 hq).elim (hav q) fun hq=>hvp q (List.mem_cons_of_mem _ hq)⟩
theorem zsi(s:List UInt8)(l:List Tm)(hs:(tstr s l).size<1000000000):W Z L 0 (g14).code ⟨params 0 (pvs [(none,.str s),(none,.sl (some 4) (Tm.pvs l))]),[]⟩ (endK (g14).results (Am.frozen (.tuple [(canR (tstr s l)).av,.pv none (.bool (tstr s l).valid)]))):=by
 have h1:=fun hp=>f_ok s l hp
 have h2:=fun hp=>zqH (tstr s l) hp hs
 have h3:=fun hp=>zb4 (tstr s l) hp hs
 generalize tstr s l=g at h1 h2 h3 ⊢
 simp only[Tm.av] at h1 h2 h3
 simp -dsimp -implicitDefEqProofs only[go_sem,seval,↓reduceIte,Tm.av,h1,h2,h3,zac (Nat.zero_le _)]
 exact⟨_,rfl⟩
theorem zmr(s:List UInt8)(l:List Tm)(hs:(tstr s l).size<1000000000)(hp:Heap):S 14 [.pv none (.str s),.tsl (some 4) (Tm.pvs l)] hp=some (.ret (.tuple [(canR (tstr s l)).av,.pv none (.bool (tstr s l).valid)]),hp):=
 zal (ps:=[(none,.str s),(none,.sl (some 4) (Tm.pvs l))]) rfl rfl rfl rfl rfl (zsi s l hs)
theorem ziF(L:List Int)(t:Tm):(Tm.sub (cPos L) t).kind=t.kind:=by
 rw[Tm.zvy]
 split
 ·rename_i h
  rw[h]
  rfl
 ·rfl
theorem zms(s:List UInt8)(l:List Tm):canT (tstr s l)=tstr s (l.map (Tm.sub (cPos (vads [] (Tm.occs l))))):=by
 have ho:(tstr s l).occ=Tm.occs l:=by rw[Tm.occ_eq];rfl
 unfold canT
 rw[Tm.zvy,ho]
 rfl
theorem zmt(L:List Int)(t:Tm):cs (Tm.sub (cPos L) t)↔cs t:=by
 by_cases hk:t.kind=0
 ·constructor
  ·intro h
   have:=h.1
   rw[ziF,hk] at this
   cases this
  ·intro h
   have:=h.1
   rw[hk] at this
   cases this
 ·rw[zcu hk]
  unfold cs
  show t.kind=3/\t.name=[46]/\(t.args.map _).length=2↔_
  rw[List.length_map]
theorem zmu(L:List Int){t:Tm}(h:cs t):arg1 (Tm.sub (cPos L) t)=Tm.sub (cPos L) (arg1 t):=by
 have hk:¬t.kind=0:=by rw[h.1];decide
 rw[zcu hk]
 have e:(Tm.mk t.kind t.n t.name (t.args.map (Tm.sub (cPos L)))).args=[Tm.sub (cPos L) (arg0 t),Tm.sub (cPos L) (arg1 t)]:=by
  show t.args.map _=_
  rw[args_two h.2.2]
  rfl
 generalize Tm.mk t.kind t.n t.name (t.args.map (Tm.sub (cPos L)))=u at e
 conv=>lhs;unfold arg1
 rw[e]
theorem zsj(L:List Int){t:Tm}(h:cs t):arg0 (Tm.sub (cPos L) t)=Tm.sub (cPos L) (arg0 t):=by
 have hk:¬t.kind=0:=by rw[h.1];decide
 rw[zcu hk]
 have e:(Tm.mk t.kind t.n t.name (t.args.map (Tm.sub (cPos L)))).args=[Tm.sub (cPos L) (arg0 t),Tm.sub (cPos L) (arg1 t)]:=by
  show t.args.map _=_
  rw[args_two h.2.2]
  rfl
 generalize Tm.mk t.kind t.n t.name (t.args.map (Tm.sub (cPos L)))=u at e
 conv=>lhs;unfold arg0
 rw[e]
theorem zsX(L:List Int):∀(n:Nat) (t:Tm),t.size=n->tl (Tm.sub (cPos L) t)=Tm.sub (cPos L) (tl t):=by
 intro n
 induction n using Nat.strongRecOn with
 |_ n ih=>
  intro t hn
  by_cases h:cs t
  ·have hlt:=Tm.zvv (zbL h.2.2)
   rw[tl_c h,tl_c ((zmt L t).2 h),zmu L h,ih _ (by omega) _ rfl]
  ·rw[tl_n h,tl_n fun h'=>h ((zmt L t).1 h')]
theorem zqm(L:List Int):∀(n:Nat) (t:Tm),t.size=n->els (Tm.sub (cPos L) t)=(els t).map (Tm.sub (cPos L)):=by
 intro n
 induction n using Nat.strongRecOn with
 |_ n ih=>
  intro t hn
  by_cases h:cs t
  ·have hlt:=Tm.zvv (zbL h.2.2)
   rw[zln h,zln ((zmt L t).2 h),zmu L h,zsj L h,ih _ (by omega) _ rfl,List.map_cons]
  ·rw[zlo h,zlo fun h'=>h ((zmt L t).1 h')]
   rfl
end Go.Proofs.YtiifblpdlphchaaGreatRR
