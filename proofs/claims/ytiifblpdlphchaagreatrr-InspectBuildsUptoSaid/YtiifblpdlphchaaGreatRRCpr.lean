/- What is proved: inspect.Call, given what its execute returns. -/
import Derived.Test.YtiifblpdlphchaaGreatRRDfr
import Derived.Test.YtiifblpdlphchaaGreatRRAm5
import Derived.Test.YtiifblpdlphchaaGreatRRSml
set_option linter.unusedSimpArgs false
set_option linter.unusedVariables false
namespace Go.Proofs.YtiifblpdlphchaaGreatRR
open Go.Am
structure IsT(v:AV)(hp:Heap)(l:List Tm):Prop where
 len:sLen [v]=some (.pv none (.int .i64 l.length))
 idx:∀(i:Nat) (u:Tm),l[i]? =some u->∃p,(∀(s:Sh) (k:IntKind),zaT (some 4) [v,.pv s (.int k i)]=some p)/\aload (some 4) hp p=some (.pv (some 4) u.pv)
def zgU(ts:List Tm)(e:Int):List Tm × Int:=if e≠0 then([],e) else if 1000<ts.length then([],2) else if ts.all Tm.valid=true then(ts,0) else([],2)
def runV(g:Tm)(k:Nat):PV:=.agg [(some 4,g.pv),(none,.int .i64 (k:Int))]
def hE(g:Tm):Heap:=[.box (some 4) (.pv (some 4) g.pv),.box none (.sl (some 4) 2 0 0 0),.arr (some 4) [] false,.box (some 4) (cagg 0 4),.arr (some 4) [] false,.box none (.pv none (.int .i64 0)),.box (some 5) (.pv (some 5) (runV g (vads [] g.occ).length))]
theorem zbv(t:Tm)(hp:Heap):S 47 [t.av] hp=some (.ret (.pv none (.bool (decide (t.kind=3)))),hp):=by
 refine zak rfl rfl rfl (zab [(some 4,t.pv)]) rfl ?_
 simp -dsimp -implicitDefEqProofs only[go_sem,seval,↓reduceIte,Tm.av,zap]
theorem zgl(a0:AObj)(s:AV)(r:Heap):zaC none 0 (a0::.box none s::r) [.ptr 1 0,.tsl (some 4) []]=some (.undef,a0::.box none (.sl (some 4) (r.length+2) 0 0 0)::(r++[.arr (some 4) [] false])):=by
 simp[zaC,astore,AV.shp,AV.plain,AV.own,zcL]
theorem ze1(a0:AObj)(s:AV)(r:Heap):zcC none 0 (a0::.box none s::r) [.ptr 1 0,.tsl (some 4) [],.ptr 5 0]=some (.undef,a0::.box none (.sl (some 4) (r.length+2) 0 0 0)::(r++[.arr (some 4) [] false])):=by
 simp[zcC,astore,AV.shp,AV.plain,AV.own,zcL,zgX]
def zagC:AV:=.agg [(none,.pv none (.int .i64 0)),(none,.pv none (.int .i64 0)),(none,.pv none (.str [])),(none,.tsl (some 4) [])]
theorem zdY(a0 a1 a2:AObj)(s:AV)(r:Heap):zaC (some 4) 0 (a0::a1::a2::.box (some 4) s::r) [.ptr 3 0,zagC]=some (.undef,a0::a1::a2::.box (some 4) (cagg 0 (r.length+4))::(r++[.arr (some 4) [] false])):=by
 simp[zaC,astore,AV.shp,AV.plain,AV.own,zcL,zagC,cagg,zaq,zdo,total,Sh.size]
theorem zdE(a0 a1 a2:AObj)(s:AV)(r:Heap):zcC (some 4) 0 (a0::a1::a2::.box (some 4) s::r) [.ptr 3 0,zagC,.ptr 5 0]=some (.undef,a0::a1::a2::.box (some 4) (cagg 0 (r.length+4))::(r++[.arr (some 4) [] false])):=by
 simp[zcC,astore,AV.shp,AV.plain,AV.own,zcL,zagC,cagg,zaq,zdo,total,Sh.size,zgX]
theorem zrB(H:Heap):sem (find tab) prim .dfr 48 [.pv none .niliface,.ptr 1 0,.ptr 3 0,.ptr 5 0] H=some (.ret (.tuple []),H):=by
 refine zrL (t:=6) rfl rfl rfl rfl ?_
 have hin:zfI true [.pv none .niliface]=some (.pv none (.bool false)):=rfl
 simp -dsimp -implicitDefEqProofs only[go_sem,seval,↓reduceIte,hin,zjX,List.append_assoc,zaj,zag,zan,zah,Nat.add_assoc,List.length_append]
 simp
theorem ziu{fr:Fr}{hp0 H:Heap}{es:List PV}{n q1 q2:Nat}{b1 b2:Bool}{e:Int}(hf:fr.look 33=some (.func (.func 48) [] [.ptr 1 0,.ptr 3 0,.ptr 5 0]))(h1:H[1]? =some (.box none (.sl (some 4) q1 n 0 n)))(h3:H[3]? =some (.box (some 4) (cagg 0 q2)))(h5:H[5]? =some (.box none (.pv none (.int .i64 e))))(he:H[q1]? =some (.arr (some 4) es b1))(hn:es.length=n)(hz:H[q2]? =some (.arr (some 4) [] b2))(hq:q1≠q2):
  outD (find tab) prim [(2,some none),(3,some (some 4)),(4,some none)] 33 (.tuple [.pv none (.sl (some 4) es),.pv (some 4) zt.pv,.pv none (.int .i64 e)]) ⟨fr,hp0⟩ .niliface ⟨[(2,.ptr 1 0),(3,.ptr 3 0),(4,.ptr 5 0)],H⟩:=by
 refine⟨_,[],_,hf,.tuple [],H,.tuple [.sl (some 4) q1 n 0 n,cagg 0 q2,.pv none (.int .i64 e)],zrB H,?_,?_⟩
 ·simp[zas,zaR,zcq,Fr.look,h1,h3,h5,cagg,aload,zig,AV.shp,total,Sh.size]
 ·have hz':(H.set q1 (.arr (some 4) es true))[q2]? =some (.arr (some 4) [] b2):=by rw[List.getElem?_set_ne hq];exact hz
  have e1:AV.freeze deep (.sl (some 4) q1 n 0 n) H=some (.sl (some 4) es,H.set q1 (.arr (some 4) es true)):=by
   simp[AV.freeze,deep,he,hn]
  have e2:AV.freeze deep (cagg 0 q2) (H.set q1 (.arr (some 4) es true))=some (zt.pv,(H.set q1 (.arr (some 4) es true)).set q2 (.arr (some 4) [] true)):=by
   have e:∀l hp,AV.freeze (7+1) (.agg l) hp=match AV.freeze.go 7 l hp with|some (ps,hp')=>some (.agg ps,hp')|none=>none:=fun _ _=>rfl
   show AV.freeze (7+1) (.agg _) _=_
   simp[e,AV.freeze.go,AV.freeze,hz']
   rfl
  have e3:∀X,AV.freeze deep (.pv none (.int .i64 e)) X=some (.int .i64 e,X):=fun _=>rfl
  refine⟨(H.set q1 (.arr (some 4) es true)).set q2 (.arr (some 4) [] true),?_⟩
  have e4:(cagg 0 q2).shp=some 4:=rfl
  simp[AV.freezeRes,zal,e1,e2,e3,pvs,e4,AV.shp]
  exact rfl
theorem zgm{Γ:Oracle}{b:Nat}{vs:List AV}{hp:Heap}{K:AV->Heap->Prop}{Kp:PV->Heap->Prop}(sh:Sh):opK (aOp Γ b (.storex sh) vs hp) K Kp=zb2 (zcD sh b hp vs) K:=by
 show opK (match zcD sh b hp vs with|some (v,hp')=>some (OpRes.val v hp')|none=>none) K Kp=_
 cases zcD sh b hp vs with
 |none=>rfl
 |some r=>cases r;rfl
def kC(a0 x6:AObj)(ext:Heap)(j:Nat)(es:List PV):Heap:=a0::.box none (.sl (some 4) 2 j 0 j)::.arr (some 4) es false::.box (some 4) (cagg 0 4)::.arr (some 4) [] false::.box none (.pv none (.int .i64 0))::x6::ext
theorem zt6{a0 x6:AObj}{ext:Heap}{j:Nat}{es:List PV}(h:es.length=j)(hj:j<1000000)(p:PV)(X:Heap):zaJ (some 4) (kC a0 x6 ext j es++X) [.sl (some 4) 2 j 0 j,.tsl (some 4) [p]]=some (.sl (some 4) 2 (j+1) 0 (j+1),kC a0 x6 ext j (es++[p])++X):=by
 have hlim:j+1<=lim:=by unfold lim;omega
 simp[zaJ,aappend,elems,kC,h,hlim]
theorem zuQ{a0 x6:AObj}{ext:Heap}{j:Nat}{es:List PV}(h:es.length=j)(p q:PV)(X:Heap):zaC (some 4) 0 (kC a0 x6 ext j (es++[p])++X) [.eptr (some 4) 2 (j+1) (0+j) 0,.pv (some 4) q]=some (.undef,kC a0 x6 ext j (es++[q])++X):=by
 have e:AV.freeze deep (.pv (some 4) q) (kC a0 x6 ext j (es++[p])++X)=some (q,kC a0 x6 ext j (es++[p])++X):=rfl
 simp only[zaC,astore,AV.shp,e]
 simp[kC,h]
theorem zt7{a0 x6:AObj}{ext:Heap}{j:Nat}{es:List PV}(q:PV)(s:Sh)(r v i o:Nat)(X:Heap):zcD none 0 (kC a0 x6 ext j es++X) [.ptr 1 0,.sl (some 4) 2 (j+1) 0 (j+1),.eptr s r v i o,.pv (some 4) q]=some (.undef,kC a0 x6 ext (j+1) es++X):=by
 simp[zcD,astore,AV.shp,AV.plain,AV.own,kC]
theorem zt8{a0 x6:AObj}{ext X:Heap}(hp:ext <+: X){j:Nat}{es:List PV}(fr:Fr)(Y:Heap):∃Z,ext <+: Z/\collect (ext.length+7) 0 fr (kC a0 x6 X j es++Y)=kC a0 x6 Z j es:=by
 have e:kC a0 x6 X j es++Y=kC a0 x6 (X++Y) j es:=rfl
 rw[e]
 unfold collect
 split
 ·refine⟨ext,List.prefix_refl _,?_⟩
  obtain⟨Y2,rfl⟩:=hp
  rw[List.append_assoc]
  simp only[kC,List.take_succ_cons,List.take_left]
 ·exact⟨X++Y,hp.trans (List.prefix_append _ _),rfl⟩
theorem zrC(g:Tm)(hp:Heap)(hv:g.valid=true)(hc:canT g=g)(hk:g.kind=3)(hn:g.name∈zbx g.args.length)(ts:List Tm)(e:Int)(lv:AV)(x6:AObj)(ext:Heap)
  (he:S 50 [.ptr 6 0] (hE g)=some (.ret (.tuple [lv,.pv none (.int .i64 e)]),(hE g).take 6++x6::ext))(hL:∀H:Heap,(∀j x,6<=j->((hE g).take 6++x6::ext)[j]? =some x->H[j]? =some x)->IsT lv H ts)(hlt:ts.length<100000000)(hts:∀t∈ts,t.size<1000000):
  S 20 [g.av] hp=some (.ret (.tuple [.pv none (.sl (some 4) (Tm.pvs (zgU ts e).1)),zt.av,.pv none (.int .i64 (zgU ts e).2)]),hp):=by
 refine zjW rfl rfl rfl (zab [(some 4,g.pv)]) rfl rfl ?_
 have hsz:=valid_size hv
 have h1:=fun hp=>zcz g hp (by omega)
 have h2:=fun hp=>zrG g hp (by omega)
 have h3:=fun hp=>zr3 g g hp (by omega) (by omega)
 have h4:=fun hp=>zbv g hp
 have h5:=fun hp=>zuh g.name g.args.length hp
 have h6:=fun hp=>zsc g hv hp
 have hcr:canR g=g:=by unfold canR;rw[if_pos hv,hc]
 have hsm:same g g=true:=by simp[same,hv,Tm.cmp_zero]
 rw[hcr] at h2
 rw[hsm] at h3
 rw[hv] at h1
 have hn':decide (g.name∈zbx g.args.length)=true:=decide_eq_true hn
 rw[hn'] at h5
 have hk':decide (g.kind=3)=true:=decide_eq_true hk
 rw[hk'] at h4
 have hal:∀a0:AObj,zcp none (.tsl (some 4) []) [a0] []=some (.ptr 1 0,[a0,.box none (.sl (some 4) 2 0 0 0),.arr (some 4) [] false]):=fun _=>rfl
 have hnx:(ints (vads [] g.occ)).length=(vads [] g.occ).length:=zbn _
 simp only[Tm.av] at h1 h2 h3 h4 h5 h6
 have hbu:∀k:Nat,zaQ [(some 4,.agg [(none,.pv none (.int .i64 0)),(none,.pv none (.int .i64 0)),(none,.pv none (.str [])),(none,.tsl (some 4) [])]),(none,.pv none (.int .i64 0))] [0,1] [.pv (some 4) g.pv,.pv none (.int .i64 (k:Int))]=some (.pv (some 5) (runV g k)):=fun _=>rfl
 simp only[hE,cagg,List.take_succ_cons,List.take_zero,List.cons_append,List.nil_append] at he
 have hz0:zaQ [(none,.pv none (.int .i64 0)),(none,.pv none (.int .i64 0)),(none,.pv none (.str [])),(none,.tsl (some 4) [])] [] []=some zagC:=rfl
 by_cases h0:e=0
 rotate_left
 ·have hr:zgU ts e=([],e):=by simp[zgU,h0]
  rw[hr]
  simp -dsimp -implicitDefEqProofs only[go_sem,seval,↓reduceIte,Tm.av,hal,hbu,hz0,h0,h1,h2,h3,h4,h5,h6,hnx,he,zgl,ze1,zdY,zdE,zao,zad,Tm.pvs_len,zae (Nat.zero_le _),zaz,zcy,zbw,zc8,zbO,List.append_assoc,zaj,zag,zan,zah,Nat.add_assoc,List.length_append]
  exact⟨rfl,ziu (es:=[]) (b1:=false) (b2:=false) rfl rfl rfl rfl (by simp) rfl (by simp) (by omega)⟩
 subst h0
 have hlen:=(hL ((hE g).take 6++x6::ext) fun _ _ _ h=>h).len
 by_cases hg:(1000:Int)<(ts.length:Int)
 ·have hr:zgU ts 0=([],2):=by
   have:1000<ts.length:=by omega
   simp[zgU,this]
  rw[hr]
  simp -dsimp -implicitDefEqProofs only[go_sem,seval,↓reduceIte,Tm.av,hal,hbu,hz0,hg,hlen,h1,h2,h3,h4,h5,h6,hnx,he,zgl,ze1,zdY,zdE,zao,zad,Tm.pvs_len,zae (Nat.zero_le _),zaz,zcy,zbw,zc8,zbO,List.append_assoc,zaj,zag,zan,zah,Nat.add_assoc,List.length_append]
  exact⟨rfl,ziu (es:=[]) (b1:=false) (b2:=false) rfl rfl rfl rfl (by simp) rfl (by simp) (by omega)⟩
 have hg':¬1000<ts.length:=by omega
 have hr:zgU ts 0=if ts.all Tm.valid=true then(ts,0) else([],2):=by simp[zgU,hg']
 simp -dsimp -implicitDefEqProofs only[go_sem,seval,↓reduceIte,Tm.av,hal,hbu,hz0,hg,hlen,h1,h2,h3,h4,h5,h6,hnx,he,zgl,ze1,zdY,zdE,zao,zad,Tm.pvs_len,zae (Nat.zero_le _),zaz,zcy,zbw,zc8,zbO,List.append_assoc,zaj,zag,zan,zah,Nat.add_assoc,List.length_append]
 refine⟨rfl,?_⟩
 refine zet (α:=Heap) ts.length (fun i X=>ext <+: X/\∀t∈ts.take i,t.valid=true) (fun i X=>⟨[(2,.ptr 1 0),(3,.ptr 3 0),(4,.ptr 5 0),(53,lv),(54,.pv none (.int .i64 ts.length)),(55,.pv none (.int .i64 i))],kC (.box (some 4) (.pv (some 4) g.pv)) x6 X i (Tm.pvs (ts.take i))⟩) ext ⟨⟨List.prefix_refl _,?_⟩,?_⟩ ?_ ?_
 ·intro t ht
  simp at ht
 ·rfl
 ·rintro i X0 h ⟨hpre,hinv⟩
  obtain⟨K,hK⟩:∃K:Nat->List PV->Heap,K=kC (.box (some 4) (.pv (some 4) g.pv)) x6 X0:=⟨_,rfl⟩
  obtain⟨n,hn2⟩:∃n,n=X0.length+7:=⟨_,rfl⟩
  have hKl:∀j es,(K j es).length=n:=fun j es=>by rw[hK,hn2];rfl
  have hK1:∀j es X,(K j es++X)[1]? =some (.box none (.sl (some 4) 2 j 0 j)):=fun j es X=>by rw[hK];rfl
  have hKK:kC (.box (some 4) (.pv (some 4) g.pv)) x6 X0 i (Tm.pvs (ts.take i))=K i (Tm.pvs (ts.take i)):=by rw[hK]
  rw[hKK]
  have hc:(i:Int)<(ts.length:Int):=by omega
  obtain⟨u,hu⟩:∃u,ts[i]? =some u:=⟨_,List.getElem?_eq_getElem h⟩
  have w2:IntKind.i64.wrap ((i:Int)+1)=((i+1:Nat):Int):=by rw[zaO (by omega) (by omega)];omega
  have husz:=hts u (List.mem_of_getElem? hu)
  have h7:=fun hp=>zcz u hp (by omega)
  simp only[Tm.av] at h7
  have hl:(Tm.pvs (ts.take i)).length=i:=by rw[Tm.pvs_len,List.length_take];omega
  obtain⟨p,hp1,hp2⟩:=(hL (K i (Tm.pvs (ts.take i))) fun j x hj hx=>by
   rw[hK]
   match j,hj with
   |6,_=>exact hx
   |j+7,_=>
    obtain⟨Y,hY⟩:=hpre
    have h1:ext[j]? =some x:=hx
    show X0[j]? =some x
    rw[<-hY,List.getElem?_append_left (zbs h1),h1]).idx i u hu
  have happ:=fun p X=>zt6 (a0:=.box (some 4) (.pv (some 4) g.pv)) (x6:=x6) (ext:=X0) hl (by omega) p X
  have hste:=fun p q X=>zuQ (a0:=.box (some 4) (.pv (some 4) g.pv)) (x6:=x6) (ext:=X0) hl p q X
  have hstx:=fun(j:Nat) (es:List PV) (q:PV) s r v i o X=>zt7 (a0:=.box (some 4) (.pv (some 4) g.pv)) (x6:=x6) (ext:=X0) (j:=j) (es:=es) q s r v i o X
  rw[<-hK] at happ hste hstx
  have hwk:zaF [.agg [(none,.pv none (.int .i64 0)),(none,.pv none (.int .i64 0)),(none,.pv none (.str [])),(none,.tsl (some 4) [])]]=some [(some 4,zt.pv)]:=rfl
  have hia:zaT (some 4) [.sl (some 4) 2 (i+1) 0 (i+1),.pv none (.int .i64 i)]=some (.eptr (some 4) 2 (i+1) (0+i) 0):=zeX (by omega)
  rw[Nat.zero_add] at hia
  simp only[Nat.zero_add] at hste
  have htk:Tm.pvs (ts.take i)++[u.pv]=Tm.pvs (ts.take (i+1)):=Tm.zu0 hu
  by_cases hvu:u.valid=true
  ·have h8:=fun hp=>ziv u hp hvu (by omega)
   simp only[Tm.av] at h8
   simp -dsimp -implicitDefEqProofs only[go_sem,seval,↓reduceIte,zgm,Tm.av,hc,h7,h8,hvu,w2,hp1,hp2,hwk,htk,hia,hK1,happ,hste,hstx,hKl,zgl,ze1,zdY,zdE,zao,zad,Tm.pvs_len,zae (Nat.zero_le _),zaz,zcy,zbw,zc8,zbO,List.append_assoc,zaj,zag,zan,zah,Nat.add_assoc,List.length_append,getN (hKl _ _),zdG (hKl _ _),setN (hKl _ _),zdV (hKl _ _)]
   have hc2:∀fr Y,∃Z,ext <+: Z/\collect (ext.length+7) 0 fr (K (i+1) (Tm.pvs (ts.take (i+1)))++Y)=kC (.box (some 4) (.pv (some 4) g.pv)) x6 Z (i+1) (Tm.pvs (ts.take (i+1))):=fun fr Y=>by
    rw[hK]
    exact zt8 hpre fr Y
   obtain⟨Z,hZ1,hZ⟩:=hc2 [(2,.ptr 1 0),(3,.ptr 3 0),(4,.ptr 5 0),(53,lv),(54,.pv none (.int .i64 ts.length)),(55,.pv none (.int .i64 (i+1:Nat)))] [.box (some 4) (.pv (some 4) u.pv),.arr (some 4) [] false]
   refine⟨Z,⟨hZ1,fun t ht=> ?_⟩,?_⟩
   ·rw[List.take_add_one,hu,List.mem_append] at ht
    rcases ht with ht|ht
    ·exact hinv t ht
    ·simp at ht
     rw[ht]
     exact hvu
   ·rw[hZ]
  ·have hvu':u.valid=false:=by simpa using hvu
   have hall:ts.all Tm.valid=false:=by
    rw[List.all_eq_false]
    exact⟨u,List.mem_of_getElem? hu,hvu⟩
   rw[hr,hall]
   simp -dsimp -implicitDefEqProofs only[go_sem,seval,↓reduceIte,zgm,Tm.av,hc,h7,hvu',hz0,hp1,hp2,hK1,hKl,zgl,ze1,zdY,zdE,zao,zad,Tm.pvs_len,zae (Nat.zero_le _),zaz,zcy,zbw,zc8,zbO,List.append_assoc,zaj,zag,zan,zah,Nat.add_assoc,List.length_append,getN (hKl _ _),zdG (hKl _ _),setN (hKl _ _),zdV (hKl _ _)]
   simp -dsimp -implicitDefEqProofs only[hK,kC,go_sem,seval,↓reduceIte,zgl,zdY,zcy,zbw,zc8,zbO,List.append_assoc,zaj,zag,zan,zah,Nat.add_assoc,List.length_append]
   exact ziu (es:=[]) (b1:=false) (b2:=false) rfl rfl rfl rfl (by simp) rfl (by simp) (by omega)
 ·rintro X0 ⟨hpre,hinv⟩
  have hc:¬(ts.length:Int)<(ts.length:Int):=by omega
  rw[List.take_length] at hinv ⊢
  have hall:ts.all Tm.valid=true:=List.all_eq_true.2 hinv
  rw[hr,if_pos hall]
  simp -dsimp -implicitDefEqProofs only[go_sem,seval,↓reduceIte,zgm,Tm.av,hc,hz0,kC,zgl,ze1,zdY,zdE,zao,zad,Tm.pvs_len,zae (Nat.zero_le _),zaP (Nat.zero_le _),zaz,zcy,zbw,zc8,zbO,List.append_assoc,zaj,zag,zan,zah,Nat.add_assoc,List.length_append]
  exact ziu (b1:=false) (b2:=false) rfl rfl rfl rfl (by simp) (Tm.pvs_len _) (by simp) (by omega)
theorem zsd{Γ:Oracle}{b:Nat}{vs:List AV}{hp:Heap}{K:AV->Heap->Prop}{Kp:PV->Heap->Prop}(neg:Bool):opK (aOp Γ b (.slnil neg) vs hp) K Kp=valK (zfJ neg vs) fun v=>K v hp:=by
 show opK (match(match zfJ neg vs with|some v=>some (v,hp)|none=>none) with|some (v,hp')=>some (OpRes.val v hp')|none=>none) K Kp=_
 cases zfJ neg vs <;> rfl
theorem zkc(g:Tm)(k:Nat):PV.part deep (runV g k) 0 (some 4)=some g.pv:=by cases g;rfl
theorem zgG(g:Tm)(k:Nat):PV.part deep (runV g k) 3 none=some (.sl (some 4) (Tm.pvs g.args)):=by cases g;rfl
theorem zgH(g:Tm)(k:Nat):PV.part deep (runV g k) 2 none=some (.str g.name):=by cases g;rfl
theorem zqs(g:Tm)(k:Nat):PV.part deep (runV g k) 4 none=some (.int .i64 (k:Int)):=by cases g;rfl
theorem zse(g:Tm)(s:Sh)(q v o n:Nat):AV.upd deep (.pv (some 4) g.pv) 3 none (.sl s q v o n)=some (.agg [(none,.pv none (.int .i64 g.kind)),(none,.pv none (.int .i64 g.n)),(none,.pv none (.str g.name)),(none,.sl s q v o n)]):=by cases g;rfl
theorem zbI(t:Tm)(hp:Heap):S 71 [t.av] hp=some (.ret (.pv none (.bool (decide (t.kind=0)))),hp):=by
 refine zak rfl rfl rfl (zab [(some 4,t.pv)]) rfl ?_
 simp -dsimp -implicitDefEqProofs only[go_sem,seval,↓reduceIte,Tm.av,zap]
theorem ziL(t:Tm)(hp:Heap):S 74 [t.av] hp=some (.ret (.pv none (.bool (decide (t.kind=1)))),hp):=by
 refine zak rfl rfl rfl (zab [(some 4,t.pv)]) rfl ?_
 simp -dsimp -implicitDefEqProofs only[go_sem,seval,↓reduceIte,Tm.av,zap]
theorem zgI(t:Tm)(hp:Heap):S 73 [t.av] hp=some (.ret (.pv none (.bool (decide (t.kind=2)))),hp):=by
 refine zak rfl rfl rfl (zab [(some 4,t.pv)]) rfl ?_
 simp -dsimp -implicitDefEqProofs only[go_sem,seval,↓reduceIte,Tm.av,zap]
theorem zeC(v:AV)(hp:Heap):S 122 [.pv none (.bool false),v] hp=some (.ret (.tuple []),hp):=by
 refine zay rfl rfl rfl rfl ?_
 simp -dsimp -implicitDefEqProofs only[go_sem,seval,↓reduceIte,List.append_assoc,zaj,zag,zan,zah,Nat.add_assoc,List.length_append]
 exact List.take_length
theorem zeD(s:List UInt8)(t:Tm)(hp:Heap):S 123 [.pv none (.str s),t.av] hp=some (.ret (.func (.func 139) [] [.ptr hp.length 0,.ptr (hp.length+1) 0]),hp++[.box none (.pv none (.str s)),.box (some 4) (.pv (some 4) t.pv)]):=by
 refine zay rfl rfl rfl rfl ?_
 simp -dsimp -implicitDefEqProofs only[go_sem,seval,↓reduceIte,Tm.av,List.append_assoc,zaj,zag,zan,zah,Nat.add_assoc,List.length_append]
 rw[if_neg (by simp[AV.refsIn,AV.refsIn.gol])]
theorem zeE(es:List PV)(hne:0<es.length)(hl:es.length<=10)(hp:Heap):S 95 [.pv none (.sl (some 4) es)] hp=some (.ret (.sl (some 4) (hp.length+1) es.length 0 es.length),hp++[.arr (some 4) [] false,.arr (some 4) es false]):=by
 refine zay rfl rfl rfl rfl ?_
 have hlim:es.length<=lim:=by unfold lim;omega
 have happ:∀H:Heap,zaJ (some 4) H [.tsl (some 4) [],.pv none (.sl (some 4) es)]=some (.sl (some 4) H.length es.length 0 es.length,H++[.arr (some 4) es false]):=fun H=>by
  have hne':¬es=[]:=fun e=>by rw[e] at hne;simp at hne
  simp[zaJ,aappend,elems,hlim,zcL,hne']
 have hni:zfJ false [.pv none (.sl (some 4) es)]=some (.pv none (.bool false)):=by
  cases es with
  |nil=>simp at hne
  |cons x r=>rfl
 simp -dsimp -implicitDefEqProofs only[go_sem,seval,↓reduceIte,zsd,hni,hlim,happ,za9 (sh:=some 4) (by decide),List.append_assoc,zaj,zag,zan,zah,Nat.add_assoc,List.length_append]
 rw[if_neg (by simp[AV.refsIn])]
def setA(g:Tm)(i:Nat)(u:Tm):Tm:=.mk g.kind g.n g.name (g.args.set i u)
theorem ztD(l:List Tm)(i:Nat)(u:Tm):(Tm.pvs l).set i u.pv=Tm.pvs (l.set i u):=by
 simp[Tm.zvb,List.map_set]
def wJ(n:Nat)(g:Tm)(i:Nat)(u:Tm):Heap:=[.box (some 4) (.pv (some 4) u.pv),.arr (some 4) [] false,.box (some 4) (.agg [(none,.pv none (.int .i64 g.kind)),(none,.pv none (.int .i64 g.n)),(none,.pv none (.str g.name)),(none,.sl (some 4) (n+5) g.args.length 0 g.args.length)]),.arr (some 4) [] false,.arr (some 4) [] false,.arr (some 4) (Tm.pvs (g.args.set i u)) true,.arr (some 4) [(setA g i u).pv] false]
theorem ziM(g:Tm)(k:Nat)(i:Nat)(u:Tm)(hi:i<g.args.length)(hl:g.args.length<=8)(hp:Heap)(r:Nat)(hr:hp[r]? =some (.box (some 5) (.pv (some 5) (runV g k)))):
  S 101 [.ptr r 0,.pv none (.int .i64 i),u.av] hp=some (.ret (.sl (some 4) (hp.length+6) 1 0 1),hp++wJ hp.length g i u):=by
 refine zay rfl rfl rfl rfl ?_
 have h1:=fun hp=>zeE (Tm.pvs g.args) (by rw[Tm.pvs_len];omega) (by rw[Tm.pvs_len];omega) hp
 have hlt:=zbs hr
 have hia:∀q,zaT (some 4) [.sl (some 4) q g.args.length 0 g.args.length,.pv none (.int .i64 i)]=some (.eptr (some 4) q g.args.length i 0):=fun q=>by
  have:=zeX (sh:=some 4) (s':=none) (k:=.i64) (r:=q) (v:=g.args.length) (o:=0) hi
  rw[Nat.zero_add] at this
  exact this
 have hil:i<(Tm.pvs g.args).length:=by rw[Tm.pvs_len];exact hi
 have hst:∀(x0 x1 x2 x3 x4:AObj),zaC (some 4) hp.length (hp++[x0,x1,x2,x3,x4,.arr (some 4) (Tm.pvs g.args) false]) [.eptr (some 4) (hp.length+5) g.args.length i 0,.pv (some 4) u.pv]=some (.undef,hp++[x0,x1,x2,x3,x4,.arr (some 4) ((Tm.pvs g.args).set i u.pv) false]):=fun x0 x1 x2 x3 x4=>by
  have e:∀H,AV.freeze deep (.pv (some 4) u.pv) H=some (u.pv,H):=fun _=>rfl
  simp[zaC,astore,AV.shp,e,getN rfl,setN rfl,Tm.pvs_len,hi,hil]
 have hbs:∀(x0 x1 x2 x3 x4:AObj),zgK (some 4) (hp++[x0,x1,x2,x3,x4,.arr (some 4) ((Tm.pvs g.args).set i u.pv) false]) [.agg [(none,.pv none (.int .i64 g.kind)),(none,.pv none (.int .i64 g.n)),(none,.pv none (.str g.name)),(none,.sl (some 4) (hp.length+5) g.args.length 0 g.args.length)]]=some (.sl (some 4) (hp.length+6) 1 0 1,hp++[x0,x1,x2,x3,x4,.arr (some 4) (Tm.pvs (g.args.set i u)) true,.arr (some 4) [(setA g i u).pv] false]):=fun x0 x1 x2 x3 x4=>by
  have e:∀l hp,AV.freeze (7+1) (.agg l) hp=match AV.freeze.go 7 l hp with|some (ps,hp')=>some (.agg ps,hp')|none=>none:=fun _ _=>rfl
  have e2:AV.freeze deep (.agg [(none,.pv none (.int .i64 g.kind)),(none,.pv none (.int .i64 g.n)),(none,.pv none (.str g.name)),(none,.sl (some 4) (hp.length+5) g.args.length 0 g.args.length)]) (hp++[x0,x1,x2,x3,x4,.arr (some 4) (Tm.pvs (g.args.set i u)) false])=some ((setA g i u).pv,hp++[x0,x1,x2,x3,x4,.arr (some 4) (Tm.pvs (g.args.set i u)) true]):=by
   show AV.freeze (7+1) (.agg _) _=_
   simp[e,AV.freeze.go,AV.freeze,getN rfl,setN rfl,Tm.pvs_len]
   rfl
  rw[ztD]
  simp only[zgK,zal,e2]
  simp[AV.shp,total,Sh.size,zaN]
 have hr':∀X,(hp++X)[r]? =some (.box (some 5) (.pv (some 5) (runV g k))):=fun X=>by rw[zb3 hlt,hr]
 simp -dsimp -implicitDefEqProofs only[go_sem,seval,↓reduceIte,Tm.av,h1,hr,hr',hia,hst,hbs,zkc,zse,zad,Tm.pvs_len,zaP (Nat.le_add_right _ _),zaA,za9 (sh:=some 4) (by decide),zae (Nat.le_add_right _ _),zaz,List.append_assoc,zaj,zag,zan,zah,Nat.add_assoc,List.length_append]
 rw[if_neg (by simp[AV.refsIn])]
 rfl
def nagg(u:Tm)(q:Nat):AV:=.agg [(none,.pv none (.int .i64 u.kind)),(none,.pv none (.int .i64 u.n)),(none,.pv none (.str u.name)),(none,.sl (some 4) q 0 0 0)]
theorem zlp{u:Tm}(ha:u.args=[]){q:Nat}{H:Heap}{z:Bool}(h:H[q]? =some (.arr (some 4) [] z)):AV.freeze deep (nagg u q) H=some (u.pv,H.set q (.arr (some 4) [] true)):=by
 have e:∀l hp,AV.freeze (7+1) (.agg l) hp=match AV.freeze.go 7 l hp with|some (ps,hp')=>some (.agg ps,hp')|none=>none:=fun _ _=>rfl
 show AV.freeze (7+1) (.agg _) _=_
 simp[e,AV.freeze.go,AV.freeze,h]
 cases u with
 |mk a b c d=>
  have hd:d=[]:=ha
  subst hd
  rfl
def qd(t:Tm):Prop:=t.kind=3/\t.name=[94]/\t.args.length=2
instance (t:Tm):Decidable (qd t):=inferInstanceAs (Decidable (_/\_))
def arg0(t:Tm):Tm:=match t.args with
 |x::_=>x
 |_=>.mk 0 0 [] []
def arg1(t:Tm):Tm:=match t.args with
 |_::y::_=>y
 |_=>.mk 0 0 [] []
theorem args_two{t:Tm}(h:t.args.length=2):t.args=[arg0 t,arg1 t]:=by
 unfold arg0 arg1
 match e:t.args,h with
 |[x,y],_=>rfl
theorem zio{t:Tm}(h:t.args.length=2):t.args[0]? =some (arg0 t):=by rw[args_two h];rfl
theorem ziq{t:Tm}(h:t.args.length=2):t.args[1]? =some (arg1 t):=by rw[args_two h];rfl
theorem zlY{t:Tm}(h:t.args.length=2):arg0 t∈t.args:=List.mem_of_getElem? (zio h)
theorem zbS{t:Tm}(h:t.args.length=2):arg1 t∈t.args:=List.mem_of_getElem? (ziq h)
def quants(t:Tm):List Tm:=if h:qd t then arg0 t::quants (arg1 t) else[]
termination_by t.size
decreasing_by exact Tm.zuY (zbS h.2.2)
def hid(p g:Tm):List Int:=p.occ++Tm.occs (quants g)
def free(p g:Tm):List Int:=(vads [] g.occ).filter fun v=>decide (v ∉ hid p g)
def zir(x y:Tm):Tm:=.mk 3 0 [46] [x,y]
theorem ia0{es:List PV}{p:PV}(h:es[0]? =some p):zaT (some 4) [.pv none (.sl (some 4) es),.pv none (.int .i64 0)]=some (.iptr (some 4) p 0):=zgj h
theorem ia1{es:List PV}{p:PV}(h:es[1]? =some p):zaT (some 4) [.pv none (.sl (some 4) es),.pv none (.int .i64 1)]=some (.iptr (some 4) p 0):=by
 simp[zaT,aindex,h]
def zg(q:Nat):AV:=.agg [(none,.pv none (.int .i64 0)),(none,.pv none (.int .i64 0)),(none,.pv none (.str [])),(none,.sl (some 4) q 0 0 0)]
def lstT(l:List Tm)(t:Tm):Tm:=l.foldr zir t
def zj2(x t:Tm):AV:=.agg [(none,.pv none (.int .i64 3)),(none,.pv none (.int .i64 0)),(none,.pv none (.str [46])),(none,.tsl (some 4) [x.pv,t.pv])]
def TA(a:AV)(t:Tm):Prop:=a=.pv (some 4) t.pv\/∃x u,a=zj2 x u/\t=zir x u
theorem TA.frz{a:AV}{t:Tm}(h:TA a t)(H:Heap):AV.freeze deep a H=some (t.pv,H):=by
 rcases h with rfl|⟨x,u,rfl,rfl⟩ <;> rfl
theorem TA.shp{a:AV}{t:Tm}(h:TA a t):a.shp=some 4:=by
 rcases h with rfl|⟨x,u,rfl,rfl⟩ <;> rfl
theorem TA.plain{a:AV}{t:Tm}(h:TA a t):a.plain=true:=by
 rcases h with rfl|⟨x,u,rfl,rfl⟩ <;> rfl
def kL(l:List Tm)(a:AV):Heap:=[.box (some 4) a,.box (some 4) (zg 2),.arr (some 4) [] false,.box none (.pv none (.sl (some 4) (Tm.pvs l))),.loop 131 [9,10] [(3,.ptr 0 0)] false]
theorem zmd(l:List Tm)(a:AV)(t x:Tm)(i:Int)(h:TA a t)(ext:Heap):sem (find tab) prim .rnd 131 [.yield 4,.pv none (.int .i64 i),x.av] (kL l a++ext)=some (.ret (.pv none (.bool true)),kL l (zj2 x t)++ext):=by
 refine zpG (ps:=[9,10]) (env:=[(3,.ptr 0 0)]) rfl rfl rfl rfl ?_
 have hbs:∀H:Heap,zaZ (some 4) H [.pv (some 4) x.pv,a]=some (.tsl (some 4) [x.pv,t.pv],H):=fun H=>by
  rcases h with rfl|⟨x',u,rfl,rfl⟩ <;> rfl
 have hbu:zaQ [(none,.pv none (.int .i64 0)),(none,.pv none (.int .i64 0)),(none,.pv none (.str [])),(none,.tsl (some 4) [])] [0,2,3] [.pv none (.int .i64 3),.pv none (.str [46]),.tsl (some 4) [x.pv,t.pv]]=some (zj2 x t):=rfl
 have hst:∀(b:Nat) (s:AV) (r:Heap),zaC (some 4) (b+5) (.box (some 4) s::r) [.ptr 0 0,zj2 x t]=some (.undef,.box (some 4) (zj2 x t)::r):=fun b s r=>by
  simp[zaC,astore,zj2,AV.plain,AV.shp,AV.refsIn,AV.refsIn.go,total,Sh.size]
 simp -dsimp -implicitDefEqProofs only[go_sem,seval,↓reduceIte,kL,zg,zd3,Tm.av,hbs,hbu,hst,List.append_assoc,zaj,zag,zan,zah,Nat.add_assoc,List.length_append]
 exact⟨⟨_,rfl⟩,by simp⟩
theorem zj3{l:List Tm}{i:Nat}{x:Tm}(t:Tm)(h:l[i]? =some x):lstT (l.drop i) t=zir x (lstT (l.drop (i+1)) t):=by
 have hlt:=(List.getElem?_eq_some_iff.1 h).1
 rw[List.drop_eq_getElem_cons hlt]
 have:l[i]=x:=(List.getElem?_eq_some_iff.1 h).2
 rw[this]
 rfl
theorem zuR(l:List Tm)(hl:l.length<1000000000)(t:Tm)(a:AV)(h:TA a t):∃a',S 150 [.yield 4,.ptr 3 0] (kL l a)=some (.ret (.tuple []),kL l a')/\TA a' (lstT l t):=by
 obtain⟨v,hp',h1,a',h2,h3,h4⟩:=zjY (F:=find tab) (prim:=prim) (f:=150) (args:=[.yield 4,.ptr 3 0]) (hp:=kL l a) (fun v hp'=>∃a',v=.ret (.tuple [])/\hp'=kL l a'/\TA a' (lstT l t)) rfl rfl rfl rfl (by
  have hw0:IntKind.i64.wrap ((l.length:Int) - 1)=(l.length:Int) - 1:=zaO (by omega) (by omega)
  have hKl:∀a,(kL l a).length=5:=fun a=>rfl
  have hK3:∀a X,(kL l a++X)[3]? =some (.box none (.pv none (.sl (some 4) (Tm.pvs l)))):=fun a X=>rfl
  have hK3':∀a,(kL l a)[3]? =some (.box none (.pv none (.sl (some 4) (Tm.pvs l)))):=fun a=>rfl
  have hK4:∀a X,(kL l a++X)[4]? =some (.loop 131 [9,10] [(3,.ptr 0 0)] false):=fun a X=>rfl
  have hK4':∀a,(kL l a)[4]? =some (.loop 131 [9,10] [(3,.ptr 0 0)] false):=fun a=>rfl
  simp -dsimp -implicitDefEqProofs only[go_sem,seval,↓reduceIte,hK3',hK3,hw0,Tm.pvs_len]
  refine zdK (fun n st=>∃(a1:AV),n<=l.length/\TA a1 (lstT (l.drop n) t)/\st=⟨[(0,.yield 4),(1,.ptr 3 0),(3,.pv none (.int .i64 ((n:Int) - 1)))],kL l a1⟩) (n:=l.length) ⟨a,Nat.le_refl _,by rw[List.drop_length];exact h,rfl⟩ ?_
  rintro n st ⟨a1,hn,h1,rfl⟩
  cases n with
  |zero=>
   have hc:¬(0:Int)<=((0:Nat):Int) - 1:=by decide
   simp -dsimp -implicitDefEqProofs only[go_sem,seval,↓reduceIte,hc,zdZ,ziA]
   exact⟨a1,List.take_of_length_le (Nat.le_refl _),h1⟩
  |succ i=>
   obtain⟨x,hx⟩:∃x,l[i]? =some x:=⟨_,List.getElem?_eq_getElem (by omega)⟩
   have e1:((i+1:Nat):Int) - 1=i:=by omega
   have hc:(0:Int)<=(i:Int):=by omega
   have hw:IntKind.i64.wrap ((i:Int) - 1)=(i:Int) - 1:=zaO (by omega) (by omega)
   have hcall:=fun j ext=>zmd l a1 _ x j h1 ext
   have hcall0:=fun j=>zmd l a1 _ x j h1 []
   simp only[List.append_nil] at hcall0
   rw[e1]
   simp only[Tm.av] at hcall hcall0
   simp -dsimp -implicitDefEqProofs only[go_sem,seval,↓reduceIte,hc,hK3,hK3',hK4,hK4',hKl,hcall,hcall0,zar (Tm.pvs_get hx),hw,zdZ,ziA,znC]
   refine⟨i,by omega,zj2 x (lstT (l.drop (i+1)) t),by omega,.inr ⟨x,_,rfl,zj3 t hx⟩,?_⟩
   rw[zdW (hKl _)])
 rw[h2,h3] at h1
 exact⟨a',h1,h4⟩
theorem zrY(l:List Tm)(hl:l.length<1000000000)(t:Tm)(hp:Heap):S 131 [.pv none (.sl (some 4) (Tm.pvs l)),t.av] hp=some (.ret (lstT l t).av,hp):=by
 refine zgT rfl rfl rfl (zab [(none,.sl (some 4) (Tm.pvs l)),(some 4,t.pv)]) rfl rfl ?_
 have hbw:∀H:Heap,S 143 [.pv none (.sl (some 4) (Tm.pvs l))] H=some (.ret (.func (.func 150) [] [.ptr H.length 0]),H++[.box none (.pv none (.sl (some 4) (Tm.pvs l)))]):=fun H=>by
  refine zay rfl rfl rfl rfl ?_
  simp -dsimp -implicitDefEqProofs only[go_sem,seval,↓reduceIte,List.append_assoc,zaj,zag,zan,zah,Nat.add_assoc,List.length_append]
  simp[AV.refsIn,AV.refsIn.gol]
 simp -dsimp -implicitDefEqProofs only[go_sem,seval,↓reduceIte,Tm.av,hbw]
 obtain⟨a',h1,h2⟩:=zuR l hl t (.pv (some 4) t.pv) (.inl rfl)
 refine⟨_,znv rfl rfl (by rw[zsL (by rfl)];exact h1) rfl,?_⟩
 have hst:∀(x0:AObj) (s:AV) (r:Heap),zaC (some 4) 0 (x0::.box (some 4) s::r) [.ptr 1 0,a']=some (.undef,x0::.box (some 4) a'::r):=fun x0 s r=>by
  rcases h2 with rfl|⟨x,u,rfl,_⟩
  ·simp[zaC,astore,AV.plain,AV.shp,AV.own]
  ·simp[zaC,astore,zj2,AV.plain,AV.shp,AV.own,zaq,zdo,total,Sh.size]
 simp -dsimp -implicitDefEqProofs only[go_sem,seval,↓reduceIte,kL,List.take_succ_cons,hst,zg]
 have hf:=h2.frz [.box (some 4) a',.box (some 4) a',.arr (some 4) [] false,.box none (.pv none (.sl (some 4) (Tm.pvs l)))]
 exact zgo h2.shp h2.plain hf
def tint(n:Int):Tm:=.mk 1 n [] []
def tatm(s:List UInt8):Tm:=.mk 2 0 s []
def tstr(s:List UInt8)(l:List Tm):Tm:=.mk 3 0 s l
theorem n_ok(n:Int)(hp:Heap):S 30 [.pv none (.int .i64 n)] hp=some (.ret (tint n).av,hp):=by
 refine zak rfl rfl rfl (zab [(none,.int .i64 n)]) rfl ?_
 have hbu:zaQ [(none,.pv none (.int .i64 0)),(none,.pv none (.int .i64 0)),(none,.pv none (.str [])),(none,.tsl (some 4) [])] [0,1] [.pv none (.int .i64 1),.pv none (.int .i64 n)]=some (.agg [(none,.pv none (.int .i64 1)),(none,.pv none (.int .i64 n)),(none,.pv none (.str [])),(none,.tsl (some 4) [])]):=rfl
 simp -dsimp -implicitDefEqProofs only[go_sem,seval,↓reduceIte,hbu]
 exact⟨_,rfl⟩
theorem x_ok(n:Int)(hp:Heap):S 28 [.pv none (.int .i64 n)] hp=some (.ret (tvar n).av,hp):=by
 refine zak rfl rfl rfl (zab [(none,.int .i64 n)]) rfl ?_
 have hbu:zaQ [(none,.pv none (.int .i64 0)),(none,.pv none (.int .i64 0)),(none,.pv none (.str [])),(none,.tsl (some 4) [])] [1] [.pv none (.int .i64 n)]=some (.agg [(none,.pv none (.int .i64 0)),(none,.pv none (.int .i64 n)),(none,.pv none (.str [])),(none,.tsl (some 4) [])]):=rfl
 simp -dsimp -implicitDefEqProofs only[go_sem,seval,↓reduceIte,hbu]
 exact⟨_,rfl⟩
theorem a_ok(s:List UInt8)(hp:Heap):S 17 [.pv none (.str s)] hp=some (.ret (tatm s).av,hp):=by
 refine zak rfl rfl rfl (zab [(none,.str s)]) rfl ?_
 have hbu:zaQ [(none,.pv none (.int .i64 0)),(none,.pv none (.int .i64 0)),(none,.pv none (.str [])),(none,.tsl (some 4) [])] [0,2] [.pv none (.int .i64 2),.pv none (.str s)]=some (.agg [(none,.pv none (.int .i64 2)),(none,.pv none (.int .i64 0)),(none,.pv none (.str s)),(none,.tsl (some 4) [])]):=rfl
 simp -dsimp -implicitDefEqProofs only[go_sem,seval,↓reduceIte,hbu]
 exact⟨_,rfl⟩
theorem zui(s:List UInt8)(l:List Tm):W Z L 0 (g19).code ⟨params 0 (pvs [(none,.str s),(none,.sl (some 4) (Tm.pvs l))]),[]⟩ (endK (g19).results (Am.frozen (tstr s l).av)):=by
 have hbu:zaQ [(none,.pv none (.int .i64 0)),(none,.pv none (.int .i64 0)),(none,.pv none (.str [])),(none,.tsl (some 4) [])] [0,2,3] [.pv none (.int .i64 3),.pv none (.str s),.pv none (.sl (some 4) (Tm.pvs l))]=some (.pv (some 4) (tstr s l).pv):=rfl
 simp -dsimp -implicitDefEqProofs only[go_sem,seval,↓reduceIte,hbu,Tm.av]
theorem f_ok(s:List UInt8)(l:List Tm)(hp:Heap):S 19 [.pv none (.str s),.pv none (.sl (some 4) (Tm.pvs l))] hp=some (.ret (tstr s l).av,hp):=
 zak rfl rfl rfl (zab [(none,.str s),(none,.sl (some 4) (Tm.pvs l))]) rfl (zui s l)
theorem zuS(s:List UInt8)(l:List Tm)(hp:Heap):S 19 [.pv none (.str s),.tsl (some 4) (Tm.pvs l)] hp=some (.ret (tstr s l).av,hp):=
 zak (ps:=[(none,.str s),(none,.sl (some 4) (Tm.pvs l))]) rfl rfl rfl rfl rfl (zui s l)
theorem zj4(a b:Tm)(ha:a.size<1000000000)(hb:b.size<1000000000):W Z L 0 (g22).code ⟨params 0 (pvs [(some 4,a.pv),(some 4,b.pv)]),[]⟩ (endK (g22).results (Am.frozen (.pv none (.bool (same a b))))):=by
 have h1:=fun hp=>zr2 a b hp ha hb
 simp only[Tm.av] at h1
 simp -dsimp -implicitDefEqProofs only[go_sem,seval,↓reduceIte,h1]
theorem zme(a b:Tm)(hp:Heap)(ha:a.size<1000000000)(hb:b.size<1000000000):S 22 [a.av,b.av] hp=some (.ret (.pv none (.bool (same a b))),hp):=
 zak rfl rfl rfl (zab [(some 4,a.pv),(some 4,b.pv)]) rfl (zj4 a b ha hb)
def zV:AV:=.agg [(none,.pv none (.int .i64 0)),(none,.pv none (.int .i64 0)),(none,.pv none (.str [])),(none,.tsl (some 4) [])]
theorem zqa(a:Tm)(hp:Heap)(ha:a.size<1000000000):S 22 [a.av,zV] hp=some (.ret (.pv none (.bool (same a zt))),hp):=
 zak (ps:=[(some 4,a.pv),(some 4,zt.pv)]) rfl rfl rfl rfl rfl (zj4 a zt ha (by decide))
def zfu(g:Tm)(l:List Tm)(b:Tm)(e:Int):Prop:=∀hp:Heap,S 20 [g.av] hp=some (.ret (.tuple [.pv none (.sl (some 4) (Tm.pvs l)),b.av,.pv none (.int .i64 e)]),hp)
theorem zhu{g:Tm}(h:g.valid=true):same g g=true:=by simp[same,h,Tm.cmp_zero]
theorem zqb:same zt zt=true:=by decide
theorem zrZ(hp:Heap):S 13 [] hp=some (.ret (.pv none (.bool true)),hp):=by
 have h:=zil (hp:=hp) (args:=[]) (ps:=[]) (hp1:=hp) (f:=13) rfl rfl rfl rfl zuV
 exact h
def Bq(hp:Heap):Prop:=∀x∈hp,AObj.beq x x=true
theorem Bq.same:∀{hp:Heap},Bq hp->zaS hp hp=true
 |[],_=>rfl
 |x::r,h=>by
  show(AObj.beq x x && zaS r r)=true
  rw[h x List.mem_cons_self,Bq.same (hp:=r) fun y hy=>h y (List.mem_cons_of_mem _ hy)]
  rfl
theorem Bq.app{a b:Heap}(h1:Bq a)(h2:Bq b):Bq (a++b):=fun x hx=>(List.mem_append.1 hx).elim (h1 x) (h2 x)
theorem Bq.cons{x:AObj}{b:Heap}(h1:AObj.beq x x=true)(h2:Bq b):Bq (x::b):=fun y hy=>(List.mem_cons.1 hy).elim (fun e=>e▸h1) (h2 y)
theorem Bq.nil:Bq []:=fun _ h=>by cases h
theorem Bq.set{hp:Heap}(h:Bq hp)(i:Nat){x:AObj}(hx:AObj.beq x x=true):Bq (hp.set i x):=fun y hy=>by
 rcases List.mem_or_eq_of_mem_set hy with h1|rfl
 ·exact h y h1
 ·exact hx
theorem zgV(t:Tm):AObj.beq (.box (some 4) (.pv (some 4) t.pv)) (.box (some 4) (.pv (some 4) t.pv))=true:=by simp[AObj.beq,AV.beq,zfC]
theorem zrQ{es:List PV}(h:∀x∈es,PV.beq x x=true):PV.beqs es es=true:=by
 induction es with
 |nil=>rfl
 |cons x r ih=>
  show(PV.beq x x && PV.beqs r r)=true
  rw[h x List.mem_cons_self,ih fun y hy=>h y (List.mem_cons_of_mem _ hy)]
  rfl
theorem zj1{v:AV}{hp:Heap}{K:AV->Heap->Prop}(h:zaS hp hp=true):zrf (some (.ret v,hp)) hp K=K v hp:=by
 simp[zrf,h]
def gK(r:Option (ARes × Heap))(hp:Heap)(K:AV->Heap->Prop):Prop:=match r with
 |some (.ret v,hp')=>zaS (hp'.take hp.length) hp=true/\K v hp'
 |_=>False
theorem ziE{Γ:Oracle}{b:Nat}{s:Sh}{f:FuncId}{vs:List AV}{hp:Heap}{K:AV->Heap->Prop}{Kp:PV->Heap->Prop}:opK (aOp Γ b .callg (.pv s (.func (.func f))::vs) hp) K Kp=gK (Γ .fn f vs hp) hp K:=by
 unfold gK
 simp only[aOp,zfM,zcR,zaX,List.nil_append,List.append_nil]
 cases Γ .fn f vs hp with
 |none=>rfl
 |some r=>
  obtain⟨r,hp'⟩:=r
  cases r with
  |panic p=>rfl
  |ret v=>
   by_cases h:zaS (hp'.take hp.length) hp=true
   ·simp only[h,if_true,true_and]
    rfl
   ·have h':zaS (hp'.take hp.length) hp=false:=by simpa using h
    simp only[h',Bool.false_eq_true,if_false,false_and]
    rfl
theorem zex{v:AV}{hp hp':Heap}{K:AV->Heap->Prop}:gK (some (.ret v,hp')) hp K=(zaS (hp'.take hp.length) hp=true/\K v hp'):=rfl
theorem zca{hp a b:Heap}(h:Bq hp):zaS (hp++a) (hp++b)=zaS a b:=by
 induction hp with
 |nil=>rfl
 |cons x r ih=>
  show(AObj.beq x x && zaS (r++a) (r++b))=_
  rw[h x List.mem_cons_self,ih fun y hy=>h y (List.mem_cons_of_mem _ hy)]
  rfl
theorem zbG(x y:AObj)(a b:Heap):zaS (x::a) (y::b)=(AObj.beq x y && zaS a b):=rfl
theorem zcb:zaS [] []=true:=rfl
theorem zc9(s:Sh)(z:Bool):AObj.beq (.arr s [] z) (.arr s [] z)=true:=by simp[AObj.beq,PV.beqs]
theorem zey(s:List UInt8)(a b:Sh):AObj.beq (.box a (.pv b (.str s))) (.box a (.pv b (.str s)))=true:=by simp[AObj.beq,AV.beq,PV.beq]
theorem ztl(l:List Tm):PV.beqs (Tm.pvs l) (Tm.pvs l)=true:=zrQ fun x hx=>by
 rw[Tm.zvb] at hx
 obtain⟨t,_,rfl⟩:=List.mem_map.1 hx
 exact zfC t
theorem ztm(s:Sh)(l:List Tm)(z:Bool):AObj.beq (.arr s (Tm.pvs l) z) (.arr s (Tm.pvs l) z)=true:=by simp[AObj.beq,ztl]
def rows1:List (PV × PV):=[(.str (names1.getD 0 []),.func (.func 71)),(.str (names1.getD 1 []),.func (.func 72)),(.str (names1.getD 2 []),.func (.func 73)),(.str (names1.getD 3 []),.func (.func 74)),(.str (names1.getD 4 []),.func (.func 75)),(.str (names1.getD 5 []),.func (.func 47)),(.str (names1.getD 6 []),.func (.func 76)),(.str (names1.getD 7 []),.func (.func 77)),(.str (names1.getD 8 []),.func (.func 78))]
def rows2:List (PV × PV):=[(.str (names2a.getD 0 []),.func (.func 79)),(.str (names2a.getD 1 []),.func (.func 80)),(.str (names2a.getD 2 []),.func (.func 81)),(.str (names2a.getD 3 []),.func (.func 82)),(.str (names2a.getD 4 []),.func (.func 83)),(.str (names2a.getD 5 []),.func (.func 84))]
theorem ziC(hp:Heap):S 39 [] hp=some (.ret (.map hp.length),hp++[.map none rows1]):=by
 refine zay rfl rfl rfl rfl ?_
 have hms:∀(es es':List (PV × PV)) (k v:PV),aput true k v es=some es'->zbZ true none (hp++[.map none es]) [.map hp.length,.pv none k,.pv none v]=some (.undef,hp++[.map none es']):=fun es es' k v h=>by
  rw[zc5 (es:=es) (by rw[zdG rfl];rfl) h,zdV rfl]
  rfl
 have m0:=hms ([]) (rows1.take 1) (.str [118,97,114]) (.func (.func 71)) rfl
 have m1:=hms (rows1.take 1) (rows1.take 2) (.str [110,111,110,118,97,114]) (.func (.func 72)) rfl
 have m2:=hms (rows1.take 2) (rows1.take 3) (.str [97,116,111,109]) (.func (.func 73)) rfl
 have m3:=hms (rows1.take 3) (rows1.take 4) (.str [105,110,116,101,103,101,114]) (.func (.func 74)) rfl
 have m4:=hms (rows1.take 4) (rows1.take 5) (.str [97,116,111,109,105,99]) (.func (.func 75)) rfl
 have m5:=hms (rows1.take 5) (rows1.take 6) (.str [99,111,109,112,111,117,110,100]) (.func (.func 47)) rfl
 have m6:=hms (rows1.take 6) (rows1.take 7) (.str [99,97,108,108,97,98,108,101]) (.func (.func 76)) rfl
 have m7:=hms (rows1.take 7) (rows1.take 8) (.str [105,115,95,108,105,115,116]) (.func (.func 77)) rfl
 have m8:=hms (rows1.take 8) (rows1.take 9) (.str [103,114,111,117,110,100]) (.func (.func 78)) rfl
 simp -dsimp -implicitDefEqProofs only[go_sem,seval,↓reduceIte,m0,m1,m2,m3,m4,m5,m6,m7,m8,List.append_assoc,zaj,zag,zan,zah,Nat.add_assoc,List.length_append]
 rw[if_neg (by simp[AV.refsIn])]
 rfl
theorem zcF(hp:Heap):S 40 [] hp=some (.ret (.map hp.length),hp++[.map none rows2]):=by
 refine zay rfl rfl rfl rfl ?_
 have hms:∀(es es':List (PV × PV)) (k v:PV),aput true k v es=some es'->zbZ true none (hp++[.map none es]) [.map hp.length,.pv none k,.pv none v]=some (.undef,hp++[.map none es']):=fun es es' k v h=>by
  rw[zc5 (es:=es) (by rw[zdG rfl];rfl) h,zdV rfl]
  rfl
 have m0:=hms ([]) (rows2.take 1) (.str [61,61]) (.func (.func 79)) rfl
 have m1:=hms (rows2.take 1) (rows2.take 2) (.str [92,61,61]) (.func (.func 80)) rfl
 have m2:=hms (rows2.take 2) (rows2.take 3) (.str [64,60]) (.func (.func 81)) rfl
 have m3:=hms (rows2.take 3) (rows2.take 4) (.str [64,61,60]) (.func (.func 82)) rfl
 have m4:=hms (rows2.take 4) (rows2.take 5) (.str [64,62]) (.func (.func 83)) rfl
 have m5:=hms (rows2.take 5) (rows2.take 6) (.str [64,62,61]) (.func (.func 84)) rfl
 simp -dsimp -implicitDefEqProofs only[go_sem,seval,↓reduceIte,m0,m1,m2,m3,m4,m5,List.append_assoc,zaj,zag,zan,zah,Nat.add_assoc,List.length_append]
 rw[if_neg (by simp[AV.refsIn])]
 rfl
theorem zsp(s:Sh)(l:List (PV × PV))(h:PV.beqm l l=true):AObj.beq (.map s l) (.map s l)=true:=by simp[AObj.beq,h]
theorem zfA(s:Sh):AObj.beq (.map s rows1) (.map s rows1)=true:=zsp s _ (by decide+kernel)
theorem zfB(s:Sh):AObj.beq (.map s rows2) (.map s rows2)=true:=zsp s _ (by decide+kernel)
theorem ziB(s:Sh)(l:List Tm):AObj.beq (.arr s (Tm.pvs l) false) (.arr s (Tm.pvs l) false)=true:=ztm s l false
theorem zp3(H:Heap):zal [zagC,zagC] H=some ([(some 4,zt.pv),(some 4,zt.pv)],H):=rfl
theorem zp4{hp:Heap}{y0 y1:AObj}{l:List Tm}{n:Nat}(hn:l.length=n)(hl:n<=100):zaJ (some 4) (hp++[y0,y1,.arr (some 4) (Tm.pvs l) false]) [.sl (some 4) (hp.length+2) n 0 n,.tsl (some 4) [zt.pv,zt.pv]]=some (.sl (some 4) (hp.length+2) (n+2) 0 (n+2),hp++[y0,y1,.arr (some 4) (Tm.pvs (l++[zt,zt])) false]):=by
 have hlim:n+2<=lim:=by unfold lim;omega
 have e:Tm.pvs (l++[zt,zt])=Tm.pvs l++[zt.pv,zt.pv]:=by rw[Tm.zu4];rfl
 rw[e]
 simp[zaJ,aappend,elems,getN rfl,setN rfl,Tm.pvs_len,hn,hlim]
theorem zjZ{hp Z:Heap}{y0 y1:AObj}{l:List Tm}{z:Bool}{n i:Nat}{t:Tm}(hn:l.length=n)(ht:l[i]? =some t):aload (some 4) (hp++y0::y1::.arr (some 4) (Tm.pvs l) z::Z) (.eptr (some 4) (hp.length+2) n i 0)=some (.pv (some 4) t.pv):=by
 simp[aload,getN rfl,Tm.pvs_len,hn,Tm.pvs_get ht]
theorem zp5{hp Z:Heap}{y0 y1 y2:AObj}{s:List UInt8}{rows:List (PV × PV)}(h:afind true (.str s) rows=some none):za2 true none (.pv none .nilfunc) true (hp++y0::y1::y2::.map none rows::Z) [.map (hp.length+3),.pv none (.str s)]=some (.tuple [.pv none .nilfunc,.pv none (.bool false)]):=
 zbE (es:=rows) (by rw[getN rfl];rfl) h
theorem zp6{hp Z:Heap}{y0 y1 y2 y3:AObj}{s:List UInt8}{rows:List (PV × PV)}(h:afind true (.str s) rows=some none):za2 true none (.pv none .nilfunc) true (hp++y0::y1::y2::y3::.map none rows::Z) [.map (hp.length+4),.pv none (.str s)]=some (.tuple [.pv none .nilfunc,.pv none (.bool false)]):=
 zbE (es:=rows) (by rw[getN rfl];rfl) h
def eJ(g:Tm):Heap:=[.arr (some 4) [] false,.arr (some 4) [] false,.arr (some 4) (Tm.pvs (g.args++[zt,zt])) false,.map none rows1,.map none rows2]
theorem zud{H:Heap}{q n:Nat}{ts:List Tm}{z:Bool}(hn:ts.length=n)(h:H[q]? =some (.arr (some 4) (Tm.pvs ts) z)):IsT (.sl (some 4) q n 0 n) H ts where
 len:=by rw[zif,hn]
 idx:=fun i u hu=>by
  have hi:=(List.getElem?_eq_some_iff.1 hu).1
  refine⟨.eptr (some 4) q n (0+i) 0,fun s k=>zeX (by omega),?_⟩
  simp[aload,h,Tm.pvs_len,hn,Tm.pvs_get hu]
theorem zlg(g:Tm):Bq (hE g):=by
 have h1:=zgV g
 refine Bq.cons h1 (Bq.cons rfl (Bq.cons rfl (Bq.cons rfl (Bq.cons rfl (Bq.cons rfl (Bq.cons ?_ Bq.nil))))))
 simp[AObj.beq,AV.beq,PV.beq,PV.beqc,runV,zfC]
def cs(t:Tm):Prop:=t.kind=3/\t.name=[46]/\t.args.length=2
instance (t:Tm):Decidable (cs t):=inferInstanceAs (Decidable (_/\_))
def tl(t:Tm):Tm:=if h:cs t then tl (arg1 t) else t
termination_by t.size
decreasing_by exact Tm.zuY (zbS h.2.2)
def els(t:Tm):List Tm:=if h:cs t then arg0 t::els (arg1 t) else[]
termination_by t.size
decreasing_by exact Tm.zuY (zbS h.2.2)
theorem tl_c{t:Tm}(h:cs t):tl t=tl (arg1 t):=by rw[tl,dif_pos h]
theorem tl_n{t:Tm}(h:¬cs t):tl t=t:=by rw[tl,dif_neg h]
theorem znD{t:Tm}(h:cs t):els t=arg0 t::els (arg1 t):=by rw[els,dif_pos h]
theorem zlf{t:Tm}(h:¬cs t):els t=[]:=by rw[els,dif_neg h]
theorem zpZ:∀(n:Nat) (t:Tm),t.size=n->(els t).length<=t.size:=by
 intro n
 induction n using Nat.strongRecOn with
 |_ n ih=>
  intro t hn
  by_cases h:cs t
  ·have h3:=Tm.zuY (zbS h.2.2)
   have:=ih _ (by omega) (arg1 t) rfl
   rw[znD h,List.length_cons];omega
  ·rw[zlf h];exact Nat.zero_le _
theorem zp0(t:Tm)(hp:Heap):S 62 [t.av] hp=some (.ret (.pv none (.bool (decide (cs t)))),hp):=by
 refine zak rfl rfl rfl (zab [(some 4,t.pv)]) rfl ?_
 by_cases h1:t.kind=3
 ·have h1':=eq_true h1
  by_cases h2:t.name=[46]
  ·have h2':=eq_true h2
   by_cases h3:t.args.length=2
   ·have h3':=eq_true (show(t.args.length:Int)=2 by omega)
    have e:decide (cs t)=true:=by simp[cs,h1,h2,h3]
    rw[e]
    simp -dsimp -implicitDefEqProofs only[go_sem,seval,↓reduceIte,Tm.av,zap,zao,zad,Tm.pvs_len,h1',h2',h3']
   ·have h3':=eq_false (show ¬(t.args.length:Int)=2 by omega)
    have e:decide (cs t)=false:=by simp[cs,h3]
    rw[e]
    simp -dsimp -implicitDefEqProofs only[go_sem,seval,↓reduceIte,Tm.av,zap,zao,zad,Tm.pvs_len,h1',h2',h3']
  ·have h2':=eq_false h2
   have e:decide (cs t)=false:=by simp[cs,h2]
   rw[e]
   simp -dsimp -implicitDefEqProofs only[go_sem,seval,↓reduceIte,Tm.av,zap,zao,zad,Tm.pvs_len,h1',h2']
 ·have h1':=eq_false h1
  have e:decide (cs t)=false:=by simp[cs,h1]
  rw[e]
  simp -dsimp -implicitDefEqProofs only[go_sem,seval,↓reduceIte,Tm.av,zap,zao,zad,Tm.pvs_len,h1']
theorem ze3{l:List Tm}{t:Tm}{a0 a1 a2 a3:AObj}:Am.frozen (.tuple [.pv none (.sl (some 4) (Tm.pvs l)),.pv (some 4) t.pv]) (.tuple [.sl (some 4) 4 l.length 0 l.length,.pv (some 4) t.pv]) [a0,a1,a2,a3,.arr (some 4) (Tm.pvs l) false]:=by
 refine⟨[a0,a1,a2,a3,.arr (some 4) (Tm.pvs l) true],?_⟩
 have e2:∀p hp,AV.freeze deep (.pv (some 4) p) hp=some (p,hp):=fun _ _=>rfl
 simp[AV.freezeRes,zal,e2,AV.freeze,deep,Tm.pvs_len,pvs,AV.shp]
def eE(t:Tm):Heap:=[.box (some 4) (.pv (some 4) (tl t).pv),.arr (some 4) [] false,.box (some 4) (.pv (some 4) (tl t).pv),.arr (some 4) [] false,.arr (some 4) (Tm.pvs (els t)) false]
theorem zp1(t:Tm)(hv:t.valid=true)(hp:Heap):S 33 [t.av] hp=some (.ret (.tuple [.sl (some 4) (hp.length+4) (els t).length 0 (els t).length,(tl t).av]),hp++eE t):=by
 refine zay rfl rfl rfl rfl ?_
 have hz:=valid_size hv
 have hlen:=zpZ _ t rfl
 have h1:=fun hp=>zcl t hp (by omega)
 have hn0:∀H:Heap,zcf (some 4) H=some (.sl (some 4) H.length 0 0 0,H++[.arr (some 4) [] false]):=fun H=>za9 (sh:=some 4) (by decide)
 simp only[Tm.av] at h1
 simp -dsimp -implicitDefEqProofs only[go_sem,seval,↓reduceIte,Tm.av,h1,hv,hn0,List.append_assoc,zaj,zag,zan,zah,Nat.add_assoc,List.length_append]
 refine zdK (fun n st=>∃(t1:Tm) (d:List Tm),n=t1.size/\t1.valid=true/\d++els t1=els t/\tl t1=tl t/\st=⟨[(1,.ptr hp.length 0),(3,.ptr (hp.length+2) 0),(4,.sl (some 4) (hp.length+4) d.length 0 d.length)],hp++[.box (some 4) (.pv (some 4) t1.pv),.arr (some 4) [] false,.box (some 4) (zg (hp.length+3)),.arr (some 4) [] false,.arr (some 4) (Tm.pvs d) false]⟩) (n:=t.size) ⟨t,[],rfl,hv,rfl,rfl,rfl⟩ ?_
 rintro n st ⟨t1,d,rfl,hv1,he,ht,rfl⟩
 have hq:=zp0 t1
 simp only[Tm.av] at hq
 have hdl:=congrArg List.length he
 rw[List.length_append] at hdl
 by_cases h:cs t1
 ·have hd:decide (cs t1)=true:=by simp[h]
  rw[hd] at hq
  have hlt:=Tm.zuY (zbS h.2.2)
  have v0:=zbH hv1 (zlY h.2.2)
  have v1:=zbH hv1 (zbS h.2.2)
  have hcp:=fun hp=>zj7 (arg0 t1) hp (fit9 v0)
  have hlim:d.length+1<=lim:=by unfold lim;omega
  have hpl:=Tm.pvs_len d
  rw[znD h] at he
  simp only[Tm.av] at hcp
  have hap:∀(x0 x1 x2 x3:AObj) (p:PV),zaJ (some 4) (hp++[x0,x1,x2,x3,.arr (some 4) (Tm.pvs d) false]) [.sl (some 4) (hp.length+4) d.length 0 d.length,.tsl (some 4) [p]]=some (.sl (some 4) (hp.length+4) (d.length+1) 0 (d.length+1),hp++[x0,x1,x2,x3,.arr (some 4) (Tm.pvs d++[p]) false]):=fun x0 x1 x2 x3 p=>by
   simp[zaJ,aappend,elems,getN rfl,setN rfl,hpl,hlim]
  simp -dsimp -implicitDefEqProofs only[go_sem,seval,↓reduceIte,zg,hq,zad,hcp,ia0 (Tm.pvs_get (zio h.2.2)),ia1 (Tm.pvs_get (ziq h.2.2)),hpl,hlim,hap,List.append_assoc,zaj,zag,zan,zah,Nat.add_assoc,List.length_append]
  refine⟨_,hlt,arg1 t1,d++[arg0 t1],rfl,v1,by rw[<-he,List.append_assoc];rfl,by rw[<-ht,tl_c h],?_⟩
  rw[Tm.zu4,List.length_append,zdW (by rw[List.length_append];rfl)]
  rfl
 ·have hd:decide (cs t1)=false:=by simp[h]
  rw[hd] at hq
  have hcp:=fun hp=>zj7 t1 hp (fit9 hv1)
  rw[zlf h,List.append_nil] at he
  rw[tl_n h] at ht
  simp only[Tm.av] at hcp
  unfold eE
  rw[<-he,<-ht]
  simp -dsimp -implicitDefEqProofs only[go_sem,seval,↓reduceIte,zg,hq,hcp,List.append_assoc,zaj,zag,zan,zah,Nat.add_assoc,List.length_append]
  rw[if_neg (by simp[AV.refsIn,AV.refsIn.gol];omega)]
  have e2:∀(H:Heap) (v:AV),H[hp.length+2]? =some (.box (some 4) v)->zcq ⟨[(2,.sl (some 4) (hp.length+4) d.length 0 d.length),(3,.ptr (hp.length+2) 0)],H⟩ (3,some (some 4))=some v:=fun H v h=>by
   rw[zne]
   simp[Fr.look,aload,h]
  rw[e2 _ _ ((zaj hp _ 2).trans rfl)]
  exact⟨rfl,rfl⟩
theorem zgt(t:Tm)(hv:t.valid=true)(hp:Heap):S 116 [t.av] hp=some (.ret (.tuple [.pv none (.sl (some 4) (Tm.pvs (els t))),(tl t).av]),hp):=by
 refine zak rfl rfl rfl (zab [(some 4,t.pv)]) rfl ?_
 have hz:=valid_size hv
 have hlen:=zpZ _ t rfl
 have h1:=fun hp=>zcz t hp (by omega)
 have hn0:∀H:Heap,zcf (some 4) H=some (.sl (some 4) H.length 0 0 0,H++[.arr (some 4) [] false]):=fun H=>za9 (sh:=some 4) (by decide)
 simp only[Tm.av] at h1
 simp -dsimp -implicitDefEqProofs only[go_sem,seval,↓reduceIte,Tm.av,h1,hv,hn0]
 refine zdK (fun n st=>∃(t1:Tm) (d:List Tm),n=t1.size/\t1.valid=true/\d++els t1=els t/\tl t1=tl t/\st=⟨[(1,.ptr 0 0),(3,.ptr 2 0),(4,.sl (some 4) 4 d.length 0 d.length)],[.box (some 4) (.pv (some 4) t1.pv),.arr (some 4) [] false,.box (some 4) (zg 3),.arr (some 4) [] false,.arr (some 4) (Tm.pvs d) false]⟩) (n:=t.size) ⟨t,[],rfl,hv,rfl,rfl,rfl⟩ ?_
 rintro n st ⟨t1,d,rfl,hv1,he,ht,rfl⟩
 have hdl:=congrArg List.length he
 rw[List.length_append] at hdl
 by_cases h:cs t1
 ·have hlt:=Tm.zuY (zbS h.2.2)
  have v0:=zbH hv1 (zlY h.2.2)
  have v1:=zbH hv1 (zbS h.2.2)
  have hcp:=fun hp=>ziv (arg0 t1) hp v0 (fit9 v0)
  have hlim:d.length+1<=lim:=by unfold lim;omega
  have hpl:=Tm.pvs_len d
  have k1:=eq_true h.1
  have k2:=eq_true h.2.1
  have k3:=eq_true (show(t1.args.length:Int)=2 by have:=h.2.2;omega)
  rw[znD h] at he
  simp only[Tm.av] at hcp
  simp -dsimp -implicitDefEqProofs only[go_sem,seval,↓reduceIte,zg,zap,zao,zad,Tm.pvs_len,k1,k2,k3,hcp,ia0 (Tm.pvs_get (zio h.2.2)),ia1 (Tm.pvs_get (ziq h.2.2)),hpl,hlim]
  refine⟨_,hlt,arg1 t1,d++[arg0 t1],rfl,v1,by rw[<-he,List.append_assoc];rfl,by rw[<-ht,tl_c h],?_⟩
  rw[Tm.zu4,List.length_append]
  rfl
 ·have hcp:=fun hp=>ziv t1 hp hv1 (fit9 hv1)
  rw[zlf h,List.append_nil] at he
  rw[tl_n h] at ht
  simp only[Tm.av] at hcp
  rw[<-he,<-ht]
  by_cases k1:t1.kind=3
  ·have k1':=eq_true k1
   by_cases k2:t1.name=[46]
   ·have k2':=eq_true k2
    have k3':=eq_false (show ¬(t1.args.length:Int)=2 by
     intro e
     exact h ⟨k1,k2,by omega⟩)
    simp -dsimp -implicitDefEqProofs only[go_sem,seval,↓reduceIte,zg,zap,zao,zad,Tm.pvs_len,k1',k2',k3',hcp]
    exact ze3
   ·have k2':=eq_false k2
    simp -dsimp -implicitDefEqProofs only[go_sem,seval,↓reduceIte,zg,zap,zao,zad,Tm.pvs_len,k1',k2',hcp]
    exact ze3
  ·have k1':=eq_false k1
   simp -dsimp -implicitDefEqProofs only[go_sem,seval,↓reduceIte,zg,zap,zao,zad,Tm.pvs_len,k1',hcp]
   exact ze3
def ll(t:Tm):Prop:=(tl t).kind=0\/((tl t).kind=2/\(tl t).name=[91,93])
instance (t:Tm):Decidable (ll t):=inferInstanceAs (Decidable (_\/_))
def mx(x y:Int):Int:=if x<y then y else x
def strT(nm:List UInt8)(l:List Tm):Tm:=.mk 3 0 nm l
theorem zp2{nm:List UInt8}{l:List Tm}(h:nm.length<=100)(h1:0<l.length)(h2:l.length<=8)(hl:Tm.fitsAll l=true):(strT nm l).fits=true:=by
 have a:(nm.length:Int)<=100:=by omega
 have b:0<(l.length:Int):=by omega
 have c:(l.length:Int)<=8:=by omega
 simp[strT,Tm.fits,Tm.node,Tm.kind,Tm.n,Tm.name,Tm.args,a,b,c,h1,hl]
def zcm(t:Tm):Prop:=t.kind=2/\t.name=[91,93]
instance (t:Tm):Decidable (zcm t):=inferInstanceAs (Decidable (_/\_))
theorem zmk(t:Tm)(hp:Heap):S 117 [t.av] hp=some (.ret (.pv none (.bool (decide (zcm t)))),hp):=by
 refine zak rfl rfl rfl (zab [(some 4,t.pv)]) rfl ?_
 have h1:=fun hp=>zgI t hp
 simp only[Tm.av] at h1
 by_cases hk:t.kind=2
 ·have e:decide (zcm t)=decide (t.name=[91,93]):=by simp[zcm,hk]
  rw[hk] at h1
  rw[e]
  simp -dsimp -implicitDefEqProofs only[go_sem,seval,↓reduceIte,Tm.av,h1,zao]
 ·have e:decide (zcm t)=false:=by simp[zcm,hk]
  have e2:decide (t.kind=2)=false:=by simp[hk]
  rw[e2] at h1
  rw[e]
  simp -dsimp -implicitDefEqProofs only[go_sem,seval,↓reduceIte,Tm.av,h1,zao]
theorem zqo(t:Tm)(hv:t.valid=true)(hp:Heap):S 77 [t.av] hp=some (.ret (.pv none (.bool (decide (zcm (tl t))))),hp):=by
 refine zak rfl rfl rfl (zab [(some 4,t.pv)]) rfl ?_
 have h1:=fun hp=>zgt t hv hp
 have h2:=fun hp=>zmk (tl t) hp
 simp only[Tm.av] at h1 h2
 simp -dsimp -implicitDefEqProofs only[go_sem,seval,↓reduceIte,Tm.av,h1,h2,zae (Nat.zero_le _)]
theorem find_mem{l:List B}{v:Int}(h:fndB l v=true):(v,toB l v)∈l:=List.mem_of_getElem? (zgA h)
theorem znE{l:List B}{v:Int}{t:Tm}{x:B}(h:x=(v,t)\/x∈l):x∈insB l v t:=by
 unfold insB
 simp only[List.mem_append,List.mem_singleton]
 rcases h with h|h
 ·exact .inl (.inr h)
 ·rw[<-List.take_append_drop (lbB l v) l] at h
  rcases List.mem_append.1 h with h|h
  ·exact .inl (.inl h)
  ·exact .inr h
theorem ztq{l:List B}(hs:Srt' l){b:B}(hb:b∈l):fndB l b.1=true/\toB l b.1=b.2:=by
 obtain⟨i,hlt,rfl⟩:=List.getElem_of_mem hb
 have hg:=List.getElem?_eq_getElem hlt
 obtain⟨h1,h2⟩:=zss hs hg
 refine⟨h1,?_⟩
 unfold toB
 rw[h2,hg]
theorem zqc{l:List B}(hs:Srt' l)(v:Int):fndB l v=true↔v∈l.map (·.1):=by
 constructor
 ·intro h;exact List.mem_map.2 ⟨_,find_mem h,rfl⟩
 ·intro h
  obtain⟨b,hb,rfl⟩:=List.mem_map.1 h
  exact(ztq hs hb).1
theorem zr0:∀t:Tm,t.fits=true->Tm.sub tvar t=t:=by
 intro t
 induction t using Tm.zuX with
 |h t ih=>
  intro hf
  rw[Tm.zu1]
  by_cases hk:t.kind=0
  ·rw[if_pos hk,<-zbm hf hk]
  ·rw[if_neg hk]
   have:t.args.map (Tm.sub tvar)=t.args:=by
    have h:=List.map_congr_left (l:=t.args) (f:=Tm.sub tvar) (g:=id) fun u hu=>ih u hu (Tm.zuZ hf hu)
    rw[h,List.map_id]
   rw[this]
   cases t;rfl
theorem zdr{n:Int}(h:0<=n/\n<=1099511627776):(tvar n).fits=true:=by
 simp[tvar,Tm.fits,Tm.fitsAll,Tm.node,Tm.kind,Tm.n,Tm.name,Tm.args,h.1,h.2]
open Classical in
noncomputable def okb(l:List B):Bool:=decide (OKB l)
def IsS(s:AV)(hp:Heap)(l:List B):Prop:=s=.pv none (.sl (some 5) (bds l))\/IsB s hp l
theorem IsS.more{s:AV}{hp:Heap}{l:List B}(h:IsS s hp l)(e:Heap):IsS s (hp++e) l:=h.elim .inl fun h=>.inr (h.more e)
def MapI(m:List (Int × PV))(f:Int->Int):Prop:=∀v,(zda v m).getD (.int .i64 0)=.int .i64 (f v)
theorem MapI.put{m:List (Int × PV)}{f:Int->Int}(h:MapI m f)(v x:Int):MapI (mPut v (.int .i64 x) m) (fun w=>if w=v then x else f w):=fun w=>by
 rw[zj5]
 by_cases e:w=v
 ·simp[e]
 ·simp only[if_neg e];exact h w
structure CInv(l:List B)(st:Int->Int):Prop where
 val:∀o,st o=0\/st o=1\/st o=2
 bnd:∀o,st o≠0->fndB l o=true
 done:∃(rk:Int->Nat) (c:Nat),∀v,st v=2->rk v<c/\∀w∈(toB l v).occ,fndB l w=true->st w=2/\rk w<rk v
structure CPost(l:List B)(st st':Int->Int)(v:Int):Prop where
 inv:CInv l st'
 opn:∀o,st' o=1↔st o=1
 dn:∀o,st o=2->st' o=2
 me:fndB l v=true->st' v=2
def cnt(l:List B)(st:Int->Int):Nat:=(l.filter fun b=>decide (st b.1=0)).length
theorem CPost.mono{l:List B}{st st':Int->Int}{v:Int}(h:CInv l st)(hp:CPost l st st' v)(o:Int)(ho:st o≠0):st' o≠0:=by
 rcases h.val o with e|e|e
 ·exact absurd e ho
 ·rw[(hp.opn o).2 e];decide
 ·rw[hp.dn o e];decide
theorem CInv.acyc{l:List B}{st:Int->Int}(h:CInv l st)(hall:∀v,fndB l v=true->st v=2):Acyc l:=by
 obtain⟨_,_,rk,c,g3⟩:=h
 exact⟨rk,fun v hv w hw hf=>((g3 v (hall v hv)).2 w hw hf).2⟩
def SzI(l:List B)(m:List (Int × PV)):Prop:=∃f:Int->Int,MapI m f/\∀v,f v≠0->fndB l v=true/\f v=((min (rs l (toB l v)).size 2001:Nat):Int)
theorem SzI.put{l:List B}{m:List (Int × PV)}(h:SzI l m){v:Int}(hf:fndB l v=true):SzI l (mPut v (.int .i64 ((min (rs l (toB l v)).size 2001:Nat):Int)) m):=by
 obtain⟨f,h1,h2⟩:=h
 refine⟨_,h1.put v _,fun w hw=> ?_⟩
 by_cases e:w=v
 ·subst e;simp[hf]
 ·simp only[if_neg e] at hw ⊢;exact h2 w hw
def inR(l:List B)(v:Int)(t:Tm):Prop:=v∈(rs l t).occ
theorem zmf{l:List B}(h:Acyc l){v:Int}{t:Tm}(hv:t.fits=true)(hk:t.kind=0)(hf:¬fndB l t.n=true):inR l v t↔v=t.n:=by
 unfold inR
 rw[ztu h hv hk hf,Tm.occ_eq,if_pos hk]
 simp
theorem zmg{l:List B}(h:Acyc l){v:Int}{t:Tm}(hk:t.kind=0)(hf:fndB l t.n=true):inR l v t↔inR l v (toB l t.n):=by
 unfold inR
 rw[zqj h hk,if_pos hf]
theorem ztr{l:List B}{v:Int}{t:Tm}(hk:¬t.kind=0):inR l v t↔∃u∈t.args,inR l v u:=by
 unfold inR
 rw[zun l hk,Tm.occ_eq,if_neg (by exact hk)]
 constructor
 ·intro h
  obtain⟨u,hu,h⟩:=Tm.zve h
  obtain⟨x,hx,rfl⟩:=List.mem_map.1 hu
  exact⟨x,hx,h⟩
 ·rintro⟨u,hu,h⟩
  exact Tm.zvl (List.mem_map.2 ⟨u,hu,rfl⟩) h
def SeenPre(l:List B)(v:Int)(sn:Int->Prop)(t:Tm):Prop:=∀w,sn w->fndB l w=true/\(¬inR l v (tvar w)\/mu l t<mu l (tvar w))
structure SeenPost(l:List B)(v:Int)(sn sn':Int->Prop)(t:Tm)(b:Bool):Prop where
 yes:b=true->inR l v t
 no:b=false->¬inR l v t/\∀w,sn' w->sn w\/(fndB l w=true/\¬inR l v (tvar w))
theorem SeenPre.arg{l:List B}{v:Int}{sn:Int->Prop}{t u:Tm}(h:SeenPre l v sn t)(hm:mu l u<mu l t):SeenPre l v sn u:=fun w hw=>by
 obtain⟨h1,h2|h2⟩:=h w hw
 ·exact⟨h1,.inl h2⟩
 ·exact⟨h1,.inr (by omega)⟩
theorem zr1{l:List B}{t:Tm}(hv:t.fits=true)(hk:t.kind=0):mu l (tvar t.n)=mu l t:=by rw[<-zbm hv hk]
theorem SeenPre.old{l:List B}{v:Int}{sn:Int->Prop}{t:Tm}(h:SeenPre l v sn t)(hv:t.fits=true)(hk:t.kind=0)(hs:sn t.n):¬inR l v t:=by
 obtain⟨_,h2|h2⟩:=h t.n hs
 ·rw[<-zbm hv hk] at h2;exact h2
 ·rw[zr1 hv hk] at h2;exact absurd h2 (Nat.lt_irrefl _)
theorem SeenPre.new{l:List B}{v:Int}{sn:Int->Prop}{t:Tm}(h:SeenPre l v sn t)(ha:Acyc l)(hv:t.fits=true)(hk:t.kind=0)(hf:fndB l t.n=true):SeenPre l v (fun w=>w=t.n\/sn w) (toB l t.n):=fun w hw=>by
 have hlt:=zln ha hk hf
 rcases hw with rfl|hw
 ·exact⟨hf,.inr (by rw[zr1 hv hk];exact hlt)⟩
 ·exact h.arg hlt w hw
theorem SeenPost.new{l:List B}{v:Int}{sn sn':Int->Prop}{t:Tm}{b:Bool}(h:SeenPost l v (fun w=>w=t.n\/sn w) sn' (toB l t.n) b)(ha:Acyc l)(hv:t.fits=true)(hk:t.kind=0)(hf:fndB l t.n=true):SeenPost l v sn sn' t b:=
 ⟨fun hb=>(zmg ha hk hf).2 (h.yes hb),fun hb=>by
  obtain⟨h1,h2⟩:=h.no hb
  refine⟨fun e=>h1 ((zmg ha hk hf).1 e),fun w hw=> ?_⟩
  rcases h2 w hw with(rfl|h3)|h3
  ·exact .inr ⟨hf,fun e=>h1 ((zmg ha hk hf).1 (by rw[zbm hv hk];exact e))⟩
  ·exact .inl h3
  ·exact .inr h3⟩
theorem zgz:∀(a b:List Int),a.Nodup->(∀x∈a,x∈b)->a.length<=b.length
 |[],_,_,_=>Nat.zero_le _
 |x::a,b,h,hs=>by
  have hx:=hs x List.mem_cons_self
  have h1:=List.nodup_cons.1 h
  have ih:=zgz a (b.erase x) h1.2 fun y hy=>(List.mem_erase_of_ne (fun e=>h1.1 (by rw[<-e];exact hy))).2 (hs y (List.mem_cons_of_mem _ hy))
  have h2:=List.length_erase_of_mem hx
  have h3:=List.length_pos_of_mem hx
  simp only[List.length_cons]
  omega
theorem zts{l:List B}{σ:List Int}(h1:σ.Nodup)(h2:∀w∈σ,fndB l w=true):σ.length<=l.length:=by
 have:=zgz σ (l.map (·.1)) h1 fun w hw=>by
  exact List.mem_map.2 ⟨_,find_mem (h2 w hw),rfl⟩
 simpa using this
inductive UStep where
 |err (e:Int)
 |bind (v:Int) (t:Tm)
 |args (xs:List (Tm × Tm))
open Classical in
noncomputable def ustep(l:List B)(x y:Tm):UStep:=
 if x.kind=0/\y.kind=0 then
  if y.n<x.n then .bind x.n y else if x.n<y.n then .bind y.n x else .args []
 else if x.kind=0 then(if inR l x.n y then .err 9 else .bind x.n y)
 else if y.kind=0 then(if inR l y.n x then .err 9 else .bind y.n x)
 else if x.kind=y.kind/\x.n=y.n/\x.name=y.name/\x.args.length=y.args.length then .args (x.args.zip y.args) else .err 4
noncomputable def uni:Nat->List B->List (Tm × Tm)->List B × Int
 |_,l,[]=>(l,0)
 |0,_,_::_=>([],2)
 |n+1,l,p::r=>match ustep l (flw l p.1) (flw l p.2) with
  | .err e=>([],e)
  | .bind v t=>uni n (insB l v t) r
  | .args xs=>uni n l (xs++r)
theorem zr7{n:Nat}{l:List B}{p:Tm × Tm}{v:Int}{t:Tm}(r:List (Tm × Tm))(h:ustep l (flw l p.1) (flw l p.2)=.bind v t):uni (n+1) l (p::r)=uni n (insB l v t) r:=by rw[uni,h]
theorem zr8{n:Nat}{l:List B}{p:Tm × Tm}{xs:List (Tm × Tm)}(r:List (Tm × Tm))(h:ustep l (flw l p.1) (flw l p.2)=.args xs):uni (n+1) l (p::r)=uni n l (xs++r):=by rw[uni,h]
theorem mem_insB_iff{l:List B}{v:Int}{t:Tm}{x:B}:x∈insB l v t↔x=(v,t)\/x∈l:=⟨zez,znE⟩
theorem ziJ{l:List B}(hG:Good l){v:Int}{t:Tm}(hf:fndB l v=false)(w:Int):fndB (insB l v t) w=true↔w=v\/fndB l w=true:=by
 rw[zqc (zeA hG.1 hf),zqc hG.1]
 simp only[List.mem_map,mem_insB_iff]
 constructor
 ·rintro⟨x,rfl|h,rfl⟩
  ·exact .inl rfl
  ·exact .inr ⟨x,h,rfl⟩
 ·rintro(rfl|⟨x,h,rfl⟩)
  ·exact⟨_,.inl rfl,rfl⟩
  ·exact⟨x,.inr h,rfl⟩
theorem zuv{l:List B}(hG:Good l){v:Int}{t:Tm}(hf:fndB l v=false):toB (insB l v t) v=t:=(ztq (zeA hG.1 hf) (mem_insB_iff.2 (.inl rfl))).2
theorem zgC{l:List B}(hG:Good l){v:Int}{t:Tm}(hf:fndB l v=false){w:Int}(hw:fndB l w=true):toB (insB l v t) w=toB l w:=
 (ztq (zeA hG.1 hf) (mem_insB_iff.2 (.inr (find_mem hw)))).2
theorem zsv{l:List B}{w:Int}:∀t:Tm,t.fits=true->w∈t.occ->mu l (tvar w)<=mu l t:=by
 intro t
 induction t using Tm.zuX with
 |h t ih=>
  intro hf hw
  rw[Tm.occ_eq] at hw
  by_cases hk:t.kind=0
  ·rw[if_pos hk,List.mem_singleton] at hw
   rw[hw,zr1 hf hk]
   exact Nat.le_refl _
  ·rw[if_neg hk] at hw
   obtain⟨u,hu,h⟩:=Tm.zve hw
   have:=ih u hu (Tm.zuZ hf hu) h
   have:=zst l hk hu
   omega
theorem zqp{l:List B}{v w:Int}:∀t:Tm,t.fits=true->w∈t.occ->inR l v (tvar w)->inR l v t:=by
 intro t
 induction t using Tm.zuX with
 |h t ih=>
  intro hf hw hi
  rw[Tm.occ_eq] at hw
  by_cases hk:t.kind=0
  ·rw[if_pos hk,List.mem_singleton] at hw
   rw[zbm hf hk,<-hw]
   exact hi
  ·rw[if_neg hk] at hw
   obtain⟨u,hu,h⟩:=Tm.zve hw
   exact(ztr hk).2 ⟨u,hu,ih u hu (Tm.zuZ hf hu) h hi⟩
theorem ztx{l:List B}(hO:OKB l){v:Int}{t:Tm}(hf:fndB l v=false)(hv:0<=v/\v<=1099511627776)(ht:t.valid=true)(hn:¬inR l v t):OKB (insB l v t):=by
 have htz:=valid_size ht
 have hA:=hO.Acyc
 refine zuk (zqf hO.good hf ht (by omega)) (fun b hb=> ?_) ?_
 ·rcases zez hb with rfl|h
  ·exact hv
  ·exact hO.rng b h
 ·refine⟨fun w=>by classical exact if inR l v (tvar w) then mu l (tvar w)+mu l t+1 else mu l (tvar w),fun x hx y hy hfy=> ?_⟩
  have hvv:inR l v (tvar v):=(zmf hA (zdr hv) rfl (by show ¬fndB l v=true;simp[hf])).2 rfl
  simp only
  by_cases hxv:x=v
  ·subst hxv
   rw[zuv hO.good hf] at hy
   have h1:¬inR l x (tvar y):=fun h=>hn (zqp t (valid_fits ht) hy h)
   have h2:=zsv (l:=l) t (valid_fits ht) hy
   rw[if_pos hvv,if_neg h1]
   omega
  ·have hfx:fndB l x=true:=((ziJ hO.good hf x).1 hx).resolve_left hxv
   rw[zgC hO.good hf hfx] at hy
   have hto:=valid_fits (hO.to hfx).1
   have h2:=zsv (l:=l) _ hto hy
   have h3:=zln (l:=l) hA (t:=tvar x) rfl hfx
   have h3:mu l (toB l x)<mu l (tvar x):=h3
   have h4:inR l v (tvar y)->inR l v (tvar x):=fun h=>(zmg hA (t:=tvar x) rfl hfx).2 (zqp _ hto hy h)
   by_cases h5:inR l v (tvar y)
   ·rw[if_pos h5,if_pos (h4 h5)];omega
   ·rw[if_neg h5]
    split <;> omega
def Flwd(l:List B)(x:Tm):Prop:=x.valid=true/\(x.kind=0->fndB l x.n=false/\x=tvar x.n/\0<=x.n/\x.n<=1099511627776)
theorem zty{x:Tm}(hf:x.fits=true)(hk:x.kind=0):0<=x.n/\x.n<=1099511627776:=by
 exact ztC hf x.n (by rw[Tm.occ_eq,if_pos hk];simp)
theorem zeB{l:List B}(hO:OKB l){t:Tm}(hv:t.valid=true):Flwd l (flw l t):=by
 obtain⟨h1,_,_,h4⟩:=zuo hO _ t rfl hv
 refine⟨h1,fun hk=>⟨?_,zbm (valid_fits h1) hk,zty (valid_fits h1) hk⟩⟩
 cases e:fndB l (flw l t).n with
 |false=>rfl
 |true=>exact absurd ⟨hk,e⟩ h4
theorem zqq{l:List B}(hO:OKB l){x:Tm}(hx:Flwd l x)(hk:x.kind=0)(v:Int):inR l v x↔v=x.n:=
 zmf hO.Acyc (valid_fits hx.1) hk (by simp[(hx.2 hk).1])
structure UBind(l:List B)(v:Int)(t:Tm):Prop where
 unb:fndB l v=false
 rng:0<=v/\v<=1099511627776
 val:t.valid=true
 out:¬inR l v t
theorem znG{l:List B}(hO:OKB l){x y:Tm}(hx:Flwd l x)(hy:Flwd l y){v:Int}{t:Tm}(h:ustep l x y=.bind v t):UBind l v t:=by
 unfold ustep at h
 split at h
 ·rename_i hk
  have hx2:=hx.2 hk.1
  have hy2:=hy.2 hk.2
  split at h
  ·rename_i hlt
   cases h
   exact⟨hx2.1,hx2.2.2,hy.1,fun e=>by have:=(zqq hO hy hk.2 _).1 e;omega⟩
  ·split at h
   ·rename_i hlt
    cases h
    exact⟨hy2.1,hy2.2.2,hx.1,fun e=>by have:=(zqq hO hx hk.1 _).1 e;omega⟩
   ·cases h
 ·split at h
  ·rename_i hk
   split at h
   ·cases h
   ·rename_i hn
    cases h
    exact⟨(hx.2 hk).1,(hx.2 hk).2.2,hy.1,hn⟩
  ·split at h
   ·rename_i hk
    split at h
    ·cases h
    ·rename_i hn
     cases h
     exact⟨(hy.2 hk).1,(hy.2 hk).2.2,hx.1,hn⟩
   ·split at h <;> cases h
theorem znH{l:List B}{x y:Tm}(hx:Flwd l x)(hy:Flwd l y){xs:List (Tm × Tm)}(h:ustep l x y=.args xs):(∀p∈xs,p.1.valid=true/\p.2.valid=true)/\xs.length<=2000:=by
 unfold ustep at h
 split at h
 ·split at h
  ·cases h
  ·split at h
   ·cases h
   ·cases h;exact⟨(fun p hp=>by cases hp),Nat.zero_le _⟩
 ·split at h
  ·split at h <;> cases h
  ·split at h
   ·split at h <;> cases h
   ·split at h
    ·cases h
     have hs:=valid_size hx.1
     have hse:=x.size_eq
     have hlen:=Tm.zuW x.args
     refine⟨fun p hp=> ?_,by rw[List.length_zip];omega⟩
     have:=List.of_mem_zip hp
     exact⟨zbH hx.1 this.1,zbH hy.1 this.2⟩
    ·cases h
inductive Vis(l:List B)(w:Int):Tm->Prop
 |to:fndB l w=true->Vis l w (toB l w)
 |arg {x u:Tm}:Vis l w x->¬x.kind=0->u∈x.args->Vis l w u
 |jump {x:Tm}:Vis l w x->x.kind=0->fndB l x.n=true->Vis l w (toB l x.n)
theorem Vis.lt{l:List B}(hA:Acyc l){w:Int}{x:Tm}(h:Vis l w x):mu l x<mu l (tvar w):=by
 induction h with
 |to hf=>exact zln (t:=tvar w) hA rfl hf
 |arg _ hk hu ih=>have:=zst l hk hu;omega
 |jump _ hk hf ih=>have:=zln hA hk hf;omega
theorem Vis.ins{l:List B}(hG:Good l){v:Int}{t:Tm}(hf:fndB l v=false){w:Int}{x:Tm}(h:Vis l w x):Vis (insB l v t) w x:=by
 induction h with
 |to h1=>
  have:=Vis.to (l:=insB l v t) (w:=w) ((ziJ hG hf w).2 (.inr h1))
  rw[zgC hG hf h1] at this
  exact this
 |arg _ hk hu ih=>exact ih.arg hk hu
 |jump _ hk h1 ih=>
  have:=ih.jump hk ((ziJ hG hf _).2 (.inr h1))
  rw[zgC hG hf h1] at this
  exact this
theorem Vis.flw{l:List B}(hO:OKB l){w:Int}:∀(k:Nat) (u:Tm),mu l u=k->u.valid=true->Vis l w u->Vis l w (flw l u):=by
 intro k
 induction k using Nat.strongRecOn with
 |_ k ih=>
  intro u hk hv h
  by_cases hk0:u.kind=0
  ·by_cases hf:fndB l u.n=true
   ·rw[zmi hO.Acyc hk0 hf]
    have:=zln hO.Acyc hk0 hf
    exact ih _ (by omega) _ rfl (hO.to hf).1 (h.jump hk0 hf)
   ·rw[zfD hO.Acyc (valid_fits hv) hk0 hf];exact h
  ·rw[ziH l hk0];exact h
def PosI(l:List B)(u:Tm)(i:Nat):Prop:=∃D:List Int,D.Nodup/\(∀w∈D,fndB l w=true/\Vis l w u)/\i+u.size<=2000*(D.length+1)
def StkI(l:List B):List (Tm × Tm)->Prop
 |[]=>True
 |p::r=>PosI l p.1 r.length/\StkI l r
theorem PosI.ins{l:List B}(hG:Good l){v:Int}{t:Tm}(hf:fndB l v=false){u:Tm}{i:Nat}(h:PosI l u i):PosI (insB l v t) u i:=by
 obtain⟨D,h1,h2,h3⟩:=h
 exact⟨D,h1,fun w hw=>⟨(ziJ hG hf w).2 (.inr (h2 w hw).1),(h2 w hw).2.ins hG hf⟩,h3⟩
theorem StkI.ins{l:List B}(hG:Good l){v:Int}{t:Tm}(hf:fndB l v=false):∀{r:List (Tm × Tm)},StkI l r->StkI (insB l v t) r
 |[],_=>trivial
 |_::_,h=>⟨h.1.ins hG hf,StkI.ins hG hf h.2⟩
theorem StkI.len{l:List B}{r:List (Tm × Tm)}(h:StkI l r):r.length<=2000*(l.length+1):=by
 cases r with
 |nil=>exact Nat.zero_le _
 |cons p r=>
  obtain⟨D,h1,h2,h3⟩:=h.1
  have:=zts h1 fun w hw=>(h2 w hw).1
  have h4:=p.1.size_eq
  simp only[List.length_cons]
  omega
theorem ziI{l:List B}{D:List Int}(h1:D.Nodup):∀(us vs:List Tm) (r:List (Tm × Tm)),us.length=vs.length->(∀u∈us,∀w∈D,fndB l w=true/\Vis l w u)->r.length+Tm.sizes us<=2000*(D.length+1)->StkI l r->StkI l (us.zip vs++r)
 |[],_,r,_,_,_,hr=>hr
 |u::us,[],r,hl,_,_,_=>by cases hl
 |u::us,v::vs,r,hl,hD,hs,hr=>by
  have hl':us.length=vs.length:=by simpa using hl
  have hs':r.length+(u.size+Tm.sizes us)<=2000*(D.length+1):=hs
  have hz:=Tm.zuW us
  refine⟨⟨D,h1,hD u List.mem_cons_self,?_⟩,ziI h1 us vs r hl' (fun x hx=>hD x (List.mem_cons_of_mem _ hx)) (by omega) hr⟩
  show(us.zip vs++r).length+u.size<=_
  rw[List.length_append,List.length_zip]
  omega
theorem StkI.push{l:List B}(hO:OKB l){p:Tm × Tm}{r:List (Tm × Tm)}(hp:p.1.valid=true)(h:StkI l (p::r))(vs:List Tm)(hk:¬(Go.Proofs.YtiifblpdlphchaaGreatRR.flw l p.1).kind=0)(hl:(Go.Proofs.YtiifblpdlphchaaGreatRR.flw l p.1).args.length=vs.length):StkI l ((Go.Proofs.YtiifblpdlphchaaGreatRR.flw l p.1).args.zip vs++r):=by
 obtain⟨⟨D,h1,h2,h3⟩,hr⟩:=h
 have hx:=zeB hO hp
 have hxs:=valid_size hx.1
 have hxe:=(Go.Proofs.YtiifblpdlphchaaGreatRR.flw l p.1).size_eq
 by_cases hk0:p.1.kind=0
 ·have hps:p.1.size=1:=by rw[zbm (valid_fits hp) hk0];rfl
  have hf:fndB l p.1.n=true:=by
   cases e:fndB l p.1.n with
   |true=>rfl
   |false=>exact absurd (by rw[zfD hO.Acyc (valid_fits hp) hk0 (by simp[e])];exact hk0) hk
  have hv:Vis l p.1.n (Go.Proofs.YtiifblpdlphchaaGreatRR.flw l p.1):=by
   rw[zmi hO.Acyc hk0 hf]
   exact Vis.flw hO _ _ rfl (hO.to hf).1 (.to hf)
  have hnm:p.1.n ∉ D:=fun hm=>by
   have:=(h2 _ hm).2.lt hO.Acyc
   rw[zr1 (valid_fits hp) hk0] at this
   omega
  refine ziI (D:=p.1.n::D) (List.nodup_cons.2 ⟨hnm,h1⟩) _ vs r hl (fun u hu w hw=> ?_) (by simp only[List.length_cons];omega) hr
  rcases List.mem_cons.1 hw with rfl|hw
  ·exact⟨hf,hv.arg hk hu⟩
  ·exact⟨(h2 w hw).1,(Vis.flw hO _ _ rfl hp (h2 w hw).2).arg hk hu⟩
 ·rw[ziH l hk0] at hxe hk hl ⊢
  exact ziI h1 _ vs r hl (fun u hu w hw=>⟨(h2 w hw).1,(h2 w hw).2.arg hk0 hu⟩) (by omega) hr
def InV(V:List Int)(t:Tm):Prop:=∀w∈t.occ,w∈V
def InVB(V:List Int)(l:List B):Prop:=∀b∈l,b.1∈V/\InV V b.2
theorem InV.arg{V:List Int}{t u:Tm}(h:InV V t)(hk:¬t.kind=0)(hu:u∈t.args):InV V u:=fun w hw=>h w (Tm.zvg hk hu hw)
theorem InV.var{V:List Int}{t:Tm}(h:InV V t)(hk:t.kind=0):t.n∈V:=h _ (by rw[Tm.occ_eq,if_pos hk];simp)
theorem InV.flw{V:List Int}{l:List B}(hO:OKB l)(hb:InVB V l):∀(k:Nat) (u:Tm),mu l u=k->u.valid=true->InV V u->InV V (flw l u):=by
 intro k
 induction k using Nat.strongRecOn with
 |_ k ih=>
  intro u hk hv h
  by_cases hk0:u.kind=0
  ·by_cases hf:fndB l u.n=true
   ·rw[zmi hO.Acyc hk0 hf]
    have:=zln hO.Acyc hk0 hf
    exact ih _ (by omega) _ rfl (hO.to hf).1 (hb _ (find_mem hf)).2
   ·rw[zfD hO.Acyc (valid_fits hv) hk0 hf];exact h
  ·rw[ziH l hk0];exact h
theorem InVB.len{V:List Int}{l:List B}(hG:Good l)(hb:InVB V l):l.length<=V.length:=by
 have h1:(l.map (·.1)).Nodup:=by
  refine List.pairwise_map.2 (hG.1.imp fun{a b} h=> ?_)
  omega
 have h2:=zgz (l.map (·.1)) V h1 fun x hx=>by
  obtain⟨b,hb1,rfl⟩:=List.mem_map.1 hx
  exact(hb b hb1).1
 rwa [List.length_map] at h2
theorem zlk{V:List Int}{l:List B}{x y:Tm}(hx:InV V x)(hy:InV V y){v:Int}{t:Tm}(h:ustep l x y=.bind v t):v∈V/\InV V t:=by
 unfold ustep at h
 split at h
 ·rename_i hk
  split at h
  ·cases h;exact⟨hx.var hk.1,hy⟩
  ·split at h
   ·cases h;exact⟨hy.var hk.2,hx⟩
   ·cases h
 ·split at h
  ·rename_i hk
   split at h
   ·cases h
   ·cases h;exact⟨hx.var hk,hy⟩
  ·split at h
   ·rename_i hk
    split at h
    ·cases h
    ·cases h;exact⟨hy.var hk,hx⟩
   ·split at h <;> cases h
theorem zll{V:List Int}{l:List B}{x y:Tm}(hx:InV V x)(hy:InV V y){xs:List (Tm × Tm)}(h:ustep l x y=.args xs):∀p∈xs,InV V p.1/\InV V p.2:=by
 unfold ustep at h
 split at h
 ·split at h
  ·cases h
  ·split at h
   ·cases h
   ·cases h;exact fun p hp=>by cases hp
 ·split at h
  ·split at h <;> cases h
  ·split at h
   ·split at h <;> cases h
   ·split at h
    ·rename_i hk1 hk2 _
     cases h
     exact fun p hp=>⟨hx.arg hk1 (List.of_mem_zip hp).1,hy.arg hk2 (List.of_mem_zip hp).2⟩
    ·cases h
structure RunI(V:List Int)(l0:List B)(p0:Tm × Tm)(n:Nat)(l:List B)(r:List (Tm × Tm)):Prop where
 okb:OKB l
 val:∀p∈r,p.1.valid=true/\p.2.valid=true
 eq:uni 1048576 l0 [p0]=uni n l r
 le:n<=1048576
 stk:StkI l r
 vb:InVB V l
 vp:∀p∈r,InV V p.1/\InV V p.2
theorem RunI.flw{V:List Int}{l0:List B}{p0:Tm × Tm}{n:Nat}{l:List B}{p:Tm × Tm}{r:List (Tm × Tm)}(h:RunI V l0 p0 n l (p::r)):InV V (flw l p.1)/\InV V (flw l p.2):=
 have hv:=h.val p List.mem_cons_self
 have hi:=h.vp p List.mem_cons_self
 ⟨InV.flw h.okb h.vb _ _ rfl hv.1 hi.1,InV.flw h.okb h.vb _ _ rfl hv.2 hi.2⟩
theorem RunI.bind{V:List Int}{l0:List B}{p0:Tm × Tm}{n:Nat}{l:List B}{p:Tm × Tm}{r:List (Tm × Tm)}(h:RunI V l0 p0 (n+1) l (p::r)){v:Int}{t:Tm}(hu:ustep l (Go.Proofs.YtiifblpdlphchaaGreatRR.flw l p.1) (Go.Proofs.YtiifblpdlphchaaGreatRR.flw l p.2)=.bind v t):RunI V l0 p0 n (insB l v t) r:=by
 have hbv:=zlk h.flw.1 h.flw.2 hu
 obtain⟨hO,hv,he,hle,hs,hvb,hvp⟩:=h
 have hp:=hv p List.mem_cons_self
 have hb:=znG hO (zeB hO hp.1) (zeB hO hp.2) hu
 refine⟨ztx hO hb.unb hb.rng hb.val hb.out,fun q hq=>hv q (List.mem_cons_of_mem _ hq),by rw[he,zr7 r hu],by omega,StkI.ins hO.good hb.unb hs.2,fun b hb=> ?_,fun q hq=>hvp q (List.mem_cons_of_mem _ hq)⟩
 rcases zez hb with rfl|h
 ·exact hbv
 ·exact hvb b h
theorem RunI.args{V:List Int}{l0:List B}{p0:Tm × Tm}{n:Nat}{l:List B}{p:Tm × Tm}{r:List (Tm × Tm)}(h:RunI V l0 p0 (n+1) l (p::r))(hk:¬(Go.Proofs.YtiifblpdlphchaaGreatRR.flw l p.1).kind=0)(hl:(Go.Proofs.YtiifblpdlphchaaGreatRR.flw l p.1).args.length=(Go.Proofs.YtiifblpdlphchaaGreatRR.flw l p.2).args.length)(hu:ustep l (Go.Proofs.YtiifblpdlphchaaGreatRR.flw l p.1) (Go.Proofs.YtiifblpdlphchaaGreatRR.flw l p.2)=.args ((Go.Proofs.YtiifblpdlphchaaGreatRR.flw l p.1).args.zip (Go.Proofs.YtiifblpdlphchaaGreatRR.flw l p.2).args)):RunI V l0 p0 n l ((Go.Proofs.YtiifblpdlphchaaGreatRR.flw l p.1).args.zip (Go.Proofs.YtiifblpdlphchaaGreatRR.flw l p.2).args++r):=by
 have hav:=zll h.flw.1 h.flw.2 hu
 obtain⟨hO,hv,he,hle,hs,hvb,hvp⟩:=h
 have hp:=hv p List.mem_cons_self
 have ha:=znH (zeB hO hp.1) (zeB hO hp.2) hu
 exact⟨hO,fun q hq=>(List.mem_append.1 hq).elim (ha.1 q) fun hq=>hv q (List.mem_cons_of_mem _ hq),by rw[he,zr8 r hu],by omega,hs.push hO hp.1 _ hk hl,hvb,fun q hq=>(List.mem_append.1 hq).elim (hav q) fun hq=>hvp q (List.mem_cons_of_mem _ hq)⟩
theorem zrR(s:List UInt8)(l:List Tm)(hs:(tstr s l).size<1000000000):W Z L 0 (g14).code ⟨params 0 (pvs [(none,.str s),(none,.sl (some 4) (Tm.pvs l))]),[]⟩ (endK (g14).results (Am.frozen (.tuple [(canR (tstr s l)).av,.pv none (.bool (tstr s l).valid)]))):=by
 have h1:=fun hp=>f_ok s l hp
 have h2:=fun hp=>zj9 (tstr s l) hp hs
 have h3:=fun hp=>zcl (tstr s l) hp hs
 generalize tstr s l=g at h1 h2 h3 ⊢
 simp only[Tm.av] at h1 h2 h3
 simp -dsimp -implicitDefEqProofs only[go_sem,seval,↓reduceIte,Tm.av,h1,h2,h3,zae (Nat.zero_le _)]
 exact⟨_,rfl⟩
theorem ztn(s:List UInt8)(l:List Tm)(hs:(tstr s l).size<1000000000)(hp:Heap):S 14 [.pv none (.str s),.pv none (.sl (some 4) (Tm.pvs l))] hp=some (.ret (.tuple [(canR (tstr s l)).av,.pv none (.bool (tstr s l).valid)]),hp):=
 zak rfl rfl rfl (zab [(none,.str s),(none,.sl (some 4) (Tm.pvs l))]) rfl (zrR s l hs)
theorem zp7(t:Tm):(canT t).kind=t.kind:=by
 unfold canT
 rw[Tm.zu1]
 split
 ·rename_i h
  rw[h]
  rfl
 ·rfl
theorem zl8(L:List Int)(t:Tm):(Tm.sub (cPos L) t).kind=t.kind:=by
 rw[Tm.zu1]
 split
 ·rename_i h
  rw[h]
  rfl
 ·rfl
theorem zrS(s:List UInt8)(l:List Tm):canT (tstr s l)=tstr s (l.map (Tm.sub (cPos (vads [] (Tm.occs l))))):=by
 have ho:(tstr s l).occ=Tm.occs l:=by rw[Tm.occ_eq];rfl
 unfold canT
 rw[Tm.zu1,ho]
 rfl
theorem zl9(L:List Int)(t:Tm):cs (Tm.sub (cPos L) t)↔cs t:=by
 by_cases hk:t.kind=0
 ·constructor
  ·intro h
   have:=h.1
   rw[zl8,hk] at this
   cases this
  ·intro h
   have:=h.1
   rw[hk] at this
   cases this
 ·rw[zck hk]
  unfold cs
  show t.kind=3/\t.name=[46]/\(t.args.map _).length=2↔_
  rw[List.length_map]
theorem zma(L:List Int){t:Tm}(h:cs t):arg1 (Tm.sub (cPos L) t)=Tm.sub (cPos L) (arg1 t):=by
 have hk:¬t.kind=0:=by rw[h.1];decide
 rw[zck hk]
 have e:(Tm.mk t.kind t.n t.name (t.args.map (Tm.sub (cPos L)))).args=[Tm.sub (cPos L) (arg0 t),Tm.sub (cPos L) (arg1 t)]:=by
  show t.args.map _=_
  rw[args_two h.2.2]
  rfl
 generalize Tm.mk t.kind t.n t.name (t.args.map (Tm.sub (cPos L)))=u at e
 conv=>lhs;unfold arg1
 rw[e]
theorem zrT(L:List Int){t:Tm}(h:cs t):arg0 (Tm.sub (cPos L) t)=Tm.sub (cPos L) (arg0 t):=by
 have hk:¬t.kind=0:=by rw[h.1];decide
 rw[zck hk]
 have e:(Tm.mk t.kind t.n t.name (t.args.map (Tm.sub (cPos L)))).args=[Tm.sub (cPos L) (arg0 t),Tm.sub (cPos L) (arg1 t)]:=by
  show t.args.map _=_
  rw[args_two h.2.2]
  rfl
 generalize Tm.mk t.kind t.n t.name (t.args.map (Tm.sub (cPos L)))=u at e
 conv=>lhs;unfold arg0
 rw[e]
theorem zug(L:List Int):∀(n:Nat) (t:Tm),t.size=n->tl (Tm.sub (cPos L) t)=Tm.sub (cPos L) (tl t):=by
 intro n
 induction n using Nat.strongRecOn with
 |_ n ih=>
  intro t hn
  by_cases h:cs t
  ·have hlt:=Tm.zuY (zbS h.2.2)
   rw[tl_c h,tl_c ((zl9 L t).2 h),zma L h,ih _ (by omega) _ rfl]
  ·rw[tl_n h,tl_n fun h'=>h ((zl9 L t).1 h')]
theorem zto(L:List Int):∀(n:Nat) (t:Tm),t.size=n->els (Tm.sub (cPos L) t)=(els t).map (Tm.sub (cPos L)):=by
 intro n
 induction n using Nat.strongRecOn with
 |_ n ih=>
  intro t hn
  by_cases h:cs t
  ·have hlt:=Tm.zuY (zbS h.2.2)
   rw[znD h,znD ((zl9 L t).2 h),zma L h,zrT L h,ih _ (by omega) _ rfl,List.map_cons]
  ·rw[zlf h,zlf fun h'=>h ((zl9 L t).1 h')]
   rfl
theorem zpV(s:List UInt8)(hp:Heap):S 125 [.pv none (.str s)] hp=some (.ret (tatm s).av,hp):=by
 refine zak rfl rfl rfl (zab [(none,.str s)]) rfl ?_
 have hbu:zaQ [(none,.pv none (.int .i64 0)),(none,.pv none (.int .i64 0)),(none,.pv none (.str [])),(none,.tsl (some 4) [])] [0,2] [.pv none (.int .i64 2),.pv none (.str s)]=some (.agg [(none,.pv none (.int .i64 2)),(none,.pv none (.int .i64 0)),(none,.pv none (.str s)),(none,.tsl (some 4) [])]):=rfl
 simp -dsimp -implicitDefEqProofs only[go_sem,seval,↓reduceIte,hbu]
 exact⟨_,rfl⟩
theorem zdF(s:List UInt8)(t:Tm)(hp:Heap):S 124 [.pv none (.str s),t.av] hp=some (.ret (.func (.func 140) [] [.ptr hp.length 0,.ptr (hp.length+1) 0]),hp++[.box none (.pv none (.str s)),.box (some 4) (.pv (some 4) t.pv)]):=by
 refine zay rfl rfl rfl rfl ?_
 simp -dsimp -implicitDefEqProofs only[go_sem,seval,↓reduceIte,Tm.av,List.append_assoc,zaj,zag,zan,zah,Nat.add_assoc,List.length_append]
 rw[if_neg (by simp[AV.refsIn,AV.refsIn.gol])]
end Go.Proofs.YtiifblpdlphchaaGreatRR
