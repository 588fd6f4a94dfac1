/- What is proved: inspect.Call, given what its execute returns. -/
import Derived.Test.YtiifblpdlphchaaGreatRRDfr
import Derived.Test.YtiifblpdlphchaaGreatRRSml
import Derived.Test.YtiifblpdlphchaaGreatRRAm4
set_option linter.unusedSimpArgs false
set_option linter.unusedVariables false
namespace Go.Proofs.YtiifblpdlphchaaGreatRR
open Go.Am
structure IsT(v:AV)(hp:Heap)(l:List Tm):Prop where
 len:sLen [v]=some (.pv none (.int .i64 l.length))
 idx:∀(i:Nat) (u:Tm),l[i]? =some u->∃p,(∀(s:Sh) (k:IntKind),zaT (some 4) [v,.pv s (.int k i)]=some p)/\aload (some 4) hp p=some (.pv (some 4) u.pv)
def zdP(ts:List Tm)(e:Int):List Tm × Int:=if e≠0 then([],e) else if 1000<ts.length then([],2) else if ts.all Tm.valid=true then(ts,0) else([],2)
def runV(g:Tm)(k:Nat):PV:=.agg [(some 4,g.pv),(none,.int .i64 (k:Int))]
def hE(g:Tm):Heap:=[.box (some 4) (.pv (some 4) g.pv),.box none (.sl (some 4) 2 0 0 0),.arr (some 4) [] false,.box (some 4) (cagg 0 4),.arr (some 4) [] false,.box none (.pv none (.int .i64 0)),.box (some 5) (.pv (some 5) (runV g (vads [] g.occ).length))]
theorem zkN(t:Tm)(hp:Heap):S 47 [t.av] hp=some (.ret (.pv none (.bool (decide (t.kind=3)))),hp):=by
 refine zak rfl rfl rfl (zab [(some 4,t.pv)]) rfl ?_
 simp -dsimp -implicitDefEqProofs only[go_sem,seval,↓reduceIte,Tm.av,zao]
theorem zgt(a0:AObj)(s:AV)(r:Heap):zaG none 0 (a0::.box none s::r) [.ptr 1 0,.tsl (some 4) []]=some (.undef,a0::.box none (.sl (some 4) (r.length+2) 0 0 0)::(r++[.arr (some 4) [] false])):=by
 simp[zaG,astore,AV.shp,AV.plain,AV.own,zcn]
theorem ze8(a0:AObj)(s:AV)(r:Heap):zbZ none 0 (a0::.box none s::r) [.ptr 1 0,.tsl (some 4) [],.ptr 5 0]=some (.undef,a0::.box none (.sl (some 4) (r.length+2) 0 0 0)::(r++[.arr (some 4) [] false])):=by
 simp[zbZ,astore,AV.shp,AV.plain,AV.own,zcn,zfT]
def zagC:AV:=.agg [(none,.pv none (.int .i64 0)),(none,.pv none (.int .i64 0)),(none,.pv none (.str [])),(none,.tsl (some 4) [])]
theorem zd2(a0 a1 a2:AObj)(s:AV)(r:Heap):zaG (some 4) 0 (a0::a1::a2::.box (some 4) s::r) [.ptr 3 0,zagC]=some (.undef,a0::a1::a2::.box (some 4) (cagg 0 (r.length+4))::(r++[.arr (some 4) [] false])):=by
 simp[zaG,astore,AV.shp,AV.plain,AV.own,zcn,zagC,cagg,zaq,zdl,total,Sh.size]
theorem zdG(a0 a1 a2:AObj)(s:AV)(r:Heap):zbZ (some 4) 0 (a0::a1::a2::.box (some 4) s::r) [.ptr 3 0,zagC,.ptr 5 0]=some (.undef,a0::a1::a2::.box (some 4) (cagg 0 (r.length+4))::(r++[.arr (some 4) [] false])):=by
 simp[zbZ,astore,AV.shp,AV.plain,AV.own,zcn,zagC,cagg,zaq,zdl,total,Sh.size,zfT]
theorem zrh(H:Heap):sem (find tab) prim .dfr 48 [.pv none .niliface,.ptr 1 0,.ptr 3 0,.ptr 5 0] H=some (.ret (.tuple []),H):=by
 refine zie (t:=6) rfl rfl rfl rfl ?_
 have hin:zfh true [.pv none .niliface]=some (.pv none (.bool false)):=rfl
 simp -dsimp -implicitDefEqProofs only[go_sem,seval,↓reduceIte,hin,zdq,List.append_assoc,zaf,zac,zah,zad,Nat.add_assoc,List.length_append]
 simp
theorem zib{fr:Fr}{hp0 H:Heap}{es:List PV}{n q1 q2:Nat}{b1 b2:Bool}{e:Int}(hf:fr.look 33=some (.func (.func 48) [] [.ptr 1 0,.ptr 3 0,.ptr 5 0]))(h1:H[1]? =some (.box none (.sl (some 4) q1 n 0 n)))(h3:H[3]? =some (.box (some 4) (cagg 0 q2)))(h5:H[5]? =some (.box none (.pv none (.int .i64 e))))(he:H[q1]? =some (.arr (some 4) es b1))(hn:es.length=n)(hz:H[q2]? =some (.arr (some 4) [] b2))(hq:q1≠q2):
  outD (find tab) prim [(2,some none),(3,some (some 4)),(4,some none)] 33 (.tuple [.pv none (.sl (some 4) es),.pv (some 4) zt.pv,.pv none (.int .i64 e)]) ⟨fr,hp0⟩ .niliface ⟨[(2,.ptr 1 0),(3,.ptr 3 0),(4,.ptr 5 0)],H⟩:=by
 refine⟨_,[],_,hf,.tuple [],H,.tuple [.sl (some 4) q1 n 0 n,cagg 0 q2,.pv none (.int .i64 e)],zrh H,?_,?_⟩
 ·simp[zay,zaZ,zct,Fr.look,h1,h3,h5,cagg,aload,zh1,AV.shp,total,Sh.size]
 ·have hz':(H.set q1 (.arr (some 4) es true))[q2]? =some (.arr (some 4) [] b2):=by rw[List.getElem?_set_ne hq];exact hz
  have e1:AV.freeze deep (.sl (some 4) q1 n 0 n) H=some (.sl (some 4) es,H.set q1 (.arr (some 4) es true)):=by
   simp[AV.freeze,deep,he,hn]
  have e2:AV.freeze deep (cagg 0 q2) (H.set q1 (.arr (some 4) es true))=some (zt.pv,(H.set q1 (.arr (some 4) es true)).set q2 (.arr (some 4) [] true)):=by
   have e:∀l hp,AV.freeze (7+1) (.agg l) hp=match AV.freeze.go 7 l hp with|some (ps,hp')=>some (.agg ps,hp')|none=>none:=fun _ _=>rfl
   show AV.freeze (7+1) (.agg _) _=_
   simp[e,AV.freeze.go,AV.freeze,hz']
   rfl
  have e3:∀X,AV.freeze deep (.pv none (.int .i64 e)) X=some (.int .i64 e,X):=fun _=>rfl
  refine⟨(H.set q1 (.arr (some 4) es true)).set q2 (.arr (some 4) [] true),?_⟩
  have e4:(cagg 0 q2).shp=some 4:=rfl
  simp[AV.freezeRes,zam,e1,e2,e3,pvs,e4,AV.shp]
  exact rfl
theorem zgu{Γ:Oracle}{b:Nat}{vs:List AV}{hp:Heap}{K:AV->Heap->Prop}{Kp:PV->Heap->Prop}(sh:Sh):opK (aOp Γ b (.storex sh) vs hp) K Kp=zb2 (zcC sh b hp vs) K:=by
 show opK (match zcC sh b hp vs with|some (v,hp')=>some (OpRes.val v hp')|none=>none) K Kp=_
 cases zcC sh b hp vs with
 |none=>rfl
 |some r=>cases r;rfl
def kC(a0 x6:AObj)(ext:Heap)(j:Nat)(es:List PV):Heap:=a0::.box none (.sl (some 4) 2 j 0 j)::.arr (some 4) es false::.box (some 4) (cagg 0 4)::.arr (some 4) [] false::.box none (.pv none (.int .i64 0))::x6::ext
theorem ztT{a0 x6:AObj}{ext:Heap}{j:Nat}{es:List PV}(h:es.length=j)(hj:j<1000000)(p:PV)(X:Heap):zaL (some 4) (kC a0 x6 ext j es++X) [.sl (some 4) 2 j 0 j,.tsl (some 4) [p]]=some (.sl (some 4) 2 (j+1) 0 (j+1),kC a0 x6 ext j (es++[p])++X):=by
 have hlim:j+1<=lim:=by unfold lim;omega
 simp[zaL,aappend,elems,kC,h,hlim]
theorem zuQ{a0 x6:AObj}{ext:Heap}{j:Nat}{es:List PV}(h:es.length=j)(p q:PV)(X:Heap):zaG (some 4) 0 (kC a0 x6 ext j (es++[p])++X) [.eptr (some 4) 2 (j+1) (0+j) 0,.pv (some 4) q]=some (.undef,kC a0 x6 ext j (es++[q])++X):=by
 have e:AV.freeze deep (.pv (some 4) q) (kC a0 x6 ext j (es++[p])++X)=some (q,kC a0 x6 ext j (es++[p])++X):=rfl
 simp only[zaG,astore,AV.shp,e]
 simp[kC,h]
theorem ztU{a0 x6:AObj}{ext:Heap}{j:Nat}{es:List PV}(q:PV)(s:Sh)(r v i o:Nat)(X:Heap):zcC none 0 (kC a0 x6 ext j es++X) [.ptr 1 0,.sl (some 4) 2 (j+1) 0 (j+1),.eptr s r v i o,.pv (some 4) q]=some (.undef,kC a0 x6 ext (j+1) es++X):=by
 simp[zcC,astore,AV.shp,AV.plain,AV.own,kC]
theorem ztV{a0 x6:AObj}{ext X:Heap}(hp:ext <+: X){j:Nat}{es:List PV}(fr:Fr)(Y:Heap):∃Z,ext <+: Z/\collect (ext.length+7) 0 fr (kC a0 x6 X j es++Y)=kC a0 x6 Z j es:=by
 have e:kC a0 x6 X j es++Y=kC a0 x6 (X++Y) j es:=rfl
 rw[e]
 unfold collect
 split
 ·refine⟨ext,List.prefix_refl _,?_⟩
  obtain⟨Y2,rfl⟩:=hp
  rw[List.append_assoc]
  simp only[kC,List.take_succ_cons,List.take_left]
 ·exact⟨X++Y,hp.trans (List.prefix_append _ _),rfl⟩
theorem zri(g:Tm)(hp:Heap)(hv:g.valid=true)(hc:canT g=g)(hk:g.kind=3)(hn:g.name∈zbt g.args.length)(ts:List Tm)(e:Int)(lv:AV)(x6:AObj)(ext:Heap)
  (he:S 50 [.ptr 6 0] (hE g)=some (.ret (.tuple [lv,.pv none (.int .i64 e)]),(hE g).take 6++x6::ext))(hL:∀H:Heap,(∀j x,6<=j->((hE g).take 6++x6::ext)[j]? =some x->H[j]? =some x)->IsT lv H ts)(hlt:ts.length<100000000)(hts:∀t∈ts,t.size<1000000):
  S 20 [g.av] hp=some (.ret (.tuple [.pv none (.sl (some 4) (Tm.pvs (zdP ts e).1)),zt.av,.pv none (.int .i64 (zdP ts e).2)]),hp):=by
 refine zfB rfl rfl rfl (zab [(some 4,g.pv)]) rfl rfl ?_
 have hsz:=valid_size hv
 have h1:=fun hp=>zbw g hp (by omega)
 have h2:=fun hp=>zrn g hp (by omega)
 have h3:=fun hp=>zrF g g hp (by omega) (by omega)
 have h4:=fun hp=>zkN g hp
 have h5:=fun hp=>zt5 g.name g.args.length hp
 have h6:=fun hp=>zlV g hv hp
 have hcr:canR g=g:=by unfold canR;rw[if_pos hv,hc]
 have hsm:same g g=true:=by simp[same,hv,Tm.cmp_zero]
 rw[hcr] at h2
 rw[hsm] at h3
 rw[hv] at h1
 have hn':decide (g.name∈zbt g.args.length)=true:=decide_eq_true hn
 rw[hn'] at h5
 have hk':decide (g.kind=3)=true:=decide_eq_true hk
 rw[hk'] at h4
 have hal:∀a0:AObj,zcg none (.tsl (some 4) []) [a0] []=some (.ptr 1 0,[a0,.box none (.sl (some 4) 2 0 0 0),.arr (some 4) [] false]):=fun _=>rfl
 have hnx:(ints (vads [] g.occ)).length=(vads [] g.occ).length:=za5 _
 simp only[Tm.av] at h1 h2 h3 h4 h5 h6
 have hbu:∀k:Nat,zaJ [(some 4,.agg [(none,.pv none (.int .i64 0)),(none,.pv none (.int .i64 0)),(none,.pv none (.str [])),(none,.tsl (some 4) [])]),(none,.pv none (.int .i64 0))] [0,1] [.pv (some 4) g.pv,.pv none (.int .i64 (k:Int))]=some (.pv (some 5) (runV g k)):=fun _=>rfl
 simp only[hE,cagg,List.take_succ_cons,List.take_zero,List.cons_append,List.nil_append] at he
 have hz0:zaJ [(none,.pv none (.int .i64 0)),(none,.pv none (.int .i64 0)),(none,.pv none (.str [])),(none,.tsl (some 4) [])] [] []=some zagC:=rfl
 by_cases h0:e=0
 rotate_left
 ·have hr:zdP ts e=([],e):=by simp[zdP,h0]
  rw[hr]
  simp -dsimp -implicitDefEqProofs only[go_sem,seval,↓reduceIte,Tm.av,hal,hbu,hz0,h0,h1,h2,h3,h4,h5,h6,hnx,he,zgt,ze8,zd2,zdG,zaA,zai,Tm.pvs_len,zae (Nat.zero_le _),zat,zbp,zbb,zb9,zbq,List.append_assoc,zaf,zac,zah,zad,Nat.add_assoc,List.length_append]
  exact⟨rfl,zib (es:=[]) (b1:=false) (b2:=false) rfl rfl rfl rfl (by simp) rfl (by simp) (by omega)⟩
 subst h0
 have hlen:=(hL ((hE g).take 6++x6::ext) fun _ _ _ h=>h).len
 by_cases hg:(1000:Int)<(ts.length:Int)
 ·have hr:zdP ts 0=([],2):=by
   have:1000<ts.length:=by omega
   simp[zdP,this]
  rw[hr]
  simp -dsimp -implicitDefEqProofs only[go_sem,seval,↓reduceIte,Tm.av,hal,hbu,hz0,hg,hlen,h1,h2,h3,h4,h5,h6,hnx,he,zgt,ze8,zd2,zdG,zaA,zai,Tm.pvs_len,zae (Nat.zero_le _),zat,zbp,zbb,zb9,zbq,List.append_assoc,zaf,zac,zah,zad,Nat.add_assoc,List.length_append]
  exact⟨rfl,zib (es:=[]) (b1:=false) (b2:=false) rfl rfl rfl rfl (by simp) rfl (by simp) (by omega)⟩
 have hg':¬1000<ts.length:=by omega
 have hr:zdP ts 0=if ts.all Tm.valid=true then(ts,0) else([],2):=by simp[zdP,hg']
 simp -dsimp -implicitDefEqProofs only[go_sem,seval,↓reduceIte,Tm.av,hal,hbu,hz0,hg,hlen,h1,h2,h3,h4,h5,h6,hnx,he,zgt,ze8,zd2,zdG,zaA,zai,Tm.pvs_len,zae (Nat.zero_le _),zat,zbp,zbb,zb9,zbq,List.append_assoc,zaf,zac,zah,zad,Nat.add_assoc,List.length_append]
 refine⟨rfl,?_⟩
 refine zc0 (α:=Heap) ts.length (fun i X=>ext <+: X/\∀t∈ts.take i,t.valid=true) (fun i X=>⟨[(2,.ptr 1 0),(3,.ptr 3 0),(4,.ptr 5 0),(53,lv),(54,.pv none (.int .i64 ts.length)),(55,.pv none (.int .i64 i))],kC (.box (some 4) (.pv (some 4) g.pv)) x6 X i (Tm.pvs (ts.take i))⟩) ext ⟨⟨List.prefix_refl _,?_⟩,?_⟩ ?_ ?_
 ·intro t ht
  simp at ht
 ·rfl
 ·rintro i X0 h ⟨hpre,hinv⟩
  obtain⟨K,hK⟩:∃K:Nat->List PV->Heap,K=kC (.box (some 4) (.pv (some 4) g.pv)) x6 X0:=⟨_,rfl⟩
  obtain⟨n,hn2⟩:∃n,n=X0.length+7:=⟨_,rfl⟩
  have hKl:∀j es,(K j es).length=n:=fun j es=>by rw[hK,hn2];rfl
  have hK1:∀j es X,(K j es++X)[1]? =some (.box none (.sl (some 4) 2 j 0 j)):=fun j es X=>by rw[hK];rfl
  have hKK:kC (.box (some 4) (.pv (some 4) g.pv)) x6 X0 i (Tm.pvs (ts.take i))=K i (Tm.pvs (ts.take i)):=by rw[hK]
  rw[hKK]
  have hc:(i:Int)<(ts.length:Int):=by omega
  obtain⟨u,hu⟩:∃u,ts[i]? =some u:=⟨_,List.getElem?_eq_getElem h⟩
  have w2:IntKind.i64.wrap ((i:Int)+1)=((i+1:Nat):Int):=by rw[zaH (by omega) (by omega)];omega
  have husz:=hts u (List.mem_of_getElem? hu)
  have h7:=fun hp=>zbw u hp (by omega)
  simp only[Tm.av] at h7
  have hl:(Tm.pvs (ts.take i)).length=i:=by rw[Tm.pvs_len,List.length_take];omega
  obtain⟨p,hp1,hp2⟩:=(hL (K i (Tm.pvs (ts.take i))) fun j x hj hx=>by
   rw[hK]
   match j,hj with
   |6,_=>exact hx
   |j+7,_=>
    obtain⟨Y,hY⟩:=hpre
    have h1:ext[j]? =some x:=hx
    show X0[j]? =some x
    rw[<-hY,List.getElem?_append_left (zbh h1),h1]).idx i u hu
  have happ:=fun p X=>ztT (a0:=.box (some 4) (.pv (some 4) g.pv)) (x6:=x6) (ext:=X0) hl (by omega) p X
  have hste:=fun p q X=>zuQ (a0:=.box (some 4) (.pv (some 4) g.pv)) (x6:=x6) (ext:=X0) hl p q X
  have hstx:=fun(j:Nat) (es:List PV) (q:PV) s r v i o X=>ztU (a0:=.box (some 4) (.pv (some 4) g.pv)) (x6:=x6) (ext:=X0) (j:=j) (es:=es) q s r v i o X
  rw[<-hK] at happ hste hstx
  have hwk:zaD [.agg [(none,.pv none (.int .i64 0)),(none,.pv none (.int .i64 0)),(none,.pv none (.str [])),(none,.tsl (some 4) [])]]=some [(some 4,zt.pv)]:=rfl
  have hia:zaT (some 4) [.sl (some 4) 2 (i+1) 0 (i+1),.pv none (.int .i64 i)]=some (.eptr (some 4) 2 (i+1) (0+i) 0):=zcd (by omega)
  rw[Nat.zero_add] at hia
  simp only[Nat.zero_add] at hste
  have htk:Tm.pvs (ts.take i)++[u.pv]=Tm.pvs (ts.take (i+1)):=Tm.zu1 hu
  by_cases hvu:u.valid=true
  ·have h8:=fun hp=>zfN u hp hvu (by omega)
   simp only[Tm.av] at h8
   simp -dsimp -implicitDefEqProofs only[go_sem,seval,↓reduceIte,zgu,Tm.av,hc,h7,h8,hvu,w2,hp1,hp2,hwk,htk,hia,hK1,happ,hste,hstx,hKl,zgt,ze8,zd2,zdG,zaA,zai,Tm.pvs_len,zae (Nat.zero_le _),zat,zbp,zbb,zb9,zbq,List.append_assoc,zaf,zac,zah,zad,Nat.add_assoc,List.length_append,getN (hKl _ _),zcJ (hKl _ _),setN (hKl _ _),zd1 (hKl _ _)]
   have hc2:∀fr Y,∃Z,ext <+: Z/\collect (ext.length+7) 0 fr (K (i+1) (Tm.pvs (ts.take (i+1)))++Y)=kC (.box (some 4) (.pv (some 4) g.pv)) x6 Z (i+1) (Tm.pvs (ts.take (i+1))):=fun fr Y=>by
    rw[hK]
    exact ztV hpre fr Y
   obtain⟨Z,hZ1,hZ⟩:=hc2 [(2,.ptr 1 0),(3,.ptr 3 0),(4,.ptr 5 0),(53,lv),(54,.pv none (.int .i64 ts.length)),(55,.pv none (.int .i64 (i+1:Nat)))] [.box (some 4) (.pv (some 4) u.pv),.arr (some 4) [] false]
   refine⟨Z,⟨hZ1,fun t ht=> ?_⟩,?_⟩
   ·rw[List.take_add_one,hu,List.mem_append] at ht
    rcases ht with ht|ht
    ·exact hinv t ht
    ·simp at ht
     rw[ht]
     exact hvu
   ·rw[hZ]
  ·have hvu':u.valid=false:=by simpa using hvu
   have hall:ts.all Tm.valid=false:=by
    rw[List.all_eq_false]
    exact⟨u,List.mem_of_getElem? hu,hvu⟩
   rw[hr,hall]
   simp -dsimp -implicitDefEqProofs only[go_sem,seval,↓reduceIte,zgu,Tm.av,hc,h7,hvu',hz0,hp1,hp2,hK1,hKl,zgt,ze8,zd2,zdG,zaA,zai,Tm.pvs_len,zae (Nat.zero_le _),zat,zbp,zbb,zb9,zbq,List.append_assoc,zaf,zac,zah,zad,Nat.add_assoc,List.length_append,getN (hKl _ _),zcJ (hKl _ _),setN (hKl _ _),zd1 (hKl _ _)]
   simp -dsimp -implicitDefEqProofs only[hK,kC,go_sem,seval,↓reduceIte,zgt,zd2,zbp,zbb,zb9,zbq,List.append_assoc,zaf,zac,zah,zad,Nat.add_assoc,List.length_append]
   exact zib (es:=[]) (b1:=false) (b2:=false) rfl rfl rfl rfl (by simp) rfl (by simp) (by omega)
 ·rintro X0 ⟨hpre,hinv⟩
  have hc:¬(ts.length:Int)<(ts.length:Int):=by omega
  rw[List.take_length] at hinv ⊢
  have hall:ts.all Tm.valid=true:=List.all_eq_true.2 hinv
  rw[hr,if_pos hall]
  simp -dsimp -implicitDefEqProofs only[go_sem,seval,↓reduceIte,zgu,Tm.av,hc,hz0,kC,zgt,ze8,zd2,zdG,zaA,zai,Tm.pvs_len,zae (Nat.zero_le _),zaY (Nat.zero_le _),zat,zbp,zbb,zb9,zbq,List.append_assoc,zaf,zac,zah,zad,Nat.add_assoc,List.length_append]
  exact zib (b1:=false) (b2:=false) rfl rfl rfl rfl (by simp) (Tm.pvs_len _) (by simp) (by omega)
theorem zrO{Γ:Oracle}{b:Nat}{vs:List AV}{hp:Heap}{K:AV->Heap->Prop}{Kp:PV->Heap->Prop}(neg:Bool):opK (aOp Γ b (.slnil neg) vs hp) K Kp=valK (zfS neg vs) fun v=>K v hp:=by
 show opK (match(match zfS neg vs with|some v=>some (v,hp)|none=>none) with|some (v,hp')=>some (OpRes.val v hp')|none=>none) K Kp=_
 cases zfS neg vs <;> rfl
theorem zgJ(g:Tm)(k:Nat):PV.part deep (runV g k) 0 (some 4)=some g.pv:=by cases g;rfl
theorem zdt(g:Tm)(k:Nat):PV.part deep (runV g k) 3 none=some (.sl (some 4) (Tm.pvs g.args)):=by cases g;rfl
theorem zdu(g:Tm)(k:Nat):PV.part deep (runV g k) 2 none=some (.str g.name):=by cases g;rfl
theorem zrP(g:Tm)(s:Sh)(q v o n:Nat):AV.upd deep (.pv (some 4) g.pv) 3 none (.sl s q v o n)=some (.agg [(none,.pv none (.int .i64 g.kind)),(none,.pv none (.int .i64 g.n)),(none,.pv none (.str g.name)),(none,.sl s q v o n)]):=by cases g;rfl
theorem zrQ(t:Tm)(hp:Heap):S 71 [t.av] hp=some (.ret (.pv none (.bool (decide (t.kind=0)))),hp):=by
 refine zak rfl rfl rfl (zab [(some 4,t.pv)]) rfl ?_
 simp -dsimp -implicitDefEqProofs only[go_sem,seval,↓reduceIte,Tm.av,zao]
theorem zp8(t:Tm)(hp:Heap):S 73 [t.av] hp=some (.ret (.pv none (.bool (decide (t.kind=2)))),hp):=by
 refine zak rfl rfl rfl (zab [(some 4,t.pv)]) rfl ?_
 simp -dsimp -implicitDefEqProofs only[go_sem,seval,↓reduceIte,Tm.av,zao]
theorem zrR(v:AV)(hp:Heap):S 122 [.pv none (.bool false),v] hp=some (.ret (.tuple []),hp):=by
 refine zav rfl rfl rfl rfl ?_
 simp -dsimp -implicitDefEqProofs only[go_sem,seval,↓reduceIte,List.append_assoc,zaf,zac,zah,zad,Nat.add_assoc,List.length_append]
 exact List.take_length
theorem zrS(s:List UInt8)(t:Tm)(hp:Heap):S 123 [.pv none (.str s),t.av] hp=some (.ret (.func (.func 139) [] [.ptr hp.length 0,.ptr (hp.length+1) 0]),hp++[.box none (.pv none (.str s)),.box (some 4) (.pv (some 4) t.pv)]):=by
 refine zav rfl rfl rfl rfl ?_
 simp -dsimp -implicitDefEqProofs only[go_sem,seval,↓reduceIte,Tm.av,List.append_assoc,zaf,zac,zah,zad,Nat.add_assoc,List.length_append]
 rw[if_neg (by simp[AV.refsIn,AV.refsIn.gol])]
theorem zeK(es:List PV)(hne:0<es.length)(hl:es.length<=10)(hp:Heap):S 95 [.pv none (.sl (some 4) es)] hp=some (.ret (.sl (some 4) (hp.length+1) es.length 0 es.length),hp++[.arr (some 4) [] false,.arr (some 4) es false]):=by
 refine zav rfl rfl rfl rfl ?_
 have hlim:es.length<=lim:=by unfold lim;omega
 have happ:∀H:Heap,zaL (some 4) H [.tsl (some 4) [],.pv none (.sl (some 4) es)]=some (.sl (some 4) H.length es.length 0 es.length,H++[.arr (some 4) es false]):=fun H=>by
  have hne':¬es=[]:=fun e=>by rw[e] at hne;simp at hne
  simp[zaL,aappend,elems,hlim,zcn,hne']
 have hni:zfS false [.pv none (.sl (some 4) es)]=some (.pv none (.bool false)):=by
  cases es with
  |nil=>simp at hne
  |cons x r=>rfl
 simp -dsimp -implicitDefEqProofs only[go_sem,seval,↓reduceIte,zrO,hni,hlim,happ,zbH (sh:=some 4) (by decide),List.append_assoc,zaf,zac,zah,zad,Nat.add_assoc,List.length_append]
 rw[if_neg (by simp[AV.refsIn])]
def setA(g:Tm)(i:Nat)(u:Tm):Tm:=.mk g.kind g.n g.name (g.args.set i u)
theorem zto(l:List Tm)(i:Nat)(u:Tm):(Tm.pvs l).set i u.pv=Tm.pvs (l.set i u):=by
 simp[Tm.zu9,List.map_set]
def wJ(n:Nat)(g:Tm)(i:Nat)(u:Tm):Heap:=[.box (some 4) (.pv (some 4) u.pv),.arr (some 4) [] false,.box (some 4) (.agg [(none,.pv none (.int .i64 g.kind)),(none,.pv none (.int .i64 g.n)),(none,.pv none (.str g.name)),(none,.sl (some 4) (n+5) g.args.length 0 g.args.length)]),.arr (some 4) [] false,.arr (some 4) [] false,.arr (some 4) (Tm.pvs (g.args.set i u)) true,.arr (some 4) [(setA g i u).pv] false]
theorem ztp(g:Tm)(k:Nat)(i:Nat)(u:Tm)(hi:i<g.args.length)(hl:g.args.length<=8)(hp:Heap)(r:Nat)(hr:hp[r]? =some (.box (some 5) (.pv (some 5) (runV g k)))):
  S 101 [.ptr r 0,.pv none (.int .i64 i),u.av] hp=some (.ret (.sl (some 4) (hp.length+6) 1 0 1),hp++wJ hp.length g i u):=by
 refine zav rfl rfl rfl rfl ?_
 have h1:=fun hp=>zeK (Tm.pvs g.args) (by rw[Tm.pvs_len];omega) (by rw[Tm.pvs_len];omega) hp
 have hlt:=zbh hr
 have hia:∀q,zaT (some 4) [.sl (some 4) q g.args.length 0 g.args.length,.pv none (.int .i64 i)]=some (.eptr (some 4) q g.args.length i 0):=fun q=>by
  have:=zcd (sh:=some 4) (s':=none) (k:=.i64) (r:=q) (v:=g.args.length) (o:=0) hi
  rw[Nat.zero_add] at this
  exact this
 have hil:i<(Tm.pvs g.args).length:=by rw[Tm.pvs_len];exact hi
 have hst:∀(x0 x1 x2 x3 x4:AObj),zaG (some 4) hp.length (hp++[x0,x1,x2,x3,x4,.arr (some 4) (Tm.pvs g.args) false]) [.eptr (some 4) (hp.length+5) g.args.length i 0,.pv (some 4) u.pv]=some (.undef,hp++[x0,x1,x2,x3,x4,.arr (some 4) ((Tm.pvs g.args).set i u.pv) false]):=fun x0 x1 x2 x3 x4=>by
  have e:∀H,AV.freeze deep (.pv (some 4) u.pv) H=some (u.pv,H):=fun _=>rfl
  simp[zaG,astore,AV.shp,e,getN rfl,setN rfl,Tm.pvs_len,hi,hil]
 have hbs:∀(x0 x1 x2 x3 x4:AObj),zd7 (some 4) (hp++[x0,x1,x2,x3,x4,.arr (some 4) ((Tm.pvs g.args).set i u.pv) false]) [.agg [(none,.pv none (.int .i64 g.kind)),(none,.pv none (.int .i64 g.n)),(none,.pv none (.str g.name)),(none,.sl (some 4) (hp.length+5) g.args.length 0 g.args.length)]]=some (.sl (some 4) (hp.length+6) 1 0 1,hp++[x0,x1,x2,x3,x4,.arr (some 4) (Tm.pvs (g.args.set i u)) true,.arr (some 4) [(setA g i u).pv] false]):=fun x0 x1 x2 x3 x4=>by
  have e:∀l hp,AV.freeze (7+1) (.agg l) hp=match AV.freeze.go 7 l hp with|some (ps,hp')=>some (.agg ps,hp')|none=>none:=fun _ _=>rfl
  have e2:AV.freeze deep (.agg [(none,.pv none (.int .i64 g.kind)),(none,.pv none (.int .i64 g.n)),(none,.pv none (.str g.name)),(none,.sl (some 4) (hp.length+5) g.args.length 0 g.args.length)]) (hp++[x0,x1,x2,x3,x4,.arr (some 4) (Tm.pvs (g.args.set i u)) false])=some ((setA g i u).pv,hp++[x0,x1,x2,x3,x4,.arr (some 4) (Tm.pvs (g.args.set i u)) true]):=by
   show AV.freeze (7+1) (.agg _) _=_
   simp[e,AV.freeze.go,AV.freeze,getN rfl,setN rfl,Tm.pvs_len]
   rfl
  rw[zto]
  simp only[zd7,zam,e2]
  simp[AV.shp,total,Sh.size,zaR]
 have hr':∀X,(hp++X)[r]? =some (.box (some 5) (.pv (some 5) (runV g k))):=fun X=>by rw[zcY hlt,hr]
 simp -dsimp -implicitDefEqProofs only[go_sem,seval,↓reduceIte,Tm.av,h1,hr,hr',hia,hst,hbs,zgJ,zrP,zai,Tm.pvs_len,zaY (Nat.le_add_right _ _),zan,zbH (sh:=some 4) (by decide),zae (Nat.le_add_right _ _),zat,List.append_assoc,zaf,zac,zah,zad,Nat.add_assoc,List.length_append]
 rw[if_neg (by simp[AV.refsIn])]
 rfl
def tatm(s:List UInt8):Tm:=.mk 2 0 s []
def tstr(s:List UInt8)(l:List Tm):Tm:=.mk 3 0 s l
theorem a_ok(s:List UInt8)(hp:Heap):S 17 [.pv none (.str s)] hp=some (.ret (tatm s).av,hp):=by
 refine zak rfl rfl rfl (zab [(none,.str s)]) rfl ?_
 have hbu:zaJ [(none,.pv none (.int .i64 0)),(none,.pv none (.int .i64 0)),(none,.pv none (.str [])),(none,.tsl (some 4) [])] [0,2] [.pv none (.int .i64 2),.pv none (.str s)]=some (.agg [(none,.pv none (.int .i64 2)),(none,.pv none (.int .i64 0)),(none,.pv none (.str s)),(none,.tsl (some 4) [])]):=rfl
 simp -dsimp -implicitDefEqProofs only[go_sem,seval,↓reduceIte,hbu]
 exact⟨_,rfl⟩
theorem zuR(s:List UInt8)(l:List Tm):W Z L 0 (g19).code ⟨params 0 (pvs [(none,.str s),(none,.sl (some 4) (Tm.pvs l))]),[]⟩ (endK (g19).results (Am.frozen (tstr s l).av)):=by
 have hbu:zaJ [(none,.pv none (.int .i64 0)),(none,.pv none (.int .i64 0)),(none,.pv none (.str [])),(none,.tsl (some 4) [])] [0,2,3] [.pv none (.int .i64 3),.pv none (.str s),.pv none (.sl (some 4) (Tm.pvs l))]=some (.pv (some 4) (tstr s l).pv):=rfl
 simp -dsimp -implicitDefEqProofs only[go_sem,seval,↓reduceIte,hbu,Tm.av]
theorem f_ok(s:List UInt8)(l:List Tm)(hp:Heap):S 19 [.pv none (.str s),.pv none (.sl (some 4) (Tm.pvs l))] hp=some (.ret (tstr s l).av,hp):=
 zak rfl rfl rfl (zab [(none,.str s),(none,.sl (some 4) (Tm.pvs l))]) rfl (zuR s l)
theorem zjH(a b:Tm)(ha:a.size<1000000000)(hb:b.size<1000000000):W Z L 0 (g22).code ⟨params 0 (pvs [(some 4,a.pv),(some 4,b.pv)]),[]⟩ (endK (g22).results (Am.frozen (.pv none (.bool (same a b))))):=by
 have h1:=fun hp=>zrE a b hp ha hb
 simp only[Tm.av] at h1
 simp -dsimp -implicitDefEqProofs only[go_sem,seval,↓reduceIte,h1]
theorem zig(a b:Tm)(hp:Heap)(ha:a.size<1000000000)(hb:b.size<1000000000):S 22 [a.av,b.av] hp=some (.ret (.pv none (.bool (same a b))),hp):=
 zak rfl rfl rfl (zab [(some 4,a.pv),(some 4,b.pv)]) rfl (zjH a b ha hb)
def zV:AV:=.agg [(none,.pv none (.int .i64 0)),(none,.pv none (.int .i64 0)),(none,.pv none (.str [])),(none,.tsl (some 4) [])]
theorem zpD(a:Tm)(hp:Heap)(ha:a.size<1000000000):S 22 [a.av,zV] hp=some (.ret (.pv none (.bool (same a zt))),hp):=
 zak (ps:=[(some 4,a.pv),(some 4,zt.pv)]) rfl rfl rfl rfl rfl (zjH a zt ha (by decide))
def zeC(g:Tm)(l:List Tm)(b:Tm)(e:Int):Prop:=∀hp:Heap,S 20 [g.av] hp=some (.ret (.tuple [.pv none (.sl (some 4) (Tm.pvs l)),b.av,.pv none (.int .i64 e)]),hp)
theorem zfc{g:Tm}(h:g.valid=true):same g g=true:=by simp[same,h,Tm.cmp_zero]
theorem zpE:same zt zt=true:=by decide
theorem zrw(hp:Heap):S 13 [] hp=some (.ret (.pv none (.bool true)),hp):=by
 have h:=ze5 (hp:=hp) (args:=[]) (ps:=[]) (hp1:=hp) (f:=13) rfl rfl rfl rfl zuV
 exact h
theorem zkV(g:Tm)(l:List Tm)(hg:g.valid=true)(hc:zeC g l zt 0)(hl:l=[]\/l=[g])(hp:Heap):S 16 [g.av] hp=some (.ret (.tuple [.pv none (.bool (decide (l.length=1))),.pv none (.bool true)]),hp):=by
 refine zak rfl rfl rfl (zab [(some 4,g.pv)]) rfl ?_
 have hsz:=valid_size hg
 have h1:=fun hp=>zpD zt hp (by decide)
 have h2:=fun hp=>zig g g hp (by omega) (by omega)
 have hz0:zaJ [(none,.pv none (.int .i64 0)),(none,.pv none (.int .i64 0)),(none,.pv none (.str [])),(none,.tsl (some 4) [])] [] []=some zV:=rfl
 unfold zeC at hc
 rw[zpE] at h1
 rw[zfc hg] at h2
 simp only[Tm.av] at h1 h2 hc
 rcases hl with rfl|rfl
 ·simp -dsimp -implicitDefEqProofs only[go_sem,seval,↓reduceIte,Tm.av,h1,h2,hc,hz0,Tm.pvs_len,zae (Nat.zero_le _)]
  done
 ·have hge:(Tm.pvs [g])[0]? =some g.pv:=rfl
  simp -dsimp -implicitDefEqProofs only[go_sem,seval,↓reduceIte,Tm.av,h1,h2,hc,hz0,Tm.pvs_len,zd0 hge,zae (Nat.zero_le _)]
  done
def Bq(hp:Heap):Prop:=∀x∈hp,AObj.beq x x=true
theorem Bq.same:∀{hp:Heap},Bq hp->zaI hp hp=true
 |[],_=>rfl
 |x::r,h=>by
  show(AObj.beq x x && zaI r r)=true
  rw[h x List.mem_cons_self,Bq.same (hp:=r) fun y hy=>h y (List.mem_cons_of_mem _ hy)]
  rfl
theorem Bq.app{a b:Heap}(h1:Bq a)(h2:Bq b):Bq (a++b):=fun x hx=>(List.mem_append.1 hx).elim (h1 x) (h2 x)
theorem Bq.cons{x:AObj}{b:Heap}(h1:AObj.beq x x=true)(h2:Bq b):Bq (x::b):=fun y hy=>(List.mem_cons.1 hy).elim (fun e=>e▸h1) (h2 y)
theorem Bq.nil:Bq []:=fun _ h=>by cases h
theorem Bq.set{hp:Heap}(h:Bq hp)(i:Nat){x:AObj}(hx:AObj.beq x x=true):Bq (hp.set i x):=fun y hy=>by
 rcases List.mem_or_eq_of_mem_set hy with h1|rfl
 ·exact h y h1
 ·exact hx
theorem zgz(t:Tm):AObj.beq (.box (some 4) (.pv (some 4) t.pv)) (.box (some 4) (.pv (some 4) t.pv))=true:=by simp[AObj.beq,AV.beq,zeD]
theorem zfP{es:List PV}(h:∀x∈es,PV.beq x x=true):PV.beqs es es=true:=by
 induction es with
 |nil=>rfl
 |cons x r ih=>
  show(PV.beq x x && PV.beqs r r)=true
  rw[h x List.mem_cons_self,ih fun y hy=>h y (List.mem_cons_of_mem _ hy)]
  rfl
theorem zpA{v:AV}{hp:Heap}{K:AV->Heap->Prop}(h:zaI hp hp=true):zqU (some (.ret v,hp)) hp K=K v hp:=by
 simp[zqU,h]
theorem zjG{Γ:Oracle}{b:Nat}{s:Sh}{f:FuncId}{vs:List AV}{v:AV}{hp:Heap}{K:AV->Heap->Prop}{Kp:PV->Heap->Prop}(hc:Γ .fn f vs hp=some (.ret v,hp))(h:zaI hp hp=true):opK (aOp Γ b .callg (.pv s (.func (.func f))::vs) hp) K Kp=K v hp:=by
 have h2:zaI (hp.take hp.length) hp=true:=by rw[List.take_length];exact h
 simp[aOp,zfi,zcP,za4,hc,h]
 rfl
def gK(r:Option (ARes × Heap))(hp:Heap)(K:AV->Heap->Prop):Prop:=match r with
 |some (.ret v,hp')=>zaI (hp'.take hp.length) hp=true/\K v hp'
 |_=>False
theorem zne{Γ:Oracle}{b:Nat}{s:Sh}{f:FuncId}{vs:List AV}{hp:Heap}{K:AV->Heap->Prop}{Kp:PV->Heap->Prop}:opK (aOp Γ b .callg (.pv s (.func (.func f))::vs) hp) K Kp=gK (Γ .fn f vs hp) hp K:=by
 unfold gK
 simp only[aOp,zfi,zcP,za4,List.nil_append,List.append_nil]
 cases Γ .fn f vs hp with
 |none=>rfl
 |some r=>
  obtain⟨r,hp'⟩:=r
  cases r with
  |panic p=>rfl
  |ret v=>
   by_cases h:zaI (hp'.take hp.length) hp=true
   ·simp only[h,if_true,true_and]
    rfl
   ·have h':zaI (hp'.take hp.length) hp=false:=by simpa using h
    simp only[h',Bool.false_eq_true,if_false,false_and]
    rfl
theorem zhm{v:AV}{hp hp':Heap}{K:AV->Heap->Prop}:gK (some (.ret v,hp')) hp K=(zaI (hp'.take hp.length) hp=true/\K v hp'):=rfl
theorem zdJ{hp a b:Heap}(h:Bq hp):zaI (hp++a) (hp++b)=zaI a b:=by
 induction hp with
 |nil=>rfl
 |cons x r ih=>
  show(AObj.beq x x && zaI (r++a) (r++b))=_
  rw[h x List.mem_cons_self,ih fun y hy=>h y (List.mem_cons_of_mem _ hy)]
  rfl
theorem zcL(x y:AObj)(a b:Heap):zaI (x::a) (y::b)=(AObj.beq x y && zaI a b):=rfl
theorem zdK:zaI [] []=true:=rfl
theorem zfb(s:Sh)(z:Bool):AObj.beq (.arr s [] z) (.arr s [] z)=true:=by simp[AObj.beq,PV.beqs]
theorem zhn(s:List UInt8)(a b:Sh):AObj.beq (.box a (.pv b (.str s))) (.box a (.pv b (.str s)))=true:=by simp[AObj.beq,AV.beq,PV.beq]
theorem zsZ(l:List Tm):PV.beqs (Tm.pvs l) (Tm.pvs l)=true:=zfP fun x hx=>by
 rw[Tm.zu9] at hx
 obtain⟨t,_,rfl⟩:=List.mem_map.1 hx
 exact zeD t
theorem zs0(s:Sh)(l:List Tm)(z:Bool):AObj.beq (.arr s (Tm.pvs l) z) (.arr s (Tm.pvs l) z)=true:=by simp[AObj.beq,zsZ]
def sucL(b:Bool)(g:Tm):List Tm:=if b=true then[g] else[]
theorem zhk(g:Tm)(k:Nat)(b:Bool)(hp:Heap)(r:Nat)(hr:hp[r]? =some (.box (some 5) (.pv (some 5) (runV g k)))):
  S 96 [.ptr r 0,.pv none (.bool b)] hp=some (.ret (.sl (some 4) (hp.length+1) (sucL b g).length 0 (sucL b g).length),hp++[.arr (some 4) [] false,.arr (some 4) (Tm.pvs (sucL b g)) false]):=by
 refine zav rfl rfl rfl rfl ?_
 have hlt:=zbh hr
 have hr':∀X,(hp++X)[r]? =some (.box (some 5) (.pv (some 5) (runV g k))):=fun X=>by rw[zcY hlt,hr]
 have hbs:∀H:Heap,zd7 (some 4) H [.pv (some 4) g.pv]=some (.sl (some 4) H.length 1 0 1,H++[.arr (some 4) [g.pv] false]):=fun H=>by
  simp[zd7,zam,AV.freeze,deep,zaR,AV.shp,zcn]
 cases b
 ·simp -dsimp -implicitDefEqProofs only[go_sem,seval,↓reduceIte,hr,hr',hbs,zgJ,zan,zbH (sh:=some 4) (by decide),List.append_assoc,zaf,zac,zah,zad,Nat.add_assoc,List.length_append]
  exact⟨rfl,by rw[if_neg (by simp[AV.refsIn])];rfl⟩
 ·simp -dsimp -implicitDefEqProofs only[go_sem,seval,↓reduceIte,hr,hr',hbs,zgJ,zan,zbH (sh:=some 4) (by decide),List.append_assoc,zaf,zac,zah,zad,Nat.add_assoc,List.length_append]
  exact⟨rfl,by rw[if_neg (by simp[AV.refsIn])];rfl⟩

def rows1:List (PV × PV):=[(.str (names1.getD 0 []),.func (.func 71)),(.str (names1.getD 1 []),.func (.func 72)),(.str (names1.getD 2 []),.func (.func 73)),(.str (names1.getD 3 []),.func (.func 74)),(.str (names1.getD 4 []),.func (.func 75)),(.str (names1.getD 5 []),.func (.func 47)),(.str (names1.getD 6 []),.func (.func 76)),(.str (names1.getD 7 []),.func (.func 77)),(.str (names1.getD 8 []),.func (.func 78))]
def rows2:List (PV × PV):=[(.str (names2a.getD 0 []),.func (.func 79)),(.str (names2a.getD 1 []),.func (.func 80)),(.str (names2a.getD 2 []),.func (.func 81)),(.str (names2a.getD 3 []),.func (.func 82)),(.str (names2a.getD 4 []),.func (.func 83)),(.str (names2a.getD 5 []),.func (.func 84))]
theorem zif(hp:Heap):S 39 [] hp=some (.ret (.map hp.length),hp++[.map none rows1]):=by
 refine zav rfl rfl rfl rfl ?_
 have hms:∀(es es':List (PV × PV)) (k v:PV),aput true k v es=some es'->zbD true none (hp++[.map none es]) [.map hp.length,.pv none k,.pv none v]=some (.undef,hp++[.map none es']):=fun es es' k v h=>by
  rw[zbP (es:=es) (by rw[zcJ rfl];rfl) h,zd1 rfl]
  rfl
 have m0:=hms ([]) (rows1.take 1) (.str [118,97,114]) (.func (.func 71)) rfl
 have m1:=hms (rows1.take 1) (rows1.take 2) (.str [110,111,110,118,97,114]) (.func (.func 72)) rfl
 have m2:=hms (rows1.take 2) (rows1.take 3) (.str [97,116,111,109]) (.func (.func 73)) rfl
 have m3:=hms (rows1.take 3) (rows1.take 4) (.str [105,110,116,101,103,101,114]) (.func (.func 74)) rfl
 have m4:=hms (rows1.take 4) (rows1.take 5) (.str [97,116,111,109,105,99]) (.func (.func 75)) rfl
 have m5:=hms (rows1.take 5) (rows1.take 6) (.str [99,111,109,112,111,117,110,100]) (.func (.func 47)) rfl
 have m6:=hms (rows1.take 6) (rows1.take 7) (.str [99,97,108,108,97,98,108,101]) (.func (.func 76)) rfl
 have m7:=hms (rows1.take 7) (rows1.take 8) (.str [105,115,95,108,105,115,116]) (.func (.func 77)) rfl
 have m8:=hms (rows1.take 8) (rows1.take 9) (.str [103,114,111,117,110,100]) (.func (.func 78)) rfl
 simp -dsimp -implicitDefEqProofs only[go_sem,seval,↓reduceIte,m0,m1,m2,m3,m4,m5,m6,m7,m8,List.append_assoc,zaf,zac,zah,zad,Nat.add_assoc,List.length_append]
 rw[if_neg (by simp[AV.refsIn])]
 rfl
theorem zcD(hp:Heap):S 40 [] hp=some (.ret (.map hp.length),hp++[.map none rows2]):=by
 refine zav rfl rfl rfl rfl ?_
 have hms:∀(es es':List (PV × PV)) (k v:PV),aput true k v es=some es'->zbD true none (hp++[.map none es]) [.map hp.length,.pv none k,.pv none v]=some (.undef,hp++[.map none es']):=fun es es' k v h=>by
  rw[zbP (es:=es) (by rw[zcJ rfl];rfl) h,zd1 rfl]
  rfl
 have m0:=hms ([]) (rows2.take 1) (.str [61,61]) (.func (.func 79)) rfl
 have m1:=hms (rows2.take 1) (rows2.take 2) (.str [92,61,61]) (.func (.func 80)) rfl
 have m2:=hms (rows2.take 2) (rows2.take 3) (.str [64,60]) (.func (.func 81)) rfl
 have m3:=hms (rows2.take 3) (rows2.take 4) (.str [64,61,60]) (.func (.func 82)) rfl
 have m4:=hms (rows2.take 4) (rows2.take 5) (.str [64,62]) (.func (.func 83)) rfl
 have m5:=hms (rows2.take 5) (rows2.take 6) (.str [64,62,61]) (.func (.func 84)) rfl
 simp -dsimp -implicitDefEqProofs only[go_sem,seval,↓reduceIte,m0,m1,m2,m3,m4,m5,List.append_assoc,zaf,zac,zah,zad,Nat.add_assoc,List.length_append]
 rw[if_neg (by simp[AV.refsIn])]
 rfl
theorem zr6(s:Sh)(l:List (PV × PV))(h:PV.beqm l l=true):AObj.beq (.map s l) (.map s l)=true:=by simp[AObj.beq,h]
theorem zdH(s:Sh):AObj.beq (.map s rows1) (.map s rows1)=true:=zr6 s _ (by decide+kernel)
theorem zdI(s:Sh):AObj.beq (.map s rows2) (.map s rows2)=true:=zr6 s _ (by decide+kernel)
theorem zfa(s:Sh)(l:List Tm):AObj.beq (.arr s (Tm.pvs l) false) (.arr s (Tm.pvs l) false)=true:=zs0 s l false
theorem zjF(H:Heap):zam [zagC,zagC] H=some ([(some 4,zt.pv),(some 4,zt.pv)],H):=rfl
theorem zpy{hp:Heap}{y0 y1:AObj}{l:List Tm}{n:Nat}(hn:l.length=n)(hl:n<=100):zaL (some 4) (hp++[y0,y1,.arr (some 4) (Tm.pvs l) false]) [.sl (some 4) (hp.length+2) n 0 n,.tsl (some 4) [zt.pv,zt.pv]]=some (.sl (some 4) (hp.length+2) (n+2) 0 (n+2),hp++[y0,y1,.arr (some 4) (Tm.pvs (l++[zt,zt])) false]):=by
 have hlim:n+2<=lim:=by unfold lim;omega
 have e:Tm.pvs (l++[zt,zt])=Tm.pvs l++[zt.pv,zt.pv]:=by rw[Tm.zvf];rfl
 rw[e]
 simp[zaL,aappend,elems,getN rfl,setN rfl,Tm.pvs_len,hn,hlim]
theorem zkS{hp Z:Heap}{y0 y1:AObj}{l:List Tm}{z:Bool}{n i:Nat}{t:Tm}(hn:l.length=n)(ht:l[i]? =some t):aload (some 4) (hp++y0::y1::.arr (some 4) (Tm.pvs l) z::Z) (.eptr (some 4) (hp.length+2) n i 0)=some (.pv (some 4) t.pv):=by
 simp[aload,getN rfl,Tm.pvs_len,hn,Tm.pvs_get ht]
theorem zpz{hp Z:Heap}{y0 y1 y2:AObj}{s:List UInt8}{rows:List (PV × PV)}(h:afind true (.str s) rows=some none):zaW true none (.pv none .nilfunc) true (hp++y0::y1::y2::.map none rows::Z) [.map (hp.length+3),.pv none (.str s)]=some (.tuple [.pv none .nilfunc,.pv none (.bool false)]):=
 zbI (es:=rows) (by rw[getN rfl];rfl) h
theorem zr7{hp Z:Heap}{y0 y1 y2 y3:AObj}{s:List UInt8}{rows:List (PV × PV)}(h:afind true (.str s) rows=some none):zaW true none (.pv none .nilfunc) true (hp++y0::y1::y2::y3::.map none rows::Z) [.map (hp.length+4),.pv none (.str s)]=some (.tuple [.pv none .nilfunc,.pv none (.bool false)]):=
 zbI (es:=rows) (by rw[getN rfl];rfl) h
def eJ(g:Tm):Heap:=[.arr (some 4) [] false,.arr (some 4) [] false,.arr (some 4) (Tm.pvs (g.args++[zt,zt])) false,.map none rows1,.map none rows2]
theorem zt3{H:Heap}{q n:Nat}{ts:List Tm}{z:Bool}(hn:ts.length=n)(h:H[q]? =some (.arr (some 4) (Tm.pvs ts) z)):IsT (.sl (some 4) q n 0 n) H ts where
 len:=by rw[zlu,hn]
 idx:=fun i u hu=>by
  have hi:=(List.getElem?_eq_some_iff.1 hu).1
  refine⟨.eptr (some 4) q n (0+i) 0,fun s k=>zcd (by omega),?_⟩
  simp[aload,h,Tm.pvs_len,hn,Tm.pvs_get hu]
theorem zsY(g:Tm):Bq (hE g):=by
 have h1:=zgz g
 refine Bq.cons h1 (Bq.cons rfl (Bq.cons rfl (Bq.cons rfl (Bq.cons rfl (Bq.cons rfl (Bq.cons ?_ Bq.nil))))))
 simp[AObj.beq,AV.beq,PV.beq,PV.beqc,runV,zeD]
theorem zkT(g:Tm)(hp:Heap)(hv:g.valid=true)(hc:canT g=g)(hk:g.kind=3)(hn:g.name∈zbt g.args.length)(ts:List Tm)(e:Int)(q:Nat)(X:Heap)(z:Bool)
  (he:S 50 [.ptr 6 0] (hE g)=some (.ret (.tuple [.sl (some 4) q ts.length 0 ts.length,.pv none (.int .i64 e)]),hE g++X))(hq:7<=q)(hX:X[q - 7]? =some (.arr (some 4) (Tm.pvs ts) z))(hlt:ts.length<100000000)(hts:∀t∈ts,t.size<1000000):
  S 20 [g.av] hp=some (.ret (.tuple [.pv none (.sl (some 4) (Tm.pvs (zdP ts e).1)),zt.av,.pv none (.int .i64 (zdP ts e).2)]),hp):=by
 refine zri g hp hv hc hk hn ts e _ (.box (some 5) (.pv (some 5) (runV g (vads [] g.occ).length))) X he (fun H hH=>zt3 (z:=z) rfl (hH q _ (by omega) ?_)) hlt hts
 obtain⟨j,rfl⟩:∃j,q=j+7:=⟨q - 7,by omega⟩
 exact hX
def qd(t:Tm):Prop:=t.kind=3/\t.name=[94]/\t.args.length=2
instance (t:Tm):Decidable (qd t):=inferInstanceAs (Decidable (_/\_))
def arg0(t:Tm):Tm:=match t.args with
 |x::_=>x
 |_=>.mk 0 0 [] []
def arg1(t:Tm):Tm:=match t.args with
 |_::y::_=>y
 |_=>.mk 0 0 [] []
theorem args_two{t:Tm}(h:t.args.length=2):t.args=[arg0 t,arg1 t]:=by
 unfold arg0 arg1
 match e:t.args,h with
 |[x,y],_=>rfl
theorem zrf{t:Tm}(h:t.args.length=2):t.args[1]? =some (arg1 t):=by rw[args_two h];rfl
theorem zlC{t:Tm}(h:t.args.length=2):arg1 t∈t.args:=List.mem_of_getElem? (zrf h)
def quants(t:Tm):List Tm:=if h:qd t then arg0 t::quants (arg1 t) else[]
termination_by t.size
decreasing_by exact Tm.zu2 (zlC h.2.2)
def hid(p g:Tm):List Int:=p.occ++Tm.occs (quants g)
def free(p g:Tm):List Int:=(vads [] g.occ).filter fun v=>decide (v ∉ hid p g)
def cs(t:Tm):Prop:=t.kind=3/\t.name=[46]/\t.args.length=2
instance (t:Tm):Decidable (cs t):=inferInstanceAs (Decidable (_/\_))
def tl(t:Tm):Tm:=if h:cs t then tl (arg1 t) else t
termination_by t.size
decreasing_by exact Tm.zu2 (zlC h.2.2)
def ll(t:Tm):Prop:=(tl t).kind=0\/((tl t).kind=2/\(tl t).name=[91,93])
instance (t:Tm):Decidable (ll t):=inferInstanceAs (Decidable (_\/_))
def mx(x y:Int):Int:=if x<y then y else x
def zur(t:Tm):Prop:=t.kind=2/\t.name=[91,93]
instance (t:Tm):Decidable (zur t):=inferInstanceAs (Decidable (_/\_))
theorem zrl(hp:Heap)(x:Int):S 119 [.pv none (.int .i64 x)] hp=some (.ret (.pv none (.bool false)),hp):=by
 refine zak rfl rfl rfl (zab [(none,.int .i64 x)]) rfl ?_
 (repeat' (first|(simp -dsimp -implicitDefEqProofs only[go_sem,seval,↓reduceIte, *])|(refine zau (fun _=> ?_) (fun _=> ?_))))
theorem zpr(hp:Heap)(x y:Int):S 88 [.pv none (.int .i64 x),.pv none (.int .i64 y)] hp=some (.ret (.pv none (.int .i64 (cmpI x y))),hp):=by
 refine zak rfl rfl rfl (zab [(none,.int .i64 x),(none,.int .i64 y)]) rfl ?_
 (repeat' (first|(simp -dsimp -implicitDefEqProofs only[go_sem,seval,↓reduceIte,zrl,cmpI, *])|(refine zau (fun _=> ?_) (fun _=> ?_))))
theorem zjA(hp:Heap)(x y:List UInt8):S 121 [.pv none (.str x),.pv none (.str y)] hp=some (.ret (.pv none (.int .i64 (Lib.compareBytes x y))),hp):=by
 refine zak rfl rfl rfl (zab [(none,.str x),(none,.str y)]) rfl ?_
 have h:∀hp,S 138 [.pv none (.str x),.pv none (.str y)] hp=some (.ret (.pv none (.int .i64 (Lib.compareBytes x y))),hp):=fun hp=>(zh7 (p:=zhZ) rfl _ _).trans rfl
 (repeat' (first|(simp -dsimp -implicitDefEqProofs only[go_sem,seval,↓reduceIte, *])|(refine zau (fun _=> ?_) (fun _=> ?_))))
theorem ze9(hp:Heap)(x y:List UInt8):S 90 [.pv none (.str x),.pv none (.str y)] hp=some (.ret (.pv none (.int .i64 (Lib.compareBytes x y))),hp):=by
 refine zak rfl rfl rfl (zab [(none,.str x),(none,.str y)]) rfl ?_
 (repeat' (first|(simp -dsimp -implicitDefEqProofs only[go_sem,seval,↓reduceIte,zjA, *])|(refine zau (fun _=> ?_) (fun _=> ?_))))
theorem zjB(a b:Tm)(ih:∀u,u∈a.args->∀(b:Tm) (hp:Heap),u.size<1000000000->u.fits=true->b.fits=true->S 44 [u.av,b.av] hp=some (.ret (.pv none (.int .i64 (u.cmp b))),hp))
  (ha:a.size<1000000000)(fa:a.fits=true)(fb:b.fits=true)(hlb:a.args.length=b.args.length)(p:PV)(fr:Fr)(Q:AExit->St->Prop)
  (hfr:fr.keep [3,57,58,59]=[(3,.ptr 1 0),(57,.pv none (.sl (some 4) (Tm.pvs a.args))),(58,.pv none (.int .i64 (a.args.length:Int))),(59,.pv none (.int .i64 0))])
  (h:Tm.cmps a.args b.args=0->∀fr hp,Q (.exit 0) ⟨fr,hp⟩)(h':Tm.cmps a.args b.args≠0->∀hp r,Q .ret ⟨(4,.pv none (.int .i64 (Tm.cmps a.args b.args)))::r,hp⟩):
  W (sem (find tab) prim) (sloop (find tab) prim) 0 (.loop [3,57,58,59] c44b27) ⟨fr,[.box (some 4) (.pv (some 4) a.pv),.box (some 4) (.pv (some 4) b.pv),.box (some 4) (.pv (some 4) p)]⟩ Q:=by
 have hts:=a.size_eq
 have hlen:=Tm.zuW a.args
 refine zdS (fun n st=>∃(i:Nat),n=a.args.length - i/\i<=a.args.length/\Tm.cmps a.args b.args=Tm.cmps (a.args.drop i) (b.args.drop i)/\
  st=⟨[(3,.ptr 1 0),(57,.pv none (.sl (some 4) (Tm.pvs a.args))),(58,.pv none (.int .i64 (a.args.length:Int))),(59,.pv none (.int .i64 i))],[.box (some 4) (.pv (some 4) a.pv),.box (some 4) (.pv (some 4) b.pv),.box (some 4) (.pv (some 4) p)]⟩) (n:=a.args.length) ⟨0,rfl,Nat.zero_le _,rfl,?_⟩ ?_
 ·rw[hfr]
  rfl
 ·rintro n st ⟨i,hn,hi,he,rfl⟩
  by_cases hi':i<a.args.length
  ·have hc:(i:Int)<(a.args.length:Int):=by omega
   obtain⟨u,hu⟩:∃u,a.args[i]? =some u:=⟨_,List.getElem?_eq_getElem hi'⟩
   obtain⟨w,hw⟩:∃w,b.args[i]? =some w:=⟨_,List.getElem?_eq_getElem (by omega)⟩
   have hum:=List.mem_of_getElem? hu
   have husz:=Tm.zu2 hum
   have hcall:=fun hp=>ih u hum w hp (by omega) (Tm.zuY fa hum) (Tm.zuY fb (List.mem_of_getElem? hw))
   simp only[Tm.av] at hcall
   have w2:IntKind.i64.wrap ((i:Int)+1)=((i+1:Nat):Int):=by rw[zaH (by omega) (by omega)];omega
   rw[Tm.zvc hu hw] at he
   by_cases h0:u.cmp w=0
   ·rw[h0,ze4] at he
    simp -dsimp -implicitDefEqProofs only[c44b27,go_sem,seval,↓reduceIte,zai,Tm.pvs_len,hc,zaj (Tm.pvs_get hu),zaj (Tm.pvs_get hw),hcall,w2,h0]
    refine⟨a.args.length - (i+1),by omega,i+1,rfl,by omega,he,?_⟩
    rfl
   ·simp -dsimp -implicitDefEqProofs only[c44b27,go_sem,seval,↓reduceIte,zai,Tm.pvs_len,hc,zaj (Tm.pvs_get hu),zaj (Tm.pvs_get hw),hcall,w2,h0]
    rw[zh8 h0] at he
    have:=h' (by rw[he];exact h0)
    rw[he] at this
    exact this _ _
  ·have hc:¬(i:Int)<(a.args.length:Int):=by omega
   obtain rfl:i=a.args.length:=by omega
   simp -dsimp -implicitDefEqProofs only[c44b27,go_sem,seval,↓reduceIte,zai,Tm.pvs_len,hc]
   rw[List.drop_length,Tm.zu5] at he
   exact h he _ _

set_option maxHeartbeats 4000000 in
theorem zm9:∀(a b:Tm) (hp:Heap),a.size<1000000000->a.fits=true->b.fits=true->S 44 [a.av,b.av] hp=some (.ret (.pv none (.int .i64 (a.cmp b))),hp):=by
 intro a
 induction a using Tm.zuX with
 |h a ih=>
  intro b hp ha fa fb
  refine zak rfl rfl rfl (zab [(some 4,a.pv),(some 4,b.pv)]) rfl ?_
  rw[Tm.zvg]
  have loop:=zjB a b ih ha fa fb
  clear ih
  have hb:zaJ [(none,(.pv none (.int .i64 (0)))),(none,(.pv none (.int .i64 (0)))),(none,(.pv none (.int .i64 (0)))),(none,(.pv none (.int .i64 (0))))] [0,1,2,3] [.pv none (.int .i64 (0)),.pv none (.int .i64 (1)),.pv none (.int .i64 (2)),.pv none (.int .i64 (3))]=some (.pv (some 4) (.agg [(none,.int .i64 0),(none,.int .i64 1),(none,.int .i64 2),(none,.int .i64 3)])):=rfl
  have h0:∀r:Nat,zbC none 4 [.ptr r 0,.pv none (.int .i64 0)]=some (.ptr r 0):=fun r=>rfl
  have h1:∀r:Nat,zbC none 4 [.ptr r 0,.pv none (.int .i64 1)]=some (.ptr r 1):=fun r=>by rw[zdm none (by decide)];simp[Sh.size]
  have h2:∀r:Nat,zbC none 4 [.ptr r 0,.pv none (.int .i64 2)]=some (.ptr r 2):=fun r=>by rw[zdm none (by decide)];simp[Sh.size]
  have h3:∀r:Nat,zbC none 4 [.ptr r 0,.pv none (.int .i64 3)]=some (.ptr r 3):=fun r=>by rw[zdm none (by decide)];simp[Sh.size]
  have hc:=zpj
  have hcmp:=zpr
  have hcmp64:=zgr
  have hstr:=ze9
  have fin:Kept (a.name=[]->a.args=[]->b.name=[]->b.args=[]->AV.pv none (.int .i64 (cmpI a.n b.n))=AV.pv none (.int .i64 (if cmpI a.n b.n=0 then if cmpI (a.args.length:Int) (b.args.length:Int)=0 then if Lib.compareBytes a.name b.name=0 then Tm.cmps a.args b.args else Lib.compareBytes a.name b.name else cmpI (a.args.length:Int) (b.args.length:Int) else cmpI a.n b.n))):=by
   intro h1 h2 h3 h4
   rw[h1,h2,h3,h4]
   simp only[show cmpI (([]:List Tm).length:Int) (([]:List Tm).length:Int)=0 from by decide,Lib.compareBytes,Tm.cmps,if_true]
   split <;> simp_all
  have hlen:Kept (cmpI (a.args.length:Int) (b.args.length:Int)=0->a.args.length=b.args.length):=fun h=>by have:=cmpI_zero.1 h;omega
  rcases Tm.zvh fa with⟨ka,xa,ya⟩|⟨ka,xa,ya⟩|⟨ka,xa,ya⟩|⟨ka,xa⟩ <;>
  rcases Tm.zvh fb with⟨kb,xb,yb⟩|⟨kb,xb,yb⟩|⟨kb,xb,yb⟩|⟨kb,xb⟩ <;> (try replace ya:=Kept.mk ya) <;> (try replace yb:=Kept.mk yb) <;> (try replace xa:=Kept.mk (show a.name=[] from xa)) <;> (try replace xb:=Kept.mk (show b.name=[] from xb))
  all_goals (repeat' (first|(simp -dsimp -implicitDefEqProofs only[go_sem,seval,↓reduceIte,zao,zaF,zaA,zai,Tm.pvs_len,zcZ, *])|(refine zau (fun _=> ?_) (fun _=> ?_))))
  all_goals first
   |(exact fin xa ya xb yb)
   |(refine loop (hlen.out (by assumption)) _ _ _ rfl (fun hz fr hp=> ?_) (fun hz hp r=> ?_) <;> simp -dsimp -implicitDefEqProofs only[go_sem,seval,↓reduceIte,zcZ,zco, *])
   |trace_state
theorem zkX(a b:Tm)(hp:Heap)(va:a.valid=true)(vb:b.valid=true):S 15 [a.av,b.av] hp=some (.ret (.pv none (.int .i64 (a.cmp b))),hp):=by
 refine zak rfl rfl rfl (zab [(some 4,a.pv),(some 4,b.pv)]) rfl ?_
 have ha:=valid_size va
 have hb:=valid_size vb
 have h1:=fun hp=>zbw a hp (by omega)
 have h2:=fun hp=>zbw b hp (by omega)
 have h3:=fun hp=>zm9 a b hp (by omega) (valid_fits va) (valid_fits vb)
 rw[va] at h1
 rw[vb] at h2
 simp only[Tm.av] at h1 h2 h3
 simp -dsimp -implicitDefEqProofs only[go_sem,seval,↓reduceIte,Tm.av,h1,h2,h3]
theorem zt7(c:Int)(hp:Heap):S 79 [.pv none (.int .i64 c)] hp=some (.ret (.pv none (.bool (decide (c=0)))),hp):=by
 refine zak rfl rfl rfl (zab [(none,.int .i64 c)]) rfl ?_
 simp -dsimp -implicitDefEqProofs only[go_sem,seval,↓reduceIte]
theorem zt8(c:Int)(hp:Heap):S 80 [.pv none (.int .i64 c)] hp=some (.ret (.pv none (.bool (!decide (c=0)))),hp):=by
 refine zak rfl rfl rfl (zab [(none,.int .i64 c)]) rfl ?_
 simp -dsimp -implicitDefEqProofs only[go_sem,seval,↓reduceIte]
theorem zt9(c:Int)(hp:Heap):S 81 [.pv none (.int .i64 c)] hp=some (.ret (.pv none (.bool (decide (c<0)))),hp):=by
 refine zak rfl rfl rfl (zab [(none,.int .i64 c)]) rfl ?_
 simp -dsimp -implicitDefEqProofs only[go_sem,seval,↓reduceIte]
theorem zua(c:Int)(hp:Heap):S 82 [.pv none (.int .i64 c)] hp=some (.ret (.pv none (.bool (decide (c<=0)))),hp):=by
 refine zak rfl rfl rfl (zab [(none,.int .i64 c)]) rfl ?_
 simp -dsimp -implicitDefEqProofs only[go_sem,seval,↓reduceIte]
theorem zub(c:Int)(hp:Heap):S 83 [.pv none (.int .i64 c)] hp=some (.ret (.pv none (.bool (decide (0<c)))),hp):=by
 refine zak rfl rfl rfl (zab [(none,.int .i64 c)]) rfl ?_
 simp -dsimp -implicitDefEqProofs only[go_sem,seval,↓reduceIte]
theorem zuc(c:Int)(hp:Heap):S 84 [.pv none (.int .i64 c)] hp=some (.ret (.pv none (.bool (decide (0<=c)))),hp):=by
 refine zak rfl rfl rfl (zab [(none,.int .i64 c)]) rfl ?_
 simp -dsimp -implicitDefEqProofs only[go_sem,seval,↓reduceIte]
def cmt(i:Nat)(c:Int):Bool:=match i with
 |0=>decide (c=0)
 |1=> !decide (c=0)
 |2=>decide (c<0)
 |3=>decide (c<=0)
 |4=>decide (0<c)
 |_=>decide (0<=c)
theorem zud(i:Nat)(hi:i<6):∃fid,afind true (.str (names2a.getD i [])) rows2=some (some (.func (.func fid)))/\∀c hp,S fid [.pv none (.int .i64 c)] hp=some (.ret (.pv none (.bool (cmt i c))),hp):=by
 match i,hi with
 |0,_=>exact⟨_,rfl,zt7⟩
 |1,_=>exact⟨_,rfl,zt8⟩
 |2,_=>exact⟨_,rfl,zt9⟩
 |3,_=>exact⟨_,rfl,zua⟩
 |4,_=>exact⟨_,rfl,zub⟩
 |5,_=>exact⟨_,rfl,zuc⟩
theorem zrz(g u w:Tm)(hga:g.args=[u,w])(vu:u.valid=true)(vw:w.valid=true)(k:Nat)(hp:Heap)(r:Nat)(hr:hp[r]? =some (.box (some 5) (.pv (some 5) (runV g k))))(hb:Bq hp)(fid:FuncId)(fb:Int->Bool)(hf1:afind true (.str g.name) rows1=some none)(hf:afind true (.str g.name) rows2=some (some (.func (.func fid))))(ht:∀c hp,S fid [.pv none (.int .i64 c)] hp=some (.ret (.pv none (.bool (fb c))),hp)):
  S 50 [.ptr r 0] hp=some (.ret (.tuple [.sl (some 4) (hp.length+6) (sucL (fb (u.cmp w)) g).length 0 (sucL (fb (u.cmp w)) g).length,.pv none (.int .i64 0)]),hp++(eJ g++[.arr (some 4) [] false,.arr (some 4) (Tm.pvs (sucL (fb (u.cmp w)) g)) false])):=by
 refine zav rfl rfl rfl rfl ?_
 have hlt:=zbh hr
 have hr':∀X,(hp++X)[r]? =some (.box (some 5) (.pv (some 5) (runV g k))):=fun X=>by rw[zcY hlt,hr]
 have hl:g.args.length=2:=by rw[hga];rfl
 have h1:=fun hp=>zeK (Tm.pvs g.args) (by rw[Tm.pvs_len];omega) (by rw[Tm.pvs_len];omega) hp
 have hz0:zaJ [(none,.pv none (.int .i64 0)),(none,.pv none (.int .i64 0)),(none,.pv none (.str [])),(none,.tsl (some 4) [])] [] []=some zagC:=rfl
 have h2:=zif
 have h3:=zcD
 have h4:=fun hp=>zkX u w hp vu vw
 have h5:=fun X=>zhk g k (fb (u.cmp w)) (hp++X) r (hr' X)
 have ht':=ht (u.cmp w)
 have ha:∀y0 y1,_:=fun y0 y1=> @zpy hp y0 y1 g.args 2 hl (by decide)
 have l0:∀Z y0 y1 z,_:=fun Z y0 y1 z=> @zkS hp Z y0 y1 (g.args++[zt,zt]) z 4 0 u (by rw[List.length_append,hl];rfl) (by rw[hga];rfl)
 have l1:∀Z y0 y1 z,_:=fun Z y0 y1 z=> @zkS hp Z y0 y1 (g.args++[zt,zt]) z 4 1 w (by rw[List.length_append,hl];rfl) (by rw[hga];rfl)
 have k1:∀Z y0 y1 y2,_:=fun Z y0 y1 y2=> @zpz hp Z y0 y1 y2 g.name rows1 hf1
 have k2:∀Z y0 y1 y2 y3,zaW true none (.pv none .nilfunc) true (hp++y0::y1::y2::y3::.map none rows2::Z) [.map (hp.length+4),.pv none (.str g.name)]=some (.tuple [.pv none (.func (.func fid)),.pv none (.bool true)]):=fun Z y0 y1 y2 y3=>
  zb8 (es:=rows2) (by rw[getN rfl];rfl) hf
 have i0:zaT (some 4) [.sl (some 4) (hp.length+2) 4 0 4,.pv none (.int .i64 0)]=some (.eptr (some 4) (hp.length+2) 4 0 0):=rfl
 have i1:zaT (some 4) [.sl (some 4) (hp.length+2) 4 0 4,.pv none (.int .i64 1)]=some (.eptr (some 4) (hp.length+2) 4 1 0):=rfl
 generalize sucL (fb (u.cmp w)) g=ts at h5 ⊢
 simp only[Tm.av] at h4
 simp -dsimp -implicitDefEqProofs only[go_sem,seval,↓reduceIte,Tm.av,hr,hr',h1,h2,h3,h4,h5,ht',ha,hl,hz0,l0,l1,k1,k2,i0,i1,Tm.pvs_len,zdt,zdu,zjF,zne,zhm,zkM rfl,zdJ hb,List.take_succ_cons,zcL,zdK,zgz,zfb,zfa,zdH,zdI,zhn,zan,zbH (sh:=some 4) (by decide),List.append_assoc,zaf,zac,zah,zad,Nat.add_assoc,List.length_append]
 rw[if_neg (by simp[AV.refsIn,AV.refsIn.gol])]
 rfl
theorem zlS(g:Tm)(b:Bool)(q:Nat)(X:Heap)(hv:g.valid=true)(hc:canT g=g)(hk:g.kind=3)(hn:g.name∈zbt g.args.length)
  (he:S 50 [.ptr 6 0] (hE g)=some (.ret (.tuple [.sl (some 4) q (sucL b g).length 0 (sucL b g).length,.pv none (.int .i64 0)]),hE g++X))(hq:7<=q)(hX:X[q - 7]? =some (.arr (some 4) (Tm.pvs (sucL b g)) false)):zeC g (sucL b g) zt 0:=by
 intro hp
 obtain⟨ts,hts⟩:∃ts,ts=sucL b g:=⟨_,rfl⟩
 have hall:ts.all Tm.valid=true:=by
  rw[hts]
  unfold sucL
  split
  ·simp[hv]
  ·rfl
 have hlen:ts.length<=1:=by
  rw[hts]
  unfold sucL
  split <;> simp
 have hr:zdP ts 0=(ts,0):=by
  have:¬1000<ts.length:=by omega
  simp only[zdP,ne_eq,not_true_eq_false,if_false,this,hall,if_true]
 rw[<-hts] at he hX ⊢
 have h3:=zkT g hp hv hc hk hn ts 0 q X false he hq hX (by omega) fun t ht=>by
  have:=valid_size (List.all_eq_true.1 hall t ht)
  omega
 rw[hr] at h3
 exact h3
theorem zrA(i:Nat)(hi:i<6)(u w:Tm)(g:Tm)(hg:g=tstr (names2a.getD i []) [u,w])(hv:g.valid=true)(hc:canT g=g):zeC g (sucL (cmt i (u.cmp w)) g) zt 0:=by
 have hga:g.args=[u,w]:=by rw[hg];rfl
 have vu:u.valid=true:=zbl hv (by rw[hga];simp)
 have vw:w.valid=true:=zbl hv (by rw[hga];simp)
 obtain⟨fid,hf,ht⟩:=zud i hi
 have hnm:g.name=names2a.getD i []:=by rw[hg];rfl
 have hf1:afind true (.str g.name) rows1=some none:=by
  rw[hnm]
  match i,hi with
  |0,_=>rfl
  |1,_=>rfl
  |2,_=>rfl
  |3,_=>rfl
  |4,_=>rfl
  |5,_=>rfl
 have hmem:g.name∈zbt g.args.length:=by
  rw[hnm,hga]
  show names2a.getD i []∈zbt 2
  clear hf ht hf1 hnm hg
  match i,hi with
  |0,_=>decide
  |1,_=>decide
  |2,_=>decide
  |3,_=>decide
  |4,_=>decide
  |5,_=>decide
 have h2:=zrz g u w hga vu vw (vads [] g.occ).length (hE g) 6 rfl (zsY g) fid _ hf1 (by rw[hnm];exact hf) ht
 exact zlS g _ _ _ hv hc (by rw[hg];rfl) hmem h2 (by show 7<=7+6;omega) rfl
theorem find_mem{l:List B}{v:Int}(h:fndB l v=true):(v,toB l v)∈l:=List.mem_of_getElem? (zc5 h)
theorem znf{l:List B}{v:Int}{t:Tm}{x:B}(h:x=(v,t)\/x∈l):x∈insB l v t:=by
 unfold insB
 simp only[List.mem_append,List.mem_singleton]
 rcases h with h|h
 ·exact .inl (.inr h)
 ·rw[<-List.take_append_drop (lbB l v) l] at h
  rcases List.mem_append.1 h with h|h
  ·exact .inl (.inl h)
  ·exact .inr h
theorem zs3{l:List B}(hs:Srt' l){b:B}(hb:b∈l):fndB l b.1=true/\toB l b.1=b.2:=by
 obtain⟨i,hlt,rfl⟩:=List.getElem_of_mem hb
 have hg:=List.getElem?_eq_getElem hlt
 obtain⟨h1,h2⟩:=zpW hs hg
 refine⟨h1,?_⟩
 unfold toB
 rw[h2,hg]
theorem zpF{l:List B}(hs:Srt' l)(v:Int):fndB l v=true↔v∈l.map (·.1):=by
 constructor
 ·intro h;exact List.mem_map.2 ⟨_,find_mem h,rfl⟩
 ·intro h
  obtain⟨b,hb,rfl⟩:=List.mem_map.1 h
  exact(zs3 hs hb).1
theorem zjJ{n:Int}(h:0<=n/\n<=1099511627776):(tvar n).fits=true:=by
 simp[tvar,Tm.fits,Tm.fitsAll,Tm.node,Tm.kind,Tm.n,Tm.name,Tm.args,h.1,h.2]
open Classical in
noncomputable def okb(l:List B):Bool:=decide (OKB l)
theorem okb_iff{l:List B}:okb l=true↔OKB l:=by unfold okb;simp
def IsS(s:AV)(hp:Heap)(l:List B):Prop:=s=.pv none (.sl (some 5) (bds l))\/IsB s hp l
theorem IsS.more{s:AV}{hp:Heap}{l:List B}(h:IsS s hp l)(e:Heap):IsS s (hp++e) l:=h.elim .inl fun h=>.inr (h.more e)
theorem IsS.place{s:AV}{hp:Heap}{l:List B}(h:IsS s hp l)(v:Int)(hs:Srt' l)(hl:l.length<1000000000)(e:Heap):
  S 144 [s,.pv none (.int .i64 v)] (hp++e)=some (.ret (.tuple [.pv none (.int .i64 (lbB l v:Int)),.pv none (.bool (fndB l v))]),hp++e):=by
 rcases h.more e with rfl|h
 ·exact zfM l v hs hl _
 ·exact zgs h v hs hl
theorem IsS.elem{s:AV}{hp:Heap}{l:List B}(h:IsS s hp l){i:Nat}{b:B}(hb:l[i]? =some b):
  ∃p q,zaT (some 5) [s,.pv none (.int .i64 i)]=some p/\zd6 1 [p]=some q/\∀e,aload (some 4) (hp++e) q=some (.pv (some 4) b.2.pv):=by
 have hlt:=(List.getElem?_eq_some_iff.1 hb).1
 rcases h with rfl|h
 ·refine⟨_,_,zaj (zba hb),rfl,fun e=> ?_⟩
  simp[aload,zdp]
 ·rcases h with⟨rfl,rfl⟩|⟨r,rfl,hr⟩
  ·simp at hb
  ·refine⟨_,_,zcd hlt,rfl,fun e=> ?_⟩
   have h1:(hp++e)[r]? =some (.arr (some 5) (bds l) false):=by rw[List.getElem?_append_left (zbh hr)];exact hr
   simp[aload,h1,zaP,zba hb,zdp]
def zagg(q:Nat):AV:=.agg [(none,.pv none (.int .i64 0)),(none,.pv none (.int .i64 0)),(none,.pv none (.str [])),(none,.sl (some 4) q 0 0 0)]
theorem IsS.low{s:AV}{hp:Heap}{l:List B}(h:IsS s hp l)(k:Nat):s.refsIn.all (fun q=>decide (q<hp.length+k))=true:=by
 rw[List.all_eq_true]
 intro q hq
 rcases h with rfl|h
 ·cases hq
 ·have:=h.low q hq
  simp;omega
def bndX(n:Nat)(t:Tm):Heap:=[.box (some 4) (.pv (some 4) t.pv),.box (some 4) (zagg (n+3)),.arr (some 4) [] false,.arr (some 4) [] false]
theorem zjw{s:AV}{hp:Heap}{l:List B}(h:IsS s hp l)(hs:Srt' l)(hl:l.length<1000000000)(t:Tm)(hk:t.kind=0)(hf:fndB l t.n=true):
  S 133 [s,t.av] hp=some (.ret (.tuple [(toB l t.n).av,.pv none (.bool true)]),hp):=by
 refine zav rfl rfl rfl rfl ?_
 have hpl:=fun e=>h.place t.n hs hl e
 obtain⟨p,q,h1,h2,h3⟩:=h.elem (zc5 hf)
 rw[hf] at hpl
 simp only at h3
 simp -dsimp -implicitDefEqProofs only[go_sem,seval,↓reduceIte,Tm.av,zao,zaF,hk,hpl,h1,h2,h3,List.append_assoc,zaf,zac,zah,zad,Nat.add_assoc,List.length_append]
 rw[zfg rfl ((zaf hp _ 1).trans rfl)]
 refine⟨rfl,?_⟩
 rw[if_pos (by simp[AV.refsIn,AV.refsIn.gol,Tm.av])]
 exact List.take_left
theorem zlD{s:AV}{hp:Heap}{l:List B}(h:IsS s hp l)(hs:Srt' l)(hl:l.length<1000000000)(t:Tm)(hf:¬(t.kind=0/\fndB l t.n=true)):
  S 133 [s,t.av] hp=some (.ret (.tuple [zagg (hp.length+3),.pv none (.bool false)]),hp++bndX hp.length t):=by
 refine zav rfl rfl rfl rfl ?_
 have hpl:=fun e=>h.place t.n hs hl e
 by_cases hk:t.kind=0
 ·have hf':fndB l t.n=false:=by
   cases e:fndB l t.n with
   |true=>exact absurd ⟨hk,e⟩ hf
   |false=>rfl
  rw[hf'] at hpl
  have hk':=eq_true hk
  simp -dsimp -implicitDefEqProofs only[go_sem,seval,↓reduceIte,Tm.av,zao,zaF,hk',hpl,hb0,zae (Nat.le_add_right _ _),List.append_assoc,zaf,zac,zah,zad,Nat.add_assoc,List.length_append]
  rw[zfg rfl ((zaf hp _ 1).trans rfl)]
  refine⟨rfl,?_⟩
  rw[if_neg (by simp[AV.refsIn,AV.refsIn.gol,AV.refsIn.go,zagg])]
  rfl
 ·have hk':=eq_false hk
  simp -dsimp -implicitDefEqProofs only[go_sem,seval,↓reduceIte,Tm.av,zao,zaF,hk',hb0,zae (Nat.le_add_right _ _),List.append_assoc,zaf,zac,zah,zad,Nat.add_assoc,List.length_append]
  rw[zfg rfl ((zaf hp _ 1).trans rfl)]
  refine⟨rfl,?_⟩
  rw[if_neg (by simp[AV.refsIn,AV.refsIn.gol,AV.refsIn.go,zagg])]
  rfl
theorem zjx{s:AV}{hp:Heap}{l:List B}(h:IsS s hp l)(hO:OKB l)(hl:l.length<1000000000)(t:Tm)(hv:t.valid=true):
  S 109 [s,t.av] hp=some (.ret (flw l t).av,hp):=by
 refine zav rfl rfl rfl rfl ?_
 simp -dsimp -implicitDefEqProofs only[go_sem,seval,↓reduceIte,Tm.av,List.append_assoc,zaf,zac,zah,zad,Nat.add_assoc,List.length_append]
 refine zdS (fun n st=>∃t1:Tm,n=mu l t1/\t1.valid=true/\flw l t1=flw l t/\st=⟨[(0,s),(3,.ptr hp.length 0),(4,.ptr (hp.length+1) 0)],hp++[.box (some 4) (.pv (some 4) t1.pv),.box (some 4) (zagg (hp.length+2)),.arr (some 4) [] false]⟩) (n:=mu l t) ⟨t,rfl,hv,rfl,?_⟩ ?_
 ·simp -dsimp -implicitDefEqProofs only[go_sem,seval,↓reduceIte]
  try rfl
 ·rintro n st ⟨t1,rfl,hv1,he,rfl⟩
  by_cases hc:t1.kind=0/\fndB l t1.n=true
  ·obtain⟨hk,hf⟩:=hc
   have hb:=fun e=>zjw (h.more e) hO.good.1 hl t1 hk hf
   simp only[Tm.av] at hb
   have hlt:=zim hO.Acyc hk hf
   simp -dsimp -implicitDefEqProofs only[go_sem,seval,↓reduceIte,hb,List.append_assoc,zaf,zac,zah,zad,Nat.add_assoc,List.length_append]
   refine⟨mu l (toB l t1.n),hlt,toB l t1.n,rfl,(hO.to hf).1,by rw[<-he,zjN hO.Acyc hk hf],?_⟩
   rw[za6 3 rfl rfl (by simp[AObj.refs,AV.ofComps,pures,AV.refsIn,AV.refsIn.go,zagg]) (by simp[AV.refsIn,AV.refsIn.gol,h.low])]
   rfl
  ·have hb:=fun e=>zlD (h.more e) hO.good.1 hl t1 hc
   have he2:flw l t1=t1:=by
    by_cases hk:t1.kind=0
    ·exact zeH hO.Acyc (valid_fits hv1) hk fun e=>hc ⟨hk,e⟩
    ·exact zgG l hk
   rw[he2] at he
   rw[<-he]
   simp only[Tm.av] at hb
   simp -dsimp -implicitDefEqProofs only[go_sem,seval,↓reduceIte,hb,bndX,zagg,zat,zae (Nat.le_add_right _ _),List.append_assoc,zaf,zac,zah,zad,Nat.add_assoc,List.length_append]
   refine⟨rfl,?_⟩
   rw[if_pos (by simp[AV.refsIn,Tm.av])]
   exact List.take_left
def Dep(l:List B)(v w:Int):Prop:=fndB l v=true/\w∈(toB l v).occ
theorem zrr{l:List B}{r:Int->Nat}(hr:∀v,fndB l v=true->∀w∈(toB l v).occ,fndB l w=true->r w<r v){a b:Int}(h:Relation.TransGen (Dep l) a b)(hb:fndB l b=true):r b<r a:=by
 induction h with
 |single h=>exact hr _ h.1 _ h.2 hb
 |tail h1 h2 ih=>exact Nat.lt_trans (hr _ h2.1 _ h2.2 hb) (ih h2.1)
theorem zrs{l:List B}{x:Int}(h:Relation.TransGen (Dep l) x x)(hx:fndB l x=true):¬Acyc l:=fun⟨_,hr⟩=>Nat.lt_irrefl _ (zrr hr h hx)
def MapI(m:List (Int × PV))(f:Int->Int):Prop:=∀v,(zc3 v m).getD (.int .i64 0)=.int .i64 (f v)
theorem MapI.put{m:List (Int × PV)}{f:Int->Int}(h:MapI m f)(v x:Int):MapI (mPut v (.int .i64 x) m) (fun w=>if w=v then x else f w):=fun w=>by
 rw[zgC]
 by_cases e:w=v
 ·simp[e]
 ·simp only[if_neg e];exact h w
structure CInv(l:List B)(st:Int->Int):Prop where
 val:∀o,st o=0\/st o=1\/st o=2
 bnd:∀o,st o≠0->fndB l o=true
 done:∃(rk:Int->Nat) (c:Nat),∀v,st v=2->rk v<c/\∀w∈(toB l v).occ,fndB l w=true->st w=2/\rk w<rk v
structure CPost(l:List B)(st st':Int->Int)(v:Int):Prop where
 inv:CInv l st'
 opn:∀o,st' o=1↔st o=1
 dn:∀o,st o=2->st' o=2
 me:fndB l v=true->st' v=2
def cnt(l:List B)(st:Int->Int):Nat:=(l.filter fun b=>decide (st b.1=0)).length
theorem ztZ{l:List B}{st st':Int->Int}(h:∀o,st o≠0->st' o≠0):cnt l st'<=cnt l st:=by
 unfold cnt
 induction l with
 |nil=>exact Nat.le_refl _
 |cons x r ih=>
  simp only[List.filter_cons]
  by_cases h1:st' x.1=0
  ·have h2:st x.1=0:=by
    rcases Int.lt_trichotomy (st x.1) 0 with h3|h3|h3
    ·exact absurd h1 (h _ (by omega))
    ·exact h3
    ·exact absurd h1 (h _ (by omega))
   simp[h1,h2];exact ih
  ·by_cases h2:st x.1=0
   ·simp[h1,h2];omega
   ·simp[h1,h2];exact ih
theorem zr5{st st':Int->Int}(h:∀o,st o≠0->st' o≠0){v:Int}(h0:st v=0)(h1:st' v≠0){t:Tm}:∀{l:List B},(v,t)∈l->cnt l st'<cnt l st
 |[],hm=>by cases hm
 |x::r,hm=>by
  have hle:=ztZ (l:=r) h
  unfold cnt at hle ⊢
  simp only[List.filter_cons]
  by_cases e:x.1=v
  ·rw[e]
   simp[h0,h1];omega
  ·have hr:(v,t)∈r:=by
    rcases List.mem_cons.1 hm with h|h
    ·exact absurd (by rw[<-h]) e
    ·exact h
   have ih:=zr5 h h0 h1 hr
   unfold cnt at ih
   by_cases h2:st' x.1=0
   ·have h3:st x.1=0:=by
     rcases Int.lt_trichotomy (st x.1) 0 with h3|h3|h3
     ·exact absurd h2 (h _ (by omega))
     ·exact h3
     ·exact absurd h2 (h _ (by omega))
    simp[h2,h3];omega
   ·by_cases h3:st x.1=0
    ·simp[h2,h3];omega
    ·simp[h2,h3];omega
theorem CPost.mono{l:List B}{st st':Int->Int}{v:Int}(h:CInv l st)(hp:CPost l st st' v)(o:Int)(ho:st o≠0):st' o≠0:=by
 rcases h.val o with e|e|e
 ·exact absurd e ho
 ·rw[(hp.opn o).2 e];decide
 ·rw[hp.dn o e];decide
theorem CInv.open_{l:List B}{st:Int->Int}(h:CInv l st){v:Int}(hf:fndB l v=true)(h0:st v=0):CInv l (fun w=>if w=v then 1 else st w):=by
 obtain⟨h1,h2,rk,c,h3⟩:=h
 refine⟨fun o=> ?_,fun o ho=> ?_,rk,c,fun w hw=> ?_⟩
 ·by_cases e:o=v
  ·simp[e]
  ·simp only[if_neg e];exact h1 o
 ·by_cases e:o=v
  ·rw[e];exact hf
  ·simp only[if_neg e] at ho;exact h2 o ho
 ·have hne:w≠v:=fun e=>by simp[e] at hw
  simp only[if_neg hne] at hw
  obtain⟨k1,k2⟩:=h3 w hw
  refine⟨k1,fun x hx hfx=> ?_⟩
  obtain⟨k3,k4⟩:=k2 x hx hfx
  have hne2:x≠v:=fun e=>by rw[e,h0] at k3;cases k3
  simp only[if_neg hne2]
  exact⟨k3,k4⟩
theorem CInv.close_{l:List B}{st:Int->Int}(h:CInv l st){v:Int}(hf:fndB l v=true)(h1:st v=1)(hall:∀w∈(toB l v).occ,fndB l w=true->st w=2):CInv l (fun w=>if w=v then 2 else st w):=by
 obtain⟨g1,g2,rk,c,g3⟩:=h
 refine⟨fun o=> ?_,fun o ho=> ?_,fun w=>if w=v then c else rk w,c+1,fun w hw=> ?_⟩
 ·by_cases e:o=v
  ·simp[e]
  ·simp only[if_neg e];exact g1 o
 ·by_cases e:o=v
  ·rw[e];exact hf
  ·simp only[if_neg e] at ho;exact g2 o ho
 ·have key:∀x∈(toB l w).occ,fndB l x=true->st x=2->x≠v:=fun x _ _ e e2=>by rw[e2,h1] at e;cases e
  by_cases e:w=v
  ·subst e
   refine⟨by simp,fun x hx hfx=> ?_⟩
   have k:=hall x hx hfx
   have hne:=key x hx hfx k
   simp only[if_neg hne,if_true]
   exact⟨k,(g3 x k).1⟩
  ·simp only[if_neg e] at hw ⊢
   obtain⟨k1,k2⟩:=g3 w hw
   refine⟨by omega,fun x hx hfx=> ?_⟩
   obtain⟨k3,k4⟩:=k2 x hx hfx
   have hne:=key x hx hfx k3
   simp only[if_neg hne]
   exact⟨k3,k4⟩
theorem CInv.acyc{l:List B}{st:Int->Int}(h:CInv l st)(hall:∀v,fndB l v=true->st v=2):Acyc l:=by
 obtain⟨_,_,rk,c,g3⟩:=h
 exact⟨rk,fun v hv w hw hf=>((g3 v (hall v hv)).2 w hw hf).2⟩
def vagg(v:Int):AV:=.agg [(none,.pv none (.int .i64 0)),(none,.pv none (.int .i64 v)),(none,.pv none (.str [])),(none,.tsl (some 4) [])]
theorem znb(l:List B)(hs:Srt' l)(hl:l.length<1000000000)(v:Int)(hf:fndB l v=true)(hp:Heap):
  S 133 [.pv none (.sl (some 5) (bds l)),vagg v] hp=some (.ret (.tuple [(toB l v).av,.pv none (.bool true)]),hp):=by
 refine zav rfl rfl rfl rfl ?_
 have hpl:=zfM l v hs hl
 rw[hf] at hpl
 simp -dsimp -implicitDefEqProofs only[go_sem,seval,↓reduceIte,vagg,Tm.av,hpl,zaj (zba (zc5 hf)),zdp,zcq,List.append_assoc,zaf,zac,zah,zad,Nat.add_assoc,List.length_append]
 rw[zfg rfl ((zaf hp _ 2).trans rfl)]
 refine⟨rfl,?_⟩
 rw[if_pos (by simp[AV.refsIn,AV.refsIn.gol,Tm.av])]
 exact List.take_left
theorem zpv(l:List B)(hs:Srt' l)(hl:l.length<1000000000)(v:Int)(hf:fndB l v=false)(hp:Heap):
  ∃v' hp',S 133 [.pv none (.sl (some 5) (bds l)),vagg v] hp=some (.ret v',hp')/\∃e q,v'=.tuple [zagg q,.pv none (.bool false)]/\hp'=hp++e/\q<(hp++e).length/\0<e.length:=by
 refine zc4 _ rfl rfl rfl rfl ?_
 have hpl:=zfM l v hs hl
 rw[hf] at hpl
 simp -dsimp -implicitDefEqProofs only[go_sem,seval,↓reduceIte,vagg,Tm.av,hpl,hb0,zcq,zae (Nat.le_add_right _ _),List.append_assoc,zaf,zac,zah,zad,Nat.add_assoc,List.length_append]
 rw[zfg rfl ((zaf hp _ 2).trans rfl)]
 rw[if_neg (by simp[AV.refsIn,AV.refsIn.gol,AV.refsIn.go])]
 exact⟨_,_,rfl,rfl,by simp,by simp⟩
theorem zt0(l:List B)(hG:Good l)(hl:l.length<1000000000):∀(n:Nat) (st:Int->Int) (m:List (Int × PV)) (v:Int) (hp:Heap) (r:Nat),cnt l st=n->hp[r]? =some (.map none (za7 m))->MapI m st->CInv l st->(∀o,st o=1->Relation.TransGen (Dep l) o v)->
  ∃(b:Bool) (m':List (Int × PV)),S 108 [.pv none (.sl (some 5) (bds l)),.pv none (.int .i64 v),.map r] hp=some (.ret (.pv none (.bool b)),hp.set r (.map none (za7 m')))/\(b=true->¬Acyc l)/\(b=false->∃st',MapI m' st'/\CPost l st st' v):=by
 intro n
 induction n using Nat.strongRecOn with
 |_ n ih=>
  intro st m v hp r hn hr hM hI hpre
  have hlt:=zbh hr
  have hself:hp.set r (.map none (za7 m))=hp:=by
   have:=List.getElem?_eq_some_iff.1 hr
   obtain⟨_,h⟩:=this
   rw[<-h];exact List.set_getElem_self _
  have hlk0:∀e:Heap,zaW false none (.pv none (.int .i64 0)) false (hp++e) [.map r,.pv none (.int .i64 v)]=some (.pv none (.int .i64 (st v))):=fun e=>by
   rw[zjI (m:=m) (by rw[List.getElem?_append_left hlt];exact hr),hM v]
  by_cases h0:st v=0
  rotate_left
  ·have hw:S 108 [.pv none (.sl (some 5) (bds l)),.pv none (.int .i64 v),.map r] hp=some (.ret (.pv none (.bool (decide (st v=1)))),hp):=by
    refine zav rfl rfl rfl rfl ?_
    have hlk:=hlk0 []
    rw[List.append_nil] at hlk
    simp -dsimp -implicitDefEqProofs only[c108b18,go_sem,seval,↓reduceIte,hlk,h0]
    rw[if_pos (by simp[AV.refsIn]),List.take_length]
   refine⟨decide (st v=1),m,by rw[hself];exact hw,fun hb=> ?_,fun hb=>⟨st,hM,hI,fun _=>Iff.rfl,fun _ h=>h,fun hf=> ?_⟩⟩
   ·have h1:st v=1:=of_decide_eq_true hb
    exact zrs (hpre v h1) (hI.bnd v h0)
   ·have h1:¬st v=1:=of_decide_eq_false hb
    rcases hI.val v with h|h|h
    ·exact absurd h h0
    ·exact absurd h h1
    ·exact h
  ·by_cases hf:fndB l v=true
   ·suffices hP:∃v' hp',S 108 [.pv none (.sl (some 5) (bds l)),.pv none (.int .i64 v),.map r] hp=some (.ret v',hp')/\∃(b:Bool) (m':List (Int × PV)),v'=.pv none (.bool b)/\hp'=hp.set r (.map none (za7 m'))/\(b=true->¬Acyc l)/\(b=false->∃st',MapI m' st'/\CPost l st st' v) by
     obtain⟨v',hp',h1,b,m',rfl,rfl,h2⟩:=hP
     exact⟨b,m',h1,h2⟩
    obtain⟨htv,hts⟩:=hG.2 _ (List.mem_of_getElem? (zc5 hf))
    simp only at htv hts
    have htz:=valid_size htv
    have hb:=znb l hG.1 hl v hf
    have hV:=fun hp=>zlV (toB l v) htv hp
    have hLm:∀x,x∈vads [] (toB l v).occ↔x∈(toB l v).occ:=fun x=>by rw[ziq];simp
    have hvl:=zdN (toB l v).occ []
    have hol:=(toB l v).occ_len
    rw[List.length_nil,Nat.zero_add] at hvl
    generalize hL:vads [] (toB l v).occ=L at hV hLm hvl
    simp only[Tm.av,vagg] at hb hV
    have hbu:zaJ [(none,.pv none (.int .i64 0)),(none,.pv none (.int .i64 0)),(none,.pv none (.str [])),(none,.tsl (some 4) [])] [1] [.pv none (.int .i64 v)]=some (.agg [(none,.pv none (.int .i64 0)),(none,.pv none (.int .i64 v)),(none,.pv none (.str [])),(none,.tsl (some 4) [])]):=rfl
    have hms:∀(x:Int) (m:List (Int × PV)) (e:Heap),zbD false none (hp.set r (.map none (za7 m))++e) [.map r,.pv none (.int .i64 v),.pv none (.int .i64 x)]=some (.undef,hp.set r (.map none (za7 (mPut v (.int .i64 x) m)))++e):=fun x m e=>by
     rw[zbP (es:=za7 m) (by rw[List.getElem?_append_left (by simpa using hlt),List.getElem?_set_self hlt]) (zds _ _ _),List.set_append_left _ _ (by simpa using hlt),List.set_set]
    have hms1:=fun e=>hms 1 m e
    rw[hself] at hms1
    refine zc4 _ rfl rfl rfl rfl ?_
    have hlk:=hlk0 []
    rw[List.append_nil] at hlk
    have hg0:∀(X:AObj) (e:Heap),(hp.set r X++e)[hp.length]? =e[0]? :=fun X e=>zcJ (by simp)
    simp -dsimp -implicitDefEqProofs only[go_sem,seval,↓reduceIte,hlk,h0,hbu,hb,hms1,hg0,hV,za5,zat,zae (Nat.le_add_right _ _),List.append_assoc,zaf,zac,zah,zad,Nat.add_assoc,List.length_append]
    have hI1:=hI.open_ hf h0
    have hM1:=hM.put v 1
    refine zc0 (α:=List (Int × PV)) L.length (fun i m=>∃st':Int->Int,MapI m st'/\CInv l st'/\(∀o,st' o=1↔(o=v\/st o=1))/\(∀o,st o=2->st' o=2)/\∀j,j<i->∀x,L[j]? =some x->fndB l x=true->st' x=2)
     (fun i m=>⟨[(0,.pv none (.sl (some 5) (bds l))),(1,.pv none (.int .i64 v)),(2,.map r),(31,.pv none (.sl none (ints L))),(32,.pv none (.int .i64 L.length)),(33,.pv none (.int .i64 i))],hp.set r (.map none (za7 m))++[.box (some 4) (.pv (some 4) (toB l v).pv),.arr (some 4) [] false]⟩) _ ⟨⟨_,hM1,hI1,fun o=> ?_,fun o ho=> ?_,fun j hj=>by omega⟩,?_⟩ ?_ ?_
    ·by_cases e:o=v
     ·simp[e]
     ·simp[e]
    ·have:o≠v:=fun e=>by rw[e,h0] at ho;cases ho
     simp only[if_neg this];exact ho
    ·rfl
    ·rintro i m2 h ⟨st2,k1,k2,k3,k4,k5⟩
     have hc:(i:Int)<(L.length:Int):=by omega
     obtain⟨x,hx⟩:∃x,L[i]? =some x:=⟨_,List.getElem?_eq_getElem h⟩
     have hxo:=(hLm x).1 (List.mem_of_getElem? hx)
     have hnz:∀o,st o≠0->st2 o≠0:=fun o ho=>by
      rcases hI.val o with e|e|e
      ·exact absurd e ho
      ·rw[(k3 o).2 (.inr e)];decide
      ·rw[k4 o e];decide
     have hcl:cnt l st2<n:=by
      rw[<-hn]
      exact zr5 hnz h0 (by rw[(k3 v).2 (.inl rfl)];decide) (find_mem hf)
     obtain⟨b,m3,hcall,q1,q2⟩:=ih _ hcl st2 m2 x (hp.set r (.map none (za7 m2))++[.box (some 4) (.pv (some 4) (toB l v).pv),.arr (some 4) [] false]) r rfl (by rw[List.getElem?_append_left (by simpa using hlt),List.getElem?_set_self hlt]) k1 k2 (fun o ho=>by
      rcases(k3 o).1 ho with rfl|ho
      ·exact .single ⟨hf,hxo⟩
      ·exact .tail (hpre o ho) ⟨hf,hxo⟩)
     rw[List.set_append_left _ _ (by simpa using hlt),List.set_set] at hcall
     have w2:IntKind.i64.wrap ((i:Int)+1)=((i+1:Nat):Int):=by rw[zaH (by omega) (by omega)];omega
     cases b with
     |true=>
      simp -dsimp -implicitDefEqProofs only[c108b18,go_sem,seval,↓reduceIte,za5,hc,zaj (zdM hx),hcall]
      refine⟨true,m3,rfl,?_,q1,fun e=>by cases e⟩
      rw[if_pos (by simp[AV.refsIn])]
      exact List.take_left' (by simp)
     |false=>
      obtain⟨st3,r1,r2⟩:=q2 rfl
      simp -dsimp -implicitDefEqProofs only[c108b18,go_sem,seval,↓reduceIte,za5,hc,zaj (zdM hx),hcall,w2]
      refine⟨m3,⟨st3,r1,r2.inv,fun o=>by rw[r2.opn,k3],fun o ho=>r2.dn o (k4 o ho),fun j hj y hy hfy=> ?_⟩,?_⟩
      ·rcases Nat.lt_or_ge j i with h|h
       ·exact r2.dn y (k5 j h y hy hfy)
       ·have:j=i:=by omega
        subst this
        rw[hx] at hy
        cases hy
        exact r2.me hfy
      ·rw[zcI (by simp)]
    ·rintro m2 ⟨st2,k1,k2,k3,k4,k5⟩
     have hc:¬(L.length:Int)<(L.length:Int):=by omega
     have hms2:=fun e=>hms 2 m2 e
     simp -dsimp -implicitDefEqProofs only[c108b18,go_sem,seval,↓reduceIte,za5,hc,hms2]
     refine⟨false,mPut v (.int .i64 2) m2,rfl,?_,(fun e=>by cases e),fun _=>⟨_,k1.put v 2,?_⟩⟩
     ·rw[if_pos (by simp[AV.refsIn])]
      exact List.take_left' (by simp)
     ·have hall:∀w∈(toB l v).occ,fndB l w=true->st2 w=2:=fun w hw hfw=>by
       obtain⟨j,hj,rfl⟩:=List.getElem_of_mem ((hLm w).2 hw)
       exact k5 j hj _ (List.getElem?_eq_getElem hj) hfw
      refine⟨k2.close_ hf ((k3 v).2 (.inl rfl)) hall,fun o=> ?_,fun o ho=> ?_,fun _=>by simp⟩
      ·by_cases e:o=v
       ·simp[e,h0]
       ·simp only[if_neg e]
        rw[k3]
        simp[e]
      ·by_cases e:o=v
       ·simp[e]
       ·simp only[if_neg e];exact k4 o ho
   ·have hf':fndB l v=false:=by simpa using hf
    obtain⟨v',hp',hb,e,q,rfl,rfl,hq,he⟩:=zpv l hG.1 hl v hf' hp
    have hw:S 108 [.pv none (.sl (some 5) (bds l)),.pv none (.int .i64 v),.map r] hp=some (.ret (.pv none (.bool false)),hp):=by
     refine zav rfl rfl rfl rfl ?_
     have hlk:=hlk0 []
     rw[List.append_nil] at hlk
     simp only[vagg] at hb
     have hbu:zaJ [(none,.pv none (.int .i64 0)),(none,.pv none (.int .i64 0)),(none,.pv none (.str [])),(none,.tsl (some 4) [])] [1] [.pv none (.int .i64 v)]=some (.agg [(none,.pv none (.int .i64 0)),(none,.pv none (.int .i64 v)),(none,.pv none (.str [])),(none,.tsl (some 4) [])]):=rfl
     simp -dsimp -implicitDefEqProofs only[c108b18,go_sem,seval,↓reduceIte,hlk,h0,hbu,hb,zagg,zat,zae (Nat.le_add_right _ _),List.append_assoc,zaf,zac,zah,zad,Nat.add_assoc,List.length_append]
     rw[if_pos (by simp[AV.refsIn])]
     exact List.take_left
    exact⟨false,m,by rw[hself];exact hw,(fun h=>by cases h),fun _=>⟨st,hM,hI,fun _=>Iff.rfl,fun _ h=>h,fun h=>absurd h hf⟩⟩
theorem znc(l:List B)(hl:l.length<100000000)(hsz:∀b∈l,b.2.size<1000000000)(hp:Heap):S 52 [.pv none (.sl (some 5) (bds l))] hp=some (.ret (.pv none (.bool (okb l))),hp):=by
 suffices hV:∃v,(∀hp,S 52 [.pv none (.sl (some 5) (bds l))] hp=some (.ret v,hp))/\VP l v by
  obtain⟨v,h1,b,rfl,h2⟩:=hV
  have:b=okb l:=by rw[Bool.eq_iff_iff,h2,okb_iff]
  rw[h1,this]
 refine zgD (ps:=[(none,.sl (some 5) (bds l))]) (VP l) rfl rfl rfl (fun hp=>rfl) rfl ?_
 simp -dsimp -implicitDefEqProofs only[c52k23,go_sem,seval,↓reduceIte,zaP]
 refine zc0 (α:=Unit) l.length (fun i _=>∀j,j<i->WfAt l j) (fun i _=>⟨[(0,.pv none (.sl (some 5) (bds l))),(8,.pv none (.sl (some 5) (bds l))),(9,.pv none (.int .i64 l.length)),(10,.pv none (.int .i64 i))],[]⟩) () ⟨fun j hj=>by omega,rfl⟩ ?_ ?_
 ·rintro i - h hinv
  have hc:(i:Int)<(l.length:Int):=by omega
  obtain⟨b,hb⟩:∃b,l[i]? =some b:=⟨_,List.getElem?_eq_getElem h⟩
  have hbs:=hsz b (List.mem_of_getElem? hb)
  have hv:=fun hp=>zbw b.2 hp hbs
  simp only[Tm.av] at hv
  have w2:IntKind.i64.wrap ((i:Int)+1)=((i+1:Nat):Int):=by rw[zaH (by omega) (by omega)];omega
  have next:WfAt l i->∀j,j<i+1->WfAt l j:=fun hw j hj=>by
   rcases Nat.lt_or_ge j i with h|h
   ·exact hinv j h
   ·have:j=i:=by omega
    subst this;exact hw
  by_cases h1:b.1<0
  ·simp -dsimp -implicitDefEqProofs only[c52b10,go_sem,seval,↓reduceIte,zaP,hc,zaj (zba hb),zbK,h1]
   exact znj fun h=>by have:=(h.wf i b hb).1;omega
  ·by_cases h2:1099511627776<b.1
   ·simp -dsimp -implicitDefEqProofs only[c52b10,go_sem,seval,↓reduceIte,zaP,hc,zaj (zba hb),zbK,h1,h2]
    exact znj fun h=>by have:=(h.wf i b hb).2.1;omega
   ·by_cases h3:0<i
    ·have h3':(0:Int)<(i:Int):=by omega
     obtain⟨c,hcc⟩:∃c,l[i - 1]? =some c:=⟨_,List.getElem?_eq_getElem (by omega)⟩
     have w3:IntKind.i64.wrap ((i:Int) - 1)=((i - 1:Nat):Int):=by rw[zaH (by omega) (by omega)];omega
     by_cases h4:b.1<=c.1
     ·simp -dsimp -implicitDefEqProofs only[c52b10,go_sem,seval,↓reduceIte,zaP,hc,zaj (zba hb),zaj (zba hcc),zbK,h1,h2,h3',h4,w3]
      exact znj fun h=>by have:=(h.wf i b hb).2.2.2 h3 c hcc;omega
     ·by_cases h5:b.2.valid=true
      ·simp -dsimp -implicitDefEqProofs only[c52b10,go_sem,seval,↓reduceIte,zaP,hc,zaj (zba hb),zaj (zba hcc),zbK,zdp,h1,h2,h3',h4,w3,hv,h5,w2]
       exact⟨(),next fun b' hb'=>by rw[hb] at hb';cases hb';exact⟨by omega,by omega,h5,fun _ c' hc'=>by rw[hcc] at hc';cases hc';omega⟩,by rfl⟩
      ·have h5':b.2.valid=false:=by simpa using h5
       simp -dsimp -implicitDefEqProofs only[c52b10,go_sem,seval,↓reduceIte,zaP,hc,zaj (zba hb),zaj (zba hcc),zbK,zdp,h1,h2,h3',h4,w3,hv,h5']
       exact znj fun h=>by have:=(h.wf i b hb).2.2.1;rw[h5'] at this;cases this
    ·have h3':¬(0:Int)<(i:Int):=by omega
     by_cases h5:b.2.valid=true
     ·simp -dsimp -implicitDefEqProofs only[c52b10,go_sem,seval,↓reduceIte,zaP,hc,zaj (zba hb),zbK,zdp,h1,h2,h3',hv,h5,w2]
      exact⟨(),next fun b' hb'=>by rw[hb] at hb';cases hb';exact⟨by omega,by omega,h5,fun h=>absurd h h3⟩,by rfl⟩
     ·have h5':b.2.valid=false:=by simpa using h5
      simp -dsimp -implicitDefEqProofs only[c52b10,go_sem,seval,↓reduceIte,zaP,hc,zaj (zba hb),zbK,zdp,h1,h2,h3',hv,h5']
      exact znj fun h=>by have:=(h.wf i b hb).2.2.1;rw[h5'] at this;cases this
 ·rintro - hinv
  have hc:¬(l.length:Int)<(l.length:Int):=by omega
  have hG:Good l:=⟨zuf hinv,fun b hb=>by
   obtain⟨i,hlt,rfl⟩:=List.getElem_of_mem hb
   exact⟨(hinv i hlt _ (List.getElem?_eq_getElem hlt)).2.2.1,hsz _ hb⟩⟩
  have hrg:∀b∈l,0<=b.1/\b.1<=1099511627776:=fun b hb=>by
   obtain⟨i,hlt,rfl⟩:=List.getElem_of_mem hb
   exact⟨(hinv i hlt _ (List.getElem?_eq_getElem hlt)).1,(hinv i hlt _ (List.getElem?_eq_getElem hlt)).2.1⟩
  simp -dsimp -implicitDefEqProofs only[c52b10,c52k23,go_sem,seval,↓reduceIte,zaP,hc]
  refine zc0 (α:=List (Int × PV)) l.length (fun i m=>∃st:Int->Int,MapI m st/\CInv l st/\(∀o,st o≠1)/\∀j,j<i->∀b,l[j]? =some b->st b.1=2) (fun i m=>⟨[(0,.pv none (.sl (some 5) (bds l))),(5,.map 0),(46,.pv none (.sl (some 5) (bds l))),(47,.pv none (.int .i64 l.length)),(48,.pv none (.int .i64 i))],[.map none (za7 m)]⟩) [] ⟨⟨fun _=>0,fun v=>rfl,⟨fun _=>.inl rfl,fun o h=>absurd rfl h,fun _=>0,0,(fun v h=>(by cases h))⟩,(fun o h=>(by cases h)),fun j hj=>by omega⟩,rfl⟩ ?_ ?_
  ·rintro i m h ⟨st,k1,k2,k3,k4⟩
   have hc:(i:Int)<(l.length:Int):=by omega
   obtain⟨b,hb⟩:∃b,l[i]? =some b:=⟨_,List.getElem?_eq_getElem h⟩
   have w2:IntKind.i64.wrap ((i:Int)+1)=((i+1:Nat):Int):=by rw[zaH (by omega) (by omega)];omega
   obtain⟨bb,m3,hcall,q1,q2⟩:=zt0 l hG (by omega) _ st m b.1 [.map none (za7 m),.box (some 5) (.pv (some 5) (bdp b))] 0 rfl rfl k1 k2 (fun o ho=>absurd ho (k3 o))
   simp only[List.set_cons_zero] at hcall
   cases bb with
   |true=>
    simp -dsimp -implicitDefEqProofs only[c52b10,c52b22,c52k23,go_sem,seval,↓reduceIte,zaP,hc,zaj (zba hb),zbK,hcall]
    exact znj fun h=>q1 rfl h.Acyc
   |false=>
    obtain⟨st3,r1,r2⟩:=q2 rfl
    simp -dsimp -implicitDefEqProofs only[c52b10,c52b22,c52k23,go_sem,seval,↓reduceIte,zaP,hc,zaj (zba hb),zbK,hcall,w2]
    refine⟨m3,⟨st3,r1,r2.inv,fun o ho=>k3 o ((r2.opn o).1 ho),fun j hj y hy=> ?_⟩,by rfl⟩
    rcases Nat.lt_or_ge j i with h|h
    ·exact r2.dn _ (k4 j h y hy)
    ·have:j=i:=by omega
     subst this
     rw[hb] at hy
     cases hy
     exact r2.me (zpW hG.1 hb).1
  ·rintro m ⟨st,k1,k2,k3,k4⟩
   have hc:¬(l.length:Int)<(l.length:Int):=by omega
   simp -dsimp -implicitDefEqProofs only[c52b10,c52b22,c52k23,go_sem,seval,↓reduceIte,zaP,hc]
   refine zug (zsc hG hrg (k2.acyc fun v hv=> ?_))
   have:=zc5 hv
   exact k4 _ (List.getElem?_eq_some_iff.1 this).1 _ this
def SzI(l:List B)(m:List (Int × PV)):Prop:=∃f:Int->Int,MapI m f/\∀v,f v≠0->fndB l v=true/\f v=((min (rs l (toB l v)).size 2001:Nat):Int)
theorem SzI.put{l:List B}{m:List (Int × PV)}(h:SzI l m){v:Int}(hf:fndB l v=true):SzI l (mPut v (.int .i64 ((min (rs l (toB l v)).size 2001:Nat):Int)) m):=by
 obtain⟨f,h1,h2⟩:=h
 refine⟨_,h1.put v _,fun w hw=> ?_⟩
 by_cases e:w=v
 ·subst e;simp[hf]
 ·simp only[if_neg e] at hw ⊢;exact h2 w hw
end Go.Proofs.YtiifblpdlphchaaGreatRR
