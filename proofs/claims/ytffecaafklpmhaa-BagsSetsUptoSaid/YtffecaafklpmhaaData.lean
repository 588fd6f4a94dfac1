/- What is proved: bags.Call. -/
import Derived.Test.YtffecaafklpmhaaCal1
import Derived.Test.YtffecaafklpmhaaSml
import Derived.Test.YtffecaafklpmhaaAm4
set_option linter.unusedSimpArgs false
set_option linter.unusedVariables false
namespace Go.Proofs.Ytffecaafklpmhaa
open Go.Am
def itm(nm:List UInt8)(l:List Tm):List Tm:=if nm=bagN then l else zfC l
def ansT(nm:List UInt8)(s g:Tm):Tm:=.mk 3 0 nm [zao g,s,lst (itm nm (els (zbk g)))]
theorem zsP(nm:List UInt8)(x y z:Tm)(hp:Heap):S 27 [.pv none (.str nm),.pv none (.sl (some 4) [x.pv,y.pv,z.pv])] hp=some (.ret (Tm.mk 3 0 nm [x,y,z]).av,hp):=by
 refine zam (ps:=[(none,.str nm),(none,.sl (some 4) [x.pv,y.pv,z.pv])]) rfl rfl rfl rfl rfl ?_
 have hb:zaP [(none,.pv none (.int .i64 0)),(none,.pv none (.int .i64 0)),(none,.pv none (.str [])),(none,.tsl (some 4) [])] [0,2,3] [.pv none (.int .i64 3),.pv none (.str nm),.pv none (.sl (some 4) [x.pv,y.pv,z.pv])]=some (.pv (some 4) (Tm.mk 3 0 nm [x,y,z]).pv):=rfl
 simp -dsimp -implicitDefEqProofs only[go_sem,seval,↓reduceIte,hb]
 try rfl
theorem zhc:∀(n:Nat) (t:Tm),t.size=n->Tm.sizes (els t)<=t.size:=by
 intro n
 induction n using Nat.strongRecOn with
 |_ n ih=>
  intro t hn
  by_cases h:cs t
  ·rw[zow h]
   have h1:=Tm.zwk (zb0 h.2.2)
   have h2:=ih _ (by omega) (arg1 t) rfl
   have h3:t.args=[arg0 t,arg1 t]:=by
    have e0:=zgp h.2.2
    have e1:=zgq h.2.2
    match t.args,h.2.2,e0,e1 with
    |[a,b],_,e0,e1=>simp at e0 e1;rw[e0,e1]
   have h4:=t.size_eq
   rw[h3] at h4
   simp only[Tm.sizes] at h4 ⊢
   omega
  ·rw[zox h]
   exact Nat.zero_le _
structure GrOk(g:Tm):Prop where
 pr:zaT g=true
 val:g.valid=true
set_option maxHeartbeats 4000000 in
theorem zig(goal s:Tm)(G:List Tm)(f:FuncId)(pnm:PV)(i:Nat)(hgs:goal.size<100000000)(hga:(Tm.pvs goal.args)[1]? =some s.pv)(hss:s.size<=2000)(hG:∀g∈G,GrOk g)(hGl:G.length<100000)
  (hf:∀l:List Tm,zaL l=true->Tm.sizes l<=2000->S f [.pv none (.sl (some 4) (Tm.pvs l))] []=some (.ret (.pv none (.sl (some 4) (Tm.pvs (itm goal.name l)))),[]))
  (hil:∀l:List Tm,zaL l=true->Tm.sizes l<=2000->(itm goal.name l).length<=l.length/\∀t∈itm goal.name l,t.valid=true)(Q:AExit->St->Prop)
  (hQ:(∀g∈G,(ansT goal.name s g).valid=true)->Q .normal ⟨[(1,.ptr 0 0),(2,.sl (some 4) 1 G.length 0 G.length),(3,.ptr 2 0),(7,.pv none (.sl (some 4) (Tm.pvs G))),(9,.ptr 4 0),(60,.pv none (.sl (some 2) predsP)),(61,.pv none (.int .i64 2)),(62,.pv none (.int .i64 i)),(71,.pv none (.sl (some 4) (Tm.pvs G))),(72,.pv none (.int .i64 G.length)),(73,.pv none (.int .i64 G.length)),(74,.pv none (.bool false))],
   [.box (some 4) (.pv (some 4) goal.pv),.arr (some 4) (Tm.pvs (G.map (ansT goal.name s))) false,.box (some 4) (.pv (some 4) zt.pv),.arr (some 4) [] false,.box (some 2) (.pv (some 2) (.agg [(none,pnm),(none,.func (.func f))]))]⟩)
  (hE:(¬∀g∈G,(ansT goal.name s g).valid=true)->∀(a0 a1:AObj) (X:Heap) (q k:Nat) (r:Fr),(a0::a1::.box (some 4) (zg k)::X)[q]? =some (.arr (some 4) [] false)->(a0::a1::.box (some 4) (zg k)::X)[k]? =some (.arr (some 4) [] false)->q≠k->Q .ret ⟨[(2,.sl (some 4) q 0 0 0),(3,.ptr 2 0),(4,.pv none (.int .i64 2))],a0::a1::.box (some 4) (zg k)::X⟩):
  W Z L 0 c6k34 ⟨[(1,.ptr 0 0),(2,.sl (some 4) 1 0 0 0),(3,.ptr 2 0),(7,.pv none (.sl (some 4) (Tm.pvs G))),(9,.ptr 4 0),(60,.pv none (.sl (some 2) predsP)),(61,.pv none (.int .i64 2)),(62,.pv none (.int .i64 i)),(71,.pv none (.sl (some 4) (Tm.pvs G))),(72,.pv none (.int .i64 G.length)),(73,.pv none (.int .i64 0))],
   [.box (some 4) (.pv (some 4) goal.pv),.arr (some 4) [] false,.box (some 4) (.pv (some 4) zt.pv),.arr (some 4) [] false,.box (some 2) (.pv (some 2) (.agg [(none,pnm),(none,.func (.func f))]))]⟩ Q:=by
 have hn0:∀H:Heap,zbs (some 4) H=some (.sl (some 4) H.length 0 0 0,H++[.arr (some 4) [] false]):=fun H=>zbe (sh:=some 4) (by decide)
 have hb0:zaP [(none,.pv none (.int .i64 0)),(none,.pv none (.int .i64 0)),(none,.pv none (.str [])),(none,.tsl (some 4) [])] [] []=some (.agg [(none,.pv none (.int .i64 0)),(none,.pv none (.int .i64 0)),(none,.pv none (.str [])),(none,.tsl (some 4) [])]):=rfl
 simp -dsimp -implicitDefEqProofs only[c6k34,go_sem,seval,↓reduceIte]
 refine zcK (α:=Unit) G.length (fun j _=>∀g∈G.take j,(ansT goal.name s g).valid=true) (fun j _=>⟨[(1,.ptr 0 0),(2,.sl (some 4) 1 j 0 j),(3,.ptr 2 0),(7,.pv none (.sl (some 4) (Tm.pvs G))),(9,.ptr 4 0),(60,.pv none (.sl (some 2) predsP)),(61,.pv none (.int .i64 2)),(62,.pv none (.int .i64 i)),(71,.pv none (.sl (some 4) (Tm.pvs G))),(72,.pv none (.int .i64 G.length)),(73,.pv none (.int .i64 j))],
   [.box (some 4) (.pv (some 4) goal.pv),.arr (some 4) (Tm.pvs ((G.take j).map (ansT goal.name s))) false,.box (some 4) (.pv (some 4) zt.pv),.arr (some 4) [] false,.box (some 2) (.pv (some 2) (.agg [(none,pnm),(none,.func (.func f))]))]⟩) () ⟨fun g hg=>(by cases hg),rfl⟩ ?_ ?_
 ·rintro j - hj hall
  have hc:(j:Int)<(G.length:Int):=by omega
  obtain⟨g,hg⟩:∃g,G[j]? =some g:=⟨_,List.getElem?_eq_getElem hj⟩
  have hgo:=hG g (List.mem_of_getElem? hg)
  obtain⟨g0,g1,hgi⟩:=ze5 hgo.pr
  have hiv:=zil hgo.pr hgo.val
  have hgg:=zac (sh:=some 4) (s:=none) (s':=none) (k:=.i64) (Tm.pvs_get hg)
  have q1:=zac (sh:=some 4) (s:=none) (s':=none) (k:=.i64) g1
  have q2:=zac (sh:=some 4) (s:=none) (s':=none) (k:=.i64) hga
  simp only[show((1:Nat):Int)=1 from rfl] at q1 q2
  have hel:=fun hp=>zhj (zbk g) hiv hp
  have hev:zaL (els (zbk g))=true:=List.all_eq_true.2 fun x hx=>elsv _ _ rfl hiv x hx
  have hes:Tm.sizes (els (zbk g))<=2000:=Nat.le_trans (zhc _ _ rfl) (valid_size hiv)
  have hff:=hf _ hev hes
  obtain⟨hil1,hil2⟩:=hil _ hev hes
  have hesl:=Tm.zwj (els (zbk g))
  have hst:=fun hp=>zm4 (itm goal.name (els (zbk g))) (by omega) hp
  have h3:∀hp,S 27 [.pv none (.str goal.name),.pv none (.sl (some 4) [(zao g).pv,s.pv,(lst (itm goal.name (els (zbk g)))).pv])] hp=some (.ret (ansT goal.name s g).av,hp):=fun hp=>zsP goal.name (zao g) s _ hp
  have hks:=valid_size (zaJ hgo.val (zfJ hgo.pr))
  have hls:=zhn (itm goal.name (els (zbk g))) 2000 fun t ht=>valid_size (hil2 t ht)
  have hasz:(ansT goal.name s g).size=1+((zao g).size+(s.size+(lst (itm goal.name (els (zbk g)))).size)):=by
   show 1+((zao g).size+(s.size+((lst (itm goal.name (els (zbk g)))).size+0)))=_
   omega
  have h4:=fun hp=>za9 (ansT goal.name s g) hp (by omega)
  have hjm:(Tm.pvs ((G.take j).map (ansT goal.name s))).length=j:=by rw[Tm.pvs_len,List.length_map,List.length_take];omega
  have hlim:j+1<=lim:=by unfold lim;omega
  have hap:Tm.pvs ((G.take j).map (ansT goal.name s))++[(ansT goal.name s g).pv]=Tm.pvs ((G.take (j+1)).map (ansT goal.name s)):=by rw[List.take_add_one,hg];simp[Tm.zwn];rfl
  have w2:IntKind.i64.wrap ((j:Int)+1)=((j+1:Nat):Int):=by rw[zaq (by omega) (by omega)];omega
  have hpp:PV.part deep (.agg [(none,pnm),(none,.func (.func f))]) 1 none=some (.func (.func f)):=rfl
  simp only[Tm.av] at hel hst h3 h4
  cases hva:(ansT goal.name s g).valid with
  |true=>
   rw[hva] at h4
   have h5:=fun hp=>zbL (ansT goal.name s g) hp hva (by omega)
   simp only[Tm.av] at h5
   have hall2:∀x∈G.take (j+1),(ansT goal.name s x).valid=true:=fun x hx=>by
    rw[List.take_add_one,hg] at hx
    rcases List.mem_append.1 hx with hx|hx
    ·exact hall x hx
    ·have:x=g:=by simpa using hx
     rw[this];exact hva
   simp -dsimp -implicitDefEqProofs only[c6k34,go_sem,seval,↓reduceIte,hn0,hc,hgg,zad,zan,zaR g0,q1,q2,hel,hpp,hff,hst,h3,h4,h5,hjm,hlim,hap,w2]
   refine⟨(),hall2,?_⟩
   rw[zc3 (by simp[AObj.refs,AV.refsIn]) (by simp[AV.refsIn])]
   rfl
  |false=>
   rw[hva] at h4
   have hnot:¬∀g∈G,(ansT goal.name s g).valid=true:=fun h=>by
    have:=h g (List.mem_of_getElem? hg)
    rw[hva] at this
    cases this
   simp -dsimp -implicitDefEqProofs only[c6k34,go_sem,seval,↓reduceIte,hn0,hb0,hc,hgg,zad,zan,zaR g0,q1,q2,hel,hpp,hff,hst,h3,h4,zae (Nat.zero_le _)]
   exact hE hnot _ _ _ 11 12 [] rfl rfl (by decide)
 ·rintro - hall
  rw[List.take_length] at hall
  have hc:¬(G.length:Int)<(G.length:Int):=by omega
  rw[List.take_length]
  simp -dsimp -implicitDefEqProofs only[c6k34,go_sem,seval,↓reduceIte,hc]
  exact hQ hall
noncomputable def zcP(goal:Tm):List Tm × Tm × Int:=
 if goal.valid=true/\same goal (canR goal)=true then
  if goal.kind=3/\goal.args.length=3/\(goal.name=bagN\/goal.name=setN) then
   if(za7 (arg1 goal)).2.2=true then
    if(zaY (za7 (arg1 goal)).1).2=0 then
     if ∀g∈(zaY (za7 (arg1 goal)).1).1,(ansT goal.name (arg1 goal) g).valid=true then((zaY (za7 (arg1 goal)).1).1.map (ansT goal.name (arg1 goal)),zt,0) else([],zt,2)
    else([],zt,(zaY (za7 (arg1 goal)).1).2)
   else([],(za7 (arg1 goal)).2.1,8)
  else([],zt,4)
 else([],zt,1)
theorem zb1{l:List Tm}{e:Int}{H:Heap}{q r:Nat}{fz:Bool}(h:H[q]? =some (.arr (some 4) (Tm.pvs l) fz))(h2:H[r]? =some (.arr (some 4) [] false))(hn:q≠r):Am.frozen (.tuple [.pv none (.sl (some 4) (Tm.pvs l)),.pv (some 4) zt.pv,.pv none (.int .i64 e)]) (.tuple [.sl (some 4) q l.length 0 l.length,zg r,.pv none (.int .i64 e)]) H:=by
 refine⟨(H.set q (.arr (some 4) (Tm.pvs l) true)).set r (.arr (some 4) [] true),?_⟩
 have e:∀l hp,AV.freeze (7+1) (.agg l) hp=match AV.freeze.go 7 l hp with|some (ps,hp')=>some (.agg ps,hp')|none=>none:=fun _ _=>rfl
 have h3:(H.set q (.arr (some 4) (Tm.pvs l) true))[r]? =some (.arr (some 4) [] false):=by rw[List.getElem?_set_ne hn];exact h2
 simp[AV.freezeRes,zal,AV.freeze,deep,Tm.pvs_len,pvs,AV.shp,h,zg,e,AV.freeze.go,h3]
 exact⟨rfl,rfl⟩
theorem zq0{l:List Tm}{b:Tm}{e:Int}{H:Heap}{q:Nat}{fz:Bool}(h:H[q]? =some (.arr (some 4) (Tm.pvs l) fz)):Am.frozen (.tuple [.pv none (.sl (some 4) (Tm.pvs l)),.pv (some 4) b.pv,.pv none (.int .i64 e)]) (.tuple [.sl (some 4) q l.length 0 l.length,.pv (some 4) b.pv,.pv none (.int .i64 e)]) H:=by
 refine⟨H.set q (.arr (some 4) (Tm.pvs l) true),?_⟩
 have e2:∀p hp,AV.freeze deep (.pv (some 4) p) hp=some (p,hp):=fun _ _=>rfl
 simp[AV.freezeRes,zal,e2,AV.freeze,deep,Tm.pvs_len,pvs,AV.shp,h]
theorem zga(t:Tm)(hz:(za7 t).2.2=true):(∀x∈(za7 t).1,x.valid=true)/\(za7 t).1.length<=t.size/\Tm.sizes (za7 t).1<=t.size/\(za7 t).2.1=zt:=by
 unfold za7 at hz ⊢
 split
 ·rename_i h
  rw[if_pos h] at hz
  cases hf:zcc (zcO t).1 with
  |some b=>rw[hf] at hz;cases hz
  |none=>
   have h1:=zeq t
   refine⟨h1.1,h1.2,?_,rfl⟩
   show Tm.sizes (zcO t).1<=_
   unfold zcO at h ⊢
   split
   ·split
    ·exact Nat.zero_le _
    ·split
     ·exact zhc _ t rfl
     ·exact Nat.zero_le _
   ·exact Nat.zero_le _
 ·rename_i h
  rw[if_neg h] at hz
  cases hz
theorem zih:∀(n:Nat) (l G:List Tm),grps n l=some G->∀g∈G,zaT g=true
 |_,[],G,h=>by rw[grps] at h;cases h;exact fun g hg=>by cases hg
 |0,_::_,G,h=>by rw[grps] at h;cases h;exact fun g hg=>by cases hg
 |n+1,p::r,G,h=>by
  rw[grps] at h
  cases ht:grp p (r.filter fun q=>vari (zao q) (zao p)) with
  |none=>rw[ht] at h;cases h
  |some t=>
   rw[ht] at h
   cases e:grps n (r.filter fun q=> !vari (zao q) (zao p)) with
   |none=>rw[e] at h;cases h
   |some g'=>
    rw[e] at h
    cases h
    intro u hu
    rcases List.mem_cons.1 hu with rfl|hu
    ·unfold grp at ht
     split at ht
     ·cases ht
     ·split at ht
      ·cases ht;rfl
      ·cases ht
    ·exact zih n _ g' e u hu
theorem zii(ts:List Tm):∀g∈(zaY ts).1,GrOk g:=fun g hg=>by
 refine⟨?_,zje ts g hg⟩
 unfold zaY at hg
 split at hg
 ·cases h:grps (zbG ts).length (zbG ts) with
  |some l=>rw[h] at hg;exact zih _ _ _ h g hg
  |none=>rw[h] at hg;cases hg
 ·cases hg
theorem zsQ(l:List Tm)(hv:zaL l=true):(zfC l).length<=l.length/\∀t∈zfC l,t.valid=true:=by
 have h1:=zeY (isort Tm.cmp l)
 rw[zaw] at h1
 refine⟨h1,fun t ht=> ?_⟩
 have h2:t∈isort Tm.cmp l:=mem_dd.1 ht
 exact zbl hv ((zbv l).mem_iff.1 h2)
set_option maxHeartbeats 4000000 in
theorem zmV(goal:Tm)(ht:goal.size<100000000)(hp:Heap):S 6 [goal.av] hp=some (.ret (.tuple [.pv none (.sl (some 4) (Tm.pvs (zcP goal).1)),(zcP goal).2.1.av,.pv none (.int .i64 (zcP goal).2.2)]),hp):=by
 refine zam rfl rfl rfl (zab [(some 4,goal.pv)]) rfl ?_
 have h1:=fun hp=>za9 goal hp (by omega)
 have hn0:∀H:Heap,zbs (some 4) H=some (.sl (some 4) H.length 0 0 0,H++[.arr (some 4) [] false]):=fun H=>zbe (sh:=some 4) (by decide)
 have hb0:zaP [(none,.pv none (.int .i64 0)),(none,.pv none (.int .i64 0)),(none,.pv none (.str [])),(none,.tsl (some 4) [])] [] []=some (.agg [(none,.pv none (.int .i64 0)),(none,.pv none (.int .i64 0)),(none,.pv none (.str [])),(none,.tsl (some 4) [])]):=rfl
 simp only[Tm.av] at h1
 by_cases hv:goal.valid=true
 rotate_left
 ·have e:zcP goal=([],zt,1):=by unfold zcP;rw[if_neg (fun h=>hv h.1)]
  have hv':goal.valid=false:=by simpa using hv
  rw[e]
  rw[hv'] at h1
  simp -dsimp -implicitDefEqProofs only[go_sem,seval,↓reduceIte,Tm.av,h1,hn0,hb0,zae (Nat.zero_le _)]
  exact zb1 (l:=[]) (q:=4) (r:=5) (fz:=false) rfl rfl (by decide)
 have hgsz:=valid_size hv
 have h2:=fun hp=>ze2 goal hp (by omega)
 have hcv:canR goal=canT goal:=by unfold canR;rw[if_pos hv]
 have hcsz:=zhA hv
 have h3:=fun hp=>zjl goal (canR goal) hp (by omega) (by rw[hcv];omega)
 simp only[Tm.av] at h2 h3
 rw[hv] at h1
 cases hsm:same goal (canR goal) with
 |false=>
  have e:zcP goal=([],zt,1):=by unfold zcP;rw[if_neg (fun h=>by rw[hsm] at h;cases h.2)]
  rw[e]
  rw[hsm] at h3
  simp -dsimp -implicitDefEqProofs only[go_sem,seval,↓reduceIte,Tm.av,h1,h2,h3,hn0,hb0,zae (Nat.zero_le _)]
  exact zb1 (l:=[]) (q:=4) (r:=5) (fz:=false) rfl rfl (by decide)
 |true=>
  rw[hsm] at h3
  have e0:zcP goal=if goal.kind=3/\goal.args.length=3/\(goal.name=bagN\/goal.name=setN) then
   if(za7 (arg1 goal)).2.2=true then
    if(zaY (za7 (arg1 goal)).1).2=0 then
     if ∀g∈(zaY (za7 (arg1 goal)).1).1,(ansT goal.name (arg1 goal) g).valid=true then((zaY (za7 (arg1 goal)).1).1.map (ansT goal.name (arg1 goal)),zt,0) else([],zt,2)
    else([],zt,(zaY (za7 (arg1 goal)).1).2)
   else([],(za7 (arg1 goal)).2.1,8)
  else([],zt,4):=by unfold zcP;rw[if_pos ⟨hv,hsm⟩]
  rw[e0]
  by_cases hk3:goal.kind=3
  rotate_left
  ·rw[if_neg (fun h=>hk3 h.1)]
   simp -dsimp -implicitDefEqProofs only[go_sem,seval,↓reduceIte,Tm.av,h1,h2,h3,zak,zan,zad,Tm.pvs_len,eq_false hk3,hn0,hb0,zae (Nat.zero_le _)]
   exact zb1 (l:=[]) (q:=4) (r:=5) (fz:=false) rfl rfl (by decide)
  have hhas:=fun hp=>zuq goal.name goal.args.length hp
  by_cases hh:goal.args.length=3/\(goal.name=bagN\/goal.name=setN)
  rotate_left
  ·rw[if_neg (fun h=>hh h.2)]
   rw[decide_eq_false hh] at hhas
   simp -dsimp -implicitDefEqProofs only[go_sem,seval,↓reduceIte,Tm.av,h1,h2,h3,zak,zan,zad,Tm.pvs_len,eq_true hk3,hhas,hn0,hb0,zae (Nat.zero_le _)]
   exact zb1 (l:=[]) (q:=4) (r:=5) (fz:=false) rfl rfl (by decide)
  rw[if_pos ⟨hk3,hh⟩]
  rw[decide_eq_true hh] at hhas
  have hga:(Tm.pvs goal.args)[1]? =some (arg1 goal).pv:=by
   refine Tm.pvs_get ?_
   match goal,hh.1 with
   | .mk k n s [a,b,c],_=>rfl
  have ham:arg1 goal∈goal.args:=by
   match goal,hh.1 with
   | .mk k n s [a,b,c],_=>simp[arg1,Tm.args]
  have hav:=zaJ hv ham
  have hasz:=valid_size hav
  have q1:=zac (sh:=some 4) (s:=none) (s':=none) (k:=.i64) hga
  simp only[show((1:Nat):Int)=1 from rfl] at q1
  have h4:=fun hp=>ztc (arg1 goal) (by omega) hp
  simp only[Tm.av] at h4
  have hpf:=zga (arg1 goal)
  generalize za7 (arg1 goal)=PR at*
  obtain⟨l,ball,ok⟩:=PR
  dsimp only at h4 hpf ⊢
  cases ok with
  |false=>
   rw[if_neg (by simp)]
   simp -dsimp -implicitDefEqProofs only[go_sem,seval,↓reduceIte,Tm.av,h1,h2,h3,zak,zan,zad,Tm.pvs_len,eq_true hk3,hhas,q1,h4,hn0,hb0,zae (Nat.zero_le _)]
   exact zq0 (l:=[]) (q:=4) (fz:=false) rfl
  |true=>
   rw[if_pos rfl]
   obtain⟨f1,f2,f3,rfl⟩:=hpf rfl
   have h5:=zoB l (by omega) (by omega) (fun _=>by omega)
   have hgo:=zii l
   have hgl:=zhl l
   generalize zaY l=GR at*
   obtain⟨G,e⟩:=GR
   dsimp only at h5 hgo hgl ⊢
   by_cases he:e=0
   rotate_left
   ·rw[if_neg he]
    simp -dsimp -implicitDefEqProofs only[go_sem,seval,↓reduceIte,Tm.av,h1,h2,h3,zak,zan,zad,Tm.pvs_len,eq_true hk3,hhas,q1,h4,h5,eq_false he,hn0,hb0,zae (Nat.zero_le _)]
    exact zb1 (l:=[]) (q:=4) (r:=5) (fz:=false) rfl rfl (by decide)
   rw[if_pos he]
   have h6:=fun hp=>zsO hp
   obtain⟨A,hA⟩:∃A:Prop,A=∀g∈G,(ansT goal.name (arg1 goal) g).valid=true:=⟨_,rfl⟩
   obtain⟨R,hR⟩:∃R:List Tm × Tm × Int,R=if ∀g∈G,(ansT goal.name (arg1 goal) g).valid=true then(G.map (ansT goal.name (arg1 goal)),zt,0) else([],zt,2):=⟨_,rfl⟩
   rw[<-hR]
   have hRt:A->R=(G.map (ansT goal.name (arg1 goal)),zt,0):=fun h=>by rw[hR,if_pos (by rw[hA] at h;exact h)]
   have hRf:¬A->R=([],zt,2):=fun h=>by rw[hR,if_neg (by rw[hA] at h;exact h)]
   clear hR
   simp -dsimp -implicitDefEqProofs only[go_sem,seval,↓reduceIte,Tm.av,h1,h2,h3,zak,zan,zad,Tm.pvs_len,eq_true hk3,hhas,q1,h4,h5,eq_true he,h6,hn0]
   have hn1:¬bagN=setN:=by decide
   have hn2:¬setN=bagN:=by decide
   have i0:predsP[0]? =some (.agg [(none,.str bagN),(none,.func (.func 56))]):=rfl
   have i1:predsP[1]? =some (.agg [(none,.str setN),(none,.func (.func 57))]):=rfl
   have j0:=zaR (sh:=some 2) (s:=none) (s':=none) (k:=.i64) i0
   have j1:=zac (sh:=some 2) (s:=none) (s':=none) (k:=.i64) i1
   simp only[show((1:Nat):Int)=1 from rfl] at j1
   have hpl:((predsP.length:Nat):Int)=2:=rfl
   have hp1:∀(n:List UInt8) (f:FuncId),PV.part deep (.agg [(none,.str n),(none,.func (.func f))]) 0 none=some (.str n):=fun _ _=>rfl
   rcases hh.2 with hnm|hnm
   ·refine zcK (α:=List Tm) 2 (fun i D=>(i=0->D=[])/\(0<i->D=G.map (ansT goal.name (arg1 goal))/\A)) (fun i D=>⟨[(1,.ptr 0 0),(2,.sl (some 4) 1 D.length 0 D.length),(3,.ptr 2 0),(7,.pv none (.sl (some 4) (Tm.pvs G))),(60,.pv none (.sl (some 2) predsP)),(61,.pv none (.int .i64 2)),(62,.pv none (.int .i64 i))],[.box (some 4) (.pv (some 4) goal.pv),.arr (some 4) (Tm.pvs D) false,.box (some 4) (.pv (some 4) zt.pv),.arr (some 4) [] false]⟩) [] ⟨⟨fun _=>rfl,fun h=>by omega⟩,rfl⟩ ?_ ?_
    ·rintro i D hi ⟨d0,d1⟩
     have hi2:i=0\/i=1:=by omega
     rcases hi2 with rfl|rfl
     ·rw[d0 rfl]
      have hne:=eq_true (show bagN=goal.name from hnm.symm)
      simp -dsimp -implicitDefEqProofs only[go_sem,seval,↓reduceIte,show((0:Nat):Int)=0 from rfl,show(0:Int)<2 from by decide,j0,hp1,zan,hne,Tm.pvs_len,hn0]
      have hit:∀l,itm goal.name l=l:=fun l=>by unfold itm;rw[if_pos hnm]
      refine zig goal (arg1 goal) G 56 (.str bagN) 0 (by omega) hga hasz hgo (by omega) (fun l _ _=>by rw[hit];exact zvh l []) (fun l hv _=>by rw[hit];exact⟨Nat.le_refl _,fun t ht=>zbl hv ht⟩) _ (fun hall=> ?_) fun hno a0 a1 X q k _ hx1 hx2 hqk=> ?_
      ·simp -dsimp -implicitDefEqProofs only[go_sem,seval,↓reduceIte]
       refine⟨G.map (ansT goal.name (arg1 goal)),⟨fun h=>(by cases h),fun _=>⟨rfl,by rw[hA];exact hall⟩⟩,?_⟩
       rw[zc3 (by simp[AObj.refs,AV.refsIn]) (by simp[AV.refsIn]),List.length_map]
       rfl
      ·rw[hRf (by rw[hA];exact hno)]
       exact zb1 (l:=[]) (q:=q) (r:=k) (fz:=false) hx1 hx2 hqk
     ·obtain⟨e1,hAt⟩:=d1 (by omega)
      have hne:=eq_false (show ¬setN=goal.name from fun h=>hn2 (h.trans hnm))
      simp -dsimp -implicitDefEqProofs only[go_sem,seval,↓reduceIte,show((1:Nat):Int)=1 from rfl,show(1:Int)<2 from by decide,j1,hp1,zan,hne,hn0]
      refine⟨D,⟨fun h=>h.elim,fun _=>⟨e1,hAt⟩⟩,?_⟩
      rw[zc3 (by simp[AObj.refs,AV.refsIn]) (by simp[AV.refsIn])]
      rfl
    ·rintro D ⟨_,d1⟩
     obtain⟨e1,hAt⟩:=d1 (by omega)
     rw[hRt hAt,e1]
     simp -dsimp -implicitDefEqProofs only[go_sem,seval,↓reduceIte,show((2:Nat):Int)=2 from rfl,show ¬(2:Int)<2 from by decide,hn0,hb0,zae (Nat.zero_le _)]
     exact zb1 (l:=G.map (ansT goal.name (arg1 goal))) (q:=1) (r:=4) (fz:=false) rfl rfl (by decide)
   ·refine zcK (α:=List Tm) 2 (fun i D=>(i<2->D=[])/\(i=2->D=G.map (ansT goal.name (arg1 goal))/\A)) (fun i D=>⟨[(1,.ptr 0 0),(2,.sl (some 4) 1 D.length 0 D.length),(3,.ptr 2 0),(7,.pv none (.sl (some 4) (Tm.pvs G))),(60,.pv none (.sl (some 2) predsP)),(61,.pv none (.int .i64 2)),(62,.pv none (.int .i64 i))],[.box (some 4) (.pv (some 4) goal.pv),.arr (some 4) (Tm.pvs D) false,.box (some 4) (.pv (some 4) zt.pv),.arr (some 4) [] false]⟩) [] ⟨⟨fun _=>rfl,fun h=>by omega⟩,rfl⟩ ?_ ?_
    ·rintro i D hi ⟨d0,d1⟩
     have hi2:i=0\/i=1:=by omega
     rcases hi2 with rfl|rfl
     ·rw[d0 (by omega)]
      have hne:=eq_false (show ¬bagN=goal.name from fun h=>hn1 (h.trans hnm))
      simp -dsimp -implicitDefEqProofs only[go_sem,seval,↓reduceIte,show((0:Nat):Int)=0 from rfl,show(0:Int)<2 from by decide,j0,hp1,zan,hne,Tm.pvs_len,hn0]
      refine⟨[],⟨fun _=>rfl,fun h=>(by cases h)⟩,?_⟩
      rw[zc3 (by simp[AObj.refs,AV.refsIn]) (by simp[AV.refsIn])]
      rfl
     ·rw[d0 (by omega)]
      have hne:=eq_true (show setN=goal.name from hnm.symm)
      simp -dsimp -implicitDefEqProofs only[go_sem,seval,↓reduceIte,show((1:Nat):Int)=1 from rfl,show(1:Int)<2 from by decide,j1,hp1,zan,hne,Tm.pvs_len,hn0]
      have hit:∀l,itm goal.name l=zfC l:=fun l=>by unfold itm;rw[if_neg (by rw[hnm];exact hn2)]
      refine zig goal (arg1 goal) G 57 (.str setN) 1 (by omega) hga hasz hgo (by omega) (fun l hv hl=>by rw[hit];exact zvi l hv (by omega) []) (fun l hv _=>by rw[hit];exact zsQ l hv) _ (fun hall=> ?_) fun hno a0 a1 X q k _ hx1 hx2 hqk=> ?_
      ·simp -dsimp -implicitDefEqProofs only[go_sem,seval,↓reduceIte]
       refine⟨G.map (ansT goal.name (arg1 goal)),⟨(by intro h;simp at h),fun _=>⟨rfl,by rw[hA];exact hall⟩⟩,?_⟩
       rw[zc3 (by simp[AObj.refs,AV.refsIn]) (by simp[AV.refsIn]),List.length_map]
       rfl
      ·rw[hRf (by rw[hA];exact hno)]
       exact zb1 (l:=[]) (q:=q) (r:=k) (fz:=false) hx1 hx2 hqk
    ·rintro D ⟨_,d1⟩
     obtain⟨e1,hAt⟩:=d1 rfl
     rw[hRt hAt,e1]
     simp -dsimp -implicitDefEqProofs only[go_sem,seval,↓reduceIte,show((2:Nat):Int)=2 from rfl,show ¬(2:Int)<2 from by decide,hn0,hb0,zae (Nat.zero_le _)]
     exact zb1 (l:=G.map (ansT goal.name (arg1 goal))) (q:=1) (r:=4) (fz:=false) rfl rfl (by decide)
def bG(nm:List UInt8)(A:List Tm):Tm:=.mk 3 0 nm A
def zco(nm:List UInt8)(w s l:Tm):Tm:=if(bG nm [w,s,l]).valid=true then bG nm [w,s,l] else zt
theorem zjk(A:List Tm):(bG bagN A).valid=(bG setN A).valid:=by
 have h1:(bG bagN A).fits=(bG setN A).fits:=by rw[Tm.zwq,Tm.zwq];rfl
 have h2:(bG bagN A).size=(bG setN A).size:=by rw[Tm.size_eq,Tm.size_eq];rfl
 unfold Tm.valid
 rw[h1,h2]
def canA(A:List Tm):List Tm:=A.map (Tm.sub (cPos (vads [] (Tm.occs A))))
theorem zvM(nm:List UInt8)(A:List Tm):(bG nm A).occ=Tm.occs A:=by
 unfold bG
 rw[Tm.occ]
 simp
theorem znb(nm:List UInt8)(A:List Tm):canT (bG nm A)=bG nm (canA A):=by
 unfold canT canA
 rw[zvM]
 exact zhh (t:=bG nm A) (show ¬(3:Int)=0 from by decide)
theorem same_iff{a b:Tm}:same a b=true↔a.valid=true/\a=b:=by
 constructor
 ·intro h
  refine⟨?_,zuG h⟩
  unfold same at h
  simp only[Bool.and_eq_true] at h
  exact h.1
 ·rintro⟨h,rfl⟩
  exact zdR h
open Classical in
theorem znc{nm:List UInt8}(hn:nm=bagN\/nm=setN){A:List Tm}(h3:A.length=3):zcP (bG nm A)=
  if(bG bagN A).valid=true/\A=canA A then
   if(za7 (arg1 (bG bagN A))).2.2=true then
    if(zaY (za7 (arg1 (bG bagN A))).1).2=0 then
     if ∀g∈(zaY (za7 (arg1 (bG bagN A))).1).1,(ansT nm (arg1 (bG bagN A)) g).valid=true then((zaY (za7 (arg1 (bG bagN A))).1).1.map (ansT nm (arg1 (bG bagN A))),zt,0) else([],zt,2)
    else([],zt,(zaY (za7 (arg1 (bG bagN A))).1).2)
   else([],(za7 (arg1 (bG bagN A))).2.1,8)
  else([],zt,1):=by
 have hv:(bG nm A).valid=(bG bagN A).valid:=by
  rcases hn with rfl|rfl
  ·rfl
  ·exact(zjk A).symm
 have ha:arg1 (bG nm A)=arg1 (bG bagN A):=rfl
 have hc:((bG nm A).valid=true/\same (bG nm A) (canR (bG nm A))=true)↔((bG bagN A).valid=true/\A=canA A):=by
  rw[hv]
  constructor
  ·rintro⟨h1,h2⟩
   have h4:=(same_iff.1 h2).2
   rw[canR,if_pos (by rw[hv];exact h1),znb] at h4
   exact⟨h1,by injection h4⟩
  ·rintro⟨h1,h2⟩
   refine⟨h1,same_iff.2 ⟨by rw[hv];exact h1,?_⟩⟩
   rw[canR,if_pos (by rw[hv];exact h1),znb,<-h2]
 have h5:(bG nm A).kind=3/\(bG nm A).args.length=3/\((bG nm A).name=bagN\/(bG nm A).name=setN):=⟨rfl,h3,hn⟩
 unfold zcP
 rw[if_pos h5,ha]
 by_cases hx:(bG bagN A).valid=true/\A=canA A
 ·rw[if_pos hx,if_pos (hc.2 hx)]
  rfl
 ·rw[if_neg hx,if_neg fun h=>hx (hc.1 h)]
theorem zoN(t:Tm):(zcO t).2.1.valid=true:=by
 have hz:zt.valid=true:=by decide
 unfold zcO
 split
 ·rename_i hv
  split
  ·exact zen
  ·split
   ·exact hz
   ·exact(zhk (by decide) hv).2
 ·exact hz
theorem zmd(t:Tm):(za7 t).2.1.valid=true:=by
 have hz:zt.valid=true:=by decide
 unfold za7
 split
 ·cases hf:zcc (zcO t).1 with
  |none=>exact hz
  |some b=>
   have hl:=(zeq t).1
   generalize (zcO t).1=l at hf hl
   induction l with
   |nil=>rw[zcc] at hf;cases hf
   |cons p r ih=>
    rw[zcc] at hf
    split at hf
    ·cases hf;exact zen
    ·split at hf
     ·exact ih hf fun x hx=>hl x (List.mem_cons_of_mem _ hx)
     ·cases hf;exact(zhk (by decide) (hl p List.mem_cons_self)).2
 ·exact zoN t
structure SetsOk(R1 R2:List Tm × Tm × Int)(s:Tm)(G:List Tm):Prop where
 gr:∀g∈G,GrOk g/\(ansT bagN s g).valid=true/\(ansT setN s g).valid=true
 e1:R1.1=G.map (ansT bagN s)
 e2:R2.1=G.map (ansT setN s)
 e3:R1.2=R2.2
 ball:R1.2.1.valid=true
 len:G.length<=1000000
theorem SetsOk.mk0{s:Tm}(b:Tm)(e:Int)(h:b.valid=true):SetsOk ([],b,e) ([],b,e) s []:=⟨fun g hg=>(by cases hg),rfl,rfl,rfl,h,Nat.zero_le _⟩
theorem zoO(w s l:Tm):(zcP (canR (zco bagN w s l))).2.2=2\/(zcP (canR (zco setN w s l))).2.2=2\/∃u G,SetsOk (zcP (canR (zco bagN w s l))) (zcP (canR (zco setN w s l))) u G:=by
 have hz:zt.valid=true:=by decide
 by_cases hv:(bG bagN [w,s,l]).valid=true
 rotate_left
 ·have hv2:¬(bG setN [w,s,l]).valid=true:=by rw[<-zjk];exact hv
  unfold zco
  rw[if_neg hv,if_neg hv2]
  refine .inr (.inr ⟨zt,[],?_⟩)
  have e:zcP (canR zt)=([],(zcP (canR zt)).2.1,(zcP (canR zt)).2.2)/\(zcP (canR zt)).2.1.valid=true:=by
   have hk:¬((canR zt).kind=3/\(canR zt).args.length=3/\((canR zt).name=bagN\/(canR zt).name=setN)):=by
    have:(canR zt).kind=0:=by unfold canR;rw[if_pos hz];rfl
    intro h;rw[this] at h;cases h.1
   unfold zcP
   split
   ·exact⟨rfl,hz⟩
   ·exact⟨rfl,hz⟩
  rw[e.1]
  exact SetsOk.mk0 _ _ e.2
 have hv2:(bG setN [w,s,l]).valid=true:=by rw[<-zjk];exact hv
 unfold zco
 rw[if_pos hv,if_pos hv2,canR,if_pos hv,canR,if_pos hv2,znb,znb]
 have h3:(canA [w,s,l]).length=3:=by unfold canA;rw[List.length_map];rfl
 generalize canA [w,s,l]=A at h3
 rw[znc (.inl rfl) h3,znc (.inr rfl) h3]
 by_cases hx:(bG bagN A).valid=true/\A=canA A
 rotate_left
 ·rw[if_neg hx,if_neg hx]
  exact .inr (.inr ⟨zt,[],SetsOk.mk0 _ _ hz⟩)
 rw[if_pos hx,if_pos hx]
 have hu:(arg1 (bG bagN A)).size<=2000:=by
  refine valid_size (zaJ hx.1 ?_)
  match A,h3 with
  |[a,b,c],_=>simp[arg1,Tm.args,bG]
 generalize arg1 (bG bagN A)=u at hu
 have hpb:=zmd u
 have hpf:=zga u
 generalize za7 u=PR at*
 obtain⟨ls,ball,ok⟩:=PR
 dsimp only at*
 by_cases hok:ok=true
 rotate_left
 ·rw[if_neg hok,if_neg hok]
  exact .inr (.inr ⟨zt,[],SetsOk.mk0 _ _ hpb⟩)
 rw[if_pos hok,if_pos hok]
 obtain⟨_,f2,_,_⟩:=hpf hok
 have hgo:=zii ls
 have hgl:=zhl ls
 generalize zaY ls=GR at*
 obtain⟨G,e⟩:=GR
 dsimp only at*
 by_cases he:e=0
 rotate_left
 ·rw[if_neg he,if_neg he]
  exact .inr (.inr ⟨zt,[],SetsOk.mk0 _ _ hz⟩)
 rw[if_pos he,if_pos he]
 by_cases a1:∀g∈G,(ansT bagN u g).valid=true
 rotate_left
 ·rw[if_neg a1]
  exact .inl rfl
 by_cases a2:∀g∈G,(ansT setN u g).valid=true
 rotate_left
 ·rw[if_neg a2]
  exact .inr (.inl rfl)
 rw[if_pos a1,if_pos a2]
 exact .inr (.inr ⟨u,G,fun g hg=>⟨hgo g hg,a1 g hg,a2 g hg⟩,rfl,rfl,rfl,hz,by omega⟩)
theorem zis(nm:List UInt8)(w s l:Tm):(canR (zco nm w s l)).size<=2000:=by
 have hv:(zco nm w s l).valid=true:=by
  unfold zco
  split
  ·assumption
  ·decide
 rw[canR,if_pos hv,zhA hv]
 exact valid_size hv
def tP(k n:Int)(s:List UInt8)(l:List PV):PV:=.agg [(none,.int .i64 k),(none,.int .i64 n),(none,.str s),(none,.sl (some 4) l)]
theorem fok0:FactsOk (find tab) prim []:=.nil
def fq0:List (Sh × PV):=[((some 4),(tP 2 0 [97] []))]
def fv0:AV:=(.pv (some 4) (tP 2 0 [97] []))
theorem ff0:resV (sem (find tab) prim .fn 7 (pvs fq0) [])=some fv0:=zbn (n:=60) fok0 (by kernel_rfl)
def fK1:Facts:=(7,fq0,fv0)::[]
theorem fok1:FactsOk (find tab) prim fK1:=.cons (by kernel_rfl) ff0 fok0
def fq1:List (Sh × PV):=[((some 4),(tP 2 0 [97] [])),((some 4),(tP 2 0 [97] []))]
def fv1:AV:=(.pv none (.bool true))
theorem ff1:resV (sem (find tab) prim .fn 47 (pvs fq1) [])=some fv1:=zbn (n:=60) fok1 (by kernel_rfl)
def fK2:Facts:=(47,fq1,fv1)::fK1
theorem fok2:FactsOk (find tab) prim fK2:=.cons (by kernel_rfl) ff1 fok1
def fq2:List (Sh × PV):=[((some 4),(tP 2 0 [98] []))]
def fv2:AV:=(.pv (some 4) (tP 2 0 [98] []))
theorem ff2:resV (sem (find tab) prim .fn 7 (pvs fq2) [])=some fv2:=zbn (n:=60) fok2 (by kernel_rfl)
def fK3:Facts:=(7,fq2,fv2)::fK2
theorem fok3:FactsOk (find tab) prim fK3:=.cons (by kernel_rfl) ff2 fok2
def fq3:List (Sh × PV):=[((some 4),(tP 2 0 [98] [])),((some 4),(tP 2 0 [97] []))]
def fv3:AV:=(.pv none (.bool false))
theorem ff3:resV (sem (find tab) prim .fn 47 (pvs fq3) [])=some fv3:=zbn (n:=60) fok3 (by kernel_rfl)
def fK4:Facts:=(47,fq3,fv3)::fK3
theorem fok4:FactsOk (find tab) prim fK4:=.cons (by kernel_rfl) ff3 fok3
def fq4:List (Sh × PV):=[(none,(.sl (some 5) [])),((some 4),(tP 2 0 [97] []))]
def fv4:AV:=(.tuple [(.pv (some 4) (tP 2 0 [97] [])),(.pv none (.int .i64 (0)))])
theorem ff4:resV (sem (find tab) prim .fn 70 (pvs fq4) [])=some fv4:=zbn (n:=60) fok4 (by kernel_rfl)
def fK5:Facts:=(70,fq4,fv4)::fK4
theorem fok5:FactsOk (find tab) prim fK5:=.cons (by kernel_rfl) ff4 fok4
def fq5:List (Sh × PV):=[(none,(.sl (some 5) [])),((some 4),(tP 1 2 [] []))]
def fv5:AV:=(.tuple [(.pv (some 4) (tP 1 2 [] [])),(.pv none (.int .i64 (0)))])
theorem ff5:resV (sem (find tab) prim .fn 70 (pvs fq5) [])=some fv5:=zbn (n:=60) fok5 (by kernel_rfl)
def fK6:Facts:=(70,fq5,fv5)::fK5
theorem fok6:FactsOk (find tab) prim fK6:=.cons (by kernel_rfl) ff5 fok5
def fq6:List (Sh × PV):=[(none,(.sl (some 4) [(tP 3 0 [45] [(tP 2 0 [97] []),(tP 1 2 [] [])])]))]
def fv6:AV:=(.tuple [(.pv (some 4) (tP 3 0 [45] [(tP 2 0 [97] []),(tP 3 0 [46] [(tP 1 2 [] []),(tP 2 0 [91,93] [])])])),(.pv none (.int .i64 (0)))])
theorem ff6:resV (sem (find tab) prim .fn 48 (pvs fq6) [])=some fv6:=zbn (n:=60) fok6 (by kernel_rfl)
def fK7:Facts:=(48,fq6,fv6)::fK6
theorem fok7:FactsOk (find tab) prim fK7:=.cons (by kernel_rfl) ff6 fok6
def fq7:List (Sh × PV):=[((some 4),(tP 2 0 [98] [])),((some 4),(tP 2 0 [98] []))]
def fv7:AV:=(.pv none (.bool true))
theorem ff7:resV (sem (find tab) prim .fn 47 (pvs fq7) [])=some fv7:=zbn (n:=60) fok7 (by kernel_rfl)
def fK8:Facts:=(47,fq7,fv7)::fK7
theorem fok8:FactsOk (find tab) prim fK8:=.cons (by kernel_rfl) ff7 fok7
def fq8:List (Sh × PV):=[(none,(.sl (some 5) [])),((some 4),(tP 2 0 [98] [])),((some 4),(tP 2 0 [98] []))]
def fv8:AV:=(.tuple [(.pv none (.sl (some 5) [])),(.pv none (.int .i64 (0)))])
theorem ff8:resV (sem (find tab) prim .fn 69 (pvs fq8) [])=some fv8:=zbn (n:=60) fok8 (by kernel_rfl)
def fK9:Facts:=(69,fq8,fv8)::fK8
theorem fok9:FactsOk (find tab) prim fK9:=.cons (by kernel_rfl) ff8 fok8
def fq9:List (Sh × PV):=[(none,(.sl (some 5) [])),((some 4),(tP 2 0 [98] []))]
def fv9:AV:=(.tuple [(.pv (some 4) (tP 2 0 [98] [])),(.pv none (.int .i64 (0)))])
theorem ff9:resV (sem (find tab) prim .fn 70 (pvs fq9) [])=some fv9:=zbn (n:=60) fok9 (by kernel_rfl)
def fK10:Facts:=(70,fq9,fv9)::fK9
theorem zvB:FactsOk (find tab) prim fK10:=.cons (by kernel_rfl) ff9 fok9
def fq10:List (Sh × PV):=[(none,(.sl (some 5) [])),((some 4),(tP 1 1 [] []))]
def fv10:AV:=(.tuple [(.pv (some 4) (tP 1 1 [] [])),(.pv none (.int .i64 (0)))])
theorem ff10:resV (sem (find tab) prim .fn 70 (pvs fq10) [])=some fv10:=zbn (n:=60) zvB (by kernel_rfl)
def fK11:Facts:=(70,fq10,fv10)::fK10
theorem zvC:FactsOk (find tab) prim fK11:=.cons (by kernel_rfl) ff10 zvB
def fq11:List (Sh × PV):=[(none,(.sl (some 5) [])),((some 4),(tP 1 3 [] []))]
def fv11:AV:=(.tuple [(.pv (some 4) (tP 1 3 [] [])),(.pv none (.int .i64 (0)))])
theorem ff11:resV (sem (find tab) prim .fn 70 (pvs fq11) [])=some fv11:=zbn (n:=60) zvC (by kernel_rfl)
def fK12:Facts:=(70,fq11,fv11)::fK11
theorem zvD:FactsOk (find tab) prim fK12:=.cons (by kernel_rfl) ff11 zvC
def fq12:List (Sh × PV):=[(none,(.sl (some 4) [(tP 3 0 [45] [(tP 2 0 [98] []),(tP 1 1 [] [])]),(tP 3 0 [45] [(tP 2 0 [98] []),(tP 1 3 [] [])])]))]
def fv12:AV:=(.tuple [(.pv (some 4) (tP 3 0 [45] [(tP 2 0 [98] []),(tP 3 0 [46] [(tP 1 1 [] []),(tP 3 0 [46] [(tP 1 3 [] []),(tP 2 0 [91,93] [])])])])),(.pv none (.int .i64 (0)))])
theorem ff12:resV (sem (find tab) prim .fn 48 (pvs fq12) [])=some fv12:=zbn (n:=60) zvD (by kernel_rfl)
def fK13:Facts:=(48,fq12,fv12)::fK12
theorem zvE:FactsOk (find tab) prim fK13:=.cons (by kernel_rfl) ff12 zvD
def fq13:List (Sh × PV):=[(none,(.sl (some 4) [(tP 3 0 [45] [(tP 2 0 [98] []),(tP 1 1 [] [])]),(tP 3 0 [45] [(tP 2 0 [97] []),(tP 1 2 [] [])]),(tP 3 0 [45] [(tP 2 0 [98] []),(tP 1 3 [] [])])]))]
def fv13:AV:=(.tuple [(.pv none (.sl (some 4) [(tP 3 0 [45] [(tP 2 0 [97] []),(tP 3 0 [46] [(tP 1 2 [] []),(tP 2 0 [91,93] [])])]),(tP 3 0 [45] [(tP 2 0 [98] []),(tP 3 0 [46] [(tP 1 1 [] []),(tP 3 0 [46] [(tP 1 3 [] []),(tP 2 0 [91,93] [])])])])])),(.pv none (.int .i64 (0)))])
theorem ff13:resV (sem (find tab) prim .fn 19 (pvs fq13) [])=some fv13:=zbn (n:=60) zvE (by kernel_rfl)
def fK14:Facts:=(19,fq13,fv13)::fK13
theorem zvF:FactsOk (find tab) prim fK14:=.cons (by kernel_rfl) ff13 zvE
def fq14:List (Sh × PV):=[((some 4),(tP 3 0 [36,115,101,116] [(tP 0 0 [] []),(tP 3 0 [46] [(tP 3 0 [45] [(tP 2 0 [97] []),(tP 1 2 [] [])]),(tP 3 0 [46] [(tP 3 0 [45] [(tP 2 0 [97] []),(tP 1 1 [] [])]),(tP 3 0 [46] [(tP 3 0 [45] [(tP 2 0 [97] []),(tP 1 2 [] [])]),(tP 2 0 [91,93] [])])])]),(tP 0 1 [] [])]))]
def fv14:AV:=(.pv (some 4) (tP 3 0 [36,115,101,116] [(tP 0 0 [] []),(tP 3 0 [46] [(tP 3 0 [45] [(tP 2 0 [97] []),(tP 1 2 [] [])]),(tP 3 0 [46] [(tP 3 0 [45] [(tP 2 0 [97] []),(tP 1 1 [] [])]),(tP 3 0 [46] [(tP 3 0 [45] [(tP 2 0 [97] []),(tP 1 2 [] [])]),(tP 2 0 [91,93] [])])])]),(tP 0 1 [] [])]))
theorem ff14:resV (sem (find tab) prim .fn 7 (pvs fq14) [])=some fv14:=zbn (n:=60) zvF (by kernel_rfl)
def fK15:Facts:=(7,fq14,fv14)::fK14
theorem zvG:FactsOk (find tab) prim fK15:=.cons (by kernel_rfl) ff14 zvF
def fq15:List (Sh × PV):=[((some 4),(tP 3 0 [46] [(tP 3 0 [45] [(tP 2 0 [97] []),(tP 1 2 [] [])]),(tP 3 0 [46] [(tP 3 0 [45] [(tP 2 0 [97] []),(tP 1 1 [] [])]),(tP 3 0 [46] [(tP 3 0 [45] [(tP 2 0 [97] []),(tP 1 2 [] [])]),(tP 2 0 [91,93] [])])])]))]
def fv15:AV:=(.tuple [(.pv none (.sl (some 4) [(tP 3 0 [45] [(tP 2 0 [97] []),(tP 1 2 [] [])]),(tP 3 0 [45] [(tP 2 0 [97] []),(tP 1 1 [] [])]),(tP 3 0 [45] [(tP 2 0 [97] []),(tP 1 2 [] [])])])),(.pv (some 4) (tP 0 0 [] [])),(.pv none (.bool true))])
theorem ff15:resV (sem (find tab) prim .fn 25 (pvs fq15) [])=some fv15:=zbn (n:=60) zvG (by kernel_rfl)
def fK16:Facts:=(25,fq15,fv15)::fK15
theorem zvH:FactsOk (find tab) prim fK16:=.cons (by kernel_rfl) ff15 zvG
def fq16:List (Sh × PV):=[(none,(.sl (some 5) [])),((some 4),(tP 2 0 [97] [])),((some 4),(tP 2 0 [97] []))]
def fv16:AV:=(.tuple [(.pv none (.sl (some 5) [])),(.pv none (.int .i64 (0)))])
theorem ff16:resV (sem (find tab) prim .fn 69 (pvs fq16) [])=some fv16:=zbn (n:=60) zvH (by kernel_rfl)
def fK17:Facts:=(69,fq16,fv16)::fK16
theorem zvI:FactsOk (find tab) prim fK17:=.cons (by kernel_rfl) ff16 zvH
def fq17:List (Sh × PV):=[(none,(.sl (some 4) [(tP 3 0 [45] [(tP 2 0 [97] []),(tP 1 2 [] [])]),(tP 3 0 [45] [(tP 2 0 [97] []),(tP 1 1 [] [])]),(tP 3 0 [45] [(tP 2 0 [97] []),(tP 1 2 [] [])])]))]
def fv17:AV:=(.tuple [(.pv (some 4) (tP 3 0 [45] [(tP 2 0 [97] []),(tP 3 0 [46] [(tP 1 2 [] []),(tP 3 0 [46] [(tP 1 1 [] []),(tP 3 0 [46] [(tP 1 2 [] []),(tP 2 0 [91,93] [])])])])])),(.pv none (.int .i64 (0)))])
theorem ff17:resV (sem (find tab) prim .fn 48 (pvs fq17) [])=some fv17:=zbn (n:=60) zvI (by kernel_rfl)
def fK18:Facts:=(48,fq17,fv17)::fK17
theorem zvJ:FactsOk (find tab) prim fK18:=.cons (by kernel_rfl) ff17 zvI
def fq18:List (Sh × PV):=[(none,(.sl (some 4) [(tP 3 0 [45] [(tP 2 0 [97] []),(tP 1 2 [] [])]),(tP 3 0 [45] [(tP 2 0 [97] []),(tP 1 1 [] [])]),(tP 3 0 [45] [(tP 2 0 [97] []),(tP 1 2 [] [])])]))]
def fv18:AV:=(.tuple [(.pv none (.sl (some 4) [(tP 3 0 [45] [(tP 2 0 [97] []),(tP 3 0 [46] [(tP 1 2 [] []),(tP 3 0 [46] [(tP 1 1 [] []),(tP 3 0 [46] [(tP 1 2 [] []),(tP 2 0 [91,93] [])])])])])])),(.pv none (.int .i64 (0)))])
theorem ff18:resV (sem (find tab) prim .fn 19 (pvs fq18) [])=some fv18:=zbn (n:=60) zvJ (by kernel_rfl)
def fK19:Facts:=(19,fq18,fv18)::fK18
theorem zvK:FactsOk (find tab) prim fK19:=.cons (by kernel_rfl) ff18 zvJ
def fq19:List (Sh × PV):=[((some 4),(tP 3 0 [36,115,101,116] [(tP 0 0 [] []),(tP 3 0 [46] [(tP 3 0 [45] [(tP 2 0 [97] []),(tP 1 2 [] [])]),(tP 3 0 [46] [(tP 3 0 [45] [(tP 2 0 [97] []),(tP 1 1 [] [])]),(tP 3 0 [46] [(tP 3 0 [45] [(tP 2 0 [97] []),(tP 1 2 [] [])]),(tP 2 0 [91,93] [])])])]),(tP 0 1 [] [])]))]
def fv19:AV:=(.tuple [(.pv none (.sl (some 4) [(tP 3 0 [36,115,101,116] [(tP 2 0 [97] []),(tP 3 0 [46] [(tP 3 0 [45] [(tP 2 0 [97] []),(tP 1 2 [] [])]),(tP 3 0 [46] [(tP 3 0 [45] [(tP 2 0 [97] []),(tP 1 1 [] [])]),(tP 3 0 [46] [(tP 3 0 [45] [(tP 2 0 [97] []),(tP 1 2 [] [])]),(tP 2 0 [91,93] [])])])]),(tP 3 0 [46] [(tP 1 1 [] []),(tP 3 0 [46] [(tP 1 2 [] []),(tP 2 0 [91,93] [])])])])])),(.pv (some 4) (tP 0 0 [] [])),(.pv none (.int .i64 (0)))])
theorem ff19:resV (sem (find tab) prim .fn 6 (pvs fq19) [])=some fv19:=zbn (n:=60) zvK (by kernel_rfl)
def fK20:Facts:=(6,fq19,fv19)::fK19
theorem zvL:FactsOk (find tab) prim fK20:=.cons (by kernel_rfl) ff19 zvK
def fq20:List (Sh × PV):=[((some 4),(tP 0 0 [] [])),((some 4),(tP 3 0 [94] [(tP 0 1 [] []),(tP 3 0 [112] [(tP 0 0 [] []),(tP 0 1 [] []),(tP 0 2 [] [])])]))]
def fv20:AV:=(.pv (some 4) (tP 3 0 [46] [(tP 0 2 [] []),(tP 2 0 [91,93] [])]))
theorem ff20:resV (sem (find tab) prim .fn 22 (pvs fq20) [])=some fv20:=zbn (n:=60) zvL (by kernel_rfl)
def fK21:Facts:=(22,fq20,fv20)::fK20
theorem zwg:FactsOk (find tab) prim fK21:=.cons (by kernel_rfl) ff20 zvL
theorem run9:yes (zfB fK21 (find tab) prim 60 .fn 9 [] [])=true:=by kernel_rfl
theorem sem9:sem (find tab) prim .fn 9 [] []=some (.ret (.pv none (.bool true)),[]):=zgm zwg 60 _ _ _ _ _ (zvg run9)
end Go.Proofs.Ytffecaafklpmhaa
namespace Go.Proofs.Ytffecaafklpmhaa
open Go.Am Go.ChangeShapes Go.WideShapes Go.ChangeAt Go.RowKit
theorem zq5(H:Type):BulkLaws (H:=H) Rows.uptoBulk Rows.uptoBulkAll where
 nil:=by simp[Rows.uptoBulkAll]
 cons d r:=by simp[Rows.uptoBulkAll]
 slice e s:=by simp[Rows.uptoBulk]
 agg l:=by simp[Rows.uptoBulk]
 string l:=by simp[Rows.uptoBulk]
theorem zov{H:Type}{l:List (DataW H)}(hk:Rows.uptoSmall H l=true):Rows.uptoBulkAll l<=1048576:=of_decide_eq_true hk
def zm0(P:Program)(tA tT:TypeId):Bool:=
 (match P.underlying tA with|some (.slice t)=>t == tT|_=>false) &&
 (match P.underlying tT with
  |some (.struct fs)=>match fs.toList.map (·.type) with
   |[a,b,c,d]=>d == tA && (match P.underlying a with|some (.int .i64)=>true|_=>false) && (match P.underlying b with|some (.int .i64)=>true|_=>false) && (match P.underlying c with|some .string=>true|_=>false) && decide (shOf P a=none) && decide (shOf P b=none) && decide (shOf P c=none)
   |_=>false
  |_=>false) && decide (shOf P tT=some 4) && decide (shOf P tA=none)
theorem zl5{P:Program}{tA tT:TypeId}(h:zm0 P tA tT=true):TermTy P tA tT:=by
 unfold zm0 at h
 simp only[Bool.and_eq_true,decide_eq_true_eq] at h
 obtain⟨⟨⟨h1,h2⟩,h3⟩,h4⟩:=h
 refine⟨?_,?_⟩
 ·split at h1
  ·rename_i t ht;rw[ht];simp at h1;rw[h1]
  ·cases h1
 ·split at h2
  ·rename_i fs hfs
   split at h2
   ·rename_i a b c d hl
    simp only[Bool.and_eq_true,decide_eq_true_eq,beq_iff_eq] at h2
    obtain⟨⟨⟨⟨⟨⟨k1,k2⟩,k3⟩,k4⟩,k5⟩,k6⟩,k7⟩:=h2
    subst k1
    refine⟨fs,a,b,c,hfs,hl,?_,?_,?_,h3,h4,k5,k6,k7⟩
    ·split at k2
     ·assumption
     ·cases k2
    ·split at k3
     ·assumption
     ·cases k3
    ·split at k4
     ·assumption
     ·cases k4
   ·cases h2
  ·cases h2
theorem zvo:TermTy Try.prog 22 24:=zl5 (by kernel_rfl)
def zq6:List TypeId:=[2,3,4,5,9,22,24]
theorem closed:zmU Try.prog zq6=true:=by kernel_rfl
set_option maxRecDepth 100000 in
theorem zhi{H:Type}{enc:TypeId × Value->H}{W:World}{base:Nat}{v:Value}{d:DataW H}{ps:List MemPlace}(h:DataW.Trod enc Try.prog W 0 (fun _=>true) true 24 v d ps)(hv:Value.okWide Try.prog W .any base 24 v):
  ∃t:Tm,AR W (noX (P:=Try.prog)) noμ [] t.av v/\t.size<=Rows.uptoBulk d/\t.rng:=by
 obtain⟨fuel,h0⟩:=h
 obtain⟨p,hp⟩:=zqU closed fuel _ _ _ _ (by simp[zq6]) h0
 obtain⟨t,rfl,h1,h2⟩:=(zkB zvo (zq5 H) fuel).1 d p hp
 have:=zve ⟨fuel,h0⟩ (by kernel_rfl) hp (zop hv)
 rw[show shOf Try.prog 24=some 4 from by kernel_rfl] at this
 exact⟨t,this,h1,h2⟩
end Go.Proofs.Ytffecaafklpmhaa
