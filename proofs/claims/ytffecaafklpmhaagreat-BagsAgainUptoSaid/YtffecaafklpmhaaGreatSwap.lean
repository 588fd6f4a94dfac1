/- What is proved: the program's Unify. -/
import Derived.Test.YtffecaafklpmhaaGreatPRn
import Derived.Test.YtffecaafklpmhaaGreatRv
import Derived.Test.YtffecaafklpmhaaGreatAm4
set_option linter.unusedSimpArgs false
set_option linter.unusedVariables false
namespace Go.Proofs.YtffecaafklpmhaaGreat
open Go.Am
def outD(F:FuncId→Option AFn)(prim:FuncId→Option PrimO)(rs:List RSlot)(s:Nat)(v:AV)(st:St)(p:PV)(st2:St):Prop:=
 ∃g fs cs,st.fr.look s=some (.func (.func g) fs cs)∧∃r hp' v',sem F prim .dfr g (.pv none p::(fs++cs)) st2.hp=some (.ret r,hp')∧resultOf ⟨st2.fr,hp'⟩ rs=some v'∧Am.frozen v v' hp'
def outK(F:FuncId→Option AFn)(prim:FuncId→Option PrimO)(rs:List RSlot)(s:Nat)(v:AV)(st:St):AExit→St→Prop
 | .normal,st2=>outD F prim rs s v st .niliface st2
 | .ret,st2=>outD F prim rs s v st .niliface st2
 | .panic w,st2=>outD F prim rs s v st w st2
 | .exit _,_=>False
def dfrK(F:FuncId→Option AFn)(prim:FuncId→Option PrimO)(rs:List RSlot)(s:Nat)(c2:ACode)(v:AV):AExit→St→Prop
 | .normal,st=>(st.fr.look s).isSome=true∧W (sem F prim) (sloop F prim) 0 c2 st (outK F prim rs s v st)
 | .ret,st=>endK rs (Am.frozen v) .ret st
 |_,_=>False
theorem dfrK_normal{F:FuncId→Option AFn}{prim:FuncId→Option PrimO}{rs:List RSlot}{s:Nat}{c2:ACode}{v:AV}{st:St}:dfrK F prim rs s c2 v .normal st=((st.fr.look s).isSome=true∧W (sem F prim) (sloop F prim) 0 c2 st (outK F prim rs s v st)):=rfl
theorem dfrK_ret{F:FuncId→Option AFn}{prim:FuncId→Option PrimO}{rs:List RSlot}{s:Nat}{c2:ACode}{v:AV}{st:St}:dfrK F prim rs s c2 v .ret st=endK rs (Am.frozen v) .ret st:=rfl
theorem outK_ret{F:FuncId→Option AFn}{prim:FuncId→Option PrimO}{rs:List RSlot}{s:Nat}{v:AV}{st st2:St}:outK F prim rs s v st .ret st2=outD F prim rs s v st .niliface st2:=rfl
theorem outK_panic{F:FuncId→Option AFn}{prim:FuncId→Option PrimO}{rs:List RSlot}{s:Nat}{v:AV}{st st2:St}{w:PV}:outK F prim rs s v st (.panic w) st2=outD F prim rs s v st w st2:=rfl
theorem sem_pure_dfr{F:FuncId→Option AFn}{prim:FuncId→Option PrimO}{f:FuncId}{fn:AFn}{args:List AV}{ps:List (Sh × PV)}{hp:Heap}{v:AV}{s:Nat}{c2:ACode}(hp0:prim f=none)(hf:F f=some fn)(hm:fn.heapMode=false)(hz:freezeAll args hp=some (ps,hp))(hn:(pvs ps).length=fn.nparams)(hmo:fn.more=[(.dfr s,c2)])
  (h:W (sem F prim) (sloop F prim) 0 fn.code ⟨params 0 (pvs ps),[]⟩ (dfrK F prim fn.results s c2 v))(hr:fn.rcv=none:=by rfl):sem F prim .fn f args hp=some (.ret v,hp):=by
 rw[sem_eq]
 unfold acallFn
 rw[hp0,hf]
 have hl:([]:Heap).length=0:=rfl
 suffices hB:∃v' hp2,abody (sem F prim) (sloop F prim) fn (pvs ps) []=some (.ret v',hp2)∧Am.frozen v v' hp2 by
  obtain⟨v',hp2,h1,hp3,h2⟩:=hB
  simp only[hr,Option.isSome_none,hm,Bool.false_eq_true,if_false,hz,h1,h2]
  cases v.scalar <;> rfl
 unfold abody
 rw[if_neg (by simpa using hn),hmo]
 simp only[hl]
 unfold W at h
 split at h
 ·rename_i e st1 he
  cases e with
  |normal=>
   obtain⟨-,hW⟩:=h
   unfold W at hW
   split at hW
   ·rename_i e2 st2 he2
    have fin:∀p:Option PV,outD F prim fn.results s v st1 (p.getD .niliface) st2→∀e:AExit,(e=.normal∨e=.ret→p=none)→(∀w,e=.panic w→p=some w)→(∀i,e≠.exit i)→e=e2→∃v' hp2,aleave (sem F prim) fn (apieces (sem F prim) (sloop F prim) 0 [(.dfr s,c2)] fn.code ⟨params 0 (pvs ps),[]⟩ [])=some (.ret v',hp2)∧Am.frozen v v' hp2:=by
     rintro p ⟨g,fs,cs,k1,r,hp',v',k2,k3,k4⟩ e n1 n2 n3 rfl
     refine⟨v',hp',?_,k4⟩
     have k5:atop (sem F prim) (.dfr s) st1 []=some (.normal,st1,[.func (.func g) fs cs]):=by simp[atop,k1]
     have ka:apieces (sem F prim) (sloop F prim) 0 [(.dfr s,c2)] fn.code ⟨params 0 (pvs ps),[]⟩ []=some (e,st2,[.func (.func g) fs cs]):=by
      simp only[apieces,he,k5,he2]
     have ku:∀p':Option PV,p'=p→aunwind (sem F prim) [.func (.func g) fs cs] p' st2.hp=some (none,hp'):=by
      rintro p' rfl
      simp only[aunwind,calleeOf,k2]
     rw[ka]
     cases e with
     |normal=>simp only[aleave,ku none (n1 (.inl rfl)).symm,aresult,k3]
     |ret=>simp only[aleave,ku none (n1 (.inr rfl)).symm,aresult,k3]
     |panic w=>simp only[aleave,ku (some w) (n2 w rfl).symm,aresult,k3]
     |exit i=>exact absurd rfl (n3 i)
    cases e2 with
    |normal=>exact fin none hW .normal (fun _=>rfl) (fun w e=>by cases e) (fun i e=>by cases e) rfl
    |ret=>exact fin none hW .ret (fun _=>rfl) (fun w e=>by cases e) (fun i e=>by cases e) rfl
    |panic w=>exact fin (some w) hW (.panic w) (fun e=>by rcases e with e|e <;> cases e) (fun w e=>by cases e;rfl) (fun i e=>by cases e) rfl
    |exit i=>exact hW.elim
   ·exact hW.elim
  |ret=>
   rw[dfrK_ret,endK_ret] at h
   cases hr:resultOf st1 fn.results with
   |none=>rw[hr] at h;exact h.elim
   |some u=>
    rw[hr] at h
    exact⟨u,st1.hp,by simp only[aleave,apieces,he,aunwind,aresult,hr],h⟩
  |exit i=>exact h.elim
  |panic v=>exact h.elim
 ·exact h.elim
def dendK(n:Nat)(H:Heap):AExit→St→Prop
 | .normal,st=>st.hp.take n=H
 | .ret,st=>st.hp.take n=H
 |_,_=>False
theorem dendK_normal{n:Nat}{H:Heap}{st:St}:dendK n H .normal st=(st.hp.take n=H):=rfl
theorem sem_dfr1{F:FuncId→Option AFn}{prim:FuncId→Option PrimO}{g:FuncId}{fn:AFn}{ws:List AV}{hp H:Heap}{s:Sh}{p:PV}{t:Nat}(hf:F g=some fn)(hr:fn.rcv=some t)(hmo:fn.more=[])(hn:ws.length=fn.nparams)
  (h:W (sem F prim) (sloop F prim) hp.length fn.code ⟨(t,.pv s p)::params 0 ws,hp⟩ (dendK hp.length H)):sem F prim .dfr g (.pv s p::ws) hp=some (.ret (.tuple []),H):=by
 rw[sem_dfr]
 unfold adefer
 simp only[hf,hr,hmo,hn,ne_eq,not_true_eq_false,if_false]
 unfold W at h
 split at h
 ·rename_i e st he
  rw[he]
  cases e with
  |normal=>rw[←h]
  |ret=>rw[←h]
  |exit i=>exact h.elim
  |panic v=>exact h.elim
 ·exact h.elim
theorem dfr_nil(x0 x1 x3:AObj)(s:AV)(k:AV)(e:Heap):sem (find tab) prim .dfr 120 [.pv none .niliface,.ptr 2 0,.ptr 4 0] (x0::x1::.box none s::x3::.box none k::e)=some (.ret (.tuple []),x0::x1::.box none s::x3::.box none k::e):=by
 refine sem_dfr1 (t:=5) rfl rfl rfl rfl ?_
 have has:sAssert 100 (some 1) (.pv (some 1) (.agg [(none,.int .i64 0)])) true [.pv none .niliface]=some (.tuple [.pv (some 1) (.agg [(none,.int .i64 0)]),.pv none (.bool false)]):=rfl
 have hin:sIsnil true [.pv none .niliface]=some (.pv none (.bool false)):=rfl
 simp -dsimp -implicitDefEqProofs only[go_sem,seval,↓reduceIte,has,hin,dendK_normal,List.append_assoc,get_pre,get_pre0,set_pre,set_pre0,Nat.add_assoc,List.length_append]
 simp
theorem dfr_stop(x0 x1 x3:AObj)(s:AV)(k y:Int)(e:Heap):sem (find tab) prim .dfr 120 [.pv none (stopP y),.ptr 2 0,.ptr 4 0] (x0::x1::.box none s::x3::.box none (.pv none (.int .i64 k))::e)=some (.ret (.tuple []),x0::x1::.box none (.tsl (some 5) [])::x3::.box none (.pv none (.int .i64 y))::e):=by
 refine sem_dfr1 (t:=5) rfl rfl rfl rfl ?_
 have has:sAssert 100 (some 1) (.pv (some 1) (.agg [(none,.int .i64 0)])) true [.pv none (stopP y)]=some (.tuple [.pv (some 1) (.agg [(none,.int .i64 y)]),.pv none (.bool true)]):=rfl
 have hst:∀E:Heap,wStoren none (e.length+5) (x0::x1::.box none s::x3::.box none (.pv none (.int .i64 k))::E) [.ptr 2 0,.tsl (some 5) [],.ptr (e.length+5) 0]=some (.undef,x0::x1::.box none (.tsl (some 5) [])::x3::.box none (.pv none (.int .i64 k))::E):=fun E=>by
  have h1:¬e.length+5≤2:=by omega
  simp[wStoren,astore,offPtr,AV.plain,AV.shp,AV.refsIn,h1]
 simp -dsimp -implicitDefEqProofs only[go_sem,seval,↓reduceIte,has,hst,dendK_normal,List.append_assoc,get_pre,get_pre0,set_pre,set_pre0,Nat.add_assoc,List.length_append]
 simp
theorem punify_ok(V:List Int)(l:List B)(a b:Tm)(hV:V.length≤500000)(hVb:InVB V l)(hVa:InV V a)(hVc:InV V b)(hl:l.length≤500000)(hsz:∀b∈l,b.2.size<1000000000)(ha:a.size<1000000000)(hb:b.size<1000000000)(hp:Heap):
  S 85 [.pv none (.sl (some 5) (bds l)),a.av,b.av] hp=some (.ret (.tuple [.pv none (.sl (some 5) (bds (unR l a b).1)),.pv none (.int .i64 (unR l a b).2)]),hp):=by
 refine sem_pure_dfr rfl rfl rfl (freezeAll_pvs [(none,.sl (some 5) (bds l)),(some 4,a.pv),(some 4,b.pv)]) rfl rfl ?_
 have h1:=pvalidB_ok l (by omega) hsz
 have h2:=fun hp=>valid_ok a hp ha
 have h3:=fun hp=>valid_ok b hp hb
 simp only[Tm.av] at h2 h3
 have hal:∀a0 a1:AObj,wAlloc none (.tsl (some 5) []) [a0,a1] []=some (.ptr 2 0,[a0,a1,.box none (.sl (some 5) 3 0 0 0),.arr (some 5) [] false]):=fun _ _=>rfl
 by_cases hg:okb l=true∧a.valid=true∧b.valid=true
 rotate_left
 ·have e:unR l a b=([],1):=by unfold unR;rw[if_neg hg]
  rw[e]
  have hst:∀(x0 x1 x3 x4:AObj),wStore none 0 [x0,x1,.box none (.sl (some 5) 3 0 0 0),x3,x4] [.ptr 2 0,.tsl (some 5) []]=some (.undef,[x0,x1,.box none (.sl (some 5) 5 0 0 0),x3,x4,.arr (some 5) [] false]):=fun _ _ _ _=>rfl
  cases hok:okb l with
  |false=>
   rw[hok] at h1
   simp -dsimp -implicitDefEqProofs only[go_sem,seval,↓reduceIte,Tm.av,hal,hst,h1,h2,h3,dfrK_ret,List.append_assoc,get_pre,get_pre0,set_pre,set_pre0,Nat.add_assoc,List.length_append]
   exact⟨_,rfl⟩
  |true=>
   rw[hok] at h1
   by_cases va:a.valid=true
   ·have vb:b.valid=false:=by
     cases e:b.valid with
     |false=>rfl
     |true=>exact absurd ⟨hok,va,e⟩ hg
    simp -dsimp -implicitDefEqProofs only[go_sem,seval,↓reduceIte,Tm.av,hal,hst,h1,h2,h3,va,vb,dfrK_ret,List.append_assoc,get_pre,get_pre0,set_pre,set_pre0,Nat.add_assoc,List.length_append]
    exact⟨_,rfl⟩
   ·have va':a.valid=false:=by simpa using va
    simp -dsimp -implicitDefEqProofs only[go_sem,seval,↓reduceIte,Tm.av,hal,hst,h1,h2,h3,va',dfrK_ret,List.append_assoc,get_pre,get_pre0,set_pre,set_pre0,Nat.add_assoc,List.length_append]
    exact⟨_,rfl⟩
 ·have e:unR l a b=uni 1048576 l [(a,b)]:=by unfold unR;rw[if_pos hg]
  rw[e]
  obtain⟨hok,va,vb⟩:=hg
  have hO:=okb_iff.1 hok
  rw[hok] at h1
  obtain⟨H5,hH5⟩:∃H5:Heap,H5=[.box (some 4) (.pv (some 4) a.pv),.box (some 4) (.pv (some 4) b.pv),.box none (.sl (some 5) 3 0 0 0),.arr (some 5) [] false,.box none (.pv none (.int .i64 0))]:=⟨_,rfl⟩
  have hb5:Bq H5:=by
   rw[hH5]
   exact Bq.cons (bq_tm a) (Bq.cons (bq_tm b) (Bq.cons rfl (Bq.cons rfl (Bq.cons rfl Bq.nil))))
  have hcn:=pclone_ok l hO.good (by omega) H5 hb5
  obtain⟨res,hp',hrun,hP⟩:=prun_ok V l a b hO hV hVb hVa hVc va vb (H5++[.arr (some 5) [] false,.arr (some 5) [] false,.box (some 1) .undef]) (hb5.app (Bq.cons rfl (Bq.cons rfl (Bq.cons rfl Bq.nil)))) 7 6 (by rw[hH5];simp) (by rw[hH5];simp) (by decide)
  have hU:∀l,US (H5++[.arr (some 5) [] false,.arr (some 5) [] false,.box (some 1) .undef]) 7 6 l=[.box (some 4) (.pv (some 4) a.pv),.box (some 4) (.pv (some 4) b.pv),.box none (.sl (some 5) 3 0 0 0),.arr (some 5) [] false,.box none (.pv none (.int .i64 0)),.arr (some 5) [] false,.arr (some 5) (bds l) false,.box (some 1) (.agg [(none,.sl (some 5) 6 l.length 0 l.length)])]:=fun l=>by rw[hH5];rfl
  rw[hH5] at hcn
  rw[hU] at hrun
  simp only[Tm.av,List.cons_append,List.nil_append,List.length_cons,List.length_nil] at hrun hcn
  have hbu:sBuild [(none,.tsl (some 5) [])] [0] [.sl (some 5) 6 l.length 0 l.length]=some (.agg [(none,.sl (some 5) 6 l.length 0 l.length)]):=rfl
  have hpan:∀A:Prop,panK true A=A:=fun _=>rfl
  rcases hP with⟨l',he,rfl,rfl⟩|⟨e,l',he,rfl,rfl⟩
  ·rw[hU] at hrun
   rw[he]
   simp -dsimp -implicitDefEqProofs only[go_sem,seval,↓reduceIte,Tm.av,hal,h1,h2,h3,va,vb,hcn,hbu,hrun,own_cons_sl,w_box_agg,w_store_sl (Nat.zero_le _),s_nilcheck_ptr,dfrK_ret,dfrK_normal,outK_ret,outK_panic,hpan,List.append_assoc,get_pre,get_pre0,set_pre,set_pre0,Nat.add_assoc,List.length_append]
   refine⟨rfl,120,[],[.ptr 2 0,.ptr 4 0],rfl,_,_,_,dfr_nil _ _ _ _ _ _,rfl,?_⟩
   refine⟨[.box (some 4) (.pv (some 4) a.pv),.box (some 4) (.pv (some 4) b.pv),.box none (.sl (some 5) 6 l'.length 0 l'.length),.arr (some 5) [] false,.box none (.pv none (.int .i64 0)),.arr (some 5) [] false,.arr (some 5) (bds l') true,.box (some 1) (.agg [(none,.sl (some 5) 6 l'.length 0 l'.length)])],?_⟩
   simp[AV.freezeRes,freezeAll,AV.freeze,deep,bds_len,pvs,AV.shp]
  ·rw[hU] at hrun
   rw[he]
   simp -dsimp -implicitDefEqProofs only[go_sem,seval,↓reduceIte,Tm.av,hal,h1,h2,h3,va,vb,hcn,hbu,hrun,own_cons_sl,w_box_agg,w_store_sl (Nat.zero_le _),s_nilcheck_ptr,dfrK_ret,dfrK_normal,outK_ret,outK_panic,hpan,List.append_assoc,get_pre,get_pre0,set_pre,set_pre0,Nat.add_assoc,List.length_append]
   refine⟨rfl,120,[],[.ptr 2 0,.ptr 4 0],rfl,_,_,_,dfr_stop _ _ _ _ _ _ _,rfl,?_⟩
   exact⟨_,rfl⟩
def posF:Nat→List Int→List (Int × PV)
 |_,[]=>[]
 |k,x::r=>(x,.int .i64 (k:Int))::posF (k+1) r
theorem posF_len:∀(l:List Int) (k:Nat),(posF k l).length=l.length
 |[],_=>rfl
 |x::r,k=>by rw[posF,List.length_cons,posF_len r];rfl
theorem posF_find(v:Int):∀(l:List Int) (k:Nat),mFind v (posF k l)=if v∈l then some (.int .i64 ((k+l.idxOf v:Nat):Int)) else none
 |[],_=>rfl
 |x::r,k=>by
  rw[posF,mFind,posF_find v r]
  by_cases h:x=v
  ·subst h
   simp
  ·have h':¬v=x:=fun e=>h e.symm
   simp only[if_neg h,List.mem_cons,h',false_or]
   rw[List.idxOf_cons]
   have hb:(x == v)=false:=by simpa using h
   rw[hb]
   simp only[cond_false]
   split
   ·congr 2
    omega
   ·rfl
theorem posF_put(v:Int):∀(l:List Int) (k:Nat),v ∉ l→mPut v (.int .i64 ((k+l.length:Nat):Int)) (posF k l)=posF k (l++[v])
 |[],k,_=>rfl
 |x::r,k,h=>by
  have h':¬x=v:=fun e=>h (by rw[e];exact List.mem_cons_self)
  have ih:=posF_put v r (k+1) fun hm=>h (List.mem_cons_of_mem _ hm)
  rw[posF,mPut,if_neg h',List.cons_append,posF,←ih,List.length_cons]
  congr 4
  omega
theorem idx_pre{v:Int}:∀{l L:List Int},v∈l→l <+: L→L.idxOf v=l.idxOf v
 |[],_,h,_=>by cases h
 |x::r,L,h,hp=>by
  obtain⟨m,rfl⟩:=hp
  rw[List.cons_append,List.idxOf_cons,List.idxOf_cons]
  cases hb:x == v with
  |true=>rfl
  |false=>
   simp only[cond_false]
   have hx:¬x=v:=by simpa using hb
   have hm:v∈r:=(List.mem_cons.1 h).resolve_left fun e=>hx e.symm
   rw[idx_pre hm ⟨m,rfl⟩]
theorem idx_snoc{v:Int}:∀{l:List Int},v ∉ l→(l++[v]).idxOf v=l.length
 |[],_=>by simp[List.idxOf_cons]
 |x::r,h=>by
  have h':¬x=v:=fun e=>h (by rw[e];exact List.mem_cons_self)
  rw[List.cons_append,List.idxOf_cons,beq_eq_false_iff_ne.2 h',List.length_cons]
  simp only[cond_false]
  rw[idx_snoc fun hm=>h (List.mem_cons_of_mem _ hm)]
theorem vadd_pre(l:List Int)(v:Int):l <+: vadd l v:=by
 unfold vadd
 split
 ·exact List.prefix_refl _
 ·exact List.prefix_append _ _
theorem vads_pre:∀(ws l:List Int),l <+: vads l ws
 |[],l=>List.prefix_refl _
 |w::r,l=>(vadd_pre l w).trans (vads_pre r (vadd l w))
def cPos(L:List Int)(v:Int):Tm:=tvar (L.idxOf v:Int)
def canT(t:Tm):Tm:=Tm.sub (cPos (vads [] t.occ)) t
theorem vadd_mem(l:List Int)(v:Int):v∈vadd l v:=by
 unfold vadd
 split
 ·assumption
 ·simp
theorem sub_occ_arg{L:List Int}{t:Tm}(hk:¬t.kind=0):Tm.sub (cPos L) t=.mk t.kind t.n t.name (t.args.map (Tm.sub (cPos L))):=by
 rw[Tm.sub_eq,if_neg hk]
def cagg(k:Int)(q:Nat):AV:=.agg [(none,.pv none (.int .i64 0)),(none,.pv none (.int .i64 k)),(none,.pv none (.str [])),(none,.sl (some 4) q 0 0 0)]
def gC(t:Tm)(l:List Int):Heap:=[.box (some 4) (.pv (some 4) t.pv),.box (some 4) (cagg 0 2),.arr (some 4) [] false,.map none (kEnts (posF 0 l)),.box none (.map 3)]
theorem lookC{m:List (Int × PV)}{hp:Heap}{r:Nat}{s:Sh}{v:Int}(h:hp[r]? =some (.map none (kEnts m))):rLookup false none (.pv none (.int .i64 0)) true hp [.map r,.pv s (.int .i64 v)]=some (match mFind v m with|some x=>.tuple [.pv none x,.pv none (.bool true)]|none=>.tuple [.pv none (.int .i64 0),.pv none (.bool false)]):=by
 have hf:=kEnts_find v m
 cases hm:mFind v m with
 |none=>rw[hm] at hf;exact r_lookup_none h hf
 |some x=>rw[hm] at hf;exact r_lookup_some h hf
theorem cagg_freeze{k:Int}{q:Nat}{H:Heap}(h:H[q]? =some (.arr (some 4) [] false)):AV.freeze deep (cagg k q) H=some ((tvar k).pv,H.set q (.arr (some 4) [] true)):=by
 have e:∀l hp,AV.freeze (7+1) (.agg l) hp=match AV.freeze.go 7 l hp with|some (ps,hp')=>some (.agg ps,hp')|none=>none:=fun _ _=>rfl
 show AV.freeze (7+1) (.agg _) _=_
 simp[e,AV.freeze.go,AV.freeze,h]
 rfl
theorem gC_len(t:Tm)(l:List Int)(ext:Heap):(gC t l++ext).length=ext.length+5:=by simp[gC]
theorem gC_4(t:Tm)(l:List Int)(ext X:Heap):(gC t l++ext++X)[4]? =some (.box none (.map 3)):=rfl
theorem gC_3(t:Tm)(l:List Int)(ext X:Heap):(gC t l++ext++X)[3]? =some (.map none (kEnts (posF 0 l))):=rfl
theorem gC_set(t:Tm)(l l':List Int)(ext X:Heap):(gC t l++ext++X).set 3 (.map none (kEnts (posF 0 l')))=gC t l'++ext++X:=rfl
theorem canon1_ok(t0 u:Tm)(l:List Int)(ext:Heap)(hl:l.length<100000000)(n:Nat)(hn:n=ext.length+5):
  S 97 [u.av,.ptr 4 0] (gC t0 l++ext)=some (.ret (cagg ((vadd l u.n).idxOf u.n:Nat) (n+3)),gC t0 (vadd l u.n)++(ext++[.box (some 4) (.pv (some 4) u.pv),.box (some 4) (cagg ((vadd l u.n).idxOf u.n:Nat) (n+3)),.arr (some 4) [] false,.arr (some 4) [] false])):=by
 obtain⟨K,hK⟩:∃K:List Int→Heap,K=fun l=>gC t0 l++ext:=⟨_,rfl⟩
 have hKs:∀l,gC t0 l++ext=K l:=fun l=>by rw[hK]
 have hKl:∀l,(K l).length=n:=fun l=>by rw[←hKs,gC_len,hn]
 have hKa:∀l X,gC t0 l++(ext++X)=K l++X:=fun l X=>by rw[←hKs,List.append_assoc]
 have hK4:∀l X,(K l++X)[4]? =some (.box none (.map 3)):=fun l X=>by rw[←hKs];exact gC_4 t0 l ext X
 have hK3:∀l X,(K l++X)[3]? =some (.map none (kEnts (posF 0 l))):=fun l X=>by rw[←hKs];exact gC_3 t0 l ext X
 have hKS:∀l l' X,(K l++X).set 3 (.map none (kEnts (posF 0 l')))=K l'++X:=fun l l' X=>by rw[←hKs,←hKs];exact gC_set t0 l l' ext X
 have hle:∀k,n≤n+k:=fun k=>Nat.le_add_right _ _
 rw[hKa,hKs]
 unfold cagg
 refine sem_heap rfl rfl rfl rfl ?_
 rw[hKl]
 have hb:∀k:Int,sBuild [(none,.pv none (.int .i64 0)),(none,.pv none (.int .i64 0)),(none,.pv none (.str [])),(none,.tsl (some 4) [])] [1] [.pv none (.int .i64 k)]=some (.agg [(none,.pv none (.int .i64 0)),(none,.pv none (.int .i64 k)),(none,.pv none (.str [])),(none,.tsl (some 4) [])]):=fun _=>rfl
 by_cases hm:u.n∈l
 ·have e:vadd l u.n=l:=by simp[vadd,hm]
  rw[e]
  have hlk:∀X:Heap,rLookup false none (.pv none (.int .i64 0)) true (K l++X) [.map 3,.pv none (.int .i64 u.n)]=some (.tuple [.pv none (.int .i64 ((l.idxOf u.n:Nat):Int)),.pv none (.bool true)]):=fun X=>by
   rw[lookC (m:=posF 0 l) (hK3 _ _),posF_find,if_pos hm,Nat.zero_add]
  simp -dsimp -implicitDefEqProofs only[go_sem,seval,↓reduceIte,cagg,List.append_assoc,get_pre,get_pre0,set_pre,set_pre0,Nat.add_assoc,List.length_append,Tm.av,part_n,hlk,hb,own_cons_sl,w_store_agg (Nat.le_add_right _ _),hK4,hKl,getN (hKl _),getN0 (hKl _),setN (hKl _),setN0 (hKl _)]
  rw[if_neg (by simp[AV.refsIn,AV.refsIn.go])]
 ·have e:vadd l u.n=l++[u.n]:=by simp[vadd,hm]
  rw[e,idx_snoc hm]
  have hlk:∀X:Heap,rLookup false none (.pv none (.int .i64 0)) true (K l++X) [.map 3,.pv none (.int .i64 u.n)]=some (.tuple [.pv none (.int .i64 0),.pv none (.bool false)]):=fun X=>by
   rw[lookC (m:=posF 0 l) (hK3 _ _),posF_find,if_neg hm]
  have hml:∀X:Heap,rMlen (K l++X) [.map 3]=some (.pv none (.int .i64 (l.length:Int))):=fun X=>by
   simp[rMlen,hK3,kEnts,posF_len]
  have hms:∀X:Heap,wMapset false none (K l++X) [.map 3,.pv none (.int .i64 u.n),.pv none (.int .i64 (l.length:Int))]=some (.undef,K (l++[u.n])++X):=fun X=>by
   have:=posF_put u.n l 0 hm
   rw[Nat.zero_add] at this
   rw[w_mapset_pv (es:=kEnts (posF 0 l)) (hK3 _ _) (kEnts_put _ _ _),this,hKS]
  simp -dsimp -implicitDefEqProofs only[go_sem,seval,↓reduceIte,cagg,List.append_assoc,get_pre,get_pre0,set_pre,set_pre0,Nat.add_assoc,List.length_append,Tm.av,part_n,hlk,hml,hms,hb,own_cons_sl,w_store_agg (Nat.le_add_right _ _),hK4,hKl,getN (hKl _),getN0 (hKl _),setN (hKl _),setN0 (hKl _)]
  rw[if_neg (by simp[AV.refsIn,AV.refsIn.go])]
def appC(n:Nat)(t:Tm)(ts:List Tm)(i:Nat):Heap:=[.box (some 4) (.pv (some 4) t.pv),.box (some 4) (.agg [(none,.pv none (.int .i64 0)),(none,.pv none (.int .i64 0)),(none,.pv none (.str [])),(none,.sl (some 4) (n+2) 0 0 0)]),.arr (some 4) [] false,.box (some 4) (.agg [(none,.pv none (.int .i64 t.kind)),(none,.pv none (.int .i64 t.n)),(none,.pv none (.str t.name)),(none,.sl (some 4) (n+5) i 0 i)]),.arr (some 4) [] false,.arr (some 4) (Tm.pvs (ts.take i)) false]
theorem occs_app(a b:List Tm):Tm.occs (a++b)=Tm.occs a++Tm.occs b:=by
 induction a with
 |nil=>rfl
 |cons x r ih=>rw[List.cons_append,Tm.occs,Tm.occs,ih,List.append_assoc]
theorem apply_canon(t0:Tm):∀(t:Tm) (l L:List Int) (ext:Heap),t.fits=true→t.size<10000000→l.length+t.size<100000000→vads l t.occ <+: L→
  ∃v e,S 88 [t.av,.func (.func 97) [] [.ptr 4 0]] (gC t0 l++ext)=some (.ret v,gC t0 (vads l t.occ)++(ext++e))∧v.shp=some 4∧v.plain=true∧(∀H,v.own H=(v,H))∧
   (∃e2,AV.freeze deep v (gC t0 (vads l t.occ)++(ext++e))=some ((Tm.sub (cPos L) t).pv,gC t0 (vads l t.occ)++(ext++e2)))∧
   ∀H:Heap,(∀j,ext.length+5≤j→H[j]? =(gC t0 (vads l t.occ)++(ext++e))[j]?)→∃H2,AV.freeze deep v H=some ((Tm.sub (cPos L) t).pv,H2):=by
 intro t
 induction t using Tm.induct with
 |h t ih=>
  intro l L ext hf ht hl hp
  have hts:=t.size_eq
  have hlen:=Tm.sizes_len t.args
  obtain⟨n,hn⟩:∃n,n=ext.length+5:=⟨_,rfl⟩
  have h1:=fun X=>canon1_ok t0 t l (ext++X) (by omega)
  obtain⟨K,hK⟩:∃K:List Int→Heap,K=fun l=>gC t0 l++ext:=⟨_,rfl⟩
  have hKs:∀l,gC t0 l++ext=K l:=fun l=>by rw[hK]
  have hKl:∀l,(K l).length=n:=fun l=>by rw[←hKs,gC_len,hn]
  have hKa:∀l X,gC t0 l++(ext++X)=K l++X:=fun l X=>by rw[←hKs,List.append_assoc]
  simp only[←hn]
  simp only[List.append_assoc] at h1
  simp only[hKa] at h1
  simp only[hKa,hKs]
  rw[Tm.occ_eq] at hp ⊢
  by_cases hk:t.kind=0
  ·rw[if_pos hk] at hp ⊢
   have e1:vads l [t.n]=vadd l t.n:=rfl
   rw[e1] at hp ⊢
   have e2:Tm.sub (cPos L) t=tvar ((vadd l t.n).idxOf t.n:Nat):=by
    rw[Tm.sub_eq,if_pos hk]
    unfold cPos
    rw[idx_pre (vadd_mem l t.n) hp]
   rw[e2]
   generalize (((vadd l t.n).idxOf t.n:Nat):Int)=k at*
   generalize vadd l t.n=l2 at*
   refine⟨cagg k (n+6),[.box (some 4) (.pv (some 4) t.pv),.box (some 4) (cagg k (n+6)),.arr (some 4) [] false,.box (some 4) (.pv (some 4) t.pv),.box (some 4) (cagg k (n+6)),.arr (some 4) [] false,.arr (some 4) [] false],?_,rfl,rfl,fun _=>rfl,?_,fun H hH=> ?_⟩
   ·unfold cagg
    refine sem_heap rfl rfl rfl rfl ?_
    have hk':=eq_true hk
    have h2:=h1 [.box (some 4) (.pv (some 4) t.pv),.box (some 4) (cagg 0 (n+2)),.arr (some 4) [] false] (n+3) (by rw[hn];simp)
    simp only[Tm.av,cagg,List.cons_append,List.nil_append] at h2
    rw[hKl]
    simp -dsimp -implicitDefEqProofs only[go_sem,seval,↓reduceIte,Tm.av,cagg,part_kind,hk',h2,own_cons_sl,List.append_assoc,get_pre,get_pre0,set_pre,set_pre0,Nat.add_assoc,List.length_append,hKl,getN (hKl _),getN0 (hKl _),setN (hKl _),setN0 (hKl _),w_store_agg (Nat.le_add_right _ _)]
    rw[if_neg (by simp[AV.refsIn,AV.refsIn.go])]
   ·refine⟨[.box (some 4) (.pv (some 4) t.pv),.box (some 4) (cagg k (n+6)),.arr (some 4) [] false,.box (some 4) (.pv (some 4) t.pv),.box (some 4) (cagg k (n+6)),.arr (some 4) [] false,.arr (some 4) [] true],?_⟩
    rw[cagg_freeze (by rw[getN (hKl _)];rfl),setN (hKl _)]
    rfl
   ·exact⟨_,cagg_freeze (by rw[hH _ (by omega),getN (hKl _)];rfl)⟩
  ·rw[if_neg hk] at hp ⊢
   rw[sub_occ_arg hk]
   obtain⟨ts',hts'⟩:∃ts',ts'=t.args.map (Tm.sub (cPos L)):=⟨_,rfl⟩
   have htl:ts'.length=t.args.length:=by rw[hts',List.length_map]
   rw[←hts']
   refine⟨.agg [(none,.pv none (.int .i64 t.kind)),(none,.pv none (.int .i64 t.n)),(none,.pv none (.str t.name)),(none,.sl (some 4) (n+5) t.args.length 0 t.args.length)],
    [.box (some 4) (.pv (some 4) t.pv),.box (some 4) (.agg [(none,.pv none (.int .i64 t.kind)),(none,.pv none (.int .i64 t.n)),(none,.pv none (.str t.name)),(none,.sl (some 4) (n+5) t.args.length 0 t.args.length)]),.arr (some 4) [] false,.box (some 4) (.agg [(none,.pv none (.int .i64 t.kind)),(none,.pv none (.int .i64 t.n)),(none,.pv none (.str t.name)),(none,.sl (some 4) (n+5) t.args.length 0 t.args.length)]),.arr (some 4) [] false,.arr (some 4) (Tm.pvs ts') false],?_,rfl,rfl,fun _=>rfl,?_,?_⟩
   ·refine sem_heap rfl rfl rfl rfl ?_
    have hk':=eq_false hk
    have hb:sBuild [(none,.pv none (.int .i64 0)),(none,.pv none (.int .i64 0)),(none,.pv none (.str [])),(none,.tsl (some 4) [])] [0,1,2] [.pv none (.int .i64 t.kind),.pv none (.int .i64 t.n),.pv none (.str t.name)]=some (.agg [(none,.pv none (.int .i64 t.kind)),(none,.pv none (.int .i64 t.n)),(none,.pv none (.str t.name)),(none,.tsl (some 4) [])]):=rfl
    have hle:∀k,n≤n+k:=fun k=>Nat.le_add_right _ _
    rw[hKl]
    simp -dsimp -implicitDefEqProofs only[go_sem,seval,↓reduceIte,Tm.av,part_kind,part_n,part_name,part_args,hk',Tm.pvs_len,hb,w_store_agg (Nat.le_add_right _ _),List.append_assoc,get_pre,get_pre0,set_pre,set_pre0,Nat.add_assoc,List.length_append,hKl,getN (hKl _),getN0 (hKl _),setN (hKl _),setN0 (hKl _)]
    refine W_for (α:=Unit) t.args.length (fun _ _=>True) (fun i _=>⟨[(1,.func (.func 97) [] [.ptr 4 0]),(4,.ptr (n+1) 0),(5,.ptr (n+3) 0),(22,.pv none (.sl (some 4) (Tm.pvs t.args))),(23,.pv none (.int .i64 t.args.length)),(24,.pv none (.int .i64 i))],K (vads l (Tm.occs (t.args.take i)))++appC n t ts' i⟩) () ⟨trivial,?_⟩ ?_ ?_
    ·rw[List.take_zero]
     rfl
    ·rintro i - h -
     have hc:(i:Int)<(t.args.length:Int):=by omega
     obtain⟨u,hu⟩:∃u,t.args[i]? =some u:=⟨_,List.getElem?_eq_getElem h⟩
     have hum:=List.mem_of_getElem? hu
     have husz:=Tm.arg_lt hum
     have hst:=Tm.sizes_take hu
     have hle2:=Tm.sizes_take_le t.args (i+1)
     have hvl:=vads_len (Tm.occs (t.args.take i)) l
     have hol:=Tm.occs_len (t.args.take i)
     have hpre:vads (vads l (Tm.occs (t.args.take i))) u.occ <+: L:=by
      rw[←vads_app,←Tm.occs_take hu]
      refine List.IsPrefix.trans ?_ hp
      have e:=List.take_append_drop (i+1) t.args
      rw[←e,occs_app,vads_app,e]
      exact vads_pre _ _
     obtain⟨v,e,hcall,hvs,hvp,_,⟨e2,hfz⟩,_⟩:=ih u hum (vads l (Tm.occs (t.args.take i))) L (ext++(appC n t ts' i++[.box (some 4) (.pv (some 4) u.pv),.arr (some 4) [] false])) (Tm.fits_arg hf hum) (by omega) (by omega) hpre
     rw[←vads_app,←Tm.occs_take hu] at hcall hfz
     simp only[List.append_assoc,hKa] at hcall hfz
     generalize vads l (Tm.occs (t.args.take (i+1)))=l2 at hcall hfz ⊢
     generalize vads l (Tm.occs (t.args.take i))=l1 at hcall hfz hvl ⊢
     have w2:IntKind.i64.wrap ((i:Int)+1)=((i+1:Nat):Int):=by rw[wrap64 (by omega) (by omega)];omega
     have hl:(Tm.pvs (ts'.take i)).length=i:=by rw[Tm.pvs_len,List.length_take];omega
     have hlim:i+1≤lim:=by unfold lim;omega
     have hus:ts'[i]? =some (Tm.sub (cPos L) u):=by rw[hts'];simp[hu]
     have hbs:wBslice (some 4) (K l2++(appC n t ts' i++([.box (some 4) (.pv (some 4) u.pv),.arr (some 4) [] false]++e))) [v]=some (.tsl (some 4) [(Tm.sub (cPos L) u).pv],K l2++(appC n t ts' i++([.box (some 4) (.pv (some 4) u.pv),.arr (some 4) [] false]++e2))):=by
      simp only[wBslice,freezeAll,hfz,hvs,ofShape,if_true]
     have hs1:∀(k k':List Int) (e e':Heap),samePtr (K k++(appC n t ts' i++e)) (K k'++(appC n t ts' i++e')) (.ptr (n+3) 3)=true:=fun k k' e e'=>samePtr_c (t:=t) (q:=n+5) (i:=i) (by rw[getN (hKl _)];rfl) (by rw[getN (hKl _)];rfl)
     simp only[Tm.av] at hcall
     simp only[appC,List.append_assoc,List.cons_append,List.nil_append] at hcall hbs hs1
     simp -dsimp -implicitDefEqProofs only[go_sem,seval,↓reduceIte,appC,hc,s_iaddr_pv (Tm.pvs_get hu),op_bslicen,List.take_succ_cons,List.drop_succ_cons,List.all_cons,List.all_nil,hcall,hbs,hs1,w2,hl,hlim,Tm.pvs_take_succ hus,w_store_agg (Nat.le_add_right _ _),w_store_sl (Nat.le_add_right _ _),List.append_assoc,get_pre,get_pre0,set_pre,set_pre0,Nat.add_assoc,List.length_append,hKl,getN (hKl _),getN0 (hKl _),setN (hKl _),setN0 (hKl _)]
     refine⟨(),?_⟩
     rw[collect_pre 6 (hKl _) rfl (by simp[AObj.refs,AV.ofComps,pures,AV.refsIn,AV.refsIn.go]) (by simp[AV.refsIn,AV.refsIn.gol])]
     rfl
    ·rintro - -
     have hc:¬(t.args.length:Int)<(t.args.length:Int):=by omega
     have htk:ts'.take t.args.length=ts':=List.take_of_length_le (by omega)
     simp -dsimp -implicitDefEqProofs only[go_sem,seval,↓reduceIte,appC,hc,List.take_length,htk,own_cons_sl,w_store_agg (Nat.le_add_right _ _),w_store_sl (Nat.le_add_right _ _),List.append_assoc,get_pre,get_pre0,set_pre,set_pre0,Nat.add_assoc,List.length_append,hKl,getN (hKl _),getN0 (hKl _),setN (hKl _),setN0 (hKl _)]
     rw[if_neg (by simp[AV.refsIn,AV.refsIn.go])]
   ·have e:∀l hp,AV.freeze (7+1) (.agg l) hp=match AV.freeze.go 7 l hp with|some (ps,hp')=>some (.agg ps,hp')|none=>none:=fun _ _=>rfl
    refine⟨[.box (some 4) (.pv (some 4) t.pv),.box (some 4) (.agg [(none,.pv none (.int .i64 t.kind)),(none,.pv none (.int .i64 t.n)),(none,.pv none (.str t.name)),(none,.sl (some 4) (n+5) t.args.length 0 t.args.length)]),.arr (some 4) [] false,.box (some 4) (.agg [(none,.pv none (.int .i64 t.kind)),(none,.pv none (.int .i64 t.n)),(none,.pv none (.str t.name)),(none,.sl (some 4) (n+5) t.args.length 0 t.args.length)]),.arr (some 4) [] false,.arr (some 4) (Tm.pvs ts') true],?_⟩
    show AV.freeze (7+1) (.agg _) _=_
    simp[e,AV.freeze.go,AV.freeze,getN (hKl _),setN (hKl _),htl,Tm.pvs_len,Tm.pv]
   ·intro H hH
    have h5:=hH (n+5) (by omega)
    rw[getN (hKl _)] at h5
    have e:∀l hp,AV.freeze (7+1) (.agg l) hp=match AV.freeze.go 7 l hp with|some (ps,hp')=>some (.agg ps,hp')|none=>none:=fun _ _=>rfl
    refine⟨H.set (n+5) (.arr (some 4) (Tm.pvs ts') true),?_⟩
    show AV.freeze (7+1) (.agg _) _=_
    simp only[List.getElem?_cons_succ,List.getElem?_cons_zero] at h5
    simp[e,AV.freeze.go,AV.freeze,h5,htl,Tm.pvs_len,Tm.pv]
def canR(t:Tm):Tm:=if t.valid=true then canT t else zt
theorem canon_ok(t:Tm)(hp:Heap)(ht:t.size<1000000000):S 47 [t.av] hp=some (.ret (canR t).av,hp):=by
 refine sem_pure rfl rfl rfl (freezeAll_pvs [(some 4,t.pv)]) rfl ?_
 have h1:=fun hp=>valid_ok t hp ht
 unfold canR
 by_cases hv:t.valid=true
 ·rw[if_pos hv]
  have hsz:=valid_size hv
  obtain⟨v,e,h2,h3,h4,h5,_,h6⟩:=apply_canon t t [] (vads [] t.occ) [] (valid_fits hv) (by omega) (by simp;omega) (List.prefix_refl _)
  rw[hv] at h1
  simp only[Tm.av,gC,cagg,List.cons_append,List.nil_append] at h1 h2
  have hmk:∀(a0 a1 a2:AObj),wStore none 0 [a0,a1,a2,.map none [],.box none (.pv none .nilmap)] [.ptr 4 0,.map 3]=some (.undef,[a0,a1,a2,.map none [],.box none (.map 3)]):=fun _ _ _=>rfl
  have e0:kEnts (posF 0 [])=[]:=rfl
  rw[e0] at h2
  have hst:∀(a0 a2 a3 a4:AObj),wStore (some 4) 0 (a0::.box (some 4) (.agg [(none,.pv none (.int .i64 0)),(none,.pv none (.int .i64 0)),(none,.pv none (.str [])),(none,.sl (some 4) 2 0 0 0)])::a2::a3::a4::e) [.ptr 1 0,v]=some (.undef,a0::.box (some 4) v::a2::a3::a4::e):=fun _ _ _ _=>by
   simp[wStore,astore,h3,h4,h5]
  have hfr:∀(a0 a1 a2 a3 a4:AObj),Am.frozen (canT t).av v (a0::a1::a2::a3::a4::e):=fun a0 a1 a2 a3 a4=>by
   obtain⟨H2,k⟩:=h6 (a0::a1::a2::a3::a4::e) fun j hj=>by
    match j,hj with
    |j+5,_=>rfl
   exact frozen_of h3 h4 k
  simp -dsimp -implicitDefEqProofs only[go_sem,seval,↓reduceIte,Tm.av,h1,h2,hst,hmk,w_store_agg (Nat.zero_le _)]
  exact hfr _ _ _ _ _
 ·rw[if_neg hv]
  have hv':t.valid=false:=by simpa using hv
  rw[hv'] at h1
  simp only[Tm.av] at h1
  simp -dsimp -implicitDefEqProofs only[go_sem,seval,↓reduceIte,Tm.av,h1,w_store_agg (Nat.zero_le _),zt]
  exact⟨_,rfl⟩
def qd(t:Tm):Prop:=t.kind=3∧t.name=[94]∧t.args.length=2
instance (t:Tm):Decidable (qd t):=inferInstanceAs (Decidable (_∧_))
def arg0(t:Tm):Tm:=match t.args with
 |x::_=>x
 |_=>.mk 0 0 [] []
def arg1(t:Tm):Tm:=match t.args with
 |_::y::_=>y
 |_=>.mk 0 0 [] []
theorem args_two{t:Tm}(h:t.args.length=2):t.args=[arg0 t,arg1 t]:=by
 unfold arg0 arg1
 match e:t.args,h with
 |[x,y],_=>rfl
theorem get_arg1{t:Tm}(h:t.args.length=2):t.args[1]? =some (arg1 t):=by rw[args_two h];rfl
theorem mem_arg1{t:Tm}(h:t.args.length=2):arg1 t∈t.args:=List.mem_of_getElem? (get_arg1 h)
def inner(t:Tm):Tm:=if h:qd t then inner (arg1 t) else t
termination_by t.size
decreasing_by exact Tm.arg_lt (mem_arg1 h.2.2)
def quants(t:Tm):List Tm:=if h:qd t then arg0 t::quants (arg1 t) else[]
termination_by t.size
decreasing_by exact Tm.arg_lt (mem_arg1 h.2.2)
def hid(p g:Tm):List Int:=p.occ++Tm.occs (quants g)
def free(p g:Tm):List Int:=(vads [] g.occ).filter fun v=>decide (v ∉ hid p g)
def nilT:Tm:=.mk 2 0 [91,93] []
def consT(x y:Tm):Tm:=.mk 3 0 [46] [x,y]
def lst:List Tm→Tm
 |[]=>nilT
 |x::r=>consT x (lst r)
def tvs(l:List Int):List Tm:=l.map tvar
def zg(q:Nat):AV:=.agg [(none,.pv none (.int .i64 0)),(none,.pv none (.int .i64 0)),(none,.pv none (.str [])),(none,.sl (some 4) q 0 0 0)]
structure QR{α:Type}(K:α→Tm→Heap)(N r c:Nat)(f:FuncId)(step:α→Tm→Tm→α):Prop where
 len:∀s g,(K s g).length=N
 fn:∀s g,loopFn (K s g)[r]? =some f
 rlt:r<N
 clt:c<N
 box:∀s g,(K s g)[c]? =some (.box (some 4) (.pv (some 4) g.pv))
 set:∀s g g',(K s g).set c (.box (some 4) (.pv (some 4) g'.pv))=K s g'
 call:∀s g v w ext,v.valid=true→w.valid=true→sem (find tab) prim .rnd f [.yield r,v.av,w.av] (K s g++ext)=some (.ret (.pv none (.bool true)),K (step s v w) g++ext)
def qfold{α:Type}(step:α→Tm→Tm→α)(s:α)(t:Tm):α:=if h:qd t then qfold step (step s (arg0 t) (arg1 t)) (arg1 t) else s
termination_by t.size
decreasing_by exact Tm.arg_lt (mem_arg1 h.2.2)
def hc61(g0 s g:Tm):Heap:=[.box (some 4) (.pv (some 4) g0.pv),.box (some 4) (zg 2),.arr (some 4) [] false,.box (some 4) (.pv (some 4) s.pv),.arr (some 4) [] false,.box (some 4) (.pv (some 4) g.pv),.loop 61 [9,10] [(3,.ptr 3 0)] false]
def stR(t:Tm):Tm:=if t.valid=true then inner t else zt
def lh(l:List Tm):Nat→Heap
 |0=>[.box (some 4) (zg 1),.arr (some 4) [] false,.box (some 4) (.agg [(none,.pv none (.int .i64 2)),(none,.pv none (.int .i64 0)),(none,.pv none (.str [91,93])),(none,.sl (some 4) 4 0 0 0)]),.arr (some 4) [] false,.arr (some 4) [] false]
 |i+1=>[.box (some 4) (zg 1),.arr (some 4) [] false,.box (some 4) (.pv (some 4) (lst (l.drop (l.length - (i+1)))).pv),.arr (some 4) [] false,.arr (some 4) [] true]
theorem pstruct_ok(x y:Tm)(hp:Heap):S 51 [.pv none (.str [46]),.tsl (some 4) [x.pv,y.pv]] hp=some (.ret (consT x y).av,hp):=by
 refine sem_pure (ps:=[(none,.str [46]),(none,.sl (some 4) [x.pv,y.pv])]) rfl rfl rfl rfl rfl ?_
 have hb:sBuild [(none,.pv none (.int .i64 0)),(none,.pv none (.int .i64 0)),(none,.pv none (.str [])),(none,.tsl (some 4) [])] [0,2,3] [.pv none (.int .i64 3),.pv none (.str [46]),.pv none (.sl (some 4) [x.pv,y.pv])]=some (.pv (some 4) (consT x y).pv):=rfl
 simp -dsimp -implicitDefEqProofs only[go_sem,seval,↓reduceIte,hb]
 try rfl
theorem plist_ok(l:List Tm)(hl:l.length<1000000000)(hp:Heap):S 52 [.pv none (.sl (some 4) (Tm.pvs l))] hp=some (.ret (lst l).av,hp):=by
 refine sem_pure rfl rfl rfl (freezeAll_pvs [(none,.sl (some 4) (Tm.pvs l))]) rfl ?_
 have hb:sBuild [(none,.pv none (.int .i64 0)),(none,.pv none (.int .i64 0)),(none,.pv none (.str [])),(none,.tsl (some 4) [])] [0,2] [.pv none (.int .i64 2),.pv none (.str [91,93])]=some (.agg [(none,.pv none (.int .i64 2)),(none,.pv none (.int .i64 0)),(none,.pv none (.str [91,93])),(none,.tsl (some 4) [])]):=rfl
 have hw:IntKind.i64.wrap ((l.length:Int) - 1)=(l.length:Int) - 1:=wrap64 (by omega) (by omega)
 simp -dsimp -implicitDefEqProofs only[go_sem,seval,↓reduceIte,hb,hw,Tm.pvs_len,w_store_agg (Nat.zero_le _)]
 refine W_for (α:=Unit) l.length (fun _ _=>True) (fun i _=>⟨[(0,.pv none (.sl (some 4) (Tm.pvs l))),(2,.ptr 0 0),(3,.ptr 2 0),(4,.pv none (.int .i64 ((l.length:Int) - 1 - (i:Int))))],lh l i⟩) () ⟨trivial,?_⟩ ?_ ?_
 ·rw[show(l.length:Int) - 1 - ((0:Nat):Int)=(l.length:Int) - 1 by omega]
  rfl
 ·rintro i - h -
  obtain⟨j,hj⟩:∃j,j=l.length - 1 - i:=⟨_,rfl⟩
  have ej:(l.length:Int) - 1 - (i:Int)=(j:Int):=by omega
  have hc:(0:Int)≤(j:Int):=by omega
  obtain⟨u,hu⟩:∃u,l[j]? =some u:=⟨_,List.getElem?_eq_getElem (by omega)⟩
  have hdr:l.drop (l.length - (i+1))=u::l.drop (l.length - i):=by
   obtain⟨q1,e1⟩:=List.getElem?_eq_some_iff.1 hu
   have ea:l.length - (i+1)=j:=by omega
   have eb:l.length - i=j+1:=by omega
   rw[ea,eb,List.drop_eq_getElem_cons (by omega),e1]
  have w5:IntKind.i64.wrap ((j:Int) - 1)=(l.length:Int) - 1 - ((i+1:Nat):Int):=by rw[wrap64 (by omega) (by omega)];omega
  have hst:=fun hp=>pstruct_ok u (lst (l.drop (l.length - i))) hp
  simp only[Tm.av] at hst
  cases i with
  |zero=>
   have ej0:(l.length:Int) - 1 - 0=(j:Int):=by omega
   have hd0:l.drop (l.length - 0)=[]:=by rw[Nat.sub_zero,List.drop_length]
   rw[hd0] at hst hdr
   have hbs:∀a0 a1 a3:AObj,wBslice (some 4) [a0,a1,.box (some 4) (.agg [(none,.pv none (.int .i64 2)),(none,.pv none (.int .i64 0)),(none,.pv none (.str [91,93])),(none,.sl (some 4) 4 0 0 0)]),a3,.arr (some 4) [] false] [.pv (some 4) u.pv,.agg [(none,.pv none (.int .i64 2)),(none,.pv none (.int .i64 0)),(none,.pv none (.str [91,93])),(none,.sl (some 4) 4 0 0 0)]]=some (.tsl (some 4) [u.pv,(lst []).pv],[a0,a1,.box (some 4) (.agg [(none,.pv none (.int .i64 2)),(none,.pv none (.int .i64 0)),(none,.pv none (.str [91,93])),(none,.sl (some 4) 4 0 0 0)]),a3,.arr (some 4) [] true]):=fun _ _ _=>rfl
   simp -dsimp -implicitDefEqProofs only[ej0,lh,go_sem,seval,↓reduceIte,hc,w5,s_iaddr_pv (Tm.pvs_get hu),hst,hbs,w_store_agg (Nat.zero_le _)]
   rw[hdr]
   exact⟨(),rfl⟩
  |succ i=>
   simp -dsimp -implicitDefEqProofs only[ej,lh,go_sem,seval,↓reduceIte,hc,w5,s_iaddr_pv (Tm.pvs_get hu),hst,w_store_agg (Nat.zero_le _)]
   rw[hdr]
   exact⟨(),rfl⟩
 ·rintro - -
  have hc:¬(0:Int)≤(l.length:Int) - 1 - (l.length:Int):=by omega
  cases hn:l.length with
  |zero=>
   rw[hn] at hc
   have:l=[]:=List.eq_nil_of_length_eq_zero hn
   subst this
   simp -dsimp -implicitDefEqProofs only[go_sem,seval,↓reduceIte,lh,hc,own_cons_sl,w_store_agg (Nat.zero_le _)]
   exact⟨_,rfl⟩
  |succ n=>
   rw[hn] at hc
   have e:l.drop (l.length - (n+1))=l:=by rw[hn,Nat.sub_self,List.drop_zero]
   simp -dsimp -implicitDefEqProofs only[go_sem,seval,↓reduceIte,lh,hc,e,w_store_agg (Nat.zero_le _)]
   try rfl
theorem IsV.elems{s:AV}{hp:Heap}{l:List Int}(h:IsV s hp l):Am.elems hp s=some (none,ints l):=by
 rcases h with⟨rfl,rfl⟩|⟨r,rfl,h⟩
 ·rfl
 ·simp[Am.elems,h,ints_len]
def flatQ(g:Tm):List Int:=(quants g).flatMap fun q=>vads [] q.occ
def hl(p g:Tm):List Int:=vads [] p.occ++flatQ g
theorem IsV.keep{s:AV}{hp hp':Heap}{l:List Int}(h:IsV s hp l)(hP:PresV (.tsl none []) hp hp'):IsV s hp' l:=by
 rcases h with h|⟨r,h1,h2⟩
 ·exact .inl h
 ·exact .inr ⟨r,h1,hP.2 r _ h2 (fun v o n e=>by cases e)⟩
theorem IsV.len{s:AV}{hp:Heap}{l:List Int}(h:IsV s hp l):sLen [s]=some (.pv none (.int .i64 l.length)):=by
 rcases h with⟨rfl,rfl⟩|⟨r,rfl,_⟩ <;> rfl
theorem IsV.get{s:AV}{hp:Heap}{l:List Int}(h:IsV s hp l){i:Nat}{x:Int}(hx:l[i]? =some x):∃a,sIaddr none [s,.pv none (.int .i64 i)]=some a∧aload none hp a=some (.pv none (.int .i64 x)):=by
 rcases h with⟨rfl,rfl⟩|⟨r,rfl,h⟩
 ·simp at hx
 ·have hlt:=(List.getElem?_eq_some_iff.1 hx).1
  refine⟨_,s_iaddr_sl hlt,?_⟩
  simp[aload,h,ints_len,ints_get hx,toAV]
theorem IsV.other{s:AV}{hp:Heap}{l:List Int}(h:IsV s hp l){r:Nat}{es es':List PV}{z z':Bool}(hr:hp[r]? =some (.arr (some 4) es z)):IsV s (hp.set r (.arr (some 4) es' z')) l:=by
 rcases h with h|⟨q,h1,h2⟩
 ·exact .inl h
 ·refine .inr ⟨q,h1,?_⟩
  have:r≠q:=fun e=>by rw[e,h2] at hr;cases hr
  rw[List.getElem?_set_ne this]
  exact h2
def frR(p g:Tm):Tm:=if p.valid=true∧g.valid=true then(if(lst (tvs (free p g))).valid=true then lst (tvs (free p g)) else zt) else zt
def MapB(m:List (Int × PV))(s:List Int):Prop:=∀v,(mFind v m).getD (.bool false)=.bool (decide (v∈s))
theorem MapB.put{m:List (Int × PV)}{s:List Int}(h:MapB m s)(v:Int):MapB (mPut v (.bool true) m) (s++[v]):=fun w=>by
 rw[mFind_put]
 by_cases e:w=v
 ·rw[if_pos e];simp[e]
 ·rw[if_neg e,h w];simp[e]
def marks(m:List (Int × PV))(l:List Int):List (Int × PV):=l.foldl (fun m v=>mPut v (.bool true) m) m
theorem MapB.marks{m:List (Int × PV)}{s:List Int}(h:MapB m s)(l:List Int):MapB (marks m l) (s++l):=by
 induction l generalizing m s with
 |nil=>rw[List.append_nil];exact h
 |cons v r ih=>
  have:=ih (h.put v)
  rw[List.append_assoc] at this
  exact this
abbrev mstep:List (Int × PV)→Tm→Tm→List (Int × PV):=fun m v _=>marks m (vads [] v.occ)
def hc21(p g0:Tm)(m:List (Int × PV))(g:Tm):Heap:=[.box (some 4) (.pv (some 4) p.pv),.box (some 4) (.pv (some 4) g0.pv),.box (some 4) (zg 3),.arr (some 4) [] false,.map none (kEnts m),.box none (.map 4),.box none (.func (.func 63) [] [.ptr 5 0]),.box (some 4) (.pv (some 4) g.pv),.loop 21 [27,28] [(6,.ptr 6 0)] false]
def cs(t:Tm):Prop:=t.kind=3∧t.name=[46]∧t.args.length=2
instance (t:Tm):Decidable (cs t):=inferInstanceAs (Decidable (_∧_))
def tl(t:Tm):Tm:=if h:cs t then tl (arg1 t) else t
termination_by t.size
decreasing_by exact Tm.arg_lt (mem_arg1 h.2.2)
def els(t:Tm):List Tm:=if h:cs t then arg0 t::els (arg1 t) else[]
termination_by t.size
decreasing_by exact Tm.arg_lt (mem_arg1 h.2.2)
def ll(t:Tm):Prop:=(tl t).kind=0∨((tl t).kind=2∧(tl t).name=[91,93])
instance (t:Tm):Decidable (ll t):=inferInstanceAs (Decidable (_∨_))
def mx(x y:Int):Int:=if x<y then y else x
def nxt(l:List Int):Int:=l.foldl (fun n v=>mx n (v+1)) 0
theorem isNaN_ok(hp:Heap)(x:Int):S 139 [.pv none (.int .i64 x)] hp=some (.ret (.pv none (.bool false)),hp):=by
 refine sem_pure rfl rfl rfl (freezeAll_pvs [(none,.int .i64 x)]) rfl ?_
 (repeat' (first|(simp -dsimp -implicitDefEqProofs only[go_sem,seval,↓reduceIte, *])|(refine iteK_intro (fun _=> ?_) (fun _=> ?_))))
theorem cmpInt_ok(hp:Heap)(x y:Int):S 116 [.pv none (.int .i64 x),.pv none (.int .i64 y)] hp=some (.ret (.pv none (.int .i64 (cmpI x y))),hp):=by
 refine sem_pure rfl rfl rfl (freezeAll_pvs [(none,.int .i64 x),(none,.int .i64 y)]) rfl ?_
 (repeat' (first|(simp -dsimp -implicitDefEqProofs only[go_sem,seval,↓reduceIte,isNaN_ok,cmpI, *])|(refine iteK_intro (fun _=> ?_) (fun _=> ?_))))
theorem rnumber_ok(hp:Heap)(x y:Int):S 135 [.pv none (.int .i64 x),.pv none (.int .i64 y)] hp=some (.ret (.pv none (.int .i64 (cmpI x y))),hp):=by
 refine sem_pure rfl rfl rfl (freezeAll_pvs [(none,.int .i64 x),(none,.int .i64 y)]) rfl ?_
 (repeat' (first|(simp -dsimp -implicitDefEqProofs only[go_sem,seval,↓reduceIte,cmpI, *])|(refine iteK_intro (fun _=> ?_) (fun _=> ?_))))
theorem cmpString_ok(hp:Heap)(x y:List UInt8):S 141 [.pv none (.str x),.pv none (.str y)] hp=some (.ret (.pv none (.int .i64 (Lib.compareBytes x y))),hp):=by
 refine sem_pure rfl rfl rfl (freezeAll_pvs [(none,.str x),(none,.str y)]) rfl ?_
 have h:∀hp,S 152 [.pv none (.str x),.pv none (.str y)] hp=some (.ret (.pv none (.int .i64 (Lib.compareBytes x y))),hp):=fun hp=>(sem_prim (p:=primCmp) rfl _ _).trans rfl
 (repeat' (first|(simp -dsimp -implicitDefEqProofs only[go_sem,seval,↓reduceIte, *])|(refine iteK_intro (fun _=> ?_) (fun _=> ?_))))
theorem stringsCompare_ok(hp:Heap)(x y:List UInt8):S 118 [.pv none (.str x),.pv none (.str y)] hp=some (.ret (.pv none (.int .i64 (Lib.compareBytes x y))),hp):=by
 refine sem_pure rfl rfl rfl (freezeAll_pvs [(none,.str x),(none,.str y)]) rfl ?_
 (repeat' (first|(simp -dsimp -implicitDefEqProofs only[go_sem,seval,↓reduceIte,cmpString_ok, *])|(refine iteK_intro (fun _=> ?_) (fun _=> ?_))))
theorem rnames_ok(hp:Heap)(x y:List UInt8)(hx:x.length<1000000000):S 136 [.pv none (.str x),.pv none (.str y)] hp=some (.ret (.pv none (.int .i64 (Lib.compareBytes x y))),hp):=by
 refine sem_pure rfl rfl rfl (freezeAll_pvs [(none,.str x),(none,.str y)]) rfl ?_
 simp -dsimp -implicitDefEqProofs only[go_sem,seval,↓reduceIte]
 refine W_loop (fun n st=>∃i:Nat,n=x.length - i∧i≤x.length∧i≤y.length∧Lib.compareBytes x y=Lib.compareBytes (x.drop i) (y.drop i)∧st=⟨[(0,.pv none (.str x)),(1,.pv none (.str y)),(5,.pv none (.int .i64 i))],[]⟩) (n:=x.length) ⟨0,rfl,Nat.zero_le _,Nat.zero_le _,rfl,?_⟩ ?_
 ·simp -dsimp -implicitDefEqProofs only[go_sem,seval,↓reduceIte]
  try rfl
 ·rintro n st ⟨i,hn,hi,hi',he,rfl⟩
  by_cases h:i<x.length
  ·have hc:(i:Int)<(x.length:Int):=by omega
   by_cases h':i<y.length
   ·have hc':(i:Int)<(y.length:Int):=by omega
    have w2:IntKind.i64.wrap ((i:Int)+1)=((i+1:Nat):Int):=by rw[wrap64 (by omega) (by omega)];omega
    have ex:x[i]? =some x[i]:=List.getElem?_eq_getElem h
    have ey:y[i]? =some y[i]:=List.getElem?_eq_getElem h'
    have hd:Lib.compareBytes (x.drop i) (y.drop i)=if x[i]<y[i] then -1 else if y[i]<x[i] then 1 else Lib.compareBytes (x.drop (i+1)) (y.drop (i+1)):=by
     rw[List.drop_eq_getElem_cons h,List.drop_eq_getElem_cons h',Lib.compareBytes]
    rw[hd] at he
    have c1:(((x[i].toNat:Nat):Int)<((y[i].toNat:Nat):Int))=(x[i]<y[i]):=propext (by rw[UInt8.lt_iff_toNat_lt];omega)
    have c2:(((y[i].toNat:Nat):Int)<((x[i].toNat:Nat):Int))=(y[i]<x[i]):=propext (by rw[UInt8.lt_iff_toNat_lt];omega)
    by_cases l1:x[i]<y[i]
    ·simp -dsimp -implicitDefEqProofs only[go_sem,seval,↓reduceIte,hc,hc',s_sindex ex,s_sindex ey,c1,c2,l1,he]
    ·by_cases l2:y[i]<x[i]
     ·simp -dsimp -implicitDefEqProofs only[go_sem,seval,↓reduceIte,hc,hc',s_sindex ex,s_sindex ey,c1,c2,l1,l2,he]
     ·simp -dsimp -implicitDefEqProofs only[go_sem,seval,↓reduceIte,hc,hc',s_sindex ex,s_sindex ey,c1,c2,l1,l2,w2]
      rw[if_neg l1,if_neg l2] at he
      exact⟨x.length - (i+1),by omega,i+1,rfl,by omega,by omega,he,rfl⟩
   ·have hc':¬(i:Int)<(y.length:Int):=by omega
    simp -dsimp -implicitDefEqProofs only[go_sem,seval,↓reduceIte,hc,hc',rnumber_ok]
    rw[he,List.drop_eq_getElem_cons h,List.drop_eq_nil_of_le (by omega:y.length≤i)]
    simp only[Lib.compareBytes,cmpI]
    rw[if_neg (by omega),if_pos (by omega)]
  ·have hc:¬(i:Int)<(x.length:Int):=by omega
   simp -dsimp -implicitDefEqProofs only[go_sem,seval,↓reduceIte,hc,rnumber_ok]
   rw[he,List.drop_eq_nil_of_le (by omega:x.length≤i)]
   by_cases h':i<y.length
   ·rw[List.drop_eq_getElem_cons h']
    simp only[Lib.compareBytes,cmpI]
    rw[if_pos (by omega)]
   ·rw[List.drop_eq_nil_of_le (by omega:y.length≤i)]
    simp only[Lib.compareBytes,cmpI]
    rw[if_neg (by omega),if_neg (by omega)]


theorem rcompare_loop(a b:Tm)(ih:∀u,u∈a.args→∀(b:Tm) (hp:Heap),u.size<1000000000→u.fits=true→b.fits=true→S 105 [u.av,b.av] hp=some (.ret (.pv none (.int .i64 (u.cmp b))),hp))
  (ha:a.size<1000000000)(fa:a.fits=true)(fb:b.fits=true)(v:Int)(hl:v=0→a.args.length=b.args.length)(fr:Fr)(Q:AExit→St→Prop)
  (hfr:fr.keep [2,3,5,6]=[(2,.ptr 0 0),(3,.ptr 1 0),(5,.pv none (.int .i64 v)),(6,.pv none (.int .i64 0))])
  (h:∀r,Q (.exit 0) ⟨(2,.ptr 0 0)::(3,.ptr 1 0)::(5,.pv none (.int .i64 (thenI v (Tm.cmps a.args b.args))))::r,[.box (some 4) (.pv (some 4) a.pv),.box (some 4) (.pv (some 4) b.pv)]⟩):
  W (sem (find tab) prim) (sloop (find tab) prim) 0 (.loop [2,3,5,6] c105b17) ⟨fr,[.box (some 4) (.pv (some 4) a.pv),.box (some 4) (.pv (some 4) b.pv)]⟩ Q:=by
 have hts:=a.size_eq
 have hlen:=Tm.sizes_len a.args
 refine W_loop (fun n st=>∃(i:Nat) (c:Int),n=a.args.length - i∧i≤a.args.length∧(c=0→a.args.length=b.args.length)∧thenI v (Tm.cmps a.args b.args)=thenI c (Tm.cmps (a.args.drop i) (b.args.drop i))∧
  st=⟨[(2,.ptr 0 0),(3,.ptr 1 0),(5,.pv none (.int .i64 c)),(6,.pv none (.int .i64 i))],[.box (some 4) (.pv (some 4) a.pv),.box (some 4) (.pv (some 4) b.pv)]⟩) (n:=a.args.length) ⟨0,v,rfl,Nat.zero_le _,hl,rfl,?_⟩ ?_
 ·rw[hfr]
  rfl
 ·rintro n st ⟨i,c,hn,hi,hcl,he,rfl⟩
  by_cases hi':i<a.args.length
  ·have hc:(i:Int)<(a.args.length:Int):=by omega
   by_cases h0:c=0
   ·subst h0
    have hlb:=hcl rfl
    obtain⟨u,hu⟩:∃u,a.args[i]? =some u:=⟨_,List.getElem?_eq_getElem hi'⟩
    obtain⟨w,hw⟩:∃w,b.args[i]? =some w:=⟨_,List.getElem?_eq_getElem (by omega)⟩
    have hum:=List.mem_of_getElem? hu
    have husz:=Tm.arg_lt hum
    have hcall:=fun hp=>ih u hum w hp (by omega) (Tm.fits_arg fa hum) (Tm.fits_arg fb (List.mem_of_getElem? hw))
    have w2:IntKind.i64.wrap ((i:Int)+1)=((i+1:Nat):Int):=by rw[wrap64 (by omega) (by omega)];omega
    simp -dsimp -implicitDefEqProofs only[g105,c105r0,c105r1,c105r2,c105k3,c105r4,c105r5,c105r6,c105k7,c105r8,c105r9,c105k10,c105r11,c105r12,c105k13,c105r14,c105k15,c105r16,c105b17,c105k18,c105r19,c105,go_sem,seval,↓reduceIte,part_args,Tm.pvs_len,hc,s_iaddr_pv (Tm.pvs_get hu),s_iaddr_pv (Tm.pvs_get hw),show AV.pv (some 4) u.pv=u.av from rfl,show AV.pv (some 4) w.pv=w.av from rfl,hcall,w2]
    exact⟨a.args.length - (i+1),by omega,i+1,u.cmp w,rfl,by omega,fun _=>hlb,by rw[he,thenI_zero,Tm.cmps_drop hu hw],rfl⟩
   ·simp -dsimp -implicitDefEqProofs only[g105,c105r0,c105r1,c105r2,c105k3,c105r4,c105r5,c105r6,c105k7,c105r8,c105r9,c105k10,c105r11,c105r12,c105k13,c105r14,c105k15,c105r16,c105b17,c105k18,c105r19,c105,go_sem,seval,↓reduceIte,part_args,Tm.pvs_len,hc,h0]
    rw[thenI_ne h0] at he
    rw[he] at h
    exact h _
  ·have hc:¬(i:Int)<(a.args.length:Int):=by omega
   obtain rfl:i=a.args.length:=by omega
   simp -dsimp -implicitDefEqProofs only[g105,c105r0,c105r1,c105r2,c105k3,c105r4,c105r5,c105r6,c105k7,c105r8,c105r9,c105k10,c105r11,c105r12,c105k13,c105r14,c105k15,c105r16,c105b17,c105k18,c105r19,c105,go_sem,seval,↓reduceIte,part_args,Tm.pvs_len,hc]
   rw[List.drop_length,Tm.cmps_nil_left,thenI_right] at he
   rw[he] at h
   exact h _

theorem rcompare_ok:∀(a b:Tm) (hp:Heap),a.size<1000000000→a.fits=true→b.fits=true→S 105 [a.av,b.av] hp=some (.ret (.pv none (.int .i64 (a.cmp b))),hp):=by
 intro a
 induction a using Tm.induct with
 |h a ih=>
  intro b hp ha fa fb
  have na:a.name.length<1000000000:=by
   have:=a.fits_eq
   rw[fa] at this
   exact Tm.node_name (by simpa using this.symm)
  refine sem_pure rfl rfl rfl (freezeAll_pvs [(some 4,a.pv),(some 4,b.pv)]) rfl ?_
  rw[Tm.cmp_eq]
  have loop:=rcompare_loop a b ih ha fa fb
  clear ih
  by_cases hk:a.kind=b.kind
  ·have hk':cmpI b.kind b.kind=0:=cmpI_self _
   have hnam:=fun hp=>rnames_ok hp a.name b.name na
   (repeat' (first|(simp -dsimp -implicitDefEqProofs only[g105,c105r0,c105r1,c105r2,c105k3,c105r4,c105r5,c105r6,c105k7,c105r8,c105r9,c105k10,c105r11,c105r12,c105k13,c105r14,c105k15,c105r16,c105k18,c105r19,c105,go_sem,seval,↓reduceIte,part_kind,part_n,part_name,part_args,Tm.pvs_len,thenI_zero,rnumber_ok, *])|(refine iteK_intro (fun _=> ?_) (fun _=> ?_))))
   all_goals (refine loop _ ?_ _ _ rfl fun r=> ?_)
   all_goals first
    |(intro h0;first|(exact absurd h0 ‹_›)|(have:=cmpI_zero.1 ‹cmpI (a.args.length:Int) (b.args.length:Int)=0›;omega))
    |(simp -dsimp -implicitDefEqProofs only[g105,c105r0,c105r1,c105r2,c105k3,c105r4,c105r5,c105r6,c105k7,c105r8,c105r9,c105k10,c105r11,c105r12,c105k13,c105r14,c105k15,c105r16,c105k18,c105r19,c105,go_sem,seval,↓reduceIte,thenI, *])
  ·have hk':cmpI a.kind b.kind≠0:=fun h=>hk (cmpI_zero.1 h)
   simp -dsimp -implicitDefEqProofs only[g105,c105r0,c105r1,c105r2,c105k3,c105r4,c105r5,c105r6,c105k7,c105r8,c105r9,c105k10,c105r11,c105r12,c105k13,c105r14,c105k15,c105r16,c105b17,c105k18,c105r19,c105,go_sem,seval,↓reduceIte,part_kind,part_n,part_name,part_args,Tm.pvs_len,hk,rnumber_ok,thenI_ne hk']

theorem compare_loop(a b:Tm)(ih:∀u,u∈a.args→∀(b:Tm) (hp:Heap),u.size<1000000000→u.fits=true→b.fits=true→S 83 [u.av,b.av] hp=some (.ret (.pv none (.int .i64 (u.cmp b))),hp))
  (ha:a.size<1000000000)(fa:a.fits=true)(fb:b.fits=true)(hlb:a.args.length=b.args.length)(p:PV)(fr:Fr)(Q:AExit→St→Prop)
  (hfr:fr.keep [3,57,58,59]=[(3,.ptr 1 0),(57,.pv none (.sl (some 4) (Tm.pvs a.args))),(58,.pv none (.int .i64 (a.args.length:Int))),(59,.pv none (.int .i64 0))])
  (h:Tm.cmps a.args b.args=0→∀fr hp,Q (.exit 0) ⟨fr,hp⟩)(h':Tm.cmps a.args b.args≠0→∀hp r,Q .ret ⟨(4,.pv none (.int .i64 (Tm.cmps a.args b.args)))::r,hp⟩):
  W (sem (find tab) prim) (sloop (find tab) prim) 0 (.loop [3,57,58,59] c83b27) ⟨fr,[.box (some 4) (.pv (some 4) a.pv),.box (some 4) (.pv (some 4) b.pv),.box (some 4) (.pv (some 4) p)]⟩ Q:=by
 have hts:=a.size_eq
 have hlen:=Tm.sizes_len a.args
 refine W_loop (fun n st=>∃(i:Nat),n=a.args.length - i∧i≤a.args.length∧Tm.cmps a.args b.args=Tm.cmps (a.args.drop i) (b.args.drop i)∧
  st=⟨[(3,.ptr 1 0),(57,.pv none (.sl (some 4) (Tm.pvs a.args))),(58,.pv none (.int .i64 (a.args.length:Int))),(59,.pv none (.int .i64 i))],[.box (some 4) (.pv (some 4) a.pv),.box (some 4) (.pv (some 4) b.pv),.box (some 4) (.pv (some 4) p)]⟩) (n:=a.args.length) ⟨0,rfl,Nat.zero_le _,rfl,?_⟩ ?_
 ·rw[hfr]
  rfl
 ·rintro n st ⟨i,hn,hi,he,rfl⟩
  by_cases hi':i<a.args.length
  ·have hc:(i:Int)<(a.args.length:Int):=by omega
   obtain⟨u,hu⟩:∃u,a.args[i]? =some u:=⟨_,List.getElem?_eq_getElem hi'⟩
   obtain⟨w,hw⟩:∃w,b.args[i]? =some w:=⟨_,List.getElem?_eq_getElem (by omega)⟩
   have hum:=List.mem_of_getElem? hu
   have husz:=Tm.arg_lt hum
   have hcall:=fun hp=>ih u hum w hp (by omega) (Tm.fits_arg fa hum) (Tm.fits_arg fb (List.mem_of_getElem? hw))
   simp only[Tm.av] at hcall
   have w2:IntKind.i64.wrap ((i:Int)+1)=((i+1:Nat):Int):=by rw[wrap64 (by omega) (by omega)];omega
   rw[Tm.cmps_drop hu hw] at he
   by_cases h0:u.cmp w=0
   ·rw[h0,thenI_zero] at he
    simp -dsimp -implicitDefEqProofs only[g83,c83r0,c83r1,c83r2,c83r3,c83r4,c83k5,c83r6,c83r7,c83k8,c83r9,c83r10,c83r11,c83k12,c83r13,c83r14,c83r15,c83k16,c83r17,c83r18,c83k19,c83r20,c83r21,c83r22,c83r23,c83k24,c83k25,c83r26,c83b27,c83k28,c83r29,c83,go_sem,seval,↓reduceIte,part_args,Tm.pvs_len,hc,s_iaddr_pv (Tm.pvs_get hu),s_iaddr_pv (Tm.pvs_get hw),hcall,w2,h0]
    refine⟨a.args.length - (i+1),by omega,i+1,rfl,by omega,he,?_⟩
    rfl
   ·simp -dsimp -implicitDefEqProofs only[g83,c83r0,c83r1,c83r2,c83r3,c83r4,c83k5,c83r6,c83r7,c83k8,c83r9,c83r10,c83r11,c83k12,c83r13,c83r14,c83r15,c83k16,c83r17,c83r18,c83k19,c83r20,c83r21,c83r22,c83r23,c83k24,c83k25,c83r26,c83b27,c83k28,c83r29,c83,go_sem,seval,↓reduceIte,part_args,Tm.pvs_len,hc,s_iaddr_pv (Tm.pvs_get hu),s_iaddr_pv (Tm.pvs_get hw),hcall,w2,h0]
    rw[thenI_ne h0] at he
    have:=h' (by rw[he];exact h0)
    rw[he] at this
    exact this _ _
  ·have hc:¬(i:Int)<(a.args.length:Int):=by omega
   obtain rfl:i=a.args.length:=by omega
   simp -dsimp -implicitDefEqProofs only[g83,c83r0,c83r1,c83r2,c83r3,c83r4,c83k5,c83r6,c83r7,c83k8,c83r9,c83r10,c83r11,c83k12,c83r13,c83r14,c83r15,c83k16,c83r17,c83r18,c83k19,c83r20,c83r21,c83r22,c83r23,c83k24,c83k25,c83r26,c83b27,c83k28,c83r29,c83,go_sem,seval,↓reduceIte,part_args,Tm.pvs_len,hc]
   rw[List.drop_length,Tm.cmps_nil_left] at he
   exact h he _ _

set_option maxHeartbeats 4000000 in
theorem compare_ok:∀(a b:Tm) (hp:Heap),a.size<1000000000→a.fits=true→b.fits=true→S 83 [a.av,b.av] hp=some (.ret (.pv none (.int .i64 (a.cmp b))),hp):=by
 intro a
 induction a using Tm.induct with
 |h a ih=>
  intro b hp ha fa fb
  refine sem_pure rfl rfl rfl (freezeAll_pvs [(some 4,a.pv),(some 4,b.pv)]) rfl ?_
  rw[Tm.cmp_eq]
  have loop:=compare_loop a b ih ha fa fb
  clear ih
  have hb:sBuild [(none,(.pv none (.int .i64 (0)))),(none,(.pv none (.int .i64 (0)))),(none,(.pv none (.int .i64 (0)))),(none,(.pv none (.int .i64 (0))))] [0,1,2,3] [.pv none (.int .i64 (0)),.pv none (.int .i64 (1)),.pv none (.int .i64 (2)),.pv none (.int .i64 (3))]=some (.pv (some 4) (.agg [(none,.int .i64 0),(none,.int .i64 1),(none,.int .i64 2),(none,.int .i64 3)])):=rfl
  have h0:∀r:Nat,sIaddrA none 4 [.ptr r 0,.pv none (.int .i64 0)]=some (.ptr r 0):=fun r=>rfl
  have h1:∀r:Nat,sIaddrA none 4 [.ptr r 0,.pv none (.int .i64 1)]=some (.ptr r 1):=fun r=>by rw[s_iaddrA_lit none (by decide)];simp[Sh.size]
  have h2:∀r:Nat,sIaddrA none 4 [.ptr r 0,.pv none (.int .i64 2)]=some (.ptr r 2):=fun r=>by rw[s_iaddrA_lit none (by decide)];simp[Sh.size]
  have h3:∀r:Nat,sIaddrA none 4 [.ptr r 0,.pv none (.int .i64 3)]=some (.ptr r 3):=fun r=>by rw[s_iaddrA_lit none (by decide)];simp[Sh.size]
  have hc:=cmpI_lits
  have hcmp:=cmpInt_ok
  have hcmp64:=cmpInt64_ok
  have hstr:=stringsCompare_ok
  have fin:Kept (a.name=[]→a.args=[]→b.name=[]→b.args=[]→AV.pv none (.int .i64 (cmpI a.n b.n))=AV.pv none (.int .i64 (if cmpI a.n b.n=0 then if cmpI (a.args.length:Int) (b.args.length:Int)=0 then if Lib.compareBytes a.name b.name=0 then Tm.cmps a.args b.args else Lib.compareBytes a.name b.name else cmpI (a.args.length:Int) (b.args.length:Int) else cmpI a.n b.n))):=by
   intro h1 h2 h3 h4
   rw[h1,h2,h3,h4]
   simp only[show cmpI (([]:List Tm).length:Int) (([]:List Tm).length:Int)=0 from by decide,Lib.compareBytes,Tm.cmps,if_true]
   split <;> simp_all
  have hlen:Kept (cmpI (a.args.length:Int) (b.args.length:Int)=0→a.args.length=b.args.length):=fun h=>by have:=cmpI_zero.1 h;omega
  rcases Tm.fits_cases fa with⟨ka,xa,ya⟩|⟨ka,xa,ya⟩|⟨ka,xa,ya⟩|⟨ka,xa⟩ <;>
  rcases Tm.fits_cases fb with⟨kb,xb,yb⟩|⟨kb,xb,yb⟩|⟨kb,xb,yb⟩|⟨kb,xb⟩ <;> (try replace ya:=Kept.mk ya) <;> (try replace yb:=Kept.mk yb) <;> (try replace xa:=Kept.mk (show a.name=[] from xa)) <;> (try replace xb:=Kept.mk (show b.name=[] from xb))
  all_goals (repeat' (first|(simp -dsimp -implicitDefEqProofs only[g83,c83r0,c83r1,c83r2,c83r3,c83r4,c83k5,c83r6,c83r7,c83k8,c83r9,c83r10,c83r11,c83k12,c83r13,c83r14,c83r15,c83k16,c83r17,c83r18,c83k19,c83r20,c83r21,c83r22,c83r23,c83k24,c83k25,c83r26,c83k28,c83r29,c83,go_sem,seval,↓reduceIte,part_kind,part_n,part_name,part_args,Tm.pvs_len,thenI, *])|(refine iteK_intro (fun _=> ?_) (fun _=> ?_))))
  all_goals first
   |(exact fin xa ya xb yb)
   |(refine loop (hlen.out (by assumption)) _ _ _ rfl (fun hz fr hp=> ?_) (fun hz hp r=> ?_) <;> simp -dsimp -implicitDefEqProofs only[g83,c83r0,c83r1,c83r2,c83r3,c83r4,c83k5,c83r6,c83r7,c83k8,c83r9,c83r10,c83r11,c83k12,c83r13,c83r14,c83r15,c83k16,c83r17,c83r18,c83k19,c83r20,c83r21,c83r22,c83r23,c83k24,c83k25,c83r26,c83k28,c83r29,c83,go_sem,seval,↓reduceIte,thenI,cmpI_self, *])
   |trace_state
theorem swapRange_ok(fv:AV)(hp:Heap)(r:Nat)(hr:r<hp.length)(a b n N:Nat)(P X M Y R:List PV)(hP:P.length=a)(hX:X.length=n)(hY:Y.length=n)(hb:b=a+n+M.length)(hN:N=(P++X++M++Y++R).length)(hN':N<1000000000):
  S 161 [.sl (some 4) r N 0 N,.pv none (.int .i64 a),.pv none (.int .i64 b),.pv none (.int .i64 n),fv] (hp.set r (.arr (some 4) (P++X++M++Y++R) false))=some (.ret (.tuple []),hp.set r (.arr (some 4) (P++Y++M++X++R) false)):=by
 refine sem_heap rfl rfl rfl rfl ?_
 have e1:∀A,(hp.set r A)[r]? =some A:=fun A=>by simp[hr]
 have hNl:N=P.length+n+M.length+n+R.length:=by rw[hN];simp[hX,hY];omega
 simp -dsimp -implicitDefEqProofs only[go_sem,seval,↓reduceIte]
 refine W_loop (fun k st=>∃(i:Nat) (X1 X2 Y1 Y2:List PV),k=n - i∧i≤n∧X=X1++X2∧Y=Y1++Y2∧X1.length=i∧Y1.length=i∧st=⟨[(0,.sl (some 4) r N 0 N),(1,.pv none (.int .i64 a)),(2,.pv none (.int .i64 b)),(3,.pv none (.int .i64 n)),(10,.pv none (.int .i64 i))],hp.set r (.arr (some 4) (P++Y1++X2++M++X1++Y2++R) false)⟩) (n:=n) ⟨0,[],X,[],Y,rfl,Nat.zero_le _,rfl,rfl,rfl,rfl,?_⟩ ?_
 ·simp -dsimp -implicitDefEqProofs only[go_sem,seval,↓reduceIte]
  simp
 ·rintro k st ⟨i,X1,X2,Y1,Y2,hk,hi,eX,eY,lX,lY,rfl⟩
  have l2X:X2.length=n - i:=by rw[eX] at hX;simp at hX;omega
  have l2Y:Y2.length=n - i:=by rw[eY] at hY;simp at hY;omega
  have hlen:(P++Y1++X2++M++X1++Y2++R).length=N:=by simp;omega
  by_cases h:i<n
  ·have hc:(i:Int)<(n:Int):=by omega
   obtain⟨x,X2,rfl⟩:∃x l,X2=x::l:=by cases X2 with|nil=>simp at l2X;omega|cons x l=>exact⟨x,l,rfl⟩
   obtain⟨y,Y2,rfl⟩:∃x l,Y2=x::l:=by cases Y2 with|nil=>simp at l2Y;omega|cons x l=>exact⟨x,l,rfl⟩
   have w1:IntKind.i64.wrap ((a:Int)+(i:Int))=((a+i:Nat):Int):=by rw[wrap64 (by omega) (by omega)];omega
   have w2:IntKind.i64.wrap ((b:Int)+(i:Int))=((b+i:Nat):Int):=by rw[wrap64 (by omega) (by omega)];omega
   have w3:IntKind.i64.wrap ((i:Int)+1)=((i+1:Nat):Int):=by rw[wrap64 (by omega) (by omega)];omega
   have la:a+i<N:=by omega
   have lb:b+i<N:=by omega
   have s1:P++Y1++x::X2++M++X1++y::Y2++R=(P++Y1)++x::(X2++M++X1++y::Y2++R):=by simp
   have s2:P++Y1++x::X2++M++X1++y::Y2++R=(P++Y1++x::X2++M++X1)++y::(Y2++R):=by simp
   have g1:(P++Y1++x::X2++M++X1++y::Y2++R)[a+i]? =some x:=by rw[s1];exact mid_get (by simp;omega)
   have g2:(P++Y1++x::X2++M++X1++y::Y2++R)[b+i]? =some y:=by rw[s2];exact mid_get (by simp at l2X ⊢;omega)
   have g3:((P++Y1++x::X2++M++X1++y::Y2++R).set (a+i) y).set (b+i) x=P++(Y1++[y])++X2++M++(X1++[x])++Y2++R:=by
    rw[s1,mid_set (by simp;omega)]
    have s3:(P++Y1)++y::(X2++M++X1++y::Y2++R)=(P++Y1++y::X2++M++X1)++y::(Y2++R):=by simp
    rw[s3,mid_set (by simp at l2X ⊢;omega)]
    simp
   generalize hxs:P++Y1++x::X2++M++X1++y::Y2++R=xs at g1 g2 g3 hlen ⊢
   simp -dsimp -implicitDefEqProofs only[go_sem,seval,↓reduceIte,hc,w1,w2,w3,s_iaddr_sl la,s_iaddr_sl lb,aload_eptr,w_store_eptr,e1,g1,g2,hlen,List.length_set,List.set_set,la,lb,g3]
   refine⟨n - (i+1),by omega,i+1,X1++[x],X2,Y1++[y],Y2,rfl,by omega,by simp[eX],by simp[eY],by simp[lX],by simp[lY],?_⟩
   rw[collect_id (by simp)]
  ·have hc:¬(i:Int)<(n:Int):=by omega
   obtain rfl:i=n:=by omega
   have:X2=[]:=List.length_eq_zero_iff.1 (by omega)
   subst this
   have:Y2=[]:=List.length_eq_zero_iff.1 (by omega)
   subst this
   simp -dsimp -implicitDefEqProofs only[go_sem,seval,↓reduceIte,hc]
   rw[List.take_of_length_le (by simp)]
   simp[eX,eY]

theorem rotate_ok(fv:AV)(hp:Heap)(r:Nat)(hr:r<hp.length)(a m b N:Nat)(P U V R:List PV)(hP:P.length=a)(hU:m=a+U.length)(hV:b=m+V.length)(hN:N=(P++U++V++R).length)(hN':N<1000000000)(hU0:0<U.length)(hV0:0<V.length):
  S 156 [.sl (some 4) r N 0 N,.pv none (.int .i64 a),.pv none (.int .i64 m),.pv none (.int .i64 b),fv] (hp.set r (.arr (some 4) (P++U++V++R) false))=some (.ret (.tuple []),hp.set r (.arr (some 4) (P++V++U++R) false)):=by
 refine sem_heap rfl rfl rfl rfl ?_
 have hNl:N=P.length+U.length+V.length+R.length:=by(rw[hN];simp <;> omega)
 have w1:IntKind.i64.wrap ((m:Int) - (a:Int))=((U.length:Nat):Int):=by rw[wrap64 (by omega) (by omega)];omega
 have w2:IntKind.i64.wrap ((b:Int) - (m:Int))=((V.length:Nat):Int):=by rw[wrap64 (by omega) (by omega)];omega
 simp -dsimp -implicitDefEqProofs only[go_sem,seval,↓reduceIte,w1,w2]
 refine W_loop (fun k st=>∃(i j:Nat) (P' X Y R':List PV),k=i+j∧0<i∧0<j∧X.length=i∧Y.length=j∧P'.length+i=m∧P'++Y++X++R'=P++V++U++R∧(P'++X++Y++R').length=N∧st=⟨[(0,.sl (some 4) r N 0 N),(2,.pv none (.int .i64 m)),(4,fv),(10,.pv none (.int .i64 i)),(11,.pv none (.int .i64 j))],hp.set r (.arr (some 4) (P'++X++Y++R') false)⟩) (n:=U.length+V.length) ⟨U.length,V.length,P,U,V,R,rfl,hU0,hV0,rfl,rfl,by omega,rfl,hN.symm,?_⟩ ?_
 ·simp -dsimp -implicitDefEqProofs only[go_sem,seval,↓reduceIte]
 ·rintro k st ⟨i,j,P',X,Y,R',hk,i0,j0,lX,lY,lP,hT,hL,rfl⟩
  have hLn:P'.length+i+j+R'.length=N:=by(rw[←hL];simp <;> omega)
  by_cases hij:i=j
  ·have hc:(i:Int)=(j:Int):=by omega
   have w3:IntKind.i64.wrap ((m:Int) - (j:Int))=((P'.length:Nat):Int):=by rw[wrap64 (by omega) (by omega)];omega
   have hcall:=swapRange_ok fv hp r hr P'.length m j N P' X [] Y R' rfl (by omega) (by omega) (by(simp <;> omega)) (by simp at hL ⊢;omega) hN'
   simp only[List.append_nil] at hcall
   rw[hT] at hcall
   simp -dsimp -implicitDefEqProofs only[go_sem,seval,↓reduceIte,hc,w3,hcall]
   rw[List.take_of_length_le (by simp)]
  ·have hc:¬(i:Int)=(j:Int):=by omega
   by_cases hgt:j<i
   ·have hc2:(j:Int)<(i:Int):=by omega
    have w3:IntKind.i64.wrap ((m:Int) - (i:Int))=((P'.length:Nat):Int):=by rw[wrap64 (by omega) (by omega)];omega
    have w4:IntKind.i64.wrap ((i:Int) - (j:Int))=((i - j:Nat):Int):=by rw[wrap64 (by omega) (by omega)];omega
    have eX:X=X.take j++X.drop j:=(List.take_append_drop j X).symm
    have hcall:=swapRange_ok fv hp r hr P'.length m j N P' (X.take j) (X.drop j) Y R' rfl (by(simp <;> omega)) (by omega) (by(simp <;> omega)) (by(rw[←hL];simp <;> omega)) hN'
    have e0:P'++X.take j++X.drop j++Y++R'=P'++X++Y++R':=by simp
    rw[e0] at hcall
    simp -dsimp -implicitDefEqProofs only[go_sem,seval,↓reduceIte,hc,hc2,w3,w4,hcall]
    refine⟨i - j+j,by omega,i - j,j,P'++Y,X.drop j,X.take j,R',rfl,by omega,by omega,by(simp <;> omega),by(simp <;> omega),by(simp <;> omega),?_,?_,?_⟩
    ·rw[←hT];simp
    ·rw[←hL];simp <;> omega
    ·rw[collect_id (by simp)]
   ·have hc2:¬(j:Int)<(i:Int):=by omega
    have w3:IntKind.i64.wrap ((m:Int) - (i:Int))=((P'.length:Nat):Int):=by rw[wrap64 (by omega) (by omega)];omega
    have w4:IntKind.i64.wrap ((j:Int) - (i:Int))=((j - i:Nat):Int):=by rw[wrap64 (by omega) (by omega)];omega
    have w5:IntKind.i64.wrap ((m:Int)+(j:Int))=((m+j:Nat):Int):=by rw[wrap64 (by omega) (by omega)];omega
    have w6:IntKind.i64.wrap (((m+j:Nat):Int) - (i:Int))=((m+j - i:Nat):Int):=by rw[wrap64 (by omega) (by omega)];omega
    have hcall:=swapRange_ok fv hp r hr P'.length (m+j - i) i N P' X (Y.take (j - i)) (Y.drop (j - i)) R' rfl lX (by(simp <;> omega)) (by(simp <;> omega)) (by(rw[←hL];simp <;> omega)) hN'
    have e0:P'++X++Y.take (j - i)++Y.drop (j - i)++R'=P'++X++Y++R':=by simp
    rw[e0] at hcall
    simp -dsimp -implicitDefEqProofs only[go_sem,seval,↓reduceIte,hc,hc2,w3,w4,w5,w6,hcall]
    refine⟨i+(j - i),by omega,i,j - i,P',Y.drop (j - i),Y.take (j - i),X++R',rfl,by omega,by omega,by(simp <;> omega),by(simp <;> omega),by omega,?_,?_,?_⟩
    ·rw[←hT];simp
    ·rw[←hL];simp <;> omega
    ·rw[collect_id (by simp)];simp

def CmpF(c:PV→PV→Int)(fv:AV)(D:PV→Prop)(hp:Heap)(r:Nat):Prop:=∃g fs cs,calleeOf fv=some (g,fs,cs)∧∀x y,D x→D y→∀A,S g (fs++[.pv (some 4) x,.pv (some 4) y]++cs) (hp.set r A)=some (.ret (.pv none (.int .i64 (c x y))),hp.set r A)

theorem insInner(c:PV→PV→Int)(hC:Cmp c)(fv:AV)(D:PV→Prop)(hp:Heap)(r:Nat)(hg:CmpF c fv D hp r)(hr:r<hp.length)(a b i N:Nat)(P S1 R:List PV)(t:PV)(hP:P.length=a)(hs:Srt c S1)(hi:i=a+S1.length)(hN:N=(P++S1++t::R).length)(hN':N<1000000000)(hD:∀x∈S1,D x)(hDt:D t)
  (fr:Fr)(Q:AExit→St→Prop)
  (hfr:fr.keep [0,1,2,3,8,9]=[(0,.sl (some 4) r N 0 N),(1,.pv none (.int .i64 a)),(2,.pv none (.int .i64 b)),(3,fv),(8,.pv none (.int .i64 i)),(9,.pv none (.int .i64 i))])
  (h:∀rest,Q (.exit 2) ⟨(0,.sl (some 4) r N 0 N)::(1,.pv none (.int .i64 a))::(2,.pv none (.int .i64 b))::(3,fv)::(8,.pv none (.int .i64 i))::rest,hp.set r (.arr (some 4) (P++insC c t S1++R) false)⟩):
  W Z L hp.length (.loop [0,1,2,3,8,9] c150b9) ⟨fr,hp.set r (.arr (some 4) (P++S1++t::R) false)⟩ Q:=by
 have e1:∀A,(hp.set r A)[r]? =some A:=fun A=>by simp[hr]
 have hNl:N=P.length+S1.length+R.length+1:=by rw[hN];simp;omega
 refine W_loop (fun k st=>∃(L1 M:List PV),k=L1.length∧S1=L1++M∧(∀m∈M,c t m<0)∧st=⟨[(0,.sl (some 4) r N 0 N),(1,.pv none (.int .i64 a)),(2,.pv none (.int .i64 b)),(3,fv),(8,.pv none (.int .i64 i)),(9,.pv none (.int .i64 ((a+L1.length:Nat):Int)))],hp.set r (.arr (some 4) (P++L1++t::M++R) false)⟩) (n:=S1.length) ⟨S1,[],rfl,by simp,by simp,?_⟩ ?_
 ·rw[hfr,hi]
  simp
 ·rintro k st ⟨L1,M,hk,hS,hM,rfl⟩
  have hSl:S1.length=L1.length+M.length:=by rw[hS];simp
  have hlen:(P++L1++t::M++R).length=N:=by simp;omega
  have fin:(∀x∈L1,¬c t x<0)→P++insC c t S1++R=P++L1++t::M++R:=fun hx=>by
   rw[hS,insC_split hx hM];simp
  rcases nil_or_snoc L1 with rfl|⟨L2,x,rfl⟩
  ·have hc:¬((a:Nat):Int)<((a+([]:List PV).length:Nat):Int):=by simp
   have hf:=fin (by simp)
   rw[hf] at h
   simp -dsimp -implicitDefEqProofs only[g150,c150r0,c150r1,c150k2,c150r3,c150r4,c150k5,c150r6,c150k7,c150r8,c150b9,c150k10,c150k11,c150r12,c150b13,c150k14,c150,go_sem,seval,↓reduceIte,hc,Int.lt_irrefl]
   exact h _
  ·have hxl:(L2++[x]).length=L2.length+1:=by simp
   have hc:((a:Nat):Int)<((a+(L2++[x]).length:Nat):Int):=by rw[hxl];omega
   have w1:IntKind.i64.wrap (((a+(L2++[x]).length:Nat):Int) - 1)=((a+L2.length:Nat):Int):=by rw[wrap64 (by omega) (by omega)];omega
   have la:a+(L2++[x]).length<N:=by omega
   have lb:a+L2.length<N:=by omega
   have s1:P++(L2++[x])++t::M++R=(P++(L2++[x]))++t::(M++R):=by simp
   have s2:P++(L2++[x])++t::M++R=(P++L2)++x::(t::M++R):=by simp
   have g1:(P++(L2++[x])++t::M++R)[a+(L2++[x]).length]? =some t:=by rw[s1];exact mid_get (by simp;omega)
   have g2:(P++(L2++[x])++t::M++R)[a+L2.length]? =some x:=by rw[s2];exact mid_get (by simp;omega)
   have hxm:x∈S1:=by rw[hS];simp
   obtain⟨g,fs,cs,hcal,hg'⟩:=hg
   have hcall:=hg' t x hDt (hD x hxm)
   by_cases hlt:c t x<0
   ·have g3:((P++(L2++[x])++t::M++R).set (a+(L2++[x]).length) x).set (a+L2.length) t=P++L2++t::(x::M)++R:=by
     rw[s1,mid_set (by simp;omega)]
     have s3:(P++(L2++[x]))++x::(M++R)=(P++L2)++x::(x::M++R):=by simp
     rw[s3,mid_set (by simp;omega)]
     simp
    generalize hxs:P++(L2++[x])++t::M++R=xs at g1 g2 g3 hlen ⊢
    simp -dsimp -implicitDefEqProofs only[g150,c150r0,c150r1,c150k2,c150r3,c150r4,c150k5,c150r6,c150k7,c150r8,c150b9,c150k10,c150k11,c150r12,c150b13,c150k14,c150,go_sem,seval,↓reduceIte,hc,w1,s_iaddr_sl la,s_iaddr_sl lb,aload_eptr,w_store_eptr,e1,g1,g2,hlen,List.length_set,List.set_set,la,lb,g3,hcall,op_callee hcal,hlt]
    refine⟨L2.length,by omega,L2,x::M,rfl,by rw[hS];simp,?_,?_⟩
    ·intro m hm
     rcases List.mem_cons.1 hm with rfl|hm
     ·exact hlt
     ·exact hM m hm
    ·rw[collect_id (by simp)]
   ·have hf:=fin (fun y hy=>by
     rcases List.mem_append.1 hy with hy|hy
     ·have hyx:c y x≤0:=by
       rw[hS] at hs
       have:=(List.pairwise_append.1 (List.pairwise_append.1 hs).1).2.2 y hy x (by simp)
       exact this
      intro hty
      have:=hC.lt_of_lt_le hty hyx
      exact hlt this
     ·simp at hy;subst hy;exact hlt)
    rw[hf] at h
    generalize hxs:P++(L2++[x])++t::M++R=xs at g1 g2 hlen h ⊢
    simp -dsimp -implicitDefEqProofs only[g150,c150r0,c150r1,c150k2,c150r3,c150r4,c150k5,c150r6,c150k7,c150r8,c150b9,c150k10,c150k11,c150r12,c150b13,c150k14,c150,go_sem,seval,↓reduceIte,hc,w1,s_iaddr_sl la,s_iaddr_sl lb,aload_eptr,e1,g1,g2,hlen,hcall,op_callee hcal,hlt]
    exact h _

theorem insertion_ok(c:PV→PV→Int)(hC:Cmp c)(fv:AV)(D:PV→Prop)(hp:Heap)(r:Nat)(hg:CmpF c fv D hp r)(hr:r<hp.length)(a b N:Nat)(P A R:List PV)(hP:P.length=a)(hA:b=a+A.length)(hN:N=(P++A++R).length)(hN':N<1000000000)(hD:∀x∈A,D x):
  S 150 [.sl (some 4) r N 0 N,.pv none (.int .i64 a),.pv none (.int .i64 b),fv] (hp.set r (.arr (some 4) (P++A++R) false))=some (.ret (.tuple []),hp.set r (.arr (some 4) (P++isort c A++R) false)):=by
 refine sem_heap rfl rfl rfl rfl ?_
 have hNl:N=P.length+A.length+R.length:=by(rw[hN];simp <;> omega)
 have hsl:(hp.set r (.arr (some 4) (P++A++R) false)).length=hp.length:=by simp
 have w0:IntKind.i64.wrap ((a:Int)+1)=((a+1:Nat):Int):=by rw[wrap64 (by omega) (by omega)];omega
 rw[hsl]
 simp -dsimp -implicitDefEqProofs only[g150,c150r0,c150r1,c150k2,c150r3,c150r4,c150k5,c150r6,c150k7,c150r8,c150b9,c150k10,c150k11,c150r12,c150b13,c150k14,c150,go_sem,seval,↓reduceIte,w0]
 refine W_loop (fun n st=>∃k:Nat,n=A.length - k∧1≤k∧st=⟨[(0,.sl (some 4) r N 0 N),(1,.pv none (.int .i64 a)),(2,.pv none (.int .i64 b)),(3,fv),(8,.pv none (.int .i64 ((a+k:Nat):Int)))],hp.set r (.arr (some 4) (P++isort c (A.take k)++A.drop k++R) false)⟩) (n:=A.length - 1) ⟨1,rfl,Nat.le_refl _,?_⟩ ?_
 ·simp -dsimp -implicitDefEqProofs only[go_sem,seval,↓reduceIte]
  cases A with
  |nil=>simp[isort]
  |cons x A=>simp[isort,insC]
 ·rintro n st ⟨k,hn,hk,rfl⟩
  by_cases h:k<A.length
  ·have hc:((a+k:Nat):Int)<(b:Int):=by omega
   obtain⟨t,R1,hd⟩:∃t R1,A.drop k=t::R1:=⟨A[k],A.drop (k+1),List.drop_eq_getElem_cons h⟩
   have hd1:A.drop (k+1)=R1:=by rw[←List.drop_drop,hd];rfl
   have ht:A.take (k+1)=A.take k++[t]:=by
    have:A[k]? =some t:=by have:=congrArg List.head? hd;simpa using this
    rw[List.take_add_one,this];rfl
   have w3:IntKind.i64.wrap (((a+k:Nat):Int)+1)=((a+(k+1):Nat):Int):=by rw[wrap64 (by omega) (by omega)];omega
   have hlk:(isort c (A.take k)).length=k:=by rw[isort_length];simp;omega
   have e0:P++isort c (A.take k)++A.drop k++R=P++isort c (A.take k)++t::(R1++R):=by rw[hd];simp
   have hmem:∀x∈isort c (A.take k),D x:=fun x hx=>hD x (List.mem_of_mem_take ((isort_perm _).mem_iff.1 hx))
   have htm:D t:=hD t (List.mem_of_mem_drop (show t∈A.drop k from by rw[hd];simp))
   simp -dsimp -implicitDefEqProofs only[g150,c150r0,c150r1,c150k2,c150r3,c150r4,c150k5,c150r6,c150k7,c150r8,c150k10,c150k11,c150r12,c150b13,c150k14,c150,go_sem,seval,↓reduceIte,hc]
   rw[e0]
   refine insInner c hC fv D hp r hg hr a b (a+k) N P (isort c (A.take k)) (R1++R) t hP (isort_srt hC _) (by omega) (by rw[←e0];simp[hlk];omega) hN' hmem htm _ _ rfl fun rest=> ?_
   simp -dsimp -implicitDefEqProofs only[g150,c150r0,c150r1,c150k2,c150r3,c150r4,c150k5,c150r6,c150k7,c150r8,c150k10,c150k11,c150r12,c150b13,c150k14,c150,go_sem,seval,↓reduceIte,w3]
   refine⟨A.length - (k+1),by omega,k+1,rfl,by omega,?_⟩
   rw[collect_id (by simp),ht,isort_snoc,hd1]
   simp
  ·have hc:¬((a+k:Nat):Int)<(b:Int):=by omega
   simp -dsimp -implicitDefEqProofs only[g150,c150r0,c150r1,c150k2,c150r3,c150r4,c150k5,c150r6,c150k7,c150r8,c150k10,c150k11,c150r12,c150b13,c150k14,c150,go_sem,seval,↓reduceIte,hc]
   rw[List.take_of_length_le (by simp),List.take_of_length_le (by omega),List.drop_eq_nil_of_le (by omega)]
   simp
end Go.Proofs.YtffecaafklpmhaaGreat
