/- What is proved: what chunk.Of gives. -/
import Derived.Test.YtmajapjbogmefaaOccA
import Derived.Test.YtmajapjbogmefaaAm5
import Derived.Test.YtmajapjbogmefaaSwap
set_option linter.unusedSimpArgs false
set_option linter.unusedVariables false
namespace Go.Proofs.Ytmajapjbogmefaa
open Go.Am
def zdM(l:List Sp)(a b:Int):Int:=cmpI (zcF l b) (zcF l a)
theorem zki(l:List Sp)(t:Int):∀L:List Int,insC (zg6 l) (.int .i64 t) (ints L)=ints (insC (zdM l) t L)
 |[]=>rfl
 |x::r=>by
  have ih:=zki l t r
  unfold ints at ih ⊢
  simp only[List.map_cons,insC]
  have:zg6 l (.int .i64 t) (.int .i64 x)=zdM l t x:=rfl
  rw[this]
  split
  ·rfl
  ·rw[ih];rfl
theorem znN(l:List Sp)(L:List Int):isort (zg6 l) (ints L)=ints (isort (zdM l) L):=by
 have:∀(L s:List Int),(ints L).foldl (fun s t=>insC (zg6 l) t s) (ints s)=ints (L.foldl (fun s t=>insC (zdM l) t s) s):=by
  intro L
  induction L with
  |nil=>intro s;rfl
  |cons x r ih=>
   intro s
   have:=ih (insC (zdM l) x s)
   rw[<-zki] at this
   exact this
 exact this L []
def zbM(l:List Sp):List Int:=isort (zdM l) (zcr l)
section
variable{F:FuncId->Option AFn} {prim:FuncId->Option zcL}
theorem zg7{f:FuncId}{fn:AFn}{args:List AV}{hp hp':Heap}{v:AV}{op:ATop}{c2:ACode}(hp0:prim f=none)(hf:F f=some fn)(hm:fn.heapMode=true)(hn:args.length=fn.nparams)(hmo:fn.more=[(op,c2)])
  (h:W (sem F prim) (sloop F prim) hp.length fn.code ⟨params 0 args,hp⟩ (seqK (fun st1=>∃st2,atop (sem F prim) op st1 []=some (.normal,st2,[])/\W (sem F prim) (sloop F prim) hp.length c2 st2 (endK fn.results (fun v' h'=>v'=v/\(if v.refsIn.all (fun q=>decide (q<hp.length))=true then h'.take hp.length else h')=hp'))) (endK fn.results (fun v' h'=>v'=v/\(if v.refsIn.all (fun q=>decide (q<hp.length))=true then h'.take hp.length else h')=hp'))))(hr:fn.rcv=none:=by rfl):sem F prim .fn f args hp=some (.ret v,hp'):=by
 have fin:∀(e:AExit) (st:St),endK fn.results (fun v' h'=>v'=v/\(if v.refsIn.all (fun q=>decide (q<hp.length))=true then h'.take hp.length else h')=hp') e st->aleave (sem F prim) fn (some (e,st,[]))=some (.ret v,st.hp)/\(if v.refsIn.all (fun q=>decide (q<hp.length))=true then st.hp.take hp.length else st.hp)=hp':=by
  intro e st he
  cases e with
  |normal=>
   rw[zdc] at he
   cases hr:zay st fn.results with
   |none=>rw[hr] at he;exact he.elim
   |some u=>
    rw[hr] at he
    obtain⟨rfl,he⟩:=he
    exact⟨by simp[aleave,aunwind,aresult,hr],he⟩
  |ret=>
   rw[zf2] at he
   cases hr:zay st fn.results with
   |none=>rw[hr] at he;exact he.elim
   |some u=>
    rw[hr] at he
    obtain⟨rfl,he⟩:=he
    exact⟨by simp[aleave,aunwind,aresult,hr],he⟩
  |exit i=>exact he.elim
  |panic v=>exact he.elim
 have key:∃e st,apieces (sem F prim) (sloop F prim) hp.length fn.more fn.code ⟨params 0 args,hp⟩ []=some (e,st,[])/\aleave (sem F prim) fn (some (e,st,[]))=some (.ret v,st.hp)/\(if v.refsIn.all (fun q=>decide (q<hp.length))=true then st.hp.take hp.length else st.hp)=hp':=by
  rw[hmo]
  simp only[apieces]
  unfold W at h
  split at h
  ·rename_i e st1 he
   rw[he]
   cases e with
   |normal=>
    obtain⟨st2,h2,h3⟩:=h
    simp only[h2]
    split at h3
    ·rename_i e2 st3 he2
     rw[he2]
     obtain⟨k1,k2⟩:=fin _ _ h3
     exact⟨_,_,rfl,k1,k2⟩
    ·exact h3.elim
   |ret=>
    obtain⟨k1,k2⟩:=fin .ret st1 h
    exact⟨_,_,rfl,k1,k2⟩
   |exit i=>exact h.elim
   |panic v=>exact h.elim
  ·exact h.elim
 obtain⟨e,st,k1,k2,k3⟩:=key
 rw[zjV]
 unfold zbk
 rw[hp0,hf]
 rw[hmo] at k1
 simp only[hr,hmo,Option.isSome_none,hm,Bool.false_eq_true,if_false,if_true,abody,hn,ne_eq,not_true_eq_false,k1,k2,k3]
end
theorem zgS(c:PV->PV->Int)(hC:Cmp c)(fv:AV)(D:PV->Prop)(hp:Heap)(r:Nat)(hg:CmpF c fv D hp r)(hr:r<hp.length)(N:Nat)(hN':N<100000000)(xs:List PV)(hN:N=xs.length)(hD:∀x∈xs,D x):
  S 25 [.sl none r N 0 N,fv] (hp.set r (.arr none xs false))=some (.ret (.tuple []),hp.set r (.arr none (isort c xs) false)):=by
 have hcall:=zqf c hC fv D hp r hg hr N hN' xs hN hD
 have hsl:(hp.set r (.arr none xs false)).length=hp.length:=by simp
 refine zaI rfl rfl rfl rfl ?_
 simp -dsimp -implicitDefEqProofs only[go_sem,seval,↓reduceIte,hcall,hsl]
 rw[List.take_of_length_le (by simp)]
theorem zsW(pre:Heap)(V:AV)(l:List Sp)(hl:l.length<100000000):
  S 25 [.sl none (pre.length+3) (ints (zcr l)).length 0 (ints (zcr l)).length,.func (.func 26) [] [.ptr (pre.length+6) 0]] (pre++hOf pre.length V l (ints (zcr l)))=some (.ret (.tuple []),pre++hOf4 pre.length V l [] (ints (zbM l)) [] []):=by
 have hle:(ints (zcr l)).length<=l.length:=by
  rw[zaY]
  exact Nat.le_trans (List.length_filter_le _ _) (by simp[vars])
 have:=zgS (zg6 l) (zp0 l) _ ztE (pre++hOf pre.length V l (ints (zcr l))) (pre.length+3) (zsU pre V l (ints (zcr l))) (by simp[hOf]) (ints (zcr l)).length (by omega) (ints (zcr l)) rfl (fun p hp=>by
  simp only[ints,List.mem_map] at hp
  obtain⟨v,_,rfl⟩:=hp
  exact⟨v,rfl⟩)
 rw[znN,zap,zap] at this
 have e2:(hOf pre.length V l (ints (zcr l))).set 3 (.arr none (ints (isort (zdM l) (zcr l))) false)=hOf4 pre.length V l [] (ints (zbM l)) [] []:=by
  have:(ints (zbM l)).length=(ints (zcr l)).length:=by simp[zaY,zbM,zaq]
  simp[hOf,hOf4,zbM] at this ⊢
  exact this.symm
 have e3:(hOf pre.length V l (ints (zcr l))).set 3 (.arr none (ints (zcr l)) false)=hOf pre.length V l (ints (zcr l)):=rfl
 rw[e2,e3] at this
 exact this
def chPV(A P B:List Int):PV:=.agg [(none,.sl none (ints A)),(none,.sl none (ints P)),(none,.sl none (ints B))]
def chA(b:Nat)(A P B:List Int):AV:=.agg [(none,.sl none (b+2) A.length 0 A.length),(none,.sl none (b+3) P.length 0 P.length),(none,.sl none (b+4) B.length 0 B.length)]
def zea(x:Fl):List Int:=zbM (sps (zaj x))
def zcn(x:Fl):List Int:=zbe (sps (zaj x)) (zea x) 0 x.goals
theorem zr6(pre:Heap)(V G:AV)(x:Fl)(hbx:wBox (some 5) pre [V]=some (.ptr pre.length 0,pre++[.box (some 5) V]))(hV:V.refsIn.all (fun q=>decide (q<pre.length+10))=true)(hGr:G.refsIn.all (fun q=>decide (q<pre.length+10))=true)(hpt:AV.part deep V 4 none=some G)(hGl:sLen [G]=some (.pv none (.int .i64 x.goals.length)))
  (hIx:∀(i:Nat) (g:Gl),x.goals[i]? =some g->∃E,zcd (some 6) [G,.pv none (.int .i64 i)]=some E/\∀X,aload (some 6) (pre++X) E=some (.pv (some 6) g.pv))
  (hv:∀X,S 15 [V] (pre++X)=some (.ret (.pv none (.bool true)),pre++X))(h24:∀hp,S 24 [V] hp=some (.ret (.func (.func 39) [] [.ptr hp.length 0]),hp++[.box (some 5) V]))
  (h39:S 39 [.yield (pre.length+10),.ptr (pre.length+9) 0] (pre++(hOf pre.length V [] []++[lOf pre.length]))=some (.ret (.tuple []),pre++(hOf pre.length V (sps (zaj x)) []++[lOf pre.length])))
  (hlen:x.goals.length<100000000)(hlim:(zaj x).length<100000000):
  S 12 [V] pre=some (.ret (.tuple [chA pre.length (zb1 0 x.goals) (zea x) (zcn x),.pv none (.int .i64 0)]),pre++hOf4 pre.length V (sps (zaj x)) (ints (zb1 0 x.goals)) (ints (zea x)) (ints (zcn x)) []):=by
 unfold zcn zea chA
 refine zg7 rfl rfl rfl rfl rfl ?_
 have hb0:zb5 [(none,.tsl none []),(none,.tsl none []),(none,.tsl none [])] [] []=some (.agg [(none,.tsl none []),(none,.tsl none []),(none,.tsl none [])]):=rfl
 have hsm:∀a0 a1 a2 a3 a4 a5:AObj,zaH none pre.length (pre++[a0,a1,a2,a3,a4,a5,.box none (.pv none .nilmap)]) [.ptr (pre.length+6) 0,.map (pre.length+5)]=some (.undef,pre++[a0,a1,a2,a3,a4,a5,.box none (.map (pre.length+5))]):=fun _ _ _ _ _ _=>by
  rw[zlx (by omega) (by rw[zag];rfl),zap]
  rfl
 have hal:∀H:Heap,zcf none (.tsl none []) H []=some (.ptr H.length 0,H++[.box none (.sl none (H.length+1) 0 0 0),.arr none [] false]):=fun H=>by
  simp[zcf,AV.plain,AV.shp,AV.own,zj1]
 simp -dsimp -implicitDefEqProofs only[c12k32,go_sem,seval,↓reduceIte,List.append_assoc,zag,zau,zap,zav,Nat.add_assoc,List.length_append,hbx,hv,h24,hsm,hal]
 have hsl:=zlG (zaj x)
 have h1:=zrt pre V (sps (zaj x)) (by omega)
 have h2:=zsW pre V (sps (zaj x)) (by omega)
 have hpl:(zbM (sps (zaj x))).length<=(sps (zaj x)).length:=by
  unfold zbM
  rw[zaq]
  exact Nat.le_trans (List.length_filter_le _ _) (by simp[vars])
 have h3:=zru pre V G hV hGr x hIx (sps (zaj x)) (zbM (sps (zaj x))) (by omega) (by omega)
 generalize zbM (sps (zaj x))=P at*
 generalize sps (zaj x)=l at*
 have hH:∀l,(pre++hOf pre.length V l []).length=pre.length+10:=fun l=>by simp[hOf]
 have h39':S 39 [.yield (pre++hOf pre.length V [] []).length,.ptr (pre.length+9) 0] ((pre++hOf pre.length V [] [])++[lOf pre.length])=some (.ret (.tuple []),(pre++hOf pre.length V l [])++[lOf pre.length]):=by
  rw[hH,List.append_assoc,List.append_assoc]
  exact h39
 have hlf:zdn ((pre++hOf pre.length V l [])++[lOf pre.length])[(pre++hOf pre.length V [] []).length]? =some 12:=by
  rw[hH,<-hH l,List.getElem?_append_right (Nat.le_refl _),Nat.sub_self]
  rfl
 have e1:((pre++hOf pre.length V l [])++[lOf pre.length]).take (pre++hOf pre.length V [] []).length=pre++hOf pre.length V l []:=by
  rw[hH,<-hH l,List.take_left]
 refine⟨⟨[(1,.ptr pre.length 0),(2,.ptr (pre.length+1) 0),(4,.ptr (pre.length+6) 0),(5,.ptr (pre.length+7) 0),(21,.func (.func 39) [] [.ptr (pre.length+9) 0])],pre++hOf pre.length V l []⟩,?_,?_⟩
 ·have ha:=znC (Γ:=sem (find tab) prim) (self:=12) (fa:=.t 21) (ps:=[22]) (env:=[4,5]) (st:=⟨[(1,.ptr pre.length 0),(2,.ptr (pre.length+1) 0),(4,.ptr (pre.length+6) 0),(5,.ptr (pre.length+7) 0),(21,.func (.func 39) [] [.ptr (pre.length+9) 0])],pre++hOf pre.length V [] []⟩) (ds:=[]) rfl rfl (by rw[zsr (by rfl)];exact h39') hlf
  rw[e1] at ha
  exact ha
 ·have g7:∀P,(hOf pre.length V l P)[7]? =some (.box none (.sl none (pre.length+8) l.length 0 l.length)):=fun _=>rfl
  have g1:∀P,(hOf pre.length V l P)[1]? =some (.box (some 3) (.agg [(none,.sl none (pre.length+2) 0 0 0),(none,.sl none (pre.length+3) P.length 0 P.length),(none,.sl none (pre.length+4) 0 0 0)])):=fun _=>rfl
  have g0:∀A P B e,(hOf4 pre.length V l A P B e)[0]? =some (.box (some 5) V):=fun _ _ _ _=>rfl
  have g14:∀A P B e,(hOf4 pre.length V l A P B e)[1]? =some (.box (some 3) (.agg [(none,.sl none (pre.length+2) A.length 0 A.length),(none,.sl none (pre.length+3) P.length 0 P.length),(none,.sl none (pre.length+4) B.length 0 B.length)])):=fun _ _ _ _=>rfl
  have hst1:∀A P B:List Int,zaH (some 3) pre.length (pre++hOf4 pre.length V l (ints A) (ints P) (ints B) []) [.ptr (pre.length+1) 0,.agg [(none,.sl none (pre.length+2) A.length 0 A.length),(none,.sl none (pre.length+3) P.length 0 P.length),(none,.sl none (pre.length+4) B.length 0 B.length)]]=some (.undef,pre++hOf4 pre.length V l (ints A) (ints P) (ints B) []):=fun A P B=>by
   have h:=zaA (sh:=some 3) (b:=pre.length) (r:=pre.length+1) (hp:=pre++hOf4 pre.length V l (ints A) (ints P) (ints B) []) (Nat.le_add_right _ _) [(none,.sl none (pre.length+2) A.length 0 A.length),(none,.sl none (pre.length+3) P.length 0 P.length),(none,.sl none (pre.length+4) B.length 0 B.length)] rfl (by rw[zag];exact rfl)
   rw[h]
   have e:∀n0 n1 n2 v0 v1 v2 (H:Heap),zai [(none,.sl none n0 v0 0 v0),(none,.sl none n1 v1 0 v1),(none,.sl none n2 v2 0 v2)] H=([(none,.sl none n0 v0 0 v0),(none,.sl none n1 v1 0 v1),(none,.sl none n2 v2 0 v2)],H):=fun _ _ _ _ _ _ _=>rfl
   simp[hOf4,zaY,e,zf4,zap]
  simp -dsimp -implicitDefEqProofs only[c12k32,go_sem,seval,↓reduceIte,List.append_assoc,zag,zau,zap,zav,Nat.add_assoc,List.length_append,g7]
  refine h1 _ (fun r=> ?_)
  simp -dsimp -implicitDefEqProofs only[c12k32,go_sem,seval,↓reduceIte,List.append_assoc,zag,zau,zap,zav,Nat.add_assoc,List.length_append,g1,h2,g0,hpt,hGl]
  refine h3 _ (fun r=> ?_)
  simp -dsimp -implicitDefEqProofs only[c12k32,go_sem,seval,↓reduceIte,List.append_assoc,zag,zau,zap,zav,Nat.add_assoc,List.length_append,g14,hst1,zfm,zaY]
  rw[if_neg (by simp[AV.refsIn,AV.refsIn.go,AV.refsIn.gol])]
theorem zt3(pre:Heap)(x:Fl)(hval:x.valid=true)(ha:Tm.sizes x.args<1000000000)(hs:∀g∈x.goals,Tm.sizes g.args<1000000000)(hlen:x.goals.length<100000000)(hlim:(zaj x).length<100000000):
  S 12 [x.av] pre=some (.ret (.tuple [chA pre.length (zb1 0 x.goals) (zea x) (zcn x),.pv none (.int .i64 0)]),pre++hOf4 pre.length x.av (sps (zaj x)) (ints (zb1 0 x.goals)) (ints (zea x)) (ints (zcn x)) []):=by
 have hv:=fun hp=>zb0 x hp ha hs (by omega)
 rw[hval] at hv
 have h39:=zsT (zr5 pre x.av) x [] (pre.length+9) (by omega) (fun _=>by rw[zag];rfl) ha hs (by omega) (by simp;unfold LIM;omega)
 rw[List.nil_append] at h39
 refine zr6 pre x.av (.pv none (.sl (some 6) (Gl.pvs x.goals))) x ?_ rfl rfl rfl (by rw[zl5,Gl.pvs_len]) (fun i g hg=>⟨_,zak (Gl.pvs_get hg),fun X=>rfl⟩) (fun X=>hv _) (fun hp=>zrp x hp) h39 hlen hlim
 simp[wBox,Fl.av,AV.plain,AV.shp,AV.own]
theorem zhK{hp:Heap}{x:Fl}{qg:Nat}{zg:Bool}(hqg:hp[qg]? =some (.arr (some 6) (Gl.pvs x.goals) zg)):∃hp1,zan [flA x qg] hp=some ([(some 5,x.pv)],hp1):=by
 have e:∀l hp,AV.freeze (7+1) (.agg l) hp=match AV.freeze.go 7 l hp with|some (ps,hp')=>some (.agg ps,hp')|none=>none:=fun _ _=>rfl
 have f:AV.freeze deep (flA x qg) hp=some (x.pv,hp.set qg (.arr (some 6) (Gl.pvs x.goals) true)):=by
  show AV.freeze (7+1) (.agg _) _=_
  simp[e,AV.freeze.go,AV.freeze,hqg,Tm.pvs_len,Gl.pvs_len,Fl.pv]
 exact⟨_,by simp only[zan,f];rfl⟩
theorem zt4(pre:Heap)(x:Fl)(qg:Nat)(zg:Bool)(hqg:pre[qg]? =some (.arr (some 6) (Gl.pvs x.goals) zg))(hval:x.valid=true)(ha:Tm.sizes x.args<1000000000)(hs:∀g∈x.goals,Tm.sizes g.args<1000000000)(hlen:x.goals.length<100000000)(hlim:(zaj x).length<100000000):
  S 12 [flA x qg] pre=some (.ret (.tuple [chA pre.length (zb1 0 x.goals) (zea x) (zcn x),.pv none (.int .i64 0)]),pre++hOf4 pre.length (flA x qg) (sps (zaj x)) (ints (zb1 0 x.goals)) (ints (zea x)) (ints (zcn x)) []):=by
 have lg:=zl9 hqg
 have gg:∀X,(pre++X)[qg]? =some (.arr (some 6) (Gl.pvs x.goals) zg):=fun X=>by rw[zdF lg];exact hqg
 have hr:(flA x qg).refsIn=[qg]:=rfl
 have h39:=zrr (zr5 pre (flA x qg)) x [] (pre.length+9) (by omega) qg zg (by omega) (fun _=>by rw[zag];rfl) (fun _=>by exact gg _) ha hs (by omega) (by simp;unfold LIM;omega)
 rw[List.nil_append] at h39
 refine zr6 pre (flA x qg) (.sl (some 6) qg x.goals.length 0 x.goals.length) x ?_ (by rw[hr];simp;omega) (by simp[AV.refsIn];omega) rfl (by rw[zl6]) (fun i g hg=>⟨_,zpV (List.getElem?_eq_some_iff.1 hg).1,fun X=>zpU (gg X) (Gl.pvs_len _) (Gl.pvs_get hg)⟩) (fun X=> ?_) (fun hp=>zpX x qg hp) h39 hlen hlim
 ·have e:∀n2 v2 (H:Heap),zai [(some 3,.pv (some 3) x.pred.pv),(none,.pv none (.sl (some 4) (Tm.pvs x.args))),(none,.sl (some 6) n2 v2 0 v2)] H=([(some 3,.pv (some 3) x.pred.pv),(none,.pv none (.sl (some 4) (Tm.pvs x.args))),(none,.sl (some 6) n2 v2 0 v2)],H):=fun _ _ _=>rfl
  simp[wBox,flA,AV.plain,AV.shp,AV.own,total,Sh.size,e]
 ·obtain⟨hp1,hz⟩:=zhK (gg X)
  have hv:=zb0 x [] ha hs (by omega)
  rw[hval] at hv
  exact ziH (F:=find tab) (prim:=prim) (f:=15) (ps:=[(some 5,x.pv)]) (hp1:=hp1) rfl rfl rfl hz hv
mutual
def shT(d:Int):Tm->Tm
 | .mk k n s ts=>if k=0 then .mk 0 (n+d) [] [] else .mk k n s (shTs d ts)
def shTs(d:Int):List Tm->List Tm
 |[]=>[]
 |t::r=>shT d t::shTs d r
end
theorem zf7(d:Int):∀l:List Tm,shTs d l=l.map (shT d)
 |[]=>rfl
 |t::r=>by rw[shTs,zf7 d r];rfl
theorem zml(d:Int)(t:Tm):shT d t=if t.kind=0 then .mk 0 (t.n+d) [] [] else .mk t.kind t.n t.name (shTs d t.args):=by cases t;rfl
theorem zsZ(d:Int):∀t:Tm,(shT d t).occ=t.occ.map (·+d):=by
 intro t
 induction t using Tm.zuc with
 |h t ih=>
  have hl:∀l:List Tm,(∀u∈l,u∈t.args)->Tm.occs (shTs d l)=(Tm.occs l).map (·+d):=by
   intro l
   induction l with
   |nil=>intro _;rfl
   |cons x r ihr=>
    intro h
    rw[shTs,Tm.occs,Tm.occs,List.map_append,ih x (h x (by simp)),ihr fun u hu=>h u (by simp[hu])]
  rw[zml,Tm.occ_eq t]
  split
  ·rw[Tm.occ_eq];rfl
  ·rename_i hk
   rw[Tm.occ_eq,if_neg (by exact hk),<-hl t.args fun _ h=>h]
   rfl
theorem ziP(d:Int):∀l:List Tm,Tm.occs (shTs d l)=(Tm.occs l).map (·+d)
 |[]=>rfl
 |t::r=>by rw[shTs,Tm.occs,Tm.occs,List.map_append,zsZ,ziP d r]
theorem zrH(d:Int):∀t:Tm,(shT d t).size<=t.size:=by
 intro t
 induction t using Tm.zuc with
 |h t ih=>
  have hl:∀l:List Tm,(∀u∈l,u∈t.args)->Tm.sizes (shTs d l)<=Tm.sizes l:=by
   intro l
   induction l with
   |nil=>intro _;exact Nat.le_refl _
   |cons x r ihr=>
    intro h
    have h1:=ih x (h x (by simp))
    have h2:=ihr fun u hu=>h u (by simp[hu])
    show(shT d x).size+Tm.sizes (shTs d r)<=x.size+Tm.sizes r
    omega
  have:=hl t.args fun _ h=>h
  rw[zml,t.size_eq]
  split
  ·show 1+0<=_
   omega
  ·show 1+Tm.sizes (shTs d t.args)<=_
   omega
def shG(d:Int)(g:Gl):Gl:=⟨g.kind,g.pred,shTs d g.args,if g.op=true then g.var+d else g.var⟩
def shF(d:Int)(f:Fl):Fl:=⟨f.pred,shTs d f.args,f.goals.map (shG d)⟩
def mv(d:Int)(p:Int × Int):Int × Int:=(p.1+d,p.2)
def shS(d:Int)(x:Sp):Sp:=⟨x.v+d,x.at_,x.first,x.last⟩
theorem ztF(d:Int)(g:Gl):(shG d g).op=g.op:=rfl
theorem ziQ(d:Int)(c:Int)(g:Gl):(shG d g).next c=g.next c:=rfl
theorem zrI(d c:Int)(g:Gl):zeb c (shG d g)=(zeb c g).map (mv d):=by
 unfold zeb
 rw[ztF,List.map_append,List.map_map]
 have e:(Tm.occs (shG d g).args).map (fun v=>(v,c))=(Tm.occs g.args).map (mv d ∘ fun v=>(v,c)):=by
  show(Tm.occs (shTs d g.args)).map _=_
  rw[ziP,List.map_map]
  rfl
 rw[e]
 congr 1
 by_cases h:g.op=true
 ·rw[if_pos h,if_pos h]
  show[((if g.op=true then g.var+d else g.var),c)]=_
  rw[if_pos h]
  rfl
 ·rw[if_neg h,if_neg h]
  rfl
theorem zmm(d:Int):∀(l:List Gl) (c:Int),zco c (l.map (shG d))=(zco c l).map (mv d)
 |[],_=>rfl
 |g::r,c=>by rw[List.map_cons,zco,zco,List.map_append,zrI,ziQ,zmm d r]
theorem zfu(d:Int)(f:Fl):zaj (shF d f)=(zaj f).map (mv d):=by
 unfold zaj
 rw[List.map_append,<-zmm,List.map_map]
 show(Tm.occs (shTs d f.args)).map _++_=_
 rw[ziP,List.map_map]
 rfl
theorem zmn(d v c:Int):∀l:List Sp,zdN (v+d) c (l.map (shS d))=(zdN v c l).map (shS d)
 |[]=>rfl
 |x::r=>by
  rw[List.map_cons,zdN,zdN]
  by_cases h:x.v=v
  ·rw[if_pos h,if_pos (by show x.v+d=v+d;rw[h])]
   rfl
  ·rw[if_neg h,if_neg (by show ¬x.v+d=v+d;omega),zmn d v c r]
   rfl
theorem zeZ(d v:Int):∀l:List Sp,zaG (v+d) (l.map (shS d))=(zaG v l).map (shS d)
 |[]=>rfl
 |x::r=>by
  rw[List.map_cons,zaG,zaG]
  by_cases h:x.v=v
  ·rw[if_pos h,if_pos (by show x.v+d=v+d;rw[h])]
   rfl
  ·rw[if_neg h,if_neg (by show ¬x.v+d=v+d;omega),zeZ d v r]
theorem zqb(d:Int)(l:List Sp)(p:Int × Int):zcE (l.map (shS d)) (mv d p)=(zcE l p).map (shS d):=by
 unfold zcE mv
 dsimp only
 rw[zeZ]
 cases zaG p.1 l with
 |none=>simp[shS]
 |some x=>exact zmn d p.1 p.2 l
theorem zr8(d:Int)(L:List (Int × Int)):sps (L.map (mv d))=(sps L).map (shS d):=by
 have:∀(L:List (Int × Int)) (l:List Sp),(L.map (mv d)).foldl zcE (l.map (shS d))=(L.foldl zcE l).map (shS d):=by
  intro L
  induction L with
  |nil=>intro l;rfl
  |cons p r ih=>
   intro l
   rw[List.map_cons,List.foldl_cons,List.foldl_cons,zqb,ih]
 exact this L []
theorem ze0(d:Int)(l:List Sp)(v:Int):zcF (l.map (shS d)) (v+d)=zcF l v:=by
 unfold zcF
 rw[zeZ]
 cases zaG v l <;> rfl
theorem znP(d:Int)(l:List Sp)(v:Int):zdO (l.map (shS d)) (v+d)=zdO l v:=by
 unfold zdO
 rw[zeZ]
 cases zaG v l <;> rfl
theorem zrJ(d:Int)(l:List Sp):zcr (l.map (shS d))=(zcr l).map (·+d):=by
 unfold zcr
 have e:vars (l.map (shS d))=(vars l).map (·+d):=by simp[vars,shS]
 rw[e,List.filter_map]
 congr 1
 apply List.filter_congr
 intro v _
 show wide (l.map (shS d)) (v+d)=wide l v
 unfold wide
 rw[znP,ze0]
theorem zqc(d:Int)(l:List Sp)(t:Int):∀L:List Int,insC (zdM (l.map (shS d))) (t+d) (L.map (·+d))=(insC (zdM l) t L).map (·+d)
 |[]=>rfl
 |x::r=>by
  rw[List.map_cons,insC,insC]
  have e:zdM (l.map (shS d)) (t+d) (x+d)=zdM l t x:=by unfold zdM;rw[ze0,ze0]
  rw[e,zqc d l t r]
  split <;> rfl
theorem zrK(d:Int)(l:List Sp)(L:List Int):isort (zdM (l.map (shS d))) (L.map (·+d))=(isort (zdM l) L).map (·+d):=by
 have:∀(L s:List Int),(L.map (·+d)).foldl (fun s t=>insC (zdM (l.map (shS d))) t s) (s.map (·+d))=(L.foldl (fun s t=>insC (zdM l) t s) s).map (·+d):=by
  intro L
  induction L with
  |nil=>intro s;rfl
  |cons x r ih=>
   intro s
   rw[List.map_cons,List.foldl_cons,List.foldl_cons,zqc,ih]
 exact this L []
theorem zqd(d:Int)(l:List Sp):zbM (l.map (shS d))=(zbM l).map (·+d):=by
 unfold zbM
 rw[zrJ,zrK]
theorem zr9(d:Int)(l:List Sp)(c:Int):∀P:List Int,twl (l.map (shS d)) (P.map (·+d)) c=twl l P c
 |[]=>rfl
 |x::r=>by
  have ih:=zr9 d l c r
  unfold twl at ih ⊢
  rw[List.map_cons,List.takeWhile_cons,List.takeWhile_cons,ze0]
  split
  ·rw[List.length_cons,List.length_cons,ih]
  ·rfl
theorem zhQ(d:Int)(l:List Sp)(P:List Int):∀(gs:List Gl) (c:Int),zbe (l.map (shS d)) (P.map (·+d)) c (gs.map (shG d))=zbe l P c gs
 |[],_=>rfl
 |g::r,c=>by
  rw[List.map_cons,zbe,zbe,ziQ,zhQ d l P r]
  congr 1
  unfold zeX
  rw[zr9]
  rfl
theorem zmo(d:Int):∀(gs:List Gl) (c:Int),zb1 c (gs.map (shG d))=zb1 c gs
 |[],_=>rfl
 |g::r,c=>by rw[List.map_cons,zb1,zb1,ziQ,zmo d r]
theorem zmp(d:Int)(f:Fl):zea (shF d f)=(zea f).map (·+d):=by
 unfold zea
 rw[zfu,zr8,zqd]
theorem zqe(d:Int)(f:Fl):zcn (shF d f)=zcn f:=by
 unfold zcn
 rw[zmp,zfu,zr8]
 exact zhQ d _ _ f.goals 0
def updS(s:Int × Int)(c:Int):Int × Int:=(if s.1<0 then c else s.1,if s.2<c then c else s.2)
def zkj(v:Int)(s:Int × Int)(p:Int × Int):Int × Int:=if p.1=v then updS s p.2 else s
def zkk(v:Int)(L:List (Int × Int)):Int × Int:=L.foldl (zkj v) (-1,-1)
def Mono(L:List (Int × Int)):Prop:=L.Pairwise (fun a b=>a.2<=b.2)/\∀p∈L,0<=p.2
theorem Mono.init{L:List (Int × Int)}{p:Int × Int}(h:Mono (L++[p])):Mono L/\(∀q∈L,q.2<=p.2)/\0<=p.2:=by
 obtain⟨h1,h2⟩:=h
 obtain⟨k1,k2,k3⟩:=List.pairwise_append.1 h1
 exact⟨⟨k1,fun q hq=>h2 q (by simp[hq])⟩,fun q hq=>k3 q hq p (by simp),h2 p (by simp)⟩
theorem zhM(v:Int)(y:Sp):∀l:List Sp,zaG v (l++[y])=match zaG v l with|some x=>some x|none=>if y.v=v then some y else none
 |[]=>rfl
 |x::r=>by
  simp only[List.cons_append,zaG]
  split
  ·rfl
  ·exact zhM v y r
theorem zeY{v w c:Int}(h:v≠w):∀l:List Sp,zaG v (zdN w c l)=zaG v l
 |[]=>rfl
 |x::r=>by
  unfold zdN
  split
  ·rename_i hx
   have:¬x.v=v:=fun e=>h (e.symm.trans hx)
   simp[zaG,this]
  ·simp only[zaG]
   rw[zeY h r]
theorem zhN{w c:Int}:∀{l:List Sp} {x:Sp},zaG w l=some x->zaG w (zdN w c l)=some ⟨x.v,x.at_,x.first,c⟩
 |[],x,h=>by cases h
 |y::r,x,h=>by
  unfold zaG at h
  unfold zdN
  split at h
  ·rename_i hy;cases h;simp[zaG,hy]
  ·rename_i hy;simp only[hy,if_false,zaG];exact zhN h
theorem zbR(v:Int)(L:List (Int × Int))(p:Int × Int):zkk v (L++[p])=zkj v (zkk v L) p:=by simp[zkk]
def SpOk(v:Int)(L:List (Int × Int)):Option Sp->Prop
 |none=>zkk v L=(-1,-1)/\∀p∈L,p.1≠v
 |some x=>zkk v L=(x.first,x.last)/\0<=x.first/\x.first<=x.last/\∃p∈L,p.1=v/\p.2=x.last
theorem zmh:∀(n:Nat) (L:List (Int × Int)),L.length=n->Mono L->∀v,SpOk v L (zaG v (sps L))
 |0,L,hn,_,v=>by
  obtain rfl:=List.length_eq_zero_iff.1 hn
  exact⟨rfl,fun p hp=>by cases hp⟩
 |n+1,L,hn,hm,v=>by
  rcases zeq L with rfl|⟨L,⟨w,c⟩,rfl⟩
  ·cases hn
  ·obtain⟨hm1,hm2,hm3⟩:=hm.init
   have ih:=zmh n L (by simpa using hn) hm1
   have ihv:=ih v
   have ihw:=ih w
   rw[zms]
   unfold zcE
   dsimp only
   cases hw:zaG w (sps L) with
   |none=>
    rw[hw] at ihw
    dsimp only
    rw[zhM]
    by_cases e:v=w
    ·subst e
     rw[hw]
     simp only[if_true]
     obtain⟨h1,h2⟩:=ihw
     refine⟨?_,hm3,Int.le_refl _,(v,c),by simp,rfl,rfl⟩
     rw[zbR,h1]
     simp only[zkj,updS,if_true]
     rw[if_pos (by omega),if_pos (by omega)]
    ·have e':¬w=v:=fun h=>e h.symm
     cases hv:zaG v (sps L) with
     |none=>
      rw[hv] at ihv
      simp only[if_neg e']
      obtain⟨h1,h2⟩:=ihv
      refine⟨?_,fun p hp=> ?_⟩
      ·rw[zbR,h1];simp[zkj,e']
      ·rcases List.mem_append.1 hp with hp|hp
       ·exact h2 p hp
       ·simp at hp;subst hp;exact e'
     |some x=>
      rw[hv] at ihv
      obtain⟨h1,h2,h3,q,hq,h4,h5⟩:=ihv
      refine⟨?_,h2,h3,q,by simp[hq],h4,h5⟩
      rw[zbR,h1];simp[zkj,e']
   |some x=>
    rw[hw] at ihw
    dsimp only
    by_cases e:v=w
    ·subst e
     rw[zhN hw]
     obtain⟨h1,h2,h3,q,hq,h4,h5⟩:=ihw
     have hle:=hm2 q hq
     dsimp only at hle hm3
     refine⟨?_,h2,by dsimp only;omega,(v,c),by simp,rfl,rfl⟩
     rw[zbR,h1]
     simp only[zkj,updS,if_true]
     rw[if_neg (by omega)]
     split
     ·rfl
     ·congr 1;omega
    ·have e':¬w=v:=fun h=>e h.symm
     rw[zeY e]
     cases hv:zaG v (sps L) with
     |none=>
      rw[hv] at ihv
      obtain⟨h1,h2⟩:=ihv
      refine⟨?_,fun p hp=> ?_⟩
      ·rw[zbR,h1];simp[zkj,e']
      ·rcases List.mem_append.1 hp with hp|hp
       ·exact h2 p hp
       ·simp at hp;subst hp;exact e'
     |some x=>
      rw[hv] at ihv
      obtain⟨h1,h2,h3,q,hq,h4,h5⟩:=ihv
      refine⟨?_,h2,h3,q,by simp[hq],h4,h5⟩
      rw[zbR,h1];simp[zkj,e']
theorem spFind_mem{v:Int}:∀{l:List Sp},zaG v l≠none↔v∈vars l
 |[]=>by simp[zaG,vars]
 |x::r=>by
  have ih:=spFind_mem (v:=v) (l:=r)
  unfold vars at ih ⊢
  unfold zaG
  by_cases h:x.v=v
  ·simp[h]
  ·have h':¬v=x.v:=fun e=>h e.symm
   simp only[if_neg h,ih,List.map_cons,List.mem_cons,h',false_or]
theorem zrz(l:List Sp)(v:Int):v∈zbM l↔v∈vars l/\wide l v=true:=by
 unfold zbM
 rw[(zcc (c:=zdM l) (zcr l)).mem_iff]
 simp[zcr]
theorem ze1(c:Int)(g:Gl):∀p∈zeb c g,p.2=c:=by
 intro p hp
 unfold zeb at hp
 rcases List.mem_append.1 hp with hp|hp
 ·obtain⟨_,_,rfl⟩:=List.mem_map.1 hp;rfl
 ·split at hp
  ·simp at hp;subst hp;rfl
  ·cases hp
theorem zkm:∀(l:List Gl) (c:Int),(zb1 c l).length=l.length
 |[],_=>rfl
 |g::r,c=>by simp[zb1,zkm r]
theorem zft{t:Tm}(h:t.valid=true):t.fits=true:=by
 unfold Tm.valid at h
 simp only[Bool.and_eq_true] at h
 exact h.2
theorem zf6:∀(l:List Gl) (c:Int),∀p∈zco c l,c<=p.2
 |[],c,p,hp=>by cases hp
 |g::r,c,p,hp=>by
  rw[zco] at hp
  rcases List.mem_append.1 hp with hp|hp
  ·rw[ze1 c g p hp];exact Int.le_refl _
  ·have:=zf6 r (g.next c) p hp
   unfold Gl.next at this
   split at this <;> omega
theorem zhL:∀(l:List Gl) (c:Int),(zco c l).Pairwise (fun a b=>a.2<=b.2)
 |[],c=>List.Pairwise.nil
 |g::r,c=>by
  rw[zco,List.pairwise_append]
  refine⟨?_,zhL r _,fun a ha b hb=> ?_⟩
  ·rw[List.pairwise_iff_forall_sublist]
   intro a b hab
   have ha:=ze1 c g a (hab.subset (by simp))
   have hb:=ze1 c g b (hab.subset (by simp))
   rw[ha,hb]
   exact Int.le_refl _
  ·have:=zf6 r (g.next c) b hb
   rw[ze1 c g a ha]
   unfold Gl.next at this
   split at this <;> omega
theorem zlE(f:Fl):Mono (zaj f):=by
 unfold zaj
 refine⟨?_,fun p hp=> ?_⟩
 ·rw[List.pairwise_append]
  refine⟨?_,zhL _ _,fun a ha b hb=> ?_⟩
  ·rw[List.pairwise_map]
   exact List.pairwise_of_forall fun _ _=>Int.le_refl _
  ·obtain⟨_,_,rfl⟩:=List.mem_map.1 ha
   exact zf6 _ _ b hb
 ·rcases List.mem_append.1 hp with hp|hp
  ·obtain⟨_,_,rfl⟩:=List.mem_map.1 hp
   exact Int.le_refl _
  ·exact zf6 _ _ p hp
theorem zrv(f:Fl):(zbM (sps (zaj f))).length<=(zaj f).length:=by
 have:=zlG (zaj f)
 have h2:(zbM (sps (zaj f))).length<=(sps (zaj f)).length:=by
  unfold zbM
  rw[zaq]
  exact Nat.le_trans (List.length_filter_le _ _) (by simp[vars])
 omega
theorem zrw(A P B:List Int):PV.part deep (chPV A P B) 0 none=some (.sl none (ints A)):=rfl
theorem zrx(A P B:List Int):PV.part deep (chPV A P B) 1 none=some (.sl none (ints P)):=rfl
theorem zry(A P B:List Int):PV.part deep (chPV A P B) 2 none=some (.sl none (ints B)):=rfl
theorem zgU(l:List Int)(hp:Heap)(hl:l.length<1000000000):S 30 [.pv none (.sl none (ints l)),.pv none (.sl none (ints l))] hp=some (.ret (.pv none (.bool true)),hp):=by
 refine zaL rfl rfl rfl (zaf [(none,.sl none (ints l)),(none,.sl none (ints l))]) rfl ?_
 have hil:=zaY l
 simp -dsimp -implicitDefEqProofs only[go_sem,seval,↓reduceIte]
 refine zfS (α:=Unit) l.length (fun i _=>True) (fun i _=>⟨[(0,.pv none (.sl none (ints l))),(1,.pv none (.sl none (ints l))),(5,.pv none (.int .i64 i))],[]⟩) () ⟨trivial,rfl⟩ ?_ ?_
 ·rintro i _ h _
  have hc:(i:Int)<(l.length:Int):=by omega
  obtain⟨v,hv⟩:∃v,l[i]? =some v:=⟨_,List.getElem?_eq_getElem h⟩
  have w2:IntKind.i64.wrap ((i:Int)+1)=((i+1:Nat):Int):=by rw[zah (by omega) (by omega)];omega
  simp -dsimp -implicitDefEqProofs only[go_sem,seval,↓reduceIte,hil,hc,zak (zd8 hv),w2]
  exact⟨(),trivial⟩
 ·rintro _ _
  have hc:¬(l.length:Int)<(l.length:Int):=by omega
  simp -dsimp -implicitDefEqProofs only[go_sem,seval,↓reduceIte,hil,hc]
theorem zlF(l:List Int)(hp:Heap)(hl:l.length<1000000000):S 31 [.pv none (.sl none (ints l)),.pv none (.sl none (ints l))] hp=some (.ret (.pv none (.bool true)),hp):=by
 refine zaL rfl rfl rfl (zaf [(none,.sl none (ints l)),(none,.sl none (ints l))]) rfl ?_
 have hil:=zaY l
 simp -dsimp -implicitDefEqProofs only[go_sem,seval,↓reduceIte]
 refine zfS (α:=Unit) l.length (fun i _=>True) (fun i _=>⟨[(0,.pv none (.sl none (ints l))),(1,.pv none (.sl none (ints l))),(5,.pv none (.int .i64 i))],[]⟩) () ⟨trivial,rfl⟩ ?_ ?_
 ·rintro i _ h _
  have hc:(i:Int)<(l.length:Int):=by omega
  obtain⟨v,hv⟩:∃v,l[i]? =some v:=⟨_,List.getElem?_eq_getElem h⟩
  have w2:IntKind.i64.wrap ((i:Int)+1)=((i+1:Nat):Int):=by rw[zah (by omega) (by omega)];omega
  simp -dsimp -implicitDefEqProofs only[go_sem,seval,↓reduceIte,hil,hc,zak (zd8 hv),w2]
  exact⟨(),trivial⟩
 ·rintro _ _
  have hc:¬(l.length:Int)<(l.length:Int):=by omega
  simp -dsimp -implicitDefEqProofs only[go_sem,seval,↓reduceIte,hil,hc]
theorem zsY(A P B:List Int)(hp:Heap)(hA:A.length<1000000000)(hP:P.length<1000000000)(hB:B.length<1000000000):S 14 [.pv (some 3) (chPV A P B),.pv (some 3) (chPV A P B)] hp=some (.ret (.pv none (.bool true)),hp):=by
 refine zaL rfl rfl rfl (zaf [(some 3,chPV A P B),(some 3,chPV A P B)]) rfl ?_
 have h1:=fun hp=>zgU A hp hA
 have h2:=fun hp=>zlF P hp hP
 have h3:=fun hp=>zgU B hp hB
 simp -dsimp -implicitDefEqProofs only[go_sem,seval,↓reduceIte,zrw,zrx,zry,h1,h2,h3]
theorem zqi(l:List Int)(x:Int):ints l++[.int .i64 x]=ints (l++[x]):=by simp[ints]
def vadd(s:List Int)(w:Int):List Int:=if w∈s then s else s++[w]
def vads(s:List Int)(ws:List Int):List Int:=ws.foldl vadd s
theorem zrR(s a b:List Int):vads s (a++b)=vads (vads s a) b:=by simp[vads]
theorem zmv(ws:List Int):∀s:List Int,(vads s ws).length<=s.length+ws.length:=by
 induction ws with
 |nil=>intro s;simp[vads]
 |cons w r ih=>
  intro s
  have:=ih (vadd s w)
  have h2:(vadd s w).length<=s.length+1:=by unfold vadd;split <;> simp
  simp only[vads,List.foldl_cons,List.length_cons] at this ⊢
  omega
theorem zrS(ws:List Int):∀(s:List Int) (x:Int),x∈vads s ws↔x∈s\/x∈ws:=by
 induction ws with
 |nil=>intro s x;simp[vads]
 |cons w r ih=>
  intro s x
  have:=ih (vadd s w) x
  simp only[vads,List.foldl_cons] at this ⊢
  rw[this]
  unfold vadd
  split
  ·rename_i h
   simp only[List.mem_cons]
   constructor
   ·rintro(h1|h1) <;> simp[h1]
   ·rintro(h1|rfl|h1)
    ·exact .inl h1
    ·exact .inl h
    ·exact .inr h1
  ·simp only[List.mem_append,List.mem_cons,List.not_mem_nil,or_false]
   constructor
   ·rintro((h1|h1)|h1) <;> simp[h1]
   ·rintro(h1|h1|h1) <;> simp[h1]
theorem za1(s s0:Sh)(r v o n:Nat)(l:List (Sh × AV))(hp:Heap):zai ((s,.sl s0 r v o n)::l) hp=zgH (s,.sl s0 r v o n) (zai l hp):=rfl
theorem zhR{Γ:Oracle}{b:Nat}{vs:List AV}{hp:Heap}{K:AV->Heap->Prop}{Kp:PV->Heap->Prop}(sh:Sh)(n:Nat):opK (aOp Γ b (.bslicen sh n) vs hp) K Kp=zcq (za8 sh hp (vs.drop n)) (fun v hp'=>(vs.take n).all (zbD hp hp')=true/\K v hp'):=by
 simp only[aOp,zes]
 cases za8 sh hp (vs.drop n) with
 |none=>rfl
 |some r=>
  obtain⟨v,hp'⟩:=r
  simp only[opK,zcq]
  split
  ·rename_i h;split at h
   ·cases h;simp[*]
   ·cases h
  ·rename_i h;split at h <;> cases h
  ·rename_i h;split at h
   ·cases h
   ·simp[*]
def appH(n:Nat)(t:Tm)(i:Nat):Heap:=[.box (some 4) (.pv (some 4) t.pv),.box (some 4) (.agg [(none,.pv none (.int .i64 0)),(none,.pv none (.int .i64 0)),(none,.pv none (.str [])),(none,.sl (some 4) (n+2) 0 0 0)]),.arr (some 4) [] false,.box (some 4) (.agg [(none,.pv none (.int .i64 t.kind)),(none,.pv none (.int .i64 t.n)),(none,.pv none (.str t.name)),(none,.sl (some 4) (n+5) i 0 i)]),.arr (some 4) [] false,.arr (some 4) (Tm.pvs (t.args.take i)) false]
theorem zko{hp hp':Heap}{r o q i:Nat}{t:Tm}(h:hp[r]? =some (.box (some 4) (.agg [(none,.pv none (.int .i64 t.kind)),(none,.pv none (.int .i64 t.n)),(none,.pv none (.str t.name)),(none,.sl (some 4) q i 0 i)])))(h':hp'[r]? =some (.box (some 4) (.agg [(none,.pv none (.int .i64 t.kind)),(none,.pv none (.int .i64 t.n)),(none,.pv none (.str t.name)),(none,.sl (some 4) q i 0 i)]))):zbD hp hp' (.ptr r o)=true:=by
 simp[zbD,h,h',AObj.beq,AV.beq,AV.beqc,PV.beq]
def zlC(v:Int):List (Int × PV)->Option PV
 |[]=>none
 |x::r=>if x.1=v then some x.2 else zlC v r
def mPut(v:Int)(p:PV):List (Int × PV)->List (Int × PV)
 |[]=>[(v,p)]
 |x::r=>if x.1=v then(v,p)::r else x::mPut v p r
def zfT(m:List (Int × PV)):List (PV × PV):=m.map fun x=>(.int .i64 x.1,x.2)
theorem zhJ(v:Int):∀m,afind false (.int .i64 v) (zfT m)=some (zlC v m)
 |[]=>rfl
 |x::r=>by
  have ih:=zhJ v r
  unfold zfT at ih ⊢
  simp only[List.map_cons,afind,PV.same,if_true,zlC]
  by_cases h:x.1=v
  ·simp[h]
  ·have h':¬v=x.1:=fun e=>h e.symm
   simp only[decide_eq_false h',if_neg h]
   exact ih
theorem zkg(v:Int)(p:PV):∀m,aput false (.int .i64 v) p (zfT m)=some (zfT (mPut v p m))
 |[]=>rfl
 |x::r=>by
  have ih:=zkg v p r
  unfold zfT at ih ⊢
  simp only[List.map_cons,aput,PV.same,if_true,mPut]
  by_cases h:x.1=v
  ·simp[h]
  ·have h':¬v=x.1:=fun e=>h e.symm
   simp only[decide_eq_false h',if_neg h,List.map_cons]
   rw[ih]
theorem zr4{m:List (Int × PV)}{z:PV}{hp:Heap}{r:Nat}{s:Sh}{v:Int}(h:hp[r]? =some (.map none (zfT m))):zbs false none (.pv none z) false hp [.map r,.pv s (.int .i64 v)]=some (.pv none ((zlC v m).getD z)):=by
 have hf:=zhJ v m
 cases hm:zlC v m with
 |none=>rw[hm] at hf;exact zdh h hf
 |some x=>rw[hm] at hf;exact zdg h hf
def zfv(l:List Int):List (Int × PV):=l.map fun v=>(v,.int .i64 1)
theorem zfw(v:Int):∀l:List Int,(zlC v (zfv l)).getD (.int .i64 0)=.int .i64 (if v∈l then 1 else 0)
 |[]=>rfl
 |x::r=>by
  have ih:=zfw v r
  unfold zfv at ih ⊢
  simp only[List.map_cons,zlC]
  by_cases h:x=v
  ·subst h;simp
  ·have h':¬v=x:=fun e=>h e.symm
   rw[if_neg h,ih]
   simp[h']
theorem zkn(v:Int):∀l:List Int,v ∉ l->mPut v (.int .i64 1) (zfv l)=zfv (l++[v])
 |[],_=>rfl
 |x::r,h=>by
  have ih:=zkn v r fun hm=>h (List.mem_cons_of_mem _ hm)
  unfold zfv at ih ⊢
  simp only[List.map_cons,mPut,List.cons_append]
  have h':¬x=v:=fun e=>h (by rw[e];exact List.mem_cons_self)
  rw[if_neg h',ih]
def gV(t:Tm)(l:List Int):Heap:=[.box (some 4) (.pv (some 4) t.pv),.arr none [] false,.box none (.sl none 3 l.length 0 l.length),.arr none (ints l) false,.map none (zfT (zfv l)),.box none (.map 4)]
theorem zrP(t0 u:Tm)(l:List Int)(ext:Heap)(hl:l.length<100000000):
  S 61 [u.av,.ptr 5 0,.ptr 2 0] (gV t0 l++ext)=some (.ret u.av,gV t0 (vadd l u.n)++ext):=by
 refine zaI rfl rfl rfl rfl ?_
 have hlim:l.length+1<=lim:=by unfold lim;omega
 by_cases hm:u.n∈l
 ·have e:vadd l u.n=l:=by simp[vadd,hm]
  rw[e]
  have hlk:∀(a0 a1 a2 a3 a5:AObj) (e:Heap),zbs false none (.pv none (.int .i64 0)) false (a0::a1::a2::a3::.map none (zfT (zfv l))::a5::e) [.map 4,.pv none (.int .i64 u.n)]=some (.pv none (.int .i64 1)):=fun a0 a1 a2 a3 a5 e=>by
   rw[zr4 (m:=zfv l) rfl,zfw,if_pos hm]
  simp -dsimp -implicitDefEqProofs only[go_sem,seval,↓reduceIte,gV,List.append_assoc,zag,zau,zap,zav,Nat.add_assoc,List.length_append,Tm.av,zeR,hlk]
  rw[if_pos (by simp[AV.refsIn])]
  simp
 ·have e:vadd l u.n=l++[u.n]:=by simp[vadd,hm]
  rw[e]
  have hlk:∀(a0 a1 a2 a3 a5:AObj) (e:Heap),zbs false none (.pv none (.int .i64 0)) false (a0::a1::a2::a3::.map none (zfT (zfv l))::a5::e) [.map 4,.pv none (.int .i64 u.n)]=some (.pv none (.int .i64 0)):=fun a0 a1 a2 a3 a5 e=>by
   rw[zr4 (m:=zfv l) rfl,zfw,if_neg hm]
  have hms:∀(a0 a1 a2 a3 a5:AObj) (e:Heap),zcG false none (a0::a1::a2::a3::.map none (zfT (zfv l))::a5::e) [.map 4,.pv none (.int .i64 u.n),.pv none (.int .i64 1)]=some (.undef,a0::a1::a2::a3::.map none (zfT (zfv (l++[u.n])))::a5::e):=fun a0 a1 a2 a3 a5 e=>by
   rw[zgM (es:=zfT (zfv l)) rfl (zkg _ _ _),zkn _ _ hm]
   rfl
  have hst:∀(n o' n':Nat) (a0 a1 a3 a4 a5:AObj) (e:Heap) (b:Nat),zaH none (b+6) (a0::a1::.box none (.sl none 3 n 0 n)::a3::a4::a5::e) [.ptr 2 0,.sl none 3 n' o' n']=some (.undef,a0::a1::.box none (.sl none 3 n' o' n')::a3::a4::a5::e):=fun n o' n' a0 a1 a3 a4 a5 e b=>zef (by omega) rfl
  simp -dsimp -implicitDefEqProofs only[go_sem,seval,↓reduceIte,gV,List.append_assoc,zag,zau,zap,zav,Nat.add_assoc,List.length_append,Tm.av,zeR,hlk,hms,hst,zaY,hlim,zqi]
  rw[if_pos (by simp[AV.refsIn])]
  simp
theorem znR(t0:Tm):∀(t:Tm) (l:List Int) (ext:Heap),t.fits=true->t.size<10000000->l.length+t.size<100000000->
  ∃v e,S 51 [t.av,.func (.func 61) [] [.ptr 5 0,.ptr 2 0]] (gV t0 l++ext)=some (.ret v,gV t0 (vads l t.occ)++(ext++e))/\v.shp=some 4/\v.plain=true/\
   ∃e2,AV.freeze deep v (gV t0 (vads l t.occ)++(ext++e))=some (t.pv,gV t0 (vads l t.occ)++(ext++e2)):=by
 intro t
 induction t using Tm.zuc with
 |h t ih=>
  intro l ext hf ht hl
  have hts:=t.size_eq
  have hlen:=Tm.zt8 t.args
  obtain⟨K,hK⟩:∃K:List Int->Heap,K=fun l=>gV t0 l++ext:=⟨_,rfl⟩
  have hKs:∀l,gV t0 l++ext=K l:=fun l=>by rw[hK]
  have hKl:∀l,(K l).length=ext.length+6:=fun l=>by rw[<-hKs];simp[gV]
  have hKa:∀l X,gV t0 l++(ext++X)=K l++X:=fun l X=>by rw[<-hKs,List.append_assoc]
  simp only[hKa,hKs]
  obtain⟨n,hn⟩:∃n,n=ext.length+6:=⟨_,rfl⟩
  rw[<-hn] at hKl
  rw[Tm.occ_eq]
  by_cases hk:t.kind=0
  ·rw[if_pos hk]
   have h1:=fun X=>zrP t0 t l (ext++X) (by omega)
   simp only[hKa] at h1
   have e1:vads l [t.n]=vadd l t.n:=rfl
   rw[e1]
   refine⟨t.av,[],?_,rfl,rfl,⟨[],rfl⟩⟩
   rw[List.append_nil]
   refine zaI rfl rfl rfl rfl ?_
   have hk':=eq_true hk
   simp only[Tm.av] at h1
   simp -dsimp -implicitDefEqProofs only[go_sem,seval,↓reduceIte,Tm.av,zbI,hk',h1,List.append_assoc,zag,zau,zap,zav,Nat.add_assoc,List.length_append,hKl,getN (hKl _),zeo (hKl _),setN (hKl _),zeS (hKl _)]
   rw[if_pos (by simp[AV.refsIn]),<-hKl (vadd l t.n)]
   exact List.take_left
  ·rw[if_neg hk]
   refine⟨.agg [(none,.pv none (.int .i64 t.kind)),(none,.pv none (.int .i64 t.n)),(none,.pv none (.str t.name)),(none,.sl (some 4) (n+5) t.args.length 0 t.args.length)],
    [.box (some 4) (.pv (some 4) t.pv),.box (some 4) (.agg [(none,.pv none (.int .i64 t.kind)),(none,.pv none (.int .i64 t.n)),(none,.pv none (.str t.name)),(none,.sl (some 4) (n+5) t.args.length 0 t.args.length)]),.arr (some 4) [] false,.box (some 4) (.agg [(none,.pv none (.int .i64 t.kind)),(none,.pv none (.int .i64 t.n)),(none,.pv none (.str t.name)),(none,.sl (some 4) (n+5) t.args.length 0 t.args.length)]),.arr (some 4) [] false,.arr (some 4) (Tm.pvs t.args) false],?_,rfl,rfl,?_⟩
   ·refine zaI rfl rfl rfl rfl ?_
    have hk':=eq_false hk
    have hb:zb5 [(none,.pv none (.int .i64 0)),(none,.pv none (.int .i64 0)),(none,.pv none (.str [])),(none,.tsl (some 4) [])] [0,1,2] [.pv none (.int .i64 t.kind),.pv none (.int .i64 t.n),.pv none (.str t.name)]=some (.agg [(none,.pv none (.int .i64 t.kind)),(none,.pv none (.int .i64 t.n)),(none,.pv none (.str t.name)),(none,.tsl (some 4) [])]):=rfl
    have hle:∀k,n<=n+k:=fun k=>Nat.le_add_right _ _
    rw[hKl]
    simp -dsimp -implicitDefEqProofs only[go_sem,seval,↓reduceIte,Tm.av,zbI,zeR,zdE,za7,hk',Tm.pvs_len,hb,zaA (Nat.le_add_right _ _),List.append_assoc,zag,zau,zap,zav,Nat.add_assoc,List.length_append,hKl,getN (hKl _),zeo (hKl _),setN (hKl _),zeS (hKl _)]
    refine zfS (α:=Unit) t.args.length (fun _ _=>True) (fun i _=>⟨[(1,.func (.func 61) [] [.ptr 5 0,.ptr 2 0]),(4,.ptr (n+1) 0),(5,.ptr (n+3) 0),(22,.pv none (.sl (some 4) (Tm.pvs t.args))),(23,.pv none (.int .i64 t.args.length)),(24,.pv none (.int .i64 i))],K (vads l (Tm.occs (t.args.take i)))++appH n t i⟩) () ⟨trivial,?_⟩ ?_ ?_
    ·rw[List.take_zero]
     rfl
    ·rintro i - h -
     have hc:(i:Int)<(t.args.length:Int):=by omega
     obtain⟨u,hu⟩:∃u,t.args[i]? =some u:=⟨_,List.getElem?_eq_getElem h⟩
     have hum:=List.mem_of_getElem? hu
     have husz:=Tm.zul hum
     have hst:=Tm.zuk hu
     have hle2:=Tm.zuf t.args (i+1)
     have hvl:=zmv (Tm.occs (t.args.take i)) l
     have hol:=Tm.zuh (t.args.take i)
     obtain⟨v,e,hcall,hvs,hvp,e2,hfz⟩:=ih u hum (vads l (Tm.occs (t.args.take i))) (ext++(appH n t i++[.box (some 4) (.pv (some 4) u.pv),.arr (some 4) [] false])) (Tm.zum hf hum) (by omega) (by omega)
     rw[<-zrR,<-Tm.zui hu] at hcall hfz
     simp only[List.append_assoc,hKa] at hcall hfz
     generalize vads l (Tm.occs (t.args.take (i+1)))=l2 at hcall hfz ⊢
     generalize vads l (Tm.occs (t.args.take i))=l1 at hcall hfz hvl ⊢
     have w2:IntKind.i64.wrap ((i:Int)+1)=((i+1:Nat):Int):=by rw[zah (by omega) (by omega)];omega
     have hl:(Tm.pvs (t.args.take i)).length=i:=by rw[Tm.pvs_len,List.length_take];omega
     have hlim:i+1<=lim:=by unfold lim;omega
     have hbs:za8 (some 4) (K l2++(appH n t i++([.box (some 4) (.pv (some 4) u.pv),.arr (some 4) [] false]++e))) [v]=some (.tsl (some 4) [u.pv],K l2++(appH n t i++([.box (some 4) (.pv (some 4) u.pv),.arr (some 4) [] false]++e2))):=by
      simp only[za8,zan,hfz,hvs,zbc,if_true]
     have hs1:∀(k k':List Int) (e e':Heap),zbD (K k++(appH n t i++e)) (K k'++(appH n t i++e')) (.ptr (n+3) 3)=true:=fun k k' e e'=>zko (t:=t) (q:=n+5) (i:=i) (by rw[getN (hKl _)];rfl) (by rw[getN (hKl _)];rfl)
     simp only[Tm.av] at hcall
     simp only[appH,List.append_assoc,List.cons_append,List.nil_append] at hcall hbs hs1
     simp -dsimp -implicitDefEqProofs only[go_sem,seval,↓reduceIte,appH,hc,zak (Tm.pvs_get hu),zhR,List.take_succ_cons,List.drop_succ_cons,List.all_cons,List.all_nil,hcall,hbs,hs1,w2,hl,hlim,Tm.zt9 hu,zaA (Nat.le_add_right _ _),zcb (Nat.le_add_right _ _),List.append_assoc,zag,zau,zap,zav,Nat.add_assoc,List.length_append,hKl,getN (hKl _),zeo (hKl _),setN (hKl _),zeS (hKl _)]
     refine⟨(),?_⟩
     rw[zby 6 (hKl _) rfl (by simp[AObj.refs,AV.ofComps,pures,AV.refsIn,AV.refsIn.go]) (by simp[AV.refsIn,AV.refsIn.gol])]
     rfl
    ·rintro - -
     have hc:¬(t.args.length:Int)<(t.args.length:Int):=by omega
     simp -dsimp -implicitDefEqProofs only[go_sem,seval,↓reduceIte,appH,hc,List.take_length,za1,zaA (Nat.le_add_right _ _),zcb (Nat.le_add_right _ _),List.append_assoc,zag,zau,zap,zav,Nat.add_assoc,List.length_append,hKl,getN (hKl _),zeo (hKl _),setN (hKl _),zeS (hKl _)]
     rw[if_neg (by simp[AV.refsIn,AV.refsIn.go])]
   ·have e:∀l hp,AV.freeze (7+1) (.agg l) hp=match AV.freeze.go 7 l hp with|some (ps,hp')=>some (.agg ps,hp')|none=>none:=fun _ _=>rfl
    cases t with
    |mk k n' s ts=>
     refine⟨[.box (some 4) (.pv (some 4) (Tm.mk k n' s ts).pv),.box (some 4) (.agg [(none,.pv none (.int .i64 k)),(none,.pv none (.int .i64 n')),(none,.pv none (.str s)),(none,.sl (some 4) (n+5) ts.length 0 ts.length)]),.arr (some 4) [] false,.box (some 4) (.agg [(none,.pv none (.int .i64 k)),(none,.pv none (.int .i64 n')),(none,.pv none (.str s)),(none,.sl (some 4) (n+5) ts.length 0 ts.length)]),.arr (some 4) [] false,.arr (some 4) (Tm.pvs ts) true],?_⟩
     show AV.freeze (7+1) (.agg _) _=_
     simp[e,AV.freeze.go,AV.freeze,getN (hKl _),setN (hKl _),Tm.kind,Tm.n,Tm.name,Tm.args,Tm.pvs_len,Tm.pv]
theorem zrQ(t:Tm)(hv:t.valid=true)(hp:Heap):S 53 [t.av] hp=some (.ret (.pv none (.sl none (ints (vads [] t.occ)))),hp):=by
 refine zaL rfl rfl rfl (zaf [(some 4,t.pv)]) rfl ?_
 have hsz:=zfn hv
 have h1:=fun hp=>ziR t hp (by omega)
 rw[hv] at h1
 have hn0:∀H:Heap,zdm none H=some (.sl none H.length 0 0 0,H++[.arr none [] false]):=fun H=>zpu (sh:=none) (by decide)
 obtain⟨v,e,h2,_,_,e2,hfz⟩:=znR t t [] [] (zft hv) (by omega) (by simp;omega)
 generalize vads [] t.occ=l at*
 simp only[Tm.av] at h1 h2
 have hmk:∀(a0 a1 a2 a3:AObj),zaH none 0 [a0,a1,a2,a3,.map none [],.box none (.pv none .nilmap)] [.ptr 5 0,.map 4]=some (.undef,[a0,a1,a2,a3,.map none [],.box none (.map 4)]):=fun _ _ _ _=>rfl
 have e0:gV t []++[]=[.box (some 4) (.pv (some 4) t.pv),.arr none [] false,.box none (.sl none 3 0 0 0),.arr none [] false,.map none [],.box none (.map 4)]:=rfl
 rw[e0] at h2
 simp only[gV,List.nil_append,List.cons_append] at h2
 have hal:∀a0 a1:AObj,zcf none (.tsl none []) [a0,a1] []=some (.ptr 2 0,[a0,a1,.box none (.sl none 3 0 0 0),.arr none [] false]):=fun _ _=>rfl
 have hfr:∀(a0 a1 a2 a4 a5:AObj),Am.frozen (.pv none (.sl none (ints l))) (.sl none 3 l.length 0 l.length) (a0::a1::a2::.arr none (ints l) false::a4::a5::e):=fun a0 a1 a2 a4 a5=>by
  refine⟨(a0::a1::a2::.arr none (ints l) false::a4::a5::e).set 3 (.arr none (ints l) true),?_⟩
  simp[AV.freezeRes,AV.freeze,deep,zaY,AV.shp]
 simp -dsimp -implicitDefEqProofs only[go_sem,seval,↓reduceIte,Tm.av,h1,hn0,hal,hmk,h2]
 exact hfr _ _ _ _ _
def cagg(k:Int)(q:Nat):AV:=.agg [(none,.pv none (.int .i64 0)),(none,.pv none (.int .i64 k)),(none,.pv none (.str [])),(none,.sl (some 4) q 0 0 0)]
def tvar(v:Int):Tm:=.mk 0 v [] []
theorem zgT{k:Int}{q:Nat}{H:Heap}(h:H[q]? =some (.arr (some 4) [] false)):AV.freeze deep (cagg k q) H=some ((tvar k).pv,H.set q (.arr (some 4) [] true)):=by
 have e:∀l hp,AV.freeze (7+1) (.agg l) hp=match AV.freeze.go 7 l hp with|some (ps,hp')=>some (.agg ps,hp')|none=>none:=fun _ _=>rfl
 show AV.freeze (7+1) (.agg _) _=_
 simp[e,AV.freeze.go,AV.freeze,h]
 rfl
def gR(t:Tm)(d:Int):Heap:=[.box (some 4) (.pv (some 4) t.pv),.box none (.pv none (.int .i64 d)),.box (some 4) (cagg 0 3),.arr (some 4) [] false]
theorem zsX(t0 u:Tm)(d:Int)(ext:Heap)(h0:0<=d)(h1:0<=u.n)(h2:d<=2000000000000)(h3:u.n<=2000000000000)(n:Nat)(hn:n=ext.length+4):
  S 54 [u.av,.ptr 1 0] (gR t0 d++ext)=some (.ret (cagg (u.n+d) (n+3)),gR t0 d++(ext++[.box (some 4) (.pv (some 4) u.pv),.box (some 4) (cagg (u.n+d) (n+3)),.arr (some 4) [] false,.arr (some 4) [] false])):=by
 obtain⟨K,hK⟩:∃K:Heap,K=gR t0 d++ext:=⟨_,rfl⟩
 have hKl:K.length=n:=by rw[hK,hn];simp[gR]
 have hK1:∀X,(K++X)[1]? =some (.box none (.pv none (.int .i64 d))):=fun X=>by rw[hK];rfl
 rw[<-List.append_assoc,<-hK]
 unfold cagg
 refine zaI rfl rfl rfl rfl ?_
 rw[hKl]
 have w1:IntKind.i64.wrap (u.n+d)=u.n+d:=zah (by omega) (by omega)
 have hb:∀k:Int,zb5 [(none,.pv none (.int .i64 0)),(none,.pv none (.int .i64 0)),(none,.pv none (.str [])),(none,.tsl (some 4) [])] [1] [.pv none (.int .i64 k)]=some (.agg [(none,.pv none (.int .i64 0)),(none,.pv none (.int .i64 k)),(none,.pv none (.str [])),(none,.tsl (some 4) [])]):=fun _=>rfl
 simp -dsimp -implicitDefEqProofs only[go_sem,seval,↓reduceIte,List.append_assoc,zag,zau,zap,zav,Nat.add_assoc,List.length_append,Tm.av,zeR,w1,hb,za1,zaA (Nat.le_add_right _ _),hK1,hKl,getN hKl,zeo hKl,setN hKl,zeS hKl]
 rw[if_neg (by simp[AV.refsIn,AV.refsIn.go])]
def appC(n:Nat)(t:Tm)(ts:List Tm)(i:Nat):Heap:=[.box (some 4) (.pv (some 4) t.pv),.box (some 4) (.agg [(none,.pv none (.int .i64 0)),(none,.pv none (.int .i64 0)),(none,.pv none (.str [])),(none,.sl (some 4) (n+2) 0 0 0)]),.arr (some 4) [] false,.box (some 4) (.agg [(none,.pv none (.int .i64 t.kind)),(none,.pv none (.int .i64 t.n)),(none,.pv none (.str t.name)),(none,.sl (some 4) (n+5) i 0 i)]),.arr (some 4) [] false,.arr (some 4) (Tm.pvs (ts.take i)) false]
def okV(t:Tm):Prop:=∀v∈t.occ,0<=v/\v<=2000000000000
theorem okV.arg{t u:Tm}(h:okV t)(hk:¬t.kind=0)(hu:u∈t.args):okV u:=fun v hv=>h v (by
 rw[Tm.occ_eq,if_neg hk]
 have:∀l:List Tm,u∈l->v∈Tm.occs l:=by
  intro l
  induction l with
  |nil=>intro h;cases h
  |cons x r ih=>
   intro h
   rw[Tm.occs]
   rcases List.mem_cons.1 h with rfl|h
   ·exact List.mem_append_left _ hv
   ·exact List.mem_append_right _ (ih h)
 exact this _ hu)
theorem zp2(t0:Tm)(d:Int)(h0:0<=d)(h2:d<=2000000000000):∀(t:Tm) (ext:Heap),t.fits=true->t.size<10000000->okV t->
  ∃v e,S 51 [t.av,.func (.func 54) [] [.ptr 1 0]] (gR t0 d++ext)=some (.ret v,gR t0 d++(ext++e))/\v.shp=some 4/\v.plain=true/\(∀H,v.own H=(v,H))/\
   (∃e2,AV.freeze deep v (gR t0 d++(ext++e))=some ((shT d t).pv,gR t0 d++(ext++e2)))/\
   ∀H:Heap,(∀j,ext.length+4<=j->H[j]? =(gR t0 d++(ext++e))[j]?)->∃H2,AV.freeze deep v H=some ((shT d t).pv,H2):=by
 intro t
 induction t using Tm.zuc with
 |h t ih=>
  intro ext hf ht hV
  have hts:=t.size_eq
  have hlen:=Tm.zt8 t.args
  obtain⟨n,hn⟩:∃n,n=ext.length+4:=⟨_,rfl⟩
  obtain⟨K,hK⟩:∃K:Heap,K=gR t0 d++ext:=⟨_,rfl⟩
  have hKl:K.length=n:=by rw[hK,hn];simp[gR]
  have hKa:∀X,gR t0 d++(ext++X)=K++X:=fun X=>by rw[hK,List.append_assoc]
  simp only[<-hn]
  simp only[hKa,<-hK]
  by_cases hk:t.kind=0
  ·have hV1:=hV t.n (by rw[Tm.occ_eq,if_pos hk];simp)
   have h1:=fun X=>zsX t0 t d (ext++X) h0 hV1.1 h2 hV1.2
   simp only[List.append_assoc] at h1
   simp only[hKa] at h1
   have e2:shT d t=tvar (t.n+d):=by
    rw[zml,if_pos hk]
    rfl
   rw[e2]
   generalize t.n+d=k at*
   refine⟨cagg k (n+6),[.box (some 4) (.pv (some 4) t.pv),.box (some 4) (cagg k (n+6)),.arr (some 4) [] false,.box (some 4) (.pv (some 4) t.pv),.box (some 4) (cagg k (n+6)),.arr (some 4) [] false,.arr (some 4) [] false],?_,rfl,rfl,fun _=>rfl,?_,fun H hH=> ?_⟩
   ·unfold cagg
    refine zaI rfl rfl rfl rfl ?_
    have hk':=eq_true hk
    have h2:=h1 [.box (some 4) (.pv (some 4) t.pv),.box (some 4) (cagg 0 (n+2)),.arr (some 4) [] false] (n+3) (by rw[hn];simp)
    simp only[Tm.av,cagg,List.cons_append,List.nil_append] at h2
    rw[hKl]
    simp -dsimp -implicitDefEqProofs only[go_sem,seval,↓reduceIte,Tm.av,cagg,zbI,hk',h2,za1,List.append_assoc,zag,zau,zap,zav,Nat.add_assoc,List.length_append,hKl,getN hKl,zeo hKl,setN hKl,zeS hKl,zaA (Nat.le_add_right _ _)]
    rw[if_neg (by simp[AV.refsIn,AV.refsIn.go])]
   ·refine⟨[.box (some 4) (.pv (some 4) t.pv),.box (some 4) (cagg k (n+6)),.arr (some 4) [] false,.box (some 4) (.pv (some 4) t.pv),.box (some 4) (cagg k (n+6)),.arr (some 4) [] false,.arr (some 4) [] true],?_⟩
    rw[zgT (by rw[getN hKl];rfl),setN hKl]
    rfl
   ·exact⟨_,zgT (by rw[hH _ (by omega),getN hKl];rfl)⟩
  ·obtain⟨ts',hts'⟩:∃ts',ts'=t.args.map (shT d):=⟨_,rfl⟩
   have htl:ts'.length=t.args.length:=by rw[hts',List.length_map]
   rw[zml,if_neg hk,zf7,<-hts']
   refine⟨.agg [(none,.pv none (.int .i64 t.kind)),(none,.pv none (.int .i64 t.n)),(none,.pv none (.str t.name)),(none,.sl (some 4) (n+5) t.args.length 0 t.args.length)],
    [.box (some 4) (.pv (some 4) t.pv),.box (some 4) (.agg [(none,.pv none (.int .i64 t.kind)),(none,.pv none (.int .i64 t.n)),(none,.pv none (.str t.name)),(none,.sl (some 4) (n+5) t.args.length 0 t.args.length)]),.arr (some 4) [] false,.box (some 4) (.agg [(none,.pv none (.int .i64 t.kind)),(none,.pv none (.int .i64 t.n)),(none,.pv none (.str t.name)),(none,.sl (some 4) (n+5) t.args.length 0 t.args.length)]),.arr (some 4) [] false,.arr (some 4) (Tm.pvs ts') false],?_,rfl,rfl,fun _=>rfl,?_,?_⟩
   ·refine zaI rfl rfl rfl rfl ?_
    have hk':=eq_false hk
    have hb:zb5 [(none,.pv none (.int .i64 0)),(none,.pv none (.int .i64 0)),(none,.pv none (.str [])),(none,.tsl (some 4) [])] [0,1,2] [.pv none (.int .i64 t.kind),.pv none (.int .i64 t.n),.pv none (.str t.name)]=some (.agg [(none,.pv none (.int .i64 t.kind)),(none,.pv none (.int .i64 t.n)),(none,.pv none (.str t.name)),(none,.tsl (some 4) [])]):=rfl
    rw[hKl]
    simp -dsimp -implicitDefEqProofs only[go_sem,seval,↓reduceIte,Tm.av,zbI,zeR,zdE,za7,hk',Tm.pvs_len,hb,zaA (Nat.le_add_right _ _),List.append_assoc,zag,zau,zap,zav,Nat.add_assoc,List.length_append,hKl,getN hKl,zeo hKl,setN hKl,zeS hKl]
    refine zfS (α:=Unit) t.args.length (fun _ _=>True) (fun i _=>⟨[(1,.func (.func 54) [] [.ptr 1 0]),(4,.ptr (n+1) 0),(5,.ptr (n+3) 0),(22,.pv none (.sl (some 4) (Tm.pvs t.args))),(23,.pv none (.int .i64 t.args.length)),(24,.pv none (.int .i64 i))],K++appC n t ts' i⟩) () ⟨trivial,?_⟩ ?_ ?_
    ·rfl
    ·rintro i - h -
     have hc:(i:Int)<(t.args.length:Int):=by omega
     obtain⟨u,hu⟩:∃u,t.args[i]? =some u:=⟨_,List.getElem?_eq_getElem h⟩
     have hum:=List.mem_of_getElem? hu
     have husz:=Tm.zul hum
     obtain⟨v,e,hcall,hvs,hvp,_,⟨e2,hfz⟩,_⟩:=ih u hum (ext++(appC n t ts' i++[.box (some 4) (.pv (some 4) u.pv),.arr (some 4) [] false])) (Tm.zum hf hum) (by omega) (hV.arg hk hum)
     simp only[List.append_assoc,hKa] at hcall hfz
     have w2:IntKind.i64.wrap ((i:Int)+1)=((i+1:Nat):Int):=by rw[zah (by omega) (by omega)];omega
     have hl:(Tm.pvs (ts'.take i)).length=i:=by rw[Tm.pvs_len,List.length_take];omega
     have hlim:i+1<=lim:=by unfold lim;omega
     have hus:ts'[i]? =some (shT d u):=by rw[hts'];simp[hu]
     have hbs:za8 (some 4) (K++(appC n t ts' i++([.box (some 4) (.pv (some 4) u.pv),.arr (some 4) [] false]++e))) [v]=some (.tsl (some 4) [(shT d u).pv],K++(appC n t ts' i++([.box (some 4) (.pv (some 4) u.pv),.arr (some 4) [] false]++e2))):=by
      simp only[za8,zan,hfz,hvs,zbc,if_true]
     have hs1:∀(e e':Heap),zbD (K++(appC n t ts' i++e)) (K++(appC n t ts' i++e')) (.ptr (n+3) 3)=true:=fun e e'=>zko (t:=t) (q:=n+5) (i:=i) (by rw[getN hKl];rfl) (by rw[getN hKl];rfl)
     simp only[Tm.av] at hcall
     simp only[appC,List.append_assoc,List.cons_append,List.nil_append] at hcall hbs hs1
     simp -dsimp -implicitDefEqProofs only[go_sem,seval,↓reduceIte,appC,hc,zak (Tm.pvs_get hu),zhR,List.take_succ_cons,List.drop_succ_cons,List.all_cons,List.all_nil,hcall,hbs,hs1,w2,hl,hlim,Tm.zt9 hus,zaA (Nat.le_add_right _ _),zcb (Nat.le_add_right _ _),List.append_assoc,zag,zau,zap,zav,Nat.add_assoc,List.length_append,hKl,getN hKl,zeo hKl,setN hKl,zeS hKl]
     refine⟨(),?_⟩
     rw[zby 6 hKl rfl (by simp[AObj.refs,AV.ofComps,pures,AV.refsIn,AV.refsIn.go]) (by simp[AV.refsIn,AV.refsIn.gol])]
     rfl
    ·rintro - -
     have hc:¬(t.args.length:Int)<(t.args.length:Int):=by omega
     have htk:ts'.take t.args.length=ts':=List.take_of_length_le (by omega)
     simp -dsimp -implicitDefEqProofs only[go_sem,seval,↓reduceIte,appC,hc,htk,za1,zaA (Nat.le_add_right _ _),zcb (Nat.le_add_right _ _),List.append_assoc,zag,zau,zap,zav,Nat.add_assoc,List.length_append,hKl,getN hKl,zeo hKl,setN hKl,zeS hKl]
     rw[if_neg (by simp[AV.refsIn,AV.refsIn.go])]
   ·have e:∀l hp,AV.freeze (7+1) (.agg l) hp=match AV.freeze.go 7 l hp with|some (ps,hp')=>some (.agg ps,hp')|none=>none:=fun _ _=>rfl
    refine⟨[.box (some 4) (.pv (some 4) t.pv),.box (some 4) (.agg [(none,.pv none (.int .i64 t.kind)),(none,.pv none (.int .i64 t.n)),(none,.pv none (.str t.name)),(none,.sl (some 4) (n+5) t.args.length 0 t.args.length)]),.arr (some 4) [] false,.box (some 4) (.agg [(none,.pv none (.int .i64 t.kind)),(none,.pv none (.int .i64 t.n)),(none,.pv none (.str t.name)),(none,.sl (some 4) (n+5) t.args.length 0 t.args.length)]),.arr (some 4) [] false,.arr (some 4) (Tm.pvs ts') true],?_⟩
    show AV.freeze (7+1) (.agg _) _=_
    simp[e,AV.freeze.go,AV.freeze,getN hKl,setN hKl,htl,Tm.pvs_len,Tm.pv]
   ·intro H hH
    have h5:=hH (n+5) (by omega)
    rw[getN hKl] at h5
    have e:∀l hp,AV.freeze (7+1) (.agg l) hp=match AV.freeze.go 7 l hp with|some (ps,hp')=>some (.agg ps,hp')|none=>none:=fun _ _=>rfl
    refine⟨H.set (n+5) (.arr (some 4) (Tm.pvs ts') true),?_⟩
    show AV.freeze (7+1) (.agg _) _=_
    simp only[List.getElem?_cons_succ,List.getElem?_cons_zero] at h5
    simp[e,AV.freeze.go,AV.freeze,h5,htl,Tm.pvs_len,Tm.pv]
theorem zp3:∀{t:Tm},t.fits=true->∀v∈t.occ,0<=v/\v<=1099511627776:=by
 intro t
 induction t using Tm.zuc with
 |h t ih=>
  intro hf v hv
  rw[Tm.occ_eq] at hv
  split at hv
  ·rename_i hk
   obtain rfl:v=t.n:=by simpa using hv
   rw[Tm.zuj,Bool.and_eq_true] at hf
   have:=hf.1
   unfold Tm.node at this
   rw[if_pos hk] at this
   simp only[Bool.and_eq_true,decide_eq_true_eq] at this
   omega
  ·have:∀l:List Tm,(∀u∈l,u∈t.args)->v∈Tm.occs l->0<=v/\v<=1099511627776:=by
    intro l
    induction l with
    |nil=>intro _ h;cases h
    |cons x r ihr=>
     intro hm h
     rw[Tm.occs] at h
     rcases List.mem_append.1 h with h|h
     ·exact ih x (hm x (by simp)) (Tm.zum hf (hm x (by simp))) v h
     ·exact ihr (fun u hu=>hm u (by simp[hu])) h
   exact this t.args (fun _ h=>h) hv
def movable(d:Int)(t:Tm):Bool:=t.occ.all fun v=>decide (v<=1099511627776 - d)
def zt:Tm:=.mk 0 0 [] []
theorem zp4(t:Tm)(hv:t.valid=true)(d:Int)(h0:0<=d)(hd:d<=1099511627776)(hp:Heap):S 38 [t.av,.pv none (.int .i64 d)] hp=some (.ret (.tuple [if movable d t=true then(shT d t).av else zt.av,.pv none (.int .i64 (if movable d t=true then 0 else 2))]),hp):=by
 refine zaL rfl rfl rfl (zaf [(some 4,t.pv),(none,.int .i64 d)]) rfl ?_
 have hsz:=zfn hv
 have hf:=zft hv
 have h1:=fun hp=>ziR t hp (by omega)
 rw[hv] at h1
 have hn:∀hp,S 35 [.pv none (.int .i64 d)] hp=some (.ret (.pv none (.bool true)),hp):=fun hp=>by
  refine zaL rfl rfl rfl (zaf [(none,.int .i64 d)]) rfl ?_
  have c1:(0:Int)<=d:=h0
  have c2:d<=1099511627776:=hd
  (repeat' (first|(simp -dsimp -implicitDefEqProofs only[go_sem,seval,↓reduceIte,c1,c2, *])|(refine zaz (fun _=> ?_) (fun _=> ?_))))
 have hvars:=fun hp=>zrQ t hv hp
 have hol:t.occ.length<=t.size:=by
  have:=Tm.zuh [t]
  simpa[Tm.occs,Tm.sizes] using this
 have hvl:=zmv t.occ []
 have hmem:=zrS t.occ []
 have hmv:movable d t=true↔∀v∈vads [] t.occ,v<=1099511627776 - d:=by
  unfold movable
  rw[List.all_eq_true]
  constructor
  ·intro h v hv
   simpa using h v (((hmem v).1 hv).resolve_left (by simp))
  ·intro h v hv
   simpa using h v ((hmem v).2 (.inr hv))
 obtain⟨v,e,h2,h3,h4,h5,_,h6⟩:=zp2 t d h0 (by omega) t [] hf (by omega) (fun v hv=>by have:=zp3 hf v hv;omega)
 generalize hl:vads [] t.occ=l at*
 have hll:l.length<10000000:=by simp only[List.length_nil] at hvl;omega
 simp only[Tm.av,gR,cagg,List.cons_append,List.nil_append] at h1 h2 hvars
 have w1:IntKind.i64.wrap (1099511627776 - d)=1099511627776 - d:=zah (by omega) (by omega)
 have hst:∀(a0 a1 a3:AObj),zaH (some 4) 0 (a0::a1::.box (some 4) (.agg [(none,.pv none (.int .i64 0)),(none,.pv none (.int .i64 0)),(none,.pv none (.str [])),(none,.sl (some 4) 3 0 0 0)])::a3::e) [.ptr 2 0,v]=some (.undef,a0::a1::.box (some 4) v::a3::e):=fun _ _ _=>by
  simp[zaH,astore,h3,h4,h5]
 have hb:zb5 [(none,.pv none (.int .i64 0)),(none,.pv none (.int .i64 0)),(none,.pv none (.str [])),(none,.tsl (some 4) [])] [] []=some (.agg [(none,.pv none (.int .i64 0)),(none,.pv none (.int .i64 0)),(none,.pv none (.str [])),(none,.tsl (some 4) [])]):=rfl
 simp -dsimp -implicitDefEqProofs only[go_sem,seval,↓reduceIte,Tm.av,h1,hn,hvars,zaY,za1,zaA (Nat.zero_le _)]
 refine zfS (α:=Unit) l.length (fun i _=>∀v∈l.take i,v<=1099511627776 - d) (fun i _=>⟨[(2,.ptr 0 0),(3,.ptr 1 0),(4,.ptr 2 0),(18,.pv none (.sl none (ints l))),(19,.pv none (.int .i64 l.length)),(20,.pv none (.int .i64 i))],[.box (some 4) (.pv (some 4) t.pv),.box none (.pv none (.int .i64 d)),.box (some 4) (.agg [(none,.pv none (.int .i64 0)),(none,.pv none (.int .i64 0)),(none,.pv none (.str [])),(none,.sl (some 4) 3 0 0 0)]),.arr (some 4) [] false]⟩) () ⟨fun v hv=>by simp at hv,rfl⟩ ?_ ?_
 ·rintro i - h hinv
  have hc:(i:Int)<(l.length:Int):=by omega
  obtain⟨w,hw⟩:∃w,l[i]? =some w:=⟨_,List.getElem?_eq_getElem h⟩
  have w2:IntKind.i64.wrap ((i:Int)+1)=((i+1:Nat):Int):=by rw[zah (by omega) (by omega)];omega
  by_cases hw2:1099511627776 - d<w
  ·have hm:¬movable d t=true:=fun hm=>by
    have:=hmv.1 hm w (List.mem_of_getElem? hw)
    omega
   simp -dsimp -implicitDefEqProofs only[go_sem,seval,↓reduceIte,hc,zak (zd8 hw),w1,hw2,hb,za1,zaA (Nat.zero_le _),zfm]
   rw[if_neg hm,if_neg hm]
   rfl
  ·simp -dsimp -implicitDefEqProofs only[go_sem,seval,↓reduceIte,hc,zak (zd8 hw),w1,w2,hw2]
   refine⟨(),fun v hv=> ?_,?_⟩
   ·rw[List.take_add_one,hw] at hv
    rcases List.mem_append.1 hv with hv|hv
    ·exact hinv v hv
    ·obtain rfl:v=w:=by simpa using hv
     omega
   ·rw[zam (by rfl)]
 ·rintro - hinv
  have hc:¬(l.length:Int)<(l.length:Int):=by omega
  rw[List.take_length] at hinv
  have hm:movable d t=true:=hmv.2 hinv
  simp -dsimp -implicitDefEqProofs only[go_sem,seval,↓reduceIte,hc,h2,hst,zfm]
  rw[if_pos hm,if_pos hm]
  obtain⟨H2,k⟩:=h6 (.box (some 4) (.pv (some 4) t.pv)::.box none (.pv none (.int .i64 d))::.box (some 4) v::.arr (some 4) [] false::e) fun j hj=>by
   match j,hj with
   |j+4,_=>rfl
  have ef:zan [v,.pv none (.int .i64 0)] (.box (some 4) (.pv (some 4) t.pv)::.box none (.pv none (.int .i64 d))::.box (some 4) v::.arr (some 4) [] false::e)=some ([(some 4,(shT d t).pv),(none,.int .i64 0)],H2):=by
   simp only[zan,k,h3]
   rfl
  rw[ef]
  rfl
def shX(d:Int)(t:Tm):Tm:=if movable d t=true then shT d t else .mk 9 0 [] []
theorem zhP(l:List Tm)(hlv:∀u∈l,u.valid=true)(hlen:l.length<10000000)(d:Int)(h0:0<=d)(hd:d<=1099511627776)(hp:Heap):S 23 [.pv none (.sl (some 4) (Tm.pvs l)),.pv none (.int .i64 d)] hp=some (.ret (.pv none (.sl (some 4) (Tm.pvs (l.map (shX d))))),hp):=by
 refine zaL rfl rfl rfl (zaf [(none,.sl (some 4) (Tm.pvs l)),(none,.int .i64 d)]) rfl ?_
 have hn0:∀H:Heap,zdm (some 4) H=some (.sl (some 4) H.length 0 0 0,H++[.arr (some 4) [] false]):=fun H=>zpu (sh:=some 4) (by decide)
 obtain⟨L,hL⟩:∃L,L=l.map (shX d):=⟨_,rfl⟩
 have hLl:L.length=l.length:=by rw[hL,List.length_map]
 rw[<-hL]
 simp -dsimp -implicitDefEqProofs only[go_sem,seval,↓reduceIte,hn0]
 refine zfS (α:=Unit) l.length (fun i _=>True) (fun i _=>⟨[(0,.pv none (.sl (some 4) (Tm.pvs l))),(1,.pv none (.int .i64 d)),(5,.sl (some 4) 1 i 0 i),(6,.pv none (.int .i64 i))],[.arr (some 4) [] false,.arr (some 4) (Tm.pvs (L.take i)) false]⟩) () ⟨trivial,rfl⟩ ?_ ?_
 ·rintro i - h -
  have hc:(i:Int)<(l.length:Int):=by omega
  obtain⟨u,hu⟩:∃u,l[i]? =some u:=⟨_,List.getElem?_eq_getElem h⟩
  have w2:IntKind.i64.wrap ((i:Int)+1)=((i+1:Nat):Int):=by rw[zah (by omega) (by omega)];omega
  have hr:=fun hp=>zp4 u (hlv u (List.mem_of_getElem? hu)) d h0 hd hp
  have hLi:L[i]? =some (shX d u):=by rw[hL];simp[hu]
  have hl:(Tm.pvs (L.take i)).length=i:=by rw[Tm.pvs_len,List.length_take];omega
  have hlim:i+1<=lim:=by unfold lim;omega
  simp only[Tm.av] at hr
  by_cases hm:movable d u=true
  ·have e:shX d u=shT d u:=if_pos hm
   rw[e] at hLi
   simp only[if_pos hm] at hr
   simp -dsimp -implicitDefEqProofs only[go_sem,seval,↓reduceIte,Tm.pvs_len,hc,zak (Tm.pvs_get hu),hr,w2,hl,hlim,Tm.zt9 hLi,za1,zaA (Nat.zero_le _)]
   refine⟨(),?_⟩
   rfl
  ·have e:shX d u=.mk 9 0 [] []:=if_neg hm
   rw[e] at hLi
   simp only[if_neg hm] at hr
   have hb:zb5 [(none,.pv none (.int .i64 0)),(none,.pv none (.int .i64 0)),(none,.pv none (.str [])),(none,.tsl (some 4) [])] [0] [.pv none (.int .i64 9)]=some (.agg [(none,.pv none (.int .i64 9)),(none,.pv none (.int .i64 0)),(none,.pv none (.str [])),(none,.tsl (some 4) [])]):=rfl
   have hbs:∀(a0 a1 a2 a3:AObj),za8 (some 4) [a0,a1,a2,a3,.arr (some 4) [] false] [.agg [(none,.pv none (.int .i64 9)),(none,.pv none (.int .i64 0)),(none,.pv none (.str [])),(none,.sl (some 4) 4 0 0 0)]]=some (.tsl (some 4) [(Tm.mk 9 0 [] []).pv],[a0,a1,a2,a3,.arr (some 4) [] true]):=fun _ _ _ _=>rfl
   simp -dsimp -implicitDefEqProofs only[go_sem,seval,↓reduceIte,Tm.pvs_len,hc,zak (Tm.pvs_get hu),hr,w2,hl,hlim,hb,hbs,Tm.zt9 hLi,za1,zaA (Nat.zero_le _)]
   refine⟨(),?_⟩
   rfl
 ·rintro - -
  have hc:¬(l.length:Int)<(l.length:Int):=by omega
  have htk:L.take l.length=L:=List.take_of_length_le (by omega)
  simp -dsimp -implicitDefEqProofs only[go_sem,seval,↓reduceIte,Tm.pvs_len,hc,htk]
  exact⟨[.arr (some 4) [] false,.arr (some 4) (Tm.pvs L) true],by simp[AV.freezeRes,AV.freeze,deep,Tm.pvs_len,hLl,AV.shp]⟩
def gX(d:Int)(g:Gl):Gl:=⟨g.kind,g.pred,g.args.map (shX d),if g.op=true then g.var+d else g.var⟩
theorem zqa(g:Gl)(l:List Tm):AV.upd deep (.pv (some 6) g.pv) 4 none (.pv none (.sl (some 4) (Tm.pvs l)))=some (.pv (some 6) (Gl.mk g.kind g.pred l g.var).pv):=rfl
theorem zr7(g:Gl)(v:Int):AV.upd deep (.pv (some 6) g.pv) 5 none (.pv none (.int .i64 v))=some (.pv (some 6) (Gl.mk g.kind g.pred g.args v).pv):=rfl
set_option maxRecDepth 20000 in
theorem zrG(x:Fl)(d:Int)(h0:0<=d)(hd:d<=1073741824)(hgv:∀g∈x.goals,∀u∈g.args,u.valid=true)(hgl:∀g∈x.goals,g.args.length<10000000)(hvar:∀g∈x.goals,g.op=true->0<=g.var/\g.var<=1099511627776)(hlen:x.goals.length<100000000)(p:PV)(A:List PV)(a1 a2 a3 a4 a5 a6 a7 a8 a9 a10 a11 a12 a13 a14 a16 a17:AObj)(hra:[a1,a2,a3,a4,a5,a6,a7,a8,a9,a10,a11,a12,a13,a14,a16,a17].all (fun o=>o.refs.all (fun q=>decide (q<19)))=true)(Q:AExit->St->Prop)
  (hQ:∀r:Fr,Q .normal ⟨(1,.pv none (.int .i64 d))::(2,.ptr 0 0)::(5,.ptr 11 0)::(6,.pv none (.int .i64 0))::(7,.ptr 15 0)::r,[.box (some 5) (.pv (some 5) x.pv),a1,a2,a3,a4,a5,a6,a7,a8,a9,a10,a11,a12,a13,a14,.box (some 5) (.agg [(some 3,.pv (some 3) p),(none,.pv none (.sl (some 4) A)),(none,.sl (some 6) 18 x.goals.length 0 x.goals.length)]),a16,a17,.arr (some 6) (Gl.pvs (x.goals.map (gX d))) false]⟩):
  W Z L 0 c9k18 ⟨[(1,.pv none (.int .i64 d)),(2,.ptr 0 0),(5,.ptr 11 0),(6,.pv none (.int .i64 0)),(7,.ptr 15 0),(8,.pv none (.int .i64 0))],[.box (some 5) (.pv (some 5) x.pv),a1,a2,a3,a4,a5,a6,a7,a8,a9,a10,a11,a12,a13,a14,.box (some 5) (.agg [(some 3,.pv (some 3) p),(none,.pv none (.sl (some 4) A)),(none,.sl (some 6) 18 0 0 0)]),a16,a17,.arr (some 6) ([]) false]⟩ Q:=by
 have hP:∀i,AV.part deep (.agg [(some 3,.pv (some 3) p),(none,.pv none (.sl (some 4) A)),(none,.sl (some 6) 18 i 0 i)]) 4 none=some (.sl (some 6) 18 i 0 i):=fun _=>rfl
 obtain⟨L,hL⟩:∃L,L=x.goals.map (gX d):=⟨_,rfl⟩
 have hLl:L.length=x.goals.length:=by rw[hL,List.length_map]
 rw[<-hL] at hQ
 simp -dsimp -implicitDefEqProofs only[c9k18,c9k30,go_sem,seval,↓reduceIte]
 refine zfS (α:=Unit) x.goals.length (fun i _=>True) (fun i _=>⟨[(1,.pv none (.int .i64 d)),(2,.ptr 0 0),(5,.ptr 11 0),(6,.pv none (.int .i64 0)),(7,.ptr 15 0),(8,.pv none (.int .i64 i))],[.box (some 5) (.pv (some 5) x.pv),a1,a2,a3,a4,a5,a6,a7,a8,a9,a10,a11,a12,a13,a14,.box (some 5) (.agg [(some 3,.pv (some 3) p),(none,.pv none (.sl (some 4) A)),(none,.sl (some 6) 18 i 0 i)]),a16,a17,.arr (some 6) (Gl.pvs (L.take i)) false]⟩) () ⟨trivial,rfl⟩ ?_ ?_
 ·rintro i - h -
  have hc:(i:Int)<(x.goals.length:Int):=by omega
  obtain⟨g,hg⟩:∃g,x.goals[i]? =some g:=⟨_,List.getElem?_eq_getElem h⟩
  have hgm:=List.mem_of_getElem? hg
  have hsh:=fun hp=>zhP g.args (hgv g hgm) (hgl g hgm) d h0 (by omega) hp
  have w2:IntKind.i64.wrap ((i:Int)+1)=((i+1:Nat):Int):=by rw[zah (by omega) (by omega)];omega
  have hLi:L[i]? =some (gX d g):=by rw[hL];simp[hg]
  have hLe:Gl.pvs (L.take i)++[(gX d g).pv]=Gl.pvs (L.take (i+1)):=by
   rw[List.take_add_one,hLi]
   simp[Gl.pvs]
  have hl:(Gl.pvs (L.take i)).length=i:=by rw[Gl.pvs_len,List.length_take];omega
  have hlim:i+1<=lim:=by unfold lim;omega
  have hcl:∀(fr:Fr) (es:List PV) (e:Heap),fr.all (fun x=>x.2.refsIn.all (fun q=>decide (q<19)))=true->collect 19 0 fr (.box (some 5) (.pv (some 5) x.pv)::a1::a2::a3::a4::a5::a6::a7::a8::a9::a10::a11::a12::a13::a14::.box (some 5) (AV.ofComps [(some 3,.pv (some 3) p),(none,.pv none (.sl (some 4) A)),(none,.sl (some 6) 18 (i+1) 0 (i+1))])::a16::a17::.arr (some 6) es false::e)=[.box (some 5) (.pv (some 5) x.pv),a1,a2,a3,a4,a5,a6,a7,a8,a9,a10,a11,a12,a13,a14,.box (some 5) (.agg [(some 3,.pv (some 3) p),(none,.pv none (.sl (some 4) A)),(none,.sl (some 6) 18 (i+1) 0 (i+1))]),a16,a17,.arr (some 6) es false]:=fun fr es e hf=>by
   refine zby (n:=19) (b:=0) 19 (base:=[]) rfl rfl ?_ hf
   change List.all [.box (some 5) (.pv (some 5) x.pv),a1,a2,a3,a4,a5,a6,a7,a8,a9,a10,a11,a12,a13,a14,.box (some 5) (AV.ofComps [(some 3,.pv (some 3) p),(none,.pv none (.sl (some 4) A)),(none,.sl (some 6) 18 (i+1) 0 (i+1))]),a16,a17,.arr (some 6) es false] _=true
   simp only[List.all_cons,List.all_nil,Bool.and_true,Bool.and_eq_true] at hra ⊢
   obtain⟨r1,r2,r3,r4,r5,r6,r7,r8,r9,r10,r11,r12,r13,r14,r16,r17⟩:=hra
   exact⟨rfl,r1,r2,r3,r4,r5,r6,r7,r8,r9,r10,r11,r12,r13,r14,rfl,r16,r17,rfl⟩
  have hbs:∀(H:Heap) (q:PV),za8 (some 6) H [.pv (some 6) q]=some (.tsl (some 6) [q],H):=fun _ _=>rfl
  by_cases hop:g.op=true
  ·have hv:=hvar g hgm hop
   have w3:IntKind.i64.wrap (g.var+d)=g.var+d:=zah (by omega) (by omega)
   have eg:gX d g=⟨g.kind,g.pred,g.args.map (shX d),g.var+d⟩:=by unfold gX;rw[if_pos hop]
   rw[eg] at hLe
   have hk:g.kind=2\/g.kind=3\/g.kind=4:=by
    have:g.op=(decide (g.kind=2) || decide (g.kind=3) || decide (g.kind=4)):=rfl
    rw[hop] at this
    have:=this.symm
    simp only[Bool.or_eq_true,decide_eq_true_eq] at this
    omega
   rcases hk with hk|hk|hk
   all_goals
    simp -dsimp -implicitDefEqProofs only[c9k18,c9k30,go_sem,seval,↓reduceIte,zdf,Gl.pvs_len,hc,zak (Gl.pvs_get hg),zbl,zcK,zee,hsh,zqa,zr7,hP,hk,w3,hbs,w2,hl,hlim,hLe,zaA (Nat.zero_le _),zcb (Nat.zero_le _)]
    refine⟨(),?_⟩
    rw[hcl _ _ _ rfl]
    rw[hk] at hLe
    rw[<-hLe]
  ·have eg:gX d g=⟨g.kind,g.pred,g.args.map (shX d),g.var⟩:=by unfold gX;rw[if_neg hop]
   rw[eg] at hLe
   have hk:¬g.kind=2/\¬g.kind=3/\¬g.kind=4:=by
    have:g.op=(decide (g.kind=2) || decide (g.kind=3) || decide (g.kind=4)):=rfl
    refine⟨fun h=>hop ?_,fun h=>hop ?_,fun h=>hop ?_⟩ <;> (rw[this,h];rfl)
   obtain⟨hk1,hk2,hk3⟩:=hk
   simp -dsimp -implicitDefEqProofs only[c9k18,c9k30,go_sem,seval,↓reduceIte,zdf,Gl.pvs_len,hc,zak (Gl.pvs_get hg),zbl,zcK,zee,hsh,zqa,zr7,hP,hk1,hk2,hk3,hbs,w2,hl,hlim,zaA (Nat.zero_le _),zcb (Nat.zero_le _)]
   refine⟨(),?_⟩
   rw[hcl _ _ _ rfl]
   rw[<-hLe]
 ·rintro - -
  have hc:¬(x.goals.length:Int)<(x.goals.length:Int):=by omega
  have htk:L.take x.goals.length=L:=List.take_of_length_le (by omega)
  simp -dsimp -implicitDefEqProofs only[c9k18,c9k30,go_sem,seval,↓reduceIte,zdf,Gl.pvs_len,hc,htk]
  exact hQ _
theorem ziN:∀(l:List Tm) (left l':Int),zde left l=(true,l')->∀u∈l,u.valid=true
 |[],_,_,_,u,hu=>by cases hu
 |t::r,left,l',e,u,hu=>by
  unfold zde at e
  split at e
  ·rename_i hv
   split at e
   ·cases e
   ·rcases List.mem_cons.1 hu with rfl|hu
    ·exact hv
    ·exact ziN r _ _ e u hu
  ·cases e
theorem ziO{g:Gl}(h:g.bare=true):∀u∈g.args,u.valid=true:=by
 unfold Gl.bare at h
 simp only[Bool.and_eq_true,decide_eq_true_eq] at h
 have:g.args=[]:=List.length_eq_zero_iff.1 (by omega)
 intro u hu
 rw[this] at hu
 cases hu
theorem zp6{g:Gl}(h:g.op=true):g.kind=2\/g.kind=3\/g.kind=4:=by
 have:g.op=(decide (g.kind=2) || decide (g.kind=3) || decide (g.kind=4)):=rfl
 rw[h] at this
 have:=this.symm
 simp only[Bool.or_eq_true,decide_eq_true_eq] at this
 omega
theorem zrE{g:Gl}{called:Bool}{left:Int}{r:Bool × Int}(h:g.step called left=some r):(∀u∈g.args,u.valid=true)/\(g.op=true->0<=g.var/\g.var<=1099511627776):=by
 unfold Gl.step at h
 split at h
 ·rename_i hk
  refine⟨?_,fun ho=>by have:=zp6 ho;omega⟩
  split at h
  ·split at h
   ·rename_i l hl;exact ziN _ _ _ hl
   ·cases h
  ·cases h
 ·split at h
  ·split at h
   ·rename_i hb
    simp only[Bool.and_eq_true,decide_eq_true_eq] at hb
    exact⟨ziO hb.1.1.1,fun _=>⟨hb.1.1.2,hb.1.2⟩⟩
   ·cases h
  ·split at h
   ·split at h
    ·rename_i hb
     simp only[Bool.and_eq_true,decide_eq_true_eq] at hb
     exact⟨ziO hb.1.1,fun _=>⟨hb.1.2,hb.2⟩⟩
    ·cases h
   ·rename_i h1 h2 h3
    refine⟨?_,fun ho=>by have:=zp6 ho;omega⟩
    split at h
    ·split at h
     ·rename_i hb;simp only[Bool.and_eq_true] at hb;exact ziO hb.1
     ·cases h
    ·cases h
theorem zkl:∀(l:List Gl) (called:Bool) (left:Int),Gl.steps called left l=true->∀g∈l,(∀u∈g.args,u.valid=true)/\(g.op=true->0<=g.var/\g.var<=1099511627776)
 |[],_,_,_,g,hg=>by cases hg
 |x::r,called,left,h,g,hg=>by
  unfold Gl.steps at h
  split at h
  ·rename_i c l hs
   rcases List.mem_cons.1 hg with rfl|hg
   ·exact zrE hs
   ·exact zkl r _ _ h g hg
  ·cases h
theorem zp7{f:Fl}(h:f.valid=true):(∀u∈f.args,u.valid=true)/\∀g∈f.goals,(∀u∈g.args,u.valid=true)/\(g.op=true->0<=g.var/\g.var<=1099511627776):=by
 unfold Fl.valid at h
 simp only[Bool.and_eq_true] at h
 obtain⟨_,h⟩:=h
 split at h
 ·rename_i l hl
  exact⟨ziN _ _ _ hl,zkl _ _ _ h⟩
 ·cases h
def flX(d:Int)(x:Fl):Fl:=⟨x.pred,x.args.map (shX d),x.goals.map (gX d)⟩
theorem zp8{d:Int}{t:Tm}(h:(shX d t).valid=true):shX d t=shT d t:=by
 unfold shX at h ⊢
 split
 ·rfl
 ·rename_i hm
  rw[if_neg hm] at h
  exact absurd h (by decide)
theorem zp9{d:Int}{x:Fl}(h:(flX d x).valid=true):flX d x=shF d x:=by
 obtain⟨h1,h2⟩:=zp7 h
 have e1:x.args.map (shX d)=shTs d x.args:=by
  rw[zf7]
  exact List.map_congr_left fun u hu=>zp8 (h1 _ (List.mem_map_of_mem hu))
 have e2:x.goals.map (gX d)=x.goals.map (shG d):=by
  refine List.map_congr_left fun g hg=> ?_
  have:=(h2 _ (List.mem_map_of_mem hg)).1
  unfold gX shG
  rw[zf7]
  congr 1
  exact List.map_congr_left fun u hu=>zp8 (this _ (List.mem_map_of_mem hu))
 unfold flX shF
 rw[e1,e2]
theorem zrF(d:Int)(t:Tm):(shX d t).size<=t.size:=by
 unfold shX
 split
 ·exact zrH d t
 ·rw[t.size_eq]
  show 1+0<=_
  omega
theorem zgV(d:Int):∀l:List Tm,Tm.sizes (l.map (shX d))<=Tm.sizes l
 |[]=>Nat.le_refl _
 |t::r=>by
  have h1:=zrF d t
  have h2:=zgV d r
  show(shX d t).size+Tm.sizes (r.map (shX d))<=t.size+Tm.sizes r
  omega
def mvd(d:Int)(P:List Int)(i:Nat):List Int:=(P.take i).map (·+d)++P.drop i
theorem zs0(d:Int)(P:List Int)(i:Nat):(mvd d P i).length=P.length:=by
 simp only[mvd,List.length_append,List.length_map,List.length_take,List.length_drop]
 omega
theorem zs1{d:Int}{P:List Int}{i:Nat}{v:Int}(h:P[i]? =some v):(mvd d P i)[i]? =some v:=by
 have hlt:=(List.getElem?_eq_some_iff.1 h).1
 unfold mvd
 rw[List.getElem?_append_right (by simp;omega)]
 simp only[List.length_map,List.length_take]
 rw[Nat.min_eq_left (by omega),Nat.sub_self,List.getElem?_drop,Nat.add_zero,h]
theorem zs2{d:Int}{P:List Int}{i:Nat}{v:Int}(h:P[i]? =some v):(mvd d P i).set i (v+d)=mvd d P (i+1):=by
 have hlt:=(List.getElem?_eq_some_iff.1 h).1
 have hd:P.drop i=v::P.drop (i+1):=by
  rw[List.drop_eq_getElem_cons hlt]
  congr 1
  exact(List.getElem?_eq_some_iff.1 h).2
 have hl:((P.take i).map (·+d)).length=i:=by simp;omega
 unfold mvd
 rw[List.set_append_right _ _ (by omega),hl,Nat.sub_self,hd,List.set_cons_zero,List.take_add_one,h]
 simp
theorem zrL(l:List Int)(i:Nat)(v:Int):(ints l).set i (.int .i64 v)=ints (l.set i v):=by simp[ints,List.map_set]
set_option maxRecDepth 20000 in
theorem zs3(d:Int)(h0:0<=d)(hd:d<=1073741824)(P:List Int)(hlen:P.length<100000000)(hP:∀v∈P,0<=v/\v<=1099511627776)(na nb:Nat)(b0 b1 b2 b3 b5 b6 b7 b8 b9 b10:AObj)(e:Heap)(Q:AExit->St->Prop)
  (hQ:∀r:Fr,Q .normal ⟨(1,.pv none (.int .i64 d))::(5,.ptr 11 0)::(6,.pv none (.int .i64 0))::(10,.ptr 29 0)::(11,.pv none (.int .i64 0))::r,b0::b1::b2::b3::.arr none (ints (P.map (·+d))) false::b5::b6::b7::b8::b9::b10::.box (some 3) (.agg [(none,.sl none 3 na 0 na),(none,.sl none 4 P.length 0 P.length),(none,.sl none 5 nb 0 nb)])::e⟩):
  W Z L 0 c9k30 ⟨[(1,.pv none (.int .i64 d)),(5,.ptr 11 0),(6,.pv none (.int .i64 0)),(10,.ptr 29 0),(11,.pv none (.int .i64 0)),(12,.pv none (.int .i64 0))],b0::b1::b2::b3::.arr none (ints (P)) false::b5::b6::b7::b8::b9::b10::.box (some 3) (.agg [(none,.sl none 3 na 0 na),(none,.sl none 4 P.length 0 P.length),(none,.sl none 5 nb 0 nb)])::e⟩ Q:=by
 have hpt:AV.part deep (.agg [(none,.sl none 3 na 0 na),(none,.sl none 4 P.length 0 P.length),(none,.sl none 5 nb 0 nb)]) 1 none=some (.sl none 4 P.length 0 P.length):=rfl
 simp -dsimp -implicitDefEqProofs only[c9k18,c9k30,go_sem,seval,↓reduceIte]
 refine zfS (α:=Unit) P.length (fun i _=>True) (fun i _=>⟨[(1,.pv none (.int .i64 d)),(5,.ptr 11 0),(6,.pv none (.int .i64 0)),(10,.ptr 29 0),(11,.pv none (.int .i64 0)),(12,.pv none (.int .i64 i))],b0::b1::b2::b3::.arr none (ints (mvd d P i)) false::b5::b6::b7::b8::b9::b10::.box (some 3) (.agg [(none,.sl none 3 na 0 na),(none,.sl none 4 P.length 0 P.length),(none,.sl none 5 nb 0 nb)])::e⟩) () ⟨trivial,rfl⟩ ?_ ?_
 ·rintro i - h -
  have hc:(i:Int)<(P.length:Int):=by omega
  obtain⟨v,hv⟩:∃v,P[i]? =some v:=⟨_,List.getElem?_eq_getElem h⟩
  have hv2:=hP v (List.mem_of_getElem? hv)
  have w2:IntKind.i64.wrap ((i:Int)+1)=((i+1:Nat):Int):=by rw[zah (by omega) (by omega)];omega
  have w3:IntKind.i64.wrap (v+d)=v+d:=zah (by omega) (by omega)
  have hml:=zs0 d P i
  have hld:aload none (b0::b1::b2::b3::.arr none (ints (mvd d P i)) false::b5::b6::b7::b8::b9::b10::.box (some 3) (.agg [(none,.sl none 3 na 0 na),(none,.sl none 4 P.length 0 P.length),(none,.sl none 5 nb 0 nb)])::e) (.eptr none 4 P.length i 0)=some (.pv none (.int .i64 v)):=zpU (es:=ints (mvd d P i)) rfl (by rw[zaY,hml]) (zd8 (zs1 hv))
  have hst:zaH none 0 (b0::b1::b2::b3::.arr none (ints (mvd d P i)) false::b5::b6::b7::b8::b9::b10::.box (some 3) (.agg [(none,.sl none 3 na 0 na),(none,.sl none 4 P.length 0 P.length),(none,.sl none 5 nb 0 nb)])::e) [.eptr none 4 P.length i 0,.pv none (.int .i64 (v+d))]=some (.undef,b0::b1::b2::b3::.arr none (ints (mvd d P (i+1))) false::b5::b6::b7::b8::b9::b10::.box (some 3) (.agg [(none,.sl none 3 na 0 na),(none,.sl none 4 P.length 0 P.length),(none,.sl none 5 nb 0 nb)])::e):=by
   rw[zbZ (show zg4 none P.length (some (.arr none (ints (mvd d P i)) false)) from⟨rfl,by rw[zaY,hml]⟩) h,<-zs2 hv,<-zrL]
   rfl
  simp -dsimp -implicitDefEqProofs only[c9k18,c9k30,go_sem,seval,↓reduceIte,hpt,hc,zpV h,hld,hst,w2,w3]
  refine⟨(),?_⟩
  rw[zam (by simp)]
 ·rintro - -
  have hc:¬(P.length:Int)<(P.length:Int):=by omega
  have hm:mvd d P P.length=P.map (·+d):=by simp[mvd]
  simp -dsimp -implicitDefEqProofs only[c9k18,c9k30,go_sem,seval,↓reduceIte,hpt,hc,hm]
  exact hQ _
theorem zmj{l:List Tm}(h:∀u∈l,u.valid=true):∀v∈Tm.occs l,0<=v/\v<=1099511627776:=by
 induction l with
 |nil=>intro v hv;cases hv
 |cons x r ih=>
  intro v hv
  rw[Tm.occs] at hv
  rcases List.mem_append.1 hv with hv|hv
  ·exact zp3 (zft (h x (by simp))) v hv
  ·exact ih (fun u hu=>h u (by simp[hu])) v hv
theorem zmk:∀(l:List Gl) (c:Int),(∀g∈l,(∀u∈g.args,u.valid=true)/\(g.op=true->0<=g.var/\g.var<=1099511627776))->∀p∈zco c l,0<=p.1/\p.1<=1099511627776
 |[],_,_,p,hp=>by cases hp
 |g::r,c,h,p,hp=>by
  rw[zco] at hp
  obtain⟨h1,h2⟩:=h g (by simp)
  rcases List.mem_append.1 hp with hp|hp
  ·unfold zeb at hp
   rcases List.mem_append.1 hp with hp|hp
   ·obtain⟨v,hv,rfl⟩:=List.mem_map.1 hp
    exact zmj h1 v hv
   ·by_cases ho:g.op=true
    ·rw[if_pos ho] at hp
     obtain rfl:p=(g.var,c):=by simpa using hp
     exact h2 ho
    ·rw[if_neg ho] at hp
     cases hp
  ·exact zmk r _ (fun g hg=>h g (by simp[hg])) p hp
theorem zp5{x:Fl}(hval:x.valid=true):∀p∈zaj x,0<=p.1/\p.1<=1099511627776:=by
 obtain⟨h1,h2⟩:=zp7 hval
 intro p hp
 unfold zaj at hp
 rcases List.mem_append.1 hp with hp|hp
 ·obtain⟨v,hv,rfl⟩:=List.mem_map.1 hp
  exact zmj h1 v hv
 ·exact zmk _ _ h2 p hp
theorem zrC{x:Fl}(hval:x.valid=true):∀v∈zea x,0<=v/\v<=1099511627776:=by
 intro v hv
 have hm:=(zrz _ _).1 hv
 have:=zmh _ (zaj x) rfl (zlE x) v
 cases hs:zaG v (sps (zaj x)) with
 |none=>exact(spFind_mem.2 hm.1 hs).elim
 |some y=>
  rw[hs] at this
  obtain⟨_,_,_,p,hp,h4,_⟩:=this
  have:=zp5 hval p hp
  omega
theorem livesOf_len'(l:List Sp)(P:List Int):∀(gs:List Gl) (c:Int),(zbe l P c gs).length=gs.length
 |[],_=>rfl
 |g::r,c=>by simp[zbe,livesOf_len' l P r]
def ag3(i j k:Nat)(A P B:List Int):AV:=.agg [(none,.sl none i A.length 0 A.length),(none,.sl none j P.length 0 P.length),(none,.sl none k B.length 0 B.length)]
theorem zhO{hp:Heap}{i j k:Nat}{A P B:List Int}{z0 z1 z2:Bool}(hij:i≠j)(hik:i≠k)(hjk:j≠k)(h0:hp[i]? =some (.arr none (ints A) z0))(h1:hp[j]? =some (.arr none (ints P) z1))(h2:hp[k]? =some (.arr none (ints B) z2)):AV.freeze deep (ag3 i j k A P B) hp=some (chPV A P B,((hp.set i (.arr none (ints A) true)).set j (.arr none (ints P) true)).set k (.arr none (ints B) true)):=by
 have e:∀l hp,AV.freeze (7+1) (.agg l) hp=match AV.freeze.go 7 l hp with|some (ps,hp')=>some (.agg ps,hp')|none=>none:=fun _ _=>rfl
 show AV.freeze (7+1) (.agg _) _=_
 have g1:(hp.set i (.arr none (ints A) true))[j]? =some (.arr none (ints P) z1):=by rw[List.getElem?_set_ne hij];exact h1
 have g2:((hp.set i (.arr none (ints A) true)).set j (.arr none (ints P) true))[k]? =some (.arr none (ints B) z2):=by rw[List.getElem?_set_ne hjk,List.getElem?_set_ne hik];exact h2
 simp[e,AV.freeze.go,AV.freeze,h0,g1,g2,zaY,chPV]
theorem zrD{hp:Heap}{A P B:List Int}{z0 z1 z2 z3 z4 z5:Bool}(hA:A.length<1000000000)(hP:P.length<1000000000)(hB:B.length<1000000000)(h0:hp[3]? =some (.arr none (ints A) z0))(h1:hp[4]? =some (.arr none (ints P) z1))(h2:hp[5]? =some (.arr none (ints B) z2))(h3:hp[21]? =some (.arr none (ints A) z3))(h4:hp[22]? =some (.arr none (ints P) z4))(h5:hp[23]? =some (.arr none (ints B) z5)):
  S 14 [ag3 3 4 5 A P B,ag3 21 22 23 A P B] hp=some (.ret (.pv none (.bool true)),hp):=by
 have f1:=zhO (i:=3) (j:=4) (k:=5) (by decide) (by decide) (by decide) h0 h1 h2
 obtain⟨hp1,hh⟩:∃hp1,hp1=((hp.set 3 (.arr none (ints A) true)).set 4 (.arr none (ints P) true)).set 5 (.arr none (ints B) true):=⟨_,rfl⟩
 have k3:hp1[21]? =some (.arr none (ints A) z3):=by rw[hh,List.getElem?_set_ne (by decide),List.getElem?_set_ne (by decide),List.getElem?_set_ne (by decide)];exact h3
 have k4:hp1[22]? =some (.arr none (ints P) z4):=by rw[hh,List.getElem?_set_ne (by decide),List.getElem?_set_ne (by decide),List.getElem?_set_ne (by decide)];exact h4
 have k5:hp1[23]? =some (.arr none (ints B) z5):=by rw[hh,List.getElem?_set_ne (by decide),List.getElem?_set_ne (by decide),List.getElem?_set_ne (by decide)];exact h5
 have f2:=zhO (i:=21) (j:=22) (k:=23) (by decide) (by decide) (by decide) k3 k4 k5
 rw[<-hh] at f1
 exact ziH (F:=find tab) (prim:=prim) (f:=14) (ps:=[(some 3,chPV A P B),(some 3,chPV A P B)]) rfl rfl rfl (by simp only[zan,f1,f2];rfl) (zsY A P B [] hA hP hB)
theorem zt5:yes (asem (find tab) prim 60 .fn 11 [] [])=true:=by kernel_rfl
def Fl.small(f:Fl):Bool:=decide ((f.args.length:Int)<=20) && decide ((f.goals.length:Int)<=100)
theorem zmq(f:Fl)(hp:Heap):S 10 [f.av] hp=some (.ret (.pv none (.bool (Fl.small f))),hp):=by
 refine zaL rfl rfl rfl (zaf [(some 5,f.pv)]) rfl ?_
 have hS:Fl.small f=(decide ((f.args.length:Int)<=20) && decide ((f.goals.length:Int)<=100)):=rfl
 by_cases h:(f.args.length:Int)<=20
 ·simp only[h,decide_true,Bool.true_and] at hS
  rw[hS]
  (repeat' (first|(simp -dsimp -implicitDefEqProofs only[go_sem,seval,↓reduceIte,zgK,zdf,Tm.pvs_len,Gl.pvs_len, *])|(refine zaz (fun _=> ?_) (fun _=> ?_))))
 ·simp only[h,decide_false,Bool.false_and] at hS
  rw[hS]
  (repeat' (first|(simp -dsimp -implicitDefEqProofs only[go_sem,seval,↓reduceIte,zgK,zdf,Tm.pvs_len,Gl.pvs_len, *])|(refine zaz (fun _=> ?_) (fun _=> ?_))))
theorem zmr(hp:Heap):S 11 [] hp=some (.ret (.pv none (.bool true)),hp):=
 ziH (ps:=[]) rfl rfl rfl rfl (sem_iff.2 ⟨60,ztB zt5⟩)
end Go.Proofs.Ytmajapjbogmefaa
