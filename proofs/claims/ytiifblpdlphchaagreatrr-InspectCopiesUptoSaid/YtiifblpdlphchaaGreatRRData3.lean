/- What is proved: the program's copied. -/
import Derived.Test.YtiifblpdlphchaaGreatRRCpy
import Derived.Test.YtiifblpdlphchaaGreatRRSml
import Derived.Test.YtiifblpdlphchaaGreatRRAm4
import Derived.Test.YtiifblpdlphchaaGreatRRAm5
set_option linter.unusedSimpArgs false
set_option linter.unusedVariables false
namespace Go.Proofs.YtiifblpdlphchaaGreatRR
open Go.Am
theorem zkl(g:Tm)(k:Nat)(hp:Heap)(r m:Nat)(hr:r<hp.length)(hm:m<hp.length)(hrm:r≠m)(hkb:k<100000):∀(t:Tm) (l L:List Int) (ext:Heap),t.fits=true->t.size<100000->l.length+t.size<200000->vads l t.occ <+: L->
  ∃v e,S 102 [.ptr r 0,t.av,.map m] (dH hp r m g k l (k+l.length)++ext)=some (.ret v,dH hp r m g k (vads l t.occ) (k+(vads l t.occ).length)++(ext++e))/\CopR v (Tm.sub (cpk k L) t) (hp.length+ext.length) (dH hp r m g k (vads l t.occ) (k+(vads l t.occ).length)++(ext++e)):=by
 intro t
 induction t using Tm.zub with
 |h t ih=>
  intro l L ext hf ht hl hp2
  have hts:=t.size_eq
  have hlen:=Tm.zuc t.args
  obtain⟨n,hn⟩:∃n,n=hp.length+ext.length:=⟨_,rfl⟩
  obtain⟨P,hP⟩:∃P:List Int->Nat->Heap,P=fun l j=>dH hp r m g k l j++ext:=⟨_,rfl⟩
  have hPs:∀l j,dH hp r m g k l j++ext=P l j:=fun l j=>by rw[hP]
  have hPa:∀l j X,dH hp r m g k l j++(ext++X)=P l j++X:=fun l j X=>by rw[<-hPs,List.append_assoc]
  have hPl:∀l j,(P l j).length=n:=fun l j=>by rw[<-hPs,List.length_append,zi0,hn]
  have hPm:∀l j X,(P l j++X)[m]? =some (.map (some 4) (zbs (posG k l))):=fun l j X=>by rw[<-hPa];exact ztk hm hrm g k l j _
  have hPsm:∀l l' j X,(P l j++X).set m (.map (some 4) (zbs (posG k l')))=P l' j++X:=fun l l' j X=>by rw[<-hPa,<-hPa];exact ztl hm hrm g k l l' j _
  have hfr:∀l j X,j<1000000->S 128 [.ptr r 0] (P l j++X)=some (.ret (nagg (tvar (j:Int)) (n+X.length+2)),P l (j+1)++(X++[.box (some 4) (nagg (tvar (j:Int)) (n+X.length+2)),.arr (some 4) [] false,.arr (some 4) [] false])):=fun l j X hj=>by
   have h:=zqT g j hj (hp.set m (.map (some 4) (zbs (posG k l)))) r (by simpa using hr) (ext++X) (n+X.length) (by rw[List.length_append,List.length_set,hn];omega)
   have e1:hK (hp.set m (.map (some 4) (zbs (posG k l)))) r g j++(ext++X)=P l j++X:=hPa l j X
   have e2:∀Y,hK (hp.set m (.map (some 4) (zbs (posG k l)))) r g (j+1)++(ext++Y)=P l (j+1)++Y:=fun Y=>hPa l (j+1) Y
   rw[e1,List.append_assoc ext,e2] at h
   exact h
  simp only[<-hn]
  simp only[hPa,hPs]
  rw[Tm.occ_eq] at hp2 ⊢
  have hiv:=fun hp=>zlx t hp
  simp only[Tm.av] at hiv
  by_cases hk:t.kind=0
  ·rw[if_pos hk] at hp2 ⊢
   have hkd:decide (t.kind=0)=true:=decide_eq_true hk
   rw[hkd] at hiv
   have e1:vads l [t.n]=vadd l t.n:=rfl
   rw[e1] at hp2 ⊢
   have e2:Tm.sub (cpk k L) t=tvar ((k+(vadd l t.n).idxOf t.n:Nat):Int):=by
    rw[Tm.zue,if_pos hk]
    unfold cpk
    rw[zfU (zhD l t.n) hp2]
   rw[e2]
   by_cases hmem:t.n∈l
   ·have e:vadd l t.n=l:=by simp[vadd,hmem]
    rw[e]
    have hlk:∀(z:AV) (X:Heap),zaR false (some 4) z true (P l (k+l.length)++X) [.map m,.pv none (.int .i64 t.n)]=some (.tuple [.pv (some 4) (tvar ((k+l.idxOf t.n:Nat):Int)).pv,.pv none (.bool true)]):=fun z X=>
     zbW (hPm _ _ _) (by rw[zcB,zfW,if_pos hmem])
    generalize tvar ((k+l.idxOf t.n:Nat):Int)=u at hlk ⊢
    refine⟨.pv (some 4) u.pv,[],?_,.inl rfl⟩
    refine zaB rfl rfl rfl rfl ?_
    rw[hPl]
    simp -dsimp -implicitDefEqProofs only[go_sem,seval,↓reduceIte,Tm.av,hiv,hlk,zbi,zad (Nat.le_add_right _ _),zaq,List.append_assoc,zal,zag,zan,zai,Nat.add_assoc,List.length_append,hPl,getN (hPl _ _),zcs (hPl _ _),setN (hPl _ _),zcA (hPl _ _),List.append_nil]
    rw[if_pos (by simp[AV.refsIn]),zta (hPl _ _)]
   ·have e:vadd l t.n=l++[t.n]:=by simp[vadd,hmem]
    rw[e,zed hmem]
    have hlk:∀(z:AV) (X:Heap),zaR false (some 4) z true (P l (k+l.length)++X) [.map m,.pv none (.int .i64 t.n)]=some (.tuple [z,.pv none (.bool false)]):=fun z X=>
     zbf (hPm _ _ _) (by rw[zcB,zfW,if_neg hmem])
    have ej:k+(l++[t.n]).length=k+l.length+1:=by rw[List.length_append,List.length_singleton];omega
    rw[ej]
    obtain⟨j,hj⟩:∃j,j=k+l.length:=⟨_,rfl⟩
    have hput:mPut t.n (tvar ((j:Nat):Int)).pv (posG k l)=posG k (l++[t.n]):=by
     rw[hj]
     exact zlj t.n l k hmem
    rw[<-hj] at hlk ⊢
    have hj6:j<1000000:=by omega
    have hfj:=fun X=>hfr l j X hj6
    obtain⟨u,hu⟩:∃u,u=tvar ((j:Nat):Int):=⟨_,rfl⟩
    rw[<-hu] at hput hfj ⊢
    have hua:u.args=[]:=by rw[hu];rfl
    have hms:∀(x0 x1 x2 x3 x4 x5 x6 x7:AObj),zbt false (some 4) (P l (j+1)++[x0,x1,x2,x3,x4,x5,x6,x7,.arr (some 4) [] false]) [.map m,.pv none (.int .i64 t.n),nagg u (n+8)]=some (.undef,P (l++[t.n]) (j+1)++[x0,x1,x2,x3,x4,x5,x6,x7,.arr (some 4) [] true]):=fun x0 x1 x2 x3 x4 x5 x6 x7=>by
     have e1:=zkz (u:=u) hua (q:=n+8) (H:=P l (j+1)++[x0,x1,x2,x3,x4,x5,x6,x7,.arr (some 4) [] false]) (z:=false) (by rw[getN (hPl _ _)];rfl)
     have e2:(nagg u (n+8)).shp=some 4:=rfl
     have e3:=zee t.n u.pv (posG k l)
     rw[hput] at e3
     rw[setN (hPl _ _)] at e1
     simp only[zbt,e1,e2,hPm,e3,if_true,hPsm]
     rfl
    refine⟨nagg u (n+8),[.box (some 4) (.pv (some 4) t.pv),.box (some 4) (nagg u (n+8)),.arr (some 4) [] false,.box (some 4) (nagg u (n+8)),.arr (some 4) [] false,.arr (some 4) [] false,.box (some 4) (nagg u (n+8)),.arr (some 4) [] false,.arr (some 4) [] true],?_,.inr ⟨n+8,true,by omega,zqP hua _,?_⟩⟩
    ·refine zaB rfl rfl rfl rfl ?_
     rw[hPl]
     simp only[nagg] at hfj hms
     simp -dsimp -implicitDefEqProofs only[go_sem,seval,↓reduceIte,Tm.av,hiv,hlk,hfj,hms,zbi,zad (Nat.le_add_right _ _),zaq,List.append_assoc,zal,zag,zan,zai,Nat.add_assoc,List.length_append,hPl,getN (hPl _ _),zcs (hPl _ _),setN (hPl _ _),zcA (hPl _ _)]
     exact⟨rfl,by rw[if_neg (by simp[nagg,AV.refsIn,AV.refsIn.go])];rfl⟩
    ·rw[getN (hPl _ _),hua]
     rfl
  ·rw[if_neg hk] at hp2 ⊢
   have hkd:decide (t.kind=0)=false:=decide_eq_false hk
   rw[hkd] at hiv
   have e2:Tm.sub (cpk k L) t=.mk t.kind t.n t.name (t.args.map (Tm.sub (cpk k L))):=by rw[Tm.zue,if_neg hk]
   rw[e2]
   obtain⟨ts',hts'⟩:∃ts',ts'=t.args.map (Tm.sub (cpk k L)):=⟨_,rfl⟩
   have htl:ts'.length=t.args.length:=by rw[hts',List.length_map]
   rw[<-hts']
   refine⟨.agg [(none,.pv none (.int .i64 t.kind)),(none,.pv none (.int .i64 t.n)),(none,.pv none (.str t.name)),(none,.sl (some 4) (n+5) t.args.length 0 t.args.length)],
    [.box (some 4) (.pv (some 4) t.pv),.box (some 4) (.agg [(none,.pv none (.int .i64 t.kind)),(none,.pv none (.int .i64 t.n)),(none,.pv none (.str t.name)),(none,.sl (some 4) (n+5) t.args.length 0 t.args.length)]),.arr (some 4) [] false,.box (some 4) (.agg [(none,.pv none (.int .i64 t.kind)),(none,.pv none (.int .i64 t.n)),(none,.pv none (.str t.name)),(none,.sl (some 4) (n+5) t.args.length 0 t.args.length)]),.arr (some 4) [] false,.arr (some 4) (Tm.pvs ts') false],?_,.inr ⟨n+5,false,by omega,?_,?_⟩⟩
   ·refine zaB rfl rfl rfl rfl ?_
    rw[hPl]
    have hup:∀(s:Sh) (q v o m:Nat),AV.upd deep (.pv (some 4) t.pv) 3 none (.sl s q v o m)=some (.agg [(none,.pv none (.int .i64 t.kind)),(none,.pv none (.int .i64 t.n)),(none,.pv none (.str t.name)),(none,.sl s q v o m)]):=fun s q v o m=>zhS t s q v o m
    have hst0:∀(l:List Int) (j:Nat) (x0 x1 x2 x4:AObj),zay none n (P l j++[x0,x1,x2,.box (some 4) (.pv (some 4) t.pv),x4]) [.ptr (n+3) 3,.tsl (some 4) []]=some (.undef,P l j++[x0,x1,x2,.box (some 4) (.agg [(none,.pv none (.int .i64 t.kind)),(none,.pv none (.int .i64 t.n)),(none,.pv none (.str t.name)),(none,.sl (some 4) (n+5) 0 0 0)]),x4,.arr (some 4) [] false]):=fun l j x0 x1 x2 x4=>by
     simp[zay,astore,getN (hPl l j),setN (hPl l j),AV.plain,AV.shp,AV.own,zb9,hPl,hup]
    simp -dsimp -implicitDefEqProofs only[go_sem,seval,↓reduceIte,Tm.av,hiv,hst0,zae,Tm.pvs_len,zad (Nat.le_add_right _ _),zaq,List.append_assoc,zal,zag,zan,zai,Nat.add_assoc,List.length_append,hPl,getN (hPl _ _),zcs (hPl _ _),setN (hPl _ _),zcA (hPl _ _)]
    refine zdA (α:=Unit) t.args.length (fun _ _=>True) (fun i _=>⟨[(0,.ptr r 0),(2,.map m),(6,.ptr (n+1) 0),(9,.ptr (n+3) 0),(33,.pv none (.sl (some 4) (Tm.pvs t.args))),(34,.pv none (.int .i64 t.args.length)),(35,.pv none (.int .i64 i))],P (vads l (Tm.occs (t.args.take i))) (k+(vads l (Tm.occs (t.args.take i))).length)++appC n t ts' i⟩) () ⟨trivial,?_⟩ ?_ ?_
    ·rw[List.take_zero]
     rfl
    ·rintro i - h -
     have hc:(i:Int)<(t.args.length:Int):=by omega
     obtain⟨u,hu⟩:∃u,t.args[i]? =some u:=⟨_,List.getElem?_eq_getElem h⟩
     have hum:=List.mem_of_getElem? hu
     have husz:=Tm.zuh hum
     have hst:=Tm.zuj hu
     have hle2:=Tm.zuf t.args (i+1)
     have hvl:=za1 (Tm.occs (t.args.take i)) l
     have hol:=Tm.zus (t.args.take i)
     have hpre:vads (vads l (Tm.occs (t.args.take i))) u.occ <+: L:=by
      rw[<-zcp,<-Tm.zuk hu]
      refine List.IsPrefix.trans ?_ hp2
      have e:=List.take_append_drop (i+1) t.args
      rw[<-e,zlb,zcp,e]
      exact ze8 _ _
     obtain⟨v,e,hcall,hcop⟩:=ih u hum (vads l (Tm.occs (t.args.take i))) L (ext++(appC n t ts' i++[.box (some 4) (.pv (some 4) u.pv),.arr (some 4) [] false])) (Tm.zud hf hum) (by omega) (by omega) hpre
     rw[<-zcp,<-Tm.zuk hu] at hcall hcop
     have hus:ts'[i]? =some (Tm.sub (cpk k L) u):=by rw[hts'];simp[hu]
     simp only[List.append_assoc,hPa] at hcall hcop
     obtain⟨e2,he2,hfz⟩:∃e2,e2.length=e.length/\AV.freeze deep v (P (vads l (Tm.occs (t.args.take (i+1)))) (k+(vads l (Tm.occs (t.args.take (i+1)))).length)++(appC n t ts' i++([.box (some 4) (.pv (some 4) u.pv),.arr (some 4) [] false]++e)))=some ((Tm.sub (cpk k L) u).pv,P (vads l (Tm.occs (t.args.take (i+1)))) (k+(vads l (Tm.occs (t.args.take (i+1)))).length)++(appC n t ts' i++([.box (some 4) (.pv (some 4) u.pv),.arr (some 4) [] false]++e2))):=by
      have h:=CopR.frz (B:=P (vads l (Tm.occs (t.args.take (i+1)))) (k+(vads l (Tm.occs (t.args.take (i+1)))).length)++(appC n t ts' i++[.box (some 4) (.pv (some 4) u.pv),.arr (some 4) [] false])) (e:=e) (v:=v) (u:=Tm.sub (cpk k L) u) (n:=hp.length+(ext++(appC n t ts' i++([.box (some 4) (.pv (some 4) u.pv),.arr (some 4) [] false]:Heap))).length) (by simpa only[List.append_assoc] using hcop) (by simp only[List.length_append,hPl,hn];omega)
      obtain⟨e2,h1,h2⟩:=h
      exact⟨e2,h1,by simpa only[List.append_assoc] using h2⟩
     have hvs:=hcop.shp
     generalize vads l (Tm.occs (t.args.take (i+1)))=l2 at hcall hfz ⊢
     generalize vads l (Tm.occs (t.args.take i))=l1 at hcall hvl ⊢
     generalize k+l2.length=j2 at hcall hfz ⊢
     generalize k+l1.length=j1 at hcall ⊢
     have w2:IntKind.i64.wrap ((i:Int)+1)=((i+1:Nat):Int):=by rw[zaQ (by omega) (by omega)];omega
     have hll:(Tm.pvs (ts'.take i)).length=i:=by rw[Tm.pvs_len,List.length_take];omega
     have hlim:i+1<=lim:=by unfold lim;omega
     have hbs:zaS (some 4) (P l2 j2++(appC n t ts' i++([.box (some 4) (.pv (some 4) u.pv),.arr (some 4) [] false]++e))) [v]=some (.tsl (some 4) [(Tm.sub (cpk k L) u).pv],P l2 j2++(appC n t ts' i++([.box (some 4) (.pv (some 4) u.pv),.arr (some 4) [] false]++e2))):=by
      simp only[zaS,zaj,hfz,hvs,zaL,if_true]
     have hs1:∀(a a':List Int) (b b':Nat) (e e':Heap),zbM (P a b++(appC n t ts' i++e)) (P a' b'++(appC n t ts' i++e')) (.ptr (n+3) 3)=true:=fun a a' b b' e e'=>zec (t:=t) (q:=n+5) (i:=i) (by rw[getN (hPl _ _)];rfl) (by rw[getN (hPl _ _)];rfl)
     simp only[Tm.av] at hcall
     simp only[appC,List.append_assoc,List.cons_append,List.nil_append] at hcall hbs hs1
     simp -dsimp -implicitDefEqProofs only[go_sem,seval,↓reduceIte,appC,hc,zao (Tm.pvs_get hu),zdl,List.take_succ_cons,List.drop_succ_cons,List.all_cons,List.all_nil,hcall,hbs,hs1,w2,hll,hlim,Tm.zug hus,zad (Nat.le_add_right _ _),zaH (Nat.le_add_right _ _),List.append_assoc,zal,zag,zan,zai,Nat.add_assoc,List.length_append,hPl,getN (hPl _ _),zcs (hPl _ _),setN (hPl _ _),zcA (hPl _ _)]
     refine⟨(),?_⟩
     rw[zcb 6 (hPl _ _) rfl (by simp[AObj.refs,AV.ofComps,pures,AV.refsIn,AV.refsIn.go]) (by simp[AV.refsIn,AV.refsIn.gol];omega)]
     rfl
    ·rintro - -
     have hc:¬(t.args.length:Int)<(t.args.length:Int):=by omega
     have htk:ts'.take t.args.length=ts':=List.take_of_length_le (by omega)
     simp -dsimp -implicitDefEqProofs only[go_sem,seval,↓reduceIte,appC,hc,List.take_length,htk,zaq,zad (Nat.le_add_right _ _),zaH (Nat.le_add_right _ _),List.append_assoc,zal,zag,zan,zai,Nat.add_assoc,List.length_append,hPl,getN (hPl _ _),zcs (hPl _ _),setN (hPl _ _),zcA (hPl _ _)]
     rw[if_neg (by simp[AV.refsIn,AV.refsIn.go])]
   ·unfold sgg
    show _=AV.agg [(none,.pv none (.int .i64 t.kind)),(none,.pv none (.int .i64 t.n)),(none,.pv none (.str t.name)),(none,.sl (some 4) (n+5) ts'.length 0 ts'.length)]
    rw[htl]
   ·rw[getN (hPl _ _)]
    rfl
theorem zoO(g:Tm)(ts:List Tm)(hv:g.valid=true)(hc:canT g=g)(hk:g.kind=3)(hn:g.name∈zcc g.args.length)(hts:ts.all Tm.valid=true)(hl:ts.length<=1000)(q:Nat)(x6:AObj)(X:Heap)(z:Bool)
  (he:S 50 [.ptr 6 0] (hE g)=some (.ret (.tuple [.sl (some 4) q ts.length 0 ts.length,.pv none (.int .i64 0)]),(hE g).take 6++x6::X))(hq:7<=q)(hX:X[q - 7]? =some (.arr (some 4) (Tm.pvs ts) z)):zmK g ts zt 0:=by
 intro hp
 have h3:=zqF g hp hv hc hk hn ts 0 _ x6 X he (fun H hH=>ztq (z:=z) rfl (hH q _ (by omega) (by
  obtain⟨j,rfl⟩:∃j,q=j+7:=⟨q - 7,by omega⟩
  exact hX))) (by omega) fun t ht=>by
   have:=valid_size (List.all_eq_true.1 hts t ht)
   omega
 have hr:zgi ts 0=(ts,0):=by
  have:¬1000<ts.length:=by omega
  simp only[zgi,ne_eq,not_true_eq_false,if_false,this,hts,if_true]
 rw[hr] at h3
 exact h3
theorem zt4(g:Tm):Bq (hE g++eJ g):=(zsq g).app (Bq.cons rfl (Bq.cons rfl (Bq.cons (zkq _ _) (Bq.cons (zhH _) (Bq.cons (zhI _) Bq.nil)))))
def wJs(n:Nat)(g:Tm)(i:Nat)(u:Tm)(v:AV):Heap:=[.box (some 4) v,.arr (some 4) [] false,.box (some 4) (.agg [(none,.pv none (.int .i64 g.kind)),(none,.pv none (.int .i64 g.n)),(none,.pv none (.str g.name)),(none,.sl (some 4) (n+5) g.args.length 0 g.args.length)]),.arr (some 4) [] false,.arr (some 4) [] false,.arr (some 4) (Tm.pvs (g.args.set i u)) true,.arr (some 4) [(setA g i u).pv] false]
theorem zqC(g:Tm)(k:Nat)(i:Nat)(u:Tm)(v:AV)(n:Nat)(hi:i<g.args.length)(hl:g.args.length<=8)(hp:Heap)(hv:CopR v u n hp)(r:Nat)(hr:hp[r]? =some (.box (some 5) (.pv (some 5) (runV g k))))(hrn:r<n):
  ∃B:Heap,B.length=hp.length/\(∀j,j<n->B[j]? =hp[j]?)/\S 101 [.ptr r 0,.pv none (.int .i64 i),v] hp=some (.ret (.sl (some 4) (hp.length+6) 1 0 1),B++wJs hp.length g i u v):=by
 rcases hv with rfl|⟨q,z,hq,rfl,hH⟩
 ·exact⟨hp,rfl,fun _ _=>rfl,zpx g k i u hi hl hp r hr⟩
 ·have hql:=zbx hH
  obtain⟨B,hB⟩:∃B,B=hp.set q (.arr (some 4) (Tm.pvs u.args) true):=⟨_,rfl⟩
  have hBl:B.length=hp.length:=by rw[hB];simp
  refine⟨B,hBl,fun j hj=>by rw[hB,List.getElem?_set_ne (by omega)],?_⟩
  refine zaB rfl rfl rfl rfl ?_
  have h1:=fun hp=>zej (Tm.pvs g.args) (by rw[Tm.pvs_len];omega) (by rw[Tm.pvs_len];omega) hp
  have hlt:=zbx hr
  have hia:∀q,zaW (some 4) [.sl (some 4) q g.args.length 0 g.args.length,.pv none (.int .i64 i)]=some (.eptr (some 4) q g.args.length i 0):=fun q=>by
   have:=zcy (sh:=some 4) (s':=none) (k:=.i64) (r:=q) (v:=g.args.length) (o:=0) hi
   rw[Nat.zero_add] at this
   exact this
  have hil:i<(Tm.pvs g.args).length:=by rw[Tm.pvs_len];exact hi
  have hst:∀(x0 x1 x2 x3 x4:AObj),zay (some 4) hp.length (hp++[x0,x1,x2,x3,x4,.arr (some 4) (Tm.pvs g.args) false]) [.eptr (some 4) (hp.length+5) g.args.length i 0,sgg u q]=some (.undef,B++[x0,x1,x2,x3,x4,.arr (some 4) ((Tm.pvs g.args).set i u.pv) false]):=fun x0 x1 x2 x3 x4=>by
   have e:=zgN (u:=u) (q:=q) (H:=hp++[x0,x1,x2,x3,x4,.arr (some 4) (Tm.pvs g.args) false]) (z:=z) (by rw[zbQ hql,hH])
   rw[zkh hql,<-hB] at e
   have e4:(sgg u q).shp=some 4:=rfl
   simp only[zay,astore,e4,e]
   simp[getN hBl,setN hBl,Tm.pvs_len,hi,hil]
  have hbs:∀(x0 x1 x2 x3 x4:AObj),zga (some 4) (B++[x0,x1,x2,x3,x4,.arr (some 4) ((Tm.pvs g.args).set i u.pv) false]) [.agg [(none,.pv none (.int .i64 g.kind)),(none,.pv none (.int .i64 g.n)),(none,.pv none (.str g.name)),(none,.sl (some 4) (hp.length+5) g.args.length 0 g.args.length)]]=some (.sl (some 4) (hp.length+6) 1 0 1,B++[x0,x1,x2,x3,x4,.arr (some 4) (Tm.pvs (g.args.set i u)) true,.arr (some 4) [(setA g i u).pv] false]):=fun x0 x1 x2 x3 x4=>by
   have e:∀l hp,AV.freeze (7+1) (.agg l) hp=match AV.freeze.go 7 l hp with|some (ps,hp')=>some (.agg ps,hp')|none=>none:=fun _ _=>rfl
   have e2:AV.freeze deep (.agg [(none,.pv none (.int .i64 g.kind)),(none,.pv none (.int .i64 g.n)),(none,.pv none (.str g.name)),(none,.sl (some 4) (hp.length+5) g.args.length 0 g.args.length)]) (B++[x0,x1,x2,x3,x4,.arr (some 4) (Tm.pvs (g.args.set i u)) false])=some ((setA g i u).pv,B++[x0,x1,x2,x3,x4,.arr (some 4) (Tm.pvs (g.args.set i u)) true]):=by
    show AV.freeze (7+1) (.agg _) _=_
    simp[e,AV.freeze.go,AV.freeze,getN hBl,setN hBl,Tm.pvs_len]
    rfl
   rw[zpw]
   simp only[zga,zaj,e2]
   simp[AV.shp,total,Sh.size,zaL,hBl]
  have hr':∀X,(hp++X)[r]? =some (.box (some 5) (.pv (some 5) (runV g k))):=fun X=>by rw[zbQ hlt,hr]
  simp only[sgg] at hst
  unfold sgg
  simp -dsimp -implicitDefEqProofs only[go_sem,seval,↓reduceIte,h1,hr,hr',hia,hst,hbs,zjg,zhS,zae,Tm.pvs_len,zaH (Nat.le_add_right _ _),za4,zca (sh:=some 4) (by decide),zo6,zad (Nat.le_add_right _ _),zaq,List.append_assoc,zal,zag,zan,zai,Nat.add_assoc,List.length_append,getN hBl,zcs hBl]
  rw[if_neg (by simp[AV.refsIn])]
  rfl
def nCpy:List UInt8:=[99,111,112,121,95,116,101,114,109]
theorem zsk{hp:Heap}{r m:Nat}{g:Tm}{k:Nat}(hr:hp[r]? =some (.box (some 5) (.pv (some 5) (runV g k))))(hm:hp[m]? =some (.map (some 4) []))(hn:r≠m):dH hp r m g k [] k=hp:=by
 have e:hp.set m (.map (some 4) (zbs (posG k [])))=hp:=by
  obtain⟨h,he⟩:=List.getElem?_eq_some_iff.1 hm
  show hp.set m (.map (some 4) [])=hp
  rw[<-he]
  exact List.set_getElem_self h
 unfold dH
 rw[e]
 exact zsr hr
theorem zqD(hp:Heap)(r m:Nat)(g:Tm)(k:Nat)(l:List Int)(j i:Nat)(h1:i≠r)(h2:i≠m)(X:Heap)(hi:i<hp.length):(dH hp r m g k l j++X)[i]? =hp[i]? :=by
 rw[List.getElem?_append_left (by rw[zi0];exact hi)]
 unfold dH hK
 rw[List.getElem?_set_ne (Ne.symm h1),List.getElem?_set_ne (Ne.symm h2)]
theorem zoP(g P Q:Tm)(hn:g.name=nCpy)(hga:g.args=[P,Q])(fP:P.fits=true)(hPs:P.size<10000)(k:Nat)(hkb:k<100000)(hp:Heap)(r:Nat)(hr:hp[r]? =some (.box (some 5) (.pv (some 5) (runV g k))))(hb:Bq hp):
  ∃(B:Heap) (v:AV),hp.length+6<=B.length/\(∀j,j<hp.length->j≠r->B[j]? =hp[j]?)/\S 50 [.ptr r 0] hp=some (.ret (.tuple [.sl (some 4) (B.length+6) 1 0 1,.pv none (.int .i64 0)]),B++wJs B.length g 1 (Tm.sub (cpk k (vads [] P.occ)) P) v):=by
 have hlt:=zbx hr
 obtain⟨M,hM⟩:∃M,M=hp++(eJ g++[.map (some 4) []]):=⟨_,rfl⟩
 have hMl:M.length=hp.length+6:=by rw[hM,List.length_append];rfl
 have hMr:M[r]? =some (.box (some 5) (.pv (some 5) (runV g k))):=by rw[hM,zbQ hlt,hr]
 have hMm:M[hp.length+5]? =some (.map (some 4) []):=by rw[hM,getN rfl];rfl
 have hrm:r≠hp.length+5:=by omega
 obtain⟨v,e,hco,hcop⟩:=zkl g k M r (hp.length+5) (by omega) (by omega) hrm hkb P [] (vads [] P.occ) [] fP (by omega) (by simp;omega) (List.prefix_refl _)
 simp only[List.length_nil,Nat.add_zero,List.append_nil,List.nil_append,zsk hMr hMm hrm] at hco hcop
 obtain⟨H2,hH2⟩:∃H2,H2=dH M r (hp.length+5) g k (vads [] P.occ) (k+(vads [] P.occ).length)++e:=⟨_,rfl⟩
 have hH2r:H2[r]? =some (.box (some 5) (.pv (some 5) (runV g (k+(vads [] P.occ).length)))):=by
  rw[hH2]
  exact zrv (by simpa using(by omega:r<M.length)) g _ _
 have hH2l:hp.length+6<=H2.length:=by rw[hH2,List.length_append,zi0,hMl];omega
 rw[<-hH2] at hco hcop
 obtain⟨B,hBl,hBj,hwi⟩:=zqC g (k+(vads [] P.occ).length) 1 (Tm.sub (cpk k (vads [] P.occ)) P) v M.length (by rw[hga];show 1<2;omega) (by rw[hga];show 2<=8;omega) H2 hcop r hH2r (by omega)
 refine⟨B,v,by omega,fun j hj hjr=> ?_,?_⟩
 ·rw[hBj j (by omega),hH2,zqD M r (hp.length+5) g k _ _ j hjr (by omega) e (by omega),hM,zbQ hj]
 have e1:((1:Nat):Int)=1:=rfl
 rw[e1] at hwi
 rw[hBl]
 generalize B++wJs H2.length g 1 (Tm.sub (cpk k (vads [] P.occ)) P) v=H3 at hwi ⊢
 rw[hM] at hco
 simp only[eJ,List.cons_append,List.nil_append,Tm.av] at hco
 refine zaB rfl rfl rfl rfl ?_
 have hr':∀X,(hp++X)[r]? =some (.box (some 5) (.pv (some 5) (runV g k))):=fun X=>by rw[zbQ hlt,hr]
 have hl:g.args.length=2:=by rw[hga];rfl
 have h1:=fun hp=>zej (Tm.pvs g.args) (by rw[Tm.pvs_len];omega) (by rw[Tm.pvs_len];omega) hp
 have hz0:za2 [(none,.pv none (.int .i64 0)),(none,.pv none (.int .i64 0)),(none,.pv none (.str [])),(none,.tsl (some 4) [])] [] []=some zagC:=rfl
 have h2:=zll
 have h3:=zdq
 have ha:∀y0 y1,_:=fun y0 y1=> @zrs hp y0 y1 g.args 2 hl (by decide)
 have l0:∀Z y0 y1 z,_:=fun Z y0 y1 z=> @zqR hp Z y0 y1 (g.args++[zt,zt]) z 4 0 P (by rw[List.length_append,hl];rfl) (by rw[hga];rfl)
 have i0:zaW (some 4) [.sl (some 4) (hp.length+2) 4 0 4,.pv none (.int .i64 0)]=some (.eptr (some 4) (hp.length+2) 4 0 0):=rfl
 have l1:∀Z y0 y1 z,_:=fun Z y0 y1 z=> @zqR hp Z y0 y1 (g.args++[zt,zt]) z 4 1 Q (by rw[List.length_append,hl];rfl) (by rw[hga];rfl)
 have i1:zaW (some 4) [.sl (some 4) (hp.length+2) 4 0 4,.pv none (.int .i64 1)]=some (.eptr (some 4) (hp.length+2) 4 1 0):=rfl
 have k1:∀Z y0 y1 y2,_:=fun Z y0 y1 y2=> @zrt hp Z y0 y1 y2 nCpy rows1 rfl
 have k2:∀Z y0 y1 y2 y3,_:=fun Z y0 y1 y2 y3=> @zru hp Z y0 y1 y2 y3 nCpy rows2 rfl
 have q0:(nCpy=[99,111,109,112,97,114,101])=False:=eq_false (by decide)
 have q1:(nCpy=[92,61])=False:=eq_false (by decide)
 have q2:(nCpy=[102,117,110,99,116,111,114])=False:=eq_false (by decide)
 have q3:(nCpy=[97,114,103])=False:=eq_false (by decide)
 have q4:(nCpy=[61,46,46])=False:=eq_false (by decide)
 have q5:(nCpy=[99,111,112,121,95,116,101,114,109])=True:=eq_true (by decide)
 simp -dsimp -implicitDefEqProofs only[go_sem,seval,↓reduceIte,Tm.av,hr,hr',h1,h2,h3,ha,hn,hl,hz0,l0,i0,l1,i1,k1,k2,q0,q1,q2,q3,q4,q5,hco,hwi,Tm.pvs_len,zjh,zji,zrr,zss,zo9,zqy rfl,zhJ hb,List.take_succ_cons,zfX,zhK,zqU,zkr,zkq,zhH,zhI,zpa,za4,zca (sh:=some 4) (by decide),List.append_assoc,zal,zag,zan,zai,Nat.add_assoc,List.length_append]
 rw[if_neg (by simp[AV.refsIn,AV.refsIn.gol];omega)]
theorem zte(g:Tm)(H:Heap)(h:∀j,j<6->H[j]? =(hE g)[j]?)(hl:7<=H.length):∃x6,H=(hE g).take 6++x6::H.drop 7:=by
 refine⟨H[6],?_⟩
 have e1:H.take 6=(hE g).take 6:=by
  refine List.ext_getElem? fun j=> ?_
  rw[List.getElem?_take,List.getElem?_take]
  by_cases hj:j<6
  ·rw[if_pos hj,if_pos hj,h j hj]
  ·rw[if_neg hj,if_neg hj]
 rw[<-e1,<-List.drop_eq_getElem_cons (by omega),List.take_append_drop]
theorem zoQ(P Q:Tm)(hv:(tstr nCpy [P,Q]).valid=true)(hc:canT (tstr nCpy [P,Q])=tstr nCpy [P,Q])(k:Nat)(hk:k=(vads [] (tstr nCpy [P,Q]).occ).length)(hans:(tstr nCpy [P,Tm.sub (cpk k (vads [] P.occ)) P]).valid=true):zmK (tstr nCpy [P,Q]) [tstr nCpy [P,Tm.sub (cpk k (vads [] P.occ)) P]] zt 0:=by
 obtain⟨g,hg⟩:∃g,g=tstr nCpy [P,Q]:=⟨_,rfl⟩
 have hga:g.args=[P,Q]:=by rw[hg];rfl
 rw[<-hg] at hv hc hk ⊢
 have vP:P.valid=true:=zbl hv (by rw[hga];simp)
 have hPs:=valid_size vP
 have hks:k<100000:=by
  have h1:=za1 g.occ []
  have h2:=Tm.occ_len g
  have h3:=valid_size hv
  simp only[List.length_nil] at h1
  omega
 obtain⟨B,v,hBl,hBj,h2⟩:=zoP g P Q (by rw[hg];rfl) hga (valid_fits vP) (by omega) k hks (hE g) 6 (by rw[hk];rfl) (zsq g)
 have hBl7:13<=B.length:=hBl
 obtain⟨x6,hx6⟩:=zte g (B++wJs B.length g 1 (Tm.sub (cpk k (vads [] P.occ)) P) v) (fun j hj=>by
  rw[List.getElem?_append_left (by omega)]
  exact hBj j (by show j<7;omega) (by omega)) (by rw[List.length_append];omega)
 have hset:setA g 1 (Tm.sub (cpk k (vads [] P.occ)) P)=tstr nCpy [P,Tm.sub (cpk k (vads [] P.occ)) P]:=by rw[hg];rfl
 have hXq:((B++wJs B.length g 1 (Tm.sub (cpk k (vads [] P.occ)) P) v).drop 7)[B.length+6 - 7]? =some (.arr (some 4) (Tm.pvs [tstr nCpy [P,Tm.sub (cpk k (vads [] P.occ)) P]]) false):=by
  rw[List.getElem?_drop,<-hset]
  have e:7+(B.length+6 - 7)=B.length+6:=by omega
  rw[e,getN rfl]
  rfl
 rw[hx6] at h2
 exact zoO g [tstr nCpy [P,Tm.sub (cpk k (vads [] P.occ)) P]] hv hc (by rw[hg];rfl) (by rw[hga,hg];exact(by decide:nCpy∈zcc 2)) (by simp only[List.all_cons,List.all_nil,hans,Bool.and_self]) (by simp) _ x6 _ false h2 (by omega) hXq
def vT(l:List Int):List Tm:=l.map tvar
def tJ(t y:Tm)(l:List Tm):Heap:=[.box (some 4) (.pv (some 4) t.pv),.box (some 4) (.pv (some 4) y.pv),.arr (some 4) [] false,.box none (.pv none (.str strL)),.box (some 4) (.pv (some 4) y.pv),.arr (some 4) (Tm.pvs l) true]
theorem zjf(g:Tm)(k:Nat)(t y:Tm)(vt:t.valid=true)(vy:y.valid=true)(hy:y.kind=0)(hga:g.args.length=2)(hp:Heap)(r:Nat)(hr:hp[r]? =some (.box (some 5) (.pv (some 5) (runV g k))))(hb:Bq hp):
  S 103 [.ptr r 0,t.av,y.av] hp=some (.ret (.sl (some 4) (hp.length+12) 1 0 1),hp++(tJ t y (vT (vads [] t.occ))++wJ (hp.length+6) g 1 (lstT (vT (vads [] t.occ)) (tatm [91,93])))):=by
 refine zaB rfl rfl rfl rfl ?_
 have hlt:=zbx hr
 have hr':∀X,(hp++X)[r]? =some (.box (some 5) (.pv (some 5) (runV g k))):=fun X=>by rw[zbQ hlt,hr]
 have hcy:¬cs y:=fun h=>by
  have:=h.1
  rw[hy] at this
  cases this
 have h1:=fun hp=>zkx y vy hp
 have e1:(decide (zdr (tl y)) || decide ((tl y).kind=0))=true:=by
  rw[tl_n hcy,hy]
  simp
 rw[e1] at h1
 have h3:=zrf
 have h4:=fun n hp=>zrg n y hp
 have h5:=fun n hp=>zso n hp
 have h6:=fun x X=>zpx g k 1 x (by omega) (by omega) (hp++X) r (hr' X)
 have h8:=fun hp=>zlv t vt hp
 have hvl:=za1 t.occ []
 have hol:=Tm.occ_len t
 have hsz:=valid_size vt
 simp only[List.length_nil] at hvl
 generalize vads [] t.occ=vs at h8 hvl ⊢
 have hil:=za0 vs
 have e0:((1:Nat):Int)=1:=rfl
 simp only[Tm.av] at h1 h4 h5 h8
 simp -dsimp -implicitDefEqProofs only[go_sem,seval,↓reduceIte,Tm.av,h1,h3,h4,h8,hil,zav,zae,hr,hr',zss,zo9,zo8,zqy rfl,zhJ hb,List.take_succ_cons,zfX,zhK,zqU,zkr,zpa,za4,zca (sh:=some 4) (by decide),List.append_assoc,zal,zag,zan,zai,Nat.add_assoc,List.length_append]
 refine zdA (α:=Unit) vs.length (fun _ _=>True) (fun i _=>⟨[(0,.ptr r 0),(7,.sl (some 4) (hp.length+5) i 0 i),(17,.pv none (.sl none (ints vs))),(18,.pv none (.int .i64 vs.length)),(19,.pv none (.int .i64 i))],hp++[.box (some 4) (.pv (some 4) t.pv),.box (some 4) (.pv (some 4) y.pv),.arr (some 4) [] false,.box none (.pv none (.str strL)),.box (some 4) (.pv (some 4) y.pv),.arr (some 4) (Tm.pvs (vT (vs.take i))) false]⟩) () ⟨trivial,rfl⟩ ?_ ?_
 ·rintro i - h -
  have hc:(i:Int)<(vs.length:Int):=by omega
  have w2:IntKind.i64.wrap ((i:Int)+1)=((i+1:Nat):Int):=by rw[zaQ (by omega) (by omega)];omega
  obtain⟨v,hv⟩:∃v,vs[i]? =some v:=⟨_,List.getElem?_eq_getElem h⟩
  have hbu:za2 [(none,.pv none (.int .i64 0)),(none,.pv none (.int .i64 0)),(none,.pv none (.str [])),(none,.tsl (some 4) [])] [0,1] [.pv none (.int .i64 0),.pv none (.int .i64 v)]=some (naV (tvar v)):=rfl
  have hbs:∀H:Heap,zaS (some 4) H [naV (tvar v)]=some (.tsl (some 4) [(tvar v).pv],H):=fun H=>rfl
  have hap:∀(x0 x1 x2 x3 x4:AObj),zaM (some 4) (hp++[x0,x1,x2,x3,x4,.arr (some 4) (Tm.pvs (vT (vs.take i))) false]) [.sl (some 4) (hp.length+5) i 0 i,.tsl (some 4) [(tvar v).pv]]=some (.sl (some 4) (hp.length+5) (i+1) 0 (i+1),hp++[x0,x1,x2,x3,x4,.arr (some 4) (Tm.pvs (vT (vs.take (i+1)))) false]):=fun x0 x1 x2 x3 x4=>by
   have hlim:i+1<=lim:=by unfold lim;omega
   have e:Tm.pvs (vT (vs.take (i+1)))=Tm.pvs (vT (vs.take i))++[(tvar v).pv]:=by
    rw[List.take_add_one,hv]
    simp[vT,Tm.zul,Tm.pvs]
   have hl2:(vT (vs.take i)).length=i:=by simp[vT];omega
   rw[e]
   simp[zaM,aappend,elems,getN rfl,setN rfl,Tm.pvs_len,hl2,hlim]
  simp -dsimp -implicitDefEqProofs only[go_sem,seval,↓reduceIte,hc,w2,zao (zdm hv),hbu,hbs,hap,List.append_assoc,zal,zag,zan,zai,Nat.add_assoc,List.length_append]
  try refine⟨(),?_⟩
  rw[zcb 6 rfl rfl (by simp[AObj.refs,AV.refsIn]) (by simp[AV.refsIn];omega)]
  rfl
 ·rintro - -
  have hc:¬(vs.length:Int)<(vs.length:Int):=by omega
  have hvT:(vT vs).length=vs.length:=by simp[vT]
  have h7:∀(x0 x1 x2 x3 x4:AObj),S 131 [.sl (some 4) (hp.length+5) vs.length 0 vs.length,(tatm [91,93]).av] (hp++[x0,x1,x2,x3,x4,.arr (some 4) (Tm.pvs (vT vs)) false])=some (.ret (lstT (vT vs) (tatm [91,93])).av,hp++[x0,x1,x2,x3,x4,.arr (some 4) (Tm.pvs (vT vs)) true]):=fun x0 x1 x2 x3 x4=>by
   rw[zsI (vT vs) (by omega) (tatm [91,93]) _ (hp.length+5) vs.length hvT (by rw[getN rfl];rfl),setN rfl]
   rfl
  rw[List.take_length]
  obtain⟨ls,hls⟩:∃ls,ls=lstT (vT vs) (tatm [91,93]):=⟨_,rfl⟩
  rw[<-hls] at h7 ⊢
  simp only[Tm.av] at h7
  simp only[Tm.av,wJ,e0] at h6
  simp -dsimp -implicitDefEqProofs only[go_sem,seval,↓reduceIte,hc,h5,h6,h7,List.append_assoc,zal,zag,zan,zai,Nat.add_assoc,List.length_append]
  rw[if_neg (by simp[AV.refsIn])]
  rfl
def nVrs:List UInt8:=[116,101,114,109,95,118,97,114,105,97,98,108,101,115]
theorem zps(g a0 a1:Tm)(hn:g.name=nVrs)(hga:g.args=[a0,a1])(k:Nat)(hp:Heap)(r:Nat)(hr:hp[r]? =some (.box (some 5) (.pv (some 5) (runV g k))))(hb:Bq hp)(v:AV)(H:Heap)(hv:v.refsIn.all (fun q=>decide (q<hp.length))=false)
  (hex:S 103 [.ptr r 0,a0.av,a1.av] (hp++eJ g)=some (.ret v,H)):
  S 50 [.ptr r 0] hp=some (.ret (.tuple [v,.pv none (.int .i64 0)]),H):=by
 refine zaB rfl rfl rfl rfl ?_
 have hlt:=zbx hr
 have hr':∀X,(hp++X)[r]? =some (.box (some 5) (.pv (some 5) (runV g k))):=fun X=>by rw[zbQ hlt,hr]
 have hl:g.args.length=2:=by rw[hga];rfl
 have h1:=fun hp=>zej (Tm.pvs g.args) (by rw[Tm.pvs_len];omega) (by rw[Tm.pvs_len];omega) hp
 have hz0:za2 [(none,.pv none (.int .i64 0)),(none,.pv none (.int .i64 0)),(none,.pv none (.str [])),(none,.tsl (some 4) [])] [] []=some zagC:=rfl
 have h2:=zll
 have h3:=zdq
 have ha:∀y0 y1,_:=fun y0 y1=> @zrs hp y0 y1 g.args 2 hl (by decide)
 have l0:∀Z y0 y1 z,_:=fun Z y0 y1 z=> @zqR hp Z y0 y1 (g.args++[zt,zt]) z 4 0 a0 (by rw[List.length_append,hl];rfl) (by rw[hga];rfl)
 have i0:zaW (some 4) [.sl (some 4) (hp.length+2) 4 0 4,.pv none (.int .i64 0)]=some (.eptr (some 4) (hp.length+2) 4 0 0):=rfl
 have l1:∀Z y0 y1 z,_:=fun Z y0 y1 z=> @zqR hp Z y0 y1 (g.args++[zt,zt]) z 4 1 a1 (by rw[List.length_append,hl];rfl) (by rw[hga];rfl)
 have i1:zaW (some 4) [.sl (some 4) (hp.length+2) 4 0 4,.pv none (.int .i64 1)]=some (.eptr (some 4) (hp.length+2) 4 1 0):=rfl
 have k1:∀Z y0 y1 y2,_:=fun Z y0 y1 y2=> @zrt hp Z y0 y1 y2 nVrs rows1 rfl
 have k2:∀Z y0 y1 y2 y3,_:=fun Z y0 y1 y2 y3=> @zru hp Z y0 y1 y2 y3 nVrs rows2 rfl
 have q0:(nVrs=[99,111,109,112,97,114,101])=False:=eq_false (by decide)
 have q1:(nVrs=[92,61])=False:=eq_false (by decide)
 have q2:(nVrs=[102,117,110,99,116,111,114])=False:=eq_false (by decide)
 have q3:(nVrs=[97,114,103])=False:=eq_false (by decide)
 have q4:(nVrs=[61,46,46])=False:=eq_false (by decide)
 have q5:(nVrs=[99,111,112,121,95,116,101,114,109])=False:=eq_false (by decide)
 have q6:(nVrs=[116,101,114,109,95,118,97,114,105,97,98,108,101,115])=True:=eq_true (by decide)
 simp only[eJ,Tm.av] at hex
 simp -dsimp -implicitDefEqProofs only[go_sem,seval,↓reduceIte,Tm.av,hr,hr',h1,h2,h3,ha,hn,hl,hz0,l0,i0,l1,i1,k1,k2,q0,q1,q2,q3,q4,q5,q6,hex,Tm.pvs_len,zjh,zji,zrr,zss,zo9,zqy rfl,zhJ hb,List.take_succ_cons,zfX,zhK,zqU,zkr,zkq,zhH,zhI,zpa,za4,zca (sh:=some 4) (by decide),List.append_assoc,zal,zag,zan,zai,Nat.add_assoc,List.length_append]
 have hrf:(AV.tuple [v,.pv none (.int .i64 0)]).refsIn=v.refsIn:=by simp[AV.refsIn,AV.refsIn.gol]
 rw[hrf,if_neg (by rw[hv];simp)]
theorem zpt(t y:Tm)(hy:y.kind=0)(hv:(tstr nVrs [t,y]).valid=true)(hc:canT (tstr nVrs [t,y])=tstr nVrs [t,y])(hans:(tstr nVrs [t,lstT (vT (vads [] t.occ)) (tatm [91,93])]).valid=true):zmK (tstr nVrs [t,y]) [tstr nVrs [t,lstT (vT (vads [] t.occ)) (tatm [91,93])]] zt 0:=by
 obtain⟨g,hg⟩:∃g,g=tstr nVrs [t,y]:=⟨_,rfl⟩
 have hga:g.args=[t,y]:=by rw[hg];rfl
 rw[<-hg] at hv hc ⊢
 have vt:t.valid=true:=zbl hv (by rw[hga];simp)
 have vy:y.valid=true:=zbl hv (by rw[hga];simp)
 have h1:=zjf g (vads [] g.occ).length t y vt vy hy (by rw[hga];rfl) (hE g++eJ g) 6 rfl (zt4 g)
 have h2:=zps g t y (by rw[hg];rfl) hga (vads [] g.occ).length (hE g) 6 rfl (zsq g) _ _ rfl h1
 exact zoO g [tstr nVrs [t,lstT (vT (vads [] t.occ)) (tatm [91,93])]] hv hc (by rw[hg];rfl) (by rw[hga,hg];exact(by decide:nVrs∈zcc 2)) (by simp only[List.all_cons,List.all_nil,hans,Bool.and_self]) (by simp) _ _ _ false h2 (by show 7<=12+12;omega) (by rw[hg];rfl)
def renT(ρ:Int->Int)(t:Tm):Tm:=Tm.sub (fun v=>tvar (ρ v)) t
theorem zoU(ρ:Int->Int):∀t:Tm,(renT ρ t).occ=t.occ.map ρ:=by
 intro t
 induction t using Tm.zub with
 |h t ih=>
  unfold renT at ih ⊢
  rw[Tm.zue,t.occ_eq]
  by_cases hk:t.kind=0
  ·rw[if_pos hk,if_pos hk]
   rfl
  ·rw[if_neg hk,if_neg hk,Tm.occ_eq,if_neg (by exact hk)]
   show Tm.occs (t.args.map (Tm.sub fun v=>tvar (ρ v)))=_
   generalize t.args=l at ih
   induction l with
   |nil=>rfl
   |cons x r ihl=>
    rw[List.map_cons,Tm.occs,Tm.occs,List.map_append,ih x List.mem_cons_self,ihl fun u hu=>ih u (List.mem_cons_of_mem _ hu)]
theorem zhE(ρ:Int->Int):∀(ws l:List Int),(∀a∈l++ws,∀b∈l++ws,ρ a=ρ b->a=b)->vads (l.map ρ) (ws.map ρ)=(vads l ws).map ρ
 |[],l,_=>rfl
 |w::r,l,h=>by
  show vads (vadd (l.map ρ) (ρ w)) (r.map ρ)=(vads (vadd l w) r).map ρ
  have e:vadd (l.map ρ) (ρ w)=(vadd l w).map ρ:=by
   unfold vadd
   by_cases hm:w∈l
   ·rw[if_pos hm,if_pos (List.mem_map_of_mem hm)]
   ·rw[if_neg hm,if_neg fun hx=>by
     obtain⟨a,ha,he⟩:=List.mem_map.1 hx
     have:=h a (List.mem_append.2 (.inl ha)) w (List.mem_append.2 (.inr List.mem_cons_self)) he
     exact hm (this▸ha)]
    simp
  rw[e]
  refine zhE ρ r (vadd l w) fun a ha b hb=>h a ?_ b ?_
  ·simp only[List.mem_append,List.mem_cons] at ha ⊢
   rcases ha with ha|ha
   ·unfold vadd at ha
    split at ha
    ·exact .inl ha
    ·rcases List.mem_append.1 ha with ha|ha
     ·exact .inl ha
     ·exact .inr (.inl (by simpa using ha))
   ·exact .inr (.inr ha)
  ·simp only[List.mem_append,List.mem_cons] at hb ⊢
   rcases hb with hb|hb
   ·unfold vadd at hb
    split at hb
    ·exact .inl hb
    ·rcases List.mem_append.1 hb with hb|hb
     ·exact .inl hb
     ·exact .inr (.inl (by simpa using hb))
   ·exact .inr (.inr hb)
theorem zoV(ρ:Int->Int)(w:Int):∀l:List Int,(∀a∈l,ρ a=ρ w->a=w)->(l.map ρ).idxOf (ρ w)=l.idxOf w
 |[],_=>rfl
 |x::r,h=>by
  rw[List.map_cons,List.idxOf_cons,List.idxOf_cons,zoV ρ w r fun a ha=>h a (List.mem_cons_of_mem _ ha)]
  by_cases hx:x=w
  ·subst hx
   simp
  ·have h1:¬ρ x=ρ w:=fun e=>hx (h x List.mem_cons_self e)
   rw[beq_eq_false_iff_ne.2 hx,beq_eq_false_iff_ne.2 h1]
theorem zli(ρ:Int->Int)(t:Tm)(h:∀a∈t.occ,∀b∈t.occ,ρ a=ρ b->a=b):canT (renT ρ t)=canT t:=by
 have hv:=zhE ρ t.occ [] (by simpa using h)
 have e:canT (renT ρ t)=Tm.sub (cPos ((vads [] t.occ).map ρ)) (renT ρ t):=by
  conv=>lhs;unfold canT
  rw[zoU]
  show Tm.sub (cPos (vads ([].map ρ) (t.occ.map ρ))) _=_
  rw[hv]
 rw[e]
 unfold renT canT
 rw[zoS]
 refine Tm.zun t fun w hw=> ?_
 show Tm.sub _ (tvar _)=tvar _
 rw[Tm.zue,if_pos (by rfl)]
 show tvar (((vads [] t.occ).map ρ).idxOf (ρ w):Nat)=tvar _
 rw[zoV ρ w _ fun a ha he=>h a (((zbX _ _ _).1 ha).resolve_left (by simp)) w hw he]
theorem zqL(ρ:Int->Int):∀t:Tm,t.fits=true->(renT ρ t).size=t.size:=by
 intro t
 induction t using Tm.zub with
 |h t ih=>
  intro hf
  unfold renT at ih ⊢
  rw[Tm.zue]
  by_cases hk:t.kind=0
  ·rw[if_pos hk,zbg hf hk]
   rfl
  ·rw[if_neg hk,Tm.size_eq,t.size_eq]
   congr 1
   have hargs:∀u∈t.args,(Tm.sub (fun v=>tvar (ρ v)) u).size=u.size:=fun u hu=>ih u hu (Tm.zud hf hu)
   show Tm.sizes (t.args.map (Tm.sub fun v=>tvar (ρ v)))=_
   generalize t.args=l at hargs
   clear ih
   induction l with
   |nil=>rfl
   |cons x r ihl=>
    rw[List.map_cons,Tm.sizes,Tm.sizes,hargs x List.mem_cons_self,ihl fun u hu=>hargs u (List.mem_cons_of_mem _ hu)]
theorem zqM(ρ:Int->Int):∀t:Tm,t.fits=true->(∀v∈t.occ,0<=ρ v/\ρ v<=1099511627776)->(renT ρ t).fits=true:=by
 intro t
 induction t using Tm.zub with
 |h t ih=>
  intro hf hr
  unfold renT at ih ⊢
  rw[Tm.zue]
  by_cases hk:t.kind=0
  ·rw[if_pos hk]
   have:=hr t.n (by rw[Tm.occ_eq,if_pos hk];simp)
   exact zef this
  ·rw[if_neg hk]
   have hf0:=hf
   rw[Tm.zui,Bool.and_eq_true] at hf ⊢
   refine⟨?_,Tm.fitsAll_iff.2 fun u hu=> ?_⟩
   ·have h1:=hf.1
    clear ih hf hf0 hr
    cases t with
    |mk k n s ts=>
     have hk:¬k=0:=hk
     unfold Tm.node at h1 ⊢
     simp only[Tm.kind,Tm.n,Tm.name,Tm.args,hk,if_false,List.length_map] at h1 ⊢
     exact h1
   ·obtain⟨w,hw,rfl⟩:=List.mem_map.1 hu
    exact ih w hw (Tm.zud hf0 hw) fun v hv=>hr v (Tm.zuu hk hw hv)
theorem zkm{L:List Int}{a b:Int}(ha:a∈L)(hb:b∈L)(h:L.idxOf a=L.idxOf b):a=b:=by
 have h1:=List.idxOf_lt_length_iff.2 ha
 have h2:=List.idxOf_lt_length_iff.2 hb
 have e1:L[L.idxOf a]=a:=List.getElem_idxOf h1
 have e2:L[L.idxOf b]=b:=List.getElem_idxOf h2
 rw[<-e1,<-e2]
 congr 1
theorem zsm{L:List Int}(hn:L.Nodup){i:Nat}(h:i<L.length):L.idxOf L[i]=i:=by
 have h1:L.idxOf L[i]<L.length:=List.idxOf_lt_length_iff.2 (List.getElem_mem h)
 have e1:L[L.idxOf L[i]]=L[i]:=List.getElem_idxOf h1
 exact(List.getElem_inj hn).1 e1
theorem zsn(L:List Int)(t:Tm):Tm.sub (cPos L) t=renT (fun v=>((L.idxOf v:Nat):Int)) t:=rfl
theorem zoW(k:Nat)(L:List Int)(t:Tm):Tm.sub (cpk k L) t=renT (fun v=>((k+L.idxOf v:Nat):Int)) t:=rfl
theorem zqN{t:Tm}{L0:List Int}(hs:∀v∈t.occ,v∈L0)(k:Nat):canT (Tm.sub (cpk k (vads [] (Tm.sub (cPos L0) t).occ)) (Tm.sub (cPos L0) t))=canT t:=by
 rw[zoW,zli _ _ fun a ha b hb h=> ?_,zsn,zli _ _ fun a ha b hb h=> ?_]
 ·have h1:(L0.idxOf a:Nat)=L0.idxOf b:=by
   have h:((L0.idxOf a:Nat):Int)=((L0.idxOf b:Nat):Int):=h
   omega
  exact zkm (hs a ha) (hs b hb) h1
 ·have h1:(vads [] (Tm.sub (cPos L0) t).occ).idxOf a=(vads [] (Tm.sub (cPos L0) t).occ).idxOf b:=by
   have h:((k+(vads [] (Tm.sub (cPos L0) t).occ).idxOf a:Nat):Int)=((k+(vads [] (Tm.sub (cPos L0) t).occ).idxOf b:Nat):Int):=h
   omega
  exact zkm ((zbX _ _ _).2 (.inr ha)) ((zbX _ _ _).2 (.inr hb)) h1
theorem ziY(P:Tm)(k:Nat):vads [] (Tm.sub (cpk k (vads [] P.occ)) P).occ=(vads [] P.occ).map fun v=>((k+(vads [] P.occ).idxOf v:Nat):Int):=by
 rw[zoW,zoU]
 refine zhE _ P.occ [] fun a ha b hb h=> ?_
 have ha:a∈P.occ:=by simpa using ha
 have hb:b∈P.occ:=by simpa using hb
 have h1:(vads [] P.occ).idxOf a=(vads [] P.occ).idxOf b:=by
  have h:((k+(vads [] P.occ).idxOf a:Nat):Int)=((k+(vads [] P.occ).idxOf b:Nat):Int):=h
  omega
 exact zkm ((zbX _ _ _).2 (.inr ha)) ((zbX _ _ _).2 (.inr hb)) h1
theorem zqO(P:Tm)(k i:Nat)(h:i<(vads [] P.occ).length):(vads [] (Tm.sub (cpk k (vads [] P.occ)) P).occ)[i]? =some ((k+i:Nat):Int):=by
 rw[ziY,List.getElem?_map,List.getElem?_eq_getElem h]
 have hn:(vads [] P.occ).Nodup:=zmQ _ _ List.nodup_nil
 simp only[Option.map_some,zsm hn h]
theorem zoX(P:Tm)(hf:P.fits=true)(k:Nat):(Tm.sub (cpk k (vads [] P.occ)) P).size=P.size:=zqL _ P hf
theorem zoY(P:Tm)(hf:P.fits=true)(hs:P.size<10000)(k:Nat)(hk:k<1000000):(Tm.sub (cpk k (vads [] P.occ)) P).fits=true:=by
 refine zqM _ P hf fun v hv=> ?_
 have h1:=za1 P.occ []
 have h2:=Tm.occ_len P
 have h3:(vads [] P.occ).idxOf v<=(vads [] P.occ).length:=List.idxOf_le_length
 simp only[List.length_nil] at h1
 show(0:Int)<=((k+(vads [] P.occ).idxOf v:Nat):Int)/\((k+(vads [] P.occ).idxOf v:Nat):Int)<=1099511627776
 omega
theorem zoZ(l:List Int):(lstT (vT l) (tatm [91,93])).size=2*l.length+1:=by
 induction l with
 |nil=>rfl
 |cons x r ih=>
  show(zmG (tvar x) (lstT (vT r) (tatm [91,93]))).size=_
  rw[Tm.size_eq]
  show 1+((tvar x).size+((lstT (vT r) (tatm [91,93])).size+0))=_
  rw[ih,List.length_cons]
  show 1+(1+_)=_
  omega
theorem zo0(l:List Int)(h:∀v∈l,0<=v/\v<=1099511627776):(lstT (vT l) (tatm [91,93])).fits=true:=by
 induction l with
 |nil=>rfl
 |cons x r ih=>
  show(zmG (tvar x) (lstT (vT r) (tatm [91,93]))).fits=true
  have h1:=ih fun v hv=>h v (List.mem_cons_of_mem _ hv)
  have h2:=zef (h x List.mem_cons_self)
  rw[Tm.zui]
  simp[zmG,Tm.node,Tm.kind,Tm.n,Tm.name,Tm.args,Tm.fitsAll,h1,h2]
theorem zo1{s:List UInt8}(hs:s.length<=100){a b:Tm}(ha:a.fits=true)(hb:b.fits=true):(tstr s [a,b]).fits=true:=by
 have hs':(s.length:Int)<=100:=by omega
 rw[Tm.zui]
 simp[tstr,Tm.node,Tm.kind,Tm.n,Tm.name,Tm.args,Tm.fitsAll,ha,hb,hs']
theorem zhF{s:List UInt8}(hs:s.length<=100){a b:Tm}(ha:a.fits=true)(hb:b.fits=true)(hz:a.size+b.size<2000):(tstr s [a,b]).valid=true:=by
 unfold Tm.valid
 rw[zo1 hs ha hb,Tm.size_eq]
 show(decide (1+(a.size+(b.size+0))<=2000) && true)=true
 rw[Bool.and_true,decide_eq_true_eq]
 omega
theorem ziZ(L:List Int)(t:Tm):∀v∈(Tm.sub (cPos L) t).occ,0<=v/\v<=(L.length:Int):=fun v hv=>by
 rw[zle] at hv
 obtain⟨w,_,rfl⟩:=List.mem_map.1 hv
 have h3:L.idxOf w<=L.length:=List.idxOf_le_length
 omega
theorem zo2{hp hp':Heap}(h:PresV (.tsl none []) hp hp'):∃e,hp'=hp++e:=by
 refine⟨hp'.drop hp.length,?_⟩
 have e1:hp'.take hp.length=hp:=by
  refine List.ext_getElem? fun j=> ?_
  rw[List.getElem?_take]
  by_cases hj:j<hp.length
  ·rw[if_pos hj]
   have hx:hp[j]? =some hp[j]:=List.getElem?_eq_getElem hj
   rw[hx]
   exact h.2 j _ hx fun v o n=>by simp
  ·rw[if_neg hj,List.getElem?_eq_none (by omega)]
 conv=>lhs;rw[<-List.take_append_drop hp.length hp',e1]
theorem zkn(t:Tm)(hv:t.valid=true)(hp:Heap):∃s e,S 26 [t.av] hp=some (.ret s,hp++e)/\IsV s (hp++e) (vads [] t.occ):=by
 obtain⟨s,hp',h1,h2,h3,_⟩:=zsK t hv hp
 obtain⟨e,rfl⟩:=zo2 h3
 exact⟨s,e,h1,h2⟩
theorem zko{s:AV}{H:Heap}{l:List Int}(h:IsV s H l):sLen [s]=some (.pv none (.int .i64 l.length)):=by
 rcases h with⟨rfl,rfl⟩|⟨r,rfl,h⟩
 ·rfl
 ·exact zht _ _ _ _
theorem zo3{s:AV}{H:Heap}{l:List Int}(h:IsV s H l){i:Nat}{v:Int}(hv:l[i]? =some v):∃p,zaW none [s,.pv none (.int .i64 i)]=some p/\∀X,aload none (H++X) p=some (.pv none (.int .i64 v)):=by
 rcases h with⟨rfl,rfl⟩|⟨r,rfl,h⟩
 ·simp at hv
 ·have hi:=(List.getElem?_eq_some_iff.1 hv).1
  have hr:=zbx h
  refine⟨.eptr none r l.length (0+i) 0,zcy hi,fun X=> ?_⟩
  simp[aload,zbQ hr,h,za0,zdm hv]
theorem zmM(a b:Sh)(p q:PV)(hp:Heap):(AV.tuple [.pv a p,.pv b q]).alone hp=some (.tuple [.pv a p,.pv b q]):=rfl
theorem ztv(g a:Tm)(ha:a.valid=true)(hc:zmK g [a] zt 0)(hp:Heap):S 18 [g.av,a.av] hp=some (.ret (.pv none (.bool true)),hp):=by
 refine zak rfl rfl rfl (zab [(some 4,g.pv),(some 4,a.pv)]) rfl ?_
 have hsz:=valid_size ha
 have h1:=fun hp=>zsx zt hp (by decide)
 have h2:=fun hp=>zlr a a hp (by omega) (by omega)
 have hz0:za2 [(none,.pv none (.int .i64 0)),(none,.pv none (.int .i64 0)),(none,.pv none (.str [])),(none,.tsl (some 4) [])] [] []=some zV:=rfl
 unfold zmK at hc
 rw[zsy] at h1
 rw[zgP ha] at h2
 have hge:(Tm.pvs [a])[0]? =some a.pv:=rfl
 have hpl:(Tm.pvs [a]).length=1:=rfl
 simp only[Tm.av] at h1 h2 hc
 simp -dsimp -implicitDefEqProofs only[go_sem,seval,↓reduceIte,Tm.av,h1,h2,hc,hz0,hpl,zfM hge,zad (Nat.zero_le _)]
theorem zqJ(l:List Tm)(hl:l.length<1000000000)(t:Tm)(hp:Heap):S 27 [t.av,.pv none (.sl (some 4) (Tm.pvs l))] hp=some (.ret (lstT l t).av,hp):=by
 refine zak rfl rfl rfl (zab [(some 4,t.pv),(none,.sl (some 4) (Tm.pvs l))]) rfl ?_
 have hw0:IntKind.i64.wrap ((l.length:Int) - 1)=(l.length:Int) - 1:=zaQ (by omega) (by omega)
 simp -dsimp -implicitDefEqProofs only[go_sem,seval,↓reduceIte,Tm.av,hw0,Tm.pvs_len]
 refine zd7 (fun n st=>n<=l.length/\st=⟨[(1,.pv none (.sl (some 4) (Tm.pvs l))),(2,.ptr 0 0),(4,.ptr 1 0),(5,.pv none (.int .i64 ((n:Int) - 1)))],[.box (some 4) (.pv (some 4) (lstT (l.drop n) t).pv),.box (some 4) (zg 2),.arr (some 4) [] false]⟩) (n:=l.length) ⟨Nat.le_refl _,by rw[List.drop_length];rfl⟩ ?_
 rintro n st ⟨hn,rfl⟩
 cases n with
 |zero=>
  have hc:¬(0:Int)<=((0:Nat):Int) - 1:=by decide
  simp -dsimp -implicitDefEqProofs only[go_sem,seval,↓reduceIte,hc,zg]
  try rfl
 |succ i=>
  obtain⟨x,hx⟩:∃x,l[i]? =some x:=⟨_,List.getElem?_eq_getElem (by omega)⟩
  have e1:((i+1:Nat):Int) - 1=i:=by omega
  have hc:(0:Int)<=(i:Int):=by omega
  have hw:IntKind.i64.wrap ((i:Int) - 1)=(i:Int) - 1:=zaQ (by omega) (by omega)
  have hf:∀hp,S 19 [.pv none (.str [46]),.tsl (some 4) [x.pv,(lstT (l.drop (i+1)) t).pv]] hp=some (.ret (.pv (some 4) (lstT (l.drop i) t).pv),hp):=fun hp=>by
   rw[zi7 t hx]
   exact zt7 [46] [x,lstT (l.drop (i+1)) t] hp
  rw[e1]
  simp -dsimp -implicitDefEqProofs only[go_sem,seval,↓reduceIte,hc,hw,hf,zg,zao (Tm.pvs_get hx)]
  exact⟨i,by omega,by omega,rfl⟩
theorem zsl{s:AV}{H:Heap}{l:List Int}(h:IsV s H l){i:Nat}{es:List PV}{z:Bool}(hi:H[i]? =some (.arr (some 4) es z))(x:AObj):IsV s (H.set i x) l:=by
 rcases h with h|⟨r,rfl,h⟩
 ·exact .inl h
 ·refine .inr ⟨r,rfl,?_⟩
  have hne:i≠r:=fun e=>by
   rw[e,h] at hi
   cases hi
  rw[List.getElem?_set_ne hne,h]
set_option maxRecDepth 100000 in
theorem zmH(t u:Tm)(ht0:t.size<100000000)(hu0:u.size<100000000):S 6 [t.av,u.av] []=some (.ret (.pv none (.bool true)),[]):=by
 refine zak rfl rfl rfl (zab [(some 4,t.pv),(some 4,u.pv)]) rfl ?_
 have haw:=zq3
 have hv1:=fun hp=>zbz t hp (by omega)
 have hv2:=fun hp=>zbz u hp (by omega)
 have hs1:=fun hp=>zhQ t hp (by omega)
 have hs2:=fun hp=>zhQ u hp (by omega)
 simp only[Tm.av] at hv1 hv2 hs1 hs2
 by_cases vt:t.valid=true
 rotate_left
 ·have vt':t.valid=false:=by simpa using vt
  simp -dsimp -implicitDefEqProofs only[go_sem,seval,↓reduceIte,Tm.av,hv1,vt',haw]
 by_cases vu:u.valid=true
 rotate_left
 ·have vu':u.valid=false:=by simpa using vu
  simp -dsimp -implicitDefEqProofs only[go_sem,seval,↓reduceIte,Tm.av,hv1,hv2,vt,vu',haw]
 rw[vt] at hv1
 rw[vu] at hv2
 have zt1:=valid_size vt
 have zu1:=valid_size vu
 have m1:min t.size 2001=t.size:=by omega
 have m2:min u.size 2001=u.size:=by omega
 rw[m1] at hs1
 rw[m2] at hs2
 by_cases bt:600<t.size
 ·have bt':(600:Int)<(t.size:Int):=by omega
  simp -dsimp -implicitDefEqProofs only[go_sem,seval,↓reduceIte,Tm.av,hv1,hv2,hs1,bt',haw]
 by_cases bu:600<u.size
 ·have bt':¬(600:Int)<(t.size:Int):=by omega
  have bu':(600:Int)<(u.size:Int):=by omega
  simp -dsimp -implicitDefEqProofs only[go_sem,seval,↓reduceIte,Tm.av,hv1,hv2,hs1,hs2,bt',bu',haw]
 have bt':¬(600:Int)<(t.size:Int):=by omega
 have bu':¬(600:Int)<(u.size:Int):=by omega
 have ft:=valid_fits vt
 have fu:=valid_fits vu

 have hG:=fun hp=>zqW nCpy [t,u] (by rw[Tm.size_eq];show 1+(t.size+(u.size+0))<_;omega) hp
 have hgv:(tstr nCpy [t,u]).valid=true:=zhF (by decide) ft fu (by omega)
 obtain⟨L0,hL0⟩:∃L0,L0=vads [] (Tm.occs [t,u]):=⟨_,rfl⟩
 have hcan:canT (tstr nCpy [t,u])=tstr nCpy [Tm.sub (cPos L0) t,Tm.sub (cPos L0) u]:=by rw[hL0];exact zln nCpy [t,u]
 have hcr:canR (tstr nCpy [t,u])=tstr nCpy [Tm.sub (cPos L0) t,Tm.sub (cPos L0) u]:=by
  unfold canR
  rw[if_pos hgv,hcan]
 rw[hcr,hgv] at hG
 have hgv2:(tstr nCpy [Tm.sub (cPos L0) t,Tm.sub (cPos L0) u]).valid=true:=by
  rw[<-hcan]
  exact zgM hgv
 have hgc2:canT (tstr nCpy [Tm.sub (cPos L0) t,Tm.sub (cPos L0) u])=tstr nCpy [Tm.sub (cPos L0) t,Tm.sub (cPos L0) u]:=by
  rw[<-hcan]
  exact zlf _
 have hsub:∀v∈t.occ,v∈L0:=fun v hv=>by
  rw[hL0]
  refine(zbX _ _ _).2 (.inr ?_)
  show v∈t.occ++(u.occ++[])
  exact List.mem_append.2 (.inl hv)
 have hL0l:L0.length<=1300:=by
  have h1:=za1 (Tm.occs [t,u]) []
  have h2:=Tm.occ_len t
  have h3:=Tm.occ_len u
  have h4:(Tm.occs [t,u]).length=t.occ.length+(u.occ.length+0):=by
   show(t.occ++(u.occ++[])).length=_
   simp
  rw[hL0]
  simp only[List.length_nil] at h1
  omega
 have hPz:(Tm.sub (cPos L0) t).size=t.size:=zf7 t ft
 have hPf:(Tm.sub (cPos L0) t).fits=true:=zfS (by omega) t ft
 have hcopc:=fun k=>zqN hsub k
 obtain⟨P,hP⟩:∃P,P=Tm.sub (cPos L0) t:=⟨_,rfl⟩
 obtain⟨Q,hQ⟩:∃Q,Q=Tm.sub (cPos L0) u:=⟨_,rfl⟩
 rw[<-hP] at hcopc hPz hPf
 rw[<-hP,<-hQ] at hG hgv2 hgc2
 have vP:P.valid=true:=zbl hgv2 (by show P∈[P,Q];simp)
 obtain⟨k,hk⟩:∃k,k=(vads [] (tstr nCpy [P,Q]).occ).length:=⟨_,rfl⟩
 have hkl:k<100000:=by
  have h1:=za1 (tstr nCpy [P,Q]).occ []
  have h2:=Tm.occ_len (tstr nCpy [P,Q])
  have h3:=valid_size hgv2
  simp only[List.length_nil] at h1
  omega
 obtain⟨C,hC⟩:∃C,C=Tm.sub (cpk k (vads [] P.occ)) P:=⟨_,rfl⟩
 have hCz:C.size=P.size:=by rw[hC];exact zoX P hPf k
 have hCf:C.fits=true:=by rw[hC];exact zoY P hPf (by omega) k (by omega)
 have hans:(tstr nCpy [P,C]).valid=true:=zhF (by decide) hPf hCf (by omega)
 have hcall:=zoQ P Q hgv2 hgc2 k hk (by rw[<-hC];exact hans)
 rw[<-hC] at hcall
 have vC:C.valid=true:=zbl hans (by show C∈[P,C];simp)
 have hvar:=fun hp=>zkv C t hp (by omega) (by omega)
 have hvt:vari C t=true:=by
  unfold vari
  have h1:=hcopc k
  rw[<-hC] at h1
  rw[vC,vt,h1]
  simp[Tm.cmp_zero]
 rw[hvt] at hvar
 have hsm:=fun hp=>zlr P P hp (by omega) (by omega)
 rw[zgP vP] at hsm
 have hCg:∀i,i<(vads [] P.occ).length->(vads [] C.occ)[i]? =some ((k+i:Nat):Int):=fun i hi=>by rw[hC];exact zqO P k i hi
 have hCl:(vads [] C.occ).length=(vads [] P.occ).length:=by rw[hC,ziY];simp
 unfold zmK at hcall
 have hpg:PV.part deep (tstr nCpy [P,Q]).pv 3 none=some (.sl (some 4) [P.pv,Q.pv]):=rfl
 have hpa:PV.part deep (tstr nCpy [P,C]).pv 3 none=some (.sl (some 4) [P.pv,C.pv]):=rfl
 have hpn:PV.part deep (tstr nCpy [P,C]).pv 2 none=some (.str [99,111,112,121,95,116,101,114,109]):=rfl
 have g0:zaW (some 4) [.pv none (.sl (some 4) [P.pv,Q.pv]),.pv none (.int .i64 0)]=some (.iptr (some 4) P.pv 0):=rfl
 have c0:zaW (some 4) [.pv none (.sl (some 4) [P.pv,C.pv]),.pv none (.int .i64 0)]=some (.iptr (some 4) P.pv 0):=rfl
 have c1:zaW (some 4) [.pv none (.sl (some 4) [P.pv,C.pv]),.pv none (.int .i64 1)]=some (.iptr (some 4) C.pv 0):=rfl
 have l0:zaW (some 4) [.pv none (.sl (some 4) [(tstr nCpy [P,C]).pv]),.pv none (.int .i64 0)]=some (.iptr (some 4) (tstr nCpy [P,C]).pv 0):=rfl
 obtain⟨gg,hgg⟩:∃gg,gg=tstr nCpy [P,Q]:=⟨_,rfl⟩
 obtain⟨aa,haa⟩:∃aa,aa=tstr nCpy [P,C]:=⟨_,rfl⟩
 obtain⟨s1,e1,hV1,hI1⟩:=zkn gg (by rw[hgg];exact hgv2) [.box (some 4) (.pv (some 4) t.pv),.box (some 4) (.pv (some 4) u.pv),.box (some 4) (.pv (some 4) gg.pv),.arr (some 4) [] false]
 have hl1:=zko hI1
 rw[<-hgg] at hG hcall hpg hk
 rw[<-haa] at hcall hpa hpn l0
 rw[<-hk] at hl1
 have hts2:Tm.pvs [t,u]=[t.pv,u.pv]:=rfl
 have hpaa:Tm.pvs [aa]=[aa.pv]:=rfl
 rw[hts2] at hG
 rw[hpaa] at hcall
 unfold nCpy at hG
 simp only[Tm.av] at hG hcall hvar hsm hV1
 simp -dsimp -implicitDefEqProofs only[go_sem,seval,↓reduceIte,Tm.av,hv1,hv2,hs1,hs2,bt',bu',hG,hV1,hl1,hcall,hvar,hsm,hpg,hpa,hpn,g0,c0,c1,l0,zad (Nat.zero_le _),List.append_assoc,zal,zag,zan,zai,Nat.add_assoc,List.length_append]
 obtain⟨s2,e2,hV2,hI2⟩:=zkn C vC (.box (some 4) (.pv (some 4) t.pv)::.box (some 4) (.pv (some 4) u.pv)::.box (some 4) (.pv (some 4) gg.pv)::.arr (some 4) [] false::(e1++[.box (some 4) (.pv (some 4) zt.pv),.arr (some 4) [] false]))
 have hl2:=zko hI2
 simp only[Tm.av,List.cons_append,List.append_assoc,List.nil_append] at hV2 hI2
 obtain⟨e3,he3⟩:∃e3,e3=e1++.box (some 4) (.pv (some 4) zt.pv)::.arr (some 4) [] false::e2:=⟨_,rfl⟩
 rw[<-he3] at hV2 hI2
 simp -dsimp -implicitDefEqProofs only[go_sem,seval,↓reduceIte,Tm.av,hV2,hl2]
 have hkn:∀i:Nat,i<(vads [] C.occ).length->IntKind.i64.wrap ((k:Int)+(i:Int))=((k+i:Nat):Int):=fun i hi=>by
  have h1:=za1 C.occ []
  have h2:=Tm.occ_len C
  simp only[List.length_nil] at h1
  rw[zaQ (by omega) (by omega)]
  omega
 have hCll:(vads [] C.occ).length<100000:=by
  have h1:=za1 C.occ []
  have h2:=Tm.occ_len C
  simp only[List.length_nil] at h1
  omega
 obtain⟨H2,hH2⟩:∃H2:Heap,H2=.box (some 4) (.pv (some 4) t.pv)::.box (some 4) (.pv (some 4) u.pv)::.box (some 4) (.pv (some 4) gg.pv)::.arr (some 4) [] false::e3:=⟨_,rfl⟩
 rw[<-hH2] at hI2 ⊢
 refine zdA (α:=Unit) (vads [] C.occ).length (fun _ _=>True) (fun i _=>⟨[(2,.ptr 0 0),(5,.ptr 2 0),(7,.pv none (.int .i64 k)),(104,s2),(105,.pv none (.int .i64 (vads [] C.occ).length)),(106,.pv none (.int .i64 i))],H2⟩) () ⟨trivial,rfl⟩ ?_ ?_
 ·rintro i - h -
  have hc:(i:Int)<((vads [] C.occ).length:Int):=by omega
  have w2:IntKind.i64.wrap ((i:Int)+1)=((i+1:Nat):Int):=by rw[zaQ (by omega) (by omega)];omega
  obtain⟨p,hp1,hp2⟩:=zo3 hI2 (hCg i (by omega))
  have hp2:=hp2 []
  rw[List.append_nil] at hp2
  have w3:=hkn i h
  simp -dsimp -implicitDefEqProofs only[go_sem,seval,↓reduceIte,hc,w2,w3,hp1,hp2]
  try refine⟨(),?_⟩
  try rw[zdz rfl]
  done
 rintro - -
 have hc:¬((vads [] C.occ).length:Int)<((vads [] C.occ).length:Int):=by omega

 have hx:∀hp,S 28 [.pv none (.int .i64 1099511627776)] hp=some (.ret (tvar 1099511627776).av,hp):=fun hp=>x_ok _ hp
 have hyf:(tvar 1099511627776).fits=true:=zef (by decide)
 have hGv:=fun hp=>zsv nVrs [t,tvar 1099511627776] (by rw[Tm.size_eq];show 1+(t.size+(1+0))<_;omega) hp
 have hgv3:(tstr nVrs [t,tvar 1099511627776]).valid=true:=zhF (by decide) ft hyf (by show t.size+1<2000;omega)
 obtain⟨L1,hL1⟩:∃L1,L1=vads [] (Tm.occs [t,tvar 1099511627776]):=⟨_,rfl⟩
 have hcan3:canT (tstr nVrs [t,tvar 1099511627776])=tstr nVrs [Tm.sub (cPos L1) t,Tm.sub (cPos L1) (tvar 1099511627776)]:=by rw[hL1];exact zln nVrs _
 have hcr3:canR (tstr nVrs [t,tvar 1099511627776])=tstr nVrs [Tm.sub (cPos L1) t,Tm.sub (cPos L1) (tvar 1099511627776)]:=by
  unfold canR
  rw[if_pos hgv3,hcan3]
 rw[hcr3,hgv3] at hGv
 have hgv4:(tstr nVrs [Tm.sub (cPos L1) t,Tm.sub (cPos L1) (tvar 1099511627776)]).valid=true:=by
  rw[<-hcan3]
  exact zgM hgv3
 have hgc4:canT (tstr nVrs [Tm.sub (cPos L1) t,Tm.sub (cPos L1) (tvar 1099511627776)])=tstr nVrs [Tm.sub (cPos L1) t,Tm.sub (cPos L1) (tvar 1099511627776)]:=by
  rw[<-hcan3]
  exact zlf _
 have hL1l:L1.length<=1300:=by
  have h1:=za1 (Tm.occs [t,tvar 1099511627776]) []
  have h2:=Tm.occ_len t
  have h4:(Tm.occs [t,tvar 1099511627776]).length=t.occ.length+(1+0):=by
   show(t.occ++([1099511627776]++[])).length=_
   simp
  rw[hL1]
  simp only[List.length_nil] at h1
  omega
 have hRz:(Tm.sub (cPos L1) t).size=t.size:=zf7 t ft
 have hRf:(Tm.sub (cPos L1) t).fits=true:=zfS (by omega) t ft
 have hRo:=ziZ L1 t
 have hyk:(Tm.sub (cPos L1) (tvar 1099511627776)).kind=0:=by rw[zqX];rfl
 obtain⟨R,hR⟩:∃R,R=Tm.sub (cPos L1) t:=⟨_,rfl⟩
 obtain⟨Y,hY⟩:∃Y,Y=Tm.sub (cPos L1) (tvar 1099511627776):=⟨_,rfl⟩
 rw[<-hR,<-hY] at hGv hgv4 hgc4
 rw[<-hR] at hRz hRf hRo
 rw[<-hY] at hyk
 have vR:R.valid=true:=zbl hgv4 (by show R∈[R,Y];simp)
 have hvn:=za1 R.occ []
 have hvo:=Tm.occ_len R
 simp only[List.length_nil] at hvn
 have hlf:(lstT (vT (vads [] R.occ)) (tatm [91,93])).fits=true:=zo0 _ fun v hv=>by
  have h1:=hRo v (((zbX _ _ _).1 hv).resolve_left (by simp))
  omega
 have hlz:=zoZ (vads [] R.occ)
 have hans3:(tstr nVrs [R,lstT (vT (vads [] R.occ)) (tatm [91,93])]).valid=true:=zhF (by decide) hRf hlf (by rw[hlz];omega)
 have hcall3:=zpt R Y hyk hgv4 hgc4 hans3
 have hone:=fun hp=>ztv _ _ hans3 hcall3 hp
 have hll:=fun hp=>zqJ (vT (vads [] R.occ)) (by simp[vT];omega) (tatm [91,93]) hp
 have h_a:∀hp,S 17 [.pv none (.str [91,93])] hp=some (.ret (tatm [91,93]).av,hp):=fun hp=>a_ok [91,93] hp
 obtain⟨ls,hls⟩:∃ls,ls=lstT (vT (vads [] R.occ)) (tatm [91,93]):=⟨_,rfl⟩
 have hfv:∀hp,S 19 [.pv none (.str [116,101,114,109,95,118,97,114,105,97,98,108,101,115]),.pv none (.sl (some 4) [R.pv,ls.pv])] hp=some (.ret (.pv (some 4) (tstr nVrs [R,ls]).pv),hp):=fun hp=>f_ok nVrs [R,ls] hp
 rw[<-hls] at hll hone
 have hpr:PV.part deep (tstr nVrs [R,Y]).pv 3 none=some (.sl (some 4) [R.pv,Y.pv]):=rfl
 have r0:zaW (some 4) [.pv none (.sl (some 4) [R.pv,Y.pv]),.pv none (.int .i64 0)]=some (.iptr (some 4) R.pv 0):=rfl
 have htx:Tm.pvs [t,tvar 1099511627776]=[t.pv,(tvar 1099511627776).pv]:=rfl
 rw[htx] at hGv
 obtain⟨gv,hgv⟩:∃gv,gv=tstr nVrs [R,Y]:=⟨_,rfl⟩
 obtain⟨av,hav⟩:∃av,av=tstr nVrs [R,ls]:=⟨_,rfl⟩
 rw[<-hgv] at hGv hone hpr
 rw[<-hav] at hone hfv
 unfold nVrs at hGv
 simp only[Tm.av] at hGv hone hll h_a hx
 have hsc:[.pv none (.str [91,93])]=[AV.pv none (.str [91,93])]:=rfl
 simp -dsimp -implicitDefEqProofs only[go_sem,seval,↓reduceIte,hH2,hc,hx,hGv,hpr,r0,zmM,zad (Nat.zero_le _),zca (sh:=some 4) (by decide),List.append_assoc,zal,zag,zan,zai,Nat.add_assoc,List.length_append]
 obtain⟨s3,e4,hV3,hI3⟩:=zkn R vR (.box (some 4) (.pv (some 4) t.pv)::.box (some 4) (.pv (some 4) u.pv)::.box (some 4) (.pv (some 4) gv.pv)::.arr (some 4) [] false::(e3++[.arr (some 4) [] false]))
 have hl3:=zko hI3
 simp only[Tm.av,List.cons_append,List.append_assoc,List.nil_append] at hV3 hI3
 have hI4:∀x,IsV s3 (.box (some 4) (.pv (some 4) t.pv)::.box (some 4) (.pv (some 4) u.pv)::.box (some 4) (.pv (some 4) gv.pv)::.arr (some 4) [] false::(e3++x::e4)) (vads [] R.occ):=fun x=>by
  have h:=zsl hI3 (i:=e3.length+4) (es:=[]) (z:=false) (by simp) x
  have e:(.box (some 4) (.pv (some 4) t.pv)::.box (some 4) (.pv (some 4) u.pv)::.box (some 4) (.pv (some 4) gv.pv)::.arr (some 4) [] false::(e3++.arr (some 4) [] false::e4)).set (e3.length+4) x=.box (some 4) (.pv (some 4) t.pv)::.box (some 4) (.pv (some 4) u.pv)::.box (some 4) (.pv (some 4) gv.pv)::.arr (some 4) [] false::(e3++x::e4):=by simp
  rw[e] at h
  exact h
 simp -dsimp -implicitDefEqProofs only[go_sem,seval,↓reduceIte,Tm.av,hV3,hl3]
 have hRl:(vads [] R.occ).length<100000:=by omega
 have h_x:=fun v hp=>x_ok v hp
 simp only[Tm.av] at h_x
 generalize vads [] R.occ=vs at hl3 hI4 hll hRl hls ⊢
 refine zdA (α:=Unit) vs.length (fun _ _=>True) (fun i _=>⟨[(5,.ptr 2 0),(13,.sl (some 4) (e3.length+4) i 0 i),(128,s3),(129,.pv none (.int .i64 vs.length)),(130,.pv none (.int .i64 i))],.box (some 4) (.pv (some 4) t.pv)::.box (some 4) (.pv (some 4) u.pv)::.box (some 4) (.pv (some 4) gv.pv)::.arr (some 4) [] false::(e3++.arr (some 4) (Tm.pvs (vT (vs.take i))) false::e4)⟩) () ⟨trivial,rfl⟩ ?_ ?_
 ·rintro i - h -
  have hc:(i:Int)<(vs.length:Int):=by omega
  have w2:IntKind.i64.wrap ((i:Int)+1)=((i+1:Nat):Int):=by rw[zaQ (by omega) (by omega)];omega
  obtain⟨v,hv⟩:∃v,vs[i]? =some v:=⟨_,List.getElem?_eq_getElem h⟩
  obtain⟨p,hp1,hp2⟩:=zo3 (hI4 (.arr (some 4) (Tm.pvs (vT (vs.take i))) false)) hv
  have hp2:=hp2 []
  rw[List.append_nil] at hp2
  have hap:zaM (some 4) (.box (some 4) (.pv (some 4) t.pv)::.box (some 4) (.pv (some 4) u.pv)::.box (some 4) (.pv (some 4) gv.pv)::.arr (some 4) [] false::(e3++.arr (some 4) (Tm.pvs (vT (vs.take i))) false::e4)) [.sl (some 4) (e3.length+4) i 0 i,.tsl (some 4) [(tvar v).pv]]=some (.sl (some 4) (e3.length+4) (i+1) 0 (i+1),.box (some 4) (.pv (some 4) t.pv)::.box (some 4) (.pv (some 4) u.pv)::.box (some 4) (.pv (some 4) gv.pv)::.arr (some 4) [] false::(e3++.arr (some 4) (Tm.pvs (vT (vs.take (i+1)))) false::e4)):=by
   have hlim:i+1<=lim:=by unfold lim;omega
   have e:Tm.pvs (vT (vs.take (i+1)))=Tm.pvs (vT (vs.take i))++[(tvar v).pv]:=by
    rw[List.take_add_one,hv]
    simp[vT,Tm.zul,Tm.pvs]
   have hl4:(vT (vs.take i)).length=i:=by simp[vT];omega
   rw[e]
   simp[zaM,aappend,elems,Tm.pvs_len,hl4,hlim]
  simp -dsimp -implicitDefEqProofs only[go_sem,seval,↓reduceIte,hc,w2,hp1,hp2,h_x,hap]
  try refine⟨(),?_⟩
  try rw[zdz (by simp)]
  done
 rintro - -
 have hc:¬(vs.length:Int)<(vs.length:Int):=by omega
 rw[List.take_length]
 have hz13:AV.freeze deep (.sl (some 4) (e3.length+4) vs.length 0 vs.length) (.box (some 4) (.pv (some 4) t.pv)::.box (some 4) (.pv (some 4) u.pv)::.box (some 4) (.pv (some 4) gv.pv)::.arr (some 4) [] false::(e3++.arr (some 4) (Tm.pvs (vT vs)) false::e4))=some (.sl (some 4) (Tm.pvs (vT vs)),.box (some 4) (.pv (some 4) t.pv)::.box (some 4) (.pv (some 4) u.pv)::.box (some 4) (.pv (some 4) gv.pv)::.arr (some 4) [] false::(e3++.arr (some 4) (Tm.pvs (vT vs)) true::e4)):=by
  have hl5:(vT vs).length=vs.length:=by simp[vT]
  simp[AV.freeze,deep,Tm.pvs_len,hl5]
 have hset:∀fr:Fr,zeC 13 [] ⟨fr,.box (some 4) (.pv (some 4) t.pv)::.box (some 4) (.pv (some 4) u.pv)::.box (some 4) (.pv (some 4) gv.pv)::.arr (some 4) [] false::(e3++.arr (some 4) (Tm.pvs (vT vs)) false::e4)⟩ (some (.sl (some 4) (e3.length+4) vs.length 0 vs.length))=some ⟨(13,.pv none (.sl (some 4) (Tm.pvs (vT vs))))::fr,.box (some 4) (.pv (some 4) t.pv)::.box (some 4) (.pv (some 4) u.pv)::.box (some 4) (.pv (some 4) gv.pv)::.arr (some 4) [] false::(e3++.arr (some 4) (Tm.pvs (vT vs)) true::e4)⟩:=fun fr=>by
  simp only[zeC,hz13]
  rfl
 simp -dsimp -implicitDefEqProofs only[go_sem,seval,↓reduceIte,hc,h_a,hll,hfv,hone,haw,hset,hpr,r0]
 done
end Go.Proofs.YtiifblpdlphchaaGreatRR
namespace Go.Proofs.YtiifblpdlphchaaGreatRR
open Go.Am Go.ChangeShapes Go.WideShapes Go.ChangeAt Go.RowKit
theorem zo4(H:Type):BulkLaws (H:=H) Rows.uptoBulk Rows.uptoBulkAll where
 nil:=by simp[Rows.uptoBulkAll]
 cons d r:=by simp[Rows.uptoBulkAll]
 slice e s:=by simp[Rows.uptoBulk]
 agg l:=by simp[Rows.uptoBulk]
 string l:=by simp[Rows.uptoBulk]
theorem zmI{H:Type}{l:List (DataW H)}(hk:Rows.uptoSmall H l=true):Rows.uptoBulkAll l<=1048576:=of_decide_eq_true hk
def zlk(P:Program)(tA tT:TypeId):Bool:=
 (match P.underlying tA with|some (.slice t)=>t == tT|_=>false) &&
 (match P.underlying tT with
  |some (.struct fs)=>match fs.toList.map (·.type) with
   |[a,b,c,d]=>d == tA && (match P.underlying a with|some (.int .i64)=>true|_=>false) && (match P.underlying b with|some (.int .i64)=>true|_=>false) && (match P.underlying c with|some .string=>true|_=>false) && decide (shOf P a=none) && decide (shOf P b=none) && decide (shOf P c=none)
   |_=>false
  |_=>false) && decide (shOf P tT=some 4) && decide (shOf P tA=none)
theorem zkp{P:Program}{tA tT:TypeId}(h:zlk P tA tT=true):TermTy P tA tT:=by
 unfold zlk at h
 simp only[Bool.and_eq_true,decide_eq_true_eq] at h
 obtain⟨⟨⟨h1,h2⟩,h3⟩,h4⟩:=h
 refine⟨?_,?_⟩
 ·split at h1
  ·rename_i t ht;rw[ht];simp at h1;rw[h1]
  ·cases h1
 ·split at h2
  ·rename_i fs hfs
   split at h2
   ·rename_i a b c d hl
    simp only[Bool.and_eq_true,decide_eq_true_eq,beq_iff_eq] at h2
    obtain⟨⟨⟨⟨⟨⟨k1,k2⟩,k3⟩,k4⟩,k5⟩,k6⟩,k7⟩:=h2
    subst k1
    refine⟨fs,a,b,c,hfs,hl,?_,?_,?_,h3,h4,k5,k6,k7⟩
    ·split at k2
     ·assumption
     ·cases k2
    ·split at k3
     ·assumption
     ·cases k3
    ·split at k4
     ·assumption
     ·cases k4
   ·cases h2
  ·cases h2
theorem ztm:TermTy Tryz.prog 24 26:=zkp (by kernel_rfl)
def zo5:List TypeId:=[2,3,4,5,9,24,26]
theorem closed:zk7 Tryz.prog zo5=true:=by kernel_rfl
set_option maxRecDepth 100000 in
theorem zi1{H:Type}{enc:TypeId × Value->H}{W:World}{base:Nat}{v:Value}{d:DataW H}{ps:List MemPlace}(h:DataW.Trod enc Tryz.prog W 0 (fun _=>true) true 26 v d ps)(hv:Value.okWide Tryz.prog W .any base 26 v):
  ∃t:Tm,AR W (noX (P:=Tryz.prog)) noμ [] t.av v/\t.size<=Rows.uptoBulk d/\t.rng:=by
 obtain⟨fuel,h0⟩:=h
 obtain⟨p,hp⟩:=zoM closed fuel _ _ _ _ (by simp[zo5]) h0
 obtain⟨t,rfl,h1,h2⟩:=(ziW ztm (zo4 H) fuel).1 d p hp
 have:=ztb ⟨fuel,h0⟩ (by kernel_rfl) hp (zmF hv)
 rw[show shOf Tryz.prog 26=some 4 from by kernel_rfl] at this
 exact⟨t,this,h1,h2⟩
end Go.Proofs.YtiifblpdlphchaaGreatRR
namespace Go.Proofs.YtiifblpdlphchaaGreatRR
open Go.Am Go.ChangeShapes Go.WideShapes Go.ChangeAt Go.RowKit
end Go.Proofs.YtiifblpdlphchaaGreatRR
namespace Go.Proofs.YtiifblpdlphchaaGreatRR
open Go.Am Go.ChangeShapes Go.WideShapes Go.ChangeAt Go.RowKit
end Go.Proofs.YtiifblpdlphchaaGreatRR
