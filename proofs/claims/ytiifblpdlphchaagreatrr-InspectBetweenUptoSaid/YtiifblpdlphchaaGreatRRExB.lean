/- What is proved: term.Canon. -/
import Derived.Test.YtiifblpdlphchaaGreatRRCp
import Derived.Test.YtiifblpdlphchaaGreatRRAm4
set_option linter.unusedSimpArgs false
set_option linter.unusedVariables false
namespace Go.Proofs.YtiifblpdlphchaaGreatRR
open Go.Am
def cagg(k:Int)(q:Nat):AV:=.agg [(none,.pv none (.int .i64 0)),(none,.pv none (.int .i64 k)),(none,.pv none (.str [])),(none,.sl (some 4) q 0 0 0)]
def gC(t:Tm)(l:List Int):Heap:=[.box (some 4) (.pv (some 4) t.pv),.box (some 4) (cagg 0 2),.arr (some 4) [] false,.map none (zcc (posF 0 l)),.box none (.map 3)]
theorem zqO{m:List (Int × PV)}{hp:Heap}{r:Nat}{s:Sh}{v:Int}(h:hp[r]? =some (.map none (zcc m))):zaR false none (.pv none (.int .i64 0)) true hp [.map r,.pv s (.int .i64 v)]=some (match zfz v m with|some x=>.tuple [.pv none x,.pv none (.bool true)]|none=>.tuple [.pv none (.int .i64 0),.pv none (.bool false)]):=by
 have hf:=zei v m
 cases hm:zfz v m with
 |none=>rw[hm] at hf;exact zbo h hf
 |some x=>rw[hm] at hf;exact zct h hf
theorem zfs{k:Int}{q:Nat}{H:Heap}(h:H[q]? =some (.arr (some 4) [] false)):AV.freeze deep (cagg k q) H=some ((tvar k).pv,H.set q (.arr (some 4) [] true)):=by
 have e:∀l hp,AV.freeze (7+1) (.agg l) hp=match AV.freeze.go 7 l hp with|some (ps,hp')=>some (.agg ps,hp')|none=>none:=fun _ _=>rfl
 show AV.freeze (7+1) (.agg _) _=_
 simp[e,AV.freeze.go,AV.freeze,h]
 rfl
theorem zpo(t:Tm)(l:List Int)(ext:Heap):(gC t l++ext).length=ext.length+5:=by simp[gC]
theorem gC_4(t:Tm)(l:List Int)(ext X:Heap):(gC t l++ext++X)[4]? =some (.box none (.map 3)):=rfl
theorem gC_3(t:Tm)(l:List Int)(ext X:Heap):(gC t l++ext++X)[3]? =some (.map none (zcc (posF 0 l))):=rfl
theorem zqP(t:Tm)(l l':List Int)(ext X:Heap):(gC t l++ext++X).set 3 (.map none (zcc (posF 0 l')))=gC t l'++ext++X:=rfl
theorem znu(t0 u:Tm)(l:List Int)(ext:Heap)(hl:l.length<100000000)(n:Nat)(hn:n=ext.length+5):
  S 93 [u.av,.ptr 4 0] (gC t0 l++ext)=some (.ret (cagg ((vadd l u.n).idxOf u.n:Nat) (n+3)),gC t0 (vadd l u.n)++(ext++[.box (some 4) (.pv (some 4) u.pv),.box (some 4) (cagg ((vadd l u.n).idxOf u.n:Nat) (n+3)),.arr (some 4) [] false,.arr (some 4) [] false])):=by
 obtain⟨K,hK⟩:∃K:List Int->Heap,K=fun l=>gC t0 l++ext:=⟨_,rfl⟩
 have hKs:∀l,gC t0 l++ext=K l:=fun l=>by rw[hK]
 have hKl:∀l,(K l).length=n:=fun l=>by rw[<-hKs,zpo,hn]
 have hKa:∀l X,gC t0 l++(ext++X)=K l++X:=fun l X=>by rw[<-hKs,List.append_assoc]
 have hK4:∀l X,(K l++X)[4]? =some (.box none (.map 3)):=fun l X=>by rw[<-hKs];exact gC_4 t0 l ext X
 have hK3:∀l X,(K l++X)[3]? =some (.map none (zcc (posF 0 l))):=fun l X=>by rw[<-hKs];exact gC_3 t0 l ext X
 have hKS:∀l l' X,(K l++X).set 3 (.map none (zcc (posF 0 l')))=K l'++X:=fun l l' X=>by rw[<-hKs,<-hKs];exact zqP t0 l l' ext X
 have hle:∀k,n<=n+k:=fun k=>Nat.le_add_right _ _
 rw[hKa,hKs]
 unfold cagg
 refine zaK rfl rfl rfl rfl ?_
 rw[hKl]
 have hb:∀k:Int,zbg [(none,.pv none (.int .i64 0)),(none,.pv none (.int .i64 0)),(none,.pv none (.str [])),(none,.tsl (some 4) [])] [1] [.pv none (.int .i64 k)]=some (.agg [(none,.pv none (.int .i64 0)),(none,.pv none (.int .i64 k)),(none,.pv none (.str [])),(none,.tsl (some 4) [])]):=fun _=>rfl
 by_cases hm:u.n∈l
 ·have e:vadd l u.n=l:=by simp[vadd,hm]
  rw[e]
  have hlk:∀X:Heap,zaR false none (.pv none (.int .i64 0)) true (K l++X) [.map 3,.pv none (.int .i64 u.n)]=some (.tuple [.pv none (.int .i64 ((l.idxOf u.n:Nat):Int)),.pv none (.bool true)]):=fun X=>by
   rw[zqO (m:=posF 0 l) (hK3 _ _),zft,if_pos hm,Nat.zero_add]
  simp -dsimp -implicitDefEqProofs only[go_sem,seval,↓reduceIte,cagg,List.append_assoc,zam,zaj,zan,zak,Nat.add_assoc,List.length_append,Tm.av,za9,hlk,hb,zay,zag (Nat.le_add_right _ _),hK4,hKl,getN (hKl _),zdP (hKl _),setN (hKl _),zdQ (hKl _)]
  rw[if_neg (by simp[AV.refsIn,AV.refsIn.go])]
 ·have e:vadd l u.n=l++[u.n]:=by simp[vadd,hm]
  rw[e,zkb hm]
  have hlk:∀X:Heap,zaR false none (.pv none (.int .i64 0)) true (K l++X) [.map 3,.pv none (.int .i64 u.n)]=some (.tuple [.pv none (.int .i64 0),.pv none (.bool false)]):=fun X=>by
   rw[zqO (m:=posF 0 l) (hK3 _ _),zft,if_neg hm]
  have hml:∀X:Heap,zgj (K l++X) [.map 3]=some (.pv none (.int .i64 (l.length:Int))):=fun X=>by
   simp[zgj,hK3,zcc,zj9]
  have hms:∀X:Heap,zbB false none (K l++X) [.map 3,.pv none (.int .i64 u.n),.pv none (.int .i64 (l.length:Int))]=some (.undef,K (l++[u.n])++X):=fun X=>by
   have:=zka u.n l 0 hm
   rw[Nat.zero_add] at this
   rw[zcu (es:=zcc (posF 0 l)) (hK3 _ _) (zfA _ _ _),this,hKS]
  simp -dsimp -implicitDefEqProofs only[go_sem,seval,↓reduceIte,cagg,List.append_assoc,zam,zaj,zan,zak,Nat.add_assoc,List.length_append,Tm.av,za9,hlk,hml,hms,hb,zay,zag (Nat.le_add_right _ _),hK4,hKl,getN (hKl _),zdP (hKl _),setN (hKl _),zdQ (hKl _)]
  rw[if_neg (by simp[AV.refsIn,AV.refsIn.go])]
def appC(n:Nat)(t:Tm)(ts:List Tm)(i:Nat):Heap:=[.box (some 4) (.pv (some 4) t.pv),.box (some 4) (.agg [(none,.pv none (.int .i64 0)),(none,.pv none (.int .i64 0)),(none,.pv none (.str [])),(none,.sl (some 4) (n+2) 0 0 0)]),.arr (some 4) [] false,.box (some 4) (.agg [(none,.pv none (.int .i64 t.kind)),(none,.pv none (.int .i64 t.n)),(none,.pv none (.str t.name)),(none,.sl (some 4) (n+5) i 0 i)]),.arr (some 4) [] false,.arr (some 4) (Tm.pvs (ts.take i)) false]
theorem zoR(a b:List Tm):Tm.occs (a++b)=Tm.occs a++Tm.occs b:=by
 induction a with
 |nil=>rfl
 |cons x r ih=>rw[List.cons_append,Tm.occs,Tm.occs,ih,List.append_assoc]
theorem zjq(t0:Tm):∀(t:Tm) (l L:List Int) (ext:Heap),t.fits=true->t.size<10000000->l.length+t.size<100000000->vads l t.occ <+: L->
  ∃v e,S 92 [t.av,.func (.func 93) [] [.ptr 4 0]] (gC t0 l++ext)=some (.ret v,gC t0 (vads l t.occ)++(ext++e))/\v.shp=some 4/\v.plain=true/\(∀H,v.own H=(v,H))/\
   (∃e2,AV.freeze deep v (gC t0 (vads l t.occ)++(ext++e))=some ((Tm.sub (cPos L) t).pv,gC t0 (vads l t.occ)++(ext++e2)))/\
   ∀H:Heap,(∀j,ext.length+5<=j->H[j]? =(gC t0 (vads l t.occ)++(ext++e))[j]?)->∃H2,AV.freeze deep v H=some ((Tm.sub (cPos L) t).pv,H2):=by
 intro t
 induction t using Tm.zry with
 |h t ih=>
  intro l L ext hf ht hl hp
  have hts:=t.size_eq
  have hlen:=Tm.zrx t.args
  obtain⟨n,hn⟩:∃n,n=ext.length+5:=⟨_,rfl⟩
  have h1:=fun X=>znu t0 t l (ext++X) (by omega)
  obtain⟨K,hK⟩:∃K:List Int->Heap,K=fun l=>gC t0 l++ext:=⟨_,rfl⟩
  have hKs:∀l,gC t0 l++ext=K l:=fun l=>by rw[hK]
  have hKl:∀l,(K l).length=n:=fun l=>by rw[<-hKs,zpo,hn]
  have hKa:∀l X,gC t0 l++(ext++X)=K l++X:=fun l X=>by rw[<-hKs,List.append_assoc]
  simp only[<-hn]
  simp only[List.append_assoc] at h1
  simp only[hKa] at h1
  simp only[hKa,hKs]
  rw[Tm.zrM] at hp ⊢
  by_cases hk:t.kind=0
  ·rw[if_pos hk] at hp ⊢
   have e1:vads l [t.n]=vadd l t.n:=rfl
   rw[e1] at hp ⊢
   have e2:Tm.sub (cPos L) t=tvar ((vadd l t.n).idxOf t.n:Nat):=by
    rw[Tm.zrP,if_pos hk]
    unfold cPos
    rw[znv (zoU l t.n) hp]
   rw[e2]
   generalize (((vadd l t.n).idxOf t.n:Nat):Int)=k at*
   generalize vadd l t.n=l2 at*
   refine⟨cagg k (n+6),[.box (some 4) (.pv (some 4) t.pv),.box (some 4) (cagg k (n+6)),.arr (some 4) [] false,.box (some 4) (.pv (some 4) t.pv),.box (some 4) (cagg k (n+6)),.arr (some 4) [] false,.arr (some 4) [] false],?_,rfl,rfl,fun _=>rfl,?_,fun H hH=> ?_⟩
   ·unfold cagg
    refine zaK rfl rfl rfl rfl ?_
    have hk':=eq_true hk
    have h2:=h1 [.box (some 4) (.pv (some 4) t.pv),.box (some 4) (cagg 0 (n+2)),.arr (some 4) [] false] (n+3) (by rw[hn];simp)
    simp only[Tm.av,cagg,List.cons_append,List.nil_append] at h2
    rw[hKl]
    simp -dsimp -implicitDefEqProofs only[go_sem,seval,↓reduceIte,Tm.av,cagg,zaE,hk',h2,zay,List.append_assoc,zam,zaj,zan,zak,Nat.add_assoc,List.length_append,hKl,getN (hKl _),zdP (hKl _),setN (hKl _),zdQ (hKl _),zag (Nat.le_add_right _ _)]
    rw[if_neg (by simp[AV.refsIn,AV.refsIn.go])]
   ·refine⟨[.box (some 4) (.pv (some 4) t.pv),.box (some 4) (cagg k (n+6)),.arr (some 4) [] false,.box (some 4) (.pv (some 4) t.pv),.box (some 4) (cagg k (n+6)),.arr (some 4) [] false,.arr (some 4) [] true],?_⟩
    rw[zfs (by rw[getN (hKl _)];rfl),setN (hKl _)]
    rfl
   ·exact⟨_,zfs (by rw[hH _ (by omega),getN (hKl _)];rfl)⟩
  ·rw[if_neg hk] at hp ⊢
   rw[zjr hk]
   obtain⟨ts',hts'⟩:∃ts',ts'=t.args.map (Tm.sub (cPos L)):=⟨_,rfl⟩
   have htl:ts'.length=t.args.length:=by rw[hts',List.length_map]
   rw[<-hts']
   refine⟨.agg [(none,.pv none (.int .i64 t.kind)),(none,.pv none (.int .i64 t.n)),(none,.pv none (.str t.name)),(none,.sl (some 4) (n+5) t.args.length 0 t.args.length)],
    [.box (some 4) (.pv (some 4) t.pv),.box (some 4) (.agg [(none,.pv none (.int .i64 t.kind)),(none,.pv none (.int .i64 t.n)),(none,.pv none (.str t.name)),(none,.sl (some 4) (n+5) t.args.length 0 t.args.length)]),.arr (some 4) [] false,.box (some 4) (.agg [(none,.pv none (.int .i64 t.kind)),(none,.pv none (.int .i64 t.n)),(none,.pv none (.str t.name)),(none,.sl (some 4) (n+5) t.args.length 0 t.args.length)]),.arr (some 4) [] false,.arr (some 4) (Tm.pvs ts') false],?_,rfl,rfl,fun _=>rfl,?_,?_⟩
   ·refine zaK rfl rfl rfl rfl ?_
    have hk':=eq_false hk
    have hb:zbg [(none,.pv none (.int .i64 0)),(none,.pv none (.int .i64 0)),(none,.pv none (.str [])),(none,.tsl (some 4) [])] [0,1,2] [.pv none (.int .i64 t.kind),.pv none (.int .i64 t.n),.pv none (.str t.name)]=some (.agg [(none,.pv none (.int .i64 t.kind)),(none,.pv none (.int .i64 t.n)),(none,.pv none (.str t.name)),(none,.tsl (some 4) [])]):=rfl
    have hle:∀k,n<=n+k:=fun k=>Nat.le_add_right _ _
    rw[hKl]
    simp -dsimp -implicitDefEqProofs only[go_sem,seval,↓reduceIte,Tm.av,zaE,za9,zaF,zaf,hk',Tm.pvs_len,hb,zag (Nat.le_add_right _ _),List.append_assoc,zam,zaj,zan,zak,Nat.add_assoc,List.length_append,hKl,getN (hKl _),zdP (hKl _),setN (hKl _),zdQ (hKl _)]
    refine zg0 (α:=Unit) t.args.length (fun _ _=>True) (fun i _=>⟨[(1,.func (.func 93) [] [.ptr 4 0]),(4,.ptr (n+1) 0),(5,.ptr (n+3) 0),(22,.pv none (.sl (some 4) (Tm.pvs t.args))),(23,.pv none (.int .i64 t.args.length)),(24,.pv none (.int .i64 i))],K (vads l (Tm.occs (t.args.take i)))++appC n t ts' i⟩) () ⟨trivial,?_⟩ ?_ ?_
    ·rw[List.take_zero]
     rfl
    ·rintro i - h -
     have hc:(i:Int)<(t.args.length:Int):=by omega
     obtain⟨u,hu⟩:∃u,t.args[i]? =some u:=⟨_,List.getElem?_eq_getElem h⟩
     have hum:=List.mem_of_getElem? hu
     have husz:=Tm.zrB hum
     have hst:=Tm.zrC hu
     have hle2:=Tm.zrz t.args (i+1)
     have hvl:=zkh (Tm.occs (t.args.take i)) l
     have hol:=Tm.zrR (t.args.take i)
     have hpre:vads (vads l (Tm.occs (t.args.take i))) u.occ <+: L:=by
      rw[<-zeN,<-Tm.zrL hu]
      refine List.IsPrefix.trans ?_ hp
      have e:=List.take_append_drop (i+1) t.args
      rw[<-e,zoR,zeN,e]
      exact zkc _ _
     obtain⟨v,e,hcall,hvs,hvp,_,⟨e2,hfz⟩,_⟩:=ih u hum (vads l (Tm.occs (t.args.take i))) L (ext++(appC n t ts' i++[.box (some 4) (.pv (some 4) u.pv),.arr (some 4) [] false])) (Tm.zrK hf hum) (by omega) (by omega) hpre
     rw[<-zeN,<-Tm.zrL hu] at hcall hfz
     simp only[List.append_assoc,hKa] at hcall hfz
     generalize vads l (Tm.occs (t.args.take (i+1)))=l2 at hcall hfz ⊢
     generalize vads l (Tm.occs (t.args.take i))=l1 at hcall hfz hvl ⊢
     have w2:IntKind.i64.wrap ((i:Int)+1)=((i+1:Nat):Int):=by rw[za5 (by omega) (by omega)];omega
     have hl:(Tm.pvs (ts'.take i)).length=i:=by rw[Tm.pvs_len,List.length_take];omega
     have hlim:i+1<=lim:=by unfold lim;omega
     have hus:ts'[i]? =some (Tm.sub (cPos L) u):=by rw[hts'];simp[hu]
     have hbs:zaW (some 4) (K l2++(appC n t ts' i++([.box (some 4) (.pv (some 4) u.pv),.arr (some 4) [] false]++e))) [v]=some (.tsl (some 4) [(Tm.sub (cPos L) u).pv],K l2++(appC n t ts' i++([.box (some 4) (.pv (some 4) u.pv),.arr (some 4) [] false]++e2))):=by
      simp only[zaW,zah,hfz,hvs,zaM,if_true]
     have hs1:∀(k k':List Int) (e e':Heap),zbP (K k++(appC n t ts' i++e)) (K k'++(appC n t ts' i++e')) (.ptr (n+3) 3)=true:=fun k k' e e'=>zfr (t:=t) (q:=n+5) (i:=i) (by rw[getN (hKl _)];rfl) (by rw[getN (hKl _)];rfl)
     simp only[Tm.av] at hcall
     simp only[appC,List.append_assoc,List.cons_append,List.nil_append] at hcall hbs hs1
     simp -dsimp -implicitDefEqProofs only[go_sem,seval,↓reduceIte,appC,hc,zat (Tm.pvs_get hu),zeh,List.take_succ_cons,List.drop_succ_cons,List.all_cons,List.all_nil,hcall,hbs,hs1,w2,hl,hlim,Tm.zrA hus,zag (Nat.le_add_right _ _),zbk (Nat.le_add_right _ _),List.append_assoc,zam,zaj,zan,zak,Nat.add_assoc,List.length_append,hKl,getN (hKl _),zdP (hKl _),setN (hKl _),zdQ (hKl _)]
     refine⟨(),?_⟩
     rw[zcs 6 (hKl _) rfl (by simp[AObj.refs,AV.ofComps,pures,AV.refsIn,AV.refsIn.go]) (by simp[AV.refsIn,AV.refsIn.gol])]
     rfl
    ·rintro - -
     have hc:¬(t.args.length:Int)<(t.args.length:Int):=by omega
     have htk:ts'.take t.args.length=ts':=List.take_of_length_le (by omega)
     simp -dsimp -implicitDefEqProofs only[go_sem,seval,↓reduceIte,appC,hc,List.take_length,htk,zay,zag (Nat.le_add_right _ _),zbk (Nat.le_add_right _ _),List.append_assoc,zam,zaj,zan,zak,Nat.add_assoc,List.length_append,hKl,getN (hKl _),zdP (hKl _),setN (hKl _),zdQ (hKl _)]
     rw[if_neg (by simp[AV.refsIn,AV.refsIn.go])]
   ·have e:∀l hp,AV.freeze (7+1) (.agg l) hp=match AV.freeze.go 7 l hp with|some (ps,hp')=>some (.agg ps,hp')|none=>none:=fun _ _=>rfl
    refine⟨[.box (some 4) (.pv (some 4) t.pv),.box (some 4) (.agg [(none,.pv none (.int .i64 t.kind)),(none,.pv none (.int .i64 t.n)),(none,.pv none (.str t.name)),(none,.sl (some 4) (n+5) t.args.length 0 t.args.length)]),.arr (some 4) [] false,.box (some 4) (.agg [(none,.pv none (.int .i64 t.kind)),(none,.pv none (.int .i64 t.n)),(none,.pv none (.str t.name)),(none,.sl (some 4) (n+5) t.args.length 0 t.args.length)]),.arr (some 4) [] false,.arr (some 4) (Tm.pvs ts') true],?_⟩
    show AV.freeze (7+1) (.agg _) _=_
    simp[e,AV.freeze.go,AV.freeze,getN (hKl _),setN (hKl _),htl,Tm.pvs_len,Tm.pv]
   ·intro H hH
    have h5:=hH (n+5) (by omega)
    rw[getN (hKl _)] at h5
    have e:∀l hp,AV.freeze (7+1) (.agg l) hp=match AV.freeze.go 7 l hp with|some (ps,hp')=>some (.agg ps,hp')|none=>none:=fun _ _=>rfl
    refine⟨H.set (n+5) (.arr (some 4) (Tm.pvs ts') true),?_⟩
    show AV.freeze (7+1) (.agg _) _=_
    simp only[List.getElem?_cons_succ,List.getElem?_cons_zero] at h5
    simp[e,AV.freeze.go,AV.freeze,h5,htl,Tm.pvs_len,Tm.pv]
def canR(t:Tm):Tm:=if t.valid=true then canT t else zt
theorem zoS(t:Tm)(hp:Heap)(ht:t.size<1000000000):S 46 [t.av] hp=some (.ret (canR t).av,hp):=by
 refine zaq rfl rfl rfl (zac [(some 4,t.pv)]) rfl ?_
 have h1:=fun hp=>zcA t hp ht
 unfold canR
 by_cases hv:t.valid=true
 ·rw[if_pos hv]
  have hsz:=valid_size hv
  obtain⟨v,e,h2,h3,h4,h5,_,h6⟩:=zjq t t [] (vads [] t.occ) [] (valid_fits hv) (by omega) (by simp;omega) (List.prefix_refl _)
  rw[hv] at h1
  simp only[Tm.av,gC,cagg,List.cons_append,List.nil_append] at h1 h2
  have hmk:∀(a0 a1 a2:AObj),zaA none 0 [a0,a1,a2,.map none [],.box none (.pv none .nilmap)] [.ptr 4 0,.map 3]=some (.undef,[a0,a1,a2,.map none [],.box none (.map 3)]):=fun _ _ _=>rfl
  have e0:zcc (posF 0 [])=[]:=rfl
  rw[e0] at h2
  have hst:∀(a0 a2 a3 a4:AObj),zaA (some 4) 0 (a0::.box (some 4) (.agg [(none,.pv none (.int .i64 0)),(none,.pv none (.int .i64 0)),(none,.pv none (.str [])),(none,.sl (some 4) 2 0 0 0)])::a2::a3::a4::e) [.ptr 1 0,v]=some (.undef,a0::.box (some 4) v::a2::a3::a4::e):=fun _ _ _ _=>by
   simp[zaA,astore,h3,h4,h5]
  have hfr:∀(a0 a1 a2 a3 a4:AObj),Am.frozen (canT t).av v (a0::a1::a2::a3::a4::e):=fun a0 a1 a2 a3 a4=>by
   obtain⟨H2,k⟩:=h6 (a0::a1::a2::a3::a4::e) fun j hj=>by
    match j,hj with
    |j+5,_=>rfl
   exact zid h3 h4 k
  simp -dsimp -implicitDefEqProofs only[go_sem,seval,↓reduceIte,Tm.av,h1,h2,hst,hmk,zag (Nat.zero_le _)]
  exact hfr _ _ _ _ _
 ·rw[if_neg hv]
  have hv':t.valid=false:=by simpa using hv
  rw[hv'] at h1
  simp only[Tm.av] at h1
  simp -dsimp -implicitDefEqProofs only[go_sem,seval,↓reduceIte,Tm.av,h1,zag (Nat.zero_le _),zt]
  exact⟨_,rfl⟩
def tP(k n:Int)(s:List UInt8)(l:List PV):PV:=.agg [(none,.int .i64 k),(none,.int .i64 n),(none,.str s),(none,.sl (some 4) l)]
theorem fok0:FactsOk (find tab) prim []:=.nil
def fq0:List (Sh × PV):=[((some 4),(tP 3 0 [97,116,111,109] [(tP 2 0 [102,111,111] [])]))]
def fv0:AV:=(.tuple [(.pv none (.sl (some 4) [(tP 3 0 [97,116,111,109] [(tP 2 0 [102,111,111] [])])])),(.pv (some 4) (tP 0 0 [] [])),(.pv none (.int .i64 (0)))])
theorem ff0:resV (sem (find tab) prim .fn 20 (pvs fq0) [])=some fv0:=zba (n:=60) fok0 (by kernel_rfl)
def fK1:Facts:=(20,fq0,fv0)::[]
theorem fok1:FactsOk (find tab) prim fK1:=.cons (by kernel_rfl) ff0 fok0
def fq1:List (Sh × PV):=[((some 4),(tP 3 0 [97,116,111,109] [(tP 2 0 [102,111,111] [])])),((some 4),(tP 3 0 [97,116,111,109] [(tP 2 0 [102,111,111] [])]))]
def fv1:AV:=(.pv none (.bool true))
theorem ff1:resV (sem (find tab) prim .fn 18 (pvs fq1) [])=some fv1:=zba (n:=60) fok1 (by kernel_rfl)
def fK2:Facts:=(18,fq1,fv1)::fK1
theorem fok2:FactsOk (find tab) prim fK2:=.cons (by kernel_rfl) ff1 fok1
def fq2:List (Sh × PV):=[((some 4),(tP 3 0 [97,116,111,109] [(tP 0 0 [] [])]))]
def fv2:AV:=(.tuple [(.pv none (.sl (some 4) [])),(.pv (some 4) (tP 0 0 [] [])),(.pv none (.int .i64 (0)))])
theorem ff2:resV (sem (find tab) prim .fn 20 (pvs fq2) [])=some fv2:=zba (n:=60) fok2 (by kernel_rfl)
def fK3:Facts:=(20,fq2,fv2)::fK2
theorem fok3:FactsOk (find tab) prim fK3:=.cons (by kernel_rfl) ff2 fok2
def fq3:List (Sh × PV):=[((some 4),(tP 3 0 [97,116,111,109] [(tP 0 0 [] [])]))]
def fv3:AV:=(.pv none (.bool true))
theorem ff3:resV (sem (find tab) prim .fn 31 (pvs fq3) [])=some fv3:=zba (n:=60) fok3 (by kernel_rfl)
def fK4:Facts:=(31,fq3,fv3)::fK3
theorem fok4:FactsOk (find tab) prim fK4:=.cons (by kernel_rfl) ff3 fok3
def fq4:List (Sh × PV):=[((some 4),(tP 3 0 [99,111,109,112,97,114,101] [(tP 0 0 [] []),(tP 3 0 [102] [(tP 0 1 [] [])]),(tP 1 3 [] [])]))]
def fv4:AV:=(.tuple [(.pv none (.sl (some 4) [(tP 3 0 [99,111,109,112,97,114,101] [(tP 2 0 [62] []),(tP 3 0 [102] [(tP 0 1 [] [])]),(tP 1 3 [] [])])])),(.pv (some 4) (tP 0 0 [] [])),(.pv none (.int .i64 (0)))])
theorem ff4:resV (sem (find tab) prim .fn 20 (pvs fq4) [])=some fv4:=zba (n:=60) fok4 (by kernel_rfl)
def fK5:Facts:=(20,fq4,fv4)::fK4
theorem fok5:FactsOk (find tab) prim fK5:=.cons (by kernel_rfl) ff4 fok4
def fq5:List (Sh × PV):=[((some 4),(tP 3 0 [99,111,109,112,97,114,101] [(tP 0 0 [] []),(tP 3 0 [102] [(tP 0 1 [] [])]),(tP 1 3 [] [])])),((some 4),(tP 3 0 [99,111,109,112,97,114,101] [(tP 2 0 [62] []),(tP 3 0 [102] [(tP 0 1 [] [])]),(tP 1 3 [] [])]))]
def fv5:AV:=(.pv none (.bool true))
theorem ff5:resV (sem (find tab) prim .fn 18 (pvs fq5) [])=some fv5:=zba (n:=60) fok5 (by kernel_rfl)
def fK6:Facts:=(18,fq5,fv5)::fK5
theorem fok6:FactsOk (find tab) prim fK6:=.cons (by kernel_rfl) ff5 fok5
def fq6:List (Sh × PV):=[((some 4),(tP 3 0 [102,117,110,99,116,111,114] [(tP 0 0 [] []),(tP 2 0 [102] []),(tP 1 2 [] [])]))]
def fv6:AV:=(.tuple [(.pv none (.sl (some 4) [(tP 3 0 [102,117,110,99,116,111,114] [(tP 3 0 [102] [(tP 0 1 [] []),(tP 0 2 [] [])]),(tP 2 0 [102] []),(tP 1 2 [] [])])])),(.pv (some 4) (tP 0 0 [] [])),(.pv none (.int .i64 (0)))])
theorem ff6:resV (sem (find tab) prim .fn 20 (pvs fq6) [])=some fv6:=zba (n:=60) fok6 (by kernel_rfl)
def fK7:Facts:=(20,fq6,fv6)::fK6
theorem fok7:FactsOk (find tab) prim fK7:=.cons (by kernel_rfl) ff6 fok6
def fq7:List (Sh × PV):=[((some 4),(tP 3 0 [102,117,110,99,116,111,114] [(tP 0 0 [] []),(tP 2 0 [102] []),(tP 1 2 [] [])])),((some 4),(tP 3 0 [102,117,110,99,116,111,114] [(tP 3 0 [102] [(tP 0 1 [] []),(tP 0 2 [] [])]),(tP 2 0 [102] []),(tP 1 2 [] [])]))]
def fv7:AV:=(.pv none (.bool true))
theorem ff7:resV (sem (find tab) prim .fn 18 (pvs fq7) [])=some fv7:=zba (n:=60) fok7 (by kernel_rfl)
def fK8:Facts:=(18,fq7,fv7)::fK7
theorem fok8:FactsOk (find tab) prim fK8:=.cons (by kernel_rfl) ff7 fok7
def fq8:List (Sh × PV):=[((some 4),(tP 3 0 [102,117,110,99,116,111,114] [(tP 0 0 [] []),(tP 2 0 [102] []),(tP 1 (-1) [] [])]))]
def fv8:AV:=(.tuple [(.pv none (.sl (some 4) [])),(.pv (some 4) (.agg [((some 4),(tP 3 0 [101,114,114,111,114] [(tP 3 0 [100,111,109,97,105,110,95,101,114,114,111,114] [(tP 2 0 [110,111,116,95,108,101,115,115,95,116,104,97,110,95,122,101,114,111] []),(tP 1 (-1) [] [])]),(tP 2 0 [91,93] [])]))])),(.pv none (.int .i64 (8)))])
theorem ff8:resV (sem (find tab) prim .fn 20 (pvs fq8) [])=some fv8:=zba (n:=60) fok8 (by kernel_rfl)
def fK9:Facts:=(20,fq8,fv8)::fK8
theorem fok9:FactsOk (find tab) prim fK9:=.cons (by kernel_rfl) ff8 fok8
def fq9:List (Sh × PV):=[((some 4),(tP 3 0 [102,117,110,99,116,111,114] [(tP 0 0 [] []),(tP 2 0 [102] []),(tP 1 (-1) [] [])])),((some 4),(tP 3 0 [100,111,109,97,105,110,95,101,114,114,111,114] [(tP 2 0 [110,111,116,95,108,101,115,115,95,116,104,97,110,95,122,101,114,111] []),(tP 1 (-1) [] [])]))]
def fv9:AV:=(.pv none (.bool true))
theorem ff9:resV (sem (find tab) prim .fn 37 (pvs fq9) [])=some fv9:=zba (n:=60) fok9 (by kernel_rfl)
def fK10:Facts:=(37,fq9,fv9)::fK9
theorem zq2:FactsOk (find tab) prim fK10:=.cons (by kernel_rfl) ff9 fok9
def fq10:List (Sh × PV):=[((some 4),(tP 3 0 [99,111,112,121,95,116,101,114,109] [(tP 3 0 [102] [(tP 0 0 [] []),(tP 0 1 [] []),(tP 0 0 [] [])]),(tP 0 2 [] [])]))]
def fv10:AV:=(.tuple [(.pv none (.sl (some 4) [(tP 3 0 [99,111,112,121,95,116,101,114,109] [(tP 3 0 [102] [(tP 0 0 [] []),(tP 0 1 [] []),(tP 0 0 [] [])]),(tP 3 0 [102] [(tP 0 3 [] []),(tP 0 4 [] []),(tP 0 3 [] [])])])])),(.pv (some 4) (tP 0 0 [] [])),(.pv none (.int .i64 (0)))])
theorem ff10:resV (sem (find tab) prim .fn 20 (pvs fq10) [])=some fv10:=zba (n:=60) zq2 (by kernel_rfl)
def fK11:Facts:=(20,fq10,fv10)::fK10
theorem zq3:FactsOk (find tab) prim fK11:=.cons (by kernel_rfl) ff10 zq2
def fq11:List (Sh × PV):=[((some 4),(tP 3 0 [99,111,112,121,95,116,101,114,109] [(tP 3 0 [102] [(tP 0 0 [] []),(tP 0 1 [] []),(tP 0 0 [] [])]),(tP 0 2 [] [])])),((some 4),(tP 3 0 [99,111,112,121,95,116,101,114,109] [(tP 3 0 [102] [(tP 0 0 [] []),(tP 0 1 [] []),(tP 0 0 [] [])]),(tP 3 0 [102] [(tP 0 3 [] []),(tP 0 4 [] []),(tP 0 3 [] [])])]))]
def fv11:AV:=(.pv none (.bool true))
theorem ff11:resV (sem (find tab) prim .fn 18 (pvs fq11) [])=some fv11:=zba (n:=60) zq3 (by kernel_rfl)
def fK12:Facts:=(18,fq11,fv11)::fK11
theorem zq4:FactsOk (find tab) prim fK12:=.cons (by kernel_rfl) ff11 zq3
def fq12:List (Sh × PV):=[((some 4),(tP 3 0 [115,111,114,116] [(tP 3 0 [46] [(tP 2 0 [99] []),(tP 3 0 [46] [(tP 1 1 [] []),(tP 3 0 [46] [(tP 2 0 [98] []),(tP 3 0 [46] [(tP 1 1 [] []),(tP 2 0 [91,93] [])])])])]),(tP 0 0 [] [])]))]
def fv12:AV:=(.tuple [(.pv none (.sl (some 4) [(tP 3 0 [115,111,114,116] [(tP 3 0 [46] [(tP 2 0 [99] []),(tP 3 0 [46] [(tP 1 1 [] []),(tP 3 0 [46] [(tP 2 0 [98] []),(tP 3 0 [46] [(tP 1 1 [] []),(tP 2 0 [91,93] [])])])])]),(tP 3 0 [46] [(tP 1 1 [] []),(tP 3 0 [46] [(tP 2 0 [98] []),(tP 3 0 [46] [(tP 2 0 [99] []),(tP 2 0 [91,93] [])])])])])])),(.pv (some 4) (tP 0 0 [] [])),(.pv none (.int .i64 (0)))])
theorem ff12:resV (sem (find tab) prim .fn 20 (pvs fq12) [])=some fv12:=zba (n:=60) zq4 (by kernel_rfl)
def fK13:Facts:=(20,fq12,fv12)::fK12
theorem zq5:FactsOk (find tab) prim fK13:=.cons (by kernel_rfl) ff12 zq4
def fq13:List (Sh × PV):=[((some 4),(tP 3 0 [115,111,114,116] [(tP 3 0 [46] [(tP 2 0 [99] []),(tP 3 0 [46] [(tP 1 1 [] []),(tP 3 0 [46] [(tP 2 0 [98] []),(tP 3 0 [46] [(tP 1 1 [] []),(tP 2 0 [91,93] [])])])])]),(tP 0 0 [] [])])),((some 4),(tP 3 0 [115,111,114,116] [(tP 3 0 [46] [(tP 2 0 [99] []),(tP 3 0 [46] [(tP 1 1 [] []),(tP 3 0 [46] [(tP 2 0 [98] []),(tP 3 0 [46] [(tP 1 1 [] []),(tP 2 0 [91,93] [])])])])]),(tP 3 0 [46] [(tP 1 1 [] []),(tP 3 0 [46] [(tP 2 0 [98] []),(tP 3 0 [46] [(tP 2 0 [99] []),(tP 2 0 [91,93] [])])])])]))]
def fv13:AV:=(.pv none (.bool true))
theorem ff13:resV (sem (find tab) prim .fn 18 (pvs fq13) [])=some fv13:=zba (n:=60) zq5 (by kernel_rfl)
def fK14:Facts:=(18,fq13,fv13)::fK13
theorem zq6:FactsOk (find tab) prim fK14:=.cons (by kernel_rfl) ff13 zq5
def fq14:List (Sh × PV):=[((some 4),(tP 3 0 [108,101,110,103,116,104] [(tP 0 0 [] []),(tP 0 1 [] [])]))]
def fv14:AV:=(.tuple [(.pv none (.sl (some 4) [])),(.pv (some 4) (.agg [((some 4),(tP 3 0 [101,114,114,111,114] [(tP 2 0 [105,110,115,116,97,110,116,105,97,116,105,111,110,95,101,114,114,111,114] []),(tP 2 0 [91,93] [])]))])),(.pv none (.int .i64 (8)))])
theorem ff14:resV (sem (find tab) prim .fn 20 (pvs fq14) [])=some fv14:=zba (n:=60) zq6 (by kernel_rfl)
def fK15:Facts:=(20,fq14,fv14)::fK14
theorem zq7:FactsOk (find tab) prim fK15:=.cons (by kernel_rfl) ff14 zq6
def fq15:List (Sh × PV):=[((some 4),(tP 3 0 [108,101,110,103,116,104] [(tP 0 0 [] []),(tP 0 1 [] [])])),((some 4),(tP 2 0 [105,110,115,116,97,110,116,105,97,116,105,111,110,95,101,114,114,111,114] []))]
def fv15:AV:=(.pv none (.bool true))
theorem ff15:resV (sem (find tab) prim .fn 37 (pvs fq15) [])=some fv15:=zba (n:=60) zq7 (by kernel_rfl)
def fK16:Facts:=(37,fq15,fv15)::fK15
theorem zru:FactsOk (find tab) prim fK16:=.cons (by kernel_rfl) ff15 zq7
theorem zrv:yes (zef fK16 (find tab) prim 60 .fn 13 [] [])=true:=by kernel_rfl
theorem zrw:sem (find tab) prim .fn 13 [] []=some (.ret (.pv none (.bool true)),[]):=zeL zru 60 _ _ _ _ _ (zqK zrv)
def strs(l:List (List UInt8)):List PV:=l.map .str
theorem zoZ(l:List (List UInt8)):(strs l).length=l.length:=by simp[strs]
theorem zke{l:List (List UInt8)}{i:Nat}{s:List UInt8}(h:l[i]? =some s):(strs l)[i]? =some (.str s):=by simp[strs,h]
def idxI:List (List UInt8)->List UInt8->Nat->Int
 |[],_,_=> -1
 |x::r,s,k=>if s=x then k else idxI r s (k+1)
theorem zfw:∀(l:List (List UInt8)) (s:List UInt8) (k:Nat),0<=idxI l s k↔s∈l
 |[],s,k=>by simp[idxI]
 |x::r,s,k=>by
  unfold idxI
  split
  ·rename_i h;simp[h]
  ·rename_i h;rw[zfw r s (k+1)];simp[h]
theorem zo0(l:List (List UInt8))(s:List UInt8)(hl:l.length<=1000000)(hp:Heap):S 85 [.pv none (.sl none (strs l)),.pv none (.str s)] hp=some (.ret (.pv none (.int .i64 (idxI l s 0))),hp):=by
 refine zaq rfl rfl rfl (zac [(none,.sl none (strs l)),(none,.str s)]) rfl ?_
 simp -dsimp -implicitDefEqProofs only[go_sem,seval,↓reduceIte,zoZ]
 refine zg0 (α:=Unit) l.length (fun i _=>idxI l s 0=idxI (l.drop i) s i) (fun i _=>⟨[(0,.pv none (.sl none (strs l))),(1,.pv none (.str s)),(7,.pv none (.int .i64 l.length)),(8,.pv none (.int .i64 i))],[]⟩) () ⟨rfl,rfl⟩ ?_ ?_
 ·rintro i - h hinv
  have hc:(i:Int)<(l.length:Int):=by omega
  obtain⟨u,hu⟩:∃u,l[i]? =some u:=⟨_,List.getElem?_eq_getElem h⟩
  have w2:IntKind.i64.wrap ((i:Int)+1)=((i+1:Nat):Int):=by rw[za5 (by omega) (by omega)];omega
  have hd:l.drop i=u::l.drop (i+1):=by
   have hlt:=(List.getElem?_eq_some_iff.1 hu).1
   rw[List.drop_eq_getElem_cons hlt]
   congr 1
   exact(List.getElem?_eq_some_iff.1 hu).2
  rw[hd,idxI] at hinv
  by_cases hs:s=u
  ·rw[if_pos hs] at hinv
   subst hs
   simp -dsimp -implicitDefEqProofs only[go_sem,seval,↓reduceIte,hc,zat (zke hu),hinv]
  ·rw[if_neg hs] at hinv
   simp -dsimp -implicitDefEqProofs only[go_sem,seval,↓reduceIte,hc,zat (zke hu),hs,w2]
   exact⟨(),hinv⟩
 ·rintro - hinv
  have hc:¬(l.length:Int)<(l.length:Int):=by omega
  rw[List.drop_length,idxI] at hinv
  simp -dsimp -implicitDefEqProofs only[go_sem,seval,↓reduceIte,hc,hinv]
theorem zeC(l:List (List UInt8))(s:List UInt8)(hl:l.length<=1000000)(hp:Heap):S 41 [.tsl none (strs l),.pv none (.str s)] hp=some (.ret (.pv none (.bool (decide (s∈l)))),hp):=by
 refine zaq (ps:=[(none,.sl none (strs l)),(none,.str s)]) rfl rfl rfl rfl rfl ?_
 have h:=zo0 l s hl
 have e:decide (0<=idxI l s 0)=decide (s∈l):=by simp[zfw]
 simp -dsimp -implicitDefEqProofs only[go_sem,seval,↓reduceIte,h,e]
def names1:List (List UInt8):=[[118,97,114],[110,111,110,118,97,114],[97,116,111,109],[105,110,116,101,103,101,114],[97,116,111,109,105,99],[99,111,109,112,111,117,110,100],[99,97,108,108,97,98,108,101],[105,115,95,108,105,115,116],[103,114,111,117,110,100]]
def names2a:List (List UInt8):=[[61,61],[92,61,61],[64,60],[64,61,60],[64,62],[64,62,61]]
def zdm:List (List UInt8):=[[92,61],[61,46,46],[99,111,112,121,95,116,101,114,109],[116,101,114,109,95,118,97,114,105,97,98,108,101,115],[108,101,110,103,116,104],[109,115,111,114,116],[115,111,114,116],[107,101,121,115,111,114,116]]
def zkf:List (List UInt8):=[[99,111,109,112,97,114,101],[102,117,110,99,116,111,114],[97,114,103],[98,101,116,119,101,101,110]]
def zbZ(n:Int):List (List UInt8):=if n=1 then names1 else if n=2 then names2a++zdm else if n=3 then zkf else[]
theorem znA:∃rows:List (List UInt8 × PV),rows.map (·.1)=names1/\S 39 [] []=some (.ret (.map 0),[.map none (rows.map fun x=>(.str x.1,x.2))]):=by
 refine⟨[(names1.getD 0 [],.func (.func 71)),(names1.getD 1 [],.func (.func 72)),(names1.getD 2 [],.func (.func 73)),(names1.getD 3 [],.func (.func 74)),(names1.getD 4 [],.func (.func 75)),(names1.getD 5 [],.func (.func 47)),(names1.getD 6 [],.func (.func 76)),(names1.getD 7 [],.func (.func 77)),(names1.getD 8 [],.func (.func 78))],by decide,sem_iff.2 ⟨60,by kernel_rfl⟩⟩
theorem zfx:∃rows:List (List UInt8 × PV),rows.map (·.1)=names2a/\S 40 [] []=some (.ret (.map 0),[.map none (rows.map fun x=>(.str x.1,x.2))]):=by
 refine⟨[(names2a.getD 0 [],.func (.func 79)),(names2a.getD 1 [],.func (.func 80)),(names2a.getD 2 [],.func (.func 81)),(names2a.getD 3 [],.func (.func 82)),(names2a.getD 4 [],.func (.func 83)),(names2a.getD 5 [],.func (.func 84))],by decide,sem_iff.2 ⟨60,by kernel_rfl⟩⟩
theorem zgg(s:List UInt8):∀rows:List (List UInt8 × PV),∃r,afind true (.str s) (rows.map fun x=>(.str x.1,x.2))=some r/\(r.isSome=decide (s∈rows.map (·.1)))
 |[]=>⟨none,rfl,rfl⟩
 |x::l=>by
  obtain⟨r,h1,h2⟩:=zgg s l
  by_cases h:s=x.1
  ·exact⟨some x.2,by simp[afind,PV.same,h],by simp[h]⟩
  ·exact⟨r,by simp[afind,PV.same,h,h1],by rw[h2];simp[h]⟩
theorem zfy(s:List UInt8)(z:AV)(rows:List (List UInt8 × PV))(hp:Heap)(h:hp[0]? =some (.map none (rows.map fun x=>(.str x.1,x.2)))):∃u,zaR true none z true hp [.map 0,.pv none (.str s)]=some (.tuple [u,.pv none (.bool (decide (s∈rows.map (·.1))))]):=by
 obtain⟨r,h1,h2⟩:=zgg s rows
 rw[<-h2]
 cases r with
 |none=>exact⟨z,zbo h h1⟩
 |some p=>exact⟨.pv none p,zct h h1⟩
theorem zqY(s:List UInt8)(n:Int)(hp:Heap):S 11 [.pv none (.str s),.pv none (.int .i64 n)] hp=some (.ret (.pv none (.bool (decide (s∈zbZ n)))),hp):=by
 refine zaq rfl rfl rfl (zac [(none,.str s),(none,.int .i64 n)]) rfl ?_
 by_cases h1:n=1
 ·subst h1
  obtain⟨rows,hr,ht⟩:=znA
  obtain⟨u,hu⟩:=zfy s (.pv none .nilfunc) rows [.map none (rows.map fun x=>(.str x.1,x.2))] rfl
  rw[hr] at hu
  have e:zbZ 1=names1:=rfl
  rw[e]
  simp -dsimp -implicitDefEqProofs only[go_sem,seval,↓reduceIte,ht,hu]
 ·by_cases h2:n=2
  ·subst h2
   obtain⟨rows,hr,ht⟩:=zfx
   obtain⟨u,hu⟩:=zfy s (.pv none .nilfunc) rows [.map none (rows.map fun x=>(.str x.1,x.2))] rfl
   rw[hr] at hu
   have e:zbZ 2=names2a++zdm:=rfl
   rw[e]
   have hc:∀hp,S 41 [.tsl none [.str [92,61],.str [61,46,46],.str [99,111,112,121,95,116,101,114,109],.str [116,101,114,109,95,118,97,114,105,97,98,108,101,115],.str [108,101,110,103,116,104],.str [109,115,111,114,116],.str [115,111,114,116],.str [107,101,121,115,111,114,116]],.pv none (.str s)] hp=some (.ret (.pv none (.bool (decide (s∈zdm)))),hp):=zeC zdm s (by decide)
   by_cases hs:s∈names2a
   ·have e2:decide (s∈names2a++zdm)=true:=by simp[hs]
    simp -dsimp -implicitDefEqProofs only[go_sem,seval,↓reduceIte,ht,hu,hs,e2]
   ·have e2:decide (s∈names2a++zdm)=decide (s∈zdm):=by simp[hs]
    simp -dsimp -implicitDefEqProofs only[go_sem,seval,↓reduceIte,ht,hu,hs,e2,hc]
  ·by_cases h3:n=3
   ·subst h3
    have hc:∀hp,S 41 [.tsl none [.str [99,111,109,112,97,114,101],.str [102,117,110,99,116,111,114],.str [97,114,103],.str [98,101,116,119,101,101,110]],.pv none (.str s)] hp=some (.ret (.pv none (.bool (decide (s∈zkf)))),hp):=zeC zkf s (by decide)
    have e:zbZ 3=zkf:=rfl
    rw[e]
    simp -dsimp -implicitDefEqProofs only[go_sem,seval,↓reduceIte,hc]
   ·have e:zbZ n=[]:=by simp[zbZ,h1,h2,h3]
    rw[e]
    simp -dsimp -implicitDefEqProofs only[go_sem,seval,↓reduceIte,h1,h2,h3]
    simp
def outD(F:FuncId->Option AFn)(prim:FuncId->Option za1)(rs:List RSlot)(s:Nat)(v:AV)(st:St)(p:PV)(st2:St):Prop:=
 ∃g fs cs,st.fr.look s=some (.func (.func g) fs cs)/\∃r hp' v',sem F prim .dfr g (.pv none p::(fs++cs)) st2.hp=some (.ret r,hp')/\zau ⟨st2.fr,hp'⟩ rs=some v'/\Am.frozen v v' hp'
def outK(F:FuncId->Option AFn)(prim:FuncId->Option za1)(rs:List RSlot)(s:Nat)(v:AV)(st:St):AExit->St->Prop
 | .normal,st2=>outD F prim rs s v st .niliface st2
 | .ret,st2=>outD F prim rs s v st .niliface st2
 | .panic w,st2=>outD F prim rs s v st w st2
 | .exit _,_=>False
def dfrK(F:FuncId->Option AFn)(prim:FuncId->Option za1)(rs:List RSlot)(s:Nat)(c2:ACode)(v:AV):AExit->St->Prop
 | .normal,st=>(st.fr.look s).isSome=true/\W (sem F prim) (sloop F prim) 0 c2 st (outK F prim rs s v st)
 | .ret,st=>endK rs (Am.frozen v) .ret st
 |_,_=>False
theorem zbf{F:FuncId->Option AFn}{prim:FuncId->Option za1}{rs:List RSlot}{s:Nat}{c2:ACode}{v:AV}{st:St}:dfrK F prim rs s c2 v .normal st=((st.fr.look s).isSome=true/\W (sem F prim) (sloop F prim) 0 c2 st (outK F prim rs s v st)):=rfl
theorem zb9{F:FuncId->Option AFn}{prim:FuncId->Option za1}{rs:List RSlot}{s:Nat}{c2:ACode}{v:AV}{st:St}:dfrK F prim rs s c2 v .ret st=endK rs (Am.frozen v) .ret st:=rfl
theorem zcx{F:FuncId->Option AFn}{prim:FuncId->Option za1}{rs:List RSlot}{s:Nat}{v:AV}{st st2:St}:outK F prim rs s v st .ret st2=outD F prim rs s v st .niliface st2:=rfl
theorem zbt{F:FuncId->Option AFn}{prim:FuncId->Option za1}{rs:List RSlot}{s:Nat}{v:AV}{st st2:St}{w:PV}:outK F prim rs s v st (.panic w) st2=outD F prim rs s v st w st2:=rfl
theorem zie{F:FuncId->Option AFn}{prim:FuncId->Option za1}{f:FuncId}{fn:AFn}{args:List AV}{ps:List (Sh × PV)}{hp:Heap}{v:AV}{s:Nat}{c2:ACode}(hp0:prim f=none)(hf:F f=some fn)(hm:fn.heapMode=false)(hz:zah args hp=some (ps,hp))(hn:(pvs ps).length=fn.nparams)(hmo:fn.more=[(.dfr s,c2)])
  (h:W (sem F prim) (sloop F prim) 0 fn.code ⟨params 0 (pvs ps),[]⟩ (dfrK F prim fn.results s c2 v))(hr:fn.rcv=none:=by rfl):sem F prim .fn f args hp=some (.ret v,hp):=by
 rw[zhT]
 unfold za2
 rw[hp0,hf]
 have hl:([]:Heap).length=0:=rfl
 suffices hB:∃v' hp2,abody (sem F prim) (sloop F prim) fn (pvs ps) []=some (.ret v',hp2)/\Am.frozen v v' hp2 by
  obtain⟨v',hp2,h1,hp3,h2⟩:=hB
  simp only[hr,Option.isSome_none,hm,Bool.false_eq_true,if_false,hz,h1,h2]
  cases v.scalar <;> rfl
 unfold abody
 rw[if_neg (by simpa using hn),hmo]
 simp only[hl]
 unfold W at h
 split at h
 ·rename_i e st1 he
  cases e with
  |normal=>
   obtain⟨-,hW⟩:=h
   unfold W at hW
   split at hW
   ·rename_i e2 st2 he2
    have fin:∀p:Option PV,outD F prim fn.results s v st1 (p.getD .niliface) st2->∀e:AExit,(e=.normal\/e=.ret->p=none)->(∀w,e=.panic w->p=some w)->(∀i,e≠.exit i)->e=e2->∃v' hp2,aleave (sem F prim) fn (apieces (sem F prim) (sloop F prim) 0 [(.dfr s,c2)] fn.code ⟨params 0 (pvs ps),[]⟩ [])=some (.ret v',hp2)/\Am.frozen v v' hp2:=by
     rintro p ⟨g,fs,cs,k1,r,hp',v',k2,k3,k4⟩ e n1 n2 n3 rfl
     refine⟨v',hp',?_,k4⟩
     have k5:atop (sem F prim) (.dfr s) st1 []=some (.normal,st1,[.func (.func g) fs cs]):=by simp[atop,k1]
     have ka:apieces (sem F prim) (sloop F prim) 0 [(.dfr s,c2)] fn.code ⟨params 0 (pvs ps),[]⟩ []=some (e,st2,[.func (.func g) fs cs]):=by
      simp only[apieces,he,k5,he2]
     have ku:∀p':Option PV,p'=p->aunwind (sem F prim) [.func (.func g) fs cs] p' st2.hp=some (none,hp'):=by
      rintro p' rfl
      simp only[aunwind,zaU,k2]
     rw[ka]
     cases e with
     |normal=>simp only[aleave,ku none (n1 (.inl rfl)).symm,aresult,k3]
     |ret=>simp only[aleave,ku none (n1 (.inr rfl)).symm,aresult,k3]
     |panic w=>simp only[aleave,ku (some w) (n2 w rfl).symm,aresult,k3]
     |exit i=>exact absurd rfl (n3 i)
    cases e2 with
    |normal=>exact fin none hW .normal (fun _=>rfl) (fun w e=>by cases e) (fun i e=>by cases e) rfl
    |ret=>exact fin none hW .ret (fun _=>rfl) (fun w e=>by cases e) (fun i e=>by cases e) rfl
    |panic w=>exact fin (some w) hW (.panic w) (fun e=>by rcases e with e|e <;> cases e) (fun w e=>by cases e;rfl) (fun i e=>by cases e) rfl
    |exit i=>exact hW.elim
   ·exact hW.elim
  |ret=>
   rw[zb9,zeK] at h
   cases hr:zau st1 fn.results with
   |none=>rw[hr] at h;exact h.elim
   |some u=>
    rw[hr] at h
    exact⟨u,st1.hp,by simp only[aleave,apieces,he,aunwind,aresult,hr],h⟩
  |exit i=>exact h.elim
  |panic v=>exact h.elim
 ·exact h.elim
def zqQ(n:Nat)(H:Heap):AExit->St->Prop
 | .normal,st=>st.hp.take n=H
 | .ret,st=>st.hp.take n=H
 |_,_=>False
theorem zif{n:Nat}{H:Heap}{st:St}:zqQ n H .normal st=(st.hp.take n=H):=rfl
theorem zoW{F:FuncId->Option AFn}{prim:FuncId->Option za1}{g:FuncId}{fn:AFn}{ws:List AV}{hp H:Heap}{s:Sh}{p:PV}{t:Nat}(hf:F g=some fn)(hr:fn.rcv=some t)(hmo:fn.more=[])(hn:ws.length=fn.nparams)
  (h:W (sem F prim) (sloop F prim) hp.length fn.code ⟨(t,.pv s p)::params 0 ws,hp⟩ (zqQ hp.length H)):sem F prim .dfr g (.pv s p::ws) hp=some (.ret (.tuple []),H):=by
 rw[zpI]
 unfold adefer
 simp only[hf,hr,hmo,hn,ne_eq,not_true_eq_false,if_false]
 unfold W at h
 split at h
 ·rename_i e st he
  rw[he]
  cases e with
  |normal=>rw[<-h]
  |ret=>rw[<-h]
  |exit i=>exact h.elim
  |panic v=>exact h.elim
 ·exact h.elim
theorem zny{sh:Sh}{hp:Heap}(l:List (Sh × AV)):wBox sh hp [.agg l]=if some (total l)=sh then zna sh hp.length (zai l (hp++[.box sh (.agg l)])) else none:=by
 simp only[wBox,AV.plain,AV.shp,true_and,AV.own]
 rfl
structure IsT(v:AV)(hp:Heap)(l:List Tm):Prop where
 len:sLen [v]=some (.pv none (.int .i64 l.length))
 idx:∀(i:Nat) (u:Tm),l[i]? =some u->∃p,(∀(s:Sh) (k:IntKind),zbp (some 4) [v,.pv s (.int k i)]=some p)/\aload (some 4) hp p=some (.pv (some 4) u.pv)
def zdU(ts:List Tm)(e:Int):List Tm × Int:=if e≠0 then([],e) else if 1000<ts.length then([],2) else if ts.all Tm.valid=true then(ts,0) else([],2)
def runV(g:Tm)(k:Nat):PV:=.agg [(some 4,g.pv),(none,.int .i64 (k:Int))]
def hE(g:Tm):Heap:=[.box (some 4) (.pv (some 4) g.pv),.box none (.sl (some 4) 2 0 0 0),.arr (some 4) [] false,.box (some 4) (cagg 0 4),.arr (some 4) [] false,.box none (.pv none (.int .i64 0)),.box (some 5) (.pv (some 5) (runV g (vads [] g.occ).length))]
theorem zjp(t:Tm)(hp:Heap):S 47 [t.av] hp=some (.ret (.pv none (.bool (decide (t.kind=3)))),hp):=by
 refine zaq rfl rfl rfl (zac [(some 4,t.pv)]) rfl ?_
 simp -dsimp -implicitDefEqProofs only[go_sem,seval,↓reduceIte,Tm.av,zaE]
theorem zfp(a0:AObj)(s:AV)(r:Heap):zaA none 0 (a0::.box none s::r) [.ptr 1 0,.tsl (some 4) []]=some (.undef,a0::.box none (.sl (some 4) (r.length+2) 0 0 0)::(r++[.arr (some 4) [] false])):=by
 simp[zaA,astore,AV.shp,AV.plain,AV.own,zbW]
theorem zeg(a0:AObj)(s:AV)(r:Heap):zca none 0 (a0::.box none s::r) [.ptr 1 0,.tsl (some 4) [],.ptr 5 0]=some (.undef,a0::.box none (.sl (some 4) (r.length+2) 0 0 0)::(r++[.arr (some 4) [] false])):=by
 simp[zca,astore,AV.shp,AV.plain,AV.own,zbW,zfM]
def zagg:AV:=.agg [(none,.pv none (.int .i64 0)),(none,.pv none (.int .i64 0)),(none,.pv none (.str [])),(none,.tsl (some 4) [])]
theorem zdk(a0 a1 a2:AObj)(s:AV)(r:Heap):zaA (some 4) 0 (a0::a1::a2::.box (some 4) s::r) [.ptr 3 0,zagg]=some (.undef,a0::a1::a2::.box (some 4) (cagg 0 (r.length+4))::(r++[.arr (some 4) [] false])):=by
 simp[zaA,astore,AV.shp,AV.plain,AV.own,zbW,zagg,cagg,zai,zdj,total,Sh.size]
theorem zc7(a0 a1 a2:AObj)(s:AV)(r:Heap):zca (some 4) 0 (a0::a1::a2::.box (some 4) s::r) [.ptr 3 0,zagg,.ptr 5 0]=some (.undef,a0::a1::a2::.box (some 4) (cagg 0 (r.length+4))::(r++[.arr (some 4) [] false])):=by
 simp[zca,astore,AV.shp,AV.plain,AV.own,zbW,zagg,cagg,zai,zdj,total,Sh.size,zfM]
theorem zoM(H:Heap):sem (find tab) prim .dfr 48 [.pv none .niliface,.ptr 1 0,.ptr 3 0,.ptr 5 0] H=some (.ret (.tuple []),H):=by
 refine zoW (t:=6) rfl rfl rfl rfl ?_
 have hin:zeQ true [.pv none .niliface]=some (.pv none (.bool false)):=rfl
 simp -dsimp -implicitDefEqProofs only[go_sem,seval,↓reduceIte,hin,zif,List.append_assoc,zam,zaj,zan,zak,Nat.add_assoc,List.length_append]
 simp
theorem zg3{fr:Fr}{hp0 H:Heap}{es:List PV}{n q1 q2:Nat}{b1 b2:Bool}{e:Int}(hf:fr.look 33=some (.func (.func 48) [] [.ptr 1 0,.ptr 3 0,.ptr 5 0]))(h1:H[1]? =some (.box none (.sl (some 4) q1 n 0 n)))(h3:H[3]? =some (.box (some 4) (cagg 0 q2)))(h5:H[5]? =some (.box none (.pv none (.int .i64 e))))(he:H[q1]? =some (.arr (some 4) es b1))(hn:es.length=n)(hz:H[q2]? =some (.arr (some 4) [] b2))(hq:q1≠q2):
  outD (find tab) prim [(2,some none),(3,some (some 4)),(4,some none)] 33 (.tuple [.pv none (.sl (some 4) es),.pv (some 4) zt.pv,.pv none (.int .i64 e)]) ⟨fr,hp0⟩ .niliface ⟨[(2,.ptr 1 0),(3,.ptr 3 0),(4,.ptr 5 0)],H⟩:=by
 refine⟨_,[],_,hf,.tuple [],H,.tuple [.sl (some 4) q1 n 0 n,cagg 0 q2,.pv none (.int .i64 e)],zoM H,?_,?_⟩
 ·simp[zau,zaN,zcT,Fr.look,h1,h3,h5,cagg,aload,zgU,AV.shp,total,Sh.size]
 ·have hz':(H.set q1 (.arr (some 4) es true))[q2]? =some (.arr (some 4) [] b2):=by rw[List.getElem?_set_ne hq];exact hz
  have e1:AV.freeze deep (.sl (some 4) q1 n 0 n) H=some (.sl (some 4) es,H.set q1 (.arr (some 4) es true)):=by
   simp[AV.freeze,deep,he,hn]
  have e2:AV.freeze deep (cagg 0 q2) (H.set q1 (.arr (some 4) es true))=some (zt.pv,(H.set q1 (.arr (some 4) es true)).set q2 (.arr (some 4) [] true)):=by
   have e:∀l hp,AV.freeze (7+1) (.agg l) hp=match AV.freeze.go 7 l hp with|some (ps,hp')=>some (.agg ps,hp')|none=>none:=fun _ _=>rfl
   show AV.freeze (7+1) (.agg _) _=_
   simp[e,AV.freeze.go,AV.freeze,hz']
   rfl
  have e3:∀X,AV.freeze deep (.pv none (.int .i64 e)) X=some (.int .i64 e,X):=fun _=>rfl
  refine⟨(H.set q1 (.arr (some 4) es true)).set q2 (.arr (some 4) [] true),?_⟩
  have e4:(cagg 0 q2).shp=some 4:=rfl
  simp[AV.freezeRes,zah,e1,e2,e3,pvs,e4,AV.shp]
  exact rfl
theorem zfq{Γ:Oracle}{b:Nat}{vs:List AV}{hp:Heap}{K:AV->Heap->Prop}{Kp:PV->Heap->Prop}(sh:Sh):opK (aOp Γ b (.storex sh) vs hp) K Kp=zbE (zcb sh b hp vs) K:=by
 show opK (match zcb sh b hp vs with|some (v,hp')=>some (OpRes.val v hp')|none=>none) K Kp=_
 cases zcb sh b hp vs with
 |none=>rfl
 |some r=>cases r;rfl
def kC(a0 x6:AObj)(ext:Heap)(j:Nat)(es:List PV):Heap:=a0::.box none (.sl (some 4) 2 j 0 j)::.arr (some 4) es false::.box (some 4) (cagg 0 4)::.arr (some 4) [] false::.box none (.pv none (.int .i64 0))::x6::ext
theorem zqL{a0 x6:AObj}{ext:Heap}{j:Nat}{es:List PV}(h:es.length=j)(hj:j<1000000)(p:PV)(X:Heap):zaS (some 4) (kC a0 x6 ext j es++X) [.sl (some 4) 2 j 0 j,.tsl (some 4) [p]]=some (.sl (some 4) 2 (j+1) 0 (j+1),kC a0 x6 ext j (es++[p])++X):=by
 have hlim:j+1<=lim:=by unfold lim;omega
 simp[zaS,aappend,elems,kC,h,hlim]
theorem zrt{a0 x6:AObj}{ext:Heap}{j:Nat}{es:List PV}(h:es.length=j)(p q:PV)(X:Heap):zaA (some 4) 0 (kC a0 x6 ext j (es++[p])++X) [.eptr (some 4) 2 (j+1) (0+j) 0,.pv (some 4) q]=some (.undef,kC a0 x6 ext j (es++[q])++X):=by
 have e:AV.freeze deep (.pv (some 4) q) (kC a0 x6 ext j (es++[p])++X)=some (q,kC a0 x6 ext j (es++[p])++X):=rfl
 simp only[zaA,astore,AV.shp,e]
 simp[kC,h]
theorem zqM{a0 x6:AObj}{ext:Heap}{j:Nat}{es:List PV}(q:PV)(s:Sh)(r v i o:Nat)(X:Heap):zcb none 0 (kC a0 x6 ext j es++X) [.ptr 1 0,.sl (some 4) 2 (j+1) 0 (j+1),.eptr s r v i o,.pv (some 4) q]=some (.undef,kC a0 x6 ext (j+1) es++X):=by
 simp[zcb,astore,AV.shp,AV.plain,AV.own,kC]
theorem zqN{a0 x6:AObj}{ext X:Heap}(hp:ext <+: X){j:Nat}{es:List PV}(fr:Fr)(Y:Heap):∃Z,ext <+: Z/\collect (ext.length+7) 0 fr (kC a0 x6 X j es++Y)=kC a0 x6 Z j es:=by
 have e:kC a0 x6 X j es++Y=kC a0 x6 (X++Y) j es:=rfl
 rw[e]
 unfold collect
 split
 ·refine⟨ext,List.prefix_refl _,?_⟩
  obtain⟨Y2,rfl⟩:=hp
  rw[List.append_assoc]
  simp only[kC,List.take_succ_cons,List.take_left]
 ·exact⟨X++Y,hp.trans (List.prefix_append _ _),rfl⟩
theorem zoN(g:Tm)(hp:Heap)(hv:g.valid=true)(hc:canT g=g)(hk:g.kind=3)(hn:g.name∈zbZ g.args.length)(ts:List Tm)(e:Int)(lv:AV)(x6:AObj)(ext:Heap)
  (he:S 50 [.ptr 6 0] (hE g)=some (.ret (.tuple [lv,.pv none (.int .i64 e)]),(hE g).take 6++x6::ext))(hL:∀H:Heap,(∀j x,6<=j->((hE g).take 6++x6::ext)[j]? =some x->H[j]? =some x)->IsT lv H ts)(hlt:ts.length<100000000)(hts:∀t∈ts,t.size<1000000):
  S 20 [g.av] hp=some (.ret (.tuple [.pv none (.sl (some 4) (Tm.pvs (zdU ts e).1)),zt.av,.pv none (.int .i64 (zdU ts e).2)]),hp):=by
 refine zie rfl rfl rfl (zac [(some 4,g.pv)]) rfl rfl ?_
 have hsz:=valid_size hv
 have h1:=fun hp=>zcA g hp (by omega)
 have h2:=fun hp=>zoS g hp (by omega)
 have h3:=fun hp=>zo5 g g hp (by omega) (by omega)
 have h4:=fun hp=>zjp g hp
 have h5:=fun hp=>zqY g.name g.args.length hp
 have h6:=fun hp=>zpb g hv hp
 have hcr:canR g=g:=by unfold canR;rw[if_pos hv,hc]
 have hsm:same g g=true:=by simp[same,hv,Tm.cmp_zero]
 rw[hcr] at h2
 rw[hsm] at h3
 rw[hv] at h1
 have hn':decide (g.name∈zbZ g.args.length)=true:=decide_eq_true hn
 rw[hn'] at h5
 have hk':decide (g.kind=3)=true:=decide_eq_true hk
 rw[hk'] at h4
 have hal:∀a0:AObj,zb1 none (.tsl (some 4) []) [a0] []=some (.ptr 1 0,[a0,.box none (.sl (some 4) 2 0 0 0),.arr (some 4) [] false]):=fun _=>rfl
 have hnx:(ints (vads [] g.occ)).length=(vads [] g.occ).length:=zeM _
 simp only[Tm.av] at h1 h2 h3 h4 h5 h6
 have hbu:∀k:Nat,zbg [(some 4,.agg [(none,.pv none (.int .i64 0)),(none,.pv none (.int .i64 0)),(none,.pv none (.str [])),(none,.tsl (some 4) [])]),(none,.pv none (.int .i64 0))] [0,1] [.pv (some 4) g.pv,.pv none (.int .i64 (k:Int))]=some (.pv (some 5) (runV g k)):=fun _=>rfl
 simp only[hE,cagg,List.take_succ_cons,List.take_zero,List.cons_append,List.nil_append] at he
 have hz0:zbg [(none,.pv none (.int .i64 0)),(none,.pv none (.int .i64 0)),(none,.pv none (.str [])),(none,.tsl (some 4) [])] [] []=some zagg:=rfl
 by_cases h0:e=0
 rotate_left
 ·have hr:zdU ts e=([],e):=by simp[zdU,h0]
  rw[hr]
  simp -dsimp -implicitDefEqProofs only[go_sem,seval,↓reduceIte,Tm.av,hal,hbu,hz0,h0,h1,h2,h3,h4,h5,h6,hnx,he,zfp,zeg,zdk,zc7,zaF,zaf,Tm.pvs_len,zag (Nat.zero_le _),zay,zb9,zbf,zcx,zbt,List.append_assoc,zam,zaj,zan,zak,Nat.add_assoc,List.length_append]
  exact⟨rfl,zg3 (es:=[]) (b1:=false) (b2:=false) rfl rfl rfl rfl (by simp) rfl (by simp) (by omega)⟩
 subst h0
 have hlen:=(hL ((hE g).take 6++x6::ext) fun _ _ _ h=>h).len
 by_cases hg:(1000:Int)<(ts.length:Int)
 ·have hr:zdU ts 0=([],2):=by
   have:1000<ts.length:=by omega
   simp[zdU,this]
  rw[hr]
  simp -dsimp -implicitDefEqProofs only[go_sem,seval,↓reduceIte,Tm.av,hal,hbu,hz0,hg,hlen,h1,h2,h3,h4,h5,h6,hnx,he,zfp,zeg,zdk,zc7,zaF,zaf,Tm.pvs_len,zag (Nat.zero_le _),zay,zb9,zbf,zcx,zbt,List.append_assoc,zam,zaj,zan,zak,Nat.add_assoc,List.length_append]
  exact⟨rfl,zg3 (es:=[]) (b1:=false) (b2:=false) rfl rfl rfl rfl (by simp) rfl (by simp) (by omega)⟩
 have hg':¬1000<ts.length:=by omega
 have hr:zdU ts 0=if ts.all Tm.valid=true then(ts,0) else([],2):=by simp[zdU,hg']
 simp -dsimp -implicitDefEqProofs only[go_sem,seval,↓reduceIte,Tm.av,hal,hbu,hz0,hg,hlen,h1,h2,h3,h4,h5,h6,hnx,he,zfp,zeg,zdk,zc7,zaF,zaf,Tm.pvs_len,zag (Nat.zero_le _),zay,zb9,zbf,zcx,zbt,List.append_assoc,zam,zaj,zan,zak,Nat.add_assoc,List.length_append]
 refine⟨rfl,?_⟩
 refine zg0 (α:=Heap) ts.length (fun i X=>ext <+: X/\∀t∈ts.take i,t.valid=true) (fun i X=>⟨[(2,.ptr 1 0),(3,.ptr 3 0),(4,.ptr 5 0),(53,lv),(54,.pv none (.int .i64 ts.length)),(55,.pv none (.int .i64 i))],kC (.box (some 4) (.pv (some 4) g.pv)) x6 X i (Tm.pvs (ts.take i))⟩) ext ⟨⟨List.prefix_refl _,?_⟩,?_⟩ ?_ ?_
 ·intro t ht
  simp at ht
 ·rfl
 ·rintro i X0 h ⟨hpre,hinv⟩
  obtain⟨K,hK⟩:∃K:Nat->List PV->Heap,K=kC (.box (some 4) (.pv (some 4) g.pv)) x6 X0:=⟨_,rfl⟩
  obtain⟨n,hn2⟩:∃n,n=X0.length+7:=⟨_,rfl⟩
  have hKl:∀j es,(K j es).length=n:=fun j es=>by rw[hK,hn2];rfl
  have hK1:∀j es X,(K j es++X)[1]? =some (.box none (.sl (some 4) 2 j 0 j)):=fun j es X=>by rw[hK];rfl
  have hKK:kC (.box (some 4) (.pv (some 4) g.pv)) x6 X0 i (Tm.pvs (ts.take i))=K i (Tm.pvs (ts.take i)):=by rw[hK]
  rw[hKK]
  have hc:(i:Int)<(ts.length:Int):=by omega
  obtain⟨u,hu⟩:∃u,ts[i]? =some u:=⟨_,List.getElem?_eq_getElem h⟩
  have w2:IntKind.i64.wrap ((i:Int)+1)=((i+1:Nat):Int):=by rw[za5 (by omega) (by omega)];omega
  have husz:=hts u (List.mem_of_getElem? hu)
  have h7:=fun hp=>zcA u hp (by omega)
  simp only[Tm.av] at h7
  have hl:(Tm.pvs (ts.take i)).length=i:=by rw[Tm.pvs_len,List.length_take];omega
  obtain⟨p,hp1,hp2⟩:=(hL (K i (Tm.pvs (ts.take i))) fun j x hj hx=>by
   rw[hK]
   match j,hj with
   |6,_=>exact hx
   |j+7,_=>
    obtain⟨Y,hY⟩:=hpre
    have h1:ext[j]? =some x:=hx
    show X0[j]? =some x
    rw[<-hY,List.getElem?_append_left (zbX h1),h1]).idx i u hu
  have happ:=fun p X=>zqL (a0:=.box (some 4) (.pv (some 4) g.pv)) (x6:=x6) (ext:=X0) hl (by omega) p X
  have hste:=fun p q X=>zrt (a0:=.box (some 4) (.pv (some 4) g.pv)) (x6:=x6) (ext:=X0) hl p q X
  have hstx:=fun(j:Nat) (es:List PV) (q:PV) s r v i o X=>zqM (a0:=.box (some 4) (.pv (some 4) g.pv)) (x6:=x6) (ext:=X0) (j:=j) (es:=es) q s r v i o X
  rw[<-hK] at happ hste hstx
  have hwk:zav [.agg [(none,.pv none (.int .i64 0)),(none,.pv none (.int .i64 0)),(none,.pv none (.str [])),(none,.tsl (some 4) [])]]=some [(some 4,zt.pv)]:=rfl
  have hia:zbp (some 4) [.sl (some 4) 2 (i+1) 0 (i+1),.pv none (.int .i64 i)]=some (.eptr (some 4) 2 (i+1) (0+i) 0):=zee (by omega)
  rw[Nat.zero_add] at hia
  simp only[Nat.zero_add] at hste
  have htk:Tm.pvs (ts.take i)++[u.pv]=Tm.pvs (ts.take (i+1)):=Tm.zrA hu
  by_cases hvu:u.valid=true
  ·have h8:=fun hp=>zoQ u hp hvu (by omega)
   simp only[Tm.av] at h8
   simp -dsimp -implicitDefEqProofs only[go_sem,seval,↓reduceIte,zfq,Tm.av,hc,h7,h8,hvu,w2,hp1,hp2,hwk,htk,hia,hK1,happ,hste,hstx,hKl,zfp,zeg,zdk,zc7,zaF,zaf,Tm.pvs_len,zag (Nat.zero_le _),zay,zb9,zbf,zcx,zbt,List.append_assoc,zam,zaj,zan,zak,Nat.add_assoc,List.length_append,getN (hKl _ _),zdP (hKl _ _),setN (hKl _ _),zdQ (hKl _ _)]
   have hc2:∀fr Y,∃Z,ext <+: Z/\collect (ext.length+7) 0 fr (K (i+1) (Tm.pvs (ts.take (i+1)))++Y)=kC (.box (some 4) (.pv (some 4) g.pv)) x6 Z (i+1) (Tm.pvs (ts.take (i+1))):=fun fr Y=>by
    rw[hK]
    exact zqN hpre fr Y
   obtain⟨Z,hZ1,hZ⟩:=hc2 [(2,.ptr 1 0),(3,.ptr 3 0),(4,.ptr 5 0),(53,lv),(54,.pv none (.int .i64 ts.length)),(55,.pv none (.int .i64 (i+1:Nat)))] [.box (some 4) (.pv (some 4) u.pv),.arr (some 4) [] false]
   refine⟨Z,⟨hZ1,fun t ht=> ?_⟩,?_⟩
   ·rw[List.take_add_one,hu,List.mem_append] at ht
    rcases ht with ht|ht
    ·exact hinv t ht
    ·simp at ht
     rw[ht]
     exact hvu
   ·rw[hZ]
  ·have hvu':u.valid=false:=by simpa using hvu
   have hall:ts.all Tm.valid=false:=by
    rw[List.all_eq_false]
    exact⟨u,List.mem_of_getElem? hu,hvu⟩
   rw[hr,hall]
   simp -dsimp -implicitDefEqProofs only[go_sem,seval,↓reduceIte,zfq,Tm.av,hc,h7,hvu',hz0,hp1,hp2,hK1,hKl,zfp,zeg,zdk,zc7,zaF,zaf,Tm.pvs_len,zag (Nat.zero_le _),zay,zb9,zbf,zcx,zbt,List.append_assoc,zam,zaj,zan,zak,Nat.add_assoc,List.length_append,getN (hKl _ _),zdP (hKl _ _),setN (hKl _ _),zdQ (hKl _ _)]
   simp -dsimp -implicitDefEqProofs only[hK,kC,go_sem,seval,↓reduceIte,zfp,zdk,zb9,zbf,zcx,zbt,List.append_assoc,zam,zaj,zan,zak,Nat.add_assoc,List.length_append]
   exact zg3 (es:=[]) (b1:=false) (b2:=false) rfl rfl rfl rfl (by simp) rfl (by simp) (by omega)
 ·rintro X0 ⟨hpre,hinv⟩
  have hc:¬(ts.length:Int)<(ts.length:Int):=by omega
  rw[List.take_length] at hinv ⊢
  have hall:ts.all Tm.valid=true:=List.all_eq_true.2 hinv
  rw[hr,if_pos hall]
  simp -dsimp -implicitDefEqProofs only[go_sem,seval,↓reduceIte,zfq,Tm.av,hc,hz0,kC,zfp,zeg,zdk,zc7,zaF,zaf,Tm.pvs_len,zag (Nat.zero_le _),zbk (Nat.zero_le _),zay,zb9,zbf,zcx,zbt,List.append_assoc,zam,zaj,zan,zak,Nat.add_assoc,List.length_append]
  exact zg3 (b1:=false) (b2:=false) rfl rfl rfl rfl (by simp) (Tm.pvs_len _) (by simp) (by omega)
theorem zpc{Γ:Oracle}{b:Nat}{vs:List AV}{hp:Heap}{K:AV->Heap->Prop}{Kp:PV->Heap->Prop}(neg:Bool):opK (aOp Γ b (.slnil neg) vs hp) K Kp=valK (zeR neg vs) fun v=>K v hp:=by
 show opK (match(match zeR neg vs with|some v=>some (v,hp)|none=>none) with|some (v,hp')=>some (OpRes.val v hp')|none=>none) K Kp=_
 cases zeR neg vs <;> rfl
theorem zfB(g:Tm)(k:Nat):PV.part deep (runV g k) 0 (some 4)=some g.pv:=by cases g;rfl
theorem znL(g:Tm)(k:Nat):PV.part deep (runV g k) 3 none=some (.sl (some 4) (Tm.pvs g.args)):=by cases g;rfl
theorem znM(g:Tm)(k:Nat):PV.part deep (runV g k) 2 none=some (.str g.name):=by cases g;rfl
theorem zpd(g:Tm)(s:Sh)(q v o n:Nat):AV.upd deep (.pv (some 4) g.pv) 3 none (.sl s q v o n)=some (.agg [(none,.pv none (.int .i64 g.kind)),(none,.pv none (.int .i64 g.n)),(none,.pv none (.str g.name)),(none,.sl s q v o n)]):=by cases g;rfl
theorem zki(t:Tm)(hp:Heap):S 71 [t.av] hp=some (.ret (.pv none (.bool (decide (t.kind=0)))),hp):=by
 refine zaq rfl rfl rfl (zac [(some 4,t.pv)]) rfl ?_
 simp -dsimp -implicitDefEqProofs only[go_sem,seval,↓reduceIte,Tm.av,zaE]
theorem zkj(t:Tm)(hp:Heap):S 74 [t.av] hp=some (.ret (.pv none (.bool (decide (t.kind=1)))),hp):=by
 refine zaq rfl rfl rfl (zac [(some 4,t.pv)]) rfl ?_
 simp -dsimp -implicitDefEqProofs only[go_sem,seval,↓reduceIte,Tm.av,zaE]
theorem zkk(v:AV)(hp:Heap):S 122 [.pv none (.bool false),v] hp=some (.ret (.tuple []),hp):=by
 refine zaK rfl rfl rfl rfl ?_
 simp -dsimp -implicitDefEqProofs only[go_sem,seval,↓reduceIte,List.append_assoc,zam,zaj,zan,zak,Nat.add_assoc,List.length_append]
 exact List.take_length
theorem zkl(s:List UInt8)(t:Tm)(hp:Heap):S 123 [.pv none (.str s),t.av] hp=some (.ret (.func (.func 139) [] [.ptr hp.length 0,.ptr (hp.length+1) 0]),hp++[.box none (.pv none (.str s)),.box (some 4) (.pv (some 4) t.pv)]):=by
 refine zaK rfl rfl rfl rfl ?_
 simp -dsimp -implicitDefEqProofs only[go_sem,seval,↓reduceIte,Tm.av,List.append_assoc,zam,zaj,zan,zak,Nat.add_assoc,List.length_append]
 rw[if_neg (by simp[AV.refsIn,AV.refsIn.gol])]
theorem zik(es:List PV)(hne:0<es.length)(hl:es.length<=10)(hp:Heap):S 95 [.pv none (.sl (some 4) es)] hp=some (.ret (.sl (some 4) (hp.length+1) es.length 0 es.length),hp++[.arr (some 4) [] false,.arr (some 4) es false]):=by
 refine zaK rfl rfl rfl rfl ?_
 have hlim:es.length<=lim:=by unfold lim;omega
 have happ:∀H:Heap,zaS (some 4) H [.tsl (some 4) [],.pv none (.sl (some 4) es)]=some (.sl (some 4) H.length es.length 0 es.length,H++[.arr (some 4) es false]):=fun H=>by
  have hne':¬es=[]:=fun e=>by rw[e] at hne;simp at hne
  simp[zaS,aappend,elems,hlim,zbW,hne']
 have hni:zeR false [.pv none (.sl (some 4) es)]=some (.pv none (.bool false)):=by
  cases es with
  |nil=>simp at hne
  |cons x r=>rfl
 simp -dsimp -implicitDefEqProofs only[go_sem,seval,↓reduceIte,zpc,hni,hlim,happ,zbF (sh:=some 4) (by decide),List.append_assoc,zam,zaj,zan,zak,Nat.add_assoc,List.length_append]
 rw[if_neg (by simp[AV.refsIn])]
def setA(g:Tm)(i:Nat)(u:Tm):Tm:=.mk g.kind g.n g.name (g.args.set i u)
theorem zqh(l:List Tm)(i:Nat)(u:Tm):(Tm.pvs l).set i u.pv=Tm.pvs (l.set i u):=by
 simp[Tm.zrH,List.map_set]
def naV(u:Tm):AV:=.agg [(none,.pv none (.int .i64 u.kind)),(none,.pv none (.int .i64 u.n)),(none,.pv none (.str u.name)),(none,.tsl (some 4) [])]
def nagg(u:Tm)(q:Nat):AV:=.agg [(none,.pv none (.int .i64 u.kind)),(none,.pv none (.int .i64 u.n)),(none,.pv none (.str u.name)),(none,.sl (some 4) q 0 0 0)]
theorem zjw{u:Tm}(ha:u.args=[]){q:Nat}{H:Heap}{z:Bool}(h:H[q]? =some (.arr (some 4) [] z)):AV.freeze deep (nagg u q) H=some (u.pv,H.set q (.arr (some 4) [] true)):=by
 have e:∀l hp,AV.freeze (7+1) (.agg l) hp=match AV.freeze.go 7 l hp with|some (ps,hp')=>some (.agg ps,hp')|none=>none:=fun _ _=>rfl
 show AV.freeze (7+1) (.agg _) _=_
 simp[e,AV.freeze.go,AV.freeze,h]
 cases u with
 |mk a b c d=>
  have hd:d=[]:=ha
  subst hd
  rfl
def wJa(n:Nat)(g:Tm)(i:Nat)(u:Tm):Heap:=[.box (some 4) (nagg u (n+1)),.arr (some 4) [] true,.arr (some 4) [] false,.box (some 4) (.agg [(none,.pv none (.int .i64 g.kind)),(none,.pv none (.int .i64 g.n)),(none,.pv none (.str g.name)),(none,.sl (some 4) (n+6) g.args.length 0 g.args.length)]),.arr (some 4) [] false,.arr (some 4) [] false,.arr (some 4) (Tm.pvs (g.args.set i u)) true,.arr (some 4) [(setA g i u).pv] false]
theorem zpe(g:Tm)(k:Nat)(i:Nat)(u:Tm)(hua:u.args=[])(hi:i<g.args.length)(hl:g.args.length<=8)(hp:Heap)(r:Nat)(hr:hp[r]? =some (.box (some 5) (.pv (some 5) (runV g k)))):
  S 101 [.ptr r 0,.pv none (.int .i64 i),naV u] hp=some (.ret (.sl (some 4) (hp.length+7) 1 0 1),hp++wJa hp.length g i u):=by
 refine zaK rfl rfl rfl rfl ?_
 have h1:=fun hp=>zik (Tm.pvs g.args) (by rw[Tm.pvs_len];omega) (by rw[Tm.pvs_len];omega) hp
 have hlt:=zbX hr
 have hia:∀q,zbp (some 4) [.sl (some 4) q g.args.length 0 g.args.length,.pv none (.int .i64 i)]=some (.eptr (some 4) q g.args.length i 0):=fun q=>by
  have:=zee (sh:=some 4) (s':=none) (k:=.i64) (r:=q) (v:=g.args.length) (o:=0) hi
  rw[Nat.zero_add] at this
  exact this
 have hil:i<(Tm.pvs g.args).length:=by rw[Tm.pvs_len];exact hi
 have hst:∀(x0 x2 x3 x4 x5:AObj),zaA (some 4) hp.length (hp++[x0,.arr (some 4) [] false,x2,x3,x4,x5,.arr (some 4) (Tm.pvs g.args) false]) [.eptr (some 4) (hp.length+6) g.args.length i 0,nagg u (hp.length+1)]=some (.undef,hp++[x0,.arr (some 4) [] true,x2,x3,x4,x5,.arr (some 4) ((Tm.pvs g.args).set i u.pv) false]):=fun x0 x2 x3 x4 x5=>by
  have e:=zjw (u:=u) hua (q:=hp.length+1) (H:=hp++[x0,.arr (some 4) [] false,x2,x3,x4,x5,.arr (some 4) (Tm.pvs g.args) false]) (z:=false) (by rw[getN rfl];rfl)
  have e4:(nagg u (hp.length+1)).shp=some 4:=rfl
  simp only[zaA,astore,e4,e]
  simp[getN rfl,setN rfl,Tm.pvs_len,hi,hil]
 have hbs:∀(x0 x1 x2 x3 x4 x5:AObj),zfD (some 4) (hp++[x0,x1,x2,x3,x4,x5,.arr (some 4) ((Tm.pvs g.args).set i u.pv) false]) [.agg [(none,.pv none (.int .i64 g.kind)),(none,.pv none (.int .i64 g.n)),(none,.pv none (.str g.name)),(none,.sl (some 4) (hp.length+6) g.args.length 0 g.args.length)]]=some (.sl (some 4) (hp.length+7) 1 0 1,hp++[x0,x1,x2,x3,x4,x5,.arr (some 4) (Tm.pvs (g.args.set i u)) true,.arr (some 4) [(setA g i u).pv] false]):=fun x0 x1 x2 x3 x4 x5=>by
  have e:∀l hp,AV.freeze (7+1) (.agg l) hp=match AV.freeze.go 7 l hp with|some (ps,hp')=>some (.agg ps,hp')|none=>none:=fun _ _=>rfl
  have e2:AV.freeze deep (.agg [(none,.pv none (.int .i64 g.kind)),(none,.pv none (.int .i64 g.n)),(none,.pv none (.str g.name)),(none,.sl (some 4) (hp.length+6) g.args.length 0 g.args.length)]) (hp++[x0,x1,x2,x3,x4,x5,.arr (some 4) (Tm.pvs (g.args.set i u)) false])=some ((setA g i u).pv,hp++[x0,x1,x2,x3,x4,x5,.arr (some 4) (Tm.pvs (g.args.set i u)) true]):=by
   show AV.freeze (7+1) (.agg _) _=_
   simp[e,AV.freeze.go,AV.freeze,getN rfl,setN rfl,Tm.pvs_len]
   rfl
  rw[zqh]
  simp only[zfD,zah,e2]
  simp[AV.shp,total,Sh.size,zaM]
 have hr':∀X,(hp++X)[r]? =some (.box (some 5) (.pv (some 5) (runV g k))):=fun X=>by rw[zcQ hlt,hr]
 simp only[nagg] at hst
 simp -dsimp -implicitDefEqProofs only[go_sem,seval,↓reduceIte,Tm.av,naV,h1,hr,hr',hia,hst,hbs,zfB,zpd,zaf,Tm.pvs_len,zbk (Nat.le_add_right _ _),zaw,zbF (sh:=some 4) (by decide),zny,zag (Nat.le_add_right _ _),zay,List.append_assoc,zam,zaj,zan,zak,Nat.add_assoc,List.length_append]
 rw[if_neg (by simp[AV.refsIn])]
 rfl
def tint(n:Int):Tm:=.mk 1 n [] []
def tstr(s:List UInt8)(l:List Tm):Tm:=.mk 3 0 s l
theorem n_ok(n:Int)(hp:Heap):S 30 [.pv none (.int .i64 n)] hp=some (.ret (tint n).av,hp):=by
 refine zaq rfl rfl rfl (zac [(none,.int .i64 n)]) rfl ?_
 have hbu:zbg [(none,.pv none (.int .i64 0)),(none,.pv none (.int .i64 0)),(none,.pv none (.str [])),(none,.tsl (some 4) [])] [0,1] [.pv none (.int .i64 1),.pv none (.int .i64 n)]=some (.agg [(none,.pv none (.int .i64 1)),(none,.pv none (.int .i64 n)),(none,.pv none (.str [])),(none,.tsl (some 4) [])]):=rfl
 simp -dsimp -implicitDefEqProofs only[go_sem,seval,↓reduceIte,hbu]
 exact⟨_,rfl⟩
theorem x_ok(n:Int)(hp:Heap):S 28 [.pv none (.int .i64 n)] hp=some (.ret (tvar n).av,hp):=by
 refine zaq rfl rfl rfl (zac [(none,.int .i64 n)]) rfl ?_
 have hbu:zbg [(none,.pv none (.int .i64 0)),(none,.pv none (.int .i64 0)),(none,.pv none (.str [])),(none,.tsl (some 4) [])] [1] [.pv none (.int .i64 n)]=some (.agg [(none,.pv none (.int .i64 0)),(none,.pv none (.int .i64 n)),(none,.pv none (.str [])),(none,.tsl (some 4) [])]):=rfl
 simp -dsimp -implicitDefEqProofs only[go_sem,seval,↓reduceIte,hbu]
 exact⟨_,rfl⟩
theorem zqZ(s:List UInt8)(l:List Tm):W Z L 0 (g19).code ⟨params 0 (pvs [(none,.str s),(none,.sl (some 4) (Tm.pvs l))]),[]⟩ (endK (g19).results (Am.frozen (tstr s l).av)):=by
 have hbu:zbg [(none,.pv none (.int .i64 0)),(none,.pv none (.int .i64 0)),(none,.pv none (.str [])),(none,.tsl (some 4) [])] [0,2,3] [.pv none (.int .i64 3),.pv none (.str s),.pv none (.sl (some 4) (Tm.pvs l))]=some (.pv (some 4) (tstr s l).pv):=rfl
 simp -dsimp -implicitDefEqProofs only[go_sem,seval,↓reduceIte,hbu,Tm.av]
theorem f_ok(s:List UInt8)(l:List Tm)(hp:Heap):S 19 [.pv none (.str s),.pv none (.sl (some 4) (Tm.pvs l))] hp=some (.ret (tstr s l).av,hp):=
 zaq rfl rfl rfl (zac [(none,.str s),(none,.sl (some 4) (Tm.pvs l))]) rfl (zqZ s l)
theorem zq0(s:List UInt8)(l:List Tm)(hp:Heap):S 19 [.pv none (.str s),.tsl (some 4) (Tm.pvs l)] hp=some (.ret (tstr s l).av,hp):=
 zaq (ps:=[(none,.str s),(none,.sl (some 4) (Tm.pvs l))]) rfl rfl rfl rfl rfl (zqZ s l)
theorem zih(a b:Tm)(ha:a.size<1000000000)(hb:b.size<1000000000):W Z L 0 (g22).code ⟨params 0 (pvs [(some 4,a.pv),(some 4,b.pv)]),[]⟩ (endK (g22).results (Am.frozen (.pv none (.bool (same a b))))):=by
 have h1:=fun hp=>zo4 a b hp ha hb
 simp only[Tm.av] at h1
 simp -dsimp -implicitDefEqProofs only[go_sem,seval,↓reduceIte,h1]
theorem zkg(a b:Tm)(hp:Heap)(ha:a.size<1000000000)(hb:b.size<1000000000):S 22 [a.av,b.av] hp=some (.ret (.pv none (.bool (same a b))),hp):=
 zaq rfl rfl rfl (zac [(some 4,a.pv),(some 4,b.pv)]) rfl (zih a b ha hb)
def zV:AV:=.agg [(none,.pv none (.int .i64 0)),(none,.pv none (.int .i64 0)),(none,.pv none (.str [])),(none,.tsl (some 4) [])]
theorem znC(a:Tm)(hp:Heap)(ha:a.size<1000000000):S 22 [a.av,zV] hp=some (.ret (.pv none (.bool (same a zt))),hp):=
 zaq (ps:=[(some 4,a.pv),(some 4,zt.pv)]) rfl rfl rfl rfl rfl (zih a zt ha (by decide))
def zqe(g:Tm)(l:List Tm)(b:Tm)(e:Int):Prop:=∀hp:Heap,S 20 [g.av] hp=some (.ret (.tuple [.pv none (.sl (some 4) (Tm.pvs l)),b.av,.pv none (.int .i64 e)]),hp)
theorem zgh{g:Tm}(h:g.valid=true):same g g=true:=by simp[same,h,Tm.cmp_zero]
theorem znD:same zt zt=true:=by decide
theorem zo3(hp:Heap):S 13 [] hp=some (.ret (.pv none (.bool true)),hp):=by
 have h:=zp3 (hp:=hp) (args:=[]) (ps:=[]) (hp1:=hp) (f:=13) rfl rfl rfl rfl zrw
 exact h
theorem zjv(g:Tm)(l:List Tm)(hg:g.valid=true)(hc:zqe g l zt 0)(hl:l=[]\/l=[g])(hp:Heap):S 16 [g.av] hp=some (.ret (.tuple [.pv none (.bool (decide (l.length=1))),.pv none (.bool true)]),hp):=by
 refine zaq rfl rfl rfl (zac [(some 4,g.pv)]) rfl ?_
 have hsz:=valid_size hg
 have h1:=fun hp=>znC zt hp (by decide)
 have h2:=fun hp=>zkg g g hp (by omega) (by omega)
 have hz0:zbg [(none,.pv none (.int .i64 0)),(none,.pv none (.int .i64 0)),(none,.pv none (.str [])),(none,.tsl (some 4) [])] [] []=some zV:=rfl
 unfold zqe at hc
 rw[znD] at h1
 rw[zgh hg] at h2
 simp only[Tm.av] at h1 h2 hc
 rcases hl with rfl|rfl
 ·simp -dsimp -implicitDefEqProofs only[go_sem,seval,↓reduceIte,Tm.av,h1,h2,hc,hz0,Tm.pvs_len,zag (Nat.zero_le _)]
  done
 ·have hge:(Tm.pvs [g])[0]? =some g.pv:=rfl
  simp -dsimp -implicitDefEqProofs only[go_sem,seval,↓reduceIte,Tm.av,h1,h2,hc,hz0,Tm.pvs_len,zjl hge,zag (Nat.zero_le _)]
  done
def Bq(hp:Heap):Prop:=∀x∈hp,AObj.beq x x=true
theorem Bq.same:∀{hp:Heap},Bq hp->zaT hp hp=true
 |[],_=>rfl
 |x::r,h=>by
  show(AObj.beq x x && zaT r r)=true
  rw[h x List.mem_cons_self,Bq.same (hp:=r) fun y hy=>h y (List.mem_cons_of_mem _ hy)]
  rfl
theorem Bq.app{a b:Heap}(h1:Bq a)(h2:Bq b):Bq (a++b):=fun x hx=>(List.mem_append.1 hx).elim (h1 x) (h2 x)
theorem Bq.cons{x:AObj}{b:Heap}(h1:AObj.beq x x=true)(h2:Bq b):Bq (x::b):=fun y hy=>(List.mem_cons.1 hy).elim (fun e=>e▸h1) (h2 y)
theorem Bq.nil:Bq []:=fun _ h=>by cases h
theorem Bq.set{hp:Heap}(h:Bq hp)(i:Nat){x:AObj}(hx:AObj.beq x x=true):Bq (hp.set i x):=fun y hy=>by
 rcases List.mem_or_eq_of_mem_set hy with h1|rfl
 ·exact h y h1
 ·exact hx
theorem zig(t:Tm):AObj.beq (.box (some 4) (.pv (some 4) t.pv)) (.box (some 4) (.pv (some 4) t.pv))=true:=by simp[AObj.beq,AV.beq,zg7]
theorem zoY{es:List PV}(h:∀x∈es,PV.beq x x=true):PV.beqs es es=true:=by
 induction es with
 |nil=>rfl
 |cons x r ih=>
  show(PV.beq x x && PV.beqs r r)=true
  rw[h x List.mem_cons_self,ih fun y hy=>h y (List.mem_cons_of_mem _ hy)]
  rfl
def gK(r:Option (ARes × Heap))(hp:Heap)(K:AV->Heap->Prop):Prop:=match r with
 |some (.ret v,hp')=>zaT (hp'.take hp.length) hp=true/\K v hp'
 |_=>False
theorem zjt{Γ:Oracle}{b:Nat}{s:Sh}{f:FuncId}{vs:List AV}{hp:Heap}{K:AV->Heap->Prop}{Kp:PV->Heap->Prop}:opK (aOp Γ b .callg (.pv s (.func (.func f))::vs) hp) K Kp=gK (Γ .fn f vs hp) hp K:=by
 unfold gK
 simp only[aOp,zeS,zcC,zaU,List.nil_append,List.append_nil]
 cases Γ .fn f vs hp with
 |none=>rfl
 |some r=>
  obtain⟨r,hp'⟩:=r
  cases r with
  |panic p=>rfl
  |ret v=>
   by_cases h:zaT (hp'.take hp.length) hp=true
   ·simp only[h,if_true,true_and]
    rfl
   ·have h':zaT (hp'.take hp.length) hp=false:=by simpa using h
    simp only[h',Bool.false_eq_true,if_false,false_and]
    rfl
theorem zfu{v:AV}{hp hp':Heap}{K:AV->Heap->Prop}:gK (some (.ret v,hp')) hp K=(zaT (hp'.take hp.length) hp=true/\K v hp'):=rfl
theorem zcy{hp a b:Heap}(h:Bq hp):zaT (hp++a) (hp++b)=zaT a b:=by
 induction hp with
 |nil=>rfl
 |cons x r ih=>
  show(AObj.beq x x && zaT (r++a) (r++b))=_
  rw[h x List.mem_cons_self,ih fun y hy=>h y (List.mem_cons_of_mem _ hy)]
  rfl
theorem zbY(x y:AObj)(a b:Heap):zaT (x::a) (y::b)=(AObj.beq x y && zaT a b):=rfl
theorem zcz:zaT [] []=true:=rfl
theorem zdl(s:Sh)(z:Bool):AObj.beq (.arr s [] z) (.arr s [] z)=true:=by simp[AObj.beq,PV.beqs]
theorem zfv(s:List UInt8)(a b:Sh):AObj.beq (.box a (.pv b (.str s))) (.box a (.pv b (.str s)))=true:=by simp[AObj.beq,AV.beq,PV.beq]
theorem zqb(l:List Tm):PV.beqs (Tm.pvs l) (Tm.pvs l)=true:=zoY fun x hx=>by
 rw[Tm.zrH] at hx
 obtain⟨t,_,rfl⟩:=List.mem_map.1 hx
 exact zg7 t
theorem zqc(s:Sh)(l:List Tm)(z:Bool):AObj.beq (.arr s (Tm.pvs l) z) (.arr s (Tm.pvs l) z)=true:=by simp[AObj.beq,zqb]
def sucL(b:Bool)(g:Tm):List Tm:=if b=true then[g] else[]
theorem zls(g:Tm)(k:Nat)(b:Bool)(hp:Heap)(r:Nat)(hr:hp[r]? =some (.box (some 5) (.pv (some 5) (runV g k)))):
  S 96 [.ptr r 0,.pv none (.bool b)] hp=some (.ret (.sl (some 4) (hp.length+1) (sucL b g).length 0 (sucL b g).length),hp++[.arr (some 4) [] false,.arr (some 4) (Tm.pvs (sucL b g)) false]):=by
 refine zaK rfl rfl rfl rfl ?_
 have hlt:=zbX hr
 have hr':∀X,(hp++X)[r]? =some (.box (some 5) (.pv (some 5) (runV g k))):=fun X=>by rw[zcQ hlt,hr]
 have hbs:∀H:Heap,zfD (some 4) H [.pv (some 4) g.pv]=some (.sl (some 4) H.length 1 0 1,H++[.arr (some 4) [g.pv] false]):=fun H=>by
  simp[zfD,zah,AV.freeze,deep,zaM,AV.shp,zbW]
 cases b
 ·simp -dsimp -implicitDefEqProofs only[go_sem,seval,↓reduceIte,hr,hr',hbs,zfB,zaw,zbF (sh:=some 4) (by decide),List.append_assoc,zam,zaj,zan,zak,Nat.add_assoc,List.length_append]
  exact⟨rfl,by rw[if_neg (by simp[AV.refsIn])];rfl⟩
 ·simp -dsimp -implicitDefEqProofs only[go_sem,seval,↓reduceIte,hr,hr',hbs,zfB,zaw,zbF (sh:=some 4) (by decide),List.append_assoc,zam,zaj,zan,zak,Nat.add_assoc,List.length_append]
  exact⟨rfl,by rw[if_neg (by simp[AV.refsIn])];rfl⟩

def strI:List UInt8:=[105,110,116,101,103,101,114]
def bJ(a b c:Tm):Heap:=[.box (some 4) (.pv (some 4) a.pv),.box (some 4) (.pv (some 4) b.pv),.box (some 4) (.pv (some 4) c.pv),.arr (some 4) [] false,.box none (.pv none (.str strI)),.box (some 4) (.pv (some 4) a.pv),.box none (.pv none (.str strI)),.box (some 4) (.pv (some 4) b.pv),.box none (.pv none (.str strI)),.box (some 4) (.pv (some 4) c.pv)]
theorem zjm(g:Tm)(k:Nat)(lo hi x:Int)(hp:Heap)(r:Nat)(hr:hp[r]? =some (.box (some 5) (.pv (some 5) (runV g k))))(hb:Bq hp)(ts:List Tm)(hts:ts=sucL (decide (lo<=x) && decide (x<=hi)) g):
  S 105 [.ptr r 0,(tint lo).av,(tint hi).av,(tint x).av] hp=some (.ret (.tuple [.sl (some 4) (hp.length+11) ts.length 0 ts.length,.pv none (.int .i64 0)]),hp++(bJ (tint lo) (tint hi) (tint x)++[.arr (some 4) [] false,.arr (some 4) (Tm.pvs ts) false])):=by
 refine zaK rfl rfl rfl rfl ?_
 have hlt:=zbX hr
 have hr':∀X,(hp++X)[r]? =some (.box (some 5) (.pv (some 5) (runV g k))):=fun X=>by rw[zcQ hlt,hr]
 have h1:=fun t hp=>zki t hp
 have h2:=fun t hp=>zkj t hp
 have h3:=zkk
 have h4:=fun s t hp=>zkl s t hp
 have h5:=fun b X=>zls g k b (hp++X) r (hr' X)
 have k1:∀n,decide ((tint n).kind=1)=true:=fun n=>rfl
 have k0:∀n,decide ((tint n).kind=0)=false:=fun n=>rfl
 have kn:∀n,(tint n).n=n:=fun n=>rfl
 simp only[Tm.av] at h1 h2 h4
 by_cases hlx:lo<=x
 ·by_cases hxh:x<=hi
  ·have e:sucL true g=ts:=by rw[hts];simp[hlx,hxh]
   have h6:=h5 true
   rw[e] at h6
   clear h5 hts e
   simp -dsimp -implicitDefEqProofs only[go_sem,seval,↓reduceIte,Tm.av,h1,h2,h3,h4,h6,hlx,hxh,k1,k0,kn,za9,hr,hr',zjt,zfu,zh8 rfl,zcy hb,List.take_succ_cons,zbY,zcz,zig,zdl,zfv,zaw,zbF (sh:=some 4) (by decide),List.append_assoc,zam,zaj,zan,zak,Nat.add_assoc,List.length_append]
   rw[if_neg (by simp[AV.refsIn,AV.refsIn.gol])]
   rfl
  ·have e:sucL false g=ts:=by rw[hts];simp[hxh]
   have h6:=h5 false
   rw[e] at h6
   clear h5 hts e
   simp -dsimp -implicitDefEqProofs only[go_sem,seval,↓reduceIte,Tm.av,h1,h2,h3,h4,h6,hlx,hxh,k1,k0,kn,za9,hr,hr',zjt,zfu,zh8 rfl,zcy hb,List.take_succ_cons,zbY,zcz,zig,zdl,zfv,zaw,zbF (sh:=some 4) (by decide),List.append_assoc,zam,zaj,zan,zak,Nat.add_assoc,List.length_append]
   rw[if_neg (by simp[AV.refsIn,AV.refsIn.gol])]
   rfl
 ·have e:sucL false g=ts:=by rw[hts];simp[hlx]
  have h6:=h5 false
  rw[e] at h6
  clear h5 hts e
  simp -dsimp -implicitDefEqProofs only[go_sem,seval,↓reduceIte,Tm.av,h1,h2,h3,h4,h6,hlx,k1,k0,kn,za9,hr,hr',zjt,zfu,zh8 rfl,zcy hb,List.take_succ_cons,zbY,zcz,zig,zdl,zfv,zaw,zbF (sh:=some 4) (by decide),List.append_assoc,zam,zaj,zan,zak,Nat.add_assoc,List.length_append]
  rw[if_neg (by simp[AV.refsIn,AV.refsIn.gol])]
  rfl
def btwR(g:Tm)(lo hi:Int):List Tm × Int:=if hi<lo then([],0) else if 1000<=hi - lo then([],2) else((List.range (hi - lo+1).toNat).map fun i:Nat=>setA g 2 (tint (lo+i)),0)
theorem zjn(g:Tm)(k:Nat)(lo hi:Int)(y:Tm)(hy:y.kind=0)(hga:g.args.length=3)(hlo: -9223372036854775808<=lo/\lo<9223372036854775808)(hhi: -9223372036854775808<=hi/\hi<9223372036854775808)(hp:Heap)(r:Nat)(hr:hp[r]? =some (.box (some 5) (.pv (some 5) (runV g k))))(hb:Bq hp)(ts:List Tm)(e:Int)(hts:btwR g lo hi=(ts,e)):
  S 105 [.ptr r 0,(tint lo).av,(tint hi).av,y.av] hp=some (.ret (.tuple [.sl (some 4) (hp.length+10) ts.length 0 ts.length,.pv none (.int .i64 e)]),hp++(bJ (tint lo) (tint hi) y++[.arr (some 4) (Tm.pvs ts) false])):=by
 refine zaK rfl rfl rfl rfl ?_
 have hlt:=zbX hr
 have hr':∀X,(hp++X)[r]? =some (.box (some 5) (.pv (some 5) (runV g k))):=fun X=>by rw[zcQ hlt,hr]
 have h1:=fun t hp=>zki t hp
 have h2:=fun t hp=>zkj t hp
 have h3:=zkk
 have h4:=fun s t hp=>zkl s t hp
 have k1:∀n,decide ((tint n).kind=1)=true:=fun n=>rfl
 have k0:∀n,decide ((tint n).kind=0)=false:=fun n=>rfl
 have k2:decide (y.kind=0)=true:=decide_eq_true hy
 have k3:decide (y.kind=1)=false:=by rw[hy];rfl
 have kn:∀n,(tint n).n=n:=fun n=>rfl
 simp only[Tm.av] at h1 h2 h4
 unfold btwR at hts
 by_cases hlh:hi<lo
 ·rw[if_pos hlh] at hts
  cases hts
  simp -dsimp -implicitDefEqProofs only[go_sem,seval,↓reduceIte,Tm.av,h1,h2,h3,h4,hlh,k1,k0,k2,k3,kn,za9,hr,hr',zjt,zfu,zh8 rfl,zcy hb,List.take_succ_cons,zbY,zcz,zig,zdl,zfv,zaw,zbF (sh:=some 4) (by decide),List.append_assoc,zam,zaj,zan,zak,Nat.add_assoc,List.length_append]
  rw[if_neg (by simp[AV.refsIn,AV.refsIn.gol])]
  rfl
 rw[if_neg hlh] at hts
 have wu:IntKind.u64.wrap (IntKind.u64.wrap hi - IntKind.u64.wrap lo)=hi - lo:=by
  rw[IntKind.wrap_u64,IntKind.wrap_u64,IntKind.wrap_u64]
  omega
 by_cases hbig:1000<=hi - lo
 ·rw[if_pos hbig] at hts
  cases hts
  simp -dsimp -implicitDefEqProofs only[go_sem,seval,↓reduceIte,Tm.av,h1,h2,h3,h4,hlh,wu,hbig,k1,k0,k2,k3,kn,za9,hr,hr',zjt,zfu,zh8 rfl,zcy hb,List.take_succ_cons,zbY,zcz,zig,zdl,zfv,zaw,zbF (sh:=some 4) (by decide),List.append_assoc,zam,zaj,zan,zak,Nat.add_assoc,List.length_append]
  rw[if_neg (by simp[AV.refsIn,AV.refsIn.gol])]
  rfl
 rw[if_neg hbig] at hts
 cases hts
 simp -dsimp -implicitDefEqProofs only[go_sem,seval,↓reduceIte,Tm.av,h1,h2,h3,h4,hlh,wu,hbig,k1,k0,k2,k3,kn,za9,hr,hr',zjt,zfu,zh8 rfl,zcy hb,List.take_succ_cons,zbY,zcz,zig,zdl,zfv,zaw,zbF (sh:=some 4) (by decide),List.append_assoc,zam,zaj,zan,zak,Nat.add_assoc,List.length_append]
 obtain⟨N,hN⟩:∃N,N=(hi - lo+1).toNat:=⟨_,rfl⟩
 have hN1:N<=1000:=by omega
 have w1:IntKind.i64.wrap (IntKind.i64.wrap (hi - lo)+1)=(N:Int):=by
  rw[za5 (x:=hi - lo) (by omega) (by omega),za5 (by omega) (by omega)]
  omega
 obtain⟨F,hF⟩:∃F:Nat->Tm,F=fun i:Nat=>setA g 2 (tint (lo+i)):=⟨_,rfl⟩
 have hfl:∀i,((List.range i).map F).length=i:=fun i=>by simp
 rw[w1,<-hN,<-hF]
 refine zg0 (α:=Unit) N (fun _ _=>True) (fun i _=>⟨[(0,.ptr r 0),(5,.ptr hp.length 0),(10,.sl (some 4) (hp.length+10) i 0 i),(76,.pv none (.int .i64 N)),(77,.pv none (.int .i64 i))],hp++(bJ (tint lo) (tint hi) y++[.arr (some 4) (Tm.pvs ((List.range i).map F)) false])⟩) () ⟨trivial,rfl⟩ ?_ ?_
 ·rintro i - h -
  have hc:(i:Int)<(N:Int):=by omega
  have w2:IntKind.i64.wrap ((i:Int)+1)=((i+1:Nat):Int):=by rw[za5 (by omega) (by omega)];omega
  have w3:IntKind.i64.wrap (lo+i)=lo+i:=za5 (by omega) (by omega)
  have h5:=fun X=>zpe g k 2 (tint (lo+i)) rfl (by omega) (by omega) (hp++X) r (hr' X)
  have hbu:zbg [(none,.pv none (.int .i64 0)),(none,.pv none (.int .i64 0)),(none,.pv none (.str [])),(none,.tsl (some 4) [])] [0,1] [.pv none (.int .i64 1),.pv none (.int .i64 (lo+i))]=some (naV (tint (lo+i))):=rfl
  have hFi:setA g 2 (tint (lo+i))=F i:=by rw[hF]
  have e2:((2:Nat):Int)=2:=rfl
  simp only[wJa,hFi,e2] at h5
  have hap:∀(x0 x1 x2 x3 x4 x5 x6 x7 x8 x9 y0 y1 y2 y3 y4 y5 y6:AObj),zaS (some 4) (hp++[x0,x1,x2,x3,x4,x5,x6,x7,x8,x9,.arr (some 4) (Tm.pvs ((List.range i).map F)) false,y0,y1,y2,y3,y4,y5,y6,.arr (some 4) [(F i).pv] false]) [.sl (some 4) (hp.length+10) i 0 i,.sl (some 4) (hp.length+18) 1 0 1]=some (.sl (some 4) (hp.length+10) (i+1) 0 (i+1),hp++[x0,x1,x2,x3,x4,x5,x6,x7,x8,x9,.arr (some 4) (Tm.pvs ((List.range (i+1)).map F)) false,y0,y1,y2,y3,y4,y5,y6,.arr (some 4) [(F i).pv] false]):=fun x0 x1 x2 x3 x4 x5 x6 x7 x8 x9 y0 y1 y2 y3 y4 y5 y6=>by
   have hlim:i+1<=lim:=by unfold lim;omega
   have e:Tm.pvs ((List.range (i+1)).map F)=Tm.pvs ((List.range i).map F)++[(F i).pv]:=by
    rw[List.range_succ,List.map_append,Tm.zrF]
    rfl
   rw[e]
   simp[zaS,aappend,elems,getN rfl,setN rfl,Tm.pvs_len,hlim]
  simp -dsimp -implicitDefEqProofs only[go_sem,seval,↓reduceIte,Tm.av,bJ,h5,hc,w2,w3,hbu,hap,kn,za9,hr,hr',List.append_assoc,zam,zaj,zan,zak,Nat.add_assoc,List.length_append]
  try refine⟨(),?_⟩
  rw[zcs 11 rfl rfl (by simp[AObj.refs,AV.refsIn]) (by simp[AV.refsIn];omega)]
  rfl
 ·rintro - -
  have hc:¬(N:Int)<(N:Int):=by omega
  simp -dsimp -implicitDefEqProofs only[go_sem,seval,↓reduceIte,hc,hfl,List.append_assoc,zam,zaj,zan,zak,Nat.add_assoc,List.length_append]
  rw[if_neg (by simp[AV.refsIn,AV.refsIn.gol])]
def rows1:List (PV × PV):=[(.str (names1.getD 0 []),.func (.func 71)),(.str (names1.getD 1 []),.func (.func 72)),(.str (names1.getD 2 []),.func (.func 73)),(.str (names1.getD 3 []),.func (.func 74)),(.str (names1.getD 4 []),.func (.func 75)),(.str (names1.getD 5 []),.func (.func 47)),(.str (names1.getD 6 []),.func (.func 76)),(.str (names1.getD 7 []),.func (.func 77)),(.str (names1.getD 8 []),.func (.func 78))]
def rows2:List (PV × PV):=[(.str (names2a.getD 0 []),.func (.func 79)),(.str (names2a.getD 1 []),.func (.func 80)),(.str (names2a.getD 2 []),.func (.func 81)),(.str (names2a.getD 3 []),.func (.func 82)),(.str (names2a.getD 4 []),.func (.func 83)),(.str (names2a.getD 5 []),.func (.func 84))]
theorem zoX(hp:Heap):S 39 [] hp=some (.ret (.map hp.length),hp++[.map none rows1]):=by
 refine zaK rfl rfl rfl rfl ?_
 have hms:∀(es es':List (PV × PV)) (k v:PV),aput true k v es=some es'->zbB true none (hp++[.map none es]) [.map hp.length,.pv none k,.pv none v]=some (.undef,hp++[.map none es']):=fun es es' k v h=>by
  rw[zcu (es:=es) (by rw[zdP rfl];rfl) h,zdQ rfl]
  rfl
 have m0:=hms ([]) (rows1.take 1) (.str [118,97,114]) (.func (.func 71)) rfl
 have m1:=hms (rows1.take 1) (rows1.take 2) (.str [110,111,110,118,97,114]) (.func (.func 72)) rfl
 have m2:=hms (rows1.take 2) (rows1.take 3) (.str [97,116,111,109]) (.func (.func 73)) rfl
 have m3:=hms (rows1.take 3) (rows1.take 4) (.str [105,110,116,101,103,101,114]) (.func (.func 74)) rfl
 have m4:=hms (rows1.take 4) (rows1.take 5) (.str [97,116,111,109,105,99]) (.func (.func 75)) rfl
 have m5:=hms (rows1.take 5) (rows1.take 6) (.str [99,111,109,112,111,117,110,100]) (.func (.func 47)) rfl
 have m6:=hms (rows1.take 6) (rows1.take 7) (.str [99,97,108,108,97,98,108,101]) (.func (.func 76)) rfl
 have m7:=hms (rows1.take 7) (rows1.take 8) (.str [105,115,95,108,105,115,116]) (.func (.func 77)) rfl
 have m8:=hms (rows1.take 8) (rows1.take 9) (.str [103,114,111,117,110,100]) (.func (.func 78)) rfl
 simp -dsimp -implicitDefEqProofs only[go_sem,seval,↓reduceIte,m0,m1,m2,m3,m4,m5,m6,m7,m8,List.append_assoc,zam,zaj,zan,zak,Nat.add_assoc,List.length_append]
 rw[if_neg (by simp[AV.refsIn])]
 rfl
theorem zfK(hp:Heap):S 40 [] hp=some (.ret (.map hp.length),hp++[.map none rows2]):=by
 refine zaK rfl rfl rfl rfl ?_
 have hms:∀(es es':List (PV × PV)) (k v:PV),aput true k v es=some es'->zbB true none (hp++[.map none es]) [.map hp.length,.pv none k,.pv none v]=some (.undef,hp++[.map none es']):=fun es es' k v h=>by
  rw[zcu (es:=es) (by rw[zdP rfl];rfl) h,zdQ rfl]
  rfl
 have m0:=hms ([]) (rows2.take 1) (.str [61,61]) (.func (.func 79)) rfl
 have m1:=hms (rows2.take 1) (rows2.take 2) (.str [92,61,61]) (.func (.func 80)) rfl
 have m2:=hms (rows2.take 2) (rows2.take 3) (.str [64,60]) (.func (.func 81)) rfl
 have m3:=hms (rows2.take 3) (rows2.take 4) (.str [64,61,60]) (.func (.func 82)) rfl
 have m4:=hms (rows2.take 4) (rows2.take 5) (.str [64,62]) (.func (.func 83)) rfl
 have m5:=hms (rows2.take 5) (rows2.take 6) (.str [64,62,61]) (.func (.func 84)) rfl
 simp -dsimp -implicitDefEqProofs only[go_sem,seval,↓reduceIte,m0,m1,m2,m3,m4,m5,List.append_assoc,zam,zaj,zan,zak,Nat.add_assoc,List.length_append]
 rw[if_neg (by simp[AV.refsIn])]
 rfl
theorem zpp(s:Sh)(l:List (PV × PV))(h:PV.beqm l l=true):AObj.beq (.map s l) (.map s l)=true:=by simp[AObj.beq,h]
theorem zg5(s:Sh):AObj.beq (.map s rows1) (.map s rows1)=true:=zpp s _ (by decide+kernel)
theorem zg6(s:Sh):AObj.beq (.map s rows2) (.map s rows2)=true:=zpp s _ (by decide+kernel)
theorem zjs(s:Sh)(l:List Tm):AObj.beq (.arr s (Tm.pvs l) false) (.arr s (Tm.pvs l) false)=true:=zqc s l false
theorem zqR(H:Heap):zah [zagg,zagg] H=some ([(some 4,zt.pv),(some 4,zt.pv)],H):=rfl
theorem zqS{hp:Heap}{y0 y1:AObj}{l:List Tm}{n:Nat}(hn:l.length=n)(hl:n<=100):zaS (some 4) (hp++[y0,y1,.arr (some 4) (Tm.pvs l) false]) [.sl (some 4) (hp.length+2) n 0 n,.tsl (some 4) [zt.pv,zt.pv]]=some (.sl (some 4) (hp.length+2) (n+2) 0 (n+2),hp++[y0,y1,.arr (some 4) (Tm.pvs (l++[zt,zt])) false]):=by
 have hlim:n+2<=lim:=by unfold lim;omega
 have e:Tm.pvs (l++[zt,zt])=Tm.pvs l++[zt.pv,zt.pv]:=by rw[Tm.zrF];rfl
 rw[e]
 simp[zaS,aappend,elems,getN rfl,setN rfl,Tm.pvs_len,hn,hlim]
theorem zqa{hp Z:Heap}{y0 y1:AObj}{l:List Tm}{z:Bool}{n i:Nat}{t:Tm}(hn:l.length=n)(ht:l[i]? =some t):aload (some 4) (hp++y0::y1::.arr (some 4) (Tm.pvs l) z::Z) (.eptr (some 4) (hp.length+2) n i 0)=some (.pv (some 4) t.pv):=by
 simp[aload,getN rfl,Tm.pvs_len,hn,Tm.pvs_get ht]
theorem zqT{hp Z:Heap}{y0 y1 y2:AObj}{s:List UInt8}{rows:List (PV × PV)}(h:afind true (.str s) rows=some none):zaR true none (.pv none .nilfunc) true (hp++y0::y1::y2::.map none rows::Z) [.map (hp.length+3),.pv none (.str s)]=some (.tuple [.pv none .nilfunc,.pv none (.bool false)]):=
 zbo (es:=rows) (by rw[getN rfl];rfl) h
theorem zqU{hp Z:Heap}{y0 y1 y2 y3:AObj}{s:List UInt8}{rows:List (PV × PV)}(h:afind true (.str s) rows=some none):zaR true none (.pv none .nilfunc) true (hp++y0::y1::y2::y3::.map none rows::Z) [.map (hp.length+4),.pv none (.str s)]=some (.tuple [.pv none .nilfunc,.pv none (.bool false)]):=
 zbo (es:=rows) (by rw[getN rfl];rfl) h
def nBtw:List UInt8:=[98,101,116,119,101,101,110]
def gBtw(lo hi:Int)(x:Tm):Tm:=.mk 3 0 nBtw [tint lo,tint hi,x]
def eJ(g:Tm):Heap:=[.arr (some 4) [] false,.arr (some 4) [] false,.arr (some 4) (Tm.pvs (g.args++[zt,zt])) false,.map none rows1,.map none rows2]
theorem zkd(lo hi:Int)(x:Tm)(k:Nat)(hp:Heap)(r:Nat)(hr:hp[r]? =some (.box (some 5) (.pv (some 5) (runV (gBtw lo hi x) k))))(hb:Bq hp)(v:AV)(e:Int)(X:Heap)
  (hv:v.refsIn.all (fun q=>decide (q<hp.length))=false)(hex:S 105 [.ptr r 0,(tint lo).av,(tint hi).av,x.av] (hp++eJ (gBtw lo hi x))=some (.ret (.tuple [v,.pv none (.int .i64 e)]),hp++(eJ (gBtw lo hi x)++X))):
  S 50 [.ptr r 0] hp=some (.ret (.tuple [v,.pv none (.int .i64 e)]),hp++(eJ (gBtw lo hi x)++X)):=by
 refine zaK rfl rfl rfl rfl ?_
 have hlt:=zbX hr
 have hr':∀X,(hp++X)[r]? =some (.box (some 5) (.pv (some 5) (runV (gBtw lo hi x) k))):=fun X=>by rw[zcQ hlt,hr]
 have hn:(gBtw lo hi x).name=nBtw:=rfl
 have hl:(gBtw lo hi x).args.length=3:=rfl
 obtain⟨g,hg⟩:∃g,g=gBtw lo hi x:=⟨_,rfl⟩
 rw[<-hg] at hr' hn hl hex hr
 have h1:=fun hp=>zik (Tm.pvs g.args) (by rw[Tm.pvs_len];omega) (by rw[Tm.pvs_len];omega) hp
 have hz0:zbg [(none,.pv none (.int .i64 0)),(none,.pv none (.int .i64 0)),(none,.pv none (.str [])),(none,.tsl (some 4) [])] [] []=some zagg:=rfl
 have h2:=zoX
 have h3:=zfK
 have zs:∀z,zagg.shp=z↔z=some 4:=fun z=>by show some 4=z↔_;exact eq_comm
 have ha:∀y0 y1,_:=fun y0 y1=> @zqS hp y0 y1 g.args 3 hl (by decide)
 have l0:∀Z y0 y1 z,_:=fun Z y0 y1 z=> @zqa hp Z y0 y1 (g.args++[zt,zt]) z 5 0 (tint lo) (by rw[List.length_append,hl];rfl) (by rw[hg];rfl)
 have l1:∀Z y0 y1 z,_:=fun Z y0 y1 z=> @zqa hp Z y0 y1 (g.args++[zt,zt]) z 5 1 (tint hi) (by rw[List.length_append,hl];rfl) (by rw[hg];rfl)
 have l2:∀Z y0 y1 z,_:=fun Z y0 y1 z=> @zqa hp Z y0 y1 (g.args++[zt,zt]) z 5 2 x (by rw[List.length_append,hl];rfl) (by rw[hg];rfl)
 have k1:∀Z y0 y1 y2,_:=fun Z y0 y1 y2=> @zqT hp Z y0 y1 y2 nBtw rows1 rfl
 have k2:∀Z y0 y1 y2 y3,_:=fun Z y0 y1 y2 y3=> @zqU hp Z y0 y1 y2 y3 nBtw rows2 rfl
 have i0:zbp (some 4) [.sl (some 4) (hp.length+2) 5 0 5,.pv none (.int .i64 0)]=some (.eptr (some 4) (hp.length+2) 5 0 0):=rfl
 have i1:zbp (some 4) [.sl (some 4) (hp.length+2) 5 0 5,.pv none (.int .i64 1)]=some (.eptr (some 4) (hp.length+2) 5 1 0):=rfl
 have i2:zbp (some 4) [.sl (some 4) (hp.length+2) 5 0 5,.pv none (.int .i64 2)]=some (.eptr (some 4) (hp.length+2) 5 2 0):=rfl
 have q0:(nBtw=[99,111,109,112,97,114,101])=False:=eq_false (by decide)
 have q1:(nBtw=[92,61])=False:=eq_false (by decide)
 have q2:(nBtw=[102,117,110,99,116,111,114])=False:=eq_false (by decide)
 have q3:(nBtw=[97,114,103])=False:=eq_false (by decide)
 have q4:(nBtw=[61,46,46])=False:=eq_false (by decide)
 have q5:(nBtw=[99,111,112,121,95,116,101,114,109])=False:=eq_false (by decide)
 have q6:(nBtw=[116,101,114,109,95,118,97,114,105,97,98,108,101,115])=False:=eq_false (by decide)
 have q7:(nBtw=[108,101,110,103,116,104])=False:=eq_false (by decide)
 have q8:(nBtw=[98,101,116,119,101,101,110])=True:=eq_true (by decide)
 simp only[eJ,Tm.av] at hex
 simp -dsimp -implicitDefEqProofs only[go_sem,seval,↓reduceIte,Tm.av,hr,hr',h1,h2,h3,ha,hn,hl,hz0,hex,l0,l1,l2,k1,k2,q0,q1,q2,q3,q4,q5,q6,q7,q8,i0,i1,i2,Tm.pvs_len,znL,znM,zqR,zjt,zfu,zh8 rfl,zcy hb,List.take_succ_cons,zbY,zcz,zig,zdl,zjs,zg5,zg6,zfv,zaw,zbF (sh:=some 4) (by decide),List.append_assoc,zam,zaj,zan,zak,Nat.add_assoc,List.length_append]
 have hrf:(AV.tuple [v,.pv none (.int .i64 e)]).refsIn=v.refsIn:=by simp[AV.refsIn,AV.refsIn.gol]
 rw[hrf,if_neg (by rw[hv];simp),hg]
 rfl
theorem zqV{H:Heap}{q n:Nat}{ts:List Tm}{z:Bool}(hn:ts.length=n)(h:H[q]? =some (.arr (some 4) (Tm.pvs ts) z)):IsT (.sl (some 4) q n 0 n) H ts where
 len:=by rw[zj0,hn]
 idx:=fun i u hu=>by
  have hi:=(List.getElem?_eq_some_iff.1 hu).1
  refine⟨.eptr (some 4) q n (0+i) 0,fun s k=>zee (by omega),?_⟩
  simp[aload,h,Tm.pvs_len,hn,Tm.pvs_get hu]
theorem zqW(g:Tm):Bq (hE g):=by
 have h1:=zig g
 refine Bq.cons h1 (Bq.cons rfl (Bq.cons rfl (Bq.cons rfl (Bq.cons rfl (Bq.cons rfl (Bq.cons ?_ Bq.nil))))))
 simp[AObj.beq,AV.beq,PV.beq,PV.beqc,runV,zg7]
theorem znz(g:Tm)(hp:Heap)(hv:g.valid=true)(hc:canT g=g)(hk:g.kind=3)(hn:g.name∈zbZ g.args.length)(ts:List Tm)(e:Int)(q:Nat)(X:Heap)(z:Bool)
  (he:S 50 [.ptr 6 0] (hE g)=some (.ret (.tuple [.sl (some 4) q ts.length 0 ts.length,.pv none (.int .i64 e)]),hE g++X))(hq:7<=q)(hX:X[q - 7]? =some (.arr (some 4) (Tm.pvs ts) z))(hlt:ts.length<100000000)(hts:∀t∈ts,t.size<1000000):
  S 20 [g.av] hp=some (.ret (.tuple [.pv none (.sl (some 4) (Tm.pvs (zdU ts e).1)),zt.av,.pv none (.int .i64 (zdU ts e).2)]),hp):=by
 refine zoN g hp hv hc hk hn ts e _ (.box (some 5) (.pv (some 5) (runV g (vads [] g.occ).length))) X he (fun H hH=>zqV (z:=z) rfl (hH q _ (by omega) ?_)) hlt hts
 obtain⟨j,rfl⟩:∃j,q=j+7:=⟨q - 7,by omega⟩
 exact hX
end Go.Proofs.YtiifblpdlphchaaGreatRR
