/- What is proved: where a variable stands among those gathered; canonical forms. -/
import Derived.Test.YtffecaafklpmhaaRv
import Derived.Test.YtffecaafklpmhaaSml
import Derived.Test.YtffecaafklpmhaaPUn
import Derived.Test.YtffecaafklpmhaaAm4
set_option linter.unusedSimpArgs false
set_option linter.unusedVariables false
namespace Go.Proofs.Ytffecaafklpmhaa
open Go.Am
def posF:Nat->List Int->List (Int × PV)
 |_,[]=>[]
 |k,x::r=>(x,.int .i64 (k:Int))::posF (k+1) r
theorem zmW:∀(l:List Int) (k:Nat),(posF k l).length=l.length
 |[],_=>rfl
 |x::r,k=>by rw[posF,List.length_cons,zmW r];rfl
theorem zhg(v:Int):∀(l:List Int) (k:Nat),zdb v (posF k l)=if v∈l then some (.int .i64 ((k+l.idxOf v:Nat):Int)) else none
 |[],_=>rfl
 |x::r,k=>by
  rw[posF,zdb,zhg v r]
  by_cases h:x=v
  ·subst h
   simp
  ·have h':¬v=x:=fun e=>h e.symm
   simp only[if_neg h,List.mem_cons,h',false_or]
   rw[List.idxOf_cons]
   have hb:(x == v)=false:=by simpa using h
   rw[hb]
   simp only[cond_false]
   split
   ·congr 2
    omega
   ·rfl
theorem zmX(v:Int):∀(l:List Int) (k:Nat),v ∉ l->mPut v (.int .i64 ((k+l.length:Nat):Int)) (posF k l)=posF k (l++[v])
 |[],k,_=>rfl
 |x::r,k,h=>by
  have h':¬x=v:=fun e=>h (by rw[e];exact List.mem_cons_self)
  have ih:=zmX v r (k+1) fun hm=>h (List.mem_cons_of_mem _ hm)
  rw[posF,mPut,if_neg h',List.cons_append,posF,<-ih,List.length_cons]
  congr 4
  omega
theorem zq3{v:Int}:∀{l L:List Int},v∈l->l <+: L->L.idxOf v=l.idxOf v
 |[],_,h,_=>by cases h
 |x::r,L,h,hp=>by
  obtain⟨m,rfl⟩:=hp
  rw[List.cons_append,List.idxOf_cons,List.idxOf_cons]
  cases hb:x == v with
  |true=>rfl
  |false=>
   simp only[cond_false]
   have hx:¬x=v:=by simpa using hb
   have hm:v∈r:=(List.mem_cons.1 h).resolve_left fun e=>hx e.symm
   rw[zq3 hm ⟨m,rfl⟩]
theorem zmY{v:Int}:∀{l:List Int},v ∉ l->(l++[v]).idxOf v=l.length
 |[],_=>by simp[List.idxOf_cons]
 |x::r,h=>by
  have h':¬x=v:=fun e=>h (by rw[e];exact List.mem_cons_self)
  rw[List.cons_append,List.idxOf_cons,beq_eq_false_iff_ne.2 h',List.length_cons]
  simp only[cond_false]
  rw[zmY fun hm=>h (List.mem_cons_of_mem _ hm)]
theorem zsV(l:List Int)(v:Int):l <+: vadd l v:=by
 unfold vadd
 split
 ·exact List.prefix_refl _
 ·exact List.prefix_append _ _
theorem zmZ:∀(ws l:List Int),l <+: vads l ws
 |[],l=>List.prefix_refl _
 |w::r,l=>(zsV l w).trans (zmZ r (vadd l w))
def cPos(L:List Int)(v:Int):Tm:=tvar (L.idxOf v:Int)
def canT(t:Tm):Tm:=Tm.sub (cPos (vads [] t.occ)) t
theorem zsW(l:List Int)(v:Int):v∈vadd l v:=by
 unfold vadd
 split
 ·assumption
 ·simp
theorem zhh{L:List Int}{t:Tm}(hk:¬t.kind=0):Tm.sub (cPos L) t=.mk t.kind t.n t.name (t.args.map (Tm.sub (cPos L))):=by
 rw[Tm.zwx,if_neg hk]
def cagg(k:Int)(q:Nat):AV:=.agg [(none,.pv none (.int .i64 0)),(none,.pv none (.int .i64 k)),(none,.pv none (.str [])),(none,.sl (some 4) q 0 0 0)]
def gC(t:Tm)(l:List Int):Heap:=[.box (some 4) (.pv (some 4) t.pv),.box (some 4) (cagg 0 2),.arr (some 4) [] false,.map none (zaZ (posF 0 l)),.box none (.map 3)]
theorem zvj{m:List (Int × PV)}{hp:Heap}{r:Nat}{s:Sh}{v:Int}(h:hp[r]? =some (.map none (zaZ m))):zbc false none (.pv none (.int .i64 0)) true hp [.map r,.pv s (.int .i64 v)]=some (match zdb v m with|some x=>.tuple [.pv none x,.pv none (.bool true)]|none=>.tuple [.pv none (.int .i64 0),.pv none (.bool false)]):=by
 have hf:=zfI v m
 cases hm:zdb v m with
 |none=>rw[hm] at hf;exact zeV h hf
 |some x=>rw[hm] at hf;exact zeU h hf
theorem zhe{k:Int}{q:Nat}{H:Heap}(h:H[q]? =some (.arr (some 4) [] false)):AV.freeze deep (cagg k q) H=some ((tvar k).pv,H.set q (.arr (some 4) [] true)):=by
 have e:∀l hp,AV.freeze (7+1) (.agg l) hp=match AV.freeze.go 7 l hp with|some (ps,hp')=>some (.agg ps,hp')|none=>none:=fun _ _=>rfl
 show AV.freeze (7+1) (.agg _) _=_
 simp[e,AV.freeze.go,AV.freeze,h]
 rfl
theorem ztw(t:Tm)(l:List Int)(ext:Heap):(gC t l++ext).length=ext.length+5:=by simp[gC]
theorem gC_4(t:Tm)(l:List Int)(ext X:Heap):(gC t l++ext++X)[4]? =some (.box none (.map 3)):=rfl
theorem gC_3(t:Tm)(l:List Int)(ext X:Heap):(gC t l++ext++X)[3]? =some (.map none (zaZ (posF 0 l))):=rfl
theorem zvk(t:Tm)(l l':List Int)(ext X:Heap):(gC t l++ext++X).set 3 (.map none (zaZ (posF 0 l')))=gC t l'++ext++X:=rfl
theorem zq2(t0 u:Tm)(l:List Int)(ext:Heap)(hl:l.length<100000000)(n:Nat)(hn:n=ext.length+5):
  S 31 [u.av,.ptr 4 0] (gC t0 l++ext)=some (.ret (cagg ((vadd l u.n).idxOf u.n:Nat) (n+3)),gC t0 (vadd l u.n)++(ext++[.box (some 4) (.pv (some 4) u.pv),.box (some 4) (cagg ((vadd l u.n).idxOf u.n:Nat) (n+3)),.arr (some 4) [] false,.arr (some 4) [] false])):=by
 obtain⟨K,hK⟩:∃K:List Int->Heap,K=fun l=>gC t0 l++ext:=⟨_,rfl⟩
 have hKs:∀l,gC t0 l++ext=K l:=fun l=>by rw[hK]
 have hKl:∀l,(K l).length=n:=fun l=>by rw[<-hKs,ztw,hn]
 have hKa:∀l X,gC t0 l++(ext++X)=K l++X:=fun l X=>by rw[<-hKs,List.append_assoc]
 have hK4:∀l X,(K l++X)[4]? =some (.box none (.map 3)):=fun l X=>by rw[<-hKs];exact gC_4 t0 l ext X
 have hK3:∀l X,(K l++X)[3]? =some (.map none (zaZ (posF 0 l))):=fun l X=>by rw[<-hKs];exact gC_3 t0 l ext X
 have hKS:∀l l' X,(K l++X).set 3 (.map none (zaZ (posF 0 l')))=K l'++X:=fun l l' X=>by rw[<-hKs,<-hKs];exact zvk t0 l l' ext X
 have hle:∀k,n<=n+k:=fun k=>Nat.le_add_right _ _
 rw[hKa,hKs]
 unfold cagg
 refine zaG rfl rfl rfl rfl ?_
 rw[hKl]
 have hb:∀k:Int,zaP [(none,.pv none (.int .i64 0)),(none,.pv none (.int .i64 0)),(none,.pv none (.str [])),(none,.tsl (some 4) [])] [1] [.pv none (.int .i64 k)]=some (.agg [(none,.pv none (.int .i64 0)),(none,.pv none (.int .i64 k)),(none,.pv none (.str [])),(none,.tsl (some 4) [])]):=fun _=>rfl
 by_cases hm:u.n∈l
 ·have e:vadd l u.n=l:=by simp[vadd,hm]
  rw[e]
  have hlk:∀X:Heap,zbc false none (.pv none (.int .i64 0)) true (K l++X) [.map 3,.pv none (.int .i64 u.n)]=some (.tuple [.pv none (.int .i64 ((l.idxOf u.n:Nat):Int)),.pv none (.bool true)]):=fun X=>by
   rw[zvj (m:=posF 0 l) (hK3 _ _),zhg,if_pos hm,Nat.zero_add]
  simp -dsimp -implicitDefEqProofs only[go_sem,seval,↓reduceIte,cagg,List.append_assoc,zah,zaf,zaj,zag,Nat.add_assoc,List.length_append,Tm.av,zaQ,hlk,hb,zaF,zae (Nat.le_add_right _ _),hK4,hKl,getN (hKl _),zcJ (hKl _),setN (hKl _),zd7 (hKl _)]
  rw[if_neg (by simp[AV.refsIn,AV.refsIn.go])]
 ·have e:vadd l u.n=l++[u.n]:=by simp[vadd,hm]
  rw[e,zmY hm]
  have hlk:∀X:Heap,zbc false none (.pv none (.int .i64 0)) true (K l++X) [.map 3,.pv none (.int .i64 u.n)]=some (.tuple [.pv none (.int .i64 0),.pv none (.bool false)]):=fun X=>by
   rw[zvj (m:=posF 0 l) (hK3 _ _),zhg,if_neg hm]
  have hml:∀X:Heap,zit (K l++X) [.map 3]=some (.pv none (.int .i64 (l.length:Int))):=fun X=>by
   simp[zit,hK3,zaZ,zmW]
  have hms:∀X:Heap,zb3 false none (K l++X) [.map 3,.pv none (.int .i64 u.n),.pv none (.int .i64 (l.length:Int))]=some (.undef,K (l++[u.n])++X):=fun X=>by
   have:=zmX u.n l 0 hm
   rw[Nat.zero_add] at this
   rw[zcL (es:=zaZ (posF 0 l)) (hK3 _ _) (zdc _ _ _),this,hKS]
  simp -dsimp -implicitDefEqProofs only[go_sem,seval,↓reduceIte,cagg,List.append_assoc,zah,zaf,zaj,zag,Nat.add_assoc,List.length_append,Tm.av,zaQ,hlk,hml,hms,hb,zaF,zae (Nat.le_add_right _ _),hK4,hKl,getN (hKl _),zcJ (hKl _),setN (hKl _),zd7 (hKl _)]
  rw[if_neg (by simp[AV.refsIn,AV.refsIn.go])]
def appC(n:Nat)(t:Tm)(ts:List Tm)(i:Nat):Heap:=[.box (some 4) (.pv (some 4) t.pv),.box (some 4) (.agg [(none,.pv none (.int .i64 0)),(none,.pv none (.int .i64 0)),(none,.pv none (.str [])),(none,.sl (some 4) (n+2) 0 0 0)]),.arr (some 4) [] false,.box (some 4) (.agg [(none,.pv none (.int .i64 t.kind)),(none,.pv none (.int .i64 t.n)),(none,.pv none (.str t.name)),(none,.sl (some 4) (n+5) i 0 i)]),.arr (some 4) [] false,.arr (some 4) (Tm.pvs (ts.take i)) false]
theorem zsU(a b:List Tm):Tm.occs (a++b)=Tm.occs a++Tm.occs b:=by
 induction a with
 |nil=>rfl
 |cons x r ih=>rw[List.cons_append,Tm.occs,Tm.occs,ih,List.append_assoc]
theorem zl3(t0:Tm):∀(t:Tm) (l L:List Int) (ext:Heap),t.fits=true->t.size<10000000->l.length+t.size<100000000->vads l t.occ <+: L->
  ∃v e,S 30 [t.av,.func (.func 31) [] [.ptr 4 0]] (gC t0 l++ext)=some (.ret v,gC t0 (vads l t.occ)++(ext++e))/\v.shp=some 4/\v.plain=true/\(∀H,v.own H=(v,H))/\
   (∃e2,AV.freeze deep v (gC t0 (vads l t.occ)++(ext++e))=some ((Tm.sub (cPos L) t).pv,gC t0 (vads l t.occ)++(ext++e2)))/\
   ∀H:Heap,(∀j,ext.length+5<=j->H[j]? =(gC t0 (vads l t.occ)++(ext++e))[j]?)->∃H2,AV.freeze deep v H=some ((Tm.sub (cPos L) t).pv,H2):=by
 intro t
 induction t using Tm.zwl with
 |h t ih=>
  intro l L ext hf ht hl hp
  have hts:=t.size_eq
  have hlen:=Tm.zwj t.args
  obtain⟨n,hn⟩:∃n,n=ext.length+5:=⟨_,rfl⟩
  have h1:=fun X=>zq2 t0 t l (ext++X) (by omega)
  obtain⟨K,hK⟩:∃K:List Int->Heap,K=fun l=>gC t0 l++ext:=⟨_,rfl⟩
  have hKs:∀l,gC t0 l++ext=K l:=fun l=>by rw[hK]
  have hKl:∀l,(K l).length=n:=fun l=>by rw[<-hKs,ztw,hn]
  have hKa:∀l X,gC t0 l++(ext++X)=K l++X:=fun l X=>by rw[<-hKs,List.append_assoc]
  simp only[<-hn]
  simp only[List.append_assoc] at h1
  simp only[hKa] at h1
  simp only[hKa,hKs]
  rw[Tm.zwr] at hp ⊢
  by_cases hk:t.kind=0
  ·rw[if_pos hk] at hp ⊢
   have e1:vads l [t.n]=vadd l t.n:=rfl
   rw[e1] at hp ⊢
   have e2:Tm.sub (cPos L) t=tvar ((vadd l t.n).idxOf t.n:Nat):=by
    rw[Tm.zwx,if_pos hk]
    unfold cPos
    rw[zq3 (zsW l t.n) hp]
   rw[e2]
   generalize (((vadd l t.n).idxOf t.n:Nat):Int)=k at*
   generalize vadd l t.n=l2 at*
   refine⟨cagg k (n+6),[.box (some 4) (.pv (some 4) t.pv),.box (some 4) (cagg k (n+6)),.arr (some 4) [] false,.box (some 4) (.pv (some 4) t.pv),.box (some 4) (cagg k (n+6)),.arr (some 4) [] false,.arr (some 4) [] false],?_,rfl,rfl,fun _=>rfl,?_,fun H hH=> ?_⟩
   ·unfold cagg
    refine zaG rfl rfl rfl rfl ?_
    have hk':=eq_true hk
    have h2:=h1 [.box (some 4) (.pv (some 4) t.pv),.box (some 4) (cagg 0 (n+2)),.arr (some 4) [] false] (n+3) (by rw[hn];simp)
    simp only[Tm.av,cagg,List.cons_append,List.nil_append] at h2
    rw[hKl]
    simp -dsimp -implicitDefEqProofs only[go_sem,seval,↓reduceIte,Tm.av,cagg,zak,hk',h2,zaF,List.append_assoc,zah,zaf,zaj,zag,Nat.add_assoc,List.length_append,hKl,getN (hKl _),zcJ (hKl _),setN (hKl _),zd7 (hKl _),zae (Nat.le_add_right _ _)]
    rw[if_neg (by simp[AV.refsIn,AV.refsIn.go])]
   ·refine⟨[.box (some 4) (.pv (some 4) t.pv),.box (some 4) (cagg k (n+6)),.arr (some 4) [] false,.box (some 4) (.pv (some 4) t.pv),.box (some 4) (cagg k (n+6)),.arr (some 4) [] false,.arr (some 4) [] true],?_⟩
    rw[zhe (by rw[getN (hKl _)];rfl),setN (hKl _)]
    rfl
   ·exact⟨_,zhe (by rw[hH _ (by omega),getN (hKl _)];rfl)⟩
  ·rw[if_neg hk] at hp ⊢
   rw[zhh hk]
   obtain⟨ts',hts'⟩:∃ts',ts'=t.args.map (Tm.sub (cPos L)):=⟨_,rfl⟩
   have htl:ts'.length=t.args.length:=by rw[hts',List.length_map]
   rw[<-hts']
   refine⟨.agg [(none,.pv none (.int .i64 t.kind)),(none,.pv none (.int .i64 t.n)),(none,.pv none (.str t.name)),(none,.sl (some 4) (n+5) t.args.length 0 t.args.length)],
    [.box (some 4) (.pv (some 4) t.pv),.box (some 4) (.agg [(none,.pv none (.int .i64 t.kind)),(none,.pv none (.int .i64 t.n)),(none,.pv none (.str t.name)),(none,.sl (some 4) (n+5) t.args.length 0 t.args.length)]),.arr (some 4) [] false,.box (some 4) (.agg [(none,.pv none (.int .i64 t.kind)),(none,.pv none (.int .i64 t.n)),(none,.pv none (.str t.name)),(none,.sl (some 4) (n+5) t.args.length 0 t.args.length)]),.arr (some 4) [] false,.arr (some 4) (Tm.pvs ts') false],?_,rfl,rfl,fun _=>rfl,?_,?_⟩
   ·refine zaG rfl rfl rfl rfl ?_
    have hk':=eq_false hk
    have hb:zaP [(none,.pv none (.int .i64 0)),(none,.pv none (.int .i64 0)),(none,.pv none (.str [])),(none,.tsl (some 4) [])] [0,1,2] [.pv none (.int .i64 t.kind),.pv none (.int .i64 t.n),.pv none (.str t.name)]=some (.agg [(none,.pv none (.int .i64 t.kind)),(none,.pv none (.int .i64 t.n)),(none,.pv none (.str t.name)),(none,.tsl (some 4) [])]):=rfl
    have hle:∀k,n<=n+k:=fun k=>Nat.le_add_right _ _
    rw[hKl]
    simp -dsimp -implicitDefEqProofs only[go_sem,seval,↓reduceIte,Tm.av,zak,zaQ,zan,zad,hk',Tm.pvs_len,hb,zae (Nat.le_add_right _ _),List.append_assoc,zah,zaf,zaj,zag,Nat.add_assoc,List.length_append,hKl,getN (hKl _),zcJ (hKl _),setN (hKl _),zd7 (hKl _)]
    refine zcK (α:=Unit) t.args.length (fun _ _=>True) (fun i _=>⟨[(1,.func (.func 31) [] [.ptr 4 0]),(4,.ptr (n+1) 0),(5,.ptr (n+3) 0),(22,.pv none (.sl (some 4) (Tm.pvs t.args))),(23,.pv none (.int .i64 t.args.length)),(24,.pv none (.int .i64 i))],K (vads l (Tm.occs (t.args.take i)))++appC n t ts' i⟩) () ⟨trivial,?_⟩ ?_ ?_
    ·rw[List.take_zero]
     rfl
    ·rintro i - h -
     have hc:(i:Int)<(t.args.length:Int):=by omega
     obtain⟨u,hu⟩:∃u,t.args[i]? =some u:=⟨_,List.getElem?_eq_getElem h⟩
     have hum:=List.mem_of_getElem? hu
     have husz:=Tm.zwk hum
     have hst:=Tm.zwt hu
     have hle2:=Tm.zwo t.args (i+1)
     have hvl:=zjs (Tm.occs (t.args.take i)) l
     have hol:=Tm.zwH (t.args.take i)
     have hpre:vads (vads l (Tm.occs (t.args.take i))) u.occ <+: L:=by
      rw[<-zgw,<-Tm.zwE hu]
      refine List.IsPrefix.trans ?_ hp
      have e:=List.take_append_drop (i+1) t.args
      rw[<-e,zsU,zgw,e]
      exact zmZ _ _
     obtain⟨v,e,hcall,hvs,hvp,_,⟨e2,hfz⟩,_⟩:=ih u hum (vads l (Tm.occs (t.args.take i))) L (ext++(appC n t ts' i++[.box (some 4) (.pv (some 4) u.pv),.arr (some 4) [] false])) (Tm.zwm hf hum) (by omega) (by omega) hpre
     rw[<-zgw,<-Tm.zwE hu] at hcall hfz
     simp only[List.append_assoc,hKa] at hcall hfz
     generalize vads l (Tm.occs (t.args.take (i+1)))=l2 at hcall hfz ⊢
     generalize vads l (Tm.occs (t.args.take i))=l1 at hcall hfz hvl ⊢
     have w2:IntKind.i64.wrap ((i:Int)+1)=((i+1:Nat):Int):=by rw[zaq (by omega) (by omega)];omega
     have hl:(Tm.pvs (ts'.take i)).length=i:=by rw[Tm.pvs_len,List.length_take];omega
     have hlim:i+1<=lim:=by unfold lim;omega
     have hus:ts'[i]? =some (Tm.sub (cPos L) u):=by rw[hts'];simp[hu]
     have hbs:zbq (some 4) (K l2++(appC n t ts' i++([.box (some 4) (.pv (some 4) u.pv),.arr (some 4) [] false]++e))) [v]=some (.tsl (some 4) [(Tm.sub (cPos L) u).pv],K l2++(appC n t ts' i++([.box (some 4) (.pv (some 4) u.pv),.arr (some 4) [] false]++e2))):=by
      simp only[zbq,zal,hfz,hvs,zbb,if_true]
     have hs1:∀(k k':List Int) (e e':Heap),zbF (K k++(appC n t ts' i++e)) (K k'++(appC n t ts' i++e')) (.ptr (n+3) 3)=true:=fun k k' e e'=>zhd (t:=t) (q:=n+5) (i:=i) (by rw[getN (hKl _)];rfl) (by rw[getN (hKl _)];rfl)
     simp only[Tm.av] at hcall
     simp only[appC,List.append_assoc,List.cons_append,List.nil_append] at hcall hbs hs1
     simp -dsimp -implicitDefEqProofs only[go_sem,seval,↓reduceIte,appC,hc,zac (Tm.pvs_get hu),zda,List.take_succ_cons,List.drop_succ_cons,List.all_cons,List.all_nil,hcall,hbs,hs1,w2,hl,hlim,Tm.zwp hus,zae (Nat.le_add_right _ _),zbu (Nat.le_add_right _ _),List.append_assoc,zah,zaf,zaj,zag,Nat.add_assoc,List.length_append,hKl,getN (hKl _),zcJ (hKl _),setN (hKl _),zd7 (hKl _)]
     refine⟨(),?_⟩
     rw[za2 6 (hKl _) rfl (by simp[AObj.refs,AV.ofComps,pures,AV.refsIn,AV.refsIn.go]) (by simp[AV.refsIn,AV.refsIn.gol])]
     rfl
    ·rintro - -
     have hc:¬(t.args.length:Int)<(t.args.length:Int):=by omega
     have htk:ts'.take t.args.length=ts':=List.take_of_length_le (by omega)
     simp -dsimp -implicitDefEqProofs only[go_sem,seval,↓reduceIte,appC,hc,List.take_length,htk,zaF,zae (Nat.le_add_right _ _),zbu (Nat.le_add_right _ _),List.append_assoc,zah,zaf,zaj,zag,Nat.add_assoc,List.length_append,hKl,getN (hKl _),zcJ (hKl _),setN (hKl _),zd7 (hKl _)]
     rw[if_neg (by simp[AV.refsIn,AV.refsIn.go])]
   ·have e:∀l hp,AV.freeze (7+1) (.agg l) hp=match AV.freeze.go 7 l hp with|some (ps,hp')=>some (.agg ps,hp')|none=>none:=fun _ _=>rfl
    refine⟨[.box (some 4) (.pv (some 4) t.pv),.box (some 4) (.agg [(none,.pv none (.int .i64 t.kind)),(none,.pv none (.int .i64 t.n)),(none,.pv none (.str t.name)),(none,.sl (some 4) (n+5) t.args.length 0 t.args.length)]),.arr (some 4) [] false,.box (some 4) (.agg [(none,.pv none (.int .i64 t.kind)),(none,.pv none (.int .i64 t.n)),(none,.pv none (.str t.name)),(none,.sl (some 4) (n+5) t.args.length 0 t.args.length)]),.arr (some 4) [] false,.arr (some 4) (Tm.pvs ts') true],?_⟩
    show AV.freeze (7+1) (.agg _) _=_
    simp[e,AV.freeze.go,AV.freeze,getN (hKl _),setN (hKl _),htl,Tm.pvs_len,Tm.pv]
   ·intro H hH
    have h5:=hH (n+5) (by omega)
    rw[getN (hKl _)] at h5
    have e:∀l hp,AV.freeze (7+1) (.agg l) hp=match AV.freeze.go 7 l hp with|some (ps,hp')=>some (.agg ps,hp')|none=>none:=fun _ _=>rfl
    refine⟨H.set (n+5) (.arr (some 4) (Tm.pvs ts') true),?_⟩
    show AV.freeze (7+1) (.agg _) _=_
    simp only[List.getElem?_cons_succ,List.getElem?_cons_zero] at h5
    simp[e,AV.freeze.go,AV.freeze,h5,htl,Tm.pvs_len,Tm.pv]
def canR(t:Tm):Tm:=if t.valid=true then canT t else zt
theorem ze2(t:Tm)(hp:Heap)(ht:t.size<1000000000):S 7 [t.av] hp=some (.ret (canR t).av,hp):=by
 refine zam rfl rfl rfl (zab [(some 4,t.pv)]) rfl ?_
 have h1:=fun hp=>za9 t hp ht
 unfold canR
 by_cases hv:t.valid=true
 ·rw[if_pos hv]
  have hsz:=valid_size hv
  obtain⟨v,e,h2,h3,h4,h5,_,h6⟩:=zl3 t t [] (vads [] t.occ) [] (valid_fits hv) (by omega) (by simp;omega) (List.prefix_refl _)
  rw[hv] at h1
  simp only[Tm.av,gC,cagg,List.cons_append,List.nil_append] at h1 h2
  have hmk:∀(a0 a1 a2:AObj),za5 none 0 [a0,a1,a2,.map none [],.box none (.pv none .nilmap)] [.ptr 4 0,.map 3]=some (.undef,[a0,a1,a2,.map none [],.box none (.map 3)]):=fun _ _ _=>rfl
  have e0:zaZ (posF 0 [])=[]:=rfl
  rw[e0] at h2
  have hst:∀(a0 a2 a3 a4:AObj),za5 (some 4) 0 (a0::.box (some 4) (.agg [(none,.pv none (.int .i64 0)),(none,.pv none (.int .i64 0)),(none,.pv none (.str [])),(none,.sl (some 4) 2 0 0 0)])::a2::a3::a4::e) [.ptr 1 0,v]=some (.undef,a0::.box (some 4) v::a2::a3::a4::e):=fun _ _ _ _=>by
   simp[za5,astore,h3,h4,h5]
  have hfr:∀(a0 a1 a2 a3 a4:AObj),Am.frozen (canT t).av v (a0::a1::a2::a3::a4::e):=fun a0 a1 a2 a3 a4=>by
   obtain⟨H2,k⟩:=h6 (a0::a1::a2::a3::a4::e) fun j hj=>by
    match j,hj with
    |j+5,_=>rfl
   exact zkD h3 h4 k
  simp -dsimp -implicitDefEqProofs only[go_sem,seval,↓reduceIte,Tm.av,h1,h2,hst,hmk,zae (Nat.zero_le _)]
  exact hfr _ _ _ _ _
 ·rw[if_neg hv]
  have hv':t.valid=false:=by simpa using hv
  rw[hv'] at h1
  simp only[Tm.av] at h1
  simp -dsimp -implicitDefEqProofs only[go_sem,seval,↓reduceIte,Tm.av,h1,zae (Nat.zero_le _),zt]
  exact⟨_,rfl⟩
theorem zsT(hp:Heap)(x:Int):S 77 [.pv none (.int .i64 x)] hp=some (.ret (.pv none (.bool false)),hp):=by
 refine zam rfl rfl rfl (zab [(none,.int .i64 x)]) rfl ?_
 (repeat' (first|(simp -dsimp -implicitDefEqProofs only[go_sem,seval,↓reduceIte, *])|(refine zau (fun _=> ?_) (fun _=> ?_))))
theorem zq1(hp:Heap)(x y:Int):S 65 [.pv none (.int .i64 x),.pv none (.int .i64 y)] hp=some (.ret (.pv none (.int .i64 (cmpI x y))),hp):=by
 refine zam rfl rfl rfl (zab [(none,.int .i64 x),(none,.int .i64 y)]) rfl ?_
 (repeat' (first|(simp -dsimp -implicitDefEqProofs only[go_sem,seval,↓reduceIte,zsT,cmpI, *])|(refine zau (fun _=> ?_) (fun _=> ?_))))
theorem zkE(hp:Heap)(x y:List UInt8):S 79 [.pv none (.str x),.pv none (.str y)] hp=some (.ret (.pv none (.int .i64 (Lib.compareBytes x y))),hp):=by
 refine zam rfl rfl rfl (zab [(none,.str x),(none,.str y)]) rfl ?_
 have h:∀hp,S 89 [.pv none (.str x),.pv none (.str y)] hp=some (.ret (.pv none (.int .i64 (Lib.compareBytes x y))),hp):=fun hp=>(zi8 (p:=zi0) rfl _ _).trans rfl
 (repeat' (first|(simp -dsimp -implicitDefEqProofs only[go_sem,seval,↓reduceIte, *])|(refine zau (fun _=> ?_) (fun _=> ?_))))
theorem zfD(hp:Heap)(x y:List UInt8):S 67 [.pv none (.str x),.pv none (.str y)] hp=some (.ret (.pv none (.int .i64 (Lib.compareBytes x y))),hp):=by
 refine zam rfl rfl rfl (zab [(none,.str x),(none,.str y)]) rfl ?_
 (repeat' (first|(simp -dsimp -implicitDefEqProofs only[go_sem,seval,↓reduceIte,zkE, *])|(refine zau (fun _=> ?_) (fun _=> ?_))))
theorem zkF(a b:Tm)(ih:∀u,u∈a.args->∀(b:Tm) (hp:Heap),u.size<1000000000->u.fits=true->b.fits=true->S 40 [u.av,b.av] hp=some (.ret (.pv none (.int .i64 (u.cmp b))),hp))
  (ha:a.size<1000000000)(fa:a.fits=true)(fb:b.fits=true)(hlb:a.args.length=b.args.length)(p:PV)(fr:Fr)(Q:AExit->St->Prop)
  (hfr:fr.keep [3,57,58,59]=[(3,.ptr 1 0),(57,.pv none (.sl (some 4) (Tm.pvs a.args))),(58,.pv none (.int .i64 (a.args.length:Int))),(59,.pv none (.int .i64 0))])
  (h:Tm.cmps a.args b.args=0->∀fr hp,Q (.exit 0) ⟨fr,hp⟩)(h':Tm.cmps a.args b.args≠0->∀hp r,Q .ret ⟨(4,.pv none (.int .i64 (Tm.cmps a.args b.args)))::r,hp⟩):
  W (sem (find tab) prim) (sloop (find tab) prim) 0 (.loop [3,57,58,59] c40b27) ⟨fr,[.box (some 4) (.pv (some 4) a.pv),.box (some 4) (.pv (some 4) b.pv),.box (some 4) (.pv (some 4) p)]⟩ Q:=by
 have hts:=a.size_eq
 have hlen:=Tm.zwj a.args
 refine zba (fun n st=>∃(i:Nat),n=a.args.length - i/\i<=a.args.length/\Tm.cmps a.args b.args=Tm.cmps (a.args.drop i) (b.args.drop i)/\
  st=⟨[(3,.ptr 1 0),(57,.pv none (.sl (some 4) (Tm.pvs a.args))),(58,.pv none (.int .i64 (a.args.length:Int))),(59,.pv none (.int .i64 i))],[.box (some 4) (.pv (some 4) a.pv),.box (some 4) (.pv (some 4) b.pv),.box (some 4) (.pv (some 4) p)]⟩) (n:=a.args.length) ⟨0,rfl,Nat.zero_le _,rfl,?_⟩ ?_
 ·rw[hfr]
  rfl
 ·rintro n st ⟨i,hn,hi,he,rfl⟩
  by_cases hi':i<a.args.length
  ·have hc:(i:Int)<(a.args.length:Int):=by omega
   obtain⟨u,hu⟩:∃u,a.args[i]? =some u:=⟨_,List.getElem?_eq_getElem hi'⟩
   obtain⟨w,hw⟩:∃w,b.args[i]? =some w:=⟨_,List.getElem?_eq_getElem (by omega)⟩
   have hum:=List.mem_of_getElem? hu
   have husz:=Tm.zwk hum
   have hcall:=fun hp=>ih u hum w hp (by omega) (Tm.zwm fa hum) (Tm.zwm fb (List.mem_of_getElem? hw))
   simp only[Tm.av] at hcall
   have w2:IntKind.i64.wrap ((i:Int)+1)=((i+1:Nat):Int):=by rw[zaq (by omega) (by omega)];omega
   rw[Tm.zwD hu hw] at he
   by_cases h0:u.cmp w=0
   ·rw[h0,zfx] at he
    simp -dsimp -implicitDefEqProofs only[c40b27,go_sem,seval,↓reduceIte,zad,Tm.pvs_len,hc,zac (Tm.pvs_get hu),zac (Tm.pvs_get hw),hcall,w2,h0]
    refine⟨a.args.length - (i+1),by omega,i+1,rfl,by omega,he,?_⟩
    rfl
   ·simp -dsimp -implicitDefEqProofs only[c40b27,go_sem,seval,↓reduceIte,zad,Tm.pvs_len,hc,zac (Tm.pvs_get hu),zac (Tm.pvs_get hw),hcall,w2,h0]
    rw[zi9 h0] at he
    have:=h' (by rw[he];exact h0)
    rw[he] at this
    exact this _ _
  ·have hc:¬(i:Int)<(a.args.length:Int):=by omega
   obtain rfl:i=a.args.length:=by omega
   simp -dsimp -implicitDefEqProofs only[c40b27,go_sem,seval,↓reduceIte,zad,Tm.pvs_len,hc]
   rw[List.drop_length,Tm.zwu] at he
   exact h he _ _

set_option maxHeartbeats 4000000 in
theorem zfE:∀(a b:Tm) (hp:Heap),a.size<1000000000->a.fits=true->b.fits=true->S 40 [a.av,b.av] hp=some (.ret (.pv none (.int .i64 (a.cmp b))),hp):=by
 intro a
 induction a using Tm.zwl with
 |h a ih=>
  intro b hp ha fa fb
  refine zam rfl rfl rfl (zab [(some 4,a.pv),(some 4,b.pv)]) rfl ?_
  rw[Tm.zww]
  have loop:=zkF a b ih ha fa fb
  clear ih
  have hb:zaP [(none,(.pv none (.int .i64 (0)))),(none,(.pv none (.int .i64 (0)))),(none,(.pv none (.int .i64 (0)))),(none,(.pv none (.int .i64 (0))))] [0,1,2,3] [.pv none (.int .i64 (0)),.pv none (.int .i64 (1)),.pv none (.int .i64 (2)),.pv none (.int .i64 (3))]=some (.pv (some 4) (.agg [(none,.int .i64 0),(none,.int .i64 1),(none,.int .i64 2),(none,.int .i64 3)])):=rfl
  have h0:∀r:Nat,zbT none 4 [.ptr r 0,.pv none (.int .i64 0)]=some (.ptr r 0):=fun r=>rfl
  have h1:∀r:Nat,zbT none 4 [.ptr r 0,.pv none (.int .i64 1)]=some (.ptr r 1):=fun r=>by rw[zdJ none (by decide)];simp[Sh.size]
  have h2:∀r:Nat,zbT none 4 [.ptr r 0,.pv none (.int .i64 2)]=some (.ptr r 2):=fun r=>by rw[zdJ none (by decide)];simp[Sh.size]
  have h3:∀r:Nat,zbT none 4 [.ptr r 0,.pv none (.int .i64 3)]=some (.ptr r 3):=fun r=>by rw[zdJ none (by decide)];simp[Sh.size]
  have hc:=zqQ
  have hcmp:=zq1
  have hcmp64:=zha
  have hstr:=zfD
  have fin:Kept (a.name=[]->a.args=[]->b.name=[]->b.args=[]->AV.pv none (.int .i64 (cmpI a.n b.n))=AV.pv none (.int .i64 (if cmpI a.n b.n=0 then if cmpI (a.args.length:Int) (b.args.length:Int)=0 then if Lib.compareBytes a.name b.name=0 then Tm.cmps a.args b.args else Lib.compareBytes a.name b.name else cmpI (a.args.length:Int) (b.args.length:Int) else cmpI a.n b.n))):=by
   intro h1 h2 h3 h4
   rw[h1,h2,h3,h4]
   simp only[show cmpI (([]:List Tm).length:Int) (([]:List Tm).length:Int)=0 from by decide,Lib.compareBytes,Tm.cmps,if_true]
   split <;> simp_all
  have hlen:Kept (cmpI (a.args.length:Int) (b.args.length:Int)=0->a.args.length=b.args.length):=fun h=>by have:=cmpI_zero.1 h;omega
  rcases Tm.zwG fa with⟨ka,xa,ya⟩|⟨ka,xa,ya⟩|⟨ka,xa,ya⟩|⟨ka,xa⟩ <;>
  rcases Tm.zwG fb with⟨kb,xb,yb⟩|⟨kb,xb,yb⟩|⟨kb,xb,yb⟩|⟨kb,xb⟩ <;> (try replace ya:=Kept.mk ya) <;> (try replace yb:=Kept.mk yb) <;> (try replace xa:=Kept.mk (show a.name=[] from xa)) <;> (try replace xb:=Kept.mk (show b.name=[] from xb))
  all_goals (repeat' (first|(simp -dsimp -implicitDefEqProofs only[go_sem,seval,↓reduceIte,zak,zaQ,zan,zad,Tm.pvs_len,zc5, *])|(refine zau (fun _=> ?_) (fun _=> ?_))))
  all_goals first
   |(exact fin xa ya xb yb)
   |(refine loop (hlen.out (by assumption)) _ _ _ rfl (fun hz fr hp=> ?_) (fun hz hp r=> ?_) <;> simp -dsimp -implicitDefEqProofs only[go_sem,seval,↓reduceIte,zc5,zcI, *])
   |trace_state
theorem zdS(fv:AV)(hp:Heap)(r:Nat)(hr:r<hp.length)(a b n N:Nat)(P X M Y R:List PV)(hP:P.length=a)(hX:X.length=n)(hY:Y.length=n)(hb:b=a+n+M.length)(hN:N=(P++X++M++Y++R).length)(hN':N<1000000000):
  S 103 [.sl (some 4) r N 0 N,.pv none (.int .i64 a),.pv none (.int .i64 b),.pv none (.int .i64 n),fv] (hp.set r (.arr (some 4) (P++X++M++Y++R) false))=some (.ret (.tuple []),hp.set r (.arr (some 4) (P++Y++M++X++R) false)):=by
 refine zaG rfl rfl rfl rfl ?_
 have e1:∀A,(hp.set r A)[r]? =some A:=fun A=>by simp[hr]
 have hNl:N=P.length+n+M.length+n+R.length:=by rw[hN];simp[hX,hY];omega
 simp -dsimp -implicitDefEqProofs only[go_sem,seval,↓reduceIte]
 refine zba (fun k st=>∃(i:Nat) (X1 X2 Y1 Y2:List PV),k=n - i/\i<=n/\X=X1++X2/\Y=Y1++Y2/\X1.length=i/\Y1.length=i/\st=⟨[(0,.sl (some 4) r N 0 N),(1,.pv none (.int .i64 a)),(2,.pv none (.int .i64 b)),(3,.pv none (.int .i64 n)),(10,.pv none (.int .i64 i))],hp.set r (.arr (some 4) (P++Y1++X2++M++X1++Y2++R) false)⟩) (n:=n) ⟨0,[],X,[],Y,rfl,Nat.zero_le _,rfl,rfl,rfl,rfl,?_⟩ ?_
 ·simp -dsimp -implicitDefEqProofs only[go_sem,seval,↓reduceIte]
  simp
 ·rintro k st ⟨i,X1,X2,Y1,Y2,hk,hi,eX,eY,lX,lY,rfl⟩
  have l2X:X2.length=n - i:=by rw[eX] at hX;simp at hX;omega
  have l2Y:Y2.length=n - i:=by rw[eY] at hY;simp at hY;omega
  have hlen:(P++Y1++X2++M++X1++Y2++R).length=N:=by simp;omega
  by_cases h:i<n
  ·have hc:(i:Int)<(n:Int):=by omega
   obtain⟨x,X2,rfl⟩:∃x l,X2=x::l:=by cases X2 with|nil=>simp at l2X;omega|cons x l=>exact⟨x,l,rfl⟩
   obtain⟨y,Y2,rfl⟩:∃x l,Y2=x::l:=by cases Y2 with|nil=>simp at l2Y;omega|cons x l=>exact⟨x,l,rfl⟩
   have w1:IntKind.i64.wrap ((a:Int)+(i:Int))=((a+i:Nat):Int):=by rw[zaq (by omega) (by omega)];omega
   have w2:IntKind.i64.wrap ((b:Int)+(i:Int))=((b+i:Nat):Int):=by rw[zaq (by omega) (by omega)];omega
   have w3:IntKind.i64.wrap ((i:Int)+1)=((i+1:Nat):Int):=by rw[zaq (by omega) (by omega)];omega
   have la:a+i<N:=by omega
   have lb:b+i<N:=by omega
   have s1:P++Y1++x::X2++M++X1++y::Y2++R=(P++Y1)++x::(X2++M++X1++y::Y2++R):=by simp
   have s2:P++Y1++x::X2++M++X1++y::Y2++R=(P++Y1++x::X2++M++X1)++y::(Y2++R):=by simp
   have g1:(P++Y1++x::X2++M++X1++y::Y2++R)[a+i]? =some x:=by rw[s1];exact zdM (by simp;omega)
   have g2:(P++Y1++x::X2++M++X1++y::Y2++R)[b+i]? =some y:=by rw[s2];exact zdM (by simp at l2X ⊢;omega)
   have g3:((P++Y1++x::X2++M++X1++y::Y2++R).set (a+i) y).set (b+i) x=P++(Y1++[y])++X2++M++(X1++[x])++Y2++R:=by
    rw[s1,zdN (by simp;omega)]
    have s3:(P++Y1)++y::(X2++M++X1++y::Y2++R)=(P++Y1++y::X2++M++X1)++y::(Y2++R):=by simp
    rw[s3,zdN (by simp at l2X ⊢;omega)]
    simp
   generalize hxs:P++Y1++x::X2++M++X1++y::Y2++R=xs at g1 g2 g3 hlen ⊢
   simp -dsimp -implicitDefEqProofs only[go_sem,seval,↓reduceIte,hc,w1,w2,w3,zap la,zap lb,zaK,zck,e1,g1,g2,hlen,List.length_set,List.set_set,la,lb,g3]
   refine⟨n - (i+1),by omega,i+1,X1++[x],X2,Y1++[y],Y2,rfl,by omega,by simp[eX],by simp[eY],by simp[lX],by simp[lY],?_⟩
   rw[zay (by simp)]
  ·have hc:¬(i:Int)<(n:Int):=by omega
   obtain rfl:i=n:=by omega
   have:X2=[]:=List.length_eq_zero_iff.1 (by omega)
   subst this
   have:Y2=[]:=List.length_eq_zero_iff.1 (by omega)
   subst this
   simp -dsimp -implicitDefEqProofs only[go_sem,seval,↓reduceIte,hc]
   rw[List.take_of_length_le (by simp)]
   simp[eX,eY]

theorem zrz(fv:AV)(hp:Heap)(r:Nat)(hr:r<hp.length)(a m b N:Nat)(P U V R:List PV)(hP:P.length=a)(hU:m=a+U.length)(hV:b=m+V.length)(hN:N=(P++U++V++R).length)(hN':N<1000000000)(hU0:0<U.length)(hV0:0<V.length):
  S 98 [.sl (some 4) r N 0 N,.pv none (.int .i64 a),.pv none (.int .i64 m),.pv none (.int .i64 b),fv] (hp.set r (.arr (some 4) (P++U++V++R) false))=some (.ret (.tuple []),hp.set r (.arr (some 4) (P++V++U++R) false)):=by
 refine zaG rfl rfl rfl rfl ?_
 have hNl:N=P.length+U.length+V.length+R.length:=by(rw[hN];simp <;> omega)
 have w1:IntKind.i64.wrap ((m:Int) - (a:Int))=((U.length:Nat):Int):=by rw[zaq (by omega) (by omega)];omega
 have w2:IntKind.i64.wrap ((b:Int) - (m:Int))=((V.length:Nat):Int):=by rw[zaq (by omega) (by omega)];omega
 simp -dsimp -implicitDefEqProofs only[go_sem,seval,↓reduceIte,w1,w2]
 refine zba (fun k st=>∃(i j:Nat) (P' X Y R':List PV),k=i+j/\0<i/\0<j/\X.length=i/\Y.length=j/\P'.length+i=m/\P'++Y++X++R'=P++V++U++R/\(P'++X++Y++R').length=N/\st=⟨[(0,.sl (some 4) r N 0 N),(2,.pv none (.int .i64 m)),(4,fv),(10,.pv none (.int .i64 i)),(11,.pv none (.int .i64 j))],hp.set r (.arr (some 4) (P'++X++Y++R') false)⟩) (n:=U.length+V.length) ⟨U.length,V.length,P,U,V,R,rfl,hU0,hV0,rfl,rfl,by omega,rfl,hN.symm,?_⟩ ?_
 ·simp -dsimp -implicitDefEqProofs only[go_sem,seval,↓reduceIte]
 ·rintro k st ⟨i,j,P',X,Y,R',hk,i0,j0,lX,lY,lP,hT,hL,rfl⟩
  have hLn:P'.length+i+j+R'.length=N:=by(rw[<-hL];simp <;> omega)
  by_cases hij:i=j
  ·have hc:(i:Int)=(j:Int):=by omega
   have w3:IntKind.i64.wrap ((m:Int) - (j:Int))=((P'.length:Nat):Int):=by rw[zaq (by omega) (by omega)];omega
   have hcall:=zdS fv hp r hr P'.length m j N P' X [] Y R' rfl (by omega) (by omega) (by(simp <;> omega)) (by simp at hL ⊢;omega) hN'
   simp only[List.append_nil] at hcall
   rw[hT] at hcall
   simp -dsimp -implicitDefEqProofs only[go_sem,seval,↓reduceIte,hc,w3,hcall]
   rw[List.take_of_length_le (by simp)]
  ·have hc:¬(i:Int)=(j:Int):=by omega
   by_cases hgt:j<i
   ·have hc2:(j:Int)<(i:Int):=by omega
    have w3:IntKind.i64.wrap ((m:Int) - (i:Int))=((P'.length:Nat):Int):=by rw[zaq (by omega) (by omega)];omega
    have w4:IntKind.i64.wrap ((i:Int) - (j:Int))=((i - j:Nat):Int):=by rw[zaq (by omega) (by omega)];omega
    have eX:X=X.take j++X.drop j:=(List.take_append_drop j X).symm
    have hcall:=zdS fv hp r hr P'.length m j N P' (X.take j) (X.drop j) Y R' rfl (by(simp <;> omega)) (by omega) (by(simp <;> omega)) (by(rw[<-hL];simp <;> omega)) hN'
    have e0:P'++X.take j++X.drop j++Y++R'=P'++X++Y++R':=by simp
    rw[e0] at hcall
    simp -dsimp -implicitDefEqProofs only[go_sem,seval,↓reduceIte,hc,hc2,w3,w4,hcall]
    refine⟨i - j+j,by omega,i - j,j,P'++Y,X.drop j,X.take j,R',rfl,by omega,by omega,by(simp <;> omega),by(simp <;> omega),by(simp <;> omega),?_,?_,?_⟩
    ·rw[<-hT];simp
    ·rw[<-hL];simp <;> omega
    ·rw[zay (by simp)]
   ·have hc2:¬(j:Int)<(i:Int):=by omega
    have w3:IntKind.i64.wrap ((m:Int) - (i:Int))=((P'.length:Nat):Int):=by rw[zaq (by omega) (by omega)];omega
    have w4:IntKind.i64.wrap ((j:Int) - (i:Int))=((j - i:Nat):Int):=by rw[zaq (by omega) (by omega)];omega
    have w5:IntKind.i64.wrap ((m:Int)+(j:Int))=((m+j:Nat):Int):=by rw[zaq (by omega) (by omega)];omega
    have w6:IntKind.i64.wrap (((m+j:Nat):Int) - (i:Int))=((m+j - i:Nat):Int):=by rw[zaq (by omega) (by omega)];omega
    have hcall:=zdS fv hp r hr P'.length (m+j - i) i N P' X (Y.take (j - i)) (Y.drop (j - i)) R' rfl lX (by(simp <;> omega)) (by(simp <;> omega)) (by(rw[<-hL];simp <;> omega)) hN'
    have e0:P'++X++Y.take (j - i)++Y.drop (j - i)++R'=P'++X++Y++R':=by simp
    rw[e0] at hcall
    simp -dsimp -implicitDefEqProofs only[go_sem,seval,↓reduceIte,hc,hc2,w3,w4,w5,w6,hcall]
    refine⟨i+(j - i),by omega,i,j - i,P',Y.drop (j - i),Y.take (j - i),X++R',rfl,by omega,by omega,by(simp <;> omega),by(simp <;> omega),by omega,?_,?_,?_⟩
    ·rw[<-hT];simp
    ·rw[<-hL];simp <;> omega
    ·rw[zay (by simp)];simp

def CmpF(c:PV->PV->Int)(fv:AV)(D:PV->Prop)(hp:Heap)(r:Nat):Prop:=∃g fs cs,za8 fv=some (g,fs,cs)/\∀x y,D x->D y->∀A,S g (fs++[.pv (some 4) x,.pv (some 4) y]++cs) (hp.set r A)=some (.ret (.pv none (.int .i64 (c x y))),hp.set r A)

theorem ztd(c:PV->PV->Int)(hC:Cmp c)(fv:AV)(D:PV->Prop)(hp:Heap)(r:Nat)(hg:CmpF c fv D hp r)(hr:r<hp.length)(a b i N:Nat)(P S1 R:List PV)(t:PV)(hP:P.length=a)(hs:Srt c S1)(hi:i=a+S1.length)(hN:N=(P++S1++t::R).length)(hN':N<1000000000)(hD:∀x∈S1,D x)(hDt:D t)
  (fr:Fr)(Q:AExit->St->Prop)
  (hfr:fr.keep [0,1,2,3,8,9]=[(0,.sl (some 4) r N 0 N),(1,.pv none (.int .i64 a)),(2,.pv none (.int .i64 b)),(3,fv),(8,.pv none (.int .i64 i)),(9,.pv none (.int .i64 i))])
  (h:∀rest,Q (.exit 2) ⟨(0,.sl (some 4) r N 0 N)::(1,.pv none (.int .i64 a))::(2,.pv none (.int .i64 b))::(3,fv)::(8,.pv none (.int .i64 i))::rest,hp.set r (.arr (some 4) (P++insC c t S1++R) false)⟩):
  W Z L hp.length (.loop [0,1,2,3,8,9] c94b9) ⟨fr,hp.set r (.arr (some 4) (P++S1++t::R) false)⟩ Q:=by
 have e1:∀A,(hp.set r A)[r]? =some A:=fun A=>by simp[hr]
 have hNl:N=P.length+S1.length+R.length+1:=by rw[hN];simp;omega
 refine zba (fun k st=>∃(L1 M:List PV),k=L1.length/\S1=L1++M/\(∀m∈M,c t m<0)/\st=⟨[(0,.sl (some 4) r N 0 N),(1,.pv none (.int .i64 a)),(2,.pv none (.int .i64 b)),(3,fv),(8,.pv none (.int .i64 i)),(9,.pv none (.int .i64 ((a+L1.length:Nat):Int)))],hp.set r (.arr (some 4) (P++L1++t::M++R) false)⟩) (n:=S1.length) ⟨S1,[],rfl,by simp,by simp,?_⟩ ?_
 ·rw[hfr,hi]
  simp
 ·rintro k st ⟨L1,M,hk,hS,hM,rfl⟩
  have hSl:S1.length=L1.length+M.length:=by rw[hS];simp
  have hlen:(P++L1++t::M++R).length=N:=by simp;omega
  have fin:(∀x∈L1,¬c t x<0)->P++insC c t S1++R=P++L1++t::M++R:=fun hx=>by
   rw[hS,zib hx hM];simp
  rcases zcM L1 with rfl|⟨L2,x,rfl⟩
  ·have hc:¬((a:Nat):Int)<((a+([]:List PV).length:Nat):Int):=by simp
   have hf:=fin (by simp)
   rw[hf] at h
   simp -dsimp -implicitDefEqProofs only[c94b9,go_sem,seval,↓reduceIte,hc,Int.lt_irrefl]
   exact h _
  ·have hxl:(L2++[x]).length=L2.length+1:=by simp
   have hc:((a:Nat):Int)<((a+(L2++[x]).length:Nat):Int):=by rw[hxl];omega
   have w1:IntKind.i64.wrap (((a+(L2++[x]).length:Nat):Int) - 1)=((a+L2.length:Nat):Int):=by rw[zaq (by omega) (by omega)];omega
   have la:a+(L2++[x]).length<N:=by omega
   have lb:a+L2.length<N:=by omega
   have s1:P++(L2++[x])++t::M++R=(P++(L2++[x]))++t::(M++R):=by simp
   have s2:P++(L2++[x])++t::M++R=(P++L2)++x::(t::M++R):=by simp
   have g1:(P++(L2++[x])++t::M++R)[a+(L2++[x]).length]? =some t:=by rw[s1];exact zdM (by simp;omega)
   have g2:(P++(L2++[x])++t::M++R)[a+L2.length]? =some x:=by rw[s2];exact zdM (by simp;omega)
   have hxm:x∈S1:=by rw[hS];simp
   obtain⟨g,fs,cs,hcal,hg'⟩:=hg
   have hcall:=hg' t x hDt (hD x hxm)
   by_cases hlt:c t x<0
   ·have g3:((P++(L2++[x])++t::M++R).set (a+(L2++[x]).length) x).set (a+L2.length) t=P++L2++t::(x::M)++R:=by
     rw[s1,zdN (by simp;omega)]
     have s3:(P++(L2++[x]))++x::(M++R)=(P++L2)++x::(x::M++R):=by simp
     rw[s3,zdN (by simp;omega)]
     simp
    generalize hxs:P++(L2++[x])++t::M++R=xs at g1 g2 g3 hlen ⊢
    simp -dsimp -implicitDefEqProofs only[c94b9,go_sem,seval,↓reduceIte,hc,w1,zap la,zap lb,zaK,zck,e1,g1,g2,hlen,List.length_set,List.set_set,la,lb,g3,hcall,zcl hcal,hlt]
    refine⟨L2.length,by omega,L2,x::M,rfl,by rw[hS];simp,?_,?_⟩
    ·intro m hm
     rcases List.mem_cons.1 hm with rfl|hm
     ·exact hlt
     ·exact hM m hm
    ·rw[zay (by simp)]
   ·have hf:=fin (fun y hy=>by
     rcases List.mem_append.1 hy with hy|hy
     ·have hyx:c y x<=0:=by
       rw[hS] at hs
       have:=(List.pairwise_append.1 (List.pairwise_append.1 hs).1).2.2 y hy x (by simp)
       exact this
      intro hty
      have:=hC.lt_of_lt_le hty hyx
      exact hlt this
     ·simp at hy;subst hy;exact hlt)
    rw[hf] at h
    generalize hxs:P++(L2++[x])++t::M++R=xs at g1 g2 hlen h ⊢
    simp -dsimp -implicitDefEqProofs only[c94b9,go_sem,seval,↓reduceIte,hc,w1,zap la,zap lb,zaK,e1,g1,g2,hlen,hcall,zcl hcal,hlt]
    exact h _

theorem zgc(c:PV->PV->Int)(hC:Cmp c)(fv:AV)(D:PV->Prop)(hp:Heap)(r:Nat)(hg:CmpF c fv D hp r)(hr:r<hp.length)(a b N:Nat)(P A R:List PV)(hP:P.length=a)(hA:b=a+A.length)(hN:N=(P++A++R).length)(hN':N<1000000000)(hD:∀x∈A,D x):
  S 94 [.sl (some 4) r N 0 N,.pv none (.int .i64 a),.pv none (.int .i64 b),fv] (hp.set r (.arr (some 4) (P++A++R) false))=some (.ret (.tuple []),hp.set r (.arr (some 4) (P++isort c A++R) false)):=by
 refine zaG rfl rfl rfl rfl ?_
 have hNl:N=P.length+A.length+R.length:=by(rw[hN];simp <;> omega)
 have hsl:(hp.set r (.arr (some 4) (P++A++R) false)).length=hp.length:=by simp
 have w0:IntKind.i64.wrap ((a:Int)+1)=((a+1:Nat):Int):=by rw[zaq (by omega) (by omega)];omega
 rw[hsl]
 simp -dsimp -implicitDefEqProofs only[c94b9,go_sem,seval,↓reduceIte,w0]
 refine zba (fun n st=>∃k:Nat,n=A.length - k/\1<=k/\st=⟨[(0,.sl (some 4) r N 0 N),(1,.pv none (.int .i64 a)),(2,.pv none (.int .i64 b)),(3,fv),(8,.pv none (.int .i64 ((a+k:Nat):Int)))],hp.set r (.arr (some 4) (P++isort c (A.take k)++A.drop k++R) false)⟩) (n:=A.length - 1) ⟨1,rfl,Nat.le_refl _,?_⟩ ?_
 ·simp -dsimp -implicitDefEqProofs only[go_sem,seval,↓reduceIte]
  cases A with
  |nil=>simp[isort]
  |cons x A=>simp[isort,insC]
 ·rintro n st ⟨k,hn,hk,rfl⟩
  by_cases h:k<A.length
  ·have hc:((a+k:Nat):Int)<(b:Int):=by omega
   obtain⟨t,R1,hd⟩:∃t R1,A.drop k=t::R1:=⟨A[k],A.drop (k+1),List.drop_eq_getElem_cons h⟩
   have hd1:A.drop (k+1)=R1:=by rw[<-List.drop_drop,hd];rfl
   have ht:A.take (k+1)=A.take k++[t]:=by
    have:A[k]? =some t:=by have:=congrArg List.head? hd;simpa using this
    rw[List.take_add_one,this];rfl
   have w3:IntKind.i64.wrap (((a+k:Nat):Int)+1)=((a+(k+1):Nat):Int):=by rw[zaq (by omega) (by omega)];omega
   have hlk:(isort c (A.take k)).length=k:=by rw[zaw];simp;omega
   have e0:P++isort c (A.take k)++A.drop k++R=P++isort c (A.take k)++t::(R1++R):=by rw[hd];simp
   have hmem:∀x∈isort c (A.take k),D x:=fun x hx=>hD x (List.mem_of_mem_take ((zbv _).mem_iff.1 hx))
   have htm:D t:=hD t (List.mem_of_mem_drop (show t∈A.drop k from by rw[hd];simp))
   simp -dsimp -implicitDefEqProofs only[go_sem,seval,↓reduceIte,hc]
   rw[e0]
   refine ztd c hC fv D hp r hg hr a b (a+k) N P (isort c (A.take k)) (R1++R) t hP (zc9 hC _) (by omega) (by rw[<-e0];simp[hlk];omega) hN' hmem htm _ _ rfl fun rest=> ?_
   simp -dsimp -implicitDefEqProofs only[go_sem,seval,↓reduceIte,w3]
   refine⟨A.length - (k+1),by omega,k+1,rfl,by omega,?_⟩
   rw[zay (by simp),ht,zoo,hd1]
   simp
  ·have hc:¬((a+k:Nat):Int)<(b:Int):=by omega
   simp -dsimp -implicitDefEqProofs only[go_sem,seval,↓reduceIte,hc]
   rw[List.take_of_length_le (by simp),List.take_of_length_le (by omega),List.drop_eq_nil_of_le (by omega)]
   simp
theorem zvN(c:PV->PV->Int)(fv:AV)(D:PV->Prop)(hp:Heap)(r:Nat)(hg:CmpF c fv D hp r)(hr:r<hp.length)(xs:List PV)(N a i0 j0:Nat)(hN:xs.length=N)(hN':N<1000000000)(ha:a<N)(hj:j0<=N)(hij:i0<=j0)(hD:∀h,h<N->D (at' xs h))
  (hm:∀h h',i0<=h'->h'<=h->h<j0->c (at' xs h) (at' xs a)<0->c (at' xs h') (at' xs a)<0)
  (fr:Fr)(Q:AExit->St->Prop)
  (hfr:fr.keep [0,1,4,10,11]=[(0,.sl (some 4) r N 0 N),(1,.pv none (.int .i64 a)),(4,fv),(10,.pv none (.int .i64 i0)),(11,.pv none (.int .i64 j0))])
  (h:∀k,i0<=k->k<=j0->(∀h,i0<=h->h<k->c (at' xs h) (at' xs a)<0)->(∀h,k<=h->h<j0->¬c (at' xs h) (at' xs a)<0)->∀rest,Q (.exit 0) ⟨(0,.sl (some 4) r N 0 N)::(1,.pv none (.int .i64 a))::(4,fv)::(10,.pv none (.int .i64 k))::rest,hp.set r (.arr (some 4) xs false)⟩):
  W Z L hp.length (.loop [0,1,4,10,11] c95b11) ⟨fr,hp.set r (.arr (some 4) xs false)⟩ Q:=by
 have e1:∀A,(hp.set r A)[r]? =some A:=fun A=>by simp[hr]
 refine zba (fun n st=>∃i j:Nat,n=j - i/\i0<=i/\i<=j/\j<=j0/\(∀h,i0<=h->h<i->c (at' xs h) (at' xs a)<0)/\(∀h,j<=h->h<j0->¬c (at' xs h) (at' xs a)<0)/\
  st=⟨[(0,.sl (some 4) r N 0 N),(1,.pv none (.int .i64 a)),(4,fv),(10,.pv none (.int .i64 i)),(11,.pv none (.int .i64 j))],hp.set r (.arr (some 4) xs false)⟩) (n:=j0 - i0) ⟨i0,j0,rfl,by omega,hij,by omega,fun h h1 h2=>by omega,fun h h1 h2=>by omega,?_⟩ ?_
 ·rw[hfr]
 ·rintro n st ⟨i,j,hn,h1,h2,h3,h4,h5,rfl⟩
  by_cases hlt:i<j
  ·have hc:(i:Int)<(j:Int):=by omega
   have w1:IntKind.i64.wrap ((i:Int)+(j:Int))=((i+j:Nat):Int):=by rw[zaq (by omega) (by omega)];omega
   have w2:IntKind.u64.wrap ((i+j:Nat):Int)=((i+j:Nat):Int):=zeT (by omega) (by omega)
   have w3:IntKind.i64.wrap (((i+j:Nat):Int) / 2)=(((i+j) / 2:Nat):Int):=by rw[zaq (by omega) (by omega)];omega
   have w4:IntKind.i64.wrap ((((i+j) / 2:Nat):Int)+1)=(((i+j) / 2+1:Nat):Int):=by rw[zaq (by omega) (by omega)];omega
   have lh:(i+j) / 2<N:=by omega
   have gh:=zel (xs:=xs) (i:=(i+j) / 2) (by omega)
   have ga:=zel (xs:=xs) (i:=a) (by omega)
   obtain⟨g,fs,cs,hcal,hg'⟩:=hg
   have hcall:=hg' _ _ (hD _ lh) (hD a ha)
   by_cases h0:c (at' xs ((i+j) / 2)) (at' xs a)<0
   ·simp -dsimp -implicitDefEqProofs only[c95b11,c95b19,c95b33,c95b41,c95b62,c95r64,c95r65,c95k67,c95r68,c95k70,c95r71,c95k73,go_sem,seval,↓reduceIte,hc,zec (show 0<IntKind.bits .u64 by decide),w1,w2,w3,w4,zap lh,zap ha,zaK,e1,gh,ga,hN,hcall,zcl hcal,h0]
    refine⟨j - ((i+j) / 2+1),by omega,(i+j) / 2+1,j,rfl,by omega,by omega,h3,fun h x1 x2=>hm _ _ x1 (by omega) (by omega) h0,h5,?_⟩
    rw[zay (by simp)]
   ·simp -dsimp -implicitDefEqProofs only[c95b11,c95b19,c95b33,c95b41,c95b62,c95r64,c95r65,c95k67,c95r68,c95k70,c95r71,c95k73,go_sem,seval,↓reduceIte,hc,zec (show 0<IntKind.bits .u64 by decide),w1,w2,w3,w4,zap lh,zap ha,zaK,e1,gh,ga,hN,hcall,zcl hcal,h0]
    refine⟨(i+j) / 2 - i,by omega,i,(i+j) / 2,rfl,h1,by omega,by omega,h4,fun h x1 x2 x3=>h0 (hm _ _ (by omega) x1 x2 x3),?_⟩
    rw[zay (by simp)]
  ·have hc:¬(i:Int)<(j:Int):=by omega
   obtain rfl:i=j:=by omega
   simp -dsimp -implicitDefEqProofs only[c95b11,c95b19,c95b33,c95b41,c95b62,c95r64,c95r65,c95k67,c95r68,c95k70,c95r71,c95k73,go_sem,seval,↓reduceIte,hc]
   exact h i h1 h3 h4 h5 _
theorem zvO(c:PV->PV->Int)(fv:AV)(D:PV->Prop)(hp:Heap)(r:Nat)(hg:CmpF c fv D hp r)(hr:r<hp.length)(xs:List PV)(N m i0 j0:Nat)(hN:xs.length=N)(hN':N<1000000000)(ha:m<N)(hj:j0<=N)(hij:i0<=j0)(hD:∀h,h<N->D (at' xs h))
  (hm:∀h h',i0<=h'->h'<=h->h<j0->¬c (at' xs m) (at' xs h)<0->¬c (at' xs m) (at' xs h')<0)
  (fr:Fr)(Q:AExit->St->Prop)
  (hfr:fr.keep [0,2,4,14,15]=[(0,.sl (some 4) r N 0 N),(2,.pv none (.int .i64 m)),(4,fv),(14,.pv none (.int .i64 i0)),(15,.pv none (.int .i64 j0))])
  (h:∀k,i0<=k->k<=j0->(∀h,i0<=h->h<k->¬c (at' xs m) (at' xs h)<0)->(∀h,k<=h->h<j0->c (at' xs m) (at' xs h)<0)->∀rest,Q (.exit 4) ⟨(0,.sl (some 4) r N 0 N)::(2,.pv none (.int .i64 m))::(4,fv)::(14,.pv none (.int .i64 k))::rest,hp.set r (.arr (some 4) xs false)⟩):
  W Z L hp.length (.loop [0,2,4,14,15] c95b33) ⟨fr,hp.set r (.arr (some 4) xs false)⟩ Q:=by
 have e1:∀A,(hp.set r A)[r]? =some A:=fun A=>by simp[hr]
 refine zba (fun n st=>∃i j:Nat,n=j - i/\i0<=i/\i<=j/\j<=j0/\(∀h,i0<=h->h<i->¬c (at' xs m) (at' xs h)<0)/\(∀h,j<=h->h<j0->c (at' xs m) (at' xs h)<0)/\
  st=⟨[(0,.sl (some 4) r N 0 N),(2,.pv none (.int .i64 m)),(4,fv),(14,.pv none (.int .i64 i)),(15,.pv none (.int .i64 j))],hp.set r (.arr (some 4) xs false)⟩) (n:=j0 - i0) ⟨i0,j0,rfl,by omega,hij,by omega,fun h h1 h2=>by omega,fun h h1 h2=>by omega,?_⟩ ?_
 ·rw[hfr]
 ·rintro n st ⟨i,j,hn,h1,h2,h3,h4,h5,rfl⟩
  by_cases hlt:i<j
  ·have hc:(i:Int)<(j:Int):=by omega
   have w1:IntKind.i64.wrap ((i:Int)+(j:Int))=((i+j:Nat):Int):=by rw[zaq (by omega) (by omega)];omega
   have w2:IntKind.u64.wrap ((i+j:Nat):Int)=((i+j:Nat):Int):=zeT (by omega) (by omega)
   have w3:IntKind.i64.wrap (((i+j:Nat):Int) / 2)=(((i+j) / 2:Nat):Int):=by rw[zaq (by omega) (by omega)];omega
   have w4:IntKind.i64.wrap ((((i+j) / 2:Nat):Int)+1)=(((i+j) / 2+1:Nat):Int):=by rw[zaq (by omega) (by omega)];omega
   have lh:(i+j) / 2<N:=by omega
   have gh:=zel (xs:=xs) (i:=(i+j) / 2) (by omega)
   have ga:=zel (xs:=xs) (i:=m) (by omega)
   obtain⟨g,fs,cs,hcal,hg'⟩:=hg
   have hcall:=hg' _ _ (hD m ha) (hD _ lh)
   by_cases h0:c (at' xs m) (at' xs ((i+j) / 2))<0
   ·simp -dsimp -implicitDefEqProofs only[c95b11,c95b19,c95b33,c95b41,c95b62,c95r64,c95r65,c95k67,c95r68,c95k70,c95r71,c95k73,go_sem,seval,↓reduceIte,hc,zec (show 0<IntKind.bits .u64 by decide),w1,w2,w3,w4,zap lh,zap ha,zaK,e1,gh,ga,hN,hcall,zcl hcal,h0]
    refine⟨(i+j) / 2 - i,by omega,i,(i+j) / 2,rfl,h1,by omega,by omega,h4,fun h x1 x2=>Classical.byContradiction fun x3=>hm _ _ (by omega) x1 x2 x3 h0,?_⟩
    rw[zay (by simp)]
   ·simp -dsimp -implicitDefEqProofs only[c95b11,c95b19,c95b33,c95b41,c95b62,c95r64,c95r65,c95k67,c95r68,c95k70,c95r71,c95k73,go_sem,seval,↓reduceIte,hc,zec (show 0<IntKind.bits .u64 by decide),w1,w2,w3,w4,zap lh,zap ha,zaK,e1,gh,ga,hN,hcall,zcl hcal,h0]
    refine⟨j - ((i+j) / 2+1),by omega,(i+j) / 2+1,j,rfl,by omega,by omega,h3,fun h x1 x2=>hm _ _ x1 (by omega) (by omega) h0,h5,?_⟩
    rw[zay (by simp)]
  ·have hc:¬(i:Int)<(j:Int):=by omega
   obtain rfl:i=j:=by omega
   simp -dsimp -implicitDefEqProofs only[c95b11,c95b19,c95b33,c95b41,c95b62,c95r64,c95r65,c95k67,c95r68,c95k70,c95r71,c95k73,go_sem,seval,↓reduceIte,hc]
   exact h i h1 h3 h4 h5 _
theorem ztE(c:PV->PV->Int)(fv:AV)(D:PV->Prop)(hp:Heap)(r:Nat)(hg:CmpF c fv D hp r)(hr:r<hp.length)(xs:List PV)(N a m b mid n p i0 j0:Nat)(hN:xs.length=N)(hN':N<1000000000)(hj:j0<=N)(hp1:p<N+i0)(hp2:j0<=p+1)(hij:i0<=j0)(hD:∀h,h<N->D (at' xs h))
  (hm:∀h h',i0<=h'->h'<=h->h<j0->¬c (at' xs (p - h)) (at' xs h)<0->¬c (at' xs (p - h')) (at' xs h')<0)(hb:p<1000000000+1000000000)
  (fr:Fr)(Q:AExit->St->Prop)
  (hfr:fr.keep [0,1,2,3,4,18,19,20,21,22]=[(0,.sl (some 4) r N 0 N),(1,.pv none (.int .i64 a)),(2,.pv none (.int .i64 m)),(3,.pv none (.int .i64 b)),(4,fv),(18,.pv none (.int .i64 mid)),(19,.pv none (.int .i64 n)),(20,.pv none (.int .i64 i0)),(21,.pv none (.int .i64 j0)),(22,.pv none (.int .i64 p))])
  (h:∀k,i0<=k->k<=j0->(∀h,i0<=h->h<k->¬c (at' xs (p - h)) (at' xs h)<0)->(∀h,k<=h->h<j0->c (at' xs (p - h)) (at' xs h)<0)->
   ∀rest,Q (.exit 8) ⟨(0,.sl (some 4) r N 0 N)::(1,.pv none (.int .i64 a))::(2,.pv none (.int .i64 m))::(3,.pv none (.int .i64 b))::(4,fv)::(18,.pv none (.int .i64 mid))::(19,.pv none (.int .i64 n))::(20,.pv none (.int .i64 k))::rest,hp.set r (.arr (some 4) xs false)⟩):
  W Z L hp.length (.loop [0,1,2,3,4,18,19,20,21,22] c95b62) ⟨fr,hp.set r (.arr (some 4) xs false)⟩ Q:=by
 have e1:∀A,(hp.set r A)[r]? =some A:=fun A=>by simp[hr]
 refine zba (fun k st=>∃i j:Nat,k=j - i/\i0<=i/\i<=j/\j<=j0/\(∀h,i0<=h->h<i->¬c (at' xs (p - h)) (at' xs h)<0)/\(∀h,j<=h->h<j0->c (at' xs (p - h)) (at' xs h)<0)/\
  st=⟨[(0,.sl (some 4) r N 0 N),(1,.pv none (.int .i64 a)),(2,.pv none (.int .i64 m)),(3,.pv none (.int .i64 b)),(4,fv),(18,.pv none (.int .i64 mid)),(19,.pv none (.int .i64 n)),(20,.pv none (.int .i64 i)),(21,.pv none (.int .i64 j)),(22,.pv none (.int .i64 p))],hp.set r (.arr (some 4) xs false)⟩) (n:=j0 - i0) ⟨i0,j0,rfl,by omega,hij,by omega,fun h h1 h2=>by omega,fun h h1 h2=>by omega,?_⟩ ?_
 ·rw[hfr]
 ·rintro k st ⟨i,j,hn,h1,h2,h3,h4,h5,rfl⟩
  by_cases hlt:i<j
  ·have hc:(i:Int)<(j:Int):=by omega
   have w1:IntKind.i64.wrap ((i:Int)+(j:Int))=((i+j:Nat):Int):=by rw[zaq (by omega) (by omega)];omega
   have w2:IntKind.u64.wrap ((i+j:Nat):Int)=((i+j:Nat):Int):=zeT (by omega) (by omega)
   have w3:IntKind.i64.wrap (((i+j:Nat):Int) / 2)=(((i+j) / 2:Nat):Int):=by rw[zaq (by omega) (by omega)];omega
   have w4:IntKind.i64.wrap ((((i+j) / 2:Nat):Int)+1)=(((i+j) / 2+1:Nat):Int):=by rw[zaq (by omega) (by omega)];omega
   have w5:IntKind.i64.wrap ((p:Int) - (((i+j) / 2:Nat):Int))=((p - (i+j) / 2:Nat):Int):=by rw[zaq (by omega) (by omega)];omega
   have lh:(i+j) / 2<N:=by omega
   have lp:p - (i+j) / 2<N:=by omega
   have gh:=zel (xs:=xs) (i:=(i+j) / 2) (by omega)
   have ga:=zel (xs:=xs) (i:=p - (i+j) / 2) (by omega)
   obtain⟨g,fs,cs,hcal,hg'⟩:=hg
   have hcall:=hg' _ _ (hD _ lp) (hD _ lh)
   by_cases h0:c (at' xs (p - (i+j) / 2)) (at' xs ((i+j) / 2))<0
   ·simp -dsimp -implicitDefEqProofs only[c95b11,c95b19,c95b33,c95b41,c95b62,c95r64,c95r65,c95k67,c95r68,c95k70,c95r71,c95k73,go_sem,seval,↓reduceIte,hc,zec (show 0<IntKind.bits .u64 by decide),w1,w2,w3,w4,w5,zap lh,zap lp,zaK,e1,gh,ga,hN,hcall,zcl hcal,h0]
    refine⟨(i+j) / 2 - i,by omega,i,(i+j) / 2,rfl,h1,by omega,by omega,h4,fun h x1 x2=>Classical.byContradiction fun x3=>hm _ _ (by omega) x1 x2 x3 h0,?_⟩
    rw[zay (by simp)]
   ·simp -dsimp -implicitDefEqProofs only[c95b11,c95b19,c95b33,c95b41,c95b62,c95r64,c95r65,c95k67,c95r68,c95k70,c95r71,c95k73,go_sem,seval,↓reduceIte,hc,zec (show 0<IntKind.bits .u64 by decide),w1,w2,w3,w4,w5,zap lh,zap lp,zaK,e1,gh,ga,hN,hcall,zcl hcal,h0]
    refine⟨j - ((i+j) / 2+1),by omega,(i+j) / 2+1,j,rfl,by omega,by omega,h3,fun h x1 x2=>hm _ _ x1 (by omega) (by omega) h0,h5,?_⟩
    rw[zay (by simp)]
  ·have hc:¬(i:Int)<(j:Int):=by omega
   obtain rfl:i=j:=by omega
   simp -dsimp -implicitDefEqProofs only[c95b11,c95b19,c95b33,c95b41,c95b62,c95r64,c95r65,c95k67,c95r68,c95k70,c95r71,c95k73,go_sem,seval,↓reduceIte,hc]
   exact h i h1 h3 h4 h5 _

theorem zwh(hp:Heap)(r:Nat)(hr:r<hp.length)(N i a:Nat)(P B1 T:List PV)(x:PV)(hP:P.length=a)(hi:i=a+1+B1.length)(hN:N=(P++x::B1++T).length)(hN':N<1000000000)(fr:Fr)(Q:AExit->St->Prop)
  (hfr:fr.keep [0,10,13]=[(0,.sl (some 4) r N 0 N),(10,.pv none (.int .i64 i)),(13,.pv none (.int .i64 a))])
  (h:∀fr,Q (.exit 2) ⟨fr,hp.set r (.arr (some 4) (P++B1++x::T) false)⟩):
  W Z L hp.length (.loop [0,10,13] c95b19) ⟨fr,hp.set r (.arr (some 4) (P++x::B1++T) false)⟩ Q:=by
 have e1:∀A,(hp.set r A)[r]? =some A:=fun A=>by simp[hr]
 have hNl:N=P.length+B1.length+T.length+1:=by(rw[hN];simp <;> omega)
 have w0:IntKind.i64.wrap ((i:Int) - 1)=((a+B1.length:Nat):Int):=by rw[zaq (by omega) (by omega)];omega
 refine zba (fun k st=>∃(C1 C2:List PV),k=C2.length/\B1=C1++C2/\st=⟨[(0,.sl (some 4) r N 0 N),(10,.pv none (.int .i64 i)),(13,.pv none (.int .i64 ((a+C1.length:Nat):Int)))],hp.set r (.arr (some 4) (P++C1++x::C2++T) false)⟩) (n:=B1.length) ⟨[],B1,rfl,rfl,?_⟩ ?_
 ·rw[hfr]
  simp
 ·rintro k st ⟨C1,C2,hk,hB,rfl⟩
  have hBl:B1.length=C1.length+C2.length:=by rw[hB];simp
  have hlen:(P++C1++x::C2++T).length=N:=by(simp <;> omega)
  cases C2 with
  |nil=>
   have hc:¬((a+C1.length:Nat):Int)<((a+B1.length:Nat):Int):=by simp at hBl;omega
   simp -dsimp -implicitDefEqProofs only[c95b11,c95b19,c95b33,c95b41,c95b62,c95r64,c95r65,c95k67,c95r68,c95k70,c95r71,c95k73,go_sem,seval,↓reduceIte,hc,w0]
   rw[List.append_nil] at hB
   have e:P++C1++[x]++T=P++B1++x::T:=by rw[hB];simp
   rw[e]
   exact h _
  |cons y C2=>
   simp only[List.length_cons] at hBl hk
   have hc:((a+C1.length:Nat):Int)<((a+B1.length:Nat):Int):=by omega
   have w1:IntKind.i64.wrap (((a+C1.length:Nat):Int)+1)=((a+C1.length+1:Nat):Int):=by rw[zaq (by omega) (by omega)];omega
   have la:a+C1.length<N:=by omega
   have lb:a+C1.length+1<N:=by omega
   have s1:P++C1++x::y::C2++T=(P++C1)++x::(y::C2++T):=by simp
   have s2:P++C1++x::y::C2++T=(P++C1++[x])++y::(C2++T):=by simp
   have g1:(P++C1++x::y::C2++T)[a+C1.length]? =some x:=by rw[s1];exact zdM (by simp;omega)
   have g2:(P++C1++x::y::C2++T)[a+C1.length+1]? =some y:=by rw[s2];exact zdM (by simp;omega)
   have g3:((P++C1++x::y::C2++T).set (a+C1.length) y).set (a+C1.length+1) x=P++(C1++[y])++x::C2++T:=by
    rw[s1,zdN (by simp;omega)]
    have s3:(P++C1)++y::(y::C2++T)=(P++C1++[y])++y::(C2++T):=by simp
    rw[s3,zdN (by simp;omega)]
    simp
   generalize hxs:P++C1++x::y::C2++T=xs at g1 g2 g3 hlen ⊢
   simp -dsimp -implicitDefEqProofs only[c95b11,c95b19,c95b33,c95b41,c95b62,c95r64,c95r65,c95k67,c95r68,c95k70,c95r71,c95k73,go_sem,seval,↓reduceIte,hc,w0,w1,zap la,zap lb,zaK,zck,e1,g1,g2,hlen,List.length_set,List.set_set,la,lb,g3]
   refine⟨C2.length,by omega,C1++[y],C2,rfl,by rw[hB];simp,?_⟩
   rw[zay (by simp)]
   simp
   rfl
theorem zwi(hp:Heap)(r:Nat)(hr:r<hp.length)(N i m:Nat)(P A2 T:List PV)(y:PV)(hP:P.length=i)(hi:m=i+A2.length)(hN:N=(P++A2++y::T).length)(hN':N<1000000000)(fr:Fr)(Q:AExit->St->Prop)
  (hfr:fr.keep [0,14,17]=[(0,.sl (some 4) r N 0 N),(14,.pv none (.int .i64 i)),(17,.pv none (.int .i64 m))])
  (h:∀fr,Q (.exit 6) ⟨fr,hp.set r (.arr (some 4) (P++y::A2++T) false)⟩):
  W Z L hp.length (.loop [0,14,17] c95b41) ⟨fr,hp.set r (.arr (some 4) (P++A2++y::T) false)⟩ Q:=by
 have e1:∀A,(hp.set r A)[r]? =some A:=fun A=>by simp[hr]
 have hNl:N=P.length+A2.length+T.length+1:=by(rw[hN];simp <;> omega)
 refine zba (fun k st=>∃(C1 C2:List PV),k=C1.length/\A2=C1++C2/\st=⟨[(0,.sl (some 4) r N 0 N),(14,.pv none (.int .i64 i)),(17,.pv none (.int .i64 ((i+C1.length:Nat):Int)))],hp.set r (.arr (some 4) (P++C1++y::C2++T) false)⟩) (n:=A2.length) ⟨A2,[],rfl,by simp,?_⟩ ?_
 ·rw[hfr,hi]
  simp
 ·rintro k st ⟨C1,C2,hk,hB,rfl⟩
  have hBl:A2.length=C1.length+C2.length:=by rw[hB];simp
  have hlen:(P++C1++y::C2++T).length=N:=by(simp <;> omega)
  rcases zcM C1 with rfl|⟨C3,x,rfl⟩
  ·have hc:¬((i:Nat):Int)<((i+([]:List PV).length:Nat):Int):=by simp
   simp -dsimp -implicitDefEqProofs only[c95b11,c95b19,c95b33,c95b41,c95b62,c95r64,c95r65,c95k67,c95r68,c95k70,c95r71,c95k73,go_sem,seval,↓reduceIte,hc,Int.lt_irrefl]
   rw[List.nil_append] at hB
   have e:P++[]++y::C2++T=P++y::A2++T:=by rw[hB];simp
   rw[e]
   exact h _
  ·have hxl:(C3++[x]).length=C3.length+1:=by simp
   have hc:((i:Nat):Int)<((i+(C3++[x]).length:Nat):Int):=by rw[hxl];omega
   have w1:IntKind.i64.wrap (((i+(C3++[x]).length:Nat):Int) - 1)=((i+C3.length:Nat):Int):=by rw[zaq (by omega) (by omega)];omega
   have la:i+(C3++[x]).length<N:=by omega
   have lb:i+C3.length<N:=by omega
   have s1:P++(C3++[x])++y::C2++T=(P++(C3++[x]))++y::(C2++T):=by simp
   have s2:P++(C3++[x])++y::C2++T=(P++C3)++x::(y::C2++T):=by simp
   have g1:(P++(C3++[x])++y::C2++T)[i+(C3++[x]).length]? =some y:=by rw[s1];exact zdM (by simp;omega)
   have g2:(P++(C3++[x])++y::C2++T)[i+C3.length]? =some x:=by rw[s2];exact zdM (by simp;omega)
   have g3:((P++(C3++[x])++y::C2++T).set (i+(C3++[x]).length) x).set (i+C3.length) y=P++C3++y::(x::C2)++T:=by
    rw[s1,zdN (by simp;omega)]
    have s3:(P++(C3++[x]))++x::(C2++T)=(P++C3)++x::(x::C2++T):=by simp
    rw[s3,zdN (by simp;omega)]
    simp
   generalize hxs:P++(C3++[x])++y::C2++T=xs at g1 g2 g3 hlen ⊢
   simp -dsimp -implicitDefEqProofs only[c95b11,c95b19,c95b33,c95b41,c95b62,c95r64,c95r65,c95k67,c95r68,c95k70,c95r71,c95k73,go_sem,seval,↓reduceIte,hc,w1,zap la,zap lb,zaK,zck,e1,g1,g2,hlen,List.length_set,List.set_set,la,lb,g3]
   refine⟨C3.length,by omega,C3,x::C2,rfl,by rw[hB];simp,?_⟩
   rw[zay (by simp)]

set_option maxHeartbeats 4000000 in
theorem ztF(c:PV->PV->Int)(hC:Cmp c)(fv:AV)(D:PV->Prop)(hp:Heap)(r:Nat)(hg:CmpF c fv D hp r)(hr:r<hp.length)(N:Nat)(hN':N<100000000):∀(d a m b:Nat) (P A B R:List PV),b - a<=d->P.length=a->m=a+A.length->b=m+B.length->N=(P++A++B++R).length->0<A.length->0<B.length->Srt c A->Srt c B->(∀x∈P++A++B++R,D x)->
  S 95 [.sl (some 4) r N 0 N,.pv none (.int .i64 a),.pv none (.int .i64 m),.pv none (.int .i64 b),fv] (hp.set r (.arr (some 4) (P++A++B++R) false))=some (.ret (.tuple []),hp.set r (.arr (some 4) (P++mrg c A B++R) false)):=by
 intro d
 induction d with
 |zero=>intro a m b P A B R hd hP hm hb hN hA hB;omega
 |succ d ih=>
  intro a m b P A B R hd hP hm hb hN hA hB sA sB hD
  have hNl:N=P.length+A.length+B.length+R.length:=by(rw[hN];simp <;> omega)
  have hDat:∀h,h<N->D (at' (P++A++B++R) h):=fun h hh=>hD _ (zvc (by omega))
  have hsl:(hp.set r (.arr (some 4) (P++A++B++R) false)).length=hp.length:=by simp
  have w1:IntKind.i64.wrap ((m:Int) - (a:Int))=((A.length:Nat):Int):=by rw[zaq (by omega) (by omega)];omega
  have w2:IntKind.i64.wrap ((b:Int) - (m:Int))=((B.length:Nat):Int):=by rw[zaq (by omega) (by omega)];omega
  have atA:∀k,k<A.length->at' (P++A++B++R) (a+k)=at' A k:=fun k hk=>by
   have:=ztt (P:=P) (A:=A) (R:=B++R) hP hk
   rwa [<-List.append_assoc] at this
  have atB:∀k,k<B.length->at' (P++A++B++R) (m+k)=at' B k:=fun k hk=>ztt (P:=P++A) (A:=B) (R:=R) (by simp;omega) hk
  refine zaG rfl rfl rfl rfl ?_
  rw[hsl]
  by_cases hA1:A.length=1
  ·obtain⟨x,rfl⟩:∃x,A=[x]:=List.length_eq_one_iff.1 hA1
   have hc1:((1:Nat):Int)=1:=rfl
   simp -dsimp -implicitDefEqProofs only[c95b33,c95b41,c95b62,c95r64,c95r65,c95k67,c95r68,c95k70,c95r71,c95k73,go_sem,seval,↓reduceIte,w1,hc1]
   refine zvN c fv D hp r hg hr _ N a m b hN.symm (by omega) (by omega) (by omega) (by omega) hDat (fun h h' h1 h2 h3 h4=> ?_) _ _ rfl fun k k1 k2 k3 k4 rest=> ?_
   ·have e1:=atB (h - m) (by omega)
    have e2:=atB (h' - m) (by omega)
    rw[show m+(h - m)=h by omega] at e1
    rw[show m+(h' - m)=h' by omega] at e2
    rw[e1] at h4
    rw[e2]
    exact hC.lt_of_le_lt (zc2 hC sB (by omega) (by omega)) h4
   ·have e0:=atA 0 (by simp)
    rw[Nat.add_zero] at e0
    have e0':at' [x] 0=x:=rfl
    rw[e0'] at e0
    rw[e0] at k3 k4
    simp -dsimp -implicitDefEqProofs only[c95b33,c95b41,c95b62,c95r64,c95r65,c95k67,c95r68,c95k70,c95r71,c95k73,go_sem,seval,↓reduceIte]
    have hsplit:P++[x]++B++R=P++x::(B.take (k - m))++(B.drop (k - m)++R):=by
     rw[show P++[x]++B++R=P++[x]++(B.take (k - m)++B.drop (k - m))++R by rw[List.take_append_drop]]
     simp only[List.append_assoc,List.cons_append,List.nil_append]
    have hmr:mrg c [x] B=B.take (k - m)++x::B.drop (k - m):=by
     have h1:=zdK hC (A:=[]) (U:=[x]) (V:=B.take (k - m)) (B:=B.drop (k - m)) (fun _ h=>by simp at h) (fun u hu v hv=>by
      simp at hu;subst hu
      obtain⟨i,hi,rfl⟩:=zdt hv
      simp at hi
      rw[zfz (by omega)]
      have:=k3 (m+i) (by omega) (by omega)
      rwa [atB i (by omega)] at this)
     have h2:mrg c [x] (B.drop (k - m))=x::B.drop (k - m):=zfy hC (A:=[x]) fun u hu v hv=>by
      simp at hu;subst hu
      obtain⟨i,hi,rfl⟩:=zdt hv
      simp at hi
      rw[zfA]
      have:=k4 (k+i) (by omega) (by omega)
      have e:=atB (k - m+i) (by omega)
      rw[show m+(k - m+i)=k+i by omega] at e
      rw[e] at this
      have:=hC.neg u (at' B (k - m+i))
      omega
     rw[List.take_append_drop,List.nil_append,zek,h2] at h1
     exact h1
    rw[hsplit]
    refine zwh hp r hr N k a P (B.take (k - m)) (B.drop (k - m)++R) x hP (by simp at hm ⊢;omega) (by rw[<-hsplit];exact hN) (by omega) _ _ rfl fun fr=> ?_
    simp -dsimp -implicitDefEqProofs only[c95b33,c95b41,c95b62,c95r64,c95r65,c95k67,c95r68,c95k70,c95r71,c95k73,go_sem,seval,↓reduceIte]
    rw[List.take_of_length_le (by simp),hmr]
    simp
  ·have hA1':¬((A.length:Nat):Int)=1:=by omega
   by_cases hB1:B.length=1
   ·obtain⟨y,rfl⟩:∃y,B=[y]:=List.length_eq_one_iff.1 hB1
    have hc1:((1:Nat):Int)=1:=rfl
    simp -dsimp -implicitDefEqProofs only[c95b11,c95b19,c95b62,c95r64,c95r65,c95k67,c95r68,c95k70,c95r71,c95k73,go_sem,seval,↓reduceIte,w1,w2,hA1',hc1]
    have e0:=atB 0 (by simp)
    rw[Nat.add_zero] at e0
    have e0':at' [y] 0=y:=rfl
    rw[e0'] at e0
    refine zvO c fv D hp r hg hr _ N m a m hN.symm (by omega) (by simp at hNl;omega) (by omega) (by omega) hDat (fun h h' h1 h2 h3 h4=> ?_) _ _ rfl fun k k1 k2 k3 k4 rest=> ?_
    ·have e1:=atA (h - a) (by omega)
     have e2:=atA (h' - a) (by omega)
     rw[show a+(h - a)=h by omega] at e1
     rw[show a+(h' - a)=h' by omega] at e2
     rw[e1] at h4
     rw[e2]
     intro h5
     exact h4 (hC.lt_of_lt_le h5 (zc2 hC sA (by omega) (by omega)))
    ·rw[e0] at k3 k4
     simp -dsimp -implicitDefEqProofs only[c95b11,c95b19,c95b62,c95r64,c95r65,c95k67,c95r68,c95k70,c95r71,c95k73,go_sem,seval,↓reduceIte]
     have hsplit:P++A++[y]++R=(P++A.take (k - a))++A.drop (k - a)++y::R:=by
      rw[show P++A++[y]++R=P++(A.take (k - a)++A.drop (k - a))++[y]++R by rw[List.take_append_drop]]
      simp only[List.append_assoc,List.cons_append,List.nil_append]
     have hmr:mrg c A [y]=A.take (k - a)++y::A.drop (k - a):=by
      have h1:=zdK hC (A:=A.take (k - a)) (U:=A.drop (k - a)) (V:=[y]) (B:=[]) (fun _ _ _ h=>by simp at h) (fun u hu v hv=>by
       simp at hv;subst hv
       obtain⟨i,hi,rfl⟩:=zdt hu
       simp at hi
       rw[zfA]
       have:=k4 (k+i) (by omega) (by omega)
       have e:=atA (k - a+i) (by omega)
       rw[show a+(k - a+i)=k+i by omega] at e
       rwa [e] at this)
      have h2:mrg c (A.take (k - a)) [y]=A.take (k - a)++[y]:=zfy hC fun u hu v hv=>by
       simp at hv;subst hv
       obtain⟨i,hi,rfl⟩:=zdt hu
       simp at hi
       rw[zfz (by omega)]
       have:=k3 (a+i) (by omega) (by omega)
       rw[atA i (by omega)] at this
       have:=hC.neg (at' A i) v
       omega
      rw[List.take_append_drop,List.append_nil,zaE,h2] at h1
      rw[h1]
      simp
     rw[hsplit]
     refine zwi hp r hr N k m (P++A.take (k - a)) (A.drop (k - a)) R y (by simp;omega) (by simp;omega) (by rw[<-hsplit];exact hN) (by omega) _ _ rfl fun fr=> ?_
     simp -dsimp -implicitDefEqProofs only[c95b11,c95b19,c95b62,c95r64,c95r65,c95k67,c95r68,c95k70,c95r71,c95k73,go_sem,seval,↓reduceIte]
     rw[List.take_of_length_le (by simp),hmr]
     simp
   ·have hB1':¬((B.length:Nat):Int)=1:=by omega
    have w3:IntKind.i64.wrap ((a:Int)+(b:Int))=((a+b:Nat):Int):=by rw[zaq (by omega) (by omega)];omega
    have w4:IntKind.u64.wrap ((a+b:Nat):Int)=((a+b:Nat):Int):=zeT (by omega) (by omega)
    have w5:IntKind.i64.wrap (((a+b:Nat):Int) / 2)=(((a+b) / 2:Nat):Int):=by rw[zaq (by omega) (by omega)];omega
    generalize hmid:(a+b) / 2=mid at w5
    have w6:IntKind.i64.wrap ((mid:Int)+(m:Int))=((mid+m:Nat):Int):=by rw[zaq (by omega) (by omega)];omega
    have w7:IntKind.i64.wrap (((mid+m:Nat):Int) - 1)=((mid+m - 1:Nat):Int):=by rw[zaq (by omega) (by omega)];omega
    have hm1:a<=mid:=by omega
    have hm2:mid<b:=by omega
    have tail:∀(k:Nat) (rest:Fr) (Q:AExit->St->Prop),a<=k->k<=m->k<=mid->mid+m - k<=b->(∀x∈A.take (k - a),∀y∈B.drop (mid - k),c x y<=0)->(∀u∈A.drop (k - a),∀v∈B.take (mid - k),c v u<0)->
      (∀fr,Q .normal ⟨fr,hp.set r (.arr (some 4) (P++mrg c A B++R) false)⟩)->
      W Z L hp.length (.seq (.region true c95r64 [0,1,2,3,4,18,20,24]) (.seq (.seq (.region true c95r65 [0,1,2,3,4,18,20,24,185]) c95k67) (.seq (.seq (.region true c95r68 [0,1,3,4,18,20,24,199]) c95k70) (.seq (.region true c95r71 [0,3,4,18,24,213]) c95k73))))
       ⟨(0,.sl (some 4) r N 0 N)::(1,.pv none (.int .i64 a))::(2,.pv none (.int .i64 m))::(3,.pv none (.int .i64 b))::(4,fv)::(18,.pv none (.int .i64 mid))::(19,.pv none (.int .i64 ((mid+m:Nat):Int)))::(20,.pv none (.int .i64 k))::rest,hp.set r (.arr (some 4) (P++A++B++R) false)⟩ Q:=by
     intro k rest Q k1 k2 k3 k4 f1 f2 hQ
     have w8:IntKind.i64.wrap (((mid+m:Nat):Int) - (k:Int))=((mid+m - k:Nat):Int):=by rw[zaq (by omega) (by omega)];omega
     have lA1:(A.take (k - a)).length=k - a:=by(simp <;> omega)
     have lU:(A.drop (k - a)).length=m - k:=by(simp <;> omega)
     have lV:(B.take (mid - k)).length=mid - k:=by(simp <;> omega)
     have lB2:(B.drop (mid - k)).length=b - (mid+m - k):=by(simp <;> omega)
     have hmr:=zdK hC f1 f2
     rw[List.take_append_drop,List.take_append_drop] at hmr
     have hdat:P++A++B++R=(P++A.take (k - a))++A.drop (k - a)++B.take (mid - k)++(B.drop (mid - k)++R):=by
      rw[show P++A++B++R=P++(A.take (k - a)++A.drop (k - a))++(B.take (mid - k)++B.drop (mid - k))++R by rw[List.take_append_drop,List.take_append_drop]]
      simp only[List.append_assoc]
     have sA1:Srt c (A.take (k - a)):=sA.sublist (List.take_sublist _ _)
     have sU:Srt c (A.drop (k - a)):=sA.sublist (List.drop_sublist _ _)
     have sV:Srt c (B.take (mid - k)):=sB.sublist (List.take_sublist _ _)
     have sB2:Srt c (B.drop (mid - k)):=sB.sublist (List.drop_sublist _ _)
     rw[hdat] at hN hD ⊢
     rw[hmr] at hQ
     generalize A.take (k - a)=A1 at*
     generalize A.drop (k - a)=U at*
     generalize B.take (mid - k)=V at*
     generalize B.drop (mid - k)=B2 at*
     have hrot:=zrz (fv) hp r hr k m (mid+m - k) N (P++A1) U V (B2++R) (by simp;omega) (by omega) (by omega) hN (by omega)
     refine zuh (fun st=>st=⟨[(0,.sl (some 4) r N 0 N),(1,.pv none (.int .i64 a)),(2,.pv none (.int .i64 m)),(3,.pv none (.int .i64 b)),(4,fv),(18,.pv none (.int .i64 mid)),(20,.pv none (.int .i64 k)),(24,.pv none (.int .i64 ((mid+m - k:Nat):Int)))],hp.set r (.arr (some 4) (P++A1++U++V++(B2++R)) false)⟩) ?_ ?_
     ·simp -dsimp -implicitDefEqProofs only[c95b11,c95b19,c95b33,c95b41,c95b62,c95r64,c95r65,c95k67,c95r68,c95k70,c95r71,c95k73,go_sem,seval,↓reduceIte,w8]
     rintro _ rfl
     refine zuh (fun st=>st.hp=hp.set r (.arr (some 4) (P++A1++V++U++(B2++R)) false)/\st.fr.look 0=some (.sl (some 4) r N 0 N)/\st.fr.look 1=some (.pv none (.int .i64 a))/\st.fr.look 3=some (.pv none (.int .i64 b))/\st.fr.look 4=some (fv)/\st.fr.look 18=some (.pv none (.int .i64 mid))/\st.fr.look 20=some (.pv none (.int .i64 k))/\st.fr.look 24=some (.pv none (.int .i64 ((mid+m - k:Nat):Int)))) ?_ ?_
     ·by_cases hU:k<m
      ·have hc1:(k:Int)<(m:Int):=by omega
       by_cases hV:m<mid+m - k
       ·have hc2:(m:Int)<((mid+m - k:Nat):Int):=by omega
        have hrot':=hrot (by omega) (by omega)
        simp -dsimp -implicitDefEqProofs only[c95b11,c95b19,c95b33,c95b41,c95b62,c95r64,c95r65,c95k67,c95r68,c95k70,c95r71,c95k73,go_sem,seval,↓reduceIte,hc1,hc2,hrot']
       ·have hc2:¬(m:Int)<((mid+m - k:Nat):Int):=by omega
        have hV0:V=[]:=List.length_eq_zero_iff.1 (by omega)
        subst hV0
        simp -dsimp -implicitDefEqProofs only[c95b11,c95b19,c95b33,c95b41,c95b62,c95r64,c95r65,c95k67,c95r68,c95k70,c95r71,c95k73,go_sem,seval,↓reduceIte,hc1,hc2,List.append_nil]
      ·have hc1:¬(k:Int)<(m:Int):=by omega
       have hU0:U=[]:=List.length_eq_zero_iff.1 (by omega)
       subst hU0
       simp -dsimp -implicitDefEqProofs only[c95b11,c95b19,c95b33,c95b41,c95b62,c95r64,c95r65,c95k67,c95r68,c95k70,c95r71,c95k73,go_sem,seval,↓reduceIte,hc1,List.append_nil]
     rintro⟨fr1,hp1⟩ ⟨x1,x2,x3,x4,x5,x6,x7,x8⟩
     simp only at x1 x2 x3 x4 x5 x6 x7 x8
     subst x1
     refine zuh (fun st=>st.hp=hp.set r (.arr (some 4) (P++mrg c A1 V++U++(B2++R)) false)/\st.fr.look 0=some (.sl (some 4) r N 0 N)/\st.fr.look 3=some (.pv none (.int .i64 b))/\st.fr.look 4=some (fv)/\st.fr.look 18=some (.pv none (.int .i64 mid))/\st.fr.look 24=some (.pv none (.int .i64 ((mid+m - k:Nat):Int)))) ?_ ?_
     ·by_cases hA1:a<k
      ·have hc1:(a:Int)<(k:Int):=by omega
       by_cases hV:k<mid
       ·have hc2:(k:Int)<(mid:Int):=by omega
        have hih:=ih a k mid P A1 V (U++(B2++R)) (by omega) hP (by omega) (by omega) (by rw[hN];simp;omega) (by omega) (by omega) sA1 sV (fun x hx=>hD x (by simp at hx ⊢;rcases hx with h|h|h|h|h|h <;> simp[h]))
        have e0:P++A1++V++(U++(B2++R))=P++A1++V++U++(B2++R):=by simp
        have e1:P++mrg c A1 V++(U++(B2++R))=P++mrg c A1 V++U++(B2++R):=by simp
        rw[e0,e1] at hih
        simp -dsimp -implicitDefEqProofs only[c95b11,c95b19,c95b33,c95b41,c95b62,c95r64,c95r65,c95k67,c95r68,c95k70,c95r71,c95k73,go_sem,seval,↓reduceIte,hc1,hc2,x2,x3,x4,x5,x6,x7,x8,hih]
       ·have hc2:¬(k:Int)<(mid:Int):=by omega
        have hV0:V=[]:=List.length_eq_zero_iff.1 (by omega)
        subst hV0
        simp -dsimp -implicitDefEqProofs only[c95b11,c95b19,c95b33,c95b41,c95b62,c95r64,c95r65,c95k67,c95r68,c95k70,c95r71,c95k73,go_sem,seval,↓reduceIte,hc1,hc2,x2,x3,x4,x5,x6,x7,x8,List.append_nil,zaE]
      ·have hc1:¬(a:Int)<(k:Int):=by omega
       have hA0:A1=[]:=List.length_eq_zero_iff.1 (by omega)
       subst hA0
       simp -dsimp -implicitDefEqProofs only[c95b11,c95b19,c95b33,c95b41,c95b62,c95r64,c95r65,c95k67,c95r68,c95k70,c95r71,c95k73,go_sem,seval,↓reduceIte,hc1,x2,x3,x4,x5,x6,x7,x8,List.append_nil,zek]
     rintro⟨fr2,hp2⟩ ⟨y1,y2,y4,y5,y6,y8⟩
     simp only at y1 y2 y4 y5 y6 y8
     subst y1
     have hml:(mrg c A1 V).length=A1.length+V.length:=zia A1 V
     by_cases hU:mid<mid+m - k
     ·have hc1:(mid:Int)<((mid+m - k:Nat):Int):=by omega
      by_cases hB2:mid+m - k<b
      ·have hc2:((mid+m - k:Nat):Int)<(b:Int):=by omega
       have hih:=ih mid (mid+m - k) b (P++mrg c A1 V) U B2 R (by omega) (by simp[hml];omega) (by omega) (by omega) (by rw[hN];simp[hml];omega) (by omega) (by omega) sU sB2 (fun x hx=>hD x (by
        simp only[List.mem_append,mem_mrg] at hx ⊢
        rcases hx with(((h|h|h)|h)|h)|h <;> simp[h]))
       have e0:P++mrg c A1 V++U++(B2++R)=P++mrg c A1 V++U++B2++R:=by simp
       have e1:P++mrg c A1 V++mrg c U B2++R=P++(mrg c A1 V++mrg c U B2)++R:=by simp
       rw[e1] at hih
       rw[e0]
       simp -dsimp -implicitDefEqProofs only[c95b11,c95b19,c95b33,c95b41,c95b62,c95r64,c95r65,c95k67,c95r68,c95k70,c95r71,c95k73,go_sem,seval,↓reduceIte,hc1,hc2,y2,y4,y5,y6,y8,hih]
       exact hQ _
      ·have hc2:¬((mid+m - k:Nat):Int)<(b:Int):=by omega
       have hB0:B2=[]:=List.length_eq_zero_iff.1 (by omega)
       subst hB0
       simp -dsimp -implicitDefEqProofs only[c95b11,c95b19,c95b33,c95b41,c95b62,c95r64,c95r65,c95k67,c95r68,c95k70,c95r71,c95k73,go_sem,seval,↓reduceIte,hc1,hc2,y2,y4,y5,y6,y8]
       have hQ:=hQ
       rw[zaE] at hQ
       have e0:P++mrg c A1 V++U++R=P++(mrg c A1 V++U)++R:=by simp
       rw[e0]
       exact hQ _
     ·have hc1:¬(mid:Int)<((mid+m - k:Nat):Int):=by omega
      have hU0:U=[]:=List.length_eq_zero_iff.1 (by omega)
      subst hU0
      simp -dsimp -implicitDefEqProofs only[c95b11,c95b19,c95b33,c95b41,c95b62,c95r64,c95r65,c95k67,c95r68,c95k70,c95r71,c95k73,go_sem,seval,↓reduceIte,hc1,y2,y4,y5,y6,y8]
      have hQ:=hQ
      rw[zek] at hQ
      have e0:P++mrg c A1 V++[]++(B2++R)=P++(mrg c A1 V++B2)++R:=by simp
      rw[e0]
      exact hQ _
    by_cases hmm:mid<m
    ·skip
     have hc:(mid:Int)<(m:Int):=by omega
     have w9:IntKind.i64.wrap (((mid+m:Nat):Int) - (b:Int))=((mid+m - b:Nat):Int):=by rw[zaq (by omega) (by omega)];omega
     simp -dsimp -implicitDefEqProofs only[c95b11,c95b19,c95b33,c95b41,go_sem,seval,↓reduceIte,w1,w2,hA1',hB1',w3,w4,zec (show 0<IntKind.bits .u64 by decide),hmid,w5,w6,w7,hc,w9]
     refine ztE c fv D hp r hg hr _ N a m b mid (mid+m) (mid+m - 1) (mid+m - b) mid hN.symm (by omega) (by omega) (by omega) (by omega) (by omega) hDat (fun h h' h1 h2 h3 h4=> ?_) (by omega) _ _ rfl fun k k1 k2 k3 k4 rest=> ?_
     ·have e1:=atA (h - a) (by omega)
      have e2:=atA (h' - a) (by omega)
      have e3:=atB (mid+m - 1 - h - m) (by omega)
      have e4:=atB (mid+m - 1 - h' - m) (by omega)
      rw[show a+(h - a)=h by omega] at e1
      rw[show a+(h' - a)=h' by omega] at e2
      rw[show m+(mid+m - 1 - h - m)=mid+m - 1 - h by omega] at e3
      rw[show m+(mid+m - 1 - h' - m)=mid+m - 1 - h' by omega] at e4
      rw[e1,e3] at h4
      rw[e2,e4]
      have s1:c (at' A (h' - a)) (at' A (h - a))<=0:=zc2 hC sA (by omega) (by omega)
      have s2:c (at' B (mid+m - 1 - h - m)) (at' B (mid+m - 1 - h' - m))<=0:=zc2 hC sB (by omega) (by omega)
      intro h5
      exact h4 (hC.lt_of_le_lt s2 (hC.lt_of_lt_le h5 s1))
     ·simp -dsimp -implicitDefEqProofs only[go_sem,seval,↓reduceIte]
      refine tail k rest _ (by omega) (by omega) (by omega) (by omega) ?_ ?_ fun fr=> ?_
      ·intro x hx y hy
       obtain⟨i,hi,rfl⟩:=zdt hx
       obtain⟨j,hj,rfl⟩:=zdt hy
       simp at hi hj
       rw[zfz (by omega),zfA]
       have h1:=k3 (k - 1) (by omega) (by omega)
       have e1:=atA (k - 1 - a) (by omega)
       have e3:=atB (mid - k) (by omega)
       rw[show a+(k - 1 - a)=k - 1 by omega] at e1
       rw[show m+(mid - k)=mid+m - 1 - (k - 1) by omega] at e3
       rw[e1,e3] at h1
       have s1:c (at' A i) (at' A (k - 1 - a))<=0:=zc2 hC sA (by omega) (by omega)
       have s2:c (at' B (mid - k)) (at' B (mid - k+j))<=0:=zc2 hC sB (by omega) (by omega)
       have s3:c (at' A (k - 1 - a)) (at' B (mid - k))<=0:=by have:=hC.neg (at' A (k - 1 - a)) (at' B (mid - k));omega
       exact hC.trans (hC.trans s1 s3) s2
      ·intro u hu v hv
       obtain⟨i,hi,rfl⟩:=zdt hu
       obtain⟨j,hj,rfl⟩:=zdt hv
       simp at hi hj
       rw[zfz (by omega),zfA]
       have h1:=k4 k (by omega) (by omega)
       have e1:=atA (k - a) (by omega)
       have e3:=atB (mid - 1 - k) (by omega)
       rw[show a+(k - a)=k by omega] at e1
       rw[show m+(mid - 1 - k)=mid+m - 1 - k by omega] at e3
       rw[e1,e3] at h1
       have s1:c (at' A (k - a)) (at' A (k - a+i))<=0:=zc2 hC sA (by omega) (by omega)
       have s2:c (at' B j) (at' B (mid - 1 - k))<=0:=zc2 hC sB (by omega) (by omega)
       exact hC.lt_of_le_lt s2 (hC.lt_of_lt_le h1 s1)
      ·simp -dsimp -implicitDefEqProofs only[g95,go_sem,seval,↓reduceIte]
       rw[List.take_of_length_le (by simp)]
    ·skip
     have hc:¬(mid:Int)<(m:Int):=by omega
     simp -dsimp -implicitDefEqProofs only[c95b11,c95b19,c95b33,c95b41,go_sem,seval,↓reduceIte,w1,w2,hA1',hB1',w3,w4,zec (show 0<IntKind.bits .u64 by decide),hmid,w5,w6,w7,hc]
     refine ztE c fv D hp r hg hr _ N a m b mid (mid+m) (mid+m - 1) a m hN.symm (by omega) (by omega) (by omega) (by omega) (by omega) hDat (fun h h' h1 h2 h3 h4=> ?_) (by omega) _ _ rfl fun k k1 k2 k3 k4 rest=> ?_
     ·have e1:=atA (h - a) (by omega)
      have e2:=atA (h' - a) (by omega)
      have e3:=atB (mid+m - 1 - h - m) (by omega)
      have e4:=atB (mid+m - 1 - h' - m) (by omega)
      rw[show a+(h - a)=h by omega] at e1
      rw[show a+(h' - a)=h' by omega] at e2
      rw[show m+(mid+m - 1 - h - m)=mid+m - 1 - h by omega] at e3
      rw[show m+(mid+m - 1 - h' - m)=mid+m - 1 - h' by omega] at e4
      rw[e1,e3] at h4
      rw[e2,e4]
      have s1:c (at' A (h' - a)) (at' A (h - a))<=0:=zc2 hC sA (by omega) (by omega)
      have s2:c (at' B (mid+m - 1 - h - m)) (at' B (mid+m - 1 - h' - m))<=0:=zc2 hC sB (by omega) (by omega)
      intro h5
      exact h4 (hC.lt_of_le_lt s2 (hC.lt_of_lt_le h5 s1))
     ·simp -dsimp -implicitDefEqProofs only[go_sem,seval,↓reduceIte]
      refine tail k rest _ (by omega) (by omega) (by omega) (by omega) ?_ ?_ fun fr=> ?_
      ·intro x hx y hy
       obtain⟨i,hi,rfl⟩:=zdt hx
       obtain⟨j,hj,rfl⟩:=zdt hy
       simp at hi hj
       rw[zfz (by omega),zfA]
       have h1:=k3 (k - 1) (by omega) (by omega)
       have e1:=atA (k - 1 - a) (by omega)
       have e3:=atB (mid - k) (by omega)
       rw[show a+(k - 1 - a)=k - 1 by omega] at e1
       rw[show m+(mid - k)=mid+m - 1 - (k - 1) by omega] at e3
       rw[e1,e3] at h1
       have s1:c (at' A i) (at' A (k - 1 - a))<=0:=zc2 hC sA (by omega) (by omega)
       have s2:c (at' B (mid - k)) (at' B (mid - k+j))<=0:=zc2 hC sB (by omega) (by omega)
       have s3:c (at' A (k - 1 - a)) (at' B (mid - k))<=0:=by have:=hC.neg (at' A (k - 1 - a)) (at' B (mid - k));omega
       exact hC.trans (hC.trans s1 s3) s2
      ·intro u hu v hv
       obtain⟨i,hi,rfl⟩:=zdt hu
       obtain⟨j,hj,rfl⟩:=zdt hv
       simp at hi hj
       rw[zfz (by omega),zfA]
       have h1:=k4 k (by omega) (by omega)
       have e1:=atA (k - a) (by omega)
       have e3:=atB (mid - 1 - k) (by omega)
       rw[show a+(k - a)=k by omega] at e1
       rw[show m+(mid - 1 - k)=mid+m - 1 - k by omega] at e3
       rw[e1,e3] at h1
       have s1:c (at' A (k - a)) (at' A (k - a+i))<=0:=zc2 hC sA (by omega) (by omega)
       have s2:c (at' B j) (at' B (mid - 1 - k))<=0:=zc2 hC sB (by omega) (by omega)
       exact hC.lt_of_le_lt s2 (hC.lt_of_lt_le h1 s1)
      ·simp -dsimp -implicitDefEqProofs only[g95,go_sem,seval,↓reduceIte]
       rw[List.take_of_length_le (by simp)]
section
variable(c:PV->PV->Int) (hC:Cmp c) (fv:AV) (D:PV->Prop) (hp:Heap) (r:Nat) (hg:CmpF c fv D hp r) (hr:r<hp.length) (N:Nat) (hN':N<100000000)
include hC hg hr hN'
theorem zry(xs:List PV)(hN:N=xs.length)(hD:∀x∈xs,D x):
  S 88 [.sl (some 4) r N 0 N,.pv none (.int .i64 N),fv] (hp.set r (.arr (some 4) xs false))=some (.ret (.tuple []),hp.set r (.arr (some 4) (isort c xs) false)):=by
 have hsl:(hp.set r (.arr (some 4) xs false)).length=hp.length:=by simp
 refine zaG rfl rfl rfl rfl ?_
 rw[hsl]
 simp -dsimp -implicitDefEqProofs only[go_sem,seval,↓reduceIte]
 /- the blocks -/
 refine zba (fun n st=>∃(a:Nat) (Z:List PV),n=N - a/\a<=N/\Full c 20 (xs.take a) Z/\st=⟨[(0,.sl (some 4) r N 0 N),(1,.pv none (.int .i64 N)),(2,fv),(6,.pv none (.int .i64 20)),(7,.pv none (.int .i64 a)),(8,.pv none (.int .i64 ((a+20:Nat):Int)))],hp.set r (.arr (some 4) (Z++xs.drop a) false)⟩) (n:=N) ⟨0,[],rfl,Nat.zero_le _,.nil,?_⟩ ?_
 ·simp -dsimp -implicitDefEqProofs only[go_sem,seval,↓reduceIte]
  try simp
 ·rintro n st ⟨a,Z,hn,ha,hF,rfl⟩
  have hZ:Z.length=a:=by rw[hF.length];simp;omega
  have hD':∀x∈xs.drop a,D x:=fun x hx=>hD x (List.mem_of_mem_drop hx)
  by_cases hb:a+20<=N
  ·have hc:((a+20:Nat):Int)<=(N:Int):=by omega
   have w1:IntKind.i64.wrap (((a+20:Nat):Int)+20)=((a+20+20:Nat):Int):=by rw[zaq (by omega) (by omega)];omega
   have hx:(xs.drop a).take 20++(xs.drop a).drop 20=xs.drop a:=List.take_append_drop _ _
   have hl:((xs.drop a).take 20).length=20:=by simp;omega
   have hcall:=zgc c hC fv D hp r hg hr a (a+20) N Z ((xs.drop a).take 20) ((xs.drop a).drop 20) hZ (by omega) (by simp[hZ];omega) (by omega) (fun x h=>hD' x (List.mem_of_mem_take h))
   rw[show Z++(xs.drop a).take 20++(xs.drop a).drop 20=Z++xs.drop a by rw[List.append_assoc,hx]] at hcall
   simp -dsimp -implicitDefEqProofs only[go_sem,seval,↓reduceIte,hc,w1,hcall]
   refine⟨N - (a+20),by omega,a+20,Z++isort c ((xs.drop a).take 20),rfl,by omega,?_,?_⟩
   ·have:=Full.snoc (c:=c) (n:=20) _ _ _ hl hF
    rwa [<-List.take_add] at this
   ·rw[zay (by simp),List.drop_drop]
  ·have hc:¬((a+20:Nat):Int)<=(N:Int):=by omega
   have hcall:=zgc c hC fv D hp r hg hr a N N Z (xs.drop a) [] hZ (by simp;omega) (by simp[hZ];omega) (by omega) hD'
   simp only[List.append_nil] at hcall
   have hB:Blk c 20 xs (Z++isort c (xs.drop a)):=by
    have:=hF.blk (.last (xs.drop a) (by simp;omega))
    rwa [List.take_append_drop] at this
   simp -dsimp -implicitDefEqProofs only[go_sem,seval,↓reduceIte,hc,hcall]
   generalize Z++isort c (xs.drop a)=d0 at hB
   clear hcall hF hZ hD' ha hn hc hb Z a
   /- the merging -/
   refine zba (fun n st=>∃(bs:Nat) (d:List PV),n=N - bs/\20<=bs/\Blk c bs xs d/\st=⟨[(0,.sl (some 4) r N 0 N),(1,.pv none (.int .i64 N)),(2,fv),(6,.pv none (.int .i64 bs))],hp.set r (.arr (some 4) d false)⟩) (n:=N - 20) ⟨20,d0,rfl,Nat.le_refl _,hB,?_⟩ ?_
   ·simp -dsimp -implicitDefEqProofs only[go_sem,seval,↓reduceIte]
    try rfl
   ·rintro n1 st ⟨bs,d,hn1,hbs,hB,rfl⟩
    by_cases hlt:bs<N
    ·have hc:(bs:Int)<(N:Int):=by omega
     have w1:IntKind.i64.wrap (2*(bs:Int))=((0+2*bs:Nat):Int):=by rw[zaq (by omega) (by omega)];omega
     have w2:IntKind.i64.wrap ((bs:Int)*2)=((2*bs:Nat):Int):=by rw[zaq (by omega) (by omega)];omega
     simp -dsimp -implicitDefEqProofs only[go_sem,seval,↓reduceIte,hc,w1]
     refine zba (fun n st=>∃(a:Nat) (Z d r0 r1:List PV),n=N - a/\a<=N/\xs=r0++r1/\r0.length=a/\Full c (2*bs) r0 Z/\Blk c bs r1 d/\st=⟨[(0,.sl (some 4) r N 0 N),(1,.pv none (.int .i64 N)),(2,fv),(6,.pv none (.int .i64 bs)),(7,.pv none (.int .i64 a)),(8,.pv none (.int .i64 ((a+2*bs:Nat):Int)))],hp.set r (.arr (some 4) (Z++d) false)⟩) (n:=N) ⟨0,[],d,[],xs,rfl,Nat.zero_le _,rfl,rfl,.nil,hB,?_⟩ ?_
     ·simp -dsimp -implicitDefEqProofs only[go_sem,seval,↓reduceIte]
      try rfl
     ·rintro n2 st ⟨a,Z,d,r0,r1,hn2,ha,hxs,hr0,hF,hB1,rfl⟩
      have hZ:Z.length=a:=by rw[hF.length,hr0]
      have hl1:a+r1.length=N:=by rw[hN,hxs];simp[hr0]
      have hDZ:∀x∈Z++d,D x:=fun x hx=>hD x (by
       rw[hxs]
       rcases List.mem_append.1 hx with h|h
       ·exact List.mem_append.2 (.inl (hF.mem.1 h))
       ·exact List.mem_append.2 (.inr (hB1.mem.1 h)))
      have w3:IntKind.i64.wrap ((a:Int)+(bs:Int))=((a+bs:Nat):Int):=by rw[zaq (by omega) (by omega)];omega
      by_cases hb:a+2*bs<=N
      ·have hc2:((a+2*bs:Nat):Int)<=(N:Int):=by omega
       obtain⟨x,y,r2,d2,e1,e2,lx,ly,ly0,hB2,hy⟩:=hB1.two (by omega) (by omega)
       have ly':y.length=bs:=by
        rcases Nat.lt_or_ge y.length bs with h|h
        ·have:=hy h;rw[e1,this] at hl1;simp at hl1;omega
        ·omega
       have w4:IntKind.i64.wrap (2*(bs:Int))=((2*bs:Nat):Int):=by rw[zaq (by omega) (by omega)];omega
       have w5:IntKind.i64.wrap (((a+2*bs:Nat):Int)+((2*bs:Nat):Int))=((a+2*bs+2*bs:Nat):Int):=by rw[zaq (by omega) (by omega)];omega
       have hld:=hB1.length
       have hcall:=ztF c hC fv D hp r hg hr N hN' (2*bs) a (a+bs) (a+2*bs) Z (isort c x) (isort c y) d2 (by omega) hZ (by rw[zaw,lx]) (by rw[zaw,ly'];omega) (by rw[e2] at hld;simp[zaw] at hld ⊢;omega) (by rw[zaw];omega) (by rw[zaw];omega) (zc9 hC x) (zc9 hC y) (fun z hz=>hDZ z (by rw[e2];simpa using hz))
       rw[show Z++isort c x++isort c y++d2=Z++d by rw[e2];simp,<-zf8 hC] at hcall
       simp -dsimp -implicitDefEqProofs only[go_sem,seval,↓reduceIte,hc2,w3,w4,w5,hcall]
       refine⟨N - (a+2*bs),by omega,a+2*bs,Z++isort c (x++y),d2,r0++(x++y),r2,rfl,hb,by rw[hxs,e1];simp,by simp[hr0,lx,ly'];omega,.snoc _ _ _ (by simp[lx,ly'];omega) hF,hB2,?_⟩
       rw[zay (by simp)]
      ·have hc2:¬((a+2*bs:Nat):Int)<=(N:Int):=by omega
       by_cases hm:a+bs<N
       ·have hc3:((a+bs:Nat):Int)<(N:Int):=by omega
        obtain⟨x,y,r2,d2,e1,e2,lx,ly,ly0,hB2,hy⟩:=hB1.two (by omega) (by omega)
        have ly':y.length<bs:=by rw[e1] at hl1;simp at hl1;omega
        have hr2:=hy ly'
        subst hr2
        have hd2:d2=[]:=List.length_eq_zero_iff.1 hB2.length
        subst hd2
        have hld:=hB1.length
        have hcall:=ztF c hC fv D hp r hg hr N hN' (2*bs) a (a+bs) N Z (isort c x) (isort c y) [] (by omega) hZ (by rw[zaw,lx]) (by rw[zaw];rw[e1] at hl1;simp at hl1;omega) (by rw[e2] at hld;simp[zaw] at hld ⊢;omega) (by rw[zaw];omega) (by rw[zaw];omega) (zc9 hC x) (zc9 hC y) (fun z hz=>hDZ z (by rw[e2];simpa using hz))
        rw[show Z++isort c x++isort c y++[]=Z++d by rw[e2];simp,<-zf8 hC] at hcall
        simp -dsimp -implicitDefEqProofs only[go_sem,seval,↓reduceIte,hc2,hc3,w2,w3,hcall]
        have hres:=hF.blk (.last r1 (by omega:r1.length<=2*bs))
        rw[<-hxs] at hres
        refine⟨N - 2*bs,by omega,2*bs,Z++isort c r1,rfl,by omega,hres,?_⟩
        rw[zay (by simp),e1]
        simp
       ·have hc3:¬((a+bs:Nat):Int)<(N:Int):=by omega
        have hd:=hB1.whole (by omega)
        simp -dsimp -implicitDefEqProofs only[go_sem,seval,↓reduceIte,hc2,hc3,w2,w3]
        have hres:=hF.blk (.last r1 (by omega:r1.length<=2*bs))
        rw[<-hxs] at hres
        refine⟨N - 2*bs,by omega,2*bs,Z++isort c r1,rfl,by omega,hres,?_⟩
        rw[zay (by simp),hd]
    ·have hc:¬(bs:Int)<(N:Int):=by omega
     have hd:=hB.whole (by omega)
     simp -dsimp -implicitDefEqProofs only[go_sem,seval,↓reduceIte,hc]
     rw[List.take_of_length_le (by simp),hd]
end
def zaL(l:List Tm):Bool:=l.all Tm.valid
theorem zjf{l:List Tm}{i:Nat}{t:Tm}(h:l[i]? =some t):zaL (l.take (i+1))=(zaL (l.take i) && t.valid):=by
 unfold zaL
 rw[List.take_add_one,h,List.all_append]
 simp
theorem zhI{l:List Tm}{t:Tm}(h:t∈l)(hv:t.valid=false):zaL l=false:=by
 unfold zaL
 rw[List.all_eq_false]
 exact⟨t,h,by simp[hv]⟩

theorem zkZ(l:List Tm)(hl:Tm.sizes l<1000000000):S 63 [.pv none (.sl (some 4) (Tm.pvs l))] []=some (.ret (.pv none (.bool (zaL l))),[]):=by
 refine zam rfl rfl rfl (zab [(none,.sl (some 4) (Tm.pvs l))]) rfl ?_
 have hlen:=Tm.zwj l
 simp -dsimp -implicitDefEqProofs only[go_sem,seval,↓reduceIte,Tm.pvs_len]
 refine zba (fun n st=>∃i:Nat,n=l.length - i/\i<=l.length/\zaL (l.take i)=true/\st=⟨[(5,.pv none (.sl (some 4) (Tm.pvs l))),(6,.pv none (.int .i64 (l.length:Int))),(7,.pv none (.int .i64 i))],[]⟩) (n:=l.length) ⟨0,rfl,Nat.zero_le _,rfl,?_⟩ ?_
 ·simp -dsimp -implicitDefEqProofs only[go_sem,seval,↓reduceIte]
  try rfl
 ·rintro n st ⟨i,hn,hi,he,rfl⟩
  by_cases h:i<l.length
  ·have hc:(i:Int)<(l.length:Int):=by omega
   obtain⟨u,hu⟩:∃u,l[i]? =some u:=⟨_,List.getElem?_eq_getElem h⟩
   have hum:=List.mem_of_getElem? hu
   have husz:=Tm.zws hum
   have hcall:=fun hp=>za9 u hp (by omega)
   simp only[Tm.av] at hcall
   have w2:IntKind.i64.wrap ((i:Int)+1)=((i+1:Nat):Int):=by rw[zaq (by omega) (by omega)];omega
   by_cases h0:u.valid=true
   ·simp -dsimp -implicitDefEqProofs only[go_sem,seval,↓reduceIte,Tm.pvs_len,hc,zac (Tm.pvs_get hu),hcall,w2,h0]
    exact⟨l.length - (i+1),by omega,i+1,rfl,by omega,by rw[zjf hu,he,h0];rfl,rfl⟩
   ·rw[Bool.not_eq_true] at h0
    simp -dsimp -implicitDefEqProofs only[go_sem,seval,↓reduceIte,Tm.pvs_len,hc,zac (Tm.pvs_get hu),hcall,w2,h0,zhI hum h0]
  ·have hc:¬(i:Int)<(l.length:Int):=by omega
   obtain rfl:i=l.length:=by omega
   rw[List.take_length] at he
   simp -dsimp -implicitDefEqProofs only[go_sem,seval,↓reduceIte,Tm.pvs_len,hc,he]
theorem zoQ(l:List Tm)(hl:Tm.sizes l<1000000000)(hp:Heap):S 63 [.pv none (.sl (some 4) (Tm.pvs l))] hp=some (.ret (.pv none (.bool (zaL l))),hp):=
 zb7 (ps:=[(none,.sl (some 4) (Tm.pvs l))]) rfl rfl rfl rfl (zkZ l hl)
theorem zbl{l:List Tm}(h:zaL l=true){t:Tm}(ht:t∈l):t.valid=true:=List.all_eq_true.1 h t ht
end Go.Proofs.Ytffecaafklpmhaa
