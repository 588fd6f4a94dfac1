/- What is proved: the program's Vars. -/
import Derived.Test.YtiifblpdlphchaaGreatRRMap
import Derived.Test.YtiifblpdlphchaaGreatRRAm4
set_option linter.unusedSimpArgs false
set_option linter.unusedVariables false
namespace Go.Proofs.YtiifblpdlphchaaGreatRR
open Go.Am
def zex(l:List Int):List (Int × PV):=l.map fun v=>(v,.int .i64 1)
theorem zey(v:Int):∀l:List Int,(zfR v (zex l)).getD (.int .i64 0)=.int .i64 (if v∈l then 1 else 0)
 |[]=>rfl
 |x::r=>by
  have ih:=zey v r
  unfold zex at ih ⊢
  simp only[List.map_cons,zfR]
  by_cases h:x=v
  ·subst h;simp
  ·have h':¬v=x:=fun e=>h e.symm
   rw[if_neg h,ih]
   simp[h']
theorem ziI(v:Int):∀l:List Int,v ∉ l->mPut v (.int .i64 1) (zex l)=zex (l++[v])
 |[],_=>rfl
 |x::r,h=>by
  have ih:=ziI v r fun hm=>h (List.mem_cons_of_mem _ hm)
  unfold zex at ih ⊢
  simp only[List.map_cons,mPut,List.cons_append]
  have h':¬x=v:=fun e=>h (by rw[e];exact List.mem_cons_self)
  rw[if_neg h',ih]
def gV(t:Tm)(l:List Int):Heap:=[.box (some 4) (.pv (some 4) t.pv),.arr none [] false,.box none (.sl none 3 l.length 0 l.length),.arr none (ints l) false,.map none (zcm (zex l)),.box none (.map 4)]
theorem zpX(t0 u:Tm)(l:List Int)(ext:Heap)(hl:l.length<100000000):
  S 94 [u.av,.ptr 5 0,.ptr 2 0] (gV t0 l++ext)=some (.ret u.av,gV t0 (vadd l u.n)++ext):=by
 refine zbc rfl rfl rfl rfl ?_
 have hlim:l.length+1<=lim:=by unfold lim;omega
 by_cases hm:u.n∈l
 ·have e:vadd l u.n=l:=by simp[vadd,hm]
  rw[e]
  have hlk:∀(a0 a1 a2 a3 a5:AObj) (e:Heap),zaS false none (.pv none (.int .i64 0)) false (a0::a1::a2::a3::.map none (zcm (zex l))::a5::e) [.map 4,.pv none (.int .i64 u.n)]=some (.pv none (.int .i64 1)):=fun a0 a1 a2 a3 a5 e=>by
   rw[zqc (m:=zex l) rfl,zey,if_pos hm]
  simp -dsimp -implicitDefEqProofs only[go_sem,seval,↓reduceIte,gV,List.append_assoc,zas,zao,zaw,zap,Nat.add_assoc,List.length_append,Tm.av,zbm,hlk]
  rw[if_pos (by simp[AV.refsIn])]
  simp
 ·have e:vadd l u.n=l++[u.n]:=by simp[vadd,hm]
  rw[e]
  have hlk:∀(a0 a1 a2 a3 a5:AObj) (e:Heap),zaS false none (.pv none (.int .i64 0)) false (a0::a1::a2::a3::.map none (zcm (zex l))::a5::e) [.map 4,.pv none (.int .i64 u.n)]=some (.pv none (.int .i64 0)):=fun a0 a1 a2 a3 a5 e=>by
   rw[zqc (m:=zex l) rfl,zey,if_neg hm]
  have hms:∀(a0 a1 a2 a3 a5:AObj) (e:Heap),zbV false none (a0::a1::a2::a3::.map none (zcm (zex l))::a5::e) [.map 4,.pv none (.int .i64 u.n),.pv none (.int .i64 1)]=some (.undef,a0::a1::a2::a3::.map none (zcm (zex (l++[u.n])))::a5::e):=fun a0 a1 a2 a3 a5 e=>by
   rw[zds (es:=zcm (zex l)) rfl (zfS _ _ _),ziI _ _ hm]
   rfl
  have hst:∀(n o' n':Nat) (a0 a1 a3 a4 a5:AObj) (e:Heap) (b:Nat),zaG none (b+6) (a0::a1::.box none (.sl none 3 n 0 n)::a3::a4::a5::e) [.ptr 2 0,.sl none 3 n' o' n']=some (.undef,a0::a1::.box none (.sl none 3 n' o' n')::a3::a4::a5::e):=fun n o' n' a0 a1 a3 a4 a5 e b=>zf1 (by omega) rfl
  simp -dsimp -implicitDefEqProofs only[go_sem,seval,↓reduceIte,gV,List.append_assoc,zas,zao,zaw,zap,Nat.add_assoc,List.length_append,Tm.av,zbm,hlk,hms,hst,zaW,hlim,zok]
  rw[if_pos (by simp[AV.refsIn])]
  simp
theorem zlP(t0:Tm):∀(t:Tm) (l:List Int) (ext:Heap),t.fits=true->t.size<10000000->l.length+t.size<100000000->
  ∃v e,S 92 [t.av,.func (.func 94) [] [.ptr 5 0,.ptr 2 0]] (gV t0 l++ext)=some (.ret v,gV t0 (vads l t.occ)++(ext++e))/\v.shp=some 4/\v.plain=true/\
   ∃e2,AV.freeze deep v (gV t0 (vads l t.occ)++(ext++e))=some (t.pv,gV t0 (vads l t.occ)++(ext++e2)):=by
 intro t
 induction t using Tm.zsA with
 |h t ih=>
  intro l ext hf ht hl
  have hts:=t.size_eq
  have hlen:=Tm.zsy t.args
  obtain⟨K,hK⟩:∃K:List Int->Heap,K=fun l=>gV t0 l++ext:=⟨_,rfl⟩
  have hKs:∀l,gV t0 l++ext=K l:=fun l=>by rw[hK]
  have hKl:∀l,(K l).length=ext.length+6:=fun l=>by rw[<-hKs];simp[gV]
  have hKa:∀l X,gV t0 l++(ext++X)=K l++X:=fun l X=>by rw[<-hKs,List.append_assoc]
  simp only[hKa,hKs]
  obtain⟨n,hn⟩:∃n,n=ext.length+6:=⟨_,rfl⟩
  rw[<-hn] at hKl
  rw[Tm.occ_eq]
  by_cases hk:t.kind=0
  ·rw[if_pos hk]
   have h1:=fun X=>zpX t0 t l (ext++X) (by omega)
   simp only[hKa] at h1
   have e1:vads l [t.n]=vadd l t.n:=rfl
   rw[e1]
   refine⟨t.av,[],?_,rfl,rfl,⟨[],rfl⟩⟩
   rw[List.append_nil]
   refine zbc rfl rfl rfl rfl ?_
   have hk':=eq_true hk
   simp only[Tm.av] at h1
   simp -dsimp -implicitDefEqProofs only[go_sem,seval,↓reduceIte,Tm.av,zaj,hk',h1,List.append_assoc,zas,zao,zaw,zap,Nat.add_assoc,List.length_append,hKl,getN (hKl _),zeo (hKl _),setN (hKl _),zep (hKl _)]
   rw[if_pos (by simp[AV.refsIn]),<-hKl (vadd l t.n)]
   exact List.take_left
  ·rw[if_neg hk]
   refine⟨.agg [(none,.pv none (.int .i64 t.kind)),(none,.pv none (.int .i64 t.n)),(none,.pv none (.str t.name)),(none,.sl (some 4) (n+5) t.args.length 0 t.args.length)],
    [.box (some 4) (.pv (some 4) t.pv),.box (some 4) (.agg [(none,.pv none (.int .i64 t.kind)),(none,.pv none (.int .i64 t.n)),(none,.pv none (.str t.name)),(none,.sl (some 4) (n+5) t.args.length 0 t.args.length)]),.arr (some 4) [] false,.box (some 4) (.agg [(none,.pv none (.int .i64 t.kind)),(none,.pv none (.int .i64 t.n)),(none,.pv none (.str t.name)),(none,.sl (some 4) (n+5) t.args.length 0 t.args.length)]),.arr (some 4) [] false,.arr (some 4) (Tm.pvs t.args) false],?_,rfl,rfl,?_⟩
   ·refine zbc rfl rfl rfl rfl ?_
    have hk':=eq_false hk
    have hb:zbd [(none,.pv none (.int .i64 0)),(none,.pv none (.int .i64 0)),(none,.pv none (.str [])),(none,.tsl (some 4) [])] [0,1,2] [.pv none (.int .i64 t.kind),.pv none (.int .i64 t.n),.pv none (.str t.name)]=some (.agg [(none,.pv none (.int .i64 t.kind)),(none,.pv none (.int .i64 t.n)),(none,.pv none (.str t.name)),(none,.tsl (some 4) [])]):=rfl
    have hle:∀k,n<=n+k:=fun k=>Nat.le_add_right _ _
    rw[hKl]
    simp -dsimp -implicitDefEqProofs only[go_sem,seval,↓reduceIte,Tm.av,zaj,zbm,zal,zad,hk',Tm.pvs_len,hb,zae (Nat.le_add_right _ _),List.append_assoc,zas,zao,zaw,zap,Nat.add_assoc,List.length_append,hKl,getN (hKl _),zeo (hKl _),setN (hKl _),zep (hKl _)]
    refine zdr (α:=Unit) t.args.length (fun _ _=>True) (fun i _=>⟨[(1,.func (.func 94) [] [.ptr 5 0,.ptr 2 0]),(4,.ptr (n+1) 0),(5,.ptr (n+3) 0),(22,.pv none (.sl (some 4) (Tm.pvs t.args))),(23,.pv none (.int .i64 t.args.length)),(24,.pv none (.int .i64 i))],K (vads l (Tm.occs (t.args.take i)))++appH n t i⟩) () ⟨trivial,?_⟩ ?_ ?_
    ·rw[List.take_zero]
     rfl
    ·rintro i - h -
     have hc:(i:Int)<(t.args.length:Int):=by omega
     obtain⟨u,hu⟩:∃u,t.args[i]? =some u:=⟨_,List.getElem?_eq_getElem h⟩
     have hum:=List.mem_of_getElem? hu
     have husz:=Tm.zsz hum
     have hst:=Tm.zsG hu
     have hle2:=Tm.zsB t.args (i+1)
     have hvl:=zd4 (Tm.occs (t.args.take i)) l
     have hol:=Tm.zsO (t.args.take i)
     obtain⟨v,e,hcall,hvs,hvp,e2,hfz⟩:=ih u hum (vads l (Tm.occs (t.args.take i))) (ext++(appH n t i++[.box (some 4) (.pv (some 4) u.pv),.arr (some 4) [] false])) (Tm.zsE hf hum) (by omega) (by omega)
     rw[<-zd3,<-Tm.zsJ hu] at hcall hfz
     simp only[List.append_assoc,hKa] at hcall hfz
     generalize vads l (Tm.occs (t.args.take (i+1)))=l2 at hcall hfz ⊢
     generalize vads l (Tm.occs (t.args.take i))=l1 at hcall hfz hvl ⊢
     have w2:IntKind.i64.wrap ((i:Int)+1)=((i+1:Nat):Int):=by rw[za8 (by omega) (by omega)];omega
     have hl:(Tm.pvs (t.args.take i)).length=i:=by rw[Tm.pvs_len,List.length_take];omega
     have hlim:i+1<=lim:=by unfold lim;omega
     have hbs:zaZ (some 4) (K l2++(appH n t i++([.box (some 4) (.pv (some 4) u.pv),.arr (some 4) [] false]++e))) [v]=some (.tsl (some 4) [u.pv],K l2++(appH n t i++([.box (some 4) (.pv (some 4) u.pv),.arr (some 4) [] false]++e2))):=by
      simp only[zaZ,zai,hfz,hvs,zaM,if_true]
     have hs1:∀(k k':List Int) (e e':Heap),zbW (K k++(appH n t i++e)) (K k'++(appH n t i++e')) (.ptr (n+3) 3)=true:=fun k k' e e'=>zfL (t:=t) (q:=n+5) (i:=i) (by rw[getN (hKl _)];rfl) (by rw[getN (hKl _)];rfl)
     simp only[Tm.av] at hcall
     simp only[appH,List.append_assoc,List.cons_append,List.nil_append] at hcall hbs hs1
     simp -dsimp -implicitDefEqProofs only[go_sem,seval,↓reduceIte,appH,hc,zan (Tm.pvs_get hu),zes,List.take_succ_cons,List.drop_succ_cons,List.all_cons,List.all_nil,hcall,hbs,hs1,w2,hl,hlim,Tm.zsC hu,zae (Nat.le_add_right _ _),zaY (Nat.le_add_right _ _),List.append_assoc,zas,zao,zaw,zap,Nat.add_assoc,List.length_append,hKl,getN (hKl _),zeo (hKl _),setN (hKl _),zep (hKl _)]
     refine⟨(),?_⟩
     rw[zdq 6 (hKl _) rfl (by simp[AObj.refs,AV.ofComps,pures,AV.refsIn,AV.refsIn.go]) (by simp[AV.refsIn,AV.refsIn.gol])]
     rfl
    ·rintro - -
     have hc:¬(t.args.length:Int)<(t.args.length:Int):=by omega
     simp -dsimp -implicitDefEqProofs only[go_sem,seval,↓reduceIte,appH,hc,List.take_length,zay,zae (Nat.le_add_right _ _),zaY (Nat.le_add_right _ _),List.append_assoc,zas,zao,zaw,zap,Nat.add_assoc,List.length_append,hKl,getN (hKl _),zeo (hKl _),setN (hKl _),zep (hKl _)]
     rw[if_neg (by simp[AV.refsIn,AV.refsIn.go])]
   ·have e:∀l hp,AV.freeze (7+1) (.agg l) hp=match AV.freeze.go 7 l hp with|some (ps,hp')=>some (.agg ps,hp')|none=>none:=fun _ _=>rfl
    cases t with
    |mk k n' s ts=>
     refine⟨[.box (some 4) (.pv (some 4) (Tm.mk k n' s ts).pv),.box (some 4) (.agg [(none,.pv none (.int .i64 k)),(none,.pv none (.int .i64 n')),(none,.pv none (.str s)),(none,.sl (some 4) (n+5) ts.length 0 ts.length)]),.arr (some 4) [] false,.box (some 4) (.agg [(none,.pv none (.int .i64 k)),(none,.pv none (.int .i64 n')),(none,.pv none (.str s)),(none,.sl (some 4) (n+5) ts.length 0 ts.length)]),.arr (some 4) [] false,.arr (some 4) (Tm.pvs ts) true],?_⟩
     show AV.freeze (7+1) (.agg _) _=_
     simp[e,AV.freeze.go,AV.freeze,getN (hKl _),setN (hKl _),Tm.kind,Tm.n,Tm.name,Tm.args,Tm.pvs_len,Tm.pv]
theorem zkA(t:Tm)(hv:t.valid=true)(hp:Heap):S 49 [t.av] hp=some (.ret (.pv none (.sl none (ints (vads [] t.occ)))),hp):=by
 refine zah rfl rfl rfl (zab [(some 4,t.pv)]) rfl ?_
 have hsz:=valid_size hv
 have h1:=fun hp=>zbA t hp (by omega)
 rw[hv] at h1
 have hn0:∀H:Heap,zbK none H=some (.sl none H.length 0 0 0,H++[.arr none [] false]):=fun H=>zck (sh:=none) (by decide)
 obtain⟨v,e,h2,_,_,e2,hfz⟩:=zlP t t [] [] (valid_fits hv) (by omega) (by simp;omega)
 generalize vads [] t.occ=l at*
 simp only[Tm.av] at h1 h2
 have hmk:∀(a0 a1 a2 a3:AObj),zaG none 0 [a0,a1,a2,a3,.map none [],.box none (.pv none .nilmap)] [.ptr 5 0,.map 4]=some (.undef,[a0,a1,a2,a3,.map none [],.box none (.map 4)]):=fun _ _ _ _=>rfl
 have e0:gV t []++[]=[.box (some 4) (.pv (some 4) t.pv),.arr none [] false,.box none (.sl none 3 0 0 0),.arr none [] false,.map none [],.box none (.map 4)]:=rfl
 rw[e0] at h2
 simp only[gV,List.nil_append,List.cons_append] at h2
 have hal:∀a0 a1:AObj,zb8 none (.tsl none []) [a0,a1] []=some (.ptr 2 0,[a0,a1,.box none (.sl none 3 0 0 0),.arr none [] false]):=fun _ _=>rfl
 have hfr:∀(a0 a1 a2 a4 a5:AObj),Am.frozen (.pv none (.sl none (ints l))) (.sl none 3 l.length 0 l.length) (a0::a1::a2::.arr none (ints l) false::a4::a5::e):=fun a0 a1 a2 a4 a5=>zlR (.inr ⟨3,rfl,rfl⟩)
 simp -dsimp -implicitDefEqProofs only[go_sem,seval,↓reduceIte,Tm.av,h1,hn0,hal,hmk,h2]
 exact hfr _ _ _ _ _
def posF:Nat->List Int->List (Int × PV)
 |_,[]=>[]
 |k,x::r=>(x,.int .i64 (k:Int))::posF (k+1) r
theorem zks:∀(l:List Int) (k:Nat),(posF k l).length=l.length
 |[],_=>rfl
 |x::r,k=>by rw[posF,List.length_cons,zks r];rfl
theorem zfN(v:Int):∀(l:List Int) (k:Nat),zfR v (posF k l)=if v∈l then some (.int .i64 ((k+l.idxOf v:Nat):Int)) else none
 |[],_=>rfl
 |x::r,k=>by
  rw[posF,zfR,zfN v r]
  by_cases h:x=v
  ·subst h
   simp
  ·have h':¬v=x:=fun e=>h e.symm
   simp only[if_neg h,List.mem_cons,h',false_or]
   rw[List.idxOf_cons]
   have hb:(x == v)=false:=by simpa using h
   rw[hb]
   simp only[cond_false]
   split
   ·congr 2
    omega
   ·rfl
theorem zkt(v:Int):∀(l:List Int) (k:Nat),v ∉ l->mPut v (.int .i64 ((k+l.length:Nat):Int)) (posF k l)=posF k (l++[v])
 |[],k,_=>rfl
 |x::r,k,h=>by
  have h':¬x=v:=fun e=>h (by rw[e];exact List.mem_cons_self)
  have ih:=zkt v r (k+1) fun hm=>h (List.mem_cons_of_mem _ hm)
  rw[posF,mPut,if_neg h',List.cons_append,posF,<-ih,List.length_cons]
  congr 4
  omega
theorem zhp{v:Int}:∀{l L:List Int},v∈l->l <+: L->L.idxOf v=l.idxOf v
 |[],_,h,_=>by cases h
 |x::r,L,h,hp=>by
  obtain⟨m,rfl⟩:=hp
  rw[List.cons_append,List.idxOf_cons,List.idxOf_cons]
  cases hb:x == v with
  |true=>rfl
  |false=>
   simp only[cond_false]
   have hx:¬x=v:=by simpa using hb
   have hm:v∈r:=(List.mem_cons.1 h).resolve_left fun e=>hx e.symm
   rw[zhp hm ⟨m,rfl⟩]
theorem ze2{v:Int}:∀{l:List Int},v ∉ l->(l++[v]).idxOf v=l.length
 |[],_=>by simp[List.idxOf_cons]
 |x::r,h=>by
  have h':¬x=v:=fun e=>h (by rw[e];exact List.mem_cons_self)
  rw[List.cons_append,List.idxOf_cons,beq_eq_false_iff_ne.2 h',List.length_cons]
  simp only[cond_false]
  rw[ze2 fun hm=>h (List.mem_cons_of_mem _ hm)]
theorem zpw(l:List Int)(v:Int):l <+: vadd l v:=by
 unfold vadd
 split
 ·exact List.prefix_refl _
 ·exact List.prefix_append _ _
theorem zhq:∀(ws l:List Int),l <+: vads l ws
 |[],l=>List.prefix_refl _
 |w::r,l=>(zpw l w).trans (zhq r (vadd l w))
def cPos(L:List Int)(v:Int):Tm:=tvar (L.idxOf v:Int)
def canT(t:Tm):Tm:=Tm.sub (cPos (vads [] t.occ)) t
theorem zku(l:List Int)(v:Int):v∈vadd l v:=by
 unfold vadd
 split
 ·assumption
 ·simp
theorem zb4{L:List Int}{t:Tm}(hk:¬t.kind=0):Tm.sub (cPos L) t=.mk t.kind t.n t.name (t.args.map (Tm.sub (cPos L))):=by
 rw[Tm.zsD,if_neg hk]
def cagg(k:Int)(q:Nat):AV:=.agg [(none,.pv none (.int .i64 0)),(none,.pv none (.int .i64 k)),(none,.pv none (.str [])),(none,.sl (some 4) q 0 0 0)]
def gC(t:Tm)(l:List Int):Heap:=[.box (some 4) (.pv (some 4) t.pv),.box (some 4) (cagg 0 2),.arr (some 4) [] false,.map none (zcm (posF 0 l)),.box none (.map 3)]
theorem zrJ{m:List (Int × PV)}{hp:Heap}{r:Nat}{s:Sh}{v:Int}(h:hp[r]? =some (.map none (zcm m))):zaS false none (.pv none (.int .i64 0)) true hp [.map r,.pv s (.int .i64 v)]=some (match zfR v m with|some x=>.tuple [.pv none x,.pv none (.bool true)]|none=>.tuple [.pv none (.int .i64 0),.pv none (.bool false)]):=by
 have hf:=zew v m
 cases hm:zfR v m with
 |none=>rw[hm] at hf;exact zcF h hf
 |some x=>rw[hm] at hf;exact zbP h hf
theorem zfM{k:Int}{q:Nat}{H:Heap}(h:H[q]? =some (.arr (some 4) [] false)):AV.freeze deep (cagg k q) H=some ((tvar k).pv,H.set q (.arr (some 4) [] true)):=by
 have e:∀l hp,AV.freeze (7+1) (.agg l) hp=match AV.freeze.go 7 l hp with|some (ps,hp')=>some (.agg ps,hp')|none=>none:=fun _ _=>rfl
 show AV.freeze (7+1) (.agg _) _=_
 simp[e,AV.freeze.go,AV.freeze,h]
 rfl
theorem zp9(t:Tm)(l:List Int)(ext:Heap):(gC t l++ext).length=ext.length+5:=by simp[gC]
theorem gC_4(t:Tm)(l:List Int)(ext X:Heap):(gC t l++ext++X)[4]? =some (.box none (.map 3)):=rfl
theorem gC_3(t:Tm)(l:List Int)(ext X:Heap):(gC t l++ext++X)[3]? =some (.map none (zcm (posF 0 l))):=rfl
theorem zrK(t:Tm)(l l':List Int)(ext X:Heap):(gC t l++ext++X).set 3 (.map none (zcm (posF 0 l')))=gC t l'++ext++X:=rfl
theorem znO(t0 u:Tm)(l:List Int)(ext:Heap)(hl:l.length<100000000)(n:Nat)(hn:n=ext.length+5):
  S 93 [u.av,.ptr 4 0] (gC t0 l++ext)=some (.ret (cagg ((vadd l u.n).idxOf u.n:Nat) (n+3)),gC t0 (vadd l u.n)++(ext++[.box (some 4) (.pv (some 4) u.pv),.box (some 4) (cagg ((vadd l u.n).idxOf u.n:Nat) (n+3)),.arr (some 4) [] false,.arr (some 4) [] false])):=by
 obtain⟨K,hK⟩:∃K:List Int->Heap,K=fun l=>gC t0 l++ext:=⟨_,rfl⟩
 have hKs:∀l,gC t0 l++ext=K l:=fun l=>by rw[hK]
 have hKl:∀l,(K l).length=n:=fun l=>by rw[<-hKs,zp9,hn]
 have hKa:∀l X,gC t0 l++(ext++X)=K l++X:=fun l X=>by rw[<-hKs,List.append_assoc]
 have hK4:∀l X,(K l++X)[4]? =some (.box none (.map 3)):=fun l X=>by rw[<-hKs];exact gC_4 t0 l ext X
 have hK3:∀l X,(K l++X)[3]? =some (.map none (zcm (posF 0 l))):=fun l X=>by rw[<-hKs];exact gC_3 t0 l ext X
 have hKS:∀l l' X,(K l++X).set 3 (.map none (zcm (posF 0 l')))=K l'++X:=fun l l' X=>by rw[<-hKs,<-hKs];exact zrK t0 l l' ext X
 have hle:∀k,n<=n+k:=fun k=>Nat.le_add_right _ _
 rw[hKa,hKs]
 unfold cagg
 refine zbc rfl rfl rfl rfl ?_
 rw[hKl]
 have hb:∀k:Int,zbd [(none,.pv none (.int .i64 0)),(none,.pv none (.int .i64 0)),(none,.pv none (.str [])),(none,.tsl (some 4) [])] [1] [.pv none (.int .i64 k)]=some (.agg [(none,.pv none (.int .i64 0)),(none,.pv none (.int .i64 k)),(none,.pv none (.str [])),(none,.tsl (some 4) [])]):=fun _=>rfl
 by_cases hm:u.n∈l
 ·have e:vadd l u.n=l:=by simp[vadd,hm]
  rw[e]
  have hlk:∀X:Heap,zaS false none (.pv none (.int .i64 0)) true (K l++X) [.map 3,.pv none (.int .i64 u.n)]=some (.tuple [.pv none (.int .i64 ((l.idxOf u.n:Nat):Int)),.pv none (.bool true)]):=fun X=>by
   rw[zrJ (m:=posF 0 l) (hK3 _ _),zfN,if_pos hm,Nat.zero_add]
  simp -dsimp -implicitDefEqProofs only[go_sem,seval,↓reduceIte,cagg,List.append_assoc,zas,zao,zaw,zap,Nat.add_assoc,List.length_append,Tm.av,zbm,hlk,hb,zay,zae (Nat.le_add_right _ _),hK4,hKl,getN (hKl _),zeo (hKl _),setN (hKl _),zep (hKl _)]
  rw[if_neg (by simp[AV.refsIn,AV.refsIn.go])]
 ·have e:vadd l u.n=l++[u.n]:=by simp[vadd,hm]
  rw[e,ze2 hm]
  have hlk:∀X:Heap,zaS false none (.pv none (.int .i64 0)) true (K l++X) [.map 3,.pv none (.int .i64 u.n)]=some (.tuple [.pv none (.int .i64 0),.pv none (.bool false)]):=fun X=>by
   rw[zrJ (m:=posF 0 l) (hK3 _ _),zfN,if_neg hm]
  have hml:∀X:Heap,zgD (K l++X) [.map 3]=some (.pv none (.int .i64 (l.length:Int))):=fun X=>by
   simp[zgD,hK3,zcm,zks]
  have hms:∀X:Heap,zbV false none (K l++X) [.map 3,.pv none (.int .i64 u.n),.pv none (.int .i64 (l.length:Int))]=some (.undef,K (l++[u.n])++X):=fun X=>by
   have:=zkt u.n l 0 hm
   rw[Nat.zero_add] at this
   rw[zds (es:=zcm (posF 0 l)) (hK3 _ _) (zfS _ _ _),this,hKS]
  simp -dsimp -implicitDefEqProofs only[go_sem,seval,↓reduceIte,cagg,List.append_assoc,zas,zao,zaw,zap,Nat.add_assoc,List.length_append,Tm.av,zbm,hlk,hml,hms,hb,zay,zae (Nat.le_add_right _ _),hK4,hKl,getN (hKl _),zeo (hKl _),setN (hKl _),zep (hKl _)]
  rw[if_neg (by simp[AV.refsIn,AV.refsIn.go])]
def appC(n:Nat)(t:Tm)(ts:List Tm)(i:Nat):Heap:=[.box (some 4) (.pv (some 4) t.pv),.box (some 4) (.agg [(none,.pv none (.int .i64 0)),(none,.pv none (.int .i64 0)),(none,.pv none (.str [])),(none,.sl (some 4) (n+2) 0 0 0)]),.arr (some 4) [] false,.box (some 4) (.agg [(none,.pv none (.int .i64 t.kind)),(none,.pv none (.int .i64 t.n)),(none,.pv none (.str t.name)),(none,.sl (some 4) (n+5) i 0 i)]),.arr (some 4) [] false,.arr (some 4) (Tm.pvs (ts.take i)) false]
theorem zps(a b:List Tm):Tm.occs (a++b)=Tm.occs a++Tm.occs b:=by
 induction a with
 |nil=>rfl
 |cons x r ih=>rw[List.cons_append,Tm.occs,Tm.occs,ih,List.append_assoc]
theorem zjH(t0:Tm):∀(t:Tm) (l L:List Int) (ext:Heap),t.fits=true->t.size<10000000->l.length+t.size<100000000->vads l t.occ <+: L->
  ∃v e,S 92 [t.av,.func (.func 93) [] [.ptr 4 0]] (gC t0 l++ext)=some (.ret v,gC t0 (vads l t.occ)++(ext++e))/\v.shp=some 4/\v.plain=true/\(∀H,v.own H=(v,H))/\
   (∃e2,AV.freeze deep v (gC t0 (vads l t.occ)++(ext++e))=some ((Tm.sub (cPos L) t).pv,gC t0 (vads l t.occ)++(ext++e2)))/\
   ∀H:Heap,(∀j,ext.length+5<=j->H[j]? =(gC t0 (vads l t.occ)++(ext++e))[j]?)->∃H2,AV.freeze deep v H=some ((Tm.sub (cPos L) t).pv,H2):=by
 intro t
 induction t using Tm.zsA with
 |h t ih=>
  intro l L ext hf ht hl hp
  have hts:=t.size_eq
  have hlen:=Tm.zsy t.args
  obtain⟨n,hn⟩:∃n,n=ext.length+5:=⟨_,rfl⟩
  have h1:=fun X=>znO t0 t l (ext++X) (by omega)
  obtain⟨K,hK⟩:∃K:List Int->Heap,K=fun l=>gC t0 l++ext:=⟨_,rfl⟩
  have hKs:∀l,gC t0 l++ext=K l:=fun l=>by rw[hK]
  have hKl:∀l,(K l).length=n:=fun l=>by rw[<-hKs,zp9,hn]
  have hKa:∀l X,gC t0 l++(ext++X)=K l++X:=fun l X=>by rw[<-hKs,List.append_assoc]
  simp only[<-hn]
  simp only[List.append_assoc] at h1
  simp only[hKa] at h1
  simp only[hKa,hKs]
  rw[Tm.occ_eq] at hp ⊢
  by_cases hk:t.kind=0
  ·rw[if_pos hk] at hp ⊢
   have e1:vads l [t.n]=vadd l t.n:=rfl
   rw[e1] at hp ⊢
   have e2:Tm.sub (cPos L) t=tvar ((vadd l t.n).idxOf t.n:Nat):=by
    rw[Tm.zsD,if_pos hk]
    unfold cPos
    rw[zhp (zku l t.n) hp]
   rw[e2]
   generalize (((vadd l t.n).idxOf t.n:Nat):Int)=k at*
   generalize vadd l t.n=l2 at*
   refine⟨cagg k (n+6),[.box (some 4) (.pv (some 4) t.pv),.box (some 4) (cagg k (n+6)),.arr (some 4) [] false,.box (some 4) (.pv (some 4) t.pv),.box (some 4) (cagg k (n+6)),.arr (some 4) [] false,.arr (some 4) [] false],?_,rfl,rfl,fun _=>rfl,?_,fun H hH=> ?_⟩
   ·unfold cagg
    refine zbc rfl rfl rfl rfl ?_
    have hk':=eq_true hk
    have h2:=h1 [.box (some 4) (.pv (some 4) t.pv),.box (some 4) (cagg 0 (n+2)),.arr (some 4) [] false] (n+3) (by rw[hn];simp)
    simp only[Tm.av,cagg,List.cons_append,List.nil_append] at h2
    rw[hKl]
    simp -dsimp -implicitDefEqProofs only[go_sem,seval,↓reduceIte,Tm.av,cagg,zaj,hk',h2,zay,List.append_assoc,zas,zao,zaw,zap,Nat.add_assoc,List.length_append,hKl,getN (hKl _),zeo (hKl _),setN (hKl _),zep (hKl _),zae (Nat.le_add_right _ _)]
    rw[if_neg (by simp[AV.refsIn,AV.refsIn.go])]
   ·refine⟨[.box (some 4) (.pv (some 4) t.pv),.box (some 4) (cagg k (n+6)),.arr (some 4) [] false,.box (some 4) (.pv (some 4) t.pv),.box (some 4) (cagg k (n+6)),.arr (some 4) [] false,.arr (some 4) [] true],?_⟩
    rw[zfM (by rw[getN (hKl _)];rfl),setN (hKl _)]
    rfl
   ·exact⟨_,zfM (by rw[hH _ (by omega),getN (hKl _)];rfl)⟩
  ·rw[if_neg hk] at hp ⊢
   rw[zb4 hk]
   obtain⟨ts',hts'⟩:∃ts',ts'=t.args.map (Tm.sub (cPos L)):=⟨_,rfl⟩
   have htl:ts'.length=t.args.length:=by rw[hts',List.length_map]
   rw[<-hts']
   refine⟨.agg [(none,.pv none (.int .i64 t.kind)),(none,.pv none (.int .i64 t.n)),(none,.pv none (.str t.name)),(none,.sl (some 4) (n+5) t.args.length 0 t.args.length)],
    [.box (some 4) (.pv (some 4) t.pv),.box (some 4) (.agg [(none,.pv none (.int .i64 t.kind)),(none,.pv none (.int .i64 t.n)),(none,.pv none (.str t.name)),(none,.sl (some 4) (n+5) t.args.length 0 t.args.length)]),.arr (some 4) [] false,.box (some 4) (.agg [(none,.pv none (.int .i64 t.kind)),(none,.pv none (.int .i64 t.n)),(none,.pv none (.str t.name)),(none,.sl (some 4) (n+5) t.args.length 0 t.args.length)]),.arr (some 4) [] false,.arr (some 4) (Tm.pvs ts') false],?_,rfl,rfl,fun _=>rfl,?_,?_⟩
   ·refine zbc rfl rfl rfl rfl ?_
    have hk':=eq_false hk
    have hb:zbd [(none,.pv none (.int .i64 0)),(none,.pv none (.int .i64 0)),(none,.pv none (.str [])),(none,.tsl (some 4) [])] [0,1,2] [.pv none (.int .i64 t.kind),.pv none (.int .i64 t.n),.pv none (.str t.name)]=some (.agg [(none,.pv none (.int .i64 t.kind)),(none,.pv none (.int .i64 t.n)),(none,.pv none (.str t.name)),(none,.tsl (some 4) [])]):=rfl
    have hle:∀k,n<=n+k:=fun k=>Nat.le_add_right _ _
    rw[hKl]
    simp -dsimp -implicitDefEqProofs only[go_sem,seval,↓reduceIte,Tm.av,zaj,zbm,zal,zad,hk',Tm.pvs_len,hb,zae (Nat.le_add_right _ _),List.append_assoc,zas,zao,zaw,zap,Nat.add_assoc,List.length_append,hKl,getN (hKl _),zeo (hKl _),setN (hKl _),zep (hKl _)]
    refine zdr (α:=Unit) t.args.length (fun _ _=>True) (fun i _=>⟨[(1,.func (.func 93) [] [.ptr 4 0]),(4,.ptr (n+1) 0),(5,.ptr (n+3) 0),(22,.pv none (.sl (some 4) (Tm.pvs t.args))),(23,.pv none (.int .i64 t.args.length)),(24,.pv none (.int .i64 i))],K (vads l (Tm.occs (t.args.take i)))++appC n t ts' i⟩) () ⟨trivial,?_⟩ ?_ ?_
    ·rw[List.take_zero]
     rfl
    ·rintro i - h -
     have hc:(i:Int)<(t.args.length:Int):=by omega
     obtain⟨u,hu⟩:∃u,t.args[i]? =some u:=⟨_,List.getElem?_eq_getElem h⟩
     have hum:=List.mem_of_getElem? hu
     have husz:=Tm.zsz hum
     have hst:=Tm.zsG hu
     have hle2:=Tm.zsB t.args (i+1)
     have hvl:=zd4 (Tm.occs (t.args.take i)) l
     have hol:=Tm.zsO (t.args.take i)
     have hpre:vads (vads l (Tm.occs (t.args.take i))) u.occ <+: L:=by
      rw[<-zd3,<-Tm.zsJ hu]
      refine List.IsPrefix.trans ?_ hp
      have e:=List.take_append_drop (i+1) t.args
      rw[<-e,zps,zd3,e]
      exact zhq _ _
     obtain⟨v,e,hcall,hvs,hvp,_,⟨e2,hfz⟩,_⟩:=ih u hum (vads l (Tm.occs (t.args.take i))) L (ext++(appC n t ts' i++[.box (some 4) (.pv (some 4) u.pv),.arr (some 4) [] false])) (Tm.zsE hf hum) (by omega) (by omega) hpre
     rw[<-zd3,<-Tm.zsJ hu] at hcall hfz
     simp only[List.append_assoc,hKa] at hcall hfz
     generalize vads l (Tm.occs (t.args.take (i+1)))=l2 at hcall hfz ⊢
     generalize vads l (Tm.occs (t.args.take i))=l1 at hcall hfz hvl ⊢
     have w2:IntKind.i64.wrap ((i:Int)+1)=((i+1:Nat):Int):=by rw[za8 (by omega) (by omega)];omega
     have hl:(Tm.pvs (ts'.take i)).length=i:=by rw[Tm.pvs_len,List.length_take];omega
     have hlim:i+1<=lim:=by unfold lim;omega
     have hus:ts'[i]? =some (Tm.sub (cPos L) u):=by rw[hts'];simp[hu]
     have hbs:zaZ (some 4) (K l2++(appC n t ts' i++([.box (some 4) (.pv (some 4) u.pv),.arr (some 4) [] false]++e))) [v]=some (.tsl (some 4) [(Tm.sub (cPos L) u).pv],K l2++(appC n t ts' i++([.box (some 4) (.pv (some 4) u.pv),.arr (some 4) [] false]++e2))):=by
      simp only[zaZ,zai,hfz,hvs,zaM,if_true]
     have hs1:∀(k k':List Int) (e e':Heap),zbW (K k++(appC n t ts' i++e)) (K k'++(appC n t ts' i++e')) (.ptr (n+3) 3)=true:=fun k k' e e'=>zfL (t:=t) (q:=n+5) (i:=i) (by rw[getN (hKl _)];rfl) (by rw[getN (hKl _)];rfl)
     simp only[Tm.av] at hcall
     simp only[appC,List.append_assoc,List.cons_append,List.nil_append] at hcall hbs hs1
     simp -dsimp -implicitDefEqProofs only[go_sem,seval,↓reduceIte,appC,hc,zan (Tm.pvs_get hu),zes,List.take_succ_cons,List.drop_succ_cons,List.all_cons,List.all_nil,hcall,hbs,hs1,w2,hl,hlim,Tm.zsC hus,zae (Nat.le_add_right _ _),zaY (Nat.le_add_right _ _),List.append_assoc,zas,zao,zaw,zap,Nat.add_assoc,List.length_append,hKl,getN (hKl _),zeo (hKl _),setN (hKl _),zep (hKl _)]
     refine⟨(),?_⟩
     rw[zdq 6 (hKl _) rfl (by simp[AObj.refs,AV.ofComps,pures,AV.refsIn,AV.refsIn.go]) (by simp[AV.refsIn,AV.refsIn.gol])]
     rfl
    ·rintro - -
     have hc:¬(t.args.length:Int)<(t.args.length:Int):=by omega
     have htk:ts'.take t.args.length=ts':=List.take_of_length_le (by omega)
     simp -dsimp -implicitDefEqProofs only[go_sem,seval,↓reduceIte,appC,hc,List.take_length,htk,zay,zae (Nat.le_add_right _ _),zaY (Nat.le_add_right _ _),List.append_assoc,zas,zao,zaw,zap,Nat.add_assoc,List.length_append,hKl,getN (hKl _),zeo (hKl _),setN (hKl _),zep (hKl _)]
     rw[if_neg (by simp[AV.refsIn,AV.refsIn.go])]
   ·have e:∀l hp,AV.freeze (7+1) (.agg l) hp=match AV.freeze.go 7 l hp with|some (ps,hp')=>some (.agg ps,hp')|none=>none:=fun _ _=>rfl
    refine⟨[.box (some 4) (.pv (some 4) t.pv),.box (some 4) (.agg [(none,.pv none (.int .i64 t.kind)),(none,.pv none (.int .i64 t.n)),(none,.pv none (.str t.name)),(none,.sl (some 4) (n+5) t.args.length 0 t.args.length)]),.arr (some 4) [] false,.box (some 4) (.agg [(none,.pv none (.int .i64 t.kind)),(none,.pv none (.int .i64 t.n)),(none,.pv none (.str t.name)),(none,.sl (some 4) (n+5) t.args.length 0 t.args.length)]),.arr (some 4) [] false,.arr (some 4) (Tm.pvs ts') true],?_⟩
    show AV.freeze (7+1) (.agg _) _=_
    simp[e,AV.freeze.go,AV.freeze,getN (hKl _),setN (hKl _),htl,Tm.pvs_len,Tm.pv]
   ·intro H hH
    have h5:=hH (n+5) (by omega)
    rw[getN (hKl _)] at h5
    have e:∀l hp,AV.freeze (7+1) (.agg l) hp=match AV.freeze.go 7 l hp with|some (ps,hp')=>some (.agg ps,hp')|none=>none:=fun _ _=>rfl
    refine⟨H.set (n+5) (.arr (some 4) (Tm.pvs ts') true),?_⟩
    show AV.freeze (7+1) (.agg _) _=_
    simp only[List.getElem?_cons_succ,List.getElem?_cons_zero] at h5
    simp[e,AV.freeze.go,AV.freeze,h5,htl,Tm.pvs_len,Tm.pv]
def canR(t:Tm):Tm:=if t.valid=true then canT t else zt
theorem zpt(t:Tm)(hp:Heap)(ht:t.size<1000000000):S 46 [t.av] hp=some (.ret (canR t).av,hp):=by
 refine zah rfl rfl rfl (zab [(some 4,t.pv)]) rfl ?_
 have h1:=fun hp=>zbA t hp ht
 unfold canR
 by_cases hv:t.valid=true
 ·rw[if_pos hv]
  have hsz:=valid_size hv
  obtain⟨v,e,h2,h3,h4,h5,_,h6⟩:=zjH t t [] (vads [] t.occ) [] (valid_fits hv) (by omega) (by simp;omega) (List.prefix_refl _)
  rw[hv] at h1
  simp only[Tm.av,gC,cagg,List.cons_append,List.nil_append] at h1 h2
  have hmk:∀(a0 a1 a2:AObj),zaG none 0 [a0,a1,a2,.map none [],.box none (.pv none .nilmap)] [.ptr 4 0,.map 3]=some (.undef,[a0,a1,a2,.map none [],.box none (.map 3)]):=fun _ _ _=>rfl
  have e0:zcm (posF 0 [])=[]:=rfl
  rw[e0] at h2
  have hst:∀(a0 a2 a3 a4:AObj),zaG (some 4) 0 (a0::.box (some 4) (.agg [(none,.pv none (.int .i64 0)),(none,.pv none (.int .i64 0)),(none,.pv none (.str [])),(none,.sl (some 4) 2 0 0 0)])::a2::a3::a4::e) [.ptr 1 0,v]=some (.undef,a0::.box (some 4) v::a2::a3::a4::e):=fun _ _ _ _=>by
   simp[zaG,astore,h3,h4,h5]
  have hfr:∀(a0 a1 a2 a3 a4:AObj),Am.frozen (canT t).av v (a0::a1::a2::a3::a4::e):=fun a0 a1 a2 a3 a4=>by
   obtain⟨H2,k⟩:=h6 (a0::a1::a2::a3::a4::e) fun j hj=>by
    match j,hj with
    |j+5,_=>rfl
   exact ziz h3 h4 k
  simp -dsimp -implicitDefEqProofs only[go_sem,seval,↓reduceIte,Tm.av,h1,h2,hst,hmk,zae (Nat.zero_le _)]
  exact hfr _ _ _ _ _
 ·rw[if_neg hv]
  have hv':t.valid=false:=by simpa using hv
  rw[hv'] at h1
  simp only[Tm.av] at h1
  simp -dsimp -implicitDefEqProofs only[go_sem,seval,↓reduceIte,Tm.av,h1,zae (Nat.zero_le _),zt]
  exact⟨_,rfl⟩
theorem zoi{L:List Int}:∀t:Tm,t.fits=true->(Tm.sub (cPos L) t).size=t.size:=by
 intro t
 induction t using Tm.zsA with
 |h t ih=>
  intro hf
  rw[Tm.zsD]
  by_cases hk:t.kind=0
  ·rw[if_pos hk,ze3 hf hk]
   rfl
  ·rw[if_neg hk,Tm.size_eq,t.size_eq]
   congr 1
   have hargs:∀u∈t.args,(Tm.sub (cPos L) u).size=u.size:=fun u hu=>ih u hu (Tm.zsE hf hu)
   show Tm.sizes (t.args.map (Tm.sub (cPos L)))=_
   generalize t.args=l at hargs
   clear ih
   induction l with
   |nil=>rfl
   |cons x r ihl=>
    rw[List.map_cons,Tm.sizes,Tm.sizes,hargs x List.mem_cons_self,ihl fun u hu=>hargs u (List.mem_cons_of_mem _ hu)]
theorem zoj{t:Tm}(h:t.valid=true):(canT t).size=t.size:=zoi t (valid_fits h)
theorem ziG{x:Int}:∀{l:List Int} {i:Nat},l[i]? =some x->(∀j,j<i->l[j]?≠some x)->l.idxOf x=i
 |[],_,h,_=>by simp at h
 |y::r,0,h,_=>by
  simp at h
  simp[h]
 |y::r,i+1,h,hn=>by
  have h0:=hn 0 (by omega)
  have hy:¬y=x:=fun e=>h0 (by simp[e])
  rw[List.idxOf_cons,beq_eq_false_iff_ne.2 hy]
  simp only[cond_false]
  rw[ziG (l:=r) (i:=i) (by simpa using h) fun j hj=>by simpa using hn (j+1) (by omega)]
theorem zq8(l:List Int)(x:Int)(hl:l.length<1000000000)(hm:x∈l)(hp:Heap):S 112 [.pv none (.sl none (ints l)),.pv none (.int .i64 x)] hp=some (.ret (.pv none (.int .i64 ((l.idxOf x:Nat):Int))),hp):=by
 refine zah rfl rfl rfl (zab [(none,.sl none (ints l)),(none,.int .i64 x)]) rfl ?_
 simp -dsimp -implicitDefEqProofs only[go_sem,seval,↓reduceIte,zaW]
 refine zdr (α:=Unit) l.length (fun i _=>∀j,j<i->l[j]?≠some x) (fun i _=>⟨[(0,.pv none (.sl none (ints l))),(1,.pv none (.int .i64 x)),(5,.pv none (.int .i64 i))],[]⟩) () ⟨fun j hj=>by omega,rfl⟩ ?_ ?_
 ·rintro i - h hinv
  have hc:(i:Int)<(l.length:Int):=by omega
  obtain⟨b,hb⟩:∃b,l[i]? =some b:=⟨_,List.getElem?_eq_getElem h⟩
  have w2:IntKind.i64.wrap ((i:Int)+1)=((i+1:Nat):Int):=by rw[za8 (by omega) (by omega)];omega
  by_cases hbx:b=x
  ·have hi:=ziG (by rw[hb,hbx]) hinv
   simp -dsimp -implicitDefEqProofs only[go_sem,seval,↓reduceIte,zaW,hc,zan (ze4 hb),hbx,hi]
  ·simp -dsimp -implicitDefEqProofs only[go_sem,seval,↓reduceIte,zaW,hc,zan (ze4 hb),hbx,w2]
   refine⟨(),fun j hj=> ?_⟩
   rcases Nat.lt_or_ge j i with h|h
   ·exact hinv j h
   ·have:j=i:=by omega
    subst this
    rw[hb]
    intro e
    cases e
    exact hbx rfl
 ·rintro - hinv
  obtain⟨j,hlt,hj⟩:=List.getElem_of_mem hm
  exact absurd (by rw[List.getElem?_eq_getElem hlt,hj]) (hinv j hlt)
def appN(t:Tm)(ts:List Tm)(i:Nat):Heap:=[.box (some 4) (.pv (some 4) t.pv),.box (some 4) (.agg [(none,.pv none (.int .i64 0)),(none,.pv none (.int .i64 0)),(none,.pv none (.str [])),(none,.sl (some 4) 2 0 0 0)]),.arr (some 4) [] false,.box (some 4) (.agg [(none,.pv none (.int .i64 t.kind)),(none,.pv none (.int .i64 t.n)),(none,.pv none (.str t.name)),(none,.sl (some 4) 5 i 0 i)]),.arr (some 4) [] false,.arr (some 4) (Tm.pvs (ts.take i)) false]
theorem zn3(L:List Int)(hL:L.length<100000000):∀(t:Tm) (hp:Heap),t.fits=true->t.size<1000000000->(∀w∈t.occ,w∈L)->S 59 [.pv none (.sl none (ints L)),t.av] hp=some (.ret (Tm.sub (cPos L) t).av,hp):=by
 intro t
 induction t using Tm.zsA with
 |h t ih=>
  intro hp hf ht ho
  have hts:=t.size_eq
  have hlen:=Tm.zsy t.args
  refine zah rfl rfl rfl (zab [(none,.sl none (ints L)),(some 4,t.pv)]) rfl ?_
  have hb:zbd [(none,.pv none (.int .i64 0)),(none,.pv none (.int .i64 0)),(none,.pv none (.str [])),(none,.tsl (some 4) [])] [0,1,2] [.pv none (.int .i64 t.kind),.pv none (.int .i64 t.n),.pv none (.str t.name)]=some (.agg [(none,.pv none (.int .i64 t.kind)),(none,.pv none (.int .i64 t.n)),(none,.pv none (.str t.name)),(none,.tsl (some 4) [])]):=rfl
  by_cases hk:t.kind=0
  ·have hk':=eq_true hk
   have hm:t.n∈L:=ho _ (by rw[Tm.occ_eq,if_pos hk];simp)
   have hpos:=fun hp=>zq8 L t.n (by omega) hm hp
   have ha:t.args=[]:=by rw[ze3 hf hk];rfl
   have hnm:t.name=[]:=by rw[ze3 hf hk];rfl
   have e:Tm.sub (cPos L) t=tvar (L.idxOf t.n:Nat):=by rw[Tm.zsD,if_pos hk];rfl
   rw[e]
   generalize ((L.idxOf t.n:Nat):Int)=k at hpos ⊢
   simp -dsimp -implicitDefEqProofs only[go_sem,seval,↓reduceIte,Tm.av,zaj,zbm,zal,zad,Tm.pvs_len,hk',hb,hpos,zae (Nat.zero_le _)]
   refine zdr (α:=Unit) 0 (fun _ _=>True) (fun i _=>⟨[(0,.pv none (.sl none (ints L))),(3,.ptr 0 0),(4,.ptr 1 0),(5,.ptr 3 0),(6,.pv none (.int .i64 i))],[.box (some 4) (.pv (some 4) t.pv),.box (some 4) (.agg [(none,.pv none (.int .i64 0)),(none,.pv none (.int .i64 0)),(none,.pv none (.str [])),(none,.sl (some 4) 2 0 0 0)]),.arr (some 4) [] false,.box (some 4) (.agg [(none,.pv none (.int .i64 t.kind)),(none,.pv none (.int .i64 k)),(none,.pv none (.str t.name)),(none,.sl (some 4) 5 0 0 0)]),.arr (some 4) [] false,.arr (some 4) [] false]⟩) () ⟨trivial,rfl⟩ ?_ ?_
   ·rintro i - h -
    omega
   ·rintro - -
    have hc:¬(0:Int)<(t.args.length:Int):=by rw[ha];simp
    simp -dsimp -implicitDefEqProofs only[go_sem,seval,↓reduceIte,zad,Tm.pvs_len,hc,zay,zae (Nat.zero_le _),zaY (Nat.zero_le _)]
    rw[hk,hnm]
    exact zgA _ _ _ [] _ rfl rfl
  ·have hk':=eq_false hk
   rw[zb4 hk]
   obtain⟨ts',hts'⟩:∃ts',ts'=t.args.map (Tm.sub (cPos L)):=⟨_,rfl⟩
   have htl:ts'.length=t.args.length:=by rw[hts',List.length_map]
   rw[<-hts']
   simp -dsimp -implicitDefEqProofs only[go_sem,seval,↓reduceIte,Tm.av,zaj,zbm,zal,zad,Tm.pvs_len,hk',hb,zae (Nat.zero_le _)]
   refine zdr (α:=Unit) t.args.length (fun _ _=>True) (fun i _=>⟨[(0,.pv none (.sl none (ints L))),(3,.ptr 0 0),(4,.ptr 1 0),(5,.ptr 3 0),(6,.pv none (.int .i64 i))],appN t ts' i⟩) () ⟨trivial,rfl⟩ ?_ ?_
   ·rintro i - h -
    have hc:(i:Int)<(t.args.length:Int):=by omega
    obtain⟨u,hu⟩:∃u,t.args[i]? =some u:=⟨_,List.getElem?_eq_getElem h⟩
    have hum:=List.mem_of_getElem? hu
    have husz:=Tm.zsz hum
    have hcall:=fun hp=>ih u hum hp (Tm.zsE hf hum) (by omega) fun w hw=>ho w (Tm.zsV hk hum hw)
    simp only[Tm.av] at hcall
    have w2:IntKind.i64.wrap ((i:Int)+1)=((i+1:Nat):Int):=by rw[za8 (by omega) (by omega)];omega
    have hl:(Tm.pvs (ts'.take i)).length=i:=by rw[Tm.pvs_len,List.length_take];omega
    have hlim:i+1<=lim:=by unfold lim;omega
    have hus:ts'[i]? =some (Tm.sub (cPos L) u):=by rw[hts'];simp[hu]
    simp -dsimp -implicitDefEqProofs only[go_sem,seval,↓reduceIte,appN,zad,Tm.pvs_len,hc,zan (Tm.pvs_get hu),hcall,w2,hl,hlim,Tm.zsC hus,zae (Nat.zero_le _),zaY (Nat.zero_le _)]
    exact⟨(),rfl⟩
   ·rintro - -
    have hc:¬(t.args.length:Int)<(t.args.length:Int):=by omega
    have htk:ts'.take t.args.length=ts':=List.take_of_length_le (by omega)
    simp -dsimp -implicitDefEqProofs only[go_sem,seval,↓reduceIte,appN,zad,Tm.pvs_len,hc,htk,zay,zae (Nat.zero_le _),zaY (Nat.zero_le _)]
    exact zgA _ _ _ (Tm.pvs ts') _ (by rw[Tm.pvs_len,htl]) rfl
theorem ziH{s:AV}{H:Heap}{l:List Int}(h:IsV s H l):s.alone H=some (.pv none (.sl none (ints l))):=by
 rcases h with⟨rfl,rfl⟩|⟨r,rfl,h⟩
 ·rfl
 ·simp[AV.alone,AV.bare,AV.freeze,deep,h,zaW,AV.shp]
theorem zn4(t:Tm)(hp:Heap)(ht:t.size<1000000000):S 25 [t.av] hp=some (.ret (canR t).av,hp):=by
 refine zah rfl rfl rfl (zab [(some 4,t.pv)]) rfl ?_
 have h1:=fun hp=>zcZ t hp ht
 unfold canR
 by_cases hv:t.valid=true
 ·rw[if_pos hv]
  have hsz:=valid_size hv
  obtain⟨s',H',hcall,hI,_,_⟩:=zkC t (.tsl none []) [] [] (.inl ⟨rfl,rfl⟩) (valid_fits hv) (by simp;omega)
  have ha:=ziH hI
  have hll:=zd4 t.occ []
  have hol:=Tm.occ_len t
  have hnum:=fun hp=>zn3 (vads [] t.occ) (by simp only[List.length_nil] at hll;omega) t hp (valid_fits hv) ht fun w hw=>(zkB t.occ [] w).2 (.inr hw)
  rw[hv] at h1
  have e:Tm.sub (cPos (vads [] t.occ)) t=canT t:=rfl
  rw[e] at hnum
  generalize canT t=c at hnum ⊢
  generalize vads [] t.occ=l at*
  simp only[Tm.av] at h1 hcall hnum
  simp -dsimp -implicitDefEqProofs only[go_sem,seval,↓reduceIte,Tm.av,h1,hcall,ha,hnum,zae (Nat.zero_le _)]
 ·rw[if_neg hv]
  have hv':t.valid=false:=by simpa using hv
  rw[hv'] at h1
  simp only[Tm.av] at h1
  have hb0:zbd [(none,.pv none (.int .i64 0)),(none,.pv none (.int .i64 0)),(none,.pv none (.str [])),(none,.tsl (some 4) [])] [] []=some (.agg [(none,.pv none (.int .i64 0)),(none,.pv none (.int .i64 0)),(none,.pv none (.str [])),(none,.tsl (some 4) [])]):=rfl
  simp -dsimp -implicitDefEqProofs only[go_sem,seval,↓reduceIte,Tm.av,h1,hb0,zae (Nat.zero_le _),zt]
  exact⟨_,rfl⟩
def cntI(n:Nat):List Int:=(List.range n).map fun i:Nat=>(i:Int)
theorem ziA(n:Nat):cntI (n+1)=cntI n++[(n:Int)]:=by simp[cntI,List.range_succ]
theorem cntI_mem{n:Nat}{x:Int}:x∈cntI n↔∃i:Nat,i<n/\x=i:=by
 simp only[cntI,List.mem_map,List.mem_range]
 exact⟨fun⟨i,h,e⟩=>⟨i,h,e.symm⟩,fun⟨i,h,e⟩=>⟨i,h,e.symm⟩⟩
theorem zkq:∀{n i:Nat},i<n->(cntI n).idxOf (i:Int)=i
 |0,_,h=>absurd h (Nat.not_lt_zero _)
 |n+1,i,h=>by
  rw[ziA]
  rcases Nat.lt_or_ge i n with h1|h1
  ·rw[zhp (cntI_mem.2 ⟨i,h1,rfl⟩) (List.prefix_append _ _),zkq h1]
  ·obtain rfl:i=n:=by omega
   rw[ze2 fun hm=>by obtain⟨j,hj,e⟩:=cntI_mem.1 hm;omega]
   simp[cntI]
theorem zkr(L:List Int):∀ws l:List Int,vads l ws <+: L->vads (cntI l.length) (ws.map fun w=>((L.idxOf w:Nat):Int))=cntI (vads l ws).length
 |[],l,_=>rfl
 |w::r,l,h=>by
  have h1:vads l (w::r)=vads (vadd l w) r:=rfl
  rw[h1] at h ⊢
  have ih:=zkr L r (vadd l w) h
  have hp:vadd l w <+: L:=(zhq r _).trans h
  show vads (vadd (cntI l.length) ((L.idxOf w:Nat):Int)) _=_
  have e:vadd (cntI l.length) ((L.idxOf w:Nat):Int)=cntI (vadd l w).length:=by
   rw[zhp (zku l w) hp]
   by_cases hm:w∈l
   ·have e1:vadd l w=l:=by simp[vadd,hm]
    rw[e1]
    have hlt:l.idxOf w<l.length:=List.idxOf_lt_length_iff.2 hm
    unfold vadd
    rw[if_pos (cntI_mem.2 ⟨_,hlt,rfl⟩)]
   ·have e1:vadd l w=l++[w]:=by simp[vadd,hm]
    rw[e1,ze2 hm,List.length_append,List.length_singleton,ziA]
    unfold vadd
    rw[if_neg fun hx=>by obtain⟨j,hj,e⟩:=cntI_mem.1 hx;omega]
  rw[e,ih]
theorem zpu(L:List Int):∀t:Tm,(Tm.sub (cPos L) t).occ=t.occ.map fun w=>((L.idxOf w:Nat):Int):=by
 intro t
 induction t using Tm.zsA with
 |h t ih=>
  rw[Tm.zsD,t.occ_eq]
  by_cases hk:t.kind=0
  ·rw[if_pos hk,if_pos hk]
   rfl
  ·rw[if_neg hk,if_neg hk,Tm.occ_eq,if_neg (by exact hk)]
   show Tm.occs (t.args.map (Tm.sub (cPos L)))=_
   generalize t.args=l at ih
   induction l with
   |nil=>rfl
   |cons x r ihl=>
    rw[List.map_cons,Tm.occs,Tm.occs,List.map_append,ih x List.mem_cons_self,ihl fun u hu=>ih u (List.mem_cons_of_mem _ hu)]
theorem zqV(f g:Int->Tm):∀t:Tm,Tm.sub f (Tm.sub g t)=Tm.sub (fun v=>Tm.sub f (g v)) t:=by
 intro t
 induction t using Tm.zsA with
 |h t ih=>
  rw[Tm.zsD g t,Tm.zsD (fun v=>Tm.sub f (g v)) t]
  by_cases hk:t.kind=0
  ·rw[if_pos hk,if_pos hk]
  ·rw[if_neg hk,if_neg hk,Tm.zsD,if_neg (by exact hk)]
   show Tm.mk t.kind t.n t.name ((t.args.map (Tm.sub g)).map (Tm.sub f))=_
   rw[List.map_map]
   congr 1
   exact List.map_congr_left fun u hu=>ih u hu
theorem ziB(t:Tm):vads [] (canT t).occ=cntI (vads [] t.occ).length:=by
 unfold canT
 rw[zpu]
 exact zkr _ _ [] (List.prefix_refl _)
theorem zpv(t:Tm):canT (canT t)=canT t:=by
 have h:=ziB t
 have e:canT (canT t)=Tm.sub (cPos (cntI (vads [] t.occ).length)) (canT t):=by
  conv=>lhs;unfold canT
  rw[<-h]
  rfl
 rw[e]
 unfold canT
 rw[zqV]
 refine Tm.zsR t fun w hw=> ?_
 have hm:w∈vads [] t.occ:=(zkB _ _ _).2 (.inr hw)
 have hlt:=List.idxOf_lt_length_iff.2 hm
 show Tm.sub _ (tvar _)=_
 rw[Tm.zsD,if_pos (by rfl)]
 show tvar ((cntI _).idxOf ((List.idxOf w _:Nat):Int):Nat)=tvar _
 rw[zkq hlt]
theorem znP{L:List Int}(hL:L.length<=1000000):∀t:Tm,t.fits=true->(Tm.sub (cPos L) t).fits=true:=by
 intro t
 induction t using Tm.zsA with
 |h t ih=>
  intro hf
  rw[Tm.zsD]
  by_cases hk:t.kind=0
  ·rw[if_pos hk]
   have h1:L.idxOf t.n<=L.length:=List.idxOf_le_length
   have h2:((L.idxOf t.n:Nat):Int)<=1099511627776:=by omega
   show(tvar ((L.idxOf t.n:Nat):Int)).fits=true
   generalize L.idxOf t.n=j at h2 ⊢
   rw[Tm.zsF]
   simp[tvar,Tm.node,Tm.kind,Tm.n,Tm.name,Tm.args,Tm.fitsAll,h2]
  ·rw[if_neg hk]
   have hf0:=hf
   rw[Tm.zsF,Bool.and_eq_true] at hf ⊢
   refine⟨?_,Tm.fitsAll_iff.2 fun u hu=> ?_⟩
   ·have h1:=hf.1
    clear ih hf hf0
    cases t with
    |mk k n s ts=>
     have hk:¬k=0:=hk
     unfold Tm.node at h1 ⊢
     simp only[Tm.kind,Tm.n,Tm.name,Tm.args,hk,if_false,List.length_map] at h1 ⊢
     exact h1
   ·obtain⟨w,hw,rfl⟩:=List.mem_map.1 hu
    exact ih w hw (Tm.zsE hf0 hw)
theorem zlM{t:Tm}(h:t.valid=true):(canT t).valid=true:=by
 have hs:=valid_size h
 have hl:=zd4 t.occ []
 have ho:=Tm.occ_len t
 unfold Tm.valid
 rw[zoj h]
 simp only[Bool.and_eq_true,decide_eq_true_eq]
 simp only[List.length_nil] at hl
 exact⟨hs,znP (by omega) t (valid_fits h)⟩
def tP(k n:Int)(s:List UInt8)(l:List PV):PV:=.agg [(none,.int .i64 k),(none,.int .i64 n),(none,.str s),(none,.sl (some 4) l)]
theorem fok0:FactsOk (find tab) prim []:=.nil
def fq0:List (Sh × PV):=[((some 4),(tP 3 0 [97,116,111,109] [(tP 2 0 [102,111,111] [])]))]
def fv0:AV:=(.tuple [(.pv none (.sl (some 4) [(tP 3 0 [97,116,111,109] [(tP 2 0 [102,111,111] [])])])),(.pv (some 4) (tP 0 0 [] [])),(.pv none (.int .i64 (0)))])
theorem ff0:resV (sem (find tab) prim .fn 20 (pvs fq0) [])=some fv0:=zbe (n:=60) fok0 (by kernel_rfl)
def fK1:Facts:=(20,fq0,fv0)::[]
theorem fok1:FactsOk (find tab) prim fK1:=.cons (by kernel_rfl) ff0 fok0
def fq1:List (Sh × PV):=[((some 4),(tP 3 0 [97,116,111,109] [(tP 2 0 [102,111,111] [])])),((some 4),(tP 3 0 [97,116,111,109] [(tP 2 0 [102,111,111] [])]))]
def fv1:AV:=(.pv none (.bool true))
theorem ff1:resV (sem (find tab) prim .fn 18 (pvs fq1) [])=some fv1:=zbe (n:=60) fok1 (by kernel_rfl)
def fK2:Facts:=(18,fq1,fv1)::fK1
theorem fok2:FactsOk (find tab) prim fK2:=.cons (by kernel_rfl) ff1 fok1
def fq2:List (Sh × PV):=[((some 4),(tP 3 0 [97,116,111,109] [(tP 0 0 [] [])]))]
def fv2:AV:=(.tuple [(.pv none (.sl (some 4) [])),(.pv (some 4) (tP 0 0 [] [])),(.pv none (.int .i64 (0)))])
theorem ff2:resV (sem (find tab) prim .fn 20 (pvs fq2) [])=some fv2:=zbe (n:=60) fok2 (by kernel_rfl)
def fK3:Facts:=(20,fq2,fv2)::fK2
theorem fok3:FactsOk (find tab) prim fK3:=.cons (by kernel_rfl) ff2 fok2
def fq3:List (Sh × PV):=[((some 4),(tP 3 0 [97,116,111,109] [(tP 0 0 [] [])]))]
def fv3:AV:=(.pv none (.bool true))
theorem ff3:resV (sem (find tab) prim .fn 31 (pvs fq3) [])=some fv3:=zbe (n:=60) fok3 (by kernel_rfl)
def fK4:Facts:=(31,fq3,fv3)::fK3
theorem fok4:FactsOk (find tab) prim fK4:=.cons (by kernel_rfl) ff3 fok3
def fq4:List (Sh × PV):=[((some 4),(tP 3 0 [99,111,109,112,97,114,101] [(tP 0 0 [] []),(tP 3 0 [102] [(tP 0 1 [] [])]),(tP 1 3 [] [])]))]
def fv4:AV:=(.tuple [(.pv none (.sl (some 4) [(tP 3 0 [99,111,109,112,97,114,101] [(tP 2 0 [62] []),(tP 3 0 [102] [(tP 0 1 [] [])]),(tP 1 3 [] [])])])),(.pv (some 4) (tP 0 0 [] [])),(.pv none (.int .i64 (0)))])
theorem ff4:resV (sem (find tab) prim .fn 20 (pvs fq4) [])=some fv4:=zbe (n:=60) fok4 (by kernel_rfl)
def fK5:Facts:=(20,fq4,fv4)::fK4
theorem fok5:FactsOk (find tab) prim fK5:=.cons (by kernel_rfl) ff4 fok4
def fq5:List (Sh × PV):=[((some 4),(tP 3 0 [99,111,109,112,97,114,101] [(tP 0 0 [] []),(tP 3 0 [102] [(tP 0 1 [] [])]),(tP 1 3 [] [])])),((some 4),(tP 3 0 [99,111,109,112,97,114,101] [(tP 2 0 [62] []),(tP 3 0 [102] [(tP 0 1 [] [])]),(tP 1 3 [] [])]))]
def fv5:AV:=(.pv none (.bool true))
theorem ff5:resV (sem (find tab) prim .fn 18 (pvs fq5) [])=some fv5:=zbe (n:=60) fok5 (by kernel_rfl)
def fK6:Facts:=(18,fq5,fv5)::fK5
theorem fok6:FactsOk (find tab) prim fK6:=.cons (by kernel_rfl) ff5 fok5
def fq6:List (Sh × PV):=[((some 4),(tP 3 0 [102,117,110,99,116,111,114] [(tP 0 0 [] []),(tP 2 0 [102] []),(tP 1 2 [] [])]))]
def fv6:AV:=(.tuple [(.pv none (.sl (some 4) [(tP 3 0 [102,117,110,99,116,111,114] [(tP 3 0 [102] [(tP 0 1 [] []),(tP 0 2 [] [])]),(tP 2 0 [102] []),(tP 1 2 [] [])])])),(.pv (some 4) (tP 0 0 [] [])),(.pv none (.int .i64 (0)))])
theorem ff6:resV (sem (find tab) prim .fn 20 (pvs fq6) [])=some fv6:=zbe (n:=60) fok6 (by kernel_rfl)
def fK7:Facts:=(20,fq6,fv6)::fK6
theorem fok7:FactsOk (find tab) prim fK7:=.cons (by kernel_rfl) ff6 fok6
def fq7:List (Sh × PV):=[((some 4),(tP 3 0 [102,117,110,99,116,111,114] [(tP 0 0 [] []),(tP 2 0 [102] []),(tP 1 2 [] [])])),((some 4),(tP 3 0 [102,117,110,99,116,111,114] [(tP 3 0 [102] [(tP 0 1 [] []),(tP 0 2 [] [])]),(tP 2 0 [102] []),(tP 1 2 [] [])]))]
def fv7:AV:=(.pv none (.bool true))
theorem ff7:resV (sem (find tab) prim .fn 18 (pvs fq7) [])=some fv7:=zbe (n:=60) fok7 (by kernel_rfl)
def fK8:Facts:=(18,fq7,fv7)::fK7
theorem fok8:FactsOk (find tab) prim fK8:=.cons (by kernel_rfl) ff7 fok7
def fq8:List (Sh × PV):=[((some 4),(tP 3 0 [102,117,110,99,116,111,114] [(tP 0 0 [] []),(tP 2 0 [102] []),(tP 1 (-1) [] [])]))]
def fv8:AV:=(.tuple [(.pv none (.sl (some 4) [])),(.pv (some 4) (.agg [((some 4),(tP 3 0 [101,114,114,111,114] [(tP 3 0 [100,111,109,97,105,110,95,101,114,114,111,114] [(tP 2 0 [110,111,116,95,108,101,115,115,95,116,104,97,110,95,122,101,114,111] []),(tP 1 (-1) [] [])]),(tP 2 0 [91,93] [])]))])),(.pv none (.int .i64 (8)))])
theorem ff8:resV (sem (find tab) prim .fn 20 (pvs fq8) [])=some fv8:=zbe (n:=60) fok8 (by kernel_rfl)
def fK9:Facts:=(20,fq8,fv8)::fK8
theorem fok9:FactsOk (find tab) prim fK9:=.cons (by kernel_rfl) ff8 fok8
def fq9:List (Sh × PV):=[((some 4),(tP 3 0 [102,117,110,99,116,111,114] [(tP 0 0 [] []),(tP 2 0 [102] []),(tP 1 (-1) [] [])])),((some 4),(tP 3 0 [100,111,109,97,105,110,95,101,114,114,111,114] [(tP 2 0 [110,111,116,95,108,101,115,115,95,116,104,97,110,95,122,101,114,111] []),(tP 1 (-1) [] [])]))]
def fv9:AV:=(.pv none (.bool true))
theorem ff9:resV (sem (find tab) prim .fn 37 (pvs fq9) [])=some fv9:=zbe (n:=60) fok9 (by kernel_rfl)
def fK10:Facts:=(37,fq9,fv9)::fK9
theorem zrY:FactsOk (find tab) prim fK10:=.cons (by kernel_rfl) ff9 fok9
def fq10:List (Sh × PV):=[((some 4),(tP 3 0 [99,111,112,121,95,116,101,114,109] [(tP 3 0 [102] [(tP 0 0 [] []),(tP 0 1 [] []),(tP 0 0 [] [])]),(tP 0 2 [] [])]))]
def fv10:AV:=(.tuple [(.pv none (.sl (some 4) [(tP 3 0 [99,111,112,121,95,116,101,114,109] [(tP 3 0 [102] [(tP 0 0 [] []),(tP 0 1 [] []),(tP 0 0 [] [])]),(tP 3 0 [102] [(tP 0 3 [] []),(tP 0 4 [] []),(tP 0 3 [] [])])])])),(.pv (some 4) (tP 0 0 [] [])),(.pv none (.int .i64 (0)))])
theorem ff10:resV (sem (find tab) prim .fn 20 (pvs fq10) [])=some fv10:=zbe (n:=60) zrY (by kernel_rfl)
def fK11:Facts:=(20,fq10,fv10)::fK10
theorem zrZ:FactsOk (find tab) prim fK11:=.cons (by kernel_rfl) ff10 zrY
def fq11:List (Sh × PV):=[((some 4),(tP 3 0 [99,111,112,121,95,116,101,114,109] [(tP 3 0 [102] [(tP 0 0 [] []),(tP 0 1 [] []),(tP 0 0 [] [])]),(tP 0 2 [] [])])),((some 4),(tP 3 0 [99,111,112,121,95,116,101,114,109] [(tP 3 0 [102] [(tP 0 0 [] []),(tP 0 1 [] []),(tP 0 0 [] [])]),(tP 3 0 [102] [(tP 0 3 [] []),(tP 0 4 [] []),(tP 0 3 [] [])])]))]
def fv11:AV:=(.pv none (.bool true))
theorem ff11:resV (sem (find tab) prim .fn 18 (pvs fq11) [])=some fv11:=zbe (n:=60) zrZ (by kernel_rfl)
def fK12:Facts:=(18,fq11,fv11)::fK11
theorem zr0:FactsOk (find tab) prim fK12:=.cons (by kernel_rfl) ff11 zrZ
def fq12:List (Sh × PV):=[((some 4),(tP 3 0 [115,111,114,116] [(tP 3 0 [46] [(tP 2 0 [99] []),(tP 3 0 [46] [(tP 1 1 [] []),(tP 3 0 [46] [(tP 2 0 [98] []),(tP 3 0 [46] [(tP 1 1 [] []),(tP 2 0 [91,93] [])])])])]),(tP 0 0 [] [])]))]
def fv12:AV:=(.tuple [(.pv none (.sl (some 4) [(tP 3 0 [115,111,114,116] [(tP 3 0 [46] [(tP 2 0 [99] []),(tP 3 0 [46] [(tP 1 1 [] []),(tP 3 0 [46] [(tP 2 0 [98] []),(tP 3 0 [46] [(tP 1 1 [] []),(tP 2 0 [91,93] [])])])])]),(tP 3 0 [46] [(tP 1 1 [] []),(tP 3 0 [46] [(tP 2 0 [98] []),(tP 3 0 [46] [(tP 2 0 [99] []),(tP 2 0 [91,93] [])])])])])])),(.pv (some 4) (tP 0 0 [] [])),(.pv none (.int .i64 (0)))])
theorem ff12:resV (sem (find tab) prim .fn 20 (pvs fq12) [])=some fv12:=zbe (n:=60) zr0 (by kernel_rfl)
def fK13:Facts:=(20,fq12,fv12)::fK12
theorem zr1:FactsOk (find tab) prim fK13:=.cons (by kernel_rfl) ff12 zr0
def fq13:List (Sh × PV):=[((some 4),(tP 3 0 [115,111,114,116] [(tP 3 0 [46] [(tP 2 0 [99] []),(tP 3 0 [46] [(tP 1 1 [] []),(tP 3 0 [46] [(tP 2 0 [98] []),(tP 3 0 [46] [(tP 1 1 [] []),(tP 2 0 [91,93] [])])])])]),(tP 0 0 [] [])])),((some 4),(tP 3 0 [115,111,114,116] [(tP 3 0 [46] [(tP 2 0 [99] []),(tP 3 0 [46] [(tP 1 1 [] []),(tP 3 0 [46] [(tP 2 0 [98] []),(tP 3 0 [46] [(tP 1 1 [] []),(tP 2 0 [91,93] [])])])])]),(tP 3 0 [46] [(tP 1 1 [] []),(tP 3 0 [46] [(tP 2 0 [98] []),(tP 3 0 [46] [(tP 2 0 [99] []),(tP 2 0 [91,93] [])])])])]))]
def fv13:AV:=(.pv none (.bool true))
theorem ff13:resV (sem (find tab) prim .fn 18 (pvs fq13) [])=some fv13:=zbe (n:=60) zr1 (by kernel_rfl)
def fK14:Facts:=(18,fq13,fv13)::fK13
theorem zr2:FactsOk (find tab) prim fK14:=.cons (by kernel_rfl) ff13 zr1
def fq14:List (Sh × PV):=[((some 4),(tP 3 0 [108,101,110,103,116,104] [(tP 0 0 [] []),(tP 0 1 [] [])]))]
def fv14:AV:=(.tuple [(.pv none (.sl (some 4) [])),(.pv (some 4) (.agg [((some 4),(tP 3 0 [101,114,114,111,114] [(tP 2 0 [105,110,115,116,97,110,116,105,97,116,105,111,110,95,101,114,114,111,114] []),(tP 2 0 [91,93] [])]))])),(.pv none (.int .i64 (8)))])
theorem ff14:resV (sem (find tab) prim .fn 20 (pvs fq14) [])=some fv14:=zbe (n:=60) zr2 (by kernel_rfl)
def fK15:Facts:=(20,fq14,fv14)::fK14
theorem zr3:FactsOk (find tab) prim fK15:=.cons (by kernel_rfl) ff14 zr2
def fq15:List (Sh × PV):=[((some 4),(tP 3 0 [108,101,110,103,116,104] [(tP 0 0 [] []),(tP 0 1 [] [])])),((some 4),(tP 2 0 [105,110,115,116,97,110,116,105,97,116,105,111,110,95,101,114,114,111,114] []))]
def fv15:AV:=(.pv none (.bool true))
theorem ff15:resV (sem (find tab) prim .fn 37 (pvs fq15) [])=some fv15:=zbe (n:=60) zr3 (by kernel_rfl)
def fK16:Facts:=(37,fq15,fv15)::fK15
theorem zsv:FactsOk (find tab) prim fK16:=.cons (by kernel_rfl) ff15 zr3
theorem zsw:yes (zeq fK16 (find tab) prim 60 .fn 13 [] [])=true:=by kernel_rfl
theorem zsx:sem (find tab) prim .fn 13 [] []=some (.ret (.pv none (.bool true)),[]):=ze1 zsv 60 _ _ _ _ _ (zrF zsw)
def strs(l:List (List UInt8)):List PV:=l.map .str
theorem zpK(l:List (List UInt8)):(strs l).length=l.length:=by simp[strs]
theorem zkx{l:List (List UInt8)}{i:Nat}{s:List UInt8}(h:l[i]? =some s):(strs l)[i]? =some (.str s):=by simp[strs,h]
def idxI:List (List UInt8)->List UInt8->Nat->Int
 |[],_,_=> -1
 |x::r,s,k=>if s=x then k else idxI r s (k+1)
theorem zfO:∀(l:List (List UInt8)) (s:List UInt8) (k:Nat),0<=idxI l s k↔s∈l
 |[],s,k=>by simp[idxI]
 |x::r,s,k=>by
  unfold idxI
  split
  ·rename_i h;simp[h]
  ·rename_i h;rw[zfO r s (k+1)];simp[h]
theorem zpL(l:List (List UInt8))(s:List UInt8)(hl:l.length<=1000000)(hp:Heap):S 85 [.pv none (.sl none (strs l)),.pv none (.str s)] hp=some (.ret (.pv none (.int .i64 (idxI l s 0))),hp):=by
 refine zah rfl rfl rfl (zab [(none,.sl none (strs l)),(none,.str s)]) rfl ?_
 simp -dsimp -implicitDefEqProofs only[go_sem,seval,↓reduceIte,zpK]
 refine zdr (α:=Unit) l.length (fun i _=>idxI l s 0=idxI (l.drop i) s i) (fun i _=>⟨[(0,.pv none (.sl none (strs l))),(1,.pv none (.str s)),(7,.pv none (.int .i64 l.length)),(8,.pv none (.int .i64 i))],[]⟩) () ⟨rfl,rfl⟩ ?_ ?_
 ·rintro i - h hinv
  have hc:(i:Int)<(l.length:Int):=by omega
  obtain⟨u,hu⟩:∃u,l[i]? =some u:=⟨_,List.getElem?_eq_getElem h⟩
  have w2:IntKind.i64.wrap ((i:Int)+1)=((i+1:Nat):Int):=by rw[za8 (by omega) (by omega)];omega
  have hd:l.drop i=u::l.drop (i+1):=by
   have hlt:=(List.getElem?_eq_some_iff.1 hu).1
   rw[List.drop_eq_getElem_cons hlt]
   congr 1
   exact(List.getElem?_eq_some_iff.1 hu).2
  rw[hd,idxI] at hinv
  by_cases hs:s=u
  ·rw[if_pos hs] at hinv
   subst hs
   simp -dsimp -implicitDefEqProofs only[go_sem,seval,↓reduceIte,hc,zan (zkx hu),hinv]
  ·rw[if_neg hs] at hinv
   simp -dsimp -implicitDefEqProofs only[go_sem,seval,↓reduceIte,hc,zan (zkx hu),hs,w2]
   exact⟨(),hinv⟩
 ·rintro - hinv
  have hc:¬(l.length:Int)<(l.length:Int):=by omega
  rw[List.drop_length,idxI] at hinv
  simp -dsimp -implicitDefEqProofs only[go_sem,seval,↓reduceIte,hc,hinv]
theorem zeS(l:List (List UInt8))(s:List UInt8)(hl:l.length<=1000000)(hp:Heap):S 41 [.tsl none (strs l),.pv none (.str s)] hp=some (.ret (.pv none (.bool (decide (s∈l)))),hp):=by
 refine zah (ps:=[(none,.sl none (strs l)),(none,.str s)]) rfl rfl rfl rfl rfl ?_
 have h:=zpL l s hl
 have e:decide (0<=idxI l s 0)=decide (s∈l):=by simp[zfO]
 simp -dsimp -implicitDefEqProofs only[go_sem,seval,↓reduceIte,h,e]
def names1:List (List UInt8):=[[118,97,114],[110,111,110,118,97,114],[97,116,111,109],[105,110,116,101,103,101,114],[97,116,111,109,105,99],[99,111,109,112,111,117,110,100],[99,97,108,108,97,98,108,101],[105,115,95,108,105,115,116],[103,114,111,117,110,100]]
def names2a:List (List UInt8):=[[61,61],[92,61,61],[64,60],[64,61,60],[64,62],[64,62,61]]
def zdw:List (List UInt8):=[[92,61],[61,46,46],[99,111,112,121,95,116,101,114,109],[116,101,114,109,95,118,97,114,105,97,98,108,101,115],[108,101,110,103,116,104],[109,115,111,114,116],[115,111,114,116],[107,101,121,115,111,114,116]]
def zky:List (List UInt8):=[[99,111,109,112,97,114,101],[102,117,110,99,116,111,114],[97,114,103],[98,101,116,119,101,101,110]]
def zb5(n:Int):List (List UInt8):=if n=1 then names1 else if n=2 then names2a++zdw else if n=3 then zky else[]
theorem zn0:∃rows:List (List UInt8 × PV),rows.map (·.1)=names1/\S 39 [] []=some (.ret (.map 0),[.map none (rows.map fun x=>(.str x.1,x.2))]):=by
 refine⟨[(names1.getD 0 [],.func (.func 71)),(names1.getD 1 [],.func (.func 72)),(names1.getD 2 [],.func (.func 73)),(names1.getD 3 [],.func (.func 74)),(names1.getD 4 [],.func (.func 75)),(names1.getD 5 [],.func (.func 47)),(names1.getD 6 [],.func (.func 76)),(names1.getD 7 [],.func (.func 77)),(names1.getD 8 [],.func (.func 78))],by decide,sem_iff.2 ⟨60,by kernel_rfl⟩⟩
theorem zfP:∃rows:List (List UInt8 × PV),rows.map (·.1)=names2a/\S 40 [] []=some (.ret (.map 0),[.map none (rows.map fun x=>(.str x.1,x.2))]):=by
 refine⟨[(names2a.getD 0 [],.func (.func 79)),(names2a.getD 1 [],.func (.func 80)),(names2a.getD 2 [],.func (.func 81)),(names2a.getD 3 [],.func (.func 82)),(names2a.getD 4 [],.func (.func 83)),(names2a.getD 5 [],.func (.func 84))],by decide,sem_iff.2 ⟨60,by kernel_rfl⟩⟩
theorem zgz(s:List UInt8):∀rows:List (List UInt8 × PV),∃r,afind true (.str s) (rows.map fun x=>(.str x.1,x.2))=some r/\(r.isSome=decide (s∈rows.map (·.1)))
 |[]=>⟨none,rfl,rfl⟩
 |x::l=>by
  obtain⟨r,h1,h2⟩:=zgz s l
  by_cases h:s=x.1
  ·exact⟨some x.2,by simp[afind,PV.same,h],by simp[h]⟩
  ·exact⟨r,by simp[afind,PV.same,h,h1],by rw[h2];simp[h]⟩
theorem zfQ(s:List UInt8)(z:AV)(rows:List (List UInt8 × PV))(hp:Heap)(h:hp[0]? =some (.map none (rows.map fun x=>(.str x.1,x.2)))):∃u,zaS true none z true hp [.map 0,.pv none (.str s)]=some (.tuple [u,.pv none (.bool (decide (s∈rows.map (·.1))))]):=by
 obtain⟨r,h1,h2⟩:=zgz s rows
 rw[<-h2]
 cases r with
 |none=>exact⟨z,zcF h h1⟩
 |some p=>exact⟨.pv none p,zbP h h1⟩
theorem zrW(s:List UInt8)(n:Int)(hp:Heap):S 11 [.pv none (.str s),.pv none (.int .i64 n)] hp=some (.ret (.pv none (.bool (decide (s∈zb5 n)))),hp):=by
 refine zah rfl rfl rfl (zab [(none,.str s),(none,.int .i64 n)]) rfl ?_
 by_cases h1:n=1
 ·subst h1
  obtain⟨rows,hr,ht⟩:=zn0
  obtain⟨u,hu⟩:=zfQ s (.pv none .nilfunc) rows [.map none (rows.map fun x=>(.str x.1,x.2))] rfl
  rw[hr] at hu
  have e:zb5 1=names1:=rfl
  rw[e]
  simp -dsimp -implicitDefEqProofs only[go_sem,seval,↓reduceIte,ht,hu]
 ·by_cases h2:n=2
  ·subst h2
   obtain⟨rows,hr,ht⟩:=zfP
   obtain⟨u,hu⟩:=zfQ s (.pv none .nilfunc) rows [.map none (rows.map fun x=>(.str x.1,x.2))] rfl
   rw[hr] at hu
   have e:zb5 2=names2a++zdw:=rfl
   rw[e]
   have hc:∀hp,S 41 [.tsl none [.str [92,61],.str [61,46,46],.str [99,111,112,121,95,116,101,114,109],.str [116,101,114,109,95,118,97,114,105,97,98,108,101,115],.str [108,101,110,103,116,104],.str [109,115,111,114,116],.str [115,111,114,116],.str [107,101,121,115,111,114,116]],.pv none (.str s)] hp=some (.ret (.pv none (.bool (decide (s∈zdw)))),hp):=zeS zdw s (by decide)
   by_cases hs:s∈names2a
   ·have e2:decide (s∈names2a++zdw)=true:=by simp[hs]
    simp -dsimp -implicitDefEqProofs only[go_sem,seval,↓reduceIte,ht,hu,hs,e2]
   ·have e2:decide (s∈names2a++zdw)=decide (s∈zdw):=by simp[hs]
    simp -dsimp -implicitDefEqProofs only[go_sem,seval,↓reduceIte,ht,hu,hs,e2,hc]
  ·by_cases h3:n=3
   ·subst h3
    have hc:∀hp,S 41 [.tsl none [.str [99,111,109,112,97,114,101],.str [102,117,110,99,116,111,114],.str [97,114,103],.str [98,101,116,119,101,101,110]],.pv none (.str s)] hp=some (.ret (.pv none (.bool (decide (s∈zky)))),hp):=zeS zky s (by decide)
    have e:zb5 3=zky:=rfl
    rw[e]
    simp -dsimp -implicitDefEqProofs only[go_sem,seval,↓reduceIte,hc]
   ·have e:zb5 n=[]:=by simp[zb5,h1,h2,h3]
    rw[e]
    simp -dsimp -implicitDefEqProofs only[go_sem,seval,↓reduceIte,h1,h2,h3]
    simp
def outD(F:FuncId->Option AFn)(prim:FuncId->Option zaT)(rs:List RSlot)(s:Nat)(v:AV)(st:St)(p:PV)(st2:St):Prop:=
 ∃g fs cs,st.fr.look s=some (.func (.func g) fs cs)/\∃r hp' v',sem F prim .dfr g (.pv none p::(fs++cs)) st2.hp=some (.ret r,hp')/\zat ⟨st2.fr,hp'⟩ rs=some v'/\Am.frozen v v' hp'
def outK(F:FuncId->Option AFn)(prim:FuncId->Option zaT)(rs:List RSlot)(s:Nat)(v:AV)(st:St):AExit->St->Prop
 | .normal,st2=>outD F prim rs s v st .niliface st2
 | .ret,st2=>outD F prim rs s v st .niliface st2
 | .panic w,st2=>outD F prim rs s v st w st2
 | .exit _,_=>False
def dfrK(F:FuncId->Option AFn)(prim:FuncId->Option zaT)(rs:List RSlot)(s:Nat)(c2:ACode)(v:AV):AExit->St->Prop
 | .normal,st=>(st.fr.look s).isSome=true/\W (sem F prim) (sloop F prim) 0 c2 st (outK F prim rs s v st)
 | .ret,st=>endK rs (Am.frozen v) .ret st
 |_,_=>False
theorem zbi{F:FuncId->Option AFn}{prim:FuncId->Option zaT}{rs:List RSlot}{s:Nat}{c2:ACode}{v:AV}{st:St}:dfrK F prim rs s c2 v .normal st=((st.fr.look s).isSome=true/\W (sem F prim) (sloop F prim) 0 c2 st (outK F prim rs s v st)):=rfl
theorem zch{F:FuncId->Option AFn}{prim:FuncId->Option zaT}{rs:List RSlot}{s:Nat}{c2:ACode}{v:AV}{st:St}:dfrK F prim rs s c2 v .ret st=endK rs (Am.frozen v) .ret st:=rfl
theorem zcI{F:FuncId->Option AFn}{prim:FuncId->Option zaT}{rs:List RSlot}{s:Nat}{v:AV}{st st2:St}:outK F prim rs s v st .ret st2=outD F prim rs s v st .niliface st2:=rfl
theorem zbw{F:FuncId->Option AFn}{prim:FuncId->Option zaT}{rs:List RSlot}{s:Nat}{v:AV}{st st2:St}{w:PV}:outK F prim rs s v st (.panic w) st2=outD F prim rs s v st w st2:=rfl
theorem ziC{F:FuncId->Option AFn}{prim:FuncId->Option zaT}{f:FuncId}{fn:AFn}{args:List AV}{ps:List (Sh × PV)}{hp:Heap}{v:AV}{s:Nat}{c2:ACode}(hp0:prim f=none)(hf:F f=some fn)(hm:fn.heapMode=false)(hz:zai args hp=some (ps,hp))(hn:(pvs ps).length=fn.nparams)(hmo:fn.more=[(.dfr s,c2)])
  (h:W (sem F prim) (sloop F prim) 0 fn.code ⟨params 0 (pvs ps),[]⟩ (dfrK F prim fn.results s c2 v))(hr:fn.rcv=none:=by rfl):sem F prim .fn f args hp=some (.ret v,hp):=by
 rw[zgr]
 unfold za0
 rw[hp0,hf]
 have hl:([]:Heap).length=0:=rfl
 suffices hB:∃v' hp2,abody (sem F prim) (sloop F prim) fn (pvs ps) []=some (.ret v',hp2)/\Am.frozen v v' hp2 by
  obtain⟨v',hp2,h1,hp3,h2⟩:=hB
  simp only[hr,Option.isSome_none,hm,Bool.false_eq_true,if_false,hz,h1,h2]
  cases v.scalar <;> rfl
 unfold abody
 rw[if_neg (by simpa using hn),hmo]
 simp only[hl]
 unfold W at h
 split at h
 ·rename_i e st1 he
  cases e with
  |normal=>
   obtain⟨-,hW⟩:=h
   unfold W at hW
   split at hW
   ·rename_i e2 st2 he2
    have fin:∀p:Option PV,outD F prim fn.results s v st1 (p.getD .niliface) st2->∀e:AExit,(e=.normal\/e=.ret->p=none)->(∀w,e=.panic w->p=some w)->(∀i,e≠.exit i)->e=e2->∃v' hp2,aleave (sem F prim) fn (apieces (sem F prim) (sloop F prim) 0 [(.dfr s,c2)] fn.code ⟨params 0 (pvs ps),[]⟩ [])=some (.ret v',hp2)/\Am.frozen v v' hp2:=by
     rintro p ⟨g,fs,cs,k1,r,hp',v',k2,k3,k4⟩ e n1 n2 n3 rfl
     refine⟨v',hp',?_,k4⟩
     have k5:atop (sem F prim) (.dfr s) st1 []=some (.normal,st1,[.func (.func g) fs cs]):=by simp[atop,k1]
     have ka:apieces (sem F prim) (sloop F prim) 0 [(.dfr s,c2)] fn.code ⟨params 0 (pvs ps),[]⟩ []=some (e,st2,[.func (.func g) fs cs]):=by
      simp only[apieces,he,k5,he2]
     have ku:∀p':Option PV,p'=p->aunwind (sem F prim) [.func (.func g) fs cs] p' st2.hp=some (none,hp'):=by
      rintro p' rfl
      simp only[aunwind,zaV,k2]
     rw[ka]
     cases e with
     |normal=>simp only[aleave,ku none (n1 (.inl rfl)).symm,aresult,k3]
     |ret=>simp only[aleave,ku none (n1 (.inr rfl)).symm,aresult,k3]
     |panic w=>simp only[aleave,ku (some w) (n2 w rfl).symm,aresult,k3]
     |exit i=>exact absurd rfl (n3 i)
    cases e2 with
    |normal=>exact fin none hW .normal (fun _=>rfl) (fun w e=>by cases e) (fun i e=>by cases e) rfl
    |ret=>exact fin none hW .ret (fun _=>rfl) (fun w e=>by cases e) (fun i e=>by cases e) rfl
    |panic w=>exact fin (some w) hW (.panic w) (fun e=>by rcases e with e|e <;> cases e) (fun w e=>by cases e;rfl) (fun i e=>by cases e) rfl
    |exit i=>exact hW.elim
   ·exact hW.elim
  |ret=>
   rw[zch,zcE] at h
   cases hr:zat st1 fn.results with
   |none=>rw[hr] at h;exact h.elim
   |some u=>
    rw[hr] at h
    exact⟨u,st1.hp,by simp only[aleave,apieces,he,aunwind,aresult,hr],h⟩
  |exit i=>exact h.elim
  |panic v=>exact h.elim
 ·exact h.elim
def zrM(n:Nat)(H:Heap):AExit->St->Prop
 | .normal,st=>st.hp.take n=H
 | .ret,st=>st.hp.take n=H
 |_,_=>False
theorem ziD{n:Nat}{H:Heap}{st:St}:zrM n H .normal st=(st.hp.take n=H):=rfl
theorem zpx{F:FuncId->Option AFn}{prim:FuncId->Option zaT}{g:FuncId}{fn:AFn}{ws:List AV}{hp H:Heap}{s:Sh}{p:PV}{t:Nat}(hf:F g=some fn)(hr:fn.rcv=some t)(hmo:fn.more=[])(hn:ws.length=fn.nparams)
  (h:W (sem F prim) (sloop F prim) hp.length fn.code ⟨(t,.pv s p)::params 0 ws,hp⟩ (zrM hp.length H)):sem F prim .dfr g (.pv s p::ws) hp=some (.ret (.tuple []),H):=by
 rw[zqv]
 unfold adefer
 simp only[hf,hr,hmo,hn,ne_eq,not_true_eq_false,if_false]
 unfold W at h
 split at h
 ·rename_i e st he
  rw[he]
  cases e with
  |normal=>rw[<-h]
  |ret=>rw[<-h]
  |exit i=>exact h.elim
  |panic v=>exact h.elim
 ·exact h.elim
structure IsT(v:AV)(hp:Heap)(l:List Tm):Prop where
 len:sLen [v]=some (.pv none (.int .i64 l.length))
 idx:∀(i:Nat) (u:Tm),l[i]? =some u->∃p,(∀(s:Sh) (k:IntKind),zbn (some 4) [v,.pv s (.int k i)]=some p)/\aload (some 4) hp p=some (.pv (some 4) u.pv)
def zeW(ts:List Tm)(e:Int):List Tm × Int:=if e≠0 then([],e) else if 1000<ts.length then([],2) else if ts.all Tm.valid=true then(ts,0) else([],2)
def runV(g:Tm)(k:Nat):PV:=.agg [(some 4,g.pv),(none,.int .i64 (k:Int))]
def hE(g:Tm):Heap:=[.box (some 4) (.pv (some 4) g.pv),.box none (.sl (some 4) 2 0 0 0),.arr (some 4) [] false,.box (some 4) (cagg 0 4),.arr (some 4) [] false,.box none (.pv none (.int .i64 0)),.box (some 5) (.pv (some 5) (runV g (vads [] g.occ).length))]
theorem zdt(t:Tm)(hp:Heap):S 47 [t.av] hp=some (.ret (.pv none (.bool (decide (t.kind=3)))),hp):=by
 refine zah rfl rfl rfl (zab [(some 4,t.pv)]) rfl ?_
 simp -dsimp -implicitDefEqProofs only[go_sem,seval,↓reduceIte,Tm.av,zaj]
theorem zfJ(a0:AObj)(s:AV)(r:Heap):zaG none 0 (a0::.box none s::r) [.ptr 1 0,.tsl (some 4) []]=some (.undef,a0::.box none (.sl (some 4) (r.length+2) 0 0 0)::(r++[.arr (some 4) [] false])):=by
 simp[zaG,astore,AV.shp,AV.plain,AV.own,zb3]
theorem zer(a0:AObj)(s:AV)(r:Heap):zci none 0 (a0::.box none s::r) [.ptr 1 0,.tsl (some 4) [],.ptr 5 0]=some (.undef,a0::.box none (.sl (some 4) (r.length+2) 0 0 0)::(r++[.arr (some 4) [] false])):=by
 simp[zci,astore,AV.shp,AV.plain,AV.own,zb3,zf3]
def zagC:AV:=.agg [(none,.pv none (.int .i64 0)),(none,.pv none (.int .i64 0)),(none,.pv none (.str [])),(none,.tsl (some 4) [])]
theorem zdu(a0 a1 a2:AObj)(s:AV)(r:Heap):zaG (some 4) 0 (a0::a1::a2::.box (some 4) s::r) [.ptr 3 0,zagC]=some (.undef,a0::a1::a2::.box (some 4) (cagg 0 (r.length+4))::(r++[.arr (some 4) [] false])):=by
 simp[zaG,astore,AV.shp,AV.plain,AV.own,zb3,zagC,cagg,zak,zdp,total,Sh.size]
theorem zdc(a0 a1 a2:AObj)(s:AV)(r:Heap):zci (some 4) 0 (a0::a1::a2::.box (some 4) s::r) [.ptr 3 0,zagC,.ptr 5 0]=some (.undef,a0::a1::a2::.box (some 4) (cagg 0 (r.length+4))::(r++[.arr (some 4) [] false])):=by
 simp[zci,astore,AV.shp,AV.plain,AV.own,zb3,zagC,cagg,zak,zdp,total,Sh.size,zf3]
theorem zpo(H:Heap):sem (find tab) prim .dfr 48 [.pv none .niliface,.ptr 1 0,.ptr 3 0,.ptr 5 0] H=some (.ret (.tuple []),H):=by
 refine zpx (t:=6) rfl rfl rfl rfl ?_
 have hin:ze8 true [.pv none .niliface]=some (.pv none (.bool false)):=rfl
 simp -dsimp -implicitDefEqProofs only[go_sem,seval,↓reduceIte,hin,ziD,List.append_assoc,zas,zao,zaw,zap,Nat.add_assoc,List.length_append]
 simp
theorem zho{fr:Fr}{hp0 H:Heap}{es:List PV}{n q1 q2:Nat}{b1 b2:Bool}{e:Int}(hf:fr.look 33=some (.func (.func 48) [] [.ptr 1 0,.ptr 3 0,.ptr 5 0]))(h1:H[1]? =some (.box none (.sl (some 4) q1 n 0 n)))(h3:H[3]? =some (.box (some 4) (cagg 0 q2)))(h5:H[5]? =some (.box none (.pv none (.int .i64 e))))(he:H[q1]? =some (.arr (some 4) es b1))(hn:es.length=n)(hz:H[q2]? =some (.arr (some 4) [] b2))(hq:q1≠q2):
  outD (find tab) prim [(2,some none),(3,some (some 4)),(4,some none)] 33 (.tuple [.pv none (.sl (some 4) es),.pv (some 4) zt.pv,.pv none (.int .i64 e)]) ⟨fr,hp0⟩ .niliface ⟨[(2,.ptr 1 0),(3,.ptr 3 0),(4,.ptr 5 0)],H⟩:=by
 refine⟨_,[],_,hf,.tuple [],H,.tuple [.sl (some 4) q1 n 0 n,cagg 0 q2,.pv none (.int .i64 e)],zpo H,?_,?_⟩
 ·simp[zat,zaL,zc0,Fr.look,h1,h3,h5,cagg,aload,zhd,AV.shp,total,Sh.size]
 ·have hz':(H.set q1 (.arr (some 4) es true))[q2]? =some (.arr (some 4) [] b2):=by rw[List.getElem?_set_ne hq];exact hz
  have e1:AV.freeze deep (.sl (some 4) q1 n 0 n) H=some (.sl (some 4) es,H.set q1 (.arr (some 4) es true)):=by
   simp[AV.freeze,deep,he,hn]
  have e2:AV.freeze deep (cagg 0 q2) (H.set q1 (.arr (some 4) es true))=some (zt.pv,(H.set q1 (.arr (some 4) es true)).set q2 (.arr (some 4) [] true)):=by
   have e:∀l hp,AV.freeze (7+1) (.agg l) hp=match AV.freeze.go 7 l hp with|some (ps,hp')=>some (.agg ps,hp')|none=>none:=fun _ _=>rfl
   show AV.freeze (7+1) (.agg _) _=_
   simp[e,AV.freeze.go,AV.freeze,hz']
   rfl
  have e3:∀X,AV.freeze deep (.pv none (.int .i64 e)) X=some (.int .i64 e,X):=fun _=>rfl
  refine⟨(H.set q1 (.arr (some 4) es true)).set q2 (.arr (some 4) [] true),?_⟩
  have e4:(cagg 0 q2).shp=some 4:=rfl
  simp[AV.freezeRes,zai,e1,e2,e3,pvs,e4,AV.shp]
  exact rfl
theorem zfK{Γ:Oracle}{b:Nat}{vs:List AV}{hp:Heap}{K:AV->Heap->Prop}{Kp:PV->Heap->Prop}(sh:Sh):opK (aOp Γ b (.storex sh) vs hp) K Kp=zbJ (zcj sh b hp vs) K:=by
 show opK (match zcj sh b hp vs with|some (v,hp')=>some (OpRes.val v hp')|none=>none) K Kp=_
 cases zcj sh b hp vs with
 |none=>rfl
 |some r=>cases r;rfl
def kC(a0 x6:AObj)(ext:Heap)(j:Nat)(es:List PV):Heap:=a0::.box none (.sl (some 4) 2 j 0 j)::.arr (some 4) es false::.box (some 4) (cagg 0 4)::.arr (some 4) [] false::.box none (.pv none (.int .i64 0))::x6::ext
theorem zrG{a0 x6:AObj}{ext:Heap}{j:Nat}{es:List PV}(h:es.length=j)(hj:j<1000000)(p:PV)(X:Heap):zaK (some 4) (kC a0 x6 ext j es++X) [.sl (some 4) 2 j 0 j,.tsl (some 4) [p]]=some (.sl (some 4) 2 (j+1) 0 (j+1),kC a0 x6 ext j (es++[p])++X):=by
 have hlim:j+1<=lim:=by unfold lim;omega
 simp[zaK,aappend,elems,kC,h,hlim]
theorem zsq{a0 x6:AObj}{ext:Heap}{j:Nat}{es:List PV}(h:es.length=j)(p q:PV)(X:Heap):zaG (some 4) 0 (kC a0 x6 ext j (es++[p])++X) [.eptr (some 4) 2 (j+1) (0+j) 0,.pv (some 4) q]=some (.undef,kC a0 x6 ext j (es++[q])++X):=by
 have e:AV.freeze deep (.pv (some 4) q) (kC a0 x6 ext j (es++[p])++X)=some (q,kC a0 x6 ext j (es++[p])++X):=rfl
 simp only[zaG,astore,AV.shp,e]
 simp[kC,h]
theorem zrH{a0 x6:AObj}{ext:Heap}{j:Nat}{es:List PV}(q:PV)(s:Sh)(r v i o:Nat)(X:Heap):zcj none 0 (kC a0 x6 ext j es++X) [.ptr 1 0,.sl (some 4) 2 (j+1) 0 (j+1),.eptr s r v i o,.pv (some 4) q]=some (.undef,kC a0 x6 ext (j+1) es++X):=by
 simp[zcj,astore,AV.shp,AV.plain,AV.own,kC]
theorem zrI{a0 x6:AObj}{ext X:Heap}(hp:ext <+: X){j:Nat}{es:List PV}(fr:Fr)(Y:Heap):∃Z,ext <+: Z/\collect (ext.length+7) 0 fr (kC a0 x6 X j es++Y)=kC a0 x6 Z j es:=by
 have e:kC a0 x6 X j es++Y=kC a0 x6 (X++Y) j es:=rfl
 rw[e]
 unfold collect
 split
 ·refine⟨ext,List.prefix_refl _,?_⟩
  obtain⟨Y2,rfl⟩:=hp
  rw[List.append_assoc]
  simp only[kC,List.take_succ_cons,List.take_left]
 ·exact⟨X++Y,hp.trans (List.prefix_append _ _),rfl⟩
theorem zpp(g:Tm)(hp:Heap)(hv:g.valid=true)(hc:canT g=g)(hk:g.kind=3)(hn:g.name∈zb5 g.args.length)(ts:List Tm)(e:Int)(lv:AV)(x6:AObj)(ext:Heap)
  (he:S 50 [.ptr 6 0] (hE g)=some (.ret (.tuple [lv,.pv none (.int .i64 e)]),(hE g).take 6++x6::ext))(hL:∀H:Heap,(∀j x,6<=j->((hE g).take 6++x6::ext)[j]? =some x->H[j]? =some x)->IsT lv H ts)(hlt:ts.length<100000000)(hts:∀t∈ts,t.size<1000000):
  S 20 [g.av] hp=some (.ret (.tuple [.pv none (.sl (some 4) (Tm.pvs (zeW ts e).1)),zt.av,.pv none (.int .i64 (zeW ts e).2)]),hp):=by
 refine ziC rfl rfl rfl (zab [(some 4,g.pv)]) rfl rfl ?_
 have hsz:=valid_size hv
 have h1:=fun hp=>zbA g hp (by omega)
 have h2:=fun hp=>zpt g hp (by omega)
 have h3:=fun hp=>zpR g g hp (by omega) (by omega)
 have h4:=fun hp=>zdt g hp
 have h5:=fun hp=>zrW g.name g.args.length hp
 have h6:=fun hp=>zkA g hv hp
 have hcr:canR g=g:=by unfold canR;rw[if_pos hv,hc]
 have hsm:same g g=true:=by simp[same,hv,Tm.cmp_zero]
 rw[hcr] at h2
 rw[hsm] at h3
 rw[hv] at h1
 have hn':decide (g.name∈zb5 g.args.length)=true:=decide_eq_true hn
 rw[hn'] at h5
 have hk':decide (g.kind=3)=true:=decide_eq_true hk
 rw[hk'] at h4
 have hal:∀a0:AObj,zb8 none (.tsl (some 4) []) [a0] []=some (.ptr 1 0,[a0,.box none (.sl (some 4) 2 0 0 0),.arr (some 4) [] false]):=fun _=>rfl
 have hnx:(ints (vads [] g.occ)).length=(vads [] g.occ).length:=zaW _
 simp only[Tm.av] at h1 h2 h3 h4 h5 h6
 have hbu:∀k:Nat,zbd [(some 4,.agg [(none,.pv none (.int .i64 0)),(none,.pv none (.int .i64 0)),(none,.pv none (.str [])),(none,.tsl (some 4) [])]),(none,.pv none (.int .i64 0))] [0,1] [.pv (some 4) g.pv,.pv none (.int .i64 (k:Int))]=some (.pv (some 5) (runV g k)):=fun _=>rfl
 simp only[hE,cagg,List.take_succ_cons,List.take_zero,List.cons_append,List.nil_append] at he
 have hz0:zbd [(none,.pv none (.int .i64 0)),(none,.pv none (.int .i64 0)),(none,.pv none (.str [])),(none,.tsl (some 4) [])] [] []=some zagC:=rfl
 by_cases h0:e=0
 rotate_left
 ·have hr:zeW ts e=([],e):=by simp[zeW,h0]
  rw[hr]
  simp -dsimp -implicitDefEqProofs only[go_sem,seval,↓reduceIte,Tm.av,hal,hbu,hz0,h0,h1,h2,h3,h4,h5,h6,hnx,he,zfJ,zer,zdu,zdc,zal,zad,Tm.pvs_len,zae (Nat.zero_le _),zay,zch,zbi,zcI,zbw,List.append_assoc,zas,zao,zaw,zap,Nat.add_assoc,List.length_append]
  exact⟨rfl,zho (es:=[]) (b1:=false) (b2:=false) rfl rfl rfl rfl (by simp) rfl (by simp) (by omega)⟩
 subst h0
 have hlen:=(hL ((hE g).take 6++x6::ext) fun _ _ _ h=>h).len
 by_cases hg:(1000:Int)<(ts.length:Int)
 ·have hr:zeW ts 0=([],2):=by
   have:1000<ts.length:=by omega
   simp[zeW,this]
  rw[hr]
  simp -dsimp -implicitDefEqProofs only[go_sem,seval,↓reduceIte,Tm.av,hal,hbu,hz0,hg,hlen,h1,h2,h3,h4,h5,h6,hnx,he,zfJ,zer,zdu,zdc,zal,zad,Tm.pvs_len,zae (Nat.zero_le _),zay,zch,zbi,zcI,zbw,List.append_assoc,zas,zao,zaw,zap,Nat.add_assoc,List.length_append]
  exact⟨rfl,zho (es:=[]) (b1:=false) (b2:=false) rfl rfl rfl rfl (by simp) rfl (by simp) (by omega)⟩
 have hg':¬1000<ts.length:=by omega
 have hr:zeW ts 0=if ts.all Tm.valid=true then(ts,0) else([],2):=by simp[zeW,hg']
 simp -dsimp -implicitDefEqProofs only[go_sem,seval,↓reduceIte,Tm.av,hal,hbu,hz0,hg,hlen,h1,h2,h3,h4,h5,h6,hnx,he,zfJ,zer,zdu,zdc,zal,zad,Tm.pvs_len,zae (Nat.zero_le _),zay,zch,zbi,zcI,zbw,List.append_assoc,zas,zao,zaw,zap,Nat.add_assoc,List.length_append]
 refine⟨rfl,?_⟩
 refine zdr (α:=Heap) ts.length (fun i X=>ext <+: X/\∀t∈ts.take i,t.valid=true) (fun i X=>⟨[(2,.ptr 1 0),(3,.ptr 3 0),(4,.ptr 5 0),(53,lv),(54,.pv none (.int .i64 ts.length)),(55,.pv none (.int .i64 i))],kC (.box (some 4) (.pv (some 4) g.pv)) x6 X i (Tm.pvs (ts.take i))⟩) ext ⟨⟨List.prefix_refl _,?_⟩,?_⟩ ?_ ?_
 ·intro t ht
  simp at ht
 ·rfl
 ·rintro i X0 h ⟨hpre,hinv⟩
  obtain⟨K,hK⟩:∃K:Nat->List PV->Heap,K=kC (.box (some 4) (.pv (some 4) g.pv)) x6 X0:=⟨_,rfl⟩
  obtain⟨n,hn2⟩:∃n,n=X0.length+7:=⟨_,rfl⟩
  have hKl:∀j es,(K j es).length=n:=fun j es=>by rw[hK,hn2];rfl
  have hK1:∀j es X,(K j es++X)[1]? =some (.box none (.sl (some 4) 2 j 0 j)):=fun j es X=>by rw[hK];rfl
  have hKK:kC (.box (some 4) (.pv (some 4) g.pv)) x6 X0 i (Tm.pvs (ts.take i))=K i (Tm.pvs (ts.take i)):=by rw[hK]
  rw[hKK]
  have hc:(i:Int)<(ts.length:Int):=by omega
  obtain⟨u,hu⟩:∃u,ts[i]? =some u:=⟨_,List.getElem?_eq_getElem h⟩
  have w2:IntKind.i64.wrap ((i:Int)+1)=((i+1:Nat):Int):=by rw[za8 (by omega) (by omega)];omega
  have husz:=hts u (List.mem_of_getElem? hu)
  have h7:=fun hp=>zbA u hp (by omega)
  simp only[Tm.av] at h7
  have hl:(Tm.pvs (ts.take i)).length=i:=by rw[Tm.pvs_len,List.length_take];omega
  obtain⟨p,hp1,hp2⟩:=(hL (K i (Tm.pvs (ts.take i))) fun j x hj hx=>by
   rw[hK]
   match j,hj with
   |6,_=>exact hx
   |j+7,_=>
    obtain⟨Y,hY⟩:=hpre
    have h1:ext[j]? =some x:=hx
    show X0[j]? =some x
    rw[<-hY,List.getElem?_append_left (zcg h1),h1]).idx i u hu
  have happ:=fun p X=>zrG (a0:=.box (some 4) (.pv (some 4) g.pv)) (x6:=x6) (ext:=X0) hl (by omega) p X
  have hste:=fun p q X=>zsq (a0:=.box (some 4) (.pv (some 4) g.pv)) (x6:=x6) (ext:=X0) hl p q X
  have hstx:=fun(j:Nat) (es:List PV) (q:PV) s r v i o X=>zrH (a0:=.box (some 4) (.pv (some 4) g.pv)) (x6:=x6) (ext:=X0) (j:=j) (es:=es) q s r v i o X
  rw[<-hK] at happ hste hstx
  have hwk:zax [.agg [(none,.pv none (.int .i64 0)),(none,.pv none (.int .i64 0)),(none,.pv none (.str [])),(none,.tsl (some 4) [])]]=some [(some 4,zt.pv)]:=rfl
  have hia:zbn (some 4) [.sl (some 4) 2 (i+1) 0 (i+1),.pv none (.int .i64 i)]=some (.eptr (some 4) 2 (i+1) (0+i) 0):=zgt (by omega)
  rw[Nat.zero_add] at hia
  simp only[Nat.zero_add] at hste
  have htk:Tm.pvs (ts.take i)++[u.pv]=Tm.pvs (ts.take (i+1)):=Tm.zsC hu
  by_cases hvu:u.valid=true
  ·have h8:=fun hp=>zdd u hp hvu (by omega)
   simp only[Tm.av] at h8
   simp -dsimp -implicitDefEqProofs only[go_sem,seval,↓reduceIte,zfK,Tm.av,hc,h7,h8,hvu,w2,hp1,hp2,hwk,htk,hia,hK1,happ,hste,hstx,hKl,zfJ,zer,zdu,zdc,zal,zad,Tm.pvs_len,zae (Nat.zero_le _),zay,zch,zbi,zcI,zbw,List.append_assoc,zas,zao,zaw,zap,Nat.add_assoc,List.length_append,getN (hKl _ _),zeo (hKl _ _),setN (hKl _ _),zep (hKl _ _)]
   have hc2:∀fr Y,∃Z,ext <+: Z/\collect (ext.length+7) 0 fr (K (i+1) (Tm.pvs (ts.take (i+1)))++Y)=kC (.box (some 4) (.pv (some 4) g.pv)) x6 Z (i+1) (Tm.pvs (ts.take (i+1))):=fun fr Y=>by
    rw[hK]
    exact zrI hpre fr Y
   obtain⟨Z,hZ1,hZ⟩:=hc2 [(2,.ptr 1 0),(3,.ptr 3 0),(4,.ptr 5 0),(53,lv),(54,.pv none (.int .i64 ts.length)),(55,.pv none (.int .i64 (i+1:Nat)))] [.box (some 4) (.pv (some 4) u.pv),.arr (some 4) [] false]
   refine⟨Z,⟨hZ1,fun t ht=> ?_⟩,?_⟩
   ·rw[List.take_add_one,hu,List.mem_append] at ht
    rcases ht with ht|ht
    ·exact hinv t ht
    ·simp at ht
     rw[ht]
     exact hvu
   ·rw[hZ]
  ·have hvu':u.valid=false:=by simpa using hvu
   have hall:ts.all Tm.valid=false:=by
    rw[List.all_eq_false]
    exact⟨u,List.mem_of_getElem? hu,hvu⟩
   rw[hr,hall]
   simp -dsimp -implicitDefEqProofs only[go_sem,seval,↓reduceIte,zfK,Tm.av,hc,h7,hvu',hz0,hp1,hp2,hK1,hKl,zfJ,zer,zdu,zdc,zal,zad,Tm.pvs_len,zae (Nat.zero_le _),zay,zch,zbi,zcI,zbw,List.append_assoc,zas,zao,zaw,zap,Nat.add_assoc,List.length_append,getN (hKl _ _),zeo (hKl _ _),setN (hKl _ _),zep (hKl _ _)]
   simp -dsimp -implicitDefEqProofs only[hK,kC,go_sem,seval,↓reduceIte,zfJ,zdu,zch,zbi,zcI,zbw,List.append_assoc,zas,zao,zaw,zap,Nat.add_assoc,List.length_append]
   exact zho (es:=[]) (b1:=false) (b2:=false) rfl rfl rfl rfl (by simp) rfl (by simp) (by omega)
 ·rintro X0 ⟨hpre,hinv⟩
  have hc:¬(ts.length:Int)<(ts.length:Int):=by omega
  rw[List.take_length] at hinv ⊢
  have hall:ts.all Tm.valid=true:=List.all_eq_true.2 hinv
  rw[hr,if_pos hall]
  simp -dsimp -implicitDefEqProofs only[go_sem,seval,↓reduceIte,zfK,Tm.av,hc,hz0,kC,zfJ,zer,zdu,zdc,zal,zad,Tm.pvs_len,zae (Nat.zero_le _),zaY (Nat.zero_le _),zay,zch,zbi,zcI,zbw,List.append_assoc,zas,zao,zaw,zap,Nat.add_assoc,List.length_append]
  exact zho (b1:=false) (b2:=false) rfl rfl rfl rfl (by simp) (Tm.pvs_len _) (by simp) (by omega)
theorem zpY{Γ:Oracle}{b:Nat}{vs:List AV}{hp:Heap}{K:AV->Heap->Prop}{Kp:PV->Heap->Prop}(neg:Bool):opK (aOp Γ b (.slnil neg) vs hp) K Kp=valK (ze9 neg vs) fun v=>K v hp:=by
 show opK (match(match ze9 neg vs with|some v=>some (v,hp)|none=>none) with|some (v,hp')=>some (OpRes.val v hp')|none=>none) K Kp=_
 cases ze9 neg vs <;> rfl
theorem ziJ(g:Tm)(k:Nat):PV.part deep (runV g k) 0 (some 4)=some g.pv:=by cases g;rfl
theorem zol(g:Tm)(k:Nat):PV.part deep (runV g k) 3 none=some (.sl (some 4) (Tm.pvs g.args)):=by cases g;rfl
theorem zom(g:Tm)(k:Nat):PV.part deep (runV g k) 2 none=some (.str g.name):=by cases g;rfl
theorem zkD(t:Tm)(hp:Heap):S 71 [t.av] hp=some (.ret (.pv none (.bool (decide (t.kind=0)))),hp):=by
 refine zah rfl rfl rfl (zab [(some 4,t.pv)]) rfl ?_
 simp -dsimp -implicitDefEqProofs only[go_sem,seval,↓reduceIte,Tm.av,zaj]
theorem zkE(t:Tm)(hp:Heap):S 74 [t.av] hp=some (.ret (.pv none (.bool (decide (t.kind=1)))),hp):=by
 refine zah rfl rfl rfl (zab [(some 4,t.pv)]) rfl ?_
 simp -dsimp -implicitDefEqProofs only[go_sem,seval,↓reduceIte,Tm.av,zaj]
theorem zd5(t:Tm)(hp:Heap):S 73 [t.av] hp=some (.ret (.pv none (.bool (decide (t.kind=2)))),hp):=by
 refine zah rfl rfl rfl (zab [(some 4,t.pv)]) rfl ?_
 simp -dsimp -implicitDefEqProofs only[go_sem,seval,↓reduceIte,Tm.av,zaj]
theorem zon(es:List PV)(hne:0<es.length)(hl:es.length<=10)(hp:Heap):S 95 [.pv none (.sl (some 4) es)] hp=some (.ret (.sl (some 4) (hp.length+1) es.length 0 es.length),hp++[.arr (some 4) [] false,.arr (some 4) es false]):=by
 refine zbc rfl rfl rfl rfl ?_
 have hlim:es.length<=lim:=by unfold lim;omega
 have happ:∀H:Heap,zaK (some 4) H [.tsl (some 4) [],.pv none (.sl (some 4) es)]=some (.sl (some 4) H.length es.length 0 es.length,H++[.arr (some 4) es false]):=fun H=>by
  have hne':¬es=[]:=fun e=>by rw[e] at hne;simp at hne
  simp[zaK,aappend,elems,hlim,zb3,hne']
 have hni:ze9 false [.pv none (.sl (some 4) es)]=some (.pv none (.bool false)):=by
  cases es with
  |nil=>simp at hne
  |cons x r=>rfl
 simp -dsimp -implicitDefEqProofs only[go_sem,seval,↓reduceIte,zpY,hni,hlim,happ,zck (sh:=some 4) (by decide),List.append_assoc,zas,zao,zaw,zap,Nat.add_assoc,List.length_append]
 rw[if_neg (by simp[AV.refsIn])]
def tstr(s:List UInt8)(l:List Tm):Tm:=.mk 3 0 s l
theorem zsu(s:List UInt8)(l:List Tm):W Z L 0 (g19).code ⟨params 0 (pvs [(none,.str s),(none,.sl (some 4) (Tm.pvs l))]),[]⟩ (endK (g19).results (Am.frozen (tstr s l).av)):=by
 have hbu:zbd [(none,.pv none (.int .i64 0)),(none,.pv none (.int .i64 0)),(none,.pv none (.str [])),(none,.tsl (some 4) [])] [0,2,3] [.pv none (.int .i64 3),.pv none (.str s),.pv none (.sl (some 4) (Tm.pvs l))]=some (.pv (some 4) (tstr s l).pv):=rfl
 simp -dsimp -implicitDefEqProofs only[go_sem,seval,↓reduceIte,hbu,Tm.av]
theorem f_ok(s:List UInt8)(l:List Tm)(hp:Heap):S 19 [.pv none (.str s),.pv none (.sl (some 4) (Tm.pvs l))] hp=some (.ret (tstr s l).av,hp):=
 zah rfl rfl rfl (zab [(none,.str s),(none,.sl (some 4) (Tm.pvs l))]) rfl (zsu s l)
theorem ziF(a b:Tm)(ha:a.size<1000000000)(hb:b.size<1000000000):W Z L 0 (g22).code ⟨params 0 (pvs [(some 4,a.pv),(some 4,b.pv)]),[]⟩ (endK (g22).results (Am.frozen (.pv none (.bool (same a b))))):=by
 have h1:=fun hp=>zpQ a b hp ha hb
 simp only[Tm.av] at h1
 simp -dsimp -implicitDefEqProofs only[go_sem,seval,↓reduceIte,h1]
theorem zpO(a b:Tm)(hp:Heap)(ha:a.size<1000000000)(hb:b.size<1000000000):S 22 [a.av,b.av] hp=some (.ret (.pv none (.bool (same a b))),hp):=
 zah rfl rfl rfl (zab [(some 4,a.pv),(some 4,b.pv)]) rfl (ziF a b ha hb)
def zV:AV:=.agg [(none,.pv none (.int .i64 0)),(none,.pv none (.int .i64 0)),(none,.pv none (.str [])),(none,.tsl (some 4) [])]
theorem zq5(a:Tm)(hp:Heap)(ha:a.size<1000000000):S 22 [a.av,zV] hp=some (.ret (.pv none (.bool (same a zt))),hp):=
 zah (ps:=[(some 4,a.pv),(some 4,zt.pv)]) rfl rfl rfl rfl rfl (ziF a zt ha (by decide))
def zq6(g:Tm)(l:List Tm)(b:Tm)(e:Int):Prop:=∀hp:Heap,S 20 [g.av] hp=some (.ret (.tuple [.pv none (.sl (some 4) (Tm.pvs l)),b.av,.pv none (.int .i64 e)]),hp)
theorem zlO{g:Tm}(h:g.valid=true):same g g=true:=by simp[same,h,Tm.cmp_zero]
theorem zq7:same zt zt=true:=by decide
theorem zpP(hp:Heap):S 13 [] hp=some (.ret (.pv none (.bool true)),hp):=by
 have h:=zhj (hp:=hp) (args:=[]) (ps:=[]) (hp1:=hp) (f:=13) rfl rfl rfl rfl zsx
 exact h
theorem zjK(g:Tm)(l:List Tm)(hg:g.valid=true)(hc:zq6 g l zt 0)(hl:l=[]\/l=[g])(hp:Heap):S 16 [g.av] hp=some (.ret (.tuple [.pv none (.bool (decide (l.length=1))),.pv none (.bool true)]),hp):=by
 refine zah rfl rfl rfl (zab [(some 4,g.pv)]) rfl ?_
 have hsz:=valid_size hg
 have h1:=fun hp=>zq5 zt hp (by decide)
 have h2:=fun hp=>zpO g g hp (by omega) (by omega)
 have hz0:zbd [(none,.pv none (.int .i64 0)),(none,.pv none (.int .i64 0)),(none,.pv none (.str [])),(none,.tsl (some 4) [])] [] []=some zV:=rfl
 unfold zq6 at hc
 rw[zq7] at h1
 rw[zlO hg] at h2
 simp only[Tm.av] at h1 h2 hc
 rcases hl with rfl|rfl
 ·simp -dsimp -implicitDefEqProofs only[go_sem,seval,↓reduceIte,Tm.av,h1,h2,hc,hz0,Tm.pvs_len,zae (Nat.zero_le _)]
  done
 ·have hge:(Tm.pvs [g])[0]? =some g.pv:=rfl
  simp -dsimp -implicitDefEqProofs only[go_sem,seval,↓reduceIte,Tm.av,h1,h2,hc,hz0,Tm.pvs_len,zfH hge,zae (Nat.zero_le _)]
  done
def Bq(hp:Heap):Prop:=∀x∈hp,AObj.beq x x=true
theorem Bq.same:∀{hp:Heap},Bq hp->zaU hp hp=true
 |[],_=>rfl
 |x::r,h=>by
  show(AObj.beq x x && zaU r r)=true
  rw[h x List.mem_cons_self,Bq.same (hp:=r) fun y hy=>h y (List.mem_cons_of_mem _ hy)]
  rfl
theorem Bq.cons{x:AObj}{b:Heap}(h1:AObj.beq x x=true)(h2:Bq b):Bq (x::b):=fun y hy=>(List.mem_cons.1 hy).elim (fun e=>e▸h1) (h2 y)
theorem Bq.nil:Bq []:=fun _ h=>by cases h
theorem Bq.set{hp:Heap}(h:Bq hp)(i:Nat){x:AObj}(hx:AObj.beq x x=true):Bq (hp.set i x):=fun y hy=>by
 rcases List.mem_or_eq_of_mem_set hy with h1|rfl
 ·exact h y h1
 ·exact hx
theorem zrS(t:Tm):AObj.beq (.box (some 4) (.pv (some 4) t.pv)) (.box (some 4) (.pv (some 4) t.pv))=true:=by simp[AObj.beq,AV.beq,zhs]
theorem zpF{es:List PV}(h:∀x∈es,PV.beq x x=true):PV.beqs es es=true:=by
 induction es with
 |nil=>rfl
 |cons x r ih=>
  show(PV.beq x x && PV.beqs r r)=true
  rw[h x List.mem_cons_self,ih fun y hy=>h y (List.mem_cons_of_mem _ hy)]
  rfl
def gK(r:Option (ARes × Heap))(hp:Heap)(K:AV->Heap->Prop):Prop:=match r with
 |some (.ret v,hp')=>zaU (hp'.take hp.length) hp=true/\K v hp'
 |_=>False
theorem zst{Γ:Oracle}{b:Nat}{s:Sh}{f:FuncId}{vs:List AV}{hp:Heap}{K:AV->Heap->Prop}{Kp:PV->Heap->Prop}:opK (aOp Γ b .callg (.pv s (.func (.func f))::vs) hp) K Kp=gK (Γ .fn f vs hp) hp K:=by
 unfold gK
 simp only[aOp,zfa,zcK,zaV,List.nil_append,List.append_nil]
 cases Γ .fn f vs hp with
 |none=>rfl
 |some r=>
  obtain⟨r,hp'⟩:=r
  cases r with
  |panic p=>rfl
  |ret v=>
   by_cases h:zaU (hp'.take hp.length) hp=true
   ·simp only[h,if_true,true_and]
    rfl
   ·have h':zaU (hp'.take hp.length) hp=false:=by simpa using h
    simp only[h',Bool.false_eq_true,if_false,false_and]
    rfl
theorem zrT{v:AV}{hp hp':Heap}{K:AV->Heap->Prop}:gK (some (.ret v,hp')) hp K=(zaU (hp'.take hp.length) hp=true/\K v hp'):=rfl
theorem zpG{hp a b:Heap}(h:Bq hp):zaU (hp++a) (hp++b)=zaU a b:=by
 induction hp with
 |nil=>rfl
 |cons x r ih=>
  show(AObj.beq x x && zaU (r++a) (r++b))=_
  rw[h x List.mem_cons_self,ih fun y hy=>h y (List.mem_cons_of_mem _ hy)]
  rfl
theorem znY(x y:AObj)(a b:Heap):zaU (x::a) (y::b)=(AObj.beq x y && zaU a b):=rfl
theorem zpH:zaU [] []=true:=rfl
theorem zq0(s:Sh)(z:Bool):AObj.beq (.arr s [] z) (.arr s [] z)=true:=by simp[AObj.beq,PV.beqs]
theorem zrU(s:List UInt8)(a b:Sh):AObj.beq (.box a (.pv b (.str s))) (.box a (.pv b (.str s)))=true:=by simp[AObj.beq,AV.beq,PV.beq]
theorem zq1(l:List Tm):PV.beqs (Tm.pvs l) (Tm.pvs l)=true:=zpF fun x hx=>by
 rw[Tm.zsN] at hx
 obtain⟨t,_,rfl⟩:=List.mem_map.1 hx
 exact zhs t
theorem zq2(s:Sh)(l:List Tm)(z:Bool):AObj.beq (.arr s (Tm.pvs l) z) (.arr s (Tm.pvs l) z)=true:=by simp[AObj.beq,zq1]
end Go.Proofs.YtiifblpdlphchaaGreatRR
