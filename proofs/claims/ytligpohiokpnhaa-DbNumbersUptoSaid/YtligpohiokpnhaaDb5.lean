/- What is proved: body.number: a term whose variables have the numbers of a map. -/
import Derived.Test.YtligpohiokpnhaaCp
set_option linter.unusedSimpArgs false
set_option linter.unusedVariables false
namespace Go.Proofs.Ytligpohiokpnhaa
open Go.Am
theorem ztE{m:List (Int × PV)}{hp:Heap}{r:Nat}{s:Sh}{v:Int}(h:hp[r]? =some (.map none (zbK m))):za9 false none (.pv none (.int .i64 0)) true hp [.map r,.pv s (.int .i64 v)]=some (match zds v m with|some x=>.tuple [.pv none x,.pv none (.bool true)]|none=>.tuple [.pv none (.int .i64 0),.pv none (.bool false)]):=by
 have hf:=zfu v m
 cases hm:zds v m with
 |none=>rw[hm] at hf;exact zeW h hf
 |some x=>rw[hm] at hf;exact zeV h hf
def appC(n:Nat)(t:Tm)(ts:List Tm)(i:Nat):Heap:=[.box (some 4) (.pv (some 4) t.pv),.box (some 4) (.agg [(none,.pv none (.int .i64 0)),(none,.pv none (.int .i64 0)),(none,.pv none (.str [])),(none,.sl (some 4) (n+2) 0 0 0)]),.arr (some 4) [] false,.box (some 4) (.agg [(none,.pv none (.int .i64 t.kind)),(none,.pv none (.int .i64 t.n)),(none,.pv none (.str t.name)),(none,.sl (some 4) (n+5) i 0 i)]),.arr (some 4) [] false,.arr (some 4) (Tm.pvs (ts.take i)) false]
theorem zrB(a b:List Tm):Tm.occs (a++b)=Tm.occs a++Tm.occs b:=by
 induction a with
 |nil=>rfl
 |cons x r ih=>rw[List.cons_append,Tm.occs,Tm.occs,ih,List.append_assoc]
def sgg(u:Tm)(q:Nat):AV:=.agg [(none,.pv none (.int .i64 u.kind)),(none,.pv none (.int .i64 u.n)),(none,.pv none (.str u.name)),(none,.sl (some 4) q u.args.length 0 u.args.length)]
theorem znD{u:Tm}{q:Nat}{H:Heap}{z:Bool}(h:H[q]? =some (.arr (some 4) (Tm.pvs u.args) z)):AV.freeze deep (sgg u q) H=some (u.pv,H.set q (.arr (some 4) (Tm.pvs u.args) true)):=by
 have e:∀l hp,AV.freeze (7+1) (.agg l) hp=match AV.freeze.go 7 l hp with|some (ps,hp')=>some (.agg ps,hp')|none=>none:=fun _ _=>rfl
 show AV.freeze (7+1) (.agg _) _=_
 simp[e,AV.freeze.go,AV.freeze,h,Tm.pvs_len]
 cases u
 rfl
def CopR(v:AV)(u:Tm)(n:Nat)(H:Heap):Prop:=v=.pv (some 4) u.pv\/∃q z,n<=q/\v=sgg u q/\H[q]? =some (.arr (some 4) (Tm.pvs u.args) z)
theorem CopR.shp{v:AV}{u:Tm}{n:Nat}{H:Heap}(h:CopR v u n H):v.shp=some 4:=by
 rcases h with rfl|⟨q,z,_,rfl,_⟩ <;> rfl
theorem CopR.frz{v:AV}{u:Tm}{n:Nat}{B e:Heap}(h:CopR v u n (B++e))(hn:B.length=n):∃e2,e2.length=e.length/\AV.freeze deep v (B++e)=some (u.pv,B++e2):=by
 rcases h with rfl|⟨q,z,hq,rfl,hH⟩
 ·exact⟨e,rfl,rfl⟩
 ·obtain⟨j,rfl⟩:∃j,q=n+j:=⟨q - n,by omega⟩
  refine⟨e.set j (.arr (some 4) (Tm.pvs u.args) true),by simp,?_⟩
  rw[znD hH,setN hn]
def NumR(v:AV)(u:Tm)(n:Nat)(H:Heap):Prop:=∃q z,n<=q/\v=sgg u q/\H[q]? =some (.arr (some 4) (Tm.pvs u.args) z)
def nH(hp:Heap)(m:Nat)(l:List Int):Heap:=hp.set m (.map none (zbK (posF 0 l)))
theorem zp2(hp:Heap)(m:Nat)(l:List Int):(nH hp m l).length=hp.length:=by simp[nH]
theorem ztF{hp:Heap}{m:Nat}(hm:m<hp.length)(l:List Int)(X:Heap):(nH hp m l++X)[m]? =some (.map none (zbK (posF 0 l))):=by
 rw[List.getElem?_append_left (by rw[zp2];exact hm)]
 simp[nH,hm]
theorem ztG{hp:Heap}{m:Nat}(hm:m<hp.length)(l l':List Int)(X:Heap):(nH hp m l++X).set m (.map none (zbK (posF 0 l')))=nH hp m l'++X:=by
 rw[List.set_append_left _ _ (by rw[zp2];exact hm)]
 simp[nH]
theorem zp3{t:Tm}(h:t.fits=true)(hk:t.kind=0):t.name=[]/\t.args=[]:=by
 have:=zmi h hk
 rw[this]
 exact⟨rfl,rfl⟩
set_option maxHeartbeats 1000000 in
theorem zjY(hp:Heap)(m:Nat)(hm:m<hp.length):∀(t:Tm) (l L:List Int) (ext:Heap),t.fits=true->t.size<100000->l.length+t.size<200000->vads l t.occ <+: L->
  ∃v e,S 77 [t.av,.map m] (nH hp m l++ext)=some (.ret v,nH hp m (vads l t.occ)++(ext++e))/\NumR v (Tm.sub (cPos L) t) (hp.length+ext.length) (nH hp m (vads l t.occ)++(ext++e)):=by
 intro t
 induction t using Tm.zt7 with
 |h t ih=>
  intro l L ext hf ht hl hp2
  have hts:=t.size_eq
  have hlen:=Tm.zt5 t.args
  obtain⟨n,hn⟩:∃n,n=hp.length+ext.length:=⟨_,rfl⟩
  obtain⟨P,hP⟩:∃P:List Int->Heap,P=fun l=>nH hp m l++ext:=⟨_,rfl⟩
  have hPs:∀l,nH hp m l++ext=P l:=fun l=>by rw[hP]
  have hPa:∀l X,nH hp m l++(ext++X)=P l++X:=fun l X=>by rw[<-hPs,List.append_assoc]
  have hPl:∀l,(P l).length=n:=fun l=>by rw[<-hPs,List.length_append,zp2,hn]
  have hPm:∀l X,(P l++X)[m]? =some (.map none (zbK (posF 0 l))):=fun l X=>by rw[<-hPa];exact ztF hm l _
  have hPsm:∀l l' X,(P l++X).set m (.map none (zbK (posF 0 l')))=P l'++X:=fun l l' X=>by rw[<-hPa,<-hPa];exact ztG hm l l' _
  simp only[<-hn]
  simp only[hPa,hPs]
  rw[Tm.zus] at hp2 ⊢
  have hb:zaN [(none,.pv none (.int .i64 0)),(none,.pv none (.int .i64 0)),(none,.pv none (.str [])),(none,.tsl (some 4) [])] [0,1,2] [.pv none (.int .i64 t.kind),.pv none (.int .i64 t.n),.pv none (.str t.name)]=some (.agg [(none,.pv none (.int .i64 t.kind)),(none,.pv none (.int .i64 t.n)),(none,.pv none (.str t.name)),(none,.tsl (some 4) [])]):=rfl
  by_cases hk:t.kind=0
  ·rw[if_pos hk] at hp2 ⊢
   have hk':=eq_true hk
   obtain⟨vn,va⟩:=zp3 hf hk
   have hta:Tm.pvs t.args=[]:=by rw[va];rfl
   have e1:vads l [t.n]=vadd l t.n:=rfl
   rw[e1] at hp2 ⊢
   have e2:Tm.sub (cPos L) t=tvar ((vadd l t.n).idxOf t.n:Nat):=by
    rw[Tm.zup,if_pos hk]
    unfold cPos
    rw[zpM (zrr l t.n) hp2]
   rw[e2]
   have hz:∀k:Int,AV.upd deep (.agg [(none,.pv none (.int .i64 t.kind)),(none,.pv none (.int .i64 t.n)),(none,.pv none (.str t.name)),(none,.sl (some 4) (n+5) 0 0 0)]) 1 none (.pv none (.int .i64 k))=some (.agg [(none,.pv none (.int .i64 t.kind)),(none,.pv none (.int .i64 k)),(none,.pv none (.str t.name)),(none,.sl (some 4) (n+5) 0 0 0)]):=fun _=>rfl
   by_cases hmem:t.n∈l
   ·have e:vadd l t.n=l:=by simp[vadd,hmem]
    rw[e]
    have hlk:∀X:Heap,za9 false none (.pv none (.int .i64 0)) true (P l++X) [.map m,.pv none (.int .i64 t.n)]=some (.tuple [.pv none (.int .i64 ((l.idxOf t.n:Nat):Int)),.pv none (.bool true)]):=fun X=>by
     rw[ztE (m:=posF 0 l) (hPm _ _),zgC,if_pos hmem,Nat.zero_add]
    obtain⟨k,hkk⟩:∃k:Int,k=((l.idxOf t.n:Nat):Int):=⟨_,rfl⟩
    rw[<-hkk] at hlk ⊢
    refine⟨sgg (tvar k) (n+5),[.box (some 4) (.pv (some 4) t.pv),.box (some 4) (sgg (tvar k) (n+5)),.arr (some 4) [] false,.box (some 4) (sgg (tvar k) (n+5)),.arr (some 4) [] false,.arr (some 4) [] false],?_,⟨n+5,false,by omega,rfl,by rw[getN (hPl _)];rfl⟩⟩
    refine zbz rfl rfl rfl rfl ?_
    rw[hPl]
    simp -dsimp -implicitDefEqProofs only[go_sem,seval,↓reduceIte,Tm.av,zaB,zeQ,zaL,zas,hk',hta,hlk,Tm.pvs_len,hb,hz,zac (Nat.le_add_right _ _),zbb,List.append_assoc,zad,zaa,zae,zab,Nat.add_assoc,List.length_append,hPl,getN (hPl _),zeT (hPl _),setN (hPl _),zeU (hPl _)]
    refine zeo (α:=Unit) 0 (fun _ _=>True) (fun _ _=>⟨[(1,.map m),(4,.ptr (n+1) 0),(5,.ptr (n+3) 0),(38,.pv none (.sl (some 4) [])),(39,.pv none (.int .i64 0)),(40,.pv none (.int .i64 0))],P l++[.box (some 4) (.pv (some 4) t.pv),.box (some 4) (.agg [(none,.pv none (.int .i64 0)),(none,.pv none (.int .i64 0)),(none,.pv none (.str [])),(none,.sl (some 4) (n+2) 0 0 0)]),.arr (some 4) [] false,.box (some 4) (.agg [(none,.pv none (.int .i64 t.kind)),(none,.pv none (.int .i64 k)),(none,.pv none (.str t.name)),(none,.sl (some 4) (n+5) 0 0 0)]),.arr (some 4) [] false,.arr (some 4) [] false]⟩) () ⟨trivial,rfl⟩ (by intros;omega) ?_
    rintro - -
    have hc0:¬(0:Int)<(0:Int):=by decide
    simp -dsimp -implicitDefEqProofs only[go_sem,seval,↓reduceIte,hc0,zbb,zac (Nat.le_add_right _ _),zcm (Nat.le_add_right _ _),List.append_assoc,zad,zaa,zae,zab,Nat.add_assoc,List.length_append,hPl,getN (hPl _),zeT (hPl _),setN (hPl _),zeU (hPl _)]
    rw[hk,vn]
    refine⟨rfl,?_⟩
    rw[if_neg (by simp[sgg,AV.refsIn,AV.refsIn.go])]
    rfl
   ·have e:vadd l t.n=l++[t.n]:=by simp[vadd,hmem]
    rw[e,zlW hmem]
    have hlk:∀X:Heap,za9 false none (.pv none (.int .i64 0)) true (P l++X) [.map m,.pv none (.int .i64 t.n)]=some (.tuple [.pv none (.int .i64 0),.pv none (.bool false)]):=fun X=>by
     rw[ztE (m:=posF 0 l) (hPm _ _),zgC,if_neg hmem]
    have hml:∀X:Heap,zf2 (P l++X) [.map m]=some (.pv none (.int .i64 (l.length:Int))):=fun X=>by
     simp[zf2,hPm,zbK,zih]
    have hms:∀X:Heap,zcp false none (P l++X) [.map m,.pv none (.int .i64 t.n),.pv none (.int .i64 (l.length:Int))]=some (.undef,P (l++[t.n])++X):=fun X=>by
     have:=zlV t.n l 0 hmem
     rw[Nat.zero_add] at this
     rw[zep (es:=zbK (posF 0 l)) (hPm _ _) (ze5 _ _ _),this,hPsm]
    obtain⟨k,hkk⟩:∃k:Int,k=(l.length:Int):=⟨_,rfl⟩
    rw[<-hkk] at hml hms ⊢
    refine⟨sgg (tvar k) (n+5),[.box (some 4) (.pv (some 4) t.pv),.box (some 4) (sgg (tvar k) (n+5)),.arr (some 4) [] false,.box (some 4) (sgg (tvar k) (n+5)),.arr (some 4) [] false,.arr (some 4) [] false],?_,⟨n+5,false,by omega,rfl,by rw[getN (hPl _)];rfl⟩⟩
    refine zbz rfl rfl rfl rfl ?_
    rw[hPl]
    simp -dsimp -implicitDefEqProofs only[go_sem,seval,↓reduceIte,Tm.av,zaB,zeQ,zaL,zas,hk',hta,hlk,hml,hms,Tm.pvs_len,hb,hz,zac (Nat.le_add_right _ _),zbb,List.append_assoc,zad,zaa,zae,zab,Nat.add_assoc,List.length_append,hPl,getN (hPl _),zeT (hPl _),setN (hPl _),zeU (hPl _)]
    refine zeo (α:=Unit) 0 (fun _ _=>True) (fun _ _=>⟨[(1,.map m),(4,.ptr (n+1) 0),(5,.ptr (n+3) 0),(38,.pv none (.sl (some 4) [])),(39,.pv none (.int .i64 0)),(40,.pv none (.int .i64 0))],P (l++[t.n])++[.box (some 4) (.pv (some 4) t.pv),.box (some 4) (.agg [(none,.pv none (.int .i64 0)),(none,.pv none (.int .i64 0)),(none,.pv none (.str [])),(none,.sl (some 4) (n+2) 0 0 0)]),.arr (some 4) [] false,.box (some 4) (.agg [(none,.pv none (.int .i64 t.kind)),(none,.pv none (.int .i64 k)),(none,.pv none (.str t.name)),(none,.sl (some 4) (n+5) 0 0 0)]),.arr (some 4) [] false,.arr (some 4) [] false]⟩) () ⟨trivial,rfl⟩ (by intros;omega) ?_
    rintro - -
    have hc0:¬(0:Int)<(0:Int):=by decide
    simp -dsimp -implicitDefEqProofs only[go_sem,seval,↓reduceIte,hc0,zbb,zac (Nat.le_add_right _ _),zcm (Nat.le_add_right _ _),List.append_assoc,zad,zaa,zae,zab,Nat.add_assoc,List.length_append,hPl,getN (hPl _),zeT (hPl _),setN (hPl _),zeU (hPl _)]
    rw[hk,vn]
    refine⟨rfl,?_⟩
    rw[if_neg (by simp[sgg,AV.refsIn,AV.refsIn.go])]
    rfl
  ·rw[if_neg hk] at hp2 ⊢
   have hk':=eq_false hk
   have e2:Tm.sub (cPos L) t=.mk t.kind t.n t.name (t.args.map (Tm.sub (cPos L))):=by rw[Tm.zup,if_neg hk]
   rw[e2]
   obtain⟨ts',hts'⟩:∃ts',ts'=t.args.map (Tm.sub (cPos L)):=⟨_,rfl⟩
   have htl:ts'.length=t.args.length:=by rw[hts',List.length_map]
   rw[<-hts']
   refine⟨.agg [(none,.pv none (.int .i64 t.kind)),(none,.pv none (.int .i64 t.n)),(none,.pv none (.str t.name)),(none,.sl (some 4) (n+5) t.args.length 0 t.args.length)],
    [.box (some 4) (.pv (some 4) t.pv),.box (some 4) (.agg [(none,.pv none (.int .i64 t.kind)),(none,.pv none (.int .i64 t.n)),(none,.pv none (.str t.name)),(none,.sl (some 4) (n+5) t.args.length 0 t.args.length)]),.arr (some 4) [] false,.box (some 4) (.agg [(none,.pv none (.int .i64 t.kind)),(none,.pv none (.int .i64 t.n)),(none,.pv none (.str t.name)),(none,.sl (some 4) (n+5) t.args.length 0 t.args.length)]),.arr (some 4) [] false,.arr (some 4) (Tm.pvs ts') false],?_,⟨n+5,false,by omega,?_,?_⟩⟩
   ·refine zbz rfl rfl rfl rfl ?_
    rw[hPl]
    simp -dsimp -implicitDefEqProofs only[go_sem,seval,↓reduceIte,Tm.av,zaB,zeQ,zaL,zas,hk',Tm.pvs_len,hb,zac (Nat.le_add_right _ _),zbb,List.append_assoc,zad,zaa,zae,zab,Nat.add_assoc,List.length_append,hPl,getN (hPl _),zeT (hPl _),setN (hPl _),zeU (hPl _)]
    refine zeo (α:=Unit) t.args.length (fun _ _=>True) (fun i _=>⟨[(1,.map m),(4,.ptr (n+1) 0),(5,.ptr (n+3) 0),(38,.pv none (.sl (some 4) (Tm.pvs t.args))),(39,.pv none (.int .i64 t.args.length)),(40,.pv none (.int .i64 i))],P (vads l (Tm.occs (t.args.take i)))++appC n t ts' i⟩) () ⟨trivial,?_⟩ ?_ ?_
    ·rw[List.take_zero]
     rfl
    ·rintro i - h -
     have hc:(i:Int)<(t.args.length:Int):=by omega
     obtain⟨u,hu⟩:∃u,t.args[i]? =some u:=⟨_,List.getElem?_eq_getElem h⟩
     have hum:=List.mem_of_getElem? hu
     have husz:=Tm.zt6 hum
     have hst:=Tm.zue hu
     have hle2:=Tm.zt9 t.args (i+1)
     have hvl:=zmj (Tm.occs (t.args.take i)) l
     have hol:=Tm.zut (t.args.take i)
     have hpre:vads (vads l (Tm.occs (t.args.take i))) u.occ <+: L:=by
      rw[<-zf1,<-Tm.zuh hu]
      refine List.IsPrefix.trans ?_ hp2
      have e:=List.take_append_drop (i+1) t.args
      rw[<-e,zrB,zf1,e]
      exact zii _ _
     obtain⟨v,e,hcall,hcop0⟩:=ih u hum (vads l (Tm.occs (t.args.take i))) L (ext++(appC n t ts' i++[.box (some 4) (.pv (some 4) u.pv),.arr (some 4) [] false])) (Tm.zud hf hum) (by omega) (by omega) hpre
     have hcop:CopR _ _ _ _:=.inr hcop0
     rw[<-zf1,<-Tm.zuh hu] at hcall hcop
     have hus:ts'[i]? =some (Tm.sub (cPos L) u):=by rw[hts'];simp[hu]
     simp only[List.append_assoc,hPa] at hcall hcop
     obtain⟨e2,he2,hfz⟩:∃e2,e2.length=e.length/\AV.freeze deep v (P (vads l (Tm.occs (t.args.take (i+1))))++(appC n t ts' i++([.box (some 4) (.pv (some 4) u.pv),.arr (some 4) [] false]++e)))=some ((Tm.sub (cPos L) u).pv,P (vads l (Tm.occs (t.args.take (i+1))))++(appC n t ts' i++([.box (some 4) (.pv (some 4) u.pv),.arr (some 4) [] false]++e2))):=by
      have h:=CopR.frz (B:=P (vads l (Tm.occs (t.args.take (i+1))))++(appC n t ts' i++[.box (some 4) (.pv (some 4) u.pv),.arr (some 4) [] false])) (e:=e) (v:=v) (u:=Tm.sub (cPos L) u) (n:=hp.length+(ext++(appC n t ts' i++([.box (some 4) (.pv (some 4) u.pv),.arr (some 4) [] false]:Heap))).length) (by simpa only[List.append_assoc] using hcop) (by simp only[List.length_append,hPl,hn];omega)
      obtain⟨e2,h1,h2⟩:=h
      exact⟨e2,h1,by simpa only[List.append_assoc] using h2⟩
     have hvs:=hcop.shp
     generalize vads l (Tm.occs (t.args.take (i+1)))=l2 at hcall hfz ⊢
     generalize vads l (Tm.occs (t.args.take i))=l1 at hcall hvl ⊢
     have w2:IntKind.i64.wrap ((i:Int)+1)=((i+1:Nat):Int):=by rw[zaZ (by omega) (by omega)];omega
     have hll:(Tm.pvs (ts'.take i)).length=i:=by rw[Tm.pvs_len,List.length_take];omega
     have hlim:i+1<=lim:=by unfold lim;omega
     have hbs:zbt (some 4) (P l2++(appC n t ts' i++([.box (some 4) (.pv (some 4) u.pv),.arr (some 4) [] false]++e))) [v]=some (.tsl (some 4) [(Tm.sub (cPos L) u).pv],P l2++(appC n t ts' i++([.box (some 4) (.pv (some 4) u.pv),.arr (some 4) [] false]++e2))):=by
      simp only[zbt,zap,hfz,hvs,za3,if_true]
     have hs1:∀(a a':List Int) (e e':Heap),zb9 (P a++(appC n t ts' i++e)) (P a'++(appC n t ts' i++e')) (.ptr (n+3) 3)=true:=fun a a' e e'=>zjS (t:=t) (q:=n+5) (i:=i) (by rw[getN (hPl _)];rfl) (by rw[getN (hPl _)];rfl)
     simp only[Tm.av] at hcall
     simp only[appC,List.append_assoc,List.cons_append,List.nil_append] at hcall hbs hs1
     simp -dsimp -implicitDefEqProofs only[go_sem,seval,↓reduceIte,appC,hc,zak (Tm.pvs_get hu),zhq,List.take_succ_cons,List.drop_succ_cons,List.all_cons,List.all_nil,hcall,hbs,hs1,w2,hll,hlim,Tm.zua hus,zac (Nat.le_add_right _ _),zcm (Nat.le_add_right _ _),List.append_assoc,zad,zaa,zae,zab,Nat.add_assoc,List.length_append,hPl,getN (hPl _),zeT (hPl _),setN (hPl _),zeU (hPl _)]
     refine⟨(),?_⟩
     rw[zen 6 (hPl _) rfl (by simp[AObj.refs,AV.ofComps,pures,AV.refsIn,AV.refsIn.go]) (by simp[AV.refsIn,AV.refsIn.gol];omega)]
     rfl
    ·rintro - -
     have hc:¬(t.args.length:Int)<(t.args.length:Int):=by omega
     have htk:ts'.take t.args.length=ts':=List.take_of_length_le (by omega)
     simp -dsimp -implicitDefEqProofs only[go_sem,seval,↓reduceIte,appC,hc,List.take_length,htk,zbb,zac (Nat.le_add_right _ _),zcm (Nat.le_add_right _ _),List.append_assoc,zad,zaa,zae,zab,Nat.add_assoc,List.length_append,hPl,getN (hPl _),zeT (hPl _),setN (hPl _),zeU (hPl _)]
     rw[if_neg (by simp[AV.refsIn,AV.refsIn.go])]
   ·unfold sgg
    show _=AV.agg [(none,.pv none (.int .i64 t.kind)),(none,.pv none (.int .i64 t.n)),(none,.pv none (.str t.name)),(none,.sl (some 4) (n+5) ts'.length 0 ts'.length)]
    rw[htl]
   ·rw[getN (hPl _)]
    rfl
structure Cz where
 head:Tm
 body:Tm
def Cz.pv(c:Cz):PV:=.agg [(some 4,c.head.pv),(some 4,c.body.pv)]
def Cz.av(c:Cz):AV:=.pv (some 8) c.pv
theorem zcN(c:Cz):PV.part deep c.pv 0 (some 4)=some c.head.pv:=by cases c with|mk h b=>cases h;rfl
theorem zcO(c:Cz):PV.part deep c.pv 4 (some 4)=some c.body.pv:=by cases c with|mk h b=>cases h;cases b;rfl
def Cz.vars(c:Cz):List Int:=vads [] (c.head.occ++c.body.occ)
def Cz.can(c:Cz):Cz:=⟨Tm.sub (cPos c.vars) c.head,Tm.sub (cPos c.vars) c.body⟩
theorem zsI{u w:Tm}{q1 q2:Nat}{H:Heap}{z1 z2:Bool}(h1:H[q1]? =some (.arr (some 4) (Tm.pvs u.args) z1))(h2:H[q2]? =some (.arr (some 4) (Tm.pvs w.args) z2))(hne:q1≠q2):AV.freeze deep (.agg [(some 4,sgg u q1),(some 4,sgg w q2)]) H=some ((Cz.mk u w).pv,(H.set q1 (.arr (some 4) (Tm.pvs u.args) true)).set q2 (.arr (some 4) (Tm.pvs w.args) true)):=by
 have e:∀n l hp,AV.freeze (n+1) (.agg l) hp=match AV.freeze.go n l hp with|some (ps,hp')=>some (.agg ps,hp')|none=>none:=fun _ _ _=>rfl
 have h2':(H.set q1 (.arr (some 4) (Tm.pvs u.args) true))[q2]? =some (.arr (some 4) (Tm.pvs w.args) z2):=by rw[List.getElem?_set_ne hne,h2]
 show AV.freeze (7+1) (.agg _) _=_
 simp[sgg,e,AV.freeze.go,AV.freeze,h1,h2',Tm.pvs_len]
 cases u
 cases w
 rfl
def zagV:AV:=.agg [(none,.pv none (.int .i64 0)),(none,.pv none (.int .i64 0)),(none,.pv none (.str [])),(none,.tsl (some 4) [])]
def cN(c:Cz)(l:List Int)(a:AV):Heap:=[.box (some 8) (.pv (some 8) c.pv),.box (some 8) a,.map none (zbK (posF 0 l))]
theorem zjR(c:Cz)(fh:c.head.fits=true)(fb:c.body.fits=true)(hz:c.head.size+c.body.size<90000)(hp:Heap):S 56 [c.av] hp=some (.ret (.tuple [c.can.av,.pv none (.int .i64 (c.vars.length:Int))]),hp):=by
 refine zam rfl rfl rfl (zaf [(some 8,c.pv)]) rfl ?_
 obtain⟨L,hL⟩:∃L,L=c.vars:=⟨_,rfl⟩
 have hLa:L=vads (vads [] c.head.occ) c.body.occ:=by rw[hL,Cz.vars,zf1]
 have hp1:vads [] c.head.occ <+: L:=by rw[hLa];exact zii _ _
 obtain⟨v1,e1,hc1,q1,z1,hq1,hv1,ha1⟩:=zjY (cN c [] (.agg [(some 4,zagV),(some 4,zagV)])) 2 (by show 2<3;omega) c.head [] L [] fh (by omega) (by simp;omega) hp1
 have hl1:=zmj c.head.occ []
 have ho1:=Tm.occ_len c.head
 simp only[List.length_nil] at hl1
 obtain⟨v2,e2,hc2,q2,z2,hq2,hv2,ha2⟩:=zjY (cN c (vads [] c.head.occ) (.agg [(some 4,v1),(some 4,zagV)])) 2 (by show 2<3;omega) c.body (vads [] c.head.occ) L e1 fb (by omega) (by omega) (by rw[<-hLa];exact List.prefix_refl _)
 rw[<-hLa] at hc2 ha2
 have hcan:c.can=⟨Tm.sub (cPos L) c.head,Tm.sub (cPos L) c.body⟩:=by rw[hL];rfl
 obtain⟨u,hu⟩:∃u,u=Tm.sub (cPos L) c.head:=⟨_,rfl⟩
 obtain⟨w,hw⟩:∃w,w=Tm.sub (cPos L) c.body:=⟨_,rfl⟩
 rw[<-hu] at hv1 ha1 hcan
 rw[<-hw] at hv2 ha2 hcan
 subst hv1 hv2
 rw[hcan,<-hL]
 have n1:∀(l l':List Int) (a:AV),nH (cN c l a) 2 l'=cN c l' a:=fun _ _ _=>rfl
 simp only[n1,List.nil_append,List.append_nil] at hc1 hc2 ha1 ha2
 have up0:AV.upd deep (.agg [(some 4,zagV),(some 4,zagV)]) 0 (some 4) (sgg u q1)=some (.agg [(some 4,sgg u q1),(some 4,zagV)]):=rfl
 have up4:AV.upd deep (.agg [(some 4,sgg u q1),(some 4,zagV)]) 4 (some 4) (sgg w q2)=some (.agg [(some 4,sgg u q1),(some 4,sgg w q2)]):=rfl
 simp only[zagV,sgg] at up0 up4
 have st1:∀(l:List Int) (e:Heap),zan (some 4) 0 (cN c l (.agg [(some 4,zagV),(some 4,zagV)])++e) [.ptr 1 0,sgg u q1]=some (.undef,cN c l (.agg [(some 4,sgg u q1),(some 4,zagV)])++e):=fun l e=>by
  simp[zan,astore,cN,sgg,zagV,AV.plain,AV.shp,AV.own,zah,zaS,total,Sh.size,up0,up4]
 have st2:∀(l:List Int) (e:Heap),zan (some 4) 0 (cN c l (.agg [(some 4,sgg u q1),(some 4,zagV)])++e) [.ptr 1 4,sgg w q2]=some (.undef,cN c l (.agg [(some 4,sgg u q1),(some 4,sgg w q2)])++e):=fun l e=>by
  simp[zan,astore,cN,sgg,zagV,AV.plain,AV.shp,AV.own,zah,zaS,total,Sh.size,up0,up4]
 have st3:∀(l:List Int) (e:Heap),zan (some 8) 0 (cN c l (.agg [(some 4,sgg u q1),(some 4,sgg w q2)])++e) [.ptr 1 0,.agg [(some 4,sgg u q1),(some 4,sgg w q2)]]=some (.undef,cN c l (.agg [(some 4,sgg u q1),(some 4,sgg w q2)])++e):=fun l e=>by
  simp[zan,astore,cN,sgg,zagV,AV.plain,AV.shp,AV.own,zah,zaS,total,Sh.size]
 have g0:∀(l:List Int) (a:AV) (e:Heap),(cN c l a++e)[0]? =some (.box (some 8) (.pv (some 8) c.pv)):=fun _ _ _=>rfl
 have g1:∀(l:List Int) (a:AV) (e:Heap),(cN c l a++e)[1]? =some (.box (some 8) a):=fun _ _ _=>rfl
 have ml:∀(l:List Int) (a:AV) (e:Heap),zf2 (cN c l a++e) [.map 2]=some (.pv none (.int .i64 (l.length:Int))):=fun l a e=>by
  simp[zf2,cN,zbK,zih]
 have k0:zbK (posF 0 [])=[]:=rfl
 have hc1':=hc1
 simp only[cN,k0,zagV,Tm.av] at hc1'
 have hc3:S 77 [.pv (some 4) c.head.pv,.map 2] [.box (some 8) (.pv (some 8) c.pv),.box (some 8) (.agg [(some 4,.agg [(none,.pv none (.int .i64 0)),(none,.pv none (.int .i64 0)),(none,.pv none (.str [])),(none,.tsl (some 4) [])]),(some 4,.agg [(none,.pv none (.int .i64 0)),(none,.pv none (.int .i64 0)),(none,.pv none (.str [])),(none,.tsl (some 4) [])])]),.map none []]=some (.ret (sgg u q1),cN c (vads [] c.head.occ) (.agg [(some 4,zagV),(some 4,zagV)])++e1):=hc1'
 simp only[Tm.av] at hc2
 obtain⟨s1,hs1⟩:∃s1,s1=sgg u q1:=⟨_,rfl⟩
 obtain⟨s2,hs2⟩:∃s2,s2=sgg w q2:=⟨_,rfl⟩
 rw[<-hs1] at hc3 hc2 st1 st2 st3
 rw[<-hs2] at hc2 st2 st3
 clear hc1 hc1' up0 up4
 simp -dsimp -implicitDefEqProofs only[go_sem,seval,↓reduceIte,Cz.av,zcN,zcO,hc3,hc2,st1,st2,st3,g0,g1,ml,zac (Nat.zero_le _),List.append_assoc,zad,zaa,zae,zab,Nat.add_assoc,List.length_append]
 obtain⟨j1,rfl⟩:∃j,q1=3+j:=⟨q1 - 3,by have:3<=q1:=hq1;omega⟩
 obtain⟨j2,rfl⟩:∃j,q2=3+j:=⟨q2 - 3,by have:3+e1.length<=q2:=hq2;omega⟩
 have g3:∀(l:List Int) (a:AV) (e:Heap) (j:Nat),(cN c l a++e)[3+j]? =e[j]? :=fun l a e j=>getN (l:=cN c l a) rfl j
 rw[g3] at ha1 ha2
 have hj1:=(List.getElem?_eq_some_iff.1 ha1).1
 have hq2':3+e1.length<=3+j2:=hq2
 have h1:(cN c L (.agg [(some 4,s1),(some 4,s2)])++(e1++e2))[3+j1]? =some (.arr (some 4) (Tm.pvs u.args) z1):=by rw[g3,List.getElem?_append_left hj1,ha1]
 have h2:(cN c L (.agg [(some 4,s1),(some 4,s2)])++(e1++e2))[3+j2]? =some (.arr (some 4) (Tm.pvs w.args) z2):=by rw[g3,ha2]
 have hf:=zsI h1 h2 (by omega)
 rw[<-hs1,<-hs2] at hf
 have hr:∀H:Heap,H[1]? =some (.box (some 8) (.agg [(some 4,s1),(some 4,s2)]))->zaJ ⟨[(2,.ptr 1 0),(3,.pv none (.int .i64 (L.length:Int)))],H⟩ (2,some (some 8))=some (.agg [(some 4,s1),(some 4,s2)]):=fun H h=>by
  simp[zaJ,Fr.look,aload,h]
 rw[hr _ (g1 _ _ _)]
 have hsh:(AV.agg [(some 4,s1),(some 4,s2)]).shp=some 8:=rfl
 have e3:∀X,AV.freeze deep (.pv none (.int .i64 (L.length:Int))) X=some (.int .i64 (L.length:Int),X):=fun _=>rfl
 obtain⟨HH,hHH⟩:∃HH,HH=cN c L (.agg [(some 4,s1),(some 4,s2)])++(e1++e2):=⟨_,rfl⟩
 rw[<-hHH] at hf
 show Am.frozen _ (.tuple [.agg [(some 4,s1),(some 4,s2)],.pv none (.int .i64 (L.length:Int))]) (cN c L (.agg [(some 4,s1),(some 4,s2)])++(e1++e2))
 rw[<-hHH]
 refine⟨(HH.set (3+j1) (.arr (some 4) (Tm.pvs u.args) true)).set (3+j2) (.arr (some 4) (Tm.pvs w.args) true),?_⟩
 simp only[AV.freezeRes,zap,hf,e3,hsh]
 rfl
def outD(F:FuncId->Option AFn)(prim:FuncId->Option zbl)(rs:List RSlot)(s:Nat)(v:AV)(st:St)(p:PV)(st2:St):Prop:=
 ∃g fs cs,st.fr.look s=some (.func (.func g) fs cs)/\∃r hp' v',sem F prim .dfr g (.pv none p::(fs++cs)) st2.hp=some (.ret r,hp')/\zaF ⟨st2.fr,hp'⟩ rs=some v'/\Am.frozen v v' hp'
def outK(F:FuncId->Option AFn)(prim:FuncId->Option zbl)(rs:List RSlot)(s:Nat)(v:AV)(st:St):AExit->St->Prop
 | .normal,st2=>outD F prim rs s v st .niliface st2
 | .ret,st2=>outD F prim rs s v st .niliface st2
 | .panic w,st2=>outD F prim rs s v st w st2
 | .exit _,_=>False
def dfrK(F:FuncId->Option AFn)(prim:FuncId->Option zbl)(rs:List RSlot)(s:Nat)(c2:ACode)(v:AV):AExit->St->Prop
 | .normal,st=>(st.fr.look s).isSome=true/\W (sem F prim) (sloop F prim) 0 c2 st (outK F prim rs s v st)
 | .ret,st=>endK rs (Am.frozen v) .ret st
 |_,_=>False
theorem zgF{F:FuncId->Option AFn}{prim:FuncId->Option zbl}{rs:List RSlot}{s:Nat}{c2:ACode}{v:AV}{st:St}:dfrK F prim rs s c2 v .normal st=((st.fr.look s).isSome=true/\W (sem F prim) (sloop F prim) 0 c2 st (outK F prim rs s v st)):=rfl
theorem zin{F:FuncId->Option AFn}{prim:FuncId->Option zbl}{rs:List RSlot}{s:Nat}{c2:ACode}{v:AV}{st:St}:dfrK F prim rs s c2 v .ret st=endK rs (Am.frozen v) .ret st:=rfl
theorem zl8{F:FuncId->Option AFn}{prim:FuncId->Option zbl}{rs:List RSlot}{s:Nat}{v:AV}{st st2:St}:outK F prim rs s v st .ret st2=outD F prim rs s v st .niliface st2:=rfl
theorem zhs{F:FuncId->Option AFn}{prim:FuncId->Option zbl}{rs:List RSlot}{s:Nat}{v:AV}{st st2:St}{w:PV}:outK F prim rs s v st (.panic w) st2=outD F prim rs s v st w st2:=rfl
theorem zjW{F:FuncId->Option AFn}{prim:FuncId->Option zbl}{f:FuncId}{fn:AFn}{args:List AV}{ps:List (Sh × PV)}{hp:Heap}{v:AV}{s:Nat}{c2:ACode}(hp0:prim f=none)(hf:F f=some fn)(hm:fn.heapMode=false)(hz:zap args hp=some (ps,hp))(hn:(pvs ps).length=fn.nparams)(hmo:fn.more=[(.dfr s,c2)])
  (h:W (sem F prim) (sloop F prim) 0 fn.code ⟨params 0 (pvs ps),[]⟩ (dfrK F prim fn.results s c2 v))(hr:fn.rcv=none:=by rfl):sem F prim .fn f args hp=some (.ret v,hp):=by
 rw[zhh]
 unfold zbf
 rw[hp0,hf]
 have hl:([]:Heap).length=0:=rfl
 suffices hB:∃v' hp2,abody (sem F prim) (sloop F prim) fn (pvs ps) []=some (.ret v',hp2)/\Am.frozen v v' hp2 by
  obtain⟨v',hp2,h1,hp3,h2⟩:=hB
  simp only[hr,Option.isSome_none,hm,Bool.false_eq_true,if_false,hz,h1,h2]
  cases v.scalar <;> rfl
 unfold abody
 rw[if_neg (by simpa using hn),hmo]
 simp only[hl]
 unfold W at h
 split at h
 ·rename_i e st1 he
  cases e with
  |normal=>
   obtain⟨-,hW⟩:=h
   unfold W at hW
   split at hW
   ·rename_i e2 st2 he2
    have fin:∀p:Option PV,outD F prim fn.results s v st1 (p.getD .niliface) st2->∀e:AExit,(e=.normal\/e=.ret->p=none)->(∀w,e=.panic w->p=some w)->(∀i,e≠.exit i)->e=e2->∃v' hp2,aleave (sem F prim) fn (apieces (sem F prim) (sloop F prim) 0 [(.dfr s,c2)] fn.code ⟨params 0 (pvs ps),[]⟩ [])=some (.ret v',hp2)/\Am.frozen v v' hp2:=by
     rintro p ⟨g,fs,cs,k1,r,hp',v',k2,k3,k4⟩ e n1 n2 n3 rfl
     refine⟨v',hp',?_,k4⟩
     have k5:atop (sem F prim) (.dfr s) st1 []=some (.normal,st1,[.func (.func g) fs cs]):=by simp[atop,k1]
     have ka:apieces (sem F prim) (sloop F prim) 0 [(.dfr s,c2)] fn.code ⟨params 0 (pvs ps),[]⟩ []=some (e,st2,[.func (.func g) fs cs]):=by
      simp only[apieces,he,k5,he2]
     have ku:∀p':Option PV,p'=p->aunwind (sem F prim) [.func (.func g) fs cs] p' st2.hp=some (none,hp'):=by
      rintro p' rfl
      simp only[aunwind,zbg,k2]
     rw[ka]
     cases e with
     |normal=>simp only[aleave,ku none (n1 (.inl rfl)).symm,aresult,k3]
     |ret=>simp only[aleave,ku none (n1 (.inr rfl)).symm,aresult,k3]
     |panic w=>simp only[aleave,ku (some w) (n2 w rfl).symm,aresult,k3]
     |exit i=>exact absurd rfl (n3 i)
    cases e2 with
    |normal=>exact fin none hW .normal (fun _=>rfl) (fun w e=>by cases e) (fun i e=>by cases e) rfl
    |ret=>exact fin none hW .ret (fun _=>rfl) (fun w e=>by cases e) (fun i e=>by cases e) rfl
    |panic w=>exact fin (some w) hW (.panic w) (fun e=>by rcases e with e|e <;> cases e) (fun w e=>by cases e;rfl) (fun i e=>by cases e) rfl
    |exit i=>exact hW.elim
   ·exact hW.elim
  |ret=>
   rw[zin,zfY] at h
   cases hr:zaF st1 fn.results with
   |none=>rw[hr] at h;exact h.elim
   |some u=>
    rw[hr] at h
    exact⟨u,st1.hp,by simp only[aleave,apieces,he,aunwind,aresult,hr],h⟩
  |exit i=>exact h.elim
  |panic v=>exact h.elim
 ·exact h.elim
def ztC(n:Nat)(H:Heap):AExit->St->Prop
 | .normal,st=>st.hp.take n=H
 | .ret,st=>st.hp.take n=H
 |_,_=>False
theorem zfM{n:Nat}{H:Heap}{st:St}:ztC n H .normal st=(st.hp.take n=H):=rfl
theorem zl9{F:FuncId->Option AFn}{prim:FuncId->Option zbl}{g:FuncId}{fn:AFn}{ws:List AV}{hp H:Heap}{s:Sh}{p:PV}{t:Nat}(hf:F g=some fn)(hr:fn.rcv=some t)(hmo:fn.more=[])(hn:ws.length=fn.nparams)
  (h:W (sem F prim) (sloop F prim) hp.length fn.code ⟨(t,.pv s p)::params 0 ws,hp⟩ (ztC hp.length H)):sem F prim .dfr g (.pv s p::ws) hp=some (.ret (.tuple []),H):=by
 rw[zsk]
 unfold adefer
 simp only[hf,hr,hmo,hn,ne_eq,not_true_eq_false,if_false]
 unfold W at h
 split at h
 ·rename_i e st he
  rw[he]
  cases e with
  |normal=>rw[<-h]
  |ret=>rw[<-h]
  |exit i=>exact h.elim
  |panic v=>exact h.elim
 ·exact h.elim
def zt:Tm:=.mk 0 0 [] []
theorem zrs(H:Heap):sem (find tab) prim .dfr 85 [.pv none .niliface,.ptr 1 0,.ptr 3 0] H=some (.ret (.tuple []),H):=by
 refine zl9 (t:=5) rfl rfl rfl rfl ?_
 have hin:zfv true [.pv none .niliface]=some (.pv none (.bool false)):=rfl
 simp -dsimp -implicitDefEqProofs only[go_sem,seval,↓reduceIte,hin,zfM,List.append_assoc,zad,zaa,zae,zab,Nat.add_assoc,List.length_append]
 try simp
def zG:AV:=.agg [(none,.pv none (.int .i64 0)),(none,.pv none (.int .i64 0)),(none,.pv none (.str [])),(none,.tsl (some 4) [])]
theorem zpN(x0 x2:AObj)(v:AV)(c:Bool):sem (find tab) prim .dfr 85 [.pv none noG,.ptr 1 0,.ptr 3 0] [x0,.box (some 4) v,x2,.box none (.pv none (.bool c))]=some (.ret (.tuple []),[x0,.box (some 4) zG,x2,.box none (.pv none (.bool false))]):=by
 refine zl9 (t:=5) rfl rfl rfl rfl ?_
 have hin:zfv true [.pv none noG]=some (.pv none (.bool true)):=rfl
 have has:∀z,zed 116 (some 0) z true [.pv none noG]=some (.tuple [.pv (some 0) (.agg []),.pv none (.bool true)]):=fun _=>rfl
 have hz0:zaN [(none,.pv none (.int .i64 0)),(none,.pv none (.int .i64 0)),(none,.pv none (.str [])),(none,.tsl (some 4) [])] [] []=some zG:=rfl
 have hst:∀X:AObj,zan (some 4) 4 [x0,.box (some 4) v,x2,.box none (.pv none (.bool c)),X] [.ptr 1 0,zG]=some (.undef,[x0,.box (some 4) zG,x2,.box none (.pv none (.bool c)),X]):=fun X=>by
  simp[zan,astore,zG,AV.plain,AV.shp,AV.refsIn,AV.refsIn.go,total,Sh.size]
 simp -dsimp -implicitDefEqProofs only[go_sem,seval,↓reduceIte,hin,has,hz0,hst,zfM,zac (Nat.zero_le _),List.append_assoc,zad,zaa,zae,zab,Nat.add_assoc,List.length_append]
 try rfl
def cv(t:Tm):Option Tm:=cvF t.size t
theorem znw(t:Tm)(hv:t.valid=true)(hp:Heap):S 75 [t.av] hp=some (.ret (.tuple [((cv t).getD zt).av,.pv none (.bool (cv t).isSome)]),hp):=by
 refine zjW rfl rfl rfl (zaf [(some 4,t.pv)]) rfl rfl ?_
 have h1:=fun hp=>zrn t.size t (Nat.le_refl _) hv hp
 have hz0:zaN [(none,.pv none (.int .i64 0)),(none,.pv none (.int .i64 0)),(none,.pv none (.str [])),(none,.tsl (some 4) [])] [] []=some zG:=rfl
 unfold cv
 cases e:cvF t.size t with
 |none=>
  rw[e] at h1
  simp only[resB,Tm.av] at h1
  simp -dsimp -implicitDefEqProofs only[go_sem,seval,↓reduceIte,Tm.av,h1,hz0,(fun A=>rfl:∀A:Prop,panK true A=A),zac (Nat.zero_le _),zbb,zin,zgF,zl8,zhs,List.append_assoc,zad,zaa,zae,zab,Nat.add_assoc,List.length_append]
  refine⟨rfl,85,[],[.ptr 1 0,.ptr 3 0],rfl,_,_,_,zpN _ _ _ _,rfl,?_⟩
  exact⟨_,rfl⟩
 |some g=>
  rw[e] at h1
  simp only[resB,Tm.av] at h1
  simp -dsimp -implicitDefEqProofs only[go_sem,seval,↓reduceIte,Tm.av,h1,hz0,(fun A=>rfl:∀A:Prop,panK true A=A),zac (Nat.zero_le _),zbb,zin,zgF,zl8,zhs,List.append_assoc,zad,zaa,zae,zab,Nat.add_assoc,List.length_append]
  refine⟨rfl,85,[],[.ptr 1 0,.ptr 3 0],rfl,_,_,_,zrs _,rfl,?_⟩
  exact⟨_,rfl⟩
def ze1(t:Tm):Option Tm:=if t.valid=true then match cv t with
 |some g=>if 2000<g.size then none else some g
 |none=>none
 else none
theorem zrt:∀(n:Nat) (t g:Tm),cvF n t=some g->g.size<=2*t.size:=by
 intro n
 induction n with
 |zero=>intro t g h;cases h
 |succ n ih=>
  intro t g h
  rw[cvF] at h
  split at h
  ·cases h
   rw[Tm.size_eq]
   show 1+(t.size+0)<=_
   have:=t.size_eq
   omega
  ·split at h
   ·split at h
    ·rename_i a b hab
     split at h
     ·cases h
     ·rename_i x hx
      split at h
      ·cases h
      ·rename_i y hy
       cases h
       have h1:=ih _ _ hx
       have h2:=ih _ _ hy
       have e:t.size=1+(a.size+(b.size+0)):=by rw[Tm.size_eq,hab];rfl
       rw[Tm.size_eq]
       show 1+(x.size+(y.size+0))<=_
       omega
    ·cases h
   ·split at h
    ·cases h
     omega
    ·cases h
theorem zsK(t:Tm)(hz:t.size<100000000)(hp:Heap):S 54 [t.av] hp=some (.ret (.tuple [((ze1 t).getD zt).av,.pv none (.bool (ze1 t).isSome)]),hp):=by
 refine zam rfl rfl rfl (zaf [(some 4,t.pv)]) rfl ?_
 have h1:=fun hp=>ze8 t hp (by omega)
 have hz0:zaN [(none,.pv none (.int .i64 0)),(none,.pv none (.int .i64 0)),(none,.pv none (.str [])),(none,.tsl (some 4) [])] [] []=some (.agg [(none,.pv none (.int .i64 0)),(none,.pv none (.int .i64 0)),(none,.pv none (.str [])),(none,.tsl (some 4) [])]):=rfl
 simp only[Tm.av] at h1
 by_cases hv:t.valid=true
 rotate_left
 ·have hv':t.valid=false:=by simpa using hv
  have e:ze1 t=none:=by unfold ze1;rw[if_neg hv]
  rw[e]
  simp -dsimp -implicitDefEqProofs only[go_sem,seval,↓reduceIte,Tm.av,h1,hv',hz0,zac (Nat.zero_le _),List.append_assoc,zad,zaa,zae,zab,Nat.add_assoc,List.length_append]
  exact⟨_,rfl⟩
 have h2:=fun hp=>znw t hv hp
 have vz:=zcn hv
 cases ec:cv t with
 |none=>
  have e:ze1 t=none:=by unfold ze1;rw[if_pos hv,ec]
  rw[ec] at h2
  simp only[Option.getD_none,Option.isSome_none,Tm.av] at h2
  rw[e]
  simp -dsimp -implicitDefEqProofs only[go_sem,seval,↓reduceIte,Tm.av,h1,h2,hv,hz0,zac (Nat.zero_le _),List.append_assoc,zad,zaa,zae,zab,Nat.add_assoc,List.length_append]
  exact⟨_,rfl⟩
 |some g=>
  have gz:=zrt _ _ _ ec
  rw[ec] at h2
  have h3:=fun hp=>zis g hp (by omega)
  simp only[Option.getD_some,Option.isSome_some,Tm.av] at h2 h3
  by_cases hg:2000<g.size
  ·have e:ze1 t=none:=by unfold ze1;rw[if_pos hv,ec];exact if_pos hg
   have hm:min g.size 2001=2001:=by omega
   rw[hm] at h3
   have hc:(2000:Int)<((2001:Nat):Int):=by decide
   rw[e]
   simp -dsimp -implicitDefEqProofs only[go_sem,seval,↓reduceIte,Tm.av,h1,h2,h3,hc,hv,hz0,zac (Nat.zero_le _),List.append_assoc,zad,zaa,zae,zab,Nat.add_assoc,List.length_append]
   exact⟨_,rfl⟩
  ·have e:ze1 t=some g:=by unfold ze1;rw[if_pos hv,ec];exact if_neg hg
   have hm:min g.size 2001=g.size:=by omega
   rw[hm] at h3
   have hc:¬(2000:Int)<(g.size:Int):=by omega
   rw[e]
   simp -dsimp -implicitDefEqProofs only[go_sem,seval,↓reduceIte,Tm.av,h1,h2,h3,hc,hv,hz0,zac (Nat.zero_le _),List.append_assoc,zad,zaa,zae,zab,Nat.add_assoc,List.length_append]
   exact⟨_,rfl⟩
theorem zj2{L:List Int}:∀t:Tm,t.fits=true->(Tm.sub (cPos L) t).size=t.size:=by
 intro t
 induction t using Tm.zt7 with
 |h t ih=>
  intro hf
  rw[Tm.zup]
  by_cases hk:t.kind=0
  ·rw[if_pos hk,zmi hf hk]
   rfl
  ·rw[if_neg hk,Tm.size_eq,t.size_eq]
   congr 1
   have hargs:∀u∈t.args,(Tm.sub (cPos L) u).size=u.size:=fun u hu=>ih u hu (Tm.zud hf hu)
   show Tm.sizes (t.args.map (Tm.sub (cPos L)))=_
   generalize t.args=l at hargs
   clear ih
   induction l with
   |nil=>rfl
   |cons x r ihl=>
    rw[List.map_cons,Tm.sizes,Tm.sizes,hargs x List.mem_cons_self,ihl fun u hu=>hargs u (List.mem_cons_of_mem _ hu)]
theorem zrG(c:Cz)(h1:c.head.size<100000000)(h2:c.body.size<100000000)(hp:Heap):S 53 [c.av] hp=some (.ret (.pv none (.bool (decide (c.head.size+c.body.size<=2000)))),hp):=by
 refine zam rfl rfl rfl (zaf [(some 8,c.pv)]) rfl ?_
 have a1:=fun hp=>zis c.head hp (by omega)
 have a2:=fun hp=>zis c.body hp (by omega)
 have w1:IntKind.i64.wrap (((min c.head.size 2001:Nat):Int)+((min c.body.size 2001:Nat):Int))=((min c.head.size 2001+min c.body.size 2001:Nat):Int):=by rw[zaZ (by omega) (by omega)];omega
 simp only[Tm.av] at a1 a2
 have e:decide (c.head.size+c.body.size<=2000)=decide (((min c.head.size 2001+min c.body.size 2001:Nat):Int)<=2000):=by
  rw[decide_eq_decide]
  omega
 rw[e]
 simp -dsimp -implicitDefEqProofs only[go_sem,seval,↓reduceIte,Cz.av,zcN,zcO,a1,a2,w1,List.append_assoc,zad,zaa,zae,zab,Nat.add_assoc,List.length_append]
def okC(c:Cz):Bool:=c.head.valid && ((decide (c.head.kind=2) || decide (c.head.kind=3)) && (decide (c.head.size+c.body.size<=2000) && ((match ze1 c.body with|some g=>same g c.body|none=>false) && (decide (c.vars.length<=64) && (same c.can.head c.head && same c.can.body c.body)))))
theorem zhu{t g:Tm}(h:ze1 t=some g):t.valid=true/\g.size<=2000:=by
 unfold ze1 at h
 split at h
 ·rename_i hv
  split at h
  ·split at h
   ·cases h
   ·cases h
    exact⟨hv,by omega⟩
  ·cases h
 ·cases h
theorem zb8(c:Cz)(z1:c.head.size<100000000)(z2:c.body.size<100000000)(hp:Heap):S 30 [c.av] hp=some (.ret (.pv none (.bool (okC c))),hp):=by
 refine zam rfl rfl rfl (zaf [(some 8,c.pv)]) rfl ?_
 have h1:=fun hp=>ze8 c.head hp (by omega)
 have h2:=fun hp=>zgB c.head hp
 have h3:=fun hp=>zrG c z1 z2 hp
 have h4:=fun hp=>zsK c.body z2 hp
 simp only[Tm.av,Cz.av] at h1 h2 h3 h4
 by_cases b1:c.head.valid=true
 rotate_left
 ·have b1':c.head.valid=false:=by simpa using b1
  have e:okC c=false:=by simp[okC,b1']
  rw[e]
  simp -dsimp -implicitDefEqProofs only[go_sem,seval,↓reduceIte,Cz.av,zcN,zcO,h1,b1',List.append_assoc,zad,zaa,zae,zab,Nat.add_assoc,List.length_append]
  done
 cases b2:(decide (c.head.kind=2) || decide (c.head.kind=3)) with
 |false=>
  have e:okC c=false:=by simp only[okC,b2,Bool.false_and,Bool.and_false]
  rw[e]
  rw[b2] at h2
  simp -dsimp -implicitDefEqProofs only[go_sem,seval,↓reduceIte,Cz.av,zcN,zcO,h1,b1,h2,List.append_assoc,zad,zaa,zae,zab,Nat.add_assoc,List.length_append]
  done
 |true=>
 rw[b2] at h2
 cases b3:decide (c.head.size+c.body.size<=2000) with
 |false=>
  have e:okC c=false:=by simp only[okC,b3,Bool.false_and,Bool.and_false]
  rw[e]
  rw[b3] at h3
  simp -dsimp -implicitDefEqProofs only[go_sem,seval,↓reduceIte,Cz.av,zcN,zcO,h1,b1,h2,h3,List.append_assoc,zad,zaa,zae,zab,Nat.add_assoc,List.length_append]
  done
 |true=>
 rw[b3] at h3
 have b3':=of_decide_eq_true b3
 cases b4:ze1 c.body with
 |none=>
  have e:okC c=false:=by simp only[okC,b4,Bool.false_and,Bool.and_false]
  rw[e]
  rw[b4] at h4
  simp only[Option.getD_none,Option.isSome_none,Tm.av] at h4
  simp -dsimp -implicitDefEqProofs only[go_sem,seval,↓reduceIte,Cz.av,zcN,zcO,h1,b1,h2,h3,h4,zac (Nat.zero_le _),List.append_assoc,zad,zaa,zae,zab,Nat.add_assoc,List.length_append]
  done
 |some g=>
 obtain⟨vb,zg⟩:=zhu b4
 rw[b4] at h4
 have h5:=fun hp=>zir g c.body hp (by omega) (by omega)
 have fh:=valid_fits b1
 have fb:=valid_fits vb
 have h6:=fun hp=>zjR c fh fb (by omega) hp
 have zh:c.can.head.size=c.head.size:=zj2 _ fh
 have zb:c.can.body.size=c.body.size:=zj2 _ fb
 have h7:=fun hp=>zir c.can.head c.head hp (by omega) (by omega)
 have h8:=fun hp=>zir c.can.body c.body hp (by omega) (by omega)
 simp only[Option.getD_some,Option.isSome_some,Tm.av,Cz.av] at h4 h5 h6 h7 h8
 cases b5:same g c.body with
 |false=>
  have e:okC c=false:=by simp only[okC,b4,b5,Bool.false_and,Bool.and_false]
  rw[e]
  rw[b5] at h5
  simp -dsimp -implicitDefEqProofs only[go_sem,seval,↓reduceIte,Cz.av,zcN,zcO,h1,b1,h2,h3,h4,h5,zac (Nat.zero_le _),List.append_assoc,zad,zaa,zae,zab,Nat.add_assoc,List.length_append]
  done
 |true=>
 rw[b5] at h5
 have e:okC c=(decide (c.vars.length<=64) && (same c.can.head c.head && same c.can.body c.body)):=by simp only[okC,b1,b2,b3,b4,b5,Bool.true_and]
 rw[e]
 by_cases b6:c.vars.length<=64
 ·have b6':(c.vars.length:Int)<=64:=by omega
  cases b7:same c.can.head c.head with
  |false=>
   rw[b7] at h7
   simp -dsimp -implicitDefEqProofs only[go_sem,seval,↓reduceIte,Cz.av,zcN,zcO,h1,b1,h2,h3,h4,h5,h6,h7,b6,b6',zac (Nat.zero_le _),List.append_assoc,zad,zaa,zae,zab,Nat.add_assoc,List.length_append]
   done
  |true=>
   rw[b7] at h7
   simp -dsimp -implicitDefEqProofs only[go_sem,seval,↓reduceIte,Cz.av,zcN,zcO,h1,b1,h2,h3,h4,h5,h6,h7,h8,b6,b6',zac (Nat.zero_le _),List.append_assoc,zad,zaa,zae,zab,Nat.add_assoc,List.length_append]
   done
 ·have b6':¬(c.vars.length:Int)<=64:=by omega
  simp -dsimp -implicitDefEqProofs only[go_sem,seval,↓reduceIte,Cz.av,zcN,zcO,h1,b1,h2,h3,h4,h5,h6,b6,b6',zac (Nat.zero_le _),List.append_assoc,zad,zaa,zae,zab,Nat.add_assoc,List.length_append]
  done
structure Sto where
 id:Int
 cl:Cz
def Sto.pv(s:Sto):PV:=.agg [(none,.int .i64 s.id),(some 8,s.cl.pv)]
def Sto.pvs(l:List Sto):List PV:=l.map Sto.pv
structure Prc where
 name:List UInt8
 ar:Int
 dyn:Bool
 cls:List Sto
def Prc.pv(p:Prc):PV:=.agg [(none,.str p.name),(none,.int .i64 p.ar),(none,.bool p.dyn),(none,.sl (some 9) (Sto.pvs p.cls))]
def Prc.av(p:Prc):AV:=.pv (some 4) p.pv
def Prc.pvs(l:List Prc):List PV:=l.map Prc.pv
structure Dbs where
 next:Int
 procs:List Prc
def Dbs.pv(d:Dbs):PV:=.agg [(none,.int .i64 d.next),(none,.sl (some 4) (Prc.pvs d.procs))]
def Dbs.av(d:Dbs):AV:=.pv (some 2) d.pv
theorem Sto.pvs_len(l:List Sto):(Sto.pvs l).length=l.length:=by simp[Sto.pvs]
theorem Prc.pvs_len(l:List Prc):(Prc.pvs l).length=l.length:=by simp[Prc.pvs]
theorem Sto.pvs_get{l:List Sto}{i:Nat}{s:Sto}(h:l[i]? =some s):(Sto.pvs l)[i]? =some s.pv:=by simp[Sto.pvs,h]
theorem Prc.pvs_get{l:List Prc}{i:Nat}{s:Prc}(h:l[i]? =some s):(Prc.pvs l)[i]? =some s.pv:=by simp[Prc.pvs,h]
theorem zce(s:Sto):PV.part deep s.pv 0 none=some (.int .i64 s.id):=rfl
theorem zcZ(s:Sto):PV.part deep s.pv 1 (some 8)=some s.cl.pv:=by cases s with|mk i c=>cases c;rfl
theorem za0(p:Prc):PV.part deep p.pv 0 none=some (.str p.name):=rfl
theorem zb7(p:Prc):PV.part deep p.pv 1 none=some (.int .i64 p.ar):=rfl
theorem zdP(p:Prc):PV.part deep p.pv 3 none=some (.sl (some 9) (Sto.pvs p.cls)):=rfl
theorem zaz(d:Dbs):PV.part deep d.pv 0 none=some (.int .i64 d.next):=rfl
theorem zav(d:Dbs):PV.part deep d.pv 1 none=some (.sl (some 4) (Prc.pvs d.procs)):=rfl
def strC(a b:List UInt8):Int:=if Op.bytesLess a b=true then -1 else if a=b then 0 else 1
def intC(a b:Int):Int:=if a<b then -1 else if b<a then 1 else 0
theorem zsL(a b:List UInt8)(hp:Heap):S 67 [.pv none (.str a),.pv none (.str b)] hp=some (.ret (.pv none (.int .i64 (strC a b))),hp):=by
 refine zam rfl rfl rfl (zaf [(none,.str a),(none,.str b)]) rfl ?_
 have hn:∀(x:List UInt8) (hp:Heap),S 82 [.pv none (.str x)] hp=some (.ret (.pv none (.bool false)),hp):=fun x hp=>by
  refine zam rfl rfl rfl (zaf [(none,.str x)]) rfl ?_
  simp -dsimp -implicitDefEqProofs only[go_sem,seval,↓reduceIte,List.append_assoc,zad,zaa,zae,zab,Nat.add_assoc,List.length_append]
  try simp
 have hg:zdx .gtr a b=some (.bool (!(Op.bytesLess a b || decide (a=b)))):=rfl
 unfold strC
 cases h1:Op.bytesLess a b with
 |true=>simp -dsimp -implicitDefEqProofs only[go_sem,seval,↓reduceIte,hn,h1,List.append_assoc,zad,zaa,zae,zab,Nat.add_assoc,List.length_append]
 |false=>
  rw[h1] at hg
  by_cases h2:a=b
  ·rw[decide_eq_true h2] at hg
   have hg':zdx .gtr a b=some (.bool false):=hg
   rw[if_neg (by decide),if_pos h2]
   simp -dsimp -implicitDefEqProofs only[go_sem,seval,↓reduceIte,hn,h1,hg',List.append_assoc,zad,zaa,zae,zab,Nat.add_assoc,List.length_append]
  ·rw[decide_eq_false h2] at hg
   have hg':zdx .gtr a b=some (.bool true):=hg
   rw[if_neg (by decide),if_neg h2]
   simp -dsimp -implicitDefEqProofs only[go_sem,seval,↓reduceIte,hn,h1,hg',List.append_assoc,zad,zaa,zae,zab,Nat.add_assoc,List.length_append]
theorem zsM(a b:Int)(hp:Heap):S 68 [.pv none (.int .i64 a),.pv none (.int .i64 b)] hp=some (.ret (.pv none (.int .i64 (intC a b))),hp):=by
 refine zam rfl rfl rfl (zaf [(none,.int .i64 a),(none,.int .i64 b)]) rfl ?_
 have hn:∀(x:Int) (hp:Heap),S 83 [.pv none (.int .i64 x)] hp=some (.ret (.pv none (.bool false)),hp):=fun x hp=>by
  refine zam rfl rfl rfl (zaf [(none,.int .i64 x)]) rfl ?_
  simp -dsimp -implicitDefEqProofs only[go_sem,seval,↓reduceIte,List.append_assoc,zad,zaa,zae,zab,Nat.add_assoc,List.length_append]
  try simp
 unfold intC
 by_cases h1:a<b
 ·simp -dsimp -implicitDefEqProofs only[go_sem,seval,↓reduceIte,hn,h1,List.append_assoc,zad,zaa,zae,zab,Nat.add_assoc,List.length_append]
 ·by_cases h2:b<a
  ·simp -dsimp -implicitDefEqProofs only[go_sem,seval,↓reduceIte,hn,h1,h2,List.append_assoc,zad,zaa,zae,zab,Nat.add_assoc,List.length_append]
  ·simp -dsimp -implicitDefEqProofs only[go_sem,seval,↓reduceIte,hn,h1,h2,List.append_assoc,zad,zaa,zae,zab,Nat.add_assoc,List.length_append]
theorem ze2(s:List UInt8)(a:Int)(hp:Heap):S 40 [.pv none (.str s),.pv none (.int .i64 a)] hp=some (.ret (.pv none (.bool (decide (s.length<=100) && (decide (0<=a) && decide (a<=8))))),hp):=by
 refine zam rfl rfl rfl (zaf [(none,.str s),(none,.int .i64 a)]) rfl ?_
 by_cases h1:s.length<=100
 ·have h1':(s.length:Int)<=100:=by omega
  by_cases h2:0<=a
  ·simp -dsimp -implicitDefEqProofs only[go_sem,seval,↓reduceIte,h1,h1',h2,List.append_assoc,zad,zaa,zae,zab,Nat.add_assoc,List.length_append]
  ·simp -dsimp -implicitDefEqProofs only[go_sem,seval,↓reduceIte,h1,h1',h2,List.append_assoc,zad,zaa,zae,zab,Nat.add_assoc,List.length_append]
 ·have h1':¬(s.length:Int)<=100:=by omega
  simp -dsimp -implicitDefEqProofs only[go_sem,seval,↓reduceIte,h1,h1',List.append_assoc,zad,zaa,zae,zab,Nat.add_assoc,List.length_append]
def ordP(p q:Prc):Int:=if strC p.name q.name=0 then intC p.ar q.ar else strC p.name q.name
theorem zt2(a b:Int)(hp:Heap):S 66 [.pv none (.sl none [.int .i64 a,.int .i64 b])] hp=some (.ret (.pv none (.int .i64 (if a=0 then b else a))),hp):=by
 refine zam rfl rfl rfl (zaf [(none,.sl none [.int .i64 a,.int .i64 b])]) rfl ?_
 have hl:([.int .i64 a,.int .i64 b]:List PV).length=2:=rfl
 simp -dsimp -implicitDefEqProofs only[go_sem,seval,↓reduceIte,hl,List.append_assoc,zad,zaa,zae,zab,Nat.add_assoc,List.length_append]
 have e2:((2:Nat):Int)=2:=rfl
 have e1:((1:Nat):Int)=1:=rfl
 have e0:((0:Nat):Int)=0:=rfl
 refine zeo (α:=Unit) 2 (fun i _=>(0<i->a=0)/\(1<i->b=0)) (fun i _=>⟨[(3,.pv none (.int .i64 0)),(6,.pv none (.sl none [.int .i64 a,.int .i64 b])),(7,.pv none (.int .i64 2)),(8,.pv none (.int .i64 i))],[]⟩) () ⟨⟨by omega,by omega⟩,rfl⟩ ?_ ?_
 ·rintro i - h ⟨ha,hb⟩
  match i,h with
  |0,_=>
   have c2:(0:Int)<2:=by decide
   have w2:IntKind.i64.wrap ((0:Int)+1)=((0+1:Nat):Int):=by decide
   have g:zaW none [.pv none (.sl none [.int .i64 a,.int .i64 b]),.pv none (.int .i64 0)]=some (.iptr none (.int .i64 a) 0):=rfl
   by_cases h0:a=0
   ·have h0':=eq_true h0
    simp -dsimp -implicitDefEqProofs only[go_sem,seval,↓reduceIte,e0,c2,w2,g,h0',List.append_assoc,zad,zaa,zae,zab,Nat.add_assoc,List.length_append]
    refine⟨(),⟨fun _=>trivial,fun h=>absurd h (by decide)⟩,rfl⟩
   ·simp -dsimp -implicitDefEqProofs only[go_sem,seval,↓reduceIte,e0,c2,w2,g,h0,List.append_assoc,zad,zaa,zae,zab,Nat.add_assoc,List.length_append]
    try rw[if_neg h0]
    try exact⟨_,rfl⟩
  |1,_=>
   have h0:=ha (by omega)
   have c2:(1:Int)<2:=by decide
   have w2:IntKind.i64.wrap ((1:Int)+1)=((1+1:Nat):Int):=by decide
   have g:zaW none [.pv none (.sl none [.int .i64 a,.int .i64 b]),.pv none (.int .i64 1)]=some (.iptr none (.int .i64 b) 0):=rfl
   by_cases h1:b=0
   ·have h1':=eq_true h1
    simp -dsimp -implicitDefEqProofs only[go_sem,seval,↓reduceIte,e1,c2,w2,g,h1',List.append_assoc,zad,zaa,zae,zab,Nat.add_assoc,List.length_append]
    refine⟨(),⟨fun _=>h0,fun _=>trivial⟩,rfl⟩
   ·rw[if_pos h0]
    simp -dsimp -implicitDefEqProofs only[go_sem,seval,↓reduceIte,e1,c2,w2,g,h1,List.append_assoc,zad,zaa,zae,zab,Nat.add_assoc,List.length_append]
    try exact⟨_,rfl⟩
 ·rintro - ⟨ha,hb⟩
  have h0:=ha (by omega)
  have h1:=hb (by omega)
  have c2:¬(2:Int)<2:=by decide
  rw[if_pos h0,h1]
  simp -dsimp -implicitDefEqProofs only[go_sem,seval,↓reduceIte,e2,c2,List.append_assoc,zad,zaa,zae,zab,Nat.add_assoc,List.length_append]
  try exact⟨_,rfl⟩
theorem zlY(p q:Prc)(hp:Heap):S 41 [p.av,q.av] hp=some (.ret (.pv none (.int .i64 (ordP p q))),hp):=by
 refine zam rfl rfl rfl (zaf [(some 4,p.pv),(some 4,q.pv)]) rfl ?_
 have h1:=fun hp=>zsL p.name q.name hp
 have h2:=fun hp=>zsM p.ar q.ar hp
 have h3:=fun hp=>zt2 (strC p.name q.name) (intC p.ar q.ar) hp
 unfold ordP
 simp -dsimp -implicitDefEqProofs only[go_sem,seval,↓reduceIte,Prc.av,za0,zb7,h1,h2,h3,List.append_assoc,zad,zaa,zae,zab,Nat.add_assoc,List.length_append]
 done
def totD(l:List Prc):Nat:=(l.map fun p=>p.cls.length).sum
theorem zpT{l:List Prc}{i:Nat}{p:Prc}(h:l[i]? =some p):totD (l.take (i+1))=totD (l.take i)+p.cls.length:=by
 unfold totD
 rw[List.take_add_one,h]
 simp
theorem zsN{l:List Prc}(i:Nat):totD (l.take i)<=totD l:=by
 have:=List.take_append_drop i l
 have e:totD l=totD (l.take i)+totD (l.drop i):=by
  unfold totD
  rw[<-List.sum_append,<-List.map_append,this]
 omega
theorem zdq(d:Dbs)(h1:d.procs.length<1000000000)(h2:totD d.procs<1000000000)(hp:Heap):S 32 [d.av] hp=some (.ret (.pv none (.int .i64 (totD d.procs:Int))),hp):=by
 refine zam rfl rfl rfl (zaf [(some 2,d.pv)]) rfl ?_
 simp -dsimp -implicitDefEqProofs only[go_sem,seval,↓reduceIte,Dbs.av,zav,Prc.pvs_len,List.append_assoc,zad,zaa,zae,zab,Nat.add_assoc,List.length_append]
 refine zeo (α:=Unit) d.procs.length (fun _ _=>True) (fun i _=>⟨[(3,.pv none (.int .i64 (totD (d.procs.take i):Int))),(7,.pv none (.sl (some 4) (Prc.pvs d.procs))),(8,.pv none (.int .i64 d.procs.length)),(9,.pv none (.int .i64 i))],[.box (some 2) (.pv (some 2) d.pv)]⟩) () ⟨trivial,rfl⟩ ?_ ?_
 ·rintro i - h -
  have hc:(i:Int)<(d.procs.length:Int):=by omega
  obtain⟨p,hpp⟩:∃p,d.procs[i]? =some p:=⟨_,List.getElem?_eq_getElem h⟩
  have ht:=zpT hpp
  have hle:=zsN (l:=d.procs) (i+1)
  have w1:IntKind.i64.wrap ((i:Int)+1)=((i+1:Nat):Int):=by rw[zaZ (by omega) (by omega)];omega
  have w2:IntKind.i64.wrap ((totD (d.procs.take i):Int)+(p.cls.length:Int))=(totD (d.procs.take (i+1)):Int):=by rw[zaZ (by omega) (by omega)];omega
  simp -dsimp -implicitDefEqProofs only[go_sem,seval,↓reduceIte,hc,w1,w2,zak (Prc.pvs_get hpp),zdP,Sto.pvs_len,zac (Nat.zero_le _),List.append_assoc,zad,zaa,zae,zab,Nat.add_assoc,List.length_append]
  exact⟨(),rfl⟩
 ·rintro - -
  have hc:¬(d.procs.length:Int)<(d.procs.length:Int):=by omega
  simp -dsimp -implicitDefEqProofs only[go_sem,seval,↓reduceIte,hc,List.take_length,List.append_assoc,zad,zaa,zae,zab,Nat.add_assoc,List.length_append]
  done
def zc1(l:List Int):List (Int × PV):=l.map fun v=>(v,.int .i64 1)
theorem zhr(v:Int)(l:List Int):zds v (zc1 l)=if v∈l then some (.int .i64 1) else none:=by
 induction l with
 |nil=>rfl
 |cons x r ih=>
  show zds v ((x,.int .i64 1)::zc1 r)=_
  rw[zds,ih]
  by_cases h:x=v
  ·subst h
   simp
  ·have h':¬v=x:=fun e=>h e.symm
   simp[h,h']
theorem zgD(v:Int):∀(l:List Int),v ∉ l->mPut v (.int .i64 1) (zc1 l)=zc1 (l++[v])
 |[],_=>rfl
 |x::r,h=>by
  have h':¬x=v:=fun e=>h (by rw[e];exact List.mem_cons_self)
  have ih:=zgD v r fun hm=>h (List.mem_cons_of_mem _ hm)
  show mPut v (.int .i64 1) ((x,.int .i64 1)::zc1 r)=_
  rw[mPut,if_neg h',ih]
  rfl
def namB(p:Prc):Bool:=decide (p.name.length<=100) && (decide (0<=p.ar) && decide (p.ar<=8))
def okSt(next:Int)(p:Prc)(seen:List Int)(s:Sto):Bool:=decide (1<=s.id) && (decide (s.id<next) && (decide (s.id ∉ seen) && (okC s.cl && (decide (s.cl.head.name=p.name) && decide ((s.cl.head.args.length:Int)=p.ar)))))
def okSs(next:Int)(p:Prc):List Int->List Sto->Option (List Int)
 |seen,[]=>some seen
 |seen,s::r=>if okSt next p seen s=true then okSs next p (seen++[s.id]) r else none
def preB:Option Prc->Prc->Bool
 |none,_=>true
 |some q,p=>decide (ordP q p<0)
def okPs(next:Int):Option Prc->List Int->List Prc->Bool
 |_,_,[]=>true
 |q,seen,p::r=>namB p && (preB q p && match okSs next p seen p.cls with
  |none=>false
  |some s=>okPs next (some p) s r)
def okD(d:Dbs):Bool:=decide (1<=d.next) && (decide (d.next<=4294967296) && (decide (d.procs.length<=500) && (decide (totD d.procs<=500) && okPs d.next none [] d.procs)))
theorem zbR{l:List Prc}{p:Prc}(h:p∈l):p.cls.length<=totD l:=by
 induction l with
 |nil=>cases h
 |cons x r ih=>
  have e:totD (x::r)=x.cls.length+totD r:=by simp[totD]
  rcases List.mem_cons.1 h with rfl|h
  ·omega
  ·have:=ih h
   omega
theorem zf0{α:Type}{l:List α}{i:Nat}{x:α}(h:l[i]? =some x):l.drop i=x::l.drop (i+1):=by
 have hlt:=(List.getElem?_eq_some_iff.1 h).1
 rw[List.drop_eq_getElem_cons hlt,(List.getElem?_eq_some_iff.1 h).2]
def vM(d:Dbs)(m:List (Int × PV)):Heap:=[.box (some 2) (.pv (some 2) d.pv),.map none (zbK m)]
def vH(d:Dbs)(seen:List Int):Heap:=vM d (zc1 seen)
theorem zbc(s:Sto):PV.part deep s.pv 3 none=some (.str s.cl.head.name):=by
 cases s with|mk i c=>cases c with|mk h b=>cases h;rfl
theorem zbd(s:Sto):PV.part deep s.pv 4 none=some (.sl (some 4) (Tm.pvs s.cl.head.args)):=by
 cases s with|mk i c=>cases c with|mk h b=>cases h;rfl
theorem zrv{m:List (Int × PV)}{hp:Heap}{r:Nat}{s:Sh}{v:Int}(h:hp[r]? =some (.map none (zbK m))):za9 false none (.pv none (.int .i64 0)) false hp [.map r,.pv s (.int .i64 v)]=some (match zds v m with|some x=>.pv none x|none=>.pv none (.int .i64 0)):=by
 have hf:=zfu v m
 cases hm:zds v m with
 |none=>rw[hm] at hf;exact zeW h hf
 |some x=>rw[hm] at hf;exact zeV h hf
set_option maxRecDepth 20000 in
theorem zaM(d:Dbs)(hl:d.procs.length<1000000000)(ht:totD d.procs<1000000000)(hz:∀p∈d.procs,∀s∈p.cls,s.cl.head.size<100000000/\s.cl.body.size<100000000)(hp:Heap):S 15 [d.av] hp=some (.ret (.pv none (.bool (okD d))),hp):=by
 refine zam rfl rfl rfl (zaf [(some 2,d.pv)]) rfl ?_
 have h1:=fun hp=>zdq d hl ht hp
 simp only[Dbs.av] at h1
 by_cases b1:d.next<1
 ·have e:okD d=false:=by
   have:¬1<=d.next:=by omega
   simp[okD,this]
  rw[e]
  simp -dsimp -implicitDefEqProofs only[go_sem,seval,↓reduceIte,Dbs.av,zaz,zav,b1,Prc.pvs_len,List.append_assoc,zad,zaa,zae,zab,Nat.add_assoc,List.length_append]
  done
 by_cases b2:4294967296<d.next
 ·have e:okD d=false:=by
   have:¬d.next<=4294967296:=by omega
   simp[okD,this]
  rw[e]
  simp -dsimp -implicitDefEqProofs only[go_sem,seval,↓reduceIte,Dbs.av,zaz,zav,b1,b2,Prc.pvs_len,List.append_assoc,zad,zaa,zae,zab,Nat.add_assoc,List.length_append]
  done
 by_cases b3:(500:Int)<(d.procs.length:Int)
 ·have e:okD d=false:=by
   have:¬d.procs.length<=500:=by omega
   simp[okD,this]
  rw[e]
  simp -dsimp -implicitDefEqProofs only[go_sem,seval,↓reduceIte,Dbs.av,zaz,zav,b1,b2,b3,Prc.pvs_len,List.append_assoc,zad,zaa,zae,zab,Nat.add_assoc,List.length_append]
  done
 by_cases b4:(500:Int)<(totD d.procs:Int)
 ·have e:okD d=false:=by
   have:¬totD d.procs<=500:=by omega
   simp[okD,this]
  rw[e]
  simp -dsimp -implicitDefEqProofs only[go_sem,seval,↓reduceIte,Dbs.av,zaz,zav,b1,b2,b3,b4,h1,Prc.pvs_len,List.append_assoc,zad,zaa,zae,zab,Nat.add_assoc,List.length_append]
  done
 obtain⟨R,hR⟩:∃R,R=okPs d.next none [] d.procs:=⟨_,rfl⟩
 have e:okD d=R:=by
  have c1:1<=d.next:=by omega
  have c2:d.next<=4294967296:=by omega
  have c3:d.procs.length<=500:=by omega
  have c4:totD d.procs<=500:=by omega
  rw[hR]
  simp[okD,c1,c2,c3,c4]
 rw[e]
 simp -dsimp -implicitDefEqProofs only[go_sem,seval,↓reduceIte,Dbs.av,zaz,zav,b1,b2,b3,b4,h1,Prc.pvs_len,List.append_assoc,zad,zaa,zae,zab,Nat.add_assoc,List.length_append]
 refine zeo (α:=List Int) d.procs.length (fun i seen=>R=okPs d.next (if i=0 then none else d.procs[i - 1]?) seen (d.procs.drop i)) (fun i seen=>⟨[(1,.ptr 0 0),(3,.map 1),(4,.pv none (.bool true)),(30,.pv none (.sl (some 4) (Prc.pvs d.procs))),(31,.pv none (.int .i64 d.procs.length)),(32,.pv none (.int .i64 i))],vH d seen⟩) [] ⟨by rw[hR];rfl,rfl⟩ ?_ ?_
 ·rintro i seen h hinv
  have hc:(i:Int)<(d.procs.length:Int):=by omega
  have w1:IntKind.i64.wrap ((i:Int)+1)=((i+1:Nat):Int):=by rw[zaZ (by omega) (by omega)];omega
  obtain⟨p,hpp⟩:∃p,d.procs[i]? =some p:=⟨_,List.getElem?_eq_getElem h⟩
  have hpm:=List.mem_of_getElem? hpp
  have hpl:=zbR hpm
  have h2:=fun hp=>ze2 p.name p.ar hp
  rw[zf0 hpp,okPs] at hinv
  have hvl:(vH d seen).length=2:=rfl
  have hg0:∀X,(vH d seen++X)[0]? =some (.box (some 2) (.pv (some 2) d.pv)):=fun _=>rfl
  obtain⟨V,hV⟩:∃V,V=vH d seen:=⟨_,rfl⟩
  rw[<-hV] at hvl hg0 ⊢
  have h2:∀hp,S 40 [.pv none (.str p.name),.pv none (.int .i64 p.ar)] hp=some (.ret (.pv none (.bool (namB p))),hp):=h2
  by_cases nb:namB p=true
  rotate_left
  ·have nb':namB p=false:=by simpa using nb
   have hR0:R=false:=by rw[hinv,nb'];rfl
   rw[nb'] at h2
   rw[hR0]
   simp -dsimp -implicitDefEqProofs only[go_sem,seval,↓reduceIte,hc,w1,zak (Prc.pvs_get hpp),za0,zb7,h2,hvl,hg0,zac (Nat.zero_le _),List.append_assoc,zad,zaa,zae,zab,Nat.add_assoc,List.length_append,getN hvl,zeT hvl,setN hvl,zeU hvl]
   done
  rw[nb,Bool.true_and] at hinv
  rw[nb] at h2
  have hcase:(¬0<(i:Int)/\preB (if i=0 then none else d.procs[i - 1]?) p=true)\/∃q,0<(i:Int)/\zaW (some 4) [.pv none (.sl (some 4) (Prc.pvs d.procs)),.pv none (.int .i64 (IntKind.i64.wrap ((i:Int) - 1)))]=some (.iptr (some 4) q.pv 0)/\(∀hp,S 41 [.pv (some 4) q.pv,.pv (some 4) p.pv] hp=some (.ret (.pv none (.int .i64 (ordP q p))),hp))/\preB (if i=0 then none else d.procs[i - 1]?) p=decide (ordP q p<0):=by
   by_cases i0:i=0
   ·left
    refine⟨by omega,?_⟩
    rw[if_pos i0]
    rfl
   ·right
    obtain⟨q,hq⟩:∃q,d.procs[i - 1]? =some q:=⟨_,List.getElem?_eq_getElem (by omega)⟩
    have w3:IntKind.i64.wrap ((i:Int) - 1)=((i - 1:Nat):Int):=by rw[zaZ (by omega) (by omega)];omega
    refine⟨q,by omega,by rw[w3];exact zak (Prc.pvs_get hq),fun hp=>zlY q p hp,?_⟩
    rw[if_neg i0,hq]
    rfl
  have hbad:∀q:Prc,preB (if i=0 then none else d.procs[i - 1]?) p=decide (ordP q p<0)->0<=ordP q p->R=false:=fun q h1 h2=>by
   rw[hinv,h1,decide_eq_false (by omega)]
   rfl
  have hgood:preB (if i=0 then none else d.procs[i - 1]?) p=true->R=match okSs d.next p seen p.cls with|none=>false|some s=>okPs d.next (some p) s (d.procs.drop (i+1)):=fun h1=>by
   rw[hinv,h1,Bool.true_and]
  rcases hcase with⟨i0,hpb⟩|⟨q,i0,hia,hoq,hpb⟩
  rotate_left
  ·by_cases ho:0<=ordP q p
   ·rw[hbad q hpb ho]
    simp -dsimp -implicitDefEqProofs only[go_sem,seval,↓reduceIte,hc,w1,i0,hia,hoq,ho,zak (Prc.pvs_get hpp),za0,zb7,zav,h2,hvl,hg0,zac (Nat.zero_le _),List.append_assoc,zad,zaa,zae,zab,Nat.add_assoc,List.length_append,getN hvl,zeT hvl,setN hvl,zeU hvl]
    done
   have hRR:=hgood (by rw[hpb];exact decide_eq_true (by omega))
   simp -dsimp -implicitDefEqProofs only[go_sem,seval,↓reduceIte,hc,w1,i0,hia,hoq,ho,zak (Prc.pvs_get hpp),za0,zb7,zdP,zav,Sto.pvs_len,h2,hvl,hg0,zac (Nat.zero_le _),List.append_assoc,zad,zaa,zae,zab,Nat.add_assoc,List.length_append,getN hvl,zeT hvl,setN hvl,zeU hvl]
   clear hinv hbad hgood h1 h2
   have hV2:V=vH d seen:=hV
   rw[hV2]
   refine zeo (α:=List Int) p.cls.length (fun k sn=>okSs d.next p seen p.cls=okSs d.next p sn (p.cls.drop k)) (fun k sn=>⟨[(1,.ptr 0 0),(3,.map 1),(4,.pv none (.bool true)),(6,.ptr 2 0),(30,.pv none (.sl (some 4) (Prc.pvs d.procs))),(31,.pv none (.int .i64 d.procs.length)),(32,.pv none (.int .i64 i)),(59,.pv none (.sl (some 9) (Sto.pvs p.cls))),(60,.pv none (.int .i64 p.cls.length)),(61,.pv none (.int .i64 k))],[.box (some 2) (.pv (some 2) d.pv),.map none (zbK (zc1 sn)),.box (some 4) (.pv (some 4) p.pv),.arr (some 9) [] false]⟩) seen ⟨rfl,rfl⟩ ?_ ?_
   ·rintro k sn hk hin
    have hck:(k:Int)<(p.cls.length:Int):=by omega
    have wk:IntKind.i64.wrap ((k:Int)+1)=((k+1:Nat):Int):=by rw[zaZ (by omega) (by omega)];omega
    obtain⟨s,hs⟩:∃s,p.cls[k]? =some s:=⟨_,List.getElem?_eq_getElem hk⟩
    obtain⟨zs1,zs2⟩:=hz p hpm s (List.mem_of_getElem? hs)
    have h3:=fun hp=>zb8 s.cl zs1 zs2 hp
    simp only[Cz.av] at h3
    rw[zf0 hs,okSs] at hin
    obtain⟨c,hcc⟩:∃c:Int,c=if s.id∈sn then 1 else 0:=⟨_,rfl⟩
    have hc01:c=0\/c=1:=by rw[hcc];split <;> simp
    have wc:IntKind.i64.wrap (c+1)=c+1:=zaZ (by omega) (by omega)
    obtain⟨m2,hm2⟩:∃m2,m2=mPut s.id (.int .i64 (c+1)) (zc1 sn):=⟨_,rfl⟩
    have hl1:∀X,za9 false none (.pv none (.int .i64 0)) false (.box (some 2) (.pv (some 2) d.pv)::.map none (zbK (zc1 sn))::X) [.map 1,.pv none (.int .i64 s.id)]=some (.pv none (.int .i64 c)):=fun X=>by
     rw[zrv (m:=zc1 sn) rfl,zhr,hcc]
     by_cases hm:s.id∈sn
     ·rw[if_pos hm,if_pos hm]
     ·rw[if_neg hm,if_neg hm]
    have hl2:∀X,za9 false none (.pv none (.int .i64 0)) false (.box (some 2) (.pv (some 2) d.pv)::.map none (zbK m2)::X) [.map 1,.pv none (.int .i64 s.id)]=some (.pv none (.int .i64 (c+1))):=fun X=>by
     rw[zrv (m:=m2) rfl,hm2,zgG,if_pos rfl]
    have hms:∀X,zcp false none (.box (some 2) (.pv (some 2) d.pv)::.map none (zbK (zc1 sn))::X) [.map 1,.pv none (.int .i64 s.id),.pv none (.int .i64 (c+1))]=some (.undef,.box (some 2) (.pv (some 2) d.pv)::.map none (zbK m2)::X):=fun X=>by
     rw[zep (es:=zbK (zc1 sn)) rfl (ze5 _ _ _),<-hm2]
     rfl
    have hbadS:okSt d.next p sn s=false->R=false:=fun h=>by
     rw[hRR,hin,h]
     rfl
    by_cases a1:s.id<1
    ·rw[hbadS (by unfold okSt;rw[decide_eq_false (by omega)];rfl)]
     simp -dsimp -implicitDefEqProofs only[go_sem,seval,↓reduceIte,hck,wk,wc,a1,zak (Sto.pvs_get hs),zce,hl1,hl2,hms,zaz,zac (Nat.zero_le _),List.append_assoc,zad,zaa,zae,zab,Nat.add_assoc,List.length_append]
     done
    by_cases a2:d.next<=s.id
    ·rw[hbadS (by unfold okSt;rw[decide_eq_true (by omega),decide_eq_false (show ¬s.id<d.next by omega)];rfl)]
     simp -dsimp -implicitDefEqProofs only[go_sem,seval,↓reduceIte,hck,wk,wc,a1,a2,zak (Sto.pvs_get hs),zce,zcZ,zbc,zbd,za0,zb7,Tm.pvs_len,hl1,hl2,hms,zaz,zac (Nat.zero_le _),List.append_assoc,zad,zaa,zae,zab,Nat.add_assoc,List.length_append]
     done
    have p1:decide (1<=s.id)=true:=decide_eq_true (by omega)
    have p2:decide (s.id<d.next)=true:=decide_eq_true (by omega)
    by_cases a3:s.id∈sn
    ·have hc1:c=1:=by rw[hcc,if_pos a3]
     have a3':1<c+1:=by omega
     rw[hbadS (by unfold okSt;rw[p1,p2,decide_eq_false (by simpa using a3)];rfl)]
     simp -dsimp -implicitDefEqProofs only[go_sem,seval,↓reduceIte,hck,wk,wc,a1,a2,a3',zak (Sto.pvs_get hs),zce,zcZ,zbc,zbd,za0,zb7,Tm.pvs_len,hl1,hl2,hms,zaz,zac (Nat.zero_le _),List.append_assoc,zad,zaa,zae,zab,Nat.add_assoc,List.length_append]
     done
    have hc0:c=0:=by rw[hcc,if_neg a3]
    have a3':¬1<c+1:=by omega
    have p3:decide (s.id ∉ sn)=true:=decide_eq_true a3
    cases a4:okC s.cl with
    |false=>
     rw[hbadS (by unfold okSt;rw[p1,p2,p3,a4];rfl)]
     rw[a4] at h3
     simp -dsimp -implicitDefEqProofs only[go_sem,seval,↓reduceIte,hck,wk,wc,a1,a2,a3',h3,zak (Sto.pvs_get hs),zce,zcZ,zbc,zbd,za0,zb7,Tm.pvs_len,hl1,hl2,hms,zaz,zac (Nat.zero_le _),List.append_assoc,zad,zaa,zae,zab,Nat.add_assoc,List.length_append]
     done
    |true=>
    rw[a4] at h3
    by_cases a5:s.cl.head.name=p.name
    rotate_left
    ·rw[hbadS (by unfold okSt;rw[p1,p2,p3,a4,decide_eq_false a5];rfl)]
     have a5':=eq_false a5
     simp -dsimp -implicitDefEqProofs only[go_sem,seval,↓reduceIte,hck,wk,wc,a1,a2,a3',h3,a5',zak (Sto.pvs_get hs),zce,zcZ,zbc,zbd,za0,zb7,Tm.pvs_len,hl1,hl2,hms,zaz,zac (Nat.zero_le _),List.append_assoc,zad,zaa,zae,zab,Nat.add_assoc,List.length_append]
     done
    have a5':=eq_true a5
    by_cases a6:(s.cl.head.args.length:Int)=p.ar
    rotate_left
    ·rw[hbadS (by unfold okSt;rw[p1,p2,p3,a4,decide_eq_true a5,decide_eq_false a6];rfl)]
     have a6':=eq_false a6
     simp -dsimp -implicitDefEqProofs only[go_sem,seval,↓reduceIte,hck,wk,wc,a1,a2,a3',h3,a5',a6',zak (Sto.pvs_get hs),zce,zcZ,zbc,zbd,za0,zb7,Tm.pvs_len,hl1,hl2,hms,zaz,zac (Nat.zero_le _),List.append_assoc,zad,zaa,zae,zab,Nat.add_assoc,List.length_append]
     done
    have a6':=eq_true a6
    have hok:okSt d.next p sn s=true:=by unfold okSt;rw[p1,p2,p3,a4,decide_eq_true a5,decide_eq_true a6];rfl
    rw[if_pos hok] at hin
    have hm3:m2=zc1 (sn++[s.id]):=by rw[hm2,hc0];exact zgD s.id sn a3
    simp -dsimp -implicitDefEqProofs only[go_sem,seval,↓reduceIte,hck,wk,wc,a1,a2,a3',h3,a5',a6',zak (Sto.pvs_get hs),zce,zcZ,zbc,zbd,za0,zb7,Tm.pvs_len,hl1,hl2,hms,zaz,zac (Nat.zero_le _),List.append_assoc,zad,zaa,zae,zab,Nat.add_assoc,List.length_append]
    refine⟨sn++[s.id],hin,?_⟩
    rw[hm3]
    rfl
   ·rintro sn hin
    have hck:¬(p.cls.length:Int)<(p.cls.length:Int):=by omega
    rw[List.drop_length,okSs] at hin
    rw[hin] at hRR
    simp -dsimp -implicitDefEqProofs only[go_sem,seval,↓reduceIte,hck,w1,List.append_assoc,zad,zaa,zae,zab,Nat.add_assoc,List.length_append]
    refine⟨sn,?_,?_⟩
    ·rw[hpp]
     exact hRR
    ·rfl
  ·have hRR:=hgood hpb
   simp -dsimp -implicitDefEqProofs only[go_sem,seval,↓reduceIte,hc,w1,i0,zak (Prc.pvs_get hpp),za0,zb7,zdP,zav,Sto.pvs_len,h2,hvl,hg0,zac (Nat.zero_le _),List.append_assoc,zad,zaa,zae,zab,Nat.add_assoc,List.length_append,getN hvl,zeT hvl,setN hvl,zeU hvl]
   clear hinv hbad hgood h1 h2
   have hV2:V=vH d seen:=hV
   rw[hV2]
   refine zeo (α:=List Int) p.cls.length (fun k sn=>okSs d.next p seen p.cls=okSs d.next p sn (p.cls.drop k)) (fun k sn=>⟨[(1,.ptr 0 0),(3,.map 1),(4,.pv none (.bool true)),(6,.ptr 2 0),(30,.pv none (.sl (some 4) (Prc.pvs d.procs))),(31,.pv none (.int .i64 d.procs.length)),(32,.pv none (.int .i64 i)),(59,.pv none (.sl (some 9) (Sto.pvs p.cls))),(60,.pv none (.int .i64 p.cls.length)),(61,.pv none (.int .i64 k))],[.box (some 2) (.pv (some 2) d.pv),.map none (zbK (zc1 sn)),.box (some 4) (.pv (some 4) p.pv),.arr (some 9) [] false]⟩) seen ⟨rfl,rfl⟩ ?_ ?_
   ·rintro k sn hk hin
    have hck:(k:Int)<(p.cls.length:Int):=by omega
    have wk:IntKind.i64.wrap ((k:Int)+1)=((k+1:Nat):Int):=by rw[zaZ (by omega) (by omega)];omega
    obtain⟨s,hs⟩:∃s,p.cls[k]? =some s:=⟨_,List.getElem?_eq_getElem hk⟩
    obtain⟨zs1,zs2⟩:=hz p hpm s (List.mem_of_getElem? hs)
    have h3:=fun hp=>zb8 s.cl zs1 zs2 hp
    simp only[Cz.av] at h3
    rw[zf0 hs,okSs] at hin
    obtain⟨c,hcc⟩:∃c:Int,c=if s.id∈sn then 1 else 0:=⟨_,rfl⟩
    have hc01:c=0\/c=1:=by rw[hcc];split <;> simp
    have wc:IntKind.i64.wrap (c+1)=c+1:=zaZ (by omega) (by omega)
    obtain⟨m2,hm2⟩:∃m2,m2=mPut s.id (.int .i64 (c+1)) (zc1 sn):=⟨_,rfl⟩
    have hl1:∀X,za9 false none (.pv none (.int .i64 0)) false (.box (some 2) (.pv (some 2) d.pv)::.map none (zbK (zc1 sn))::X) [.map 1,.pv none (.int .i64 s.id)]=some (.pv none (.int .i64 c)):=fun X=>by
     rw[zrv (m:=zc1 sn) rfl,zhr,hcc]
     by_cases hm:s.id∈sn
     ·rw[if_pos hm,if_pos hm]
     ·rw[if_neg hm,if_neg hm]
    have hl2:∀X,za9 false none (.pv none (.int .i64 0)) false (.box (some 2) (.pv (some 2) d.pv)::.map none (zbK m2)::X) [.map 1,.pv none (.int .i64 s.id)]=some (.pv none (.int .i64 (c+1))):=fun X=>by
     rw[zrv (m:=m2) rfl,hm2,zgG,if_pos rfl]
    have hms:∀X,zcp false none (.box (some 2) (.pv (some 2) d.pv)::.map none (zbK (zc1 sn))::X) [.map 1,.pv none (.int .i64 s.id),.pv none (.int .i64 (c+1))]=some (.undef,.box (some 2) (.pv (some 2) d.pv)::.map none (zbK m2)::X):=fun X=>by
     rw[zep (es:=zbK (zc1 sn)) rfl (ze5 _ _ _),<-hm2]
     rfl
    have hbadS:okSt d.next p sn s=false->R=false:=fun h=>by
     rw[hRR,hin,h]
     rfl
    by_cases a1:s.id<1
    ·rw[hbadS (by unfold okSt;rw[decide_eq_false (by omega)];rfl)]
     simp -dsimp -implicitDefEqProofs only[go_sem,seval,↓reduceIte,hck,wk,wc,a1,zak (Sto.pvs_get hs),zce,hl1,hl2,hms,zaz,zac (Nat.zero_le _),List.append_assoc,zad,zaa,zae,zab,Nat.add_assoc,List.length_append]
     done
    by_cases a2:d.next<=s.id
    ·rw[hbadS (by unfold okSt;rw[decide_eq_true (by omega),decide_eq_false (show ¬s.id<d.next by omega)];rfl)]
     simp -dsimp -implicitDefEqProofs only[go_sem,seval,↓reduceIte,hck,wk,wc,a1,a2,zak (Sto.pvs_get hs),zce,zcZ,zbc,zbd,za0,zb7,Tm.pvs_len,hl1,hl2,hms,zaz,zac (Nat.zero_le _),List.append_assoc,zad,zaa,zae,zab,Nat.add_assoc,List.length_append]
     done
    have p1:decide (1<=s.id)=true:=decide_eq_true (by omega)
    have p2:decide (s.id<d.next)=true:=decide_eq_true (by omega)
    by_cases a3:s.id∈sn
    ·have hc1:c=1:=by rw[hcc,if_pos a3]
     have a3':1<c+1:=by omega
     rw[hbadS (by unfold okSt;rw[p1,p2,decide_eq_false (by simpa using a3)];rfl)]
     simp -dsimp -implicitDefEqProofs only[go_sem,seval,↓reduceIte,hck,wk,wc,a1,a2,a3',zak (Sto.pvs_get hs),zce,zcZ,zbc,zbd,za0,zb7,Tm.pvs_len,hl1,hl2,hms,zaz,zac (Nat.zero_le _),List.append_assoc,zad,zaa,zae,zab,Nat.add_assoc,List.length_append]
     done
    have hc0:c=0:=by rw[hcc,if_neg a3]
    have a3':¬1<c+1:=by omega
    have p3:decide (s.id ∉ sn)=true:=decide_eq_true a3
    cases a4:okC s.cl with
    |false=>
     rw[hbadS (by unfold okSt;rw[p1,p2,p3,a4];rfl)]
     rw[a4] at h3
     simp -dsimp -implicitDefEqProofs only[go_sem,seval,↓reduceIte,hck,wk,wc,a1,a2,a3',h3,zak (Sto.pvs_get hs),zce,zcZ,zbc,zbd,za0,zb7,Tm.pvs_len,hl1,hl2,hms,zaz,zac (Nat.zero_le _),List.append_assoc,zad,zaa,zae,zab,Nat.add_assoc,List.length_append]
     done
    |true=>
    rw[a4] at h3
    by_cases a5:s.cl.head.name=p.name
    rotate_left
    ·rw[hbadS (by unfold okSt;rw[p1,p2,p3,a4,decide_eq_false a5];rfl)]
     have a5':=eq_false a5
     simp -dsimp -implicitDefEqProofs only[go_sem,seval,↓reduceIte,hck,wk,wc,a1,a2,a3',h3,a5',zak (Sto.pvs_get hs),zce,zcZ,zbc,zbd,za0,zb7,Tm.pvs_len,hl1,hl2,hms,zaz,zac (Nat.zero_le _),List.append_assoc,zad,zaa,zae,zab,Nat.add_assoc,List.length_append]
     done
    have a5':=eq_true a5
    by_cases a6:(s.cl.head.args.length:Int)=p.ar
    rotate_left
    ·rw[hbadS (by unfold okSt;rw[p1,p2,p3,a4,decide_eq_true a5,decide_eq_false a6];rfl)]
     have a6':=eq_false a6
     simp -dsimp -implicitDefEqProofs only[go_sem,seval,↓reduceIte,hck,wk,wc,a1,a2,a3',h3,a5',a6',zak (Sto.pvs_get hs),zce,zcZ,zbc,zbd,za0,zb7,Tm.pvs_len,hl1,hl2,hms,zaz,zac (Nat.zero_le _),List.append_assoc,zad,zaa,zae,zab,Nat.add_assoc,List.length_append]
     done
    have a6':=eq_true a6
    have hok:okSt d.next p sn s=true:=by unfold okSt;rw[p1,p2,p3,a4,decide_eq_true a5,decide_eq_true a6];rfl
    rw[if_pos hok] at hin
    have hm3:m2=zc1 (sn++[s.id]):=by rw[hm2,hc0];exact zgD s.id sn a3
    simp -dsimp -implicitDefEqProofs only[go_sem,seval,↓reduceIte,hck,wk,wc,a1,a2,a3',h3,a5',a6',zak (Sto.pvs_get hs),zce,zcZ,zbc,zbd,za0,zb7,Tm.pvs_len,hl1,hl2,hms,zaz,zac (Nat.zero_le _),List.append_assoc,zad,zaa,zae,zab,Nat.add_assoc,List.length_append]
    refine⟨sn++[s.id],hin,?_⟩
    rw[hm3]
    rfl
   ·rintro sn hin
    have hck:¬(p.cls.length:Int)<(p.cls.length:Int):=by omega
    rw[List.drop_length,okSs] at hin
    rw[hin] at hRR
    simp -dsimp -implicitDefEqProofs only[go_sem,seval,↓reduceIte,hck,w1,List.append_assoc,zad,zaa,zae,zab,Nat.add_assoc,List.length_append]
    refine⟨sn,?_,?_⟩
    ·rw[hpp]
     exact hRR
    ·rfl
 ·rintro seen hinv
  have hc:¬(d.procs.length:Int)<(d.procs.length:Int):=by omega
  rw[List.drop_length] at hinv
  have:R=true:=by rw[hinv];rfl
  rw[this]
  simp -dsimp -implicitDefEqProofs only[go_sem,seval,↓reduceIte,hc,List.append_assoc,zad,zaa,zae,zab,Nat.add_assoc,List.length_append]
  done
theorem zpW:∀a:List UInt8,Op.bytesLess a a=false
 |[]=>rfl
 |x::r=>by
  have:=zpW r
  simp[Op.bytesLess,this]
theorem zl1:∀a b c:List UInt8,Op.bytesLess a b=true->Op.bytesLess b c=true->Op.bytesLess a c=true
 |_,[],_,h,_=>by simp[Op.bytesLess] at h
 |_,_::_,[],_,h=>by simp[Op.bytesLess] at h
 |[],_::_,_::_,_,_=>rfl
 |x::a,y::b,z::c,h1,h2=>by
  simp only[Op.bytesLess,Bool.or_eq_true,Bool.and_eq_true,decide_eq_true_eq,beq_iff_eq] at h1 h2 ⊢
  rcases h1 with h1|⟨rfl,h1⟩
  ·rcases h2 with h2|⟨rfl,h2⟩
   ·left
    rw[UInt8.lt_iff_toNat_lt] at*
    omega
   ·exact .inl h1
  ·rcases h2 with h2|⟨rfl,h2⟩
   ·exact .inl h2
   ·exact .inr ⟨rfl,zl1 a b c h1 h2⟩
theorem zl2{p q:Prc}:ordP p q<0↔Op.bytesLess p.name q.name=true\/(p.name=q.name/\p.ar<q.ar):=by
 unfold ordP strC intC
 cases h:Op.bytesLess p.name q.name with
 |true=>simp
 |false=>
  by_cases hn:p.name=q.name
  ·simp only[hn,zpW]
   by_cases ha:p.ar<q.ar
   ·simp[ha]
   ·by_cases hb:q.ar<p.ar
    ·simp[ha,hb]
    ·simp[ha,hb]
  ·simp[hn]
theorem zft{p q r:Prc}(h1:ordP p q<0)(h2:ordP q r<0):ordP p r<0:=by
 rw[zl2] at h1 h2 ⊢
 rcases h1 with h1|⟨e1,h1⟩
 ·rcases h2 with h2|⟨e2,h2⟩
  ·exact .inl (zl1 _ _ _ h1 h2)
  ·exact .inl (e2▸h1)
 ·rcases h2 with h2|⟨e2,h2⟩
  ·exact .inl (e1▸h2)
  ·exact .inr ⟨e1.trans e2,by omega⟩
theorem ordP_zero{p q:Prc}:ordP p q=0↔p.name=q.name/\p.ar=q.ar:=by
 unfold ordP strC intC
 cases h:Op.bytesLess p.name q.name with
 |true=>
  constructor
  ·intro h2;simp at h2
  ·rintro⟨e,_⟩
   rw[e,zpW] at h
   cases h
 |false=>
  by_cases hn:p.name=q.name
  ·simp only[hn,true_and]
   by_cases ha:p.ar<q.ar
   ·simp[ha];omega
   ·by_cases hb:q.ar<p.ar
    ·simp[ha,hb];omega
    ·simp[ha,hb];omega
  ·simp[hn]
def lbD(l:List Prc)(q:Prc):Nat:=(l.takeWhile fun p=>decide (ordP p q<0)).length
def fnD(l:List Prc)(q:Prc):Bool:=match l[lbD l q]? with
 |some p=>decide (ordP p q=0)
 |none=>false
def IncP(l:List Prc):Prop:=∀(i j:Nat) (a b:Prc),i<j->l[i]? =some a->l[j]? =some b->ordP a b<0
theorem zjU(l:List Prc)(q:Prc):lbD l q<=l.length:=by
 unfold lbD
 exact(List.takeWhile_prefix _).length_le
theorem zd5{q:Prc}:∀{l:List Prc} {k:Nat} {x:Prc},IncP l->l[k]? =some x->(ordP x q<0↔k<lbD l q)
 |[],k,x,_,h=>by simp at h
 |y::r,k,x,hi,h=>by
  have hr:IncP r:=fun i j a b hij ha hb=>hi (i+1) (j+1) a b (by omega) (by simpa using ha) (by simpa using hb)
  unfold lbD
  rw[List.takeWhile_cons]
  by_cases hy:ordP y q<0
  ·rw[if_pos (decide_eq_true hy),List.length_cons]
   cases k with
   |zero=>
    simp at h
    subst h
    exact⟨fun _=>by omega,fun _=>hy⟩
   |succ k=>
    have:=zd5 (q:=q) hr (k:=k) (x:=x) (by simpa using h)
    rw[this]
    unfold lbD
    omega
  ·rw[if_neg (by simpa using hy)]
   constructor
   ·intro hx
    exfalso
    cases k with
    |zero=>
     simp at h
     subst h
     exact hy hx
    |succ k=>exact hy (zft (hi 0 (k+1) y x (by omega) rfl h) hx)
   ·intro h0
    simp at h0
theorem zpX(p q:Prc)(hp:Heap):S 58 [p.av,q.av] hp=some (.ret (.pv none (.int .i64 (ordP p q))),hp):=by
 refine zam rfl rfl rfl (zaf [(some 4,p.pv),(some 4,q.pv)]) rfl ?_
 have h1:=fun hp=>zlY p q hp
 simp only[Prc.av] at h1
 simp -dsimp -implicitDefEqProofs only[go_sem,seval,↓reduceIte,Prc.av,h1,List.append_assoc,zad,zaa,zae,zab,Nat.add_assoc,List.length_append]
 done
theorem znz(l:List Prc)(t:Prc)(hl:l.length<1000000000)(hi:IncP l)(hp:Heap):
  S 57 [.pv none (.sl (some 4) (Prc.pvs l)),.pv (some 4) t.pv,.pv none (.func (.func 58))] hp=some (.ret (.tuple [.pv none (.int .i64 (lbD l t:Int)),.pv none (.bool (fnD l t))]),hp):=by
 refine zam rfl rfl rfl (zaf [(none,.sl (some 4) (Prc.pvs l)),(some 4,t.pv),(none,.func (.func 58))]) rfl ?_
 have hlb:=zjU l t
 have hcmp:∀(x:Prc) hp,S 58 [.pv (some 4) x.pv,.pv (some 4) t.pv] hp=some (.ret (.pv none (.int .i64 (ordP x t))),hp):=fun x hp=>zpX x t hp
 simp -dsimp -implicitDefEqProofs only[go_sem,seval,↓reduceIte,Prc.pvs_len]
 refine zlL (fun n st=>∃i j:Nat,n=j - i/\i<=lbD l t/\lbD l t<=j/\j<=l.length/\st=⟨[(0,.pv none (.sl (some 4) (Prc.pvs l))),(2,.pv none (.func (.func 58))),(4,.ptr 0 0),(8,.pv none (.int .i64 (l.length:Int))),(9,.pv none (.int .i64 i)),(10,.pv none (.int .i64 j))],[.box (some 4) (.pv (some 4) t.pv)]⟩) (n:=l.length) ⟨0,l.length,by omega,by omega,hlb,by omega,?_⟩ ?_
 ·simp -dsimp -implicitDefEqProofs only[go_sem,seval,↓reduceIte]
  try rfl
 ·rintro n st ⟨i,j,hn,h1,h2,h3,rfl⟩
  by_cases hij:i<j
  ·have hc:(i:Int)<(j:Int):=by omega
   obtain⟨x,hx⟩:∃x,l[(i+j) / 2]? =some x:=⟨_,List.getElem?_eq_getElem (by omega)⟩
   have hcall:=hcmp x
   have hs:=zd5 (q:=t) hi hx
   have w1:IntKind.i64.wrap ((i:Int)+(j:Int))=((i+j:Nat):Int):=by rw[zaZ (by omega) (by omega)];omega
   have w2:IntKind.u64.wrap ((i+j:Nat):Int)=((i+j:Nat):Int):=zrj (by omega) (by omega)
   have w3:IntKind.i64.wrap (((i+j:Nat):Int) / 2)=(((i+j) / 2:Nat):Int):=by rw[zaZ (by omega) (by omega)];omega
   have w4:IntKind.i64.wrap ((((i+j) / 2:Nat):Int)+1)=(((i+j) / 2+1:Nat):Int):=by rw[zaZ (by omega) (by omega)];omega
   by_cases h0:ordP x t<0
   ·simp -dsimp -implicitDefEqProofs only[go_sem,seval,↓reduceIte,Prc.pvs_len,hc,zrQ (show 0<IntKind.bits .u64 by decide),w1,w2,w3,w4,zak (Prc.pvs_get hx),hcall,h0]
    refine⟨j - ((i+j) / 2+1),by omega,(i+j) / 2+1,j,rfl,?_,h2,h3,rfl⟩
    have:=hs.1 h0
    omega
   ·simp -dsimp -implicitDefEqProofs only[go_sem,seval,↓reduceIte,Prc.pvs_len,hc,zrQ (show 0<IntKind.bits .u64 by decide),w1,w2,w3,w4,zak (Prc.pvs_get hx),hcall,h0]
    refine⟨(i+j) / 2 - i,by omega,i,(i+j) / 2,rfl,h1,?_,by omega,rfl⟩
    have:¬(i+j) / 2<lbD l t:=fun h=>h0 (hs.2 h)
    omega
  ·have hc:¬(i:Int)<(j:Int):=by omega
   obtain rfl:i=lbD l t:=by omega
   by_cases hll:lbD l t<l.length
   ·have hc2:((lbD l t:Nat):Int)<(l.length:Int):=by omega
    obtain⟨x,hx⟩:∃x,l[lbD l t]? =some x:=⟨_,List.getElem?_eq_getElem hll⟩
    have hcall:=hcmp x
    have hf:fnD l t=decide (ordP x t=0):=by unfold fnD;rw[hx]
    simp -dsimp -implicitDefEqProofs only[go_sem,seval,↓reduceIte,Prc.pvs_len,hc,hc2,zak (Prc.pvs_get hx),hcall,hf]
   ·have hc2:¬((lbD l t:Nat):Int)<(l.length:Int):=by omega
    have hf:fnD l t=false:=by unfold fnD;rw[List.getElem?_eq_none (by omega)]
    simp -dsimp -implicitDefEqProofs only[go_sem,seval,↓reduceIte,Prc.pvs_len,hc,hc2,hf]
theorem zbS(d:Dbs)(s:List UInt8)(a:Int)(hl:d.procs.length<1000000000)(hi:IncP d.procs)(hp:Heap):S 31 [d.av,.pv none (.str s),.pv none (.int .i64 a)] hp=some (.ret (.tuple [.pv none (.int .i64 (lbD d.procs ⟨s,a,false,[]⟩:Int)),.pv none (.bool (fnD d.procs ⟨s,a,false,[]⟩))]),hp):=by
 refine zam rfl rfl rfl (zaf [(some 2,d.pv),(none,.str s),(none,.int .i64 a)]) rfl ?_
 have hbu:zaN [(none,.pv none (.str [])),(none,.pv none (.int .i64 0)),(none,.pv none (.bool false)),(none,.tsl (some 9) [])] [0,1] [.pv none (.str s),.pv none (.int .i64 a)]=some (.agg [(none,.pv none (.str s)),(none,.pv none (.int .i64 a)),(none,.pv none (.bool false)),(none,.tsl (some 9) [])]):=rfl
 have h1:∀hp,S 57 [.pv none (.sl (some 4) (Prc.pvs d.procs)),.agg [(none,.pv none (.str s)),(none,.pv none (.int .i64 a)),(none,.pv none (.bool false)),(none,.tsl (some 9) [])],.pv none (.func (.func 58))] hp=some (.ret (.tuple [.pv none (.int .i64 (lbD d.procs ⟨s,a,false,[]⟩:Int)),.pv none (.bool (fnD d.procs ⟨s,a,false,[]⟩))]),hp):=fun hp=>
  zpB (F:=find tab) (prim:=prim) (ps:=[(none,.sl (some 4) (Prc.pvs d.procs)),(some 4,(Prc.mk s a false []).pv),(none,.func (.func 58))]) (hp1:=hp) rfl rfl rfl rfl (znz d.procs ⟨s,a,false,[]⟩ hl hi [])
 simp -dsimp -implicitDefEqProofs only[go_sem,seval,↓reduceIte,Dbs.av,zav,hbu,h1,List.append_assoc,zad,zaa,zae,zab,Nat.add_assoc,List.length_append]
 done
theorem zl3(next:Int):∀(l:List Prc) (q:Option Prc) (seen:List Int),okPs next q seen l=true->(∀p,l.head? =some p->preB q p=true)/\IncP l
 |[],q,seen,_=>⟨fun p h=>(by cases h),fun i j a b _ h=>(by simp at h)⟩
 |x::r,q,seen,h=>by
  rw[okPs,Bool.and_eq_true,Bool.and_eq_true] at h
  obtain⟨_,h2,h3⟩:=h
  split at h3
  ·cases h3
  ·rename_i s' hs
   obtain⟨g1,g2⟩:=zl3 next r (some x) s' h3
   have hx:∀(j:Nat) (b:Prc),r[j]? =some b->ordP x b<0:=by
    intro j b hb
    cases r with
    |nil=>simp at hb
    |cons y r'=>
     have h0:=g1 y rfl
     have h0':ordP x y<0:=of_decide_eq_true h0
     cases j with
     |zero=>
      simp at hb
      subst hb
      exact h0'
     |succ j=>exact zft h0' (g2 0 (j+1) y b (by omega) rfl hb)
   refine⟨fun p hp=>(by cases hp;exact h2),fun i j a b hij ha hb=> ?_⟩
   cases j with
   |zero=>omega
   |succ j=>
    cases i with
    |zero=>
     simp at ha
     subst ha
     exact hx j b (by simpa using hb)
    |succ i=>exact g2 i j a b (by omega) (by simpa using ha) (by simpa using hb)
def BndD(d:Dbs):Prop:=d.procs.length<1000000000/\totD d.procs<1000000000/\∀p∈d.procs,∀s∈p.cls,s.cl.head.size<100000000/\s.cl.body.size<100000000
theorem zcx{d:Dbs}(h:okD d=true):IncP d.procs:=by
 simp only[okD,Bool.and_eq_true] at h
 exact(zl3 _ _ _ _ h.2.2.2.2).2
theorem zl4(d:Dbs)(hb:BndD d)(hp:Heap):S 13 [d.av] hp=some (.ret (.pv none (.int .i64 (if okD d=true then(totD d.procs:Int) else 0))),hp):=by
 refine zam rfl rfl rfl (zaf [(some 2,d.pv)]) rfl ?_
 have h1:=fun hp=>zaM d hb.1 hb.2.1 hb.2.2 hp
 have h2:=fun hp=>zdq d hb.1 hb.2.1 hp
 simp only[Dbs.av] at h1 h2
 by_cases h:okD d=true
 ·rw[h] at h1
  rw[if_pos h]
  simp -dsimp -implicitDefEqProofs only[go_sem,seval,↓reduceIte,Dbs.av,h1,h2,List.append_assoc,zad,zaa,zae,zab,Nat.add_assoc,List.length_append]
 ·have h':okD d=false:=by simpa using h
  rw[h'] at h1
  rw[if_neg h]
  simp -dsimp -implicitDefEqProofs only[go_sem,seval,↓reduceIte,Dbs.av,h1,h2,List.append_assoc,zad,zaa,zae,zab,Nat.add_assoc,List.length_append]
def Sto.av(s:Sto):AV:=.pv (some 9) s.pv
theorem zrw(s:Sto):PV.part deep s.pv 1 (some 4)=some s.cl.head.pv:=by
 cases s with|mk i c=>cases c with|mk h b=>cases h;rfl
theorem zrx(s:Sto):PV.part deep s.pv 5 (some 4)=some s.cl.body.pv:=by
 cases s with|mk i c=>cases c with|mk h b=>cases h;cases b;rfl
theorem ze3(s:Sto)(vh:s.cl.head.valid=true)(vb:s.cl.body.valid=true)(hp:Heap):S 36 [s.av] hp=some (.ret s.av,hp):=by
 refine zam rfl rfl rfl (zaf [(some 9,s.pv)]) rfl ?_
 have zh:=zcn vh
 have zb:=zcn vb
 have h1:=fun hp=>zig s.cl.head hp vh (by omega)
 have h2:=fun hp=>zig s.cl.body hp vb (by omega)
 have b1:zaN [(some 4,.agg [(none,.pv none (.int .i64 0)),(none,.pv none (.int .i64 0)),(none,.pv none (.str [])),(none,.tsl (some 4) [])]),(some 4,.agg [(none,.pv none (.int .i64 0)),(none,.pv none (.int .i64 0)),(none,.pv none (.str [])),(none,.tsl (some 4) [])])] [0,1] [.pv (some 4) s.cl.head.pv,.pv (some 4) s.cl.body.pv]=some (.pv (some 8) s.cl.pv):=rfl
 have b2:zaN [(none,.pv none (.int .i64 0)),(some 8,.agg [(some 4,.agg [(none,.pv none (.int .i64 0)),(none,.pv none (.int .i64 0)),(none,.pv none (.str [])),(none,.tsl (some 4) [])]),(some 4,.agg [(none,.pv none (.int .i64 0)),(none,.pv none (.int .i64 0)),(none,.pv none (.str [])),(none,.tsl (some 4) [])])])] [0,1] [.pv none (.int .i64 s.id),.pv (some 8) s.cl.pv]=some (.pv (some 9) s.pv):=rfl
 simp only[Tm.av] at h1 h2
 simp -dsimp -implicitDefEqProofs only[b1,b2,g36,c36r0,c36r1,c36,go_sem,seval,↓reduceIte,Sto.av,zce,zcZ,zrw,zrx,h1,h2,zac (Nat.zero_le _),List.append_assoc,zad,zaa,zae,zab,Nat.add_assoc,List.length_append]
 done
def okCl(p:Prc):Prop:=∀s∈p.cls,s.cl.head.valid=true/\s.cl.body.valid=true
def pA(p:Prc)(q:Nat):AV:=.agg [(none,.pv none (.str p.name)),(none,.pv none (.int .i64 p.ar)),(none,.pv none (.bool p.dyn)),(none,.sl (some 9) q p.cls.length 0 p.cls.length)]
def zS:PV:=.agg [(none,.int .i64 0),(some 8,.agg [(some 4,.agg [(none,.int .i64 0),(none,.int .i64 0),(none,.str []),(none,.sl (some 4) [])]),(some 4,.agg [(none,.int .i64 0),(none,.int .i64 0),(none,.str []),(none,.sl (some 4) [])])])]
theorem zsO{Γ:Oracle}{b:Nat}{vs:List AV}{hp:Heap}{K:AV->Heap->Prop}{Kp:PV->Heap->Prop}(sh:Sh):opK (aOp Γ b (.copy sh) vs hp) K Kp=zbQ (ziz sh hp vs) K:=by
 show opK (match ziz sh hp vs with|some (v,hp')=>some (OpRes.val v hp')|none=>none) K Kp=_
 cases ziz sh hp vs with
 |none=>rfl
 |some r=>cases r;rfl
theorem zl5{α:Type}{l:List α}{i:Nat}{x:α}(h:l[i]? =some x):l.set i x=l:=by
 have hi:=(List.getElem?_eq_some_iff.1 h)
 obtain⟨h1,h2⟩:=hi
 rw[<-h2,List.set_getElem_self]
theorem zfL(p:Prc)(hl:p.cls.length<1000000)(hc:okCl p)(hp:Heap):S 39 [p.av] hp=some (.ret (pA p (hp.length+3)),hp++[.box (some 4) (pA p (hp.length+3)),.box (some 4) (pA p (hp.length+3)),.arr (some 9) [] false,.arr (some 9) (Sto.pvs p.cls) false]):=by
 refine zbz rfl rfl rfl rfl ?_
 have hpl:=Sto.pvs_len p.cls
 have hlim:p.cls.length<=lim:=by unfold lim;omega
 have hmk:∀H:Heap,zcA (some 9) zS H [.pv none (.int .i64 p.cls.length),.pv none (.int .i64 p.cls.length)]=some (.sl (some 9) H.length p.cls.length 0 p.cls.length,H++[.arr (some 9) (List.replicate p.cls.length zS) false]):=fun H=>by
  simp[zcA,hlim,zcY]
 have hcp:∀x0 x1 x2:AObj,ziz (some 9) (hp++[x0,x1,x2,.arr (some 9) (List.replicate p.cls.length zS) false]) [.sl (some 9) (hp.length+3) p.cls.length 0 p.cls.length,.pv none (.sl (some 9) (Sto.pvs p.cls))]=some (.pv none (.int .i64 p.cls.length),hp++[x0,x1,x2,.arr (some 9) (Sto.pvs p.cls) false]):=fun x0 x1 x2=>by
  have e:Nat.min p.cls.length p.cls.length=p.cls.length:=Nat.min_self _
  have e2:List.take p.cls.length (Sto.pvs p.cls)=Sto.pvs p.cls:=List.take_of_length_le (by omega)
  simp[ziz,elems,getN rfl,setN rfl,hpl,e,e2]
 simp only[zS] at hmk
 simp -dsimp -implicitDefEqProofs only[go_sem,seval,↓reduceIte,Prc.av,zdP,hpl,hmk,zac (Nat.le_add_right _ _),List.append_assoc,zad,zaa,zae,zab,Nat.add_assoc,List.length_append]
 simp only[zS] at hcp
 simp -dsimp -implicitDefEqProofs only[go_sem,seval,↓reduceIte,Prc.av,zdP,hpl,zsO,hcp,zac (Nat.le_add_right _ _),List.append_assoc,zad,zaa,zae,zab,Nat.add_assoc,List.length_append]
 obtain⟨x1,hx1⟩:∃x1:AObj,x1=.box (some 4) (.agg [(none,.pv none (.str [])),(none,.pv none (.int .i64 0)),(none,.pv none (.bool false)),(none,.sl (some 9) (hp.length+2) 0 0 0)]):=⟨_,rfl⟩
 rw[<-hx1]
 refine zeo (α:=Unit) p.cls.length (fun _ _=>True) (fun i _=>⟨[(1,.ptr hp.length 0),(2,.ptr (hp.length+1) 0),(3,.sl (some 9) (hp.length+3) p.cls.length 0 p.cls.length),(14,.sl (some 9) (hp.length+3) p.cls.length 0 p.cls.length),(15,.pv none (.int .i64 p.cls.length)),(16,.pv none (.int .i64 i))],hp++[.box (some 4) (.pv (some 4) p.pv),x1,.arr (some 9) [] false,.arr (some 9) (Sto.pvs p.cls) false]⟩) () ⟨trivial,rfl⟩ ?_ ?_
 ·rintro i - h -
  have hcc:(i:Int)<(p.cls.length:Int):=by omega
  have w1:IntKind.i64.wrap ((i:Int)+1)=((i+1:Nat):Int):=by rw[zaZ (by omega) (by omega)];omega
  obtain⟨s,hs⟩:∃s,p.cls[i]? =some s:=⟨_,List.getElem?_eq_getElem h⟩
  obtain⟨vh,vb⟩:=hc s (List.mem_of_getElem? hs)
  have h3:=fun hp=>ze3 s vh vb hp
  simp only[Sto.av] at h3
  have hia:zaW (some 9) [.sl (some 9) (hp.length+3) p.cls.length 0 p.cls.length,.pv none (.int .i64 i)]=some (.eptr (some 9) (hp.length+3) p.cls.length i 0):=by
   have:=zna (sh:=some 9) (s':=none) (k:=.i64) (r:=hp.length+3) (v:=p.cls.length) (o:=0) h
   rw[Nat.zero_add] at this
   exact this
  have hld:∀(x0 x1 x2:AObj) (X:Heap),aload (some 9) (hp++x0::x1::x2::.arr (some 9) (Sto.pvs p.cls) false::X) (.eptr (some 9) (hp.length+3) p.cls.length i 0)=some (.pv (some 9) s.pv):=fun x0 x1 x2 X=>by
   simp[aload,getN rfl,hpl,Sto.pvs_get hs]
  have hst:∀(x0 x1 x2:AObj) (X:Heap),zan (some 9) hp.length (hp++x0::x1::x2::.arr (some 9) (Sto.pvs p.cls) false::X) [.eptr (some 9) (hp.length+3) p.cls.length i 0,.pv (some 9) s.pv]=some (.undef,hp++x0::x1::x2::.arr (some 9) (Sto.pvs p.cls) false::X):=fun x0 x1 x2 X=>by
   have e:∀H,AV.freeze deep (.pv (some 9) s.pv) H=some (s.pv,H):=fun _=>rfl
   have e2:=zl5 (Sto.pvs_get hs)
   have hi:i<(Sto.pvs p.cls).length:=by omega
   simp[zan,astore,AV.shp,e,getN rfl,setN rfl,hpl,hi,h,e2]
  simp -dsimp -implicitDefEqProofs only[go_sem,seval,↓reduceIte,hcc,w1,hia,hld,hst,h3,zac (Nat.le_add_right _ _),List.append_assoc,zad,zaa,zae,zab,Nat.add_assoc,List.length_append]
  refine⟨(),?_⟩
  rw[zen 4 rfl rfl (by simp[hx1,AObj.refs,AV.refsIn,AV.refsIn.go]) (by simp[AV.refsIn])]
  rfl
 ·rintro - -
  have hcc:¬(p.cls.length:Int)<(p.cls.length:Int):=by omega
  have hup:∀(q:Nat),AV.upd deep (.pv (some 4) p.pv) 3 none (.sl (some 9) q p.cls.length 0 p.cls.length)=some (pA p q):=fun q=>rfl
  have hs1:∀x1 x2 x3:AObj,zan none hp.length (hp++[.box (some 4) (.pv (some 4) p.pv),x1,x2,x3]) [.ptr hp.length 3,.sl (some 9) (hp.length+3) p.cls.length 0 p.cls.length]=some (.undef,hp++[.box (some 4) (pA p (hp.length+3)),x1,x2,x3]):=fun x1 x2 x3=>by
   simp[zan,astore,zeT rfl,zeU rfl,AV.plain,AV.shp,AV.own,hup]
  have hs2:∀(x0 x2 x3:AObj) (v:AV),zan (some 4) hp.length (hp++[x0,.box (some 4) v,x2,x3]) [.ptr (hp.length+1) 0,pA p (hp.length+3)]=some (.undef,hp++[x0,.box (some 4) (pA p (hp.length+3)),x2,x3]):=fun x0 x2 x3 v=>by
   simp[zan,astore,getN rfl,setN rfl,pA,AV.plain,AV.shp,AV.own,zah,zaS,total,Sh.size]
  rw[hx1]
  simp -dsimp -implicitDefEqProofs only[go_sem,seval,↓reduceIte,hcc,hs1,hs2,List.append_assoc,zad,zaa,zae,zab,Nat.add_assoc,List.length_append]
  rw[if_neg (by simp[pA,AV.refsIn,AV.refsIn.go])]
end Go.Proofs.Ytligpohiokpnhaa
