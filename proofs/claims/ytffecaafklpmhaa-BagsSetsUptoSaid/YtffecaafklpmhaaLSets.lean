/- What is proved: BagsSets answers true for all terms of at most 1048576 nodes together. -/
import Derived.Test.YtffecaafklpmhaaData
set_option linter.unusedSimpArgs false
set_option linter.unusedVariables false
namespace Go.Proofs.Ytffecaafklpmhaa
open Go.Am Go.ChangeShapes Go.WideShapes Go.ChangeAt Go.RowKit
theorem zl9(nm:List UInt8)(a b c:Tm)(h:a.size+b.size+c.size<100000000)(hp:Heap):S 8 [.pv none (.str nm),.pv none (.sl (some 4) [a.pv,b.pv,c.pv])] hp=some (.ret (zco nm a b c).av,hp):=by
 refine zam rfl rfl rfl (zab [(none,.str nm),(none,.sl (some 4) [a.pv,b.pv,c.pv])]) rfl ?_
 have hb:zaP [(none,.pv none (.int .i64 0)),(none,.pv none (.int .i64 0)),(none,.pv none (.str [])),(none,.tsl (some 4) [])] [0,2,3] [.pv none (.int .i64 3),.pv none (.str nm),.pv none (.sl (some 4) [a.pv,b.pv,c.pv])]=some (.pv (some 4) (bG nm [a,b,c]).pv):=rfl
 have hs:(bG nm [a,b,c]).size=1+(a.size+(b.size+c.size)):=by
  show 1+(a.size+(b.size+(c.size+0)))=_
  omega
 have hcl:=fun hp=>zoI (bG nm [a,b,c]) hp (by omega)
 have hne:¬(3:Int)=0:=by omega
 unfold zco
 simp only[Tm.av] at hcl
 simp -dsimp -implicitDefEqProofs only[go_sem,seval,↓reduceIte,Tm.av,hb,hcl,hne]
 try rfl
theorem zkO(nm:List UInt8)(a b c:Tm)(h:a.size+b.size+c.size<100000000)(H:Heap):S 8 [.pv none (.str nm),.tsl (some 4) [a.pv,b.pv,c.pv]] H=some (.ret (zco nm a b c).av,H):=by
 have:=zb7 (F:=find tab) (prim:=prim) (f:=8) (args:=[.pv none (.str nm),.tsl (some 4) [a.pv,b.pv,c.pv]]) (ps:=[(none,.str nm),(none,.sl (some 4) [a.pv,b.pv,c.pv])]) (hp:=H) (hp1:=H) rfl rfl rfl rfl (zl9 nm a b c h [])
 have hs:∀t:Tm,t.av.scalar=false:=fun t=>by cases t;rfl
 rw[hs] at this
 exact this
theorem zvs{H:Heap}{q N:Nat}{l:List Tm}{p:PV}(h:H[q]? =some (.arr (some 4) (packed N l) false))(hl:l.length<=N):zal [.sl (some 4) q N 0 l.length,.pv none p] H=some ([(none,.sl (some 4) (Tm.pvs l)),(none,p)],H.set q (.arr (some 4) (packed N l) true)):=by
 have h1:(packed N l).length=N:=by unfold packed;simp[Tm.pvs_len];omega
 have h2:(packed N l).take l.length=Tm.pvs l:=by
  unfold packed
  rw[List.take_append_of_le_length (by rw[Tm.pvs_len];exact Nat.le_refl _),List.take_of_length_le (by rw[Tm.pvs_len];exact Nat.le_refl _)]
 simp[zal,AV.freeze,deep,AV.shp,h,h1,h2,hl]
 by_cases e:l.length=N
 ·have h3:packed N l=Tm.pvs l:=by rw[<-h2,e,List.take_of_length_le (by omega)]
  rw[if_pos e,h3]
 ·rw[if_neg e]
theorem zoC(b:Tm)(hv:b.valid=true)(hp:Heap):S 10 [b.av,b.av] hp=some (.ret (.pv none (.bool true)),hp):=by
 refine zam rfl rfl rfl (zab [(some 4,b.pv),(some 4,b.pv)]) rfl ?_
 have hs:=valid_size hv
 have h1:=fun hp=>znd b b hp (by omega) (by omega)
 rw[zdR hv] at h1
 simp only[Tm.av] at h1
 simp -dsimp -implicitDefEqProofs only[go_sem,seval,↓reduceIte,h1]
set_option maxRecDepth 10000 in
set_option maxHeartbeats 4000000 in
theorem zs7(w s l:Tm)(hw:w.size<=1048576)(hs:s.size<=1048576)(hl:l.size<=1048576):S 3 [w.av,s.av,l.av] []=some (.ret (.pv none (.bool true)),[]):=by
 refine zam rfl rfl rfl (zab [(some 4,w.pv),(some 4,s.pv),(some 4,l.pv)]) rfl ?_
 have haw:∀hp,S 9 [] hp=some (.ret (.pv none (.bool true)),hp):=fun hp=>zb7 (F:=find tab) (prim:=prim) (f:=9) (args:=[]) (ps:=[]) (hp:=hp) (hp1:=hp) rfl rfl rfl rfl sem9
 have h1:=fun hp=>zkO bagN w s l (by omega) hp
 have h2:=fun hp=>zkO setN w s l (by omega) hp
 have hbN:bagN=[36,98,97,103]:=rfl
 have hsN:setN=[36,115,101,116]:=rfl
 have z1:(zco bagN w s l).size<=2000:=by unfold zco;split;exact valid_size (by assumption);decide
 have z2:(zco setN w s l).size<=2000:=by unfold zco;split;exact valid_size (by assumption);decide
 have h3:=fun hp=>ze2 (zco bagN w s l) hp (by omega)
 have h4:=fun hp=>ze2 (zco setN w s l) hp (by omega)
 have c1:=zis bagN w s l
 have c2:=zis setN w s l
 have h5:=fun hp=>zmV (canR (zco bagN w s l)) (by omega) hp
 have h6:=fun hp=>zmV (canR (zco setN w s l)) (by omega) hp
 have hpl:=zoO w s l
 simp only[Tm.av] at h1 h2 h3 h4 h5 h6
 generalize zcP (canR (zco bagN w s l))=R1 at*
 generalize zcP (canR (zco setN w s l))=R2 at*
 obtain⟨a,b,e⟩:=R1
 obtain⟨c,d,f⟩:=R2
 dsimp only at h5 h6 hpl
 generalize canR (zco bagN w s l)=K1 at*
 generalize canR (zco setN w s l)=K2 at*
 generalize zco bagN w s l=T1 at*
 generalize zco setN w s l=T2 at*
 rw[hbN] at h1
 rw[hsN] at h2
 by_cases he:e=2
 ·simp -dsimp -implicitDefEqProofs only[go_sem,seval,↓reduceIte,Tm.av,h1,h2,h3,h4,h5,h6,eq_true he,haw]
 by_cases hf:f=2
 ·simp -dsimp -implicitDefEqProofs only[go_sem,seval,↓reduceIte,Tm.av,h1,h2,h3,h4,h5,h6,eq_false he,eq_true hf,haw]
 obtain⟨u,G,hG⟩:=(hpl.resolve_left he).resolve_left hf
 clear hpl
 obtain⟨gr,e1,e2,e3,hball,hlen⟩:=hG
 dsimp only at e1 e2 e3 hball
 obtain⟨rfl,rfl⟩:=Prod.mk.inj e3
 have h7:=fun hp=>zoC b hball hp
 simp only[Tm.av] at h7
 have hl12:a.length=c.length:=by rw[e1,e2,List.length_map,List.length_map]
 have hl12':=eq_true (show(a.length:Int)=(c.length:Int) by rw[hl12])
 have hal:a.length=G.length:=by rw[e1,List.length_map]
 simp -dsimp -implicitDefEqProofs only[go_sem,seval,↓reduceIte,Tm.av,Tm.pvs_len,h1,h2,h3,h4,h5,h6,h7,eq_false he,eq_false hf,hl12',haw]
 refine zcK (α:=Unit) G.length (fun _ _=>True) (fun i _=>⟨[(7,.pv none (.sl (some 4) (Tm.pvs a))),(10,.pv none (.sl (some 4) (Tm.pvs c))),(13,.pv none (.int .i64 i))],[.box (some 4) (.pv (some 4) w.pv),.box (some 4) (.pv (some 4) s.pv),.box (some 4) (.pv (some 4) l.pv),.box (some 4) (.pv (some 4) b.pv),.arr (some 4) [] false,.box (some 4) (.pv (some 4) b.pv),.arr (some 4) [] false]⟩) () ⟨trivial,rfl⟩ ?_ ?_
 ·rintro i - hi -
  have hc:(i:Int)<(a.length:Int):=by omega
  obtain⟨g,hg⟩:∃g,G[i]? =some g:=⟨_,List.getElem?_eq_getElem hi⟩
  obtain⟨hgo,va,vc⟩:=gr g (List.mem_of_getElem? hg)
  have ha:a[i]? =some (ansT bagN u g):=by rw[e1,List.getElem?_map,hg];rfl
  have hc2:c[i]? =some (ansT setN u g):=by rw[e2,List.getElem?_map,hg];rfl
  obtain⟨x,hx⟩:∃x,x=els (zbk g):=⟨_,rfl⟩
  have hiv:=zil hgo.pr hgo.val
  have hxv:zaL x=true:=by rw[hx];exact List.all_eq_true.2 fun y hy=>elsv _ _ rfl hiv y hy
  have hxs:Tm.sizes x<=2000:=by rw[hx];exact Nat.le_trans (zhc _ _ rfl) (valid_size hiv)
  have aa:(ansT bagN u g).args=[zao g,u,lst x]:=by rw[hx];rfl
  have ac:(ansT setN u g).args=[zao g,u,lst (zfC x)]:=by rw[hx];rfl
  have na:(ansT bagN u g).name=[36,98,97,103]:=rfl
  have nc:(ansT setN u g).name=[36,115,101,116]:=rfl
  have lx:(lst x).valid=true:=zaJ va (by rw[aa];simp)
  have ly:(lst (zfC x)).valid=true:=zaJ vc (by rw[ac];simp)
  have ku:(zao g).valid=true:=zaJ va (by rw[aa];simp)
  have uu:u.valid=true:=zaJ va (by rw[aa];simp)
  generalize ansT bagN u g=ga at*
  generalize ansT setN u g=gc at*
  have q7:=zac (sh:=some 4) (s:=none) (s':=none) (k:=.i64) (Tm.pvs_get ha)
  have q10:=zac (sh:=some 4) (s:=none) (s':=none) (k:=.i64) (Tm.pvs_get hc2)
  have ca:((ga.args.length:Nat):Int)=3:=by rw[aa];rfl
  have cc:((gc.args.length:Nat):Int)=3:=by rw[ac];rfl
  have a0:(Tm.pvs ga.args)[0]? =some (zao g).pv:=by rw[aa];rfl
  have a1:(Tm.pvs ga.args)[1]? =some u.pv:=by rw[aa];rfl
  have a2:(Tm.pvs ga.args)[2]? =some (lst x).pv:=by rw[aa];rfl
  have b0:(Tm.pvs gc.args)[0]? =some (zao g).pv:=by rw[ac];rfl
  have b1:(Tm.pvs gc.args)[1]? =some u.pv:=by rw[ac];rfl
  have b2:(Tm.pvs gc.args)[2]? =some (lst (zfC x)).pv:=by rw[ac];rfl
  have ea1:=zac (sh:=some 4) (s:=none) (s':=none) (k:=.i64) a1
  have ea2:=zac (sh:=some 4) (s:=none) (s':=none) (k:=.i64) a2
  have eb1:=zac (sh:=some 4) (s:=none) (s':=none) (k:=.i64) b1
  have eb2:=zac (sh:=some 4) (s:=none) (s':=none) (k:=.i64) b2
  simp only[show((1:Nat):Int)=1 from rfl,show((2:Nat):Int)=2 from rfl] at ea1 ea2 eb1 eb2
  have hel:=fun hp=>zhj (lst x) lx hp
  have hel2:=fun hp=>zhj (lst (zfC x)) ly hp
  rw[zrr] at hel hel2
  have hst:=fun H=>zrw (.pv none (.sl (some 4) (Tm.pvs x))) H x (zrx _ _) (by omega)
  simp only[hxv,if_true] at hst
  have s1:=valid_size ku
  have s2:=valid_size uu
  have m1:=fun hp=>zjl (zao g) (zao g) hp (by omega) (by omega)
  have m2:=fun hp=>zjl u u hp (by omega) (by omega)
  rw[zdR ku] at m1
  rw[zdR uu] at m2
  simp only[Tm.av] at hel hel2 m1 m2
  have hyl:(dd (isort Tm.cmp x)).length<=x.length:=by
   have:=zeY (isort Tm.cmp x)
   rwa [zaw] at this
  have hyv:∀t∈zfC x,t.valid=true:=fun t ht=>zbl hxv ((zbv x).mem_iff.1 (mem_dd.1 ht))
  have hxl:=Tm.zwj x
  have hSA:=fun a0 a1 a2 a3 a4 a5 a6 a7 a8 a9 a10 a11 X=>zb7 rfl rfl rfl (zvs (H:=a0::a1::a2::a3::a4::a5::a6::a7::a8::a9::a10::a11::.arr (some 4) (packed x.length (dd (isort Tm.cmp x))) false::X) (q:=12) (p:=.sl (some 4) (Tm.pvs (zfC x))) rfl hyl) (zkK (zfC x) hyv (by unfold zfC;omega))
  have e9:(AV.pv none (.bool true)).scalar=true:=rfl
  simp only[e9,cond_true] at hSA
  have w2:IntKind.i64.wrap ((i:Int)+1)=((i+1:Nat):Int):=by rw[zaq (by omega) (by omega)];omega
  simp -dsimp -implicitDefEqProofs only[go_sem,seval,↓reduceIte,hc,Tm.pvs_len,q7,q10,zad,zan,na,nc,ca,cc,zaR a0,zaR b0,ea1,ea2,eb1,eb2,hel,hel2,hst,m1,m2,hSA,w2]
  refine⟨(),?_⟩
  rw[zc3 (by simp[AObj.refs,AV.refsIn]) (by simp[AV.refsIn])]
  rfl
 ·rintro - -
  have hc:¬(G.length:Int)<(a.length:Int):=by omega
  simp -dsimp -implicitDefEqProofs only[go_sem,seval,↓reduceIte,hc,Tm.pvs_len,haw]
set_option maxRecDepth 100000 in
theorem bagsSets_lifted(os:Os)(started:os.Started)(H:Type)(enc:TypeId × Value->H)(F:Stop.Interp):
  ReturnsInHanded {} Try.checked os 3 .any ((Rows.OpenSpec.upto Rows.bagsSetsSpec).pre6 enc Try.prog Try.f3 Rows.bagsSetsUptoRow.domain false) (((Rows.OpenSpec.upto Rows.bagsSetsSpec).at F).post enc Try.prog Try.f3 false true false false):=by
 refine returnsInHanded_of_cond (C:=Try.checked) (s:=(Rows.OpenSpec.upto Rows.bagsSetsSpec)) (k:=Rows.uptoSmall) rfl Try.own started (by kernel_rfl) Try.func3
  (OpenSpec.witness (enc:=enc) (C:=Try.checked) (s:=(Rows.OpenSpec.upto Rows.bagsSetsSpec)) (k:=Rows.uptoSmall) rfl false ⟨#[],#[.agg #[.int .i64 0,.int .i64 0,.string ⟨#[]⟩,.slice none 0 0],.agg #[.int .i64 0,.int .i64 0,.string ⟨#[]⟩,.slice none 0 0],.agg #[.int .i64 0,.int .i64 0,.string ⟨#[]⟩,.slice none 0 0]],[]⟩ 8 (by kernel_rfl) (by kernel_rfl) (by kernel_rfl)
   (x:=([.agg [.lit (.int .i64 0),.lit (.int .i64 0),.lit (.string []),.nil],.agg [.lit (.int .i64 0),.lit (.int .i64 0),.lit (.string []),.nil],.agg [.lit (.int .i64 0),.lit (.int .i64 0),.lit (.string []),.nil]],[],[])) (by kernel_rfl) rfl (by kernel_rfl)) ?_
 intro W base args ds gs before hval0 hW _ hk _
 have hval:∀(j:Nat) t v,Try.f3.params[j]? =some t->args[j]? =some v->Value.okWide Try.prog W .any base t v:=hval0
 have hb:=zov hk
 have hW':=hW
 obtain⟨p,q,hA0,hV,rfl,hfz,hnd⟩:=hW
 have hA:DataW.TrodAll enc Try.prog W 0 (fun _=>true) true Try.f3.params.toList args.toList ds p:=hA0
 rw[Try.params3] at hA hval
 clear hA0 hval0
 obtain⟨v0,vs0,d0,ds0,p0,q0,e0,rfl,rfl,h0,r0'⟩:=trodAll_cons hA
 obtain⟨v1,vs1,d1,ds1,p1,q1,e1,rfl,rfl,h1,r1'⟩:=trodAll_cons r0'
 obtain⟨v2,vs2,d2,ds2,p2,q2,e2,rfl,rfl,h2,r2'⟩:=trodAll_cons r1'
 obtain⟨e3,rfl,rfl⟩:=trodAll_nil r2'
 subst e3
 subst e2
 subst e1
 obtain rfl:args= #[v0,v1,v2]:=by cases args;simp_all
 obtain⟨rfl,rfl⟩:=trodVars_none hV
 obtain⟨t0,a0,z0,r0⟩:=zhi h0 (hval 0 _ v0 rfl rfl)
 obtain⟨t1,a1,z1,r1⟩:=zhi h1 (hval 1 _ v1 rfl rfl)
 obtain⟨t2,a2,z2,r2⟩:=zhi h2 (hval 2 _ v2 rfl rfl)
 simp only[Rows.uptoBulkAll,List.append_nil] at hb
 exact zkh sound Try.func3 (by kernel_rfl) Try.zwT (s:=Rows.bagsSetsSpec) rfl rfl hW' (.cons a0 (.cons a1 (.cons a2 (.nil)))) (zs7 t0 t1 t2 (by omega) (by omega) (by omega))
theorem bagsSets_holds:Rows.BagsSetsUptoSaid:=
 OpenClaim.holds_of_cond 3 Try.f3 rfl rfl rfl rfl rfl rfl rfl ⟨rfl,rfl,rfl,rfl,rfl⟩ rfl rfl rfl rfl rfl (by kernel_rfl) Try.func3 (by kernel_rfl)
  (of_decide_eq_true (by kernel_rfl)) (by unfold Func.isWrapper;first|(rw[if_pos (by decide+kernel)];kernel_rfl)|(rw[if_neg (by decide+kernel)];exact⟨rfl,rfl⟩))
  (fun os started H enc _ F=>bagsSets_lifted os started H enc F)
end Go.Proofs.Ytffecaafklpmhaa
