/- What is proved: InspectBetween answers true for every three numbers, where what it reads is of bulk at most 1048576. -/
import Derived.Test.YtiifblpdlphchaaGreatRRData3
set_option linter.unusedSimpArgs false
set_option linter.unusedVariables false
namespace Go.Proofs.YtiifblpdlphchaaGreatRR
open Go.Am Go.ChangeShapes Go.WideShapes Go.ChangeAt Go.RowKit
theorem call_btw'(lo hi m:Int):zqe (gBtw lo hi (tint m)) (sucL (decide (lo<=m) && decide (m<=hi)) (gBtw lo hi (tint m))) zt 0:=zoL lo hi m
theorem zju(lo hi m:Int)(hlo: -9223372036854775808<=lo/\lo<9223372036854775808)(hhi: -9223372036854775808<=hi/\hi<9223372036854775808):S 9 [.pv none (.int .i64 lo),.pv none (.int .i64 hi),.pv none (.int .i64 m)] []=some (.ret (.pv none (.bool true)),[]):=by
 refine zaq rfl rfl rfl (zac [(none,.int .i64 lo),(none,.int .i64 hi),(none,.int .i64 m)]) rfl ?_
 have h1:=n_ok
 have h2:=x_ok
 have hf1:∀hp,S 19 [.pv none (.str [98,101,116,119,101,101,110]),.tsl (some 4) [(tint lo).pv,(tint hi).pv,(tint m).pv]] hp=some (.ret (gBtw lo hi (tint m)).av,hp):=zq0 nBtw [tint lo,tint hi,tint m]
 have hf2:∀hp,S 19 [.pv none (.str [98,101,116,119,101,101,110]),.tsl (some 4) [(tint lo).pv,(tint hi).pv,(tvar 0).pv]] hp=some (.ret (gBtw lo hi (tvar 0)).av,hp):=zq0 nBtw [tint lo,tint hi,tvar 0]
 have hsu:=fun hp=>zjv (gBtw lo hi (tint m)) _ (zc6 lo hi m) (call_btw' lo hi m) (by unfold sucL;split <;> simp) hp
 have hsl:decide ((sucL (decide (lo<=m) && decide (m<=hi)) (gBtw lo hi (tint m))).length=1)=(decide (lo<=m) && decide (m<=hi)):=by
  cases (decide (lo<=m) && decide (m<=hi)) <;> rfl
 rw[hsl] at hsu
 have hc:=fun hp=>znt lo hi hlo hhi hp
 have haw:=zo3
 have hz:∀hp,_:=fun hp=>znC zt hp (by decide)
 rw[znD] at hz
 have hz0:zbg [(none,.pv none (.int .i64 0)),(none,.pv none (.int .i64 0)),(none,.pv none (.str [])),(none,.tsl (some 4) [])] [] []=some zV:=rfl
 simp only[Tm.av] at h1 h2 hf1 hf2 hsu hc hz
 have wu:lo<=hi->IntKind.u64.wrap (IntKind.u64.wrap hi - IntKind.u64.wrap lo)=hi - lo:=fun h=>by
  rw[IntKind.wrap_u64,IntKind.wrap_u64,IntKind.wrap_u64]
  omega
 obtain⟨g,hg⟩:∃g,g=gBtw lo hi (tvar 0):=⟨_,rfl⟩
 rw[<-hg] at hf2 hc
 have b1:(true == true)=true:=rfl
 have b2:(false == false)=true:=rfl
 have hsz:∀t:Tm,t.valid=true->t.size<1000000000:=fun t h=>by have:=valid_size h;omega
 have hR:btwR g lo hi=(if hi<lo then([],0) else if 1000<=hi - lo then([],2) else((List.range (hi - lo+1).toNat).map fun i:Nat=>gBtw lo hi (tint (lo+i)),0)):=by rw[hg];rfl
 by_cases hlm:lo<=m <;> by_cases hmh:m<=hi <;> simp only[hlm,hmh,decide_true,decide_false,Bool.and_true,Bool.and_false] at hsu
 all_goals
  by_cases hlh:lo<=hi
  ·have wu':=wu hlh
   rw[if_neg (by omega)] at hR
   by_cases hbig:1000<=hi - lo
   ·rw[if_pos hbig] at hR
    rw[hR] at hc
    simp -dsimp -implicitDefEqProofs only[go_sem,seval,↓reduceIte,Tm.av,h1,h2,hf1,hf2,hsu,hc,hz,hz0,hlm,hmh,hlh,wu',hbig,haw,b1,b2,Tm.pvs_len,zag (Nat.zero_le _)]
   ·rw[if_neg hbig] at hR
    obtain⟨N,hN⟩:∃N,N=(hi - lo+1).toNat:=⟨_,rfl⟩
    have hN1:N<=1000:=by omega
    have w1:IntKind.i64.wrap (IntKind.i64.wrap (hi - lo)+1)=(N:Int):=by
     rw[za5 (x:=hi - lo) (by omega) (by omega),za5 (by omega) (by omega)]
     omega
    obtain⟨F,hF⟩:∃F:Nat->Tm,F=fun i:Nat=>gBtw lo hi (tint (lo+i)):=⟨_,rfl⟩
    have hfl:((List.range N).map F).length=N:=by simp
    have hfg:∀i,i<N->((List.range N).map F)[i]? =some (gBtw lo hi (tint (lo+i))):=fun i h=>by simp[h,hF]
    rw[<-hN,<-hF] at hR
    generalize (List.range N).map F=ts at hR hfl hfg
    rw[hR] at hc
    simp -dsimp -implicitDefEqProofs only[go_sem,seval,↓reduceIte,Tm.av,h1,h2,hf1,hf2,hsu,hc,hz,hz0,hlm,hmh,hlh,wu',w1,hbig,hfl,haw,b1,b2,Tm.pvs_len,zag (Nat.zero_le _)]
    refine zg0 (α:=Unit) N (fun _ _=>True) (fun i _=>⟨[(0,.pv none (.int .i64 lo)),(1,.pv none (.int .i64 hi)),(9,.pv none (.sl (some 4) (Tm.pvs ts))),(98,.pv none (.int .i64 N)),(99,.pv none (.int .i64 i))],[.box (some 4) (.pv (some 4) zt.pv),.arr (some 4) [] false]⟩) () ⟨trivial,rfl⟩ ?_ ?_
    ·rintro i - h -
     have hc:(i:Int)<(N:Int):=by omega
     have w2:IntKind.i64.wrap ((i:Int)+1)=((i+1:Nat):Int):=by rw[za5 (by omega) (by omega)];omega
     have w3:IntKind.i64.wrap (lo+i)=lo+i:=za5 (by omega) (by omega)
     have hv:=zc6 lo hi (lo+i)
     have hf4:∀hp,S 19 [.pv none (.str [98,101,116,119,101,101,110]),.pv none (.sl (some 4) [(tint lo).pv,(tint hi).pv,(tint (lo+i)).pv])] hp=some (.ret (gBtw lo hi (tint (lo+i))).av,hp):=f_ok nBtw [tint lo,tint hi,tint (lo+i)]
     have hsm:=fun hp=>zkg _ _ hp (hsz _ hv) (hsz _ hv)
     rw[zgh hv] at hsm
     have hge:=Tm.pvs_get (hfg i h)
     generalize gBtw lo hi (tint (lo+i))=gi at hf4 hsm hge
     simp only[Tm.av] at hf4 hsm
     simp -dsimp -implicitDefEqProofs only[go_sem,seval,↓reduceIte,Tm.av,h1,hf4,hsm,hc,w2,w3,zat hge]
     exact⟨(),trivial⟩
    ·rintro - -
     have hc:¬(N:Int)<(N:Int):=by omega
     simp -dsimp -implicitDefEqProofs only[go_sem,seval,↓reduceIte,hc,haw]
  ·rw[if_pos (by omega)] at hR
   rw[hR] at hc
   simp -dsimp -implicitDefEqProofs only[go_sem,seval,↓reduceIte,Tm.av,h1,h2,hf1,hf2,hsu,hc,hz,hz0,hlm,hmh,hlh,haw,b1,b2,Tm.pvs_len,zag (Nat.zero_le _)]
   refine zg0 (α:=Unit) 0 (fun _ _=>True) (fun i _=>⟨[(0,.pv none (.int .i64 lo)),(1,.pv none (.int .i64 hi)),(9,.pv none (.sl (some 4) (Tm.pvs []))),(98,.pv none (.int .i64 0)),(99,.pv none (.int .i64 i))],[.box (some 4) (.pv (some 4) zt.pv),.arr (some 4) [] false]⟩) () ⟨trivial,rfl⟩ ?_ ?_
   ·rintro i - h -
    omega
   ·rintro - -
    have hc:¬((0:Nat):Int)<(0:Int):=by decide
    simp -dsimp -implicitDefEqProofs only[go_sem,seval,↓reduceIte,hc,haw]
set_option maxRecDepth 100000 in
theorem inspectBetween_lifted(os:Os)(started:os.Started)(H:Type)(enc:TypeId × Value->H)(F:Stop.Interp):
  ReturnsInHanded {} Tryz.checked os 9 .any ((Rows.OpenSpec.upto Rows.inspectBetweenSpec).pre6 enc Tryz.prog Tryz.f9 Rows.inspectBetweenUptoRow.domain false) (((Rows.OpenSpec.upto Rows.inspectBetweenSpec).at F).post enc Tryz.prog Tryz.f9 false true false false):=by
 refine returnsInHanded_of_cond (C:=Tryz.checked) (s:=(Rows.OpenSpec.upto Rows.inspectBetweenSpec)) (k:=Rows.uptoSmall) rfl Tryz.own started (by kernel_rfl) Tryz.func9
  (OpenSpec.witness (enc:=enc) (C:=Tryz.checked) (s:=(Rows.OpenSpec.upto Rows.inspectBetweenSpec)) (k:=Rows.uptoSmall) rfl false ⟨#[],#[.int .i64 0,.int .i64 0,.int .i64 0],[]⟩ 8 (by kernel_rfl) (by kernel_rfl) (by kernel_rfl)
   (x:=([.lit (.int .i64 0),.lit (.int .i64 0),.lit (.int .i64 0)],[],[])) (by kernel_rfl) rfl (by kernel_rfl)) ?_
 intro W base args ds gs before hval0 hW _ hk _
 have hval:∀(j:Nat) t v,Tryz.f9.params[j]? =some t->args[j]? =some v->Value.okWide Tryz.prog W .any base t v:=hval0
 have hb:=zlt hk
 have hW':=hW
 obtain⟨p,q,hA0,hV,rfl,hfz,hnd⟩:=hW
 have hA:DataW.TrodAll enc Tryz.prog W 0 (fun _=>true) true Tryz.f9.params.toList args.toList ds p:=hA0
 rw[Tryz.params9] at hA hval
 clear hA0 hval0
 obtain⟨v0,vs0,d0,ds0,p0,q0,e0,rfl,rfl,h0,r0'⟩:=trodAll_cons hA
 obtain⟨v1,vs1,d1,ds1,p1,q1,e1,rfl,rfl,h1,r1'⟩:=trodAll_cons r0'
 obtain⟨v2,vs2,d2,ds2,p2,q2,e2,rfl,rfl,h2,r2'⟩:=trodAll_cons r1'
 obtain⟨e3,rfl,rfl⟩:=trodAll_nil r2'
 subst e3
 subst e2
 subst e1
 obtain rfl:args= #[v0,v1,v2]:=by cases args;simp_all
 obtain⟨rfl,rfl⟩:=trodVars_none hV
 obtain⟨t0,a0,r0⟩:=zg4 h0 (hval 0 _ v0 rfl rfl)
 obtain⟨t1,a1,r1⟩:=zg4 h1 (hval 1 _ v1 rfl rfl)
 obtain⟨t2,a2,r2⟩:=zg4 h2 (hval 2 _ v2 rfl rfl)
 simp only[Rows.uptoBulkAll,List.append_nil] at hb
 exact zhV sound Tryz.func9 (by kernel_rfl) Tryz.zrW (s:=Rows.inspectBetweenSpec) rfl rfl hW' (.cons a0 (.cons a1 (.cons a2 (.nil)))) (zju t0 t1 t2 (by unfold zib at r0;omega) (by unfold zib at r1;omega))
theorem inspectBetween_holds:Rows.InspectBetweenUptoSaid:=
 OpenClaim.holds_of_cond 9 Tryz.f9 rfl rfl rfl rfl rfl rfl rfl ⟨rfl,rfl,rfl,rfl,rfl⟩ rfl rfl rfl rfl rfl (by kernel_rfl) Tryz.func9 (by kernel_rfl)
  (of_decide_eq_true (by kernel_rfl)) (by unfold Func.isWrapper;first|(rw[if_pos (by decide+kernel)];kernel_rfl)|(rw[if_neg (by decide+kernel)];exact⟨rfl,rfl⟩))
  (fun os started H enc _ F=>inspectBetween_lifted os started H enc F)
end Go.Proofs.YtiifblpdlphchaaGreatRR
