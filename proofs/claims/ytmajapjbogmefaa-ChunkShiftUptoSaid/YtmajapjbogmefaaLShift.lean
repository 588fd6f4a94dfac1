/- What is proved: ChunkShift answers true for every flat clause and number, where what it reads is of bulk at most 1048576. -/
import Derived.Test.YtmajapjbogmefaaData3
set_option linter.unusedSimpArgs false
set_option linter.unusedVariables false
namespace Go.Proofs.Ytmajapjbogmefaa
open Go.Am Go.ChangeShapes Go.WideShapes Go.ChangeAt Go.RowKit
theorem zro(d:Int)(x:Fl)(hval:x.valid=true)(h:(zaj x).length<100000000):(flX d x).valid=true->(zaj (flX d x)).length<100000000:=fun hy=>by
 rw[zp9 hy,zfu,List.length_map]
 exact h
theorem zg5(x:Fl)(d:Int)(hx:x.pv.sz<=1048576):S 9 [x.av,.pv none (.int .i64 d)] []=some (.ret (.pv none (.bool true)),[]):=by
 have b1:=znF x
 have b2:=znI x
 have b3:=zpM x
 have b4:=fun g hg=>znH x (g:=g) hg
 have b5:(zaj x).length<=1048576:=by rw[<-znO,List.length_map] at b2;omega
 have h1:=zmq x
 have h2:=fun hp=>zb0 x hp (by omega) (fun g hg=>by have:=b4 g hg;omega) (by omega)
 have h3:=zmr
 by_cases hs:Fl.small x=true
 ·by_cases hv:x.valid=true
  ·by_cases c1:d<0
   ·refine zaL rfl rfl rfl (zaf [(some 5,x.pv),(none,.int .i64 d)]) rfl ?_
    rw[hs] at h1
    rw[hv] at h2
    simp only[Fl.av] at h1 h2
    simp -dsimp -implicitDefEqProofs only[go_sem,seval,↓reduceIte,h1,h2,h3,c1]
   ·by_cases c2:1073741824<d
    ·refine zaL rfl rfl rfl (zaf [(some 5,x.pv),(none,.int .i64 d)]) rfl ?_
     rw[hs] at h1
     rw[hv] at h2
     simp only[Fl.av] at h1 h2
     simp -dsimp -implicitDefEqProofs only[go_sem,seval,↓reduceIte,h1,h2,h3,c1,c2]
    ·refine zrB x d (by omega) (by omega) hv hs (by omega) (fun g hg=>by have:=b4 g hg;omega) (by omega) (by omega) (fun g hg=>by have:=b4 g hg;have:=Tm.zt8 g.args;omega) ?_ ?_ (zro d x hv (by omega))
     ·have:=zgV d x.args
      omega
     ·intro g hg
      obtain⟨u,hu,rfl⟩:=List.mem_map.1 hg
      have:=b4 u hu
      have:=zgV d u.args
      show Tm.sizes (u.args.map (shX d))<_
      omega
  ·refine zaL rfl rfl rfl (zaf [(some 5,x.pv),(none,.int .i64 d)]) rfl ?_
   have hv':x.valid=false:=by simpa using hv
   rw[hs] at h1
   rw[hv'] at h2
   simp only[Fl.av] at h1 h2
   simp -dsimp -implicitDefEqProofs only[go_sem,seval,↓reduceIte,h1,h2,h3]
 ·refine zaL rfl rfl rfl (zaf [(some 5,x.pv),(none,.int .i64 d)]) rfl ?_
  have hs':Fl.small x=false:=by simpa using hs
  rw[hs'] at h1
  simp only[Fl.av] at h1
  simp -dsimp -implicitDefEqProofs only[go_sem,seval,↓reduceIte,h1,h3]
set_option maxRecDepth 100000 in
theorem chunkShift_lifted(os:Os)(started:os.Started)(H:Type)(enc:TypeId × Value->H)(F:Stop.Interp):
  ReturnsInHanded {} Try.checked os 9 .any ((Rows.OpenSpec.upto Rows.chunkShiftSpec).pre6 enc Try.prog Try.f9 Rows.chunkShiftUptoRow.domain false) (((Rows.OpenSpec.upto Rows.chunkShiftSpec).at F).post enc Try.prog Try.f9 false true false false):=by
 refine returnsInHanded_of_cond (C:=Try.checked) (s:=(Rows.OpenSpec.upto Rows.chunkShiftSpec)) (k:=Rows.uptoSmall) rfl Try.own started (by kernel_rfl) Try.func9
  (OpenSpec.witness (enc:=enc) (C:=Try.checked) (s:=(Rows.OpenSpec.upto Rows.chunkShiftSpec)) (k:=Rows.uptoSmall) rfl false ⟨#[],#[.agg #[.string ⟨#[]⟩,.int .i64 0,.int .i64 0,.slice none 0 0,.slice none 0 0],.int .i64 0],[]⟩ 8 (by kernel_rfl) (by kernel_rfl) (by kernel_rfl)
   (x:=([.agg [.agg [.lit (.string []),.lit (.int .i64 0),.lit (.int .i64 0)],.nil,.nil],.lit (.int .i64 0)],[],[])) (by kernel_rfl) rfl (by kernel_rfl)) ?_
 intro W base args ds gs before hval0 hW _ hk _
 have hval:∀(j:Nat) t v,Try.f9.params[j]? =some t->args[j]? =some v->Value.okWide Try.prog W .any base t v:=hval0
 have hb:=znJ hk
 have hW':=hW
 obtain⟨p,q,hA0,hV,rfl,hfz,hnd⟩:=hW
 have hA:DataW.TrodAll enc Try.prog W 0 (fun _=>true) true Try.f9.params.toList args.toList ds p:=hA0
 rw[Try.params9] at hA hval
 clear hA0 hval0
 obtain⟨v0,vs0,d0,ds0,p0,q0,e0,rfl,rfl,h0,r0'⟩:=trodAll_cons hA
 obtain⟨v1,vs1,d1,ds1,p1,q1,e1,rfl,rfl,h1,r1'⟩:=trodAll_cons r0'
 obtain⟨e2,rfl,rfl⟩:=trodAll_nil r1'
 subst e2
 subst e1
 obtain rfl:args= #[v0,v1]:=by cases args;simp_all
 obtain⟨rfl,rfl⟩:=trodVars_none hV
 obtain⟨t0,a0,z0⟩:=zpR h0 (hval 0 _ v0 rfl rfl)
 obtain⟨t1,a1,r1⟩:=zrn h1 (hval 1 _ v1 rfl rfl)
 simp only[Rows.uptoBulkAll,List.append_nil] at hb
 exact zjX sound Try.func9 (by kernel_rfl) Try.zut (s:=Rows.chunkShiftSpec) rfl rfl hW' (.cons a0 (.cons a1 (.nil))) (zg5 t0 t1 (by omega))
theorem chunkShift_holds:Rows.ChunkShiftUptoSaid:=
 OpenClaim.holds_of_cond 9 Try.f9 rfl rfl rfl rfl rfl rfl rfl ⟨rfl,rfl,rfl,rfl,rfl⟩ rfl rfl rfl rfl rfl (by kernel_rfl) Try.func9 (by kernel_rfl)
  (of_decide_eq_true (by kernel_rfl)) (by unfold Func.isWrapper;first|(rw[if_pos (by decide+kernel)];kernel_rfl)|(rw[if_neg (by decide+kernel)];exact⟨rfl,rfl⟩))
  (fun os started H enc _ F=>chunkShift_lifted os started H enc F)
end Go.Proofs.Ytmajapjbogmefaa
