/- What is proved: DbcallsStays answers true for every database and goal, where what it reads is of bulk at most 1048576, and strings.asciiSpace and unicode.White_Space hold what the program's text lays in them. -/
import Derived.Test.YtgedfopkiebjkaaGreatDoorRdx
import Derived.Test.YtgedfopkiebjkaaGreatDoorLsy
set_option linter.unusedSimpArgs false
set_option linter.unusedVariables false
set_option maxRecDepth 20000
namespace Go.Proofs.YtgedfopkiebjkaaGreatDoor
open Go.Am Go.ChangeShapes Go.WideShapes Go.ChangeAt Go.RowKit
theorem Pl(os:Os){H:Type}(enc:TypeId × Value->H):∃places,DataW.whole enc Tryz.prog ((VR os).forCall (fun _ _=>0) ⟨#[],#[.agg #[.int .i64 0,.slice none 0 0],.agg #[.int .i64 0,.int .i64 0,.string ⟨#[]⟩,.slice none 0 0]],[]⟩).memory Tryz.f5.params.toList Rows.dbcallsStaysSpec.vars false (#[.agg #[.int .i64 0,.slice none 0 0],.agg #[.int .i64 0,.int .i64 0,.string ⟨#[]⟩,.slice none 0 0]]:Array Value).toList 8=some ([.agg [.lit (.int .i64 0),.nil],.agg [.lit (.int .i64 0),.lit (.int .i64 0),.lit (.string []),.nil]],[],places):=⟨[],by kernel_rfl⟩
set_option maxRecDepth 100000 in
theorem dbcallsStays_lifted(os:Os)(started:os.Started)(H:Type)(enc:TypeId × Value->H)(F:Stop.Interp):
  ReturnsInHanded {} Tryz.checked os 5 .any ((Rows.OpenSpec.upto Rows.dbcallsStaysSpec).preRow enc Tryz.prog Tryz.f5 Rows.dbcallsStaysUptoRow.domain false Rows.dbcallsStaysUptoRow.laid) (((Rows.OpenSpec.upto Rows.dbcallsStaysSpec).at F).post enc Tryz.prog Tryz.f5 false true false false):=by
 obtain⟨places,hx⟩:=Pl os enc;refine returnsInHanded_of_row (C:=Tryz.checked) (s:=(Rows.OpenSpec.upto Rows.dbcallsStaysSpec)) Tryz.own started (by kernel_rfl) Tryz.func5
  (witness_row_atRef (enc:=enc) (C:=Tryz.checked) false (VR os) #[.agg #[.int .i64 0,.slice none 0 0],.agg #[.int .i64 0,.int .i64 0,.string ⟨#[]⟩,.slice none 0 0]] (World.laidAll_os _ _ _) (by kernel_rfl) (by kernel_rfl) (by kernel_rfl)
   (OpenSpec.preRow_of_cond 8 hx (by kernel_rfl) (fun k hk=>by cases hk;kernel_rfl) (by kernel_rfl) (NZ os _))) ?_
 intro W base args ds gs before hval0 hW _ hcond _ hL _ _;have hk:Rows.uptoSmall H (ds++gs)=true:=hcond _ rfl;have hval:∀(j:Nat) t v,Tryz.f5.params[j]? =some t->args[j]? =some v->Value.okWide Tryz.prog W .any base t v:=hval0;have hb:=mM hk;have hW':=hW;obtain⟨p,q,hA0,hV,rfl,hfz,hnd⟩:=hW;have hA:DataW.TrodAll enc Tryz.prog W 0 (fun _=>true) true Tryz.f5.params.toList args.toList ds p:=hA0;rw[Tryz.params5] at hA hval;clear hA0 hval0;obtain⟨v0,vs0,d0,ds0,p0,q0,e0,rfl,rfl,h0,r0'⟩:=trodAll_cons hA;obtain⟨v1,vs1,d1,ds1,p1,q1,e1,rfl,rfl,h1,r1'⟩:=trodAll_cons r0';obtain⟨e2,rfl,rfl⟩:=trodAll_nil r1';subst e2;subst e1;obtain rfl:args= #[v0,v1]:=by cases args;simp_all
 obtain⟨rfl,rfl⟩:=trodVars_none hV;obtain⟨t0,a0,z0⟩:=NY h0 (hval 0 _ v0 rfl rfl);obtain⟨t1,a1,z1,r1⟩:=mO h1 (hval 1 _ v1 rfl rfl);simp only[Rows.uptoBulkAll,ZL] at hb;exact Hl sound Tryz.func5 (by kernel_rfl) Tryz.zBg (s:=Rows.dbcallsStaysSpec) rfl rfl hW' (.cons a0 (.cons a1 (.nil))) (Pk t0 (NX (by omega)) t1 (by omega)) (N3 hL)
theorem Pm:Rows.DbcallsStaysUptoSaid:=
 OpenClaim.holds_of_cond 5 Tryz.f5 rfl rfl rfl rfl rfl rfl rfl ⟨rfl,rfl,rfl,rfl,rfl⟩ rfl rfl rfl rfl rfl (by kernel_rfl) Tryz.func5 (by kernel_rfl)
  (zj (by kernel_rfl)) (by unfold Func.isWrapper;first|(rw[Zj (by decide+kernel)];kernel_rfl)|(rw[Zb (by decide+kernel)];exact⟨rfl,rfl⟩))
  (fun os started H enc _ F=>by rw[OpenClaim.pre_eq_preRow];exact dbcallsStays_lifted os started H enc F)
theorem Pn(f:FuncId)(fn:Func)(hf:Tryz.pinned.checked.prog.funcNamed Rows.dbcallsStaysUptoRow.func=some f)(hfn:Tryz.pinned.checked.prog.funcs[f]? =some fn):
  true=Tryz.pinned.checked.prog.looks []/\∀(j:Nat) t,fn.params[j]? =some t->Tryz.pinned.checked.prog.wantsStandIn t=false:=by
 obtain rfl:f=5:=Option.some.inj ((show Tryz.prog.funcNamed Rows.dbcallsStaysUptoRow.func=some 5 by kernel_rfl).symm.trans hf) |>.symm
 obtain rfl:fn=Tryz.f5:=(Option.some.inj (Tryz.func5.symm.trans hfn)).symm;refine⟨by kernel_rfl,fun j t ht=> ?_⟩;have h:Tryz.f5.params.toList.all (fun t=> !Tryz.prog.wantsStandIn t)=true:=by kernel_rfl
 have h2:=Zr.1 h t (by simpa using ZH ht);have h3:Tryz.prog.wantsStandIn t=false:=by simpa using h2
 exact h3
theorem dbcallsStays_holds:Rows.DbcallsStaysUptoCardSaid:=
 Claim7.holds_tied_plain_at .later [] _ _ _ _ Pm (fun _ h=>by cases h) (by kernel_rfl) (fun _ h=>by cases h) dbcallsStaysUpto_row_tie rfl ⟨rfl,rfl⟩ (by kernel_rfl) rfl Pn (by kernel_rfl)
end Go.Proofs.YtgedfopkiebjkaaGreatDoor
