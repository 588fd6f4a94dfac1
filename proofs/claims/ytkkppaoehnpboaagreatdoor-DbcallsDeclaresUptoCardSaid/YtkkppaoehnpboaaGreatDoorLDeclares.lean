/- What is proved: DbcallsDeclares answers true for every database, names and numbers, where what it reads is of bulk at most 1048576, and strings.asciiSpace and unicode.White_Space hold what the program's text lays in them. -/
import Derived.Test.YtkkppaoehnpboaaGreatDoorLaid
set_option linter.unusedSimpArgs false
set_option linter.unusedVariables false
namespace Go.Proofs.YtkkppaoehnpboaaGreatDoor
open Go.Am Go.ChangeShapes Go.WideShapes Go.ChangeAt Go.RowKit
theorem nD(os:Os){H:Type}(enc:TypeId × Value->H):∃places,DataW.whole enc Tryz.prog ((VQ os).forCall (fun _ _=>0) ⟨#[],#[.agg #[.int .i64 0,.slice none 0 0],.slice none 0 0,.slice none 0 0],[]⟩).memory Tryz.f3.params.toList Rows.dbcallsDeclaresSpec.vars false (#[.agg #[.int .i64 0,.slice none 0 0],.slice none 0 0,.slice none 0 0]:Array Value).toList 8=some ([.agg [.lit (.int .i64 0),.nil],.nil,.nil],[],places):=⟨[],by kernel_rfl⟩
set_option maxRecDepth 100000 in
theorem dbcallsDeclares_lifted(os:Os)(started:os.Started)(H:Type)(enc:TypeId × Value->H)(F:Stop.Interp):
  ReturnsInHanded {} Tryz.checked os 3 .any ((Rows.OpenSpec.upto Rows.dbcallsDeclaresSpec).preRow enc Tryz.prog Tryz.f3 Rows.dbcallsDeclaresUptoRow.domain false Rows.dbcallsDeclaresUptoRow.laid) (((Rows.OpenSpec.upto Rows.dbcallsDeclaresSpec).at F).post enc Tryz.prog Tryz.f3 false true false false):=by
 obtain⟨places,hx⟩:=nD os enc;refine returnsInHanded_of_row (C:=Tryz.checked) (s:=(Rows.OpenSpec.upto Rows.dbcallsDeclaresSpec)) Tryz.own started (by kernel_rfl) Tryz.func3
  (witness_row_atRef (enc:=enc) (C:=Tryz.checked) false (VQ os) #[.agg #[.int .i64 0,.slice none 0 0],.slice none 0 0,.slice none 0 0] (World.laidAll_os _ _ _) (by kernel_rfl) (by kernel_rfl) (by kernel_rfl)
   (OpenSpec.preRow_of_cond 8 hx (by kernel_rfl) (fun k hk=>by cases hk;kernel_rfl) (by kernel_rfl) (ny os _))) ?_
 intro W base args ds gs before hval0 hW _ hcond _ hL _ _;have hk:Rows.uptoSmall H (ds++gs)=true:=hcond _ rfl;have hval:∀(j:Nat) t v,Tryz.f3.params[j]? =some t->args[j]? =some v->Value.okWide Tryz.prog W .any base t v:=hval0;have hb:=MA hk;have hW':=hW;obtain⟨p,q,hA0,hV,rfl,hfz,hnd⟩:=hW;have hA:DataW.TrodAll enc Tryz.prog W 0 (fun _=>true) true Tryz.f3.params.toList args.toList ds p:=hA0;rw[Tryz.params3] at hA hval;clear hA0 hval0;obtain⟨v0,vs0,d0,ds0,p0,q0,e0,rfl,rfl,h0,r0'⟩:=trodAll_cons hA;obtain⟨v1,vs1,d1,ds1,p1,q1,e1,rfl,rfl,h1,r1'⟩:=trodAll_cons r0';obtain⟨v2,vs2,d2,ds2,p2,q2,e2,rfl,rfl,h2,r2'⟩:=trodAll_cons r1';obtain⟨e3,rfl,rfl⟩:=trodAll_nil r2';subst e3;subst e2;subst e1;obtain rfl:args= #[v0,v1,v2]:=by cases args;simp_all
 obtain⟨rfl,rfl⟩:=trodVars_none hV;obtain⟨t0,a0,z0⟩:=nr h0 (hval 0 _ v0 rfl rfl);obtain⟨t1,a1,z1⟩:=nu h1 (hval 1 _ v1 rfl rfl);obtain⟨t2,a2,r2,z2⟩:=nw h2 (hval 2 _ v2 rfl rfl);simp only[Rows.uptoBulkAll,ZB] at hb;exact EX sound Tryz.func3 (by kernel_rfl) Tryz.zy1 (s:=Rows.dbcallsDeclaresSpec) rfl rfl hW' (.cons a0 (.cons a1 (.cons a2 (.nil)))) (nh t0 (nq (by omega)) t1 t2 r2 (by omega) (by omega)) (nC hL)
theorem nE:Rows.DbcallsDeclaresUptoSaid:=
 OpenClaim.holds_of_cond 3 Tryz.f3 rfl rfl rfl rfl rfl rfl rfl ⟨rfl,rfl,rfl,rfl,rfl⟩ rfl rfl rfl rfl rfl (by kernel_rfl) Tryz.func3 (by kernel_rfl)
  (zl (by kernel_rfl)) (by unfold Func.isWrapper;first|(rw[Zd (by decide+kernel)];kernel_rfl)|(rw[Za (by decide+kernel)];exact⟨rfl,rfl⟩))
  (fun os started H enc _ F=>by rw[OpenClaim.pre_eq_preRow];exact dbcallsDeclares_lifted os started H enc F)
theorem nF(f:FuncId)(fn:Func)(hf:Tryz.pinned.checked.prog.funcNamed Rows.dbcallsDeclaresUptoRow.func=some f)(hfn:Tryz.pinned.checked.prog.funcs[f]? =some fn):
  true=Tryz.pinned.checked.prog.looks []/\∀(j:Nat) t,fn.params[j]? =some t->Tryz.pinned.checked.prog.wantsStandIn t=false:=by
 obtain rfl:f=3:=Option.some.inj ((show Tryz.prog.funcNamed Rows.dbcallsDeclaresUptoRow.func=some 3 by kernel_rfl).symm.trans hf) |>.symm
 obtain rfl:fn=Tryz.f3:=(Option.some.inj (Tryz.func3.symm.trans hfn)).symm;refine⟨by kernel_rfl,fun j t ht=> ?_⟩;have h:Tryz.f3.params.toList.all (fun t=> !Tryz.prog.wantsStandIn t)=true:=by kernel_rfl
 have h2:=Zm.1 h t (by simpa using ZU ht);have h3:Tryz.prog.wantsStandIn t=false:=by simpa using h2
 exact h3
theorem dbcallsDeclares_holds:Rows.DbcallsDeclaresUptoCardSaid:=
 Claim7.holds_tied_plain_at .later [] _ _ _ _ nE (fun _ h=>by cases h) (by kernel_rfl) (fun _ h=>by cases h) dbcallsDeclaresUpto_row_tie rfl ⟨rfl,rfl⟩ (by kernel_rfl) rfl nF (by kernel_rfl)
end Go.Proofs.YtkkppaoehnpboaaGreatDoor
