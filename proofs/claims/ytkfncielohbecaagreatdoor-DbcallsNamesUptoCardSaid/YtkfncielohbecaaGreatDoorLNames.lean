/- What is proved: DbcallsNames answers true for every name and number, where what it reads is of bulk at most 1048576, and strings.asciiSpace and unicode.White_Space hold what the program's text lays in them. -/
import Derived.Test.YtkfncielohbecaaGreatDoorLaid
set_option linter.unusedSimpArgs false
set_option linter.unusedVariables false
namespace Go.Proofs.YtkfncielohbecaaGreatDoor
open Go.Am Go.ChangeShapes Go.WideShapes Go.ChangeAt Go.RowKit
theorem zeN(s:List UInt8)(n:Int):S 3 [.pv none (.str s),.pv none (.int .i64 n)] []=some (.ret (.pv none (.bool true)),[]):=by
 refine zb5 rfl rfl rfl (zax [(none,.str s),(none,.int .i64 n)]) rfl ?_
 have h1:=zoY s n
 have h2:=zoq s n
 have h4:=zjs s n
 have h5:=ziw s n
 have h3:S 9 [] []=_:=sem9
 have e:∀b:Bool,(b == b)=true:=fun b=>by cases b <;> rfl
 generalize decide ((s,n)∈pkeys)=q at h1 h2
 generalize decide (s∈zaN n)=q' at h4 h5
 simp -dsimp -implicitDefEqProofs only[go_sem,seval,↓reduceIte,h1,h2,h3,h4,h5,e]
theorem zdS(os:Os){H:Type}(enc:TypeId × Value->H):∃places,DataW.whole enc Tryz.prog ((zor os).forCall (fun _ _=>0) ⟨#[],#[.string ⟨#[]⟩,.int .i64 0],[]⟩).memory Tryz.f3.params.toList Rows.dbcallsNamesSpec.vars false (#[.string ⟨#[]⟩,.int .i64 0]:Array Value).toList 8=some ([.lit (.string []),.lit (.int .i64 0)],[],places):=⟨[],by kernel_rfl⟩
set_option maxRecDepth 100000 in
theorem dbcallsNames_lifted(os:Os)(started:os.Started)(H:Type)(enc:TypeId × Value->H)(F:Stop.Interp):
  ReturnsInHanded {} Tryz.checked os 3 .any ((Rows.OpenSpec.upto Rows.dbcallsNamesSpec).preRow enc Tryz.prog Tryz.f3 Rows.dbcallsNamesUptoRow.domain false Rows.dbcallsNamesUptoRow.laid) (((Rows.OpenSpec.upto Rows.dbcallsNamesSpec).at F).post enc Tryz.prog Tryz.f3 false true false false):=by
 obtain⟨places,hx⟩:=zdS os enc
 refine returnsInHanded_of_row (C:=Tryz.checked) (s:=(Rows.OpenSpec.upto Rows.dbcallsNamesSpec)) Tryz.own started (by kernel_rfl) Tryz.func3
  (witness_row_atRef (enc:=enc) (C:=Tryz.checked) false (zor os) #[.string ⟨#[]⟩,.int .i64 0] (World.laidAll_os _ _ _) (by kernel_rfl) (by kernel_rfl) (by kernel_rfl)
   (OpenSpec.preRow_of_cond 8 hx (by kernel_rfl) (fun k hk=>by cases hk;kernel_rfl) (by kernel_rfl) (znF os _))) ?_
 intro W base args ds gs before hval0 hW _ hcond _ hL _ _
 have hk:Rows.uptoSmall H (ds++gs)=true:=hcond _ rfl
 have hval:∀(j:Nat) t v,Tryz.f3.params[j]? =some t->args[j]? =some v->Value.okWide Tryz.prog W .any base t v:=hval0
 have hb:=zkZ hk
 have hW':=hW
 obtain⟨p,q,hA0,hV,rfl,hfz,hnd⟩:=hW
 have hA:DataW.TrodAll enc Tryz.prog W 0 (fun _=>true) true Tryz.f3.params.toList args.toList ds p:=hA0
 rw[Tryz.params3] at hA hval
 clear hA0 hval0
 obtain⟨v0,vs0,d0,ds0,p0,q0,e0,rfl,rfl,h0,r0'⟩:=trodAll_cons hA
 obtain⟨v1,vs1,d1,ds1,p1,q1,e1,rfl,rfl,h1,r1'⟩:=trodAll_cons r0'
 obtain⟨e2,rfl,rfl⟩:=trodAll_nil r1'
 subst e2
 subst e1
 obtain rfl:args= #[v0,v1]:=by cases args;simp_all
 obtain⟨rfl,rfl⟩:=trodVars_none hV
 obtain⟨t0,a0,z0⟩:=znB h0 (hval 0 _ v0 rfl rfl)
 obtain⟨t1,a1,r1⟩:=znA h1 (hval 1 _ v1 rfl rfl)
 simp only[Rows.uptoBulkAll,List.append_nil] at hb
 exact zik sound Tryz.func3 (by kernel_rfl) Tryz.zpD (s:=Rows.dbcallsNamesSpec) rfl rfl hW' (.cons a0 (.cons a1 (.nil))) (zeN t0 t1) (zoZ hL)
theorem zeo:Rows.DbcallsNamesUptoSaid:=
 OpenClaim.holds_of_cond 3 Tryz.f3 rfl rfl rfl rfl rfl rfl rfl ⟨rfl,rfl,rfl,rfl,rfl⟩ rfl rfl rfl rfl rfl (by kernel_rfl) Tryz.func3 (by kernel_rfl)
  (of_decide_eq_true (by kernel_rfl)) (by unfold Func.isWrapper;first|(rw[if_pos (by decide+kernel)];kernel_rfl)|(rw[if_neg (by decide+kernel)];exact⟨rfl,rfl⟩))
  (fun os started H enc _ F=>by rw[OpenClaim.pre_eq_preRow];exact dbcallsNames_lifted os started H enc F)
theorem zdT(f:FuncId)(fn:Func)(hf:Tryz.pinned.checked.prog.funcNamed Rows.dbcallsNamesUptoRow.func=some f)(hfn:Tryz.pinned.checked.prog.funcs[f]? =some fn):
  true=Tryz.pinned.checked.prog.looks []/\∀(j:Nat) t,fn.params[j]? =some t->Tryz.pinned.checked.prog.wantsStandIn t=false:=by
 obtain rfl:f=3:=Option.some.inj ((show Tryz.prog.funcNamed Rows.dbcallsNamesUptoRow.func=some 3 by kernel_rfl).symm.trans hf) |>.symm
 obtain rfl:fn=Tryz.f3:=(Option.some.inj (Tryz.func3.symm.trans hfn)).symm
 refine⟨by kernel_rfl,fun j t ht=> ?_⟩
 have h:Tryz.f3.params.toList.all (fun t=> !Tryz.prog.wantsStandIn t)=true:=by kernel_rfl
 have h2:=List.all_eq_true.1 h t (by simpa using Array.mem_of_getElem? ht)
 have h3:Tryz.prog.wantsStandIn t=false:=by simpa using h2
 exact h3
theorem dbcallsNames_holds:Rows.DbcallsNamesUptoCardSaid:=
 Claim7.holds_tied_plain_at .later [] _ _ _ _ zeo (fun _ h=>by cases h) (by kernel_rfl) (fun _ h=>by cases h) dbcallsNamesUpto_row_tie rfl ⟨rfl,rfl⟩ (by kernel_rfl) rfl zdT (by kernel_rfl)
end Go.Proofs.YtkfncielohbecaaGreatDoor
