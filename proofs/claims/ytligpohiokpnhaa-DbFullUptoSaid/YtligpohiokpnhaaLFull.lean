/- What is proved: DbFull answers true for every clause and number, where what it reads is of bulk at most 1048576. -/
import Derived.Test.YtligpohiokpnhaaData
import Derived.Test.YtligpohiokpnhaaData3
set_option linter.unusedSimpArgs false
set_option linter.unusedVariables false
namespace Go.Proofs.Ytligpohiokpnhaa
open Go.Am Go.ChangeShapes Go.WideShapes Go.ChangeAt Go.RowKit
set_option maxRecDepth 100000 in
theorem dbFull_lifted(os:Os)(started:os.Started)(H:Type)(enc:TypeId × Value->H)(F:Stop.Interp):
  ReturnsInHanded {} Try.checked os 3 .any ((Rows.OpenSpec.upto Rows.dbFullSpec).pre6 enc Try.prog Try.f3 Rows.dbFullUptoRow.domain false) (((Rows.OpenSpec.upto Rows.dbFullSpec).at F).post enc Try.prog Try.f3 false true false false):=by
 refine returnsInHanded_of_cond (C:=Try.checked) (s:=(Rows.OpenSpec.upto Rows.dbFullSpec)) (k:=Rows.uptoSmall) rfl Try.own started (by kernel_rfl) Try.func3
  (OpenSpec.witness (enc:=enc) (C:=Try.checked) (s:=(Rows.OpenSpec.upto Rows.dbFullSpec)) (k:=Rows.uptoSmall) rfl false ⟨#[],#[.agg #[.int .i64 0,.int .i64 0,.string ⟨#[]⟩,.slice none 0 0,.int .i64 0,.int .i64 0,.string ⟨#[]⟩,.slice none 0 0],.int .i64 0],[]⟩ 8 (by kernel_rfl) (by kernel_rfl) (by kernel_rfl)
   (x:=([.agg [.agg [.lit (.int .i64 0),.lit (.int .i64 0),.lit (.string []),.nil],.agg [.lit (.int .i64 0),.lit (.int .i64 0),.lit (.string []),.nil]],.lit (.int .i64 0)],[],[])) (by kernel_rfl) rfl (by kernel_rfl)) ?_
 intro W base args ds gs before hval0 hW _ hk _
 have hval:∀(j:Nat) t v,Try.f3.params[j]? =some t->args[j]? =some v->Value.okWide Try.prog W .any base t v:=hval0
 have hb:=znm hk
 have hW':=hW
 obtain⟨p,q,hA0,hV,rfl,hfz,hnd⟩:=hW
 have hA:DataW.TrodAll enc Try.prog W 0 (fun _=>true) true Try.f3.params.toList args.toList ds p:=hA0
 rw[Try.params3] at hA hval
 clear hA0 hval0
 obtain⟨v0,vs0,d0,ds0,p0,q0,e0,rfl,rfl,h0,r0'⟩:=trodAll_cons hA
 obtain⟨v1,vs1,d1,ds1,p1,q1,e1,rfl,rfl,h1,r1'⟩:=trodAll_cons r0'
 obtain⟨e2,rfl,rfl⟩:=trodAll_nil r1'
 subst e2
 subst e1
 obtain rfl:args= #[v0,v1]:=by cases args;simp_all
 obtain⟨rfl,rfl⟩:=trodVars_none hV
 obtain⟨t0,a0,z0⟩:=zk6 h0 (hval 0 _ v0 rfl rfl)
 obtain⟨t1,a1,r1⟩:=zrp h1 (hval 1 _ v1 rfl rfl)
 simp only[Rows.uptoBulkAll,List.append_nil] at hb
 exact zju sound Try.func3 (by kernel_rfl) Try.zus (s:=Rows.dbFullSpec) rfl rfl hW' (.cons a0 (.cons a1 (.nil))) (zrA t0 (Nat.lt_of_le_of_lt (ztt t0).1 (by omega)) (Nat.lt_of_le_of_lt (ztt t0).2 (by omega)) t1)
theorem dbFull_holds:Rows.DbFullUptoSaid:=
 OpenClaim.holds_of_cond 3 Try.f3 rfl rfl rfl rfl rfl rfl rfl ⟨rfl,rfl,rfl,rfl,rfl⟩ rfl rfl rfl rfl rfl (by kernel_rfl) Try.func3 (by kernel_rfl)
  (of_decide_eq_true (by kernel_rfl)) (by unfold Func.isWrapper;first|(rw[if_pos (by decide+kernel)];kernel_rfl)|(rw[if_neg (by decide+kernel)];exact⟨rfl,rfl⟩))
  (fun os started H enc _ F=>dbFull_lifted os started H enc F)
end Go.Proofs.Ytligpohiokpnhaa
