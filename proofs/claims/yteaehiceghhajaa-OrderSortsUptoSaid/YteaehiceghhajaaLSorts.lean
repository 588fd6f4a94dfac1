/- What is proved: OrderSorts answers true for all lists of terms, where what it reads is of bulk at most 1048576. -/
import Derived.Test.YteaehiceghhajaaData
set_option linter.unusedSimpArgs false
set_option linter.unusedVariables false
namespace Go.Proofs.Yteaehiceghhajaa
open Go.Am Go.ChangeShapes Go.WideShapes Go.ChangeAt Go.RowKit
set_option maxRecDepth 100000 in
theorem orderSorts_lifted(os:Os)(started:os.Started)(H:Type)(enc:TypeId × Value->H)(F:Stop.Interp):
  ReturnsInHanded {} Try.checked os 4 .any ((Rows.OpenSpec.upto Rows.orderSortsSpec).pre6 enc Try.prog Try.f4 Rows.orderSortsUptoRow.domain false) (((Rows.OpenSpec.upto Rows.orderSortsSpec).at F).post enc Try.prog Try.f4 false true false false):=by
 refine returnsInHanded_of_cond (C:=Try.checked) (s:=(Rows.OpenSpec.upto Rows.orderSortsSpec)) (k:=Rows.uptoSmall) rfl Try.own started (by kernel_rfl) Try.func4
  (OpenSpec.witness (enc:=enc) (C:=Try.checked) (s:=(Rows.OpenSpec.upto Rows.orderSortsSpec)) (k:=Rows.uptoSmall) rfl false ⟨#[],#[.slice none 0 0],[]⟩ 8 (by kernel_rfl) (by kernel_rfl) (by kernel_rfl)
   (x:=([.nil],[],[])) (by kernel_rfl) rfl (by kernel_rfl)) ?_
 intro W base args ds gs before hval0 hW _ hk _
 have hval:∀(j:Nat) t v,Try.f4.params[j]? =some t->args[j]? =some v->Value.okWide Try.prog W .any base t v:=hval0
 have hb:=zmL hk
 have hW':=hW
 obtain⟨p,q,hA0,hV,rfl,hfz,hnd⟩:=hW
 have hA:DataW.TrodAll enc Try.prog W 0 (fun _=>true) true Try.f4.params.toList args.toList ds p:=hA0
 rw[Try.params4] at hA hval
 clear hA0 hval0
 obtain⟨v0,vs0,d0,ds0,p0,q0,e0,rfl,rfl,h0,r0'⟩:=trodAll_cons hA
 obtain⟨e1,rfl,rfl⟩:=trodAll_nil r0'
 subst e1
 obtain rfl:args= #[v0]:=by cases args;simp_all
 obtain⟨rfl,rfl⟩:=trodVars_none hV
 obtain⟨t0,a0,z0,r0⟩:=zmM h0 (hval 0 _ v0 rfl rfl)
 simp only[Rows.uptoBulkAll,List.append_nil] at hb
 exact zjc sound Try.func4 (by kernel_rfl) Try.zsW (s:=Rows.orderSortsSpec) rfl rfl hW' (.cons a0 (.nil)) (zoU t0 (by omega))
theorem orderSorts_holds:Rows.OrderSortsUptoSaid:=
 OpenClaim.holds_of_cond 4 Try.f4 rfl rfl rfl rfl rfl rfl rfl ⟨rfl,rfl,rfl,rfl,rfl⟩ rfl rfl rfl rfl rfl (by kernel_rfl) Try.func4 (by kernel_rfl)
  (of_decide_eq_true (by kernel_rfl)) (by unfold Func.isWrapper;first|(rw[if_pos (by decide+kernel)];kernel_rfl)|(rw[if_neg (by decide+kernel)];exact⟨rfl,rfl⟩))
  (fun os started H enc _ F=>orderSorts_lifted os started H enc F)
end Go.Proofs.Yteaehiceghhajaa
