/- What is proved: DbAdds answers true for every database, clause and flags, where what it reads is of bulk at most 1048576. -/
import Derived.Test.YtligpohiokpnhaaData3
set_option linter.unusedSimpArgs false
set_option linter.unusedVariables false
namespace Go.Proofs.Ytligpohiokpnhaa
open Go.Am Go.ChangeShapes Go.WideShapes Go.ChangeAt Go.RowKit
set_option maxRecDepth 100000 in
theorem dbAdds_lifted(os:Os)(started:os.Started)(H:Type)(enc:TypeId × Value->H)(F:Stop.Interp):
  ReturnsInHanded {} Try.checked os 4 .any ((Rows.OpenSpec.upto Rows.dbAddsSpec).pre6 enc Try.prog Try.f4 Rows.dbAddsUptoRow.domain false) (((Rows.OpenSpec.upto Rows.dbAddsSpec).at F).post enc Try.prog Try.f4 false true false false):=by
 refine returnsInHanded_of_cond (C:=Try.checked) (s:=(Rows.OpenSpec.upto Rows.dbAddsSpec)) (k:=Rows.uptoSmall) rfl Try.own started (by kernel_rfl) Try.func4
  (OpenSpec.witness (enc:=enc) (C:=Try.checked) (s:=(Rows.OpenSpec.upto Rows.dbAddsSpec)) (k:=Rows.uptoSmall) rfl false ⟨#[],#[.agg #[.int .i64 0,.slice none 0 0],.agg #[.int .i64 0,.int .i64 0,.string ⟨#[]⟩,.slice none 0 0,.int .i64 0,.int .i64 0,.string ⟨#[]⟩,.slice none 0 0],.bool false,.bool false],[]⟩ 8 (by kernel_rfl) (by kernel_rfl) (by kernel_rfl)
   (x:=([.agg [.lit (.int .i64 0),.nil],.agg [.agg [.lit (.int .i64 0),.lit (.int .i64 0),.lit (.string []),.nil],.agg [.lit (.int .i64 0),.lit (.int .i64 0),.lit (.string []),.nil]],.lit (.bool false),.lit (.bool false)],[],[])) (by kernel_rfl) rfl (by kernel_rfl)) ?_
 intro W base args ds gs before hval0 hW _ hk _
 have hval:∀(j:Nat) t v,Try.f4.params[j]? =some t->args[j]? =some v->Value.okWide Try.prog W .any base t v:=hval0
 have hb:=zns hk
 have hW':=hW
 obtain⟨p,q,hA0,hV,rfl,hfz,hnd⟩:=hW
 have hA:DataW.TrodAll enc Try.prog W 0 (fun _=>true) true Try.f4.params.toList args.toList ds p:=hA0
 rw[Try.params4] at hA hval
 clear hA0 hval0
 obtain⟨v0,vs0,d0,ds0,p0,q0,e0,rfl,rfl,h0,r0'⟩:=trodAll_cons hA
 obtain⟨v1,vs1,d1,ds1,p1,q1,e1,rfl,rfl,h1,r1'⟩:=trodAll_cons r0'
 obtain⟨v2,vs2,d2,ds2,p2,q2,e2,rfl,rfl,h2,r2'⟩:=trodAll_cons r1'
 obtain⟨v3,vs3,d3,ds3,p3,q3,e3,rfl,rfl,h3,r3'⟩:=trodAll_cons r2'
 obtain⟨e4,rfl,rfl⟩:=trodAll_nil r3'
 subst e4
 subst e3
 subst e2
 subst e1
 obtain rfl:args= #[v0,v1,v2,v3]:=by cases args;simp_all
 obtain⟨rfl,rfl⟩:=trodVars_none hV
 obtain⟨t0,a0,z0⟩:=zsN h0 (hval 0 _ v0 rfl rfl)
 obtain⟨t1,a1,z1⟩:=zla h1 (hval 1 _ v1 rfl rfl)
 obtain⟨t2,a2,z2⟩:=zjS h2 (hval 2 _ v2 rfl rfl)
 obtain⟨t3,a3,z3⟩:=zjS h3 (hval 3 _ v3 rfl rfl)
 simp only[Rows.uptoBulkAll,List.append_nil] at hb
 exact zjw sound Try.func4 (by kernel_rfl) Try.zuA (s:=Rows.dbAddsSpec) rfl rfl hW' (.cons a0 (.cons a1 (.cons a2 (.cons a3 (.nil))))) (zp8 t0 (ztB (by omega)) t1 (Nat.lt_of_le_of_lt (zsM t1).1 (by omega)) (Nat.lt_of_le_of_lt (zsM t1).2 (by omega)) t2 t3)
theorem dbAdds_holds:Rows.DbAddsUptoSaid:=
 OpenClaim.holds_of_cond 4 Try.f4 rfl rfl rfl rfl rfl rfl rfl ⟨rfl,rfl,rfl,rfl,rfl⟩ rfl rfl rfl rfl rfl (by kernel_rfl) Try.func4 (by kernel_rfl)
  (of_decide_eq_true (by kernel_rfl)) (by unfold Func.isWrapper;first|(rw[if_pos (by decide+kernel)];kernel_rfl)|(rw[if_neg (by decide+kernel)];exact⟨rfl,rfl⟩))
  (fun os started H enc _ F=>dbAdds_lifted os started H enc F)
end Go.Proofs.Ytligpohiokpnhaa
