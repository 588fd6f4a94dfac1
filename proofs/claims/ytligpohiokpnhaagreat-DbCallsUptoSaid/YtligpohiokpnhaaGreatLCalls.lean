/- What is proved: DbCalls answers true for every database and call, where what it reads is of bulk at most 1048576. -/
import Derived.Test.YtligpohiokpnhaaGreatData3
import Derived.Test.YtligpohiokpnhaaGreatData5
set_option linter.unusedSimpArgs false
set_option linter.unusedVariables false
namespace Go.Proofs.YtligpohiokpnhaaGreat
open Go.Am Go.ChangeShapes Go.WideShapes Go.ChangeAt Go.RowKit
set_option maxRecDepth 100000 in
theorem mX{H:Type}{enc:TypeId × Value->H}{W:World}{base:Nat}{v:Value}{d:DataW H}{ps:List MemPlace}(h:DataW.Trod enc Tryz.prog W 0 (fun _=>true) true 31 v d ps)(hv:Value.okWide Tryz.prog W .any base 31 v):
  ∃f:Acx,AR W (noX (P:=Tryz.prog)) noμ [] f.av v/\f.pv.sz<=Rows.uptoBulk d:=by
 obtain⟨n,p,h1,h2,h3⟩:=G6 (by decide) (by kernel_rfl) h hv;obtain⟨f,rfl⟩:=mW h2;rw[show shOf Tryz.prog 31=some 14 from by kernel_rfl] at h1;exact⟨f,h1,h3⟩
set_option maxRecDepth 100000 in
theorem dbCalls_lifted(os:Os)(started:os.Started)(H:Type)(enc:TypeId × Value->H)(F:Stop.Interp):
  ReturnsInHanded {} Tryz.checked os 3 .any ((Rows.OpenSpec.upto Rows.dbCallsSpec).pre6 enc Tryz.prog Tryz.f3 Rows.dbCallsUptoRow.domain false) (((Rows.OpenSpec.upto Rows.dbCallsSpec).at F).post enc Tryz.prog Tryz.f3 false true false false):=by
 refine returnsInHanded_of_cond (C:=Tryz.checked) (s:=(Rows.OpenSpec.upto Rows.dbCallsSpec)) (k:=Rows.uptoSmall) rfl Tryz.own started (by kernel_rfl) Tryz.func3
  (OpenSpec.witness (enc:=enc) (C:=Tryz.checked) (s:=(Rows.OpenSpec.upto Rows.dbCallsSpec)) (k:=Rows.uptoSmall) rfl false ⟨#[],#[.agg #[.int .i64 0,.slice none 0 0],.agg #[.int .i64 0,.string ⟨#[]⟩,.int .i64 0,.int .i64 0,.int .i64 0,.int .i64 0,.string ⟨#[]⟩,.slice none 0 0,.int .i64 0,.int .i64 0,.string ⟨#[]⟩,.slice none 0 0,.bool false,.bool false]],[]⟩ 8 (by kernel_rfl) (by kernel_rfl) (by kernel_rfl)
   (x:=([.agg [.lit (.int .i64 0),.nil],.agg [.lit (.int .i64 0),.lit (.string []),.lit (.int .i64 0),.lit (.int .i64 0),.agg [.agg [.lit (.int .i64 0),.lit (.int .i64 0),.lit (.string []),.nil],.agg [.lit (.int .i64 0),.lit (.int .i64 0),.lit (.string []),.nil]],.lit (.bool false),.lit (.bool false)]],[],[])) (by kernel_rfl) rfl (by kernel_rfl)) ?_
 intro W base args ds gs before hval0 hW _ hk _;have hval:∀(j:Nat) t v,Tryz.f3.params[j]? =some t->args[j]? =some v->Value.okWide Tryz.prog W .any base t v:=hval0;have hb:=mN hk;have hW':=hW;obtain⟨p,q,hA0,hV,rfl,hfz,hnd⟩:=hW;have hA:DataW.TrodAll enc Tryz.prog W 0 (fun _=>true) true Tryz.f3.params.toList args.toList ds p:=hA0;rw[Tryz.params3] at hA hval;clear hA0 hval0;obtain⟨v0,vs0,d0,ds0,p0,q0,e0,rfl,rfl,h0,r0'⟩:=trodAll_cons hA;obtain⟨v1,vs1,d1,ds1,p1,q1,e1,rfl,rfl,h1,r1'⟩:=trodAll_cons r0';obtain⟨e2,rfl,rfl⟩:=trodAll_nil r1';subst e2;subst e1;obtain rfl:args= #[v0,v1]:=by cases args;simp_all
 obtain⟨rfl,rfl⟩:=trodVars_none hV;obtain⟨t0,a0,z0⟩:=mV h0 (hval 0 _ v0 rfl rfl);obtain⟨t1,a1,z1⟩:=mX h1 (hval 1 _ v1 rfl rfl);simp only[Rows.uptoBulkAll,ZC] at hb;exact dn sound Tryz.func3 (by kernel_rfl) Tryz.zxz (s:=Rows.dbCallsSpec) rfl rfl hW' (.cons a0 (.cons a1 (.nil))) (mL t0 (mU (by omega)) t1 (Nat.lt_of_le_of_lt (ZY (Vj t1.cl).1 (gc t1)) (by omega)) (Nat.lt_of_le_of_lt (ZY (Vj t1.cl).2 (gc t1)) (by omega)))
theorem dbCalls_holds:Rows.DbCallsUptoSaid:=
 OpenClaim.holds_of_cond 3 Tryz.f3 rfl rfl rfl rfl rfl rfl rfl ⟨rfl,rfl,rfl,rfl,rfl⟩ rfl rfl rfl rfl rfl (by kernel_rfl) Tryz.func3 (by kernel_rfl)
  (zi (by kernel_rfl)) (by unfold Func.isWrapper;first|(rw[Zc (by decide+kernel)];kernel_rfl)|(rw[Za (by decide+kernel)];exact⟨rfl,rfl⟩))
  (fun os started H enc _ F=>dbCalls_lifted os started H enc F)
end Go.Proofs.YtligpohiokpnhaaGreat
