/- What is proved: InspectLengths answers true for every list of terms and every number, where what it reads is of bulk at most 1048576. -/
import Derived.Test.YtiifblpdlphchaaGreatRRData3
set_option linter.unusedSimpArgs false
set_option linter.unusedVariables false
namespace Go.Proofs.YtiifblpdlphchaaGreatRR
open Go.Am Go.ChangeShapes Go.WideShapes Go.ChangeAt Go.RowKit
theorem zlt(l:List Tm)(m:Int)(h:Tm.sizes l<100000000)(hm: -9223372036854775808<=m/\m<=9223372036854775807):S 8 [.pv none (.sl (some 4) (Tm.pvs l)),.pv none (.int .i64 m)] []=some (.ret (.pv none (.bool true)),[]):=
 zlx l m hm (fun t ht=>by have:=Tm.zvK ht;omega) (by have:=Tm.zvt l;omega)
set_option maxRecDepth 100000 in
theorem inspectLengths_lifted(os:Os)(started:os.Started)(H:Type)(enc:TypeId × Value->H)(F:Stop.Interp):
  ReturnsInHanded {} Tryz.checked os 8 .any ((Rows.OpenSpec.upto Rows.inspectLengthsSpec).pre6 enc Tryz.prog Tryz.f8 Rows.inspectLengthsUptoRow.domain false) (((Rows.OpenSpec.upto Rows.inspectLengthsSpec).at F).post enc Tryz.prog Tryz.f8 false true false false):=by
 refine returnsInHanded_of_cond (C:=Tryz.checked) (s:=(Rows.OpenSpec.upto Rows.inspectLengthsSpec)) (k:=Rows.uptoSmall) rfl Tryz.own started (by kernel_rfl) Tryz.func8
  (OpenSpec.witness (enc:=enc) (C:=Tryz.checked) (s:=(Rows.OpenSpec.upto Rows.inspectLengthsSpec)) (k:=Rows.uptoSmall) rfl false ⟨#[],#[.slice none 0 0,.int .i64 0],[]⟩ 8 (by kernel_rfl) (by kernel_rfl) (by kernel_rfl)
   (x:=([.nil,.lit (.int .i64 0)],[],[])) (by kernel_rfl) rfl (by kernel_rfl)) ?_
 intro W base args ds gs before hval0 hW _ hk _
 have hval:∀(j:Nat) t v,Tryz.f8.params[j]? =some t->args[j]? =some v->Value.okWide Tryz.prog W .any base t v:=hval0
 have hb:=znX hk
 have hW':=hW
 obtain⟨p,q,hA0,hV,rfl,hfz,hnd⟩:=hW
 have hA:DataW.TrodAll enc Tryz.prog W 0 (fun _=>true) true Tryz.f8.params.toList args.toList ds p:=hA0
 rw[Tryz.params8] at hA hval
 clear hA0 hval0
 obtain⟨v0,vs0,d0,ds0,p0,q0,e0,rfl,rfl,h0,r0'⟩:=trodAll_cons hA
 obtain⟨v1,vs1,d1,ds1,p1,q1,e1,rfl,rfl,h1,r1'⟩:=trodAll_cons r0'
 obtain⟨e2,rfl,rfl⟩:=trodAll_nil r1'
 subst e2
 subst e1
 obtain rfl:args= #[v0,v1]:=by cases args;simp_all
 obtain⟨rfl,rfl⟩:=trodVars_none hV
 obtain⟨t0,a0,z0,r0⟩:=znY h0 (hval 0 _ v0 rfl rfl)
 obtain⟨t1,a1,r1⟩:=zsc h1 (hval 1 _ v1 rfl rfl)
 simp only[Rows.uptoBulkAll,List.append_nil] at hb
 exact zjF sound Tryz.func8 (by kernel_rfl) Tryz.zvX (s:=Rows.inspectLengthsSpec) rfl rfl hW' (.cons a0 (.cons a1 (.nil))) (zlt t0 t1 (by omega) (by unfold zjX at r1;omega))
theorem inspectLengths_holds:Rows.InspectLengthsUptoSaid:=
 OpenClaim.holds_of_cond 8 Tryz.f8 rfl rfl rfl rfl rfl rfl rfl ⟨rfl,rfl,rfl,rfl,rfl⟩ rfl rfl rfl rfl rfl (by kernel_rfl) Tryz.func8 (by kernel_rfl)
  (of_decide_eq_true (by kernel_rfl)) (by unfold Func.isWrapper;first|(rw[if_pos (by decide+kernel)];kernel_rfl)|(rw[if_neg (by decide+kernel)];exact⟨rfl,rfl⟩))
  (fun os started H enc _ F=>inspectLengths_lifted os started H enc F)
end Go.Proofs.YtiifblpdlphchaaGreatRR
