/- What is proved: InspectSorts answers true for every list of terms, where what it reads is of bulk at most 1048576. -/
import Derived.Test.YtiifblpdlphchaaGreatRRData3
set_option linter.unusedSimpArgs false
set_option linter.unusedVariables false
namespace Go.Proofs.YtiifblpdlphchaaGreatRR
open Go.Am Go.ChangeShapes Go.WideShapes Go.ChangeAt Go.RowKit
theorem zqR(l:List Tm)(h:Tm.sizes l<100000000):S 7 [.pv none (.sl (some 4) (Tm.pvs l))] []=some (.ret (.pv none (.bool true)),[]):=
 zq9 l (fun t ht=>by have:=Tm.zwx ht;omega) (by have:=Tm.zwp l;omega)
set_option maxRecDepth 100000 in
theorem inspectSorts_lifted(os:Os)(started:os.Started)(H:Type)(enc:TypeId × Value->H)(F:Stop.Interp):
  ReturnsInHanded {} Tryz.checked os 7 .any ((Rows.OpenSpec.upto Rows.inspectSortsSpec).pre6 enc Tryz.prog Tryz.f7 Rows.inspectSortsUptoRow.domain false) (((Rows.OpenSpec.upto Rows.inspectSortsSpec).at F).post enc Tryz.prog Tryz.f7 false true false false):=by
 refine returnsInHanded_of_cond (C:=Tryz.checked) (s:=(Rows.OpenSpec.upto Rows.inspectSortsSpec)) (k:=Rows.uptoSmall) rfl Tryz.own started (by kernel_rfl) Tryz.func7
  (OpenSpec.witness (enc:=enc) (C:=Tryz.checked) (s:=(Rows.OpenSpec.upto Rows.inspectSortsSpec)) (k:=Rows.uptoSmall) rfl false ⟨#[],#[.slice none 0 0],[]⟩ 8 (by kernel_rfl) (by kernel_rfl) (by kernel_rfl)
   (x:=([.nil],[],[])) (by kernel_rfl) rfl (by kernel_rfl)) ?_
 intro W base args ds gs before hval0 hW _ hk _
 have hval:∀(j:Nat) t v,Tryz.f7.params[j]? =some t->args[j]? =some v->Value.okWide Tryz.prog W .any base t v:=hval0
 have hb:=zop hk
 have hW':=hW
 obtain⟨p,q,hA0,hV,rfl,hfz,hnd⟩:=hW
 have hA:DataW.TrodAll enc Tryz.prog W 0 (fun _=>true) true Tryz.f7.params.toList args.toList ds p:=hA0
 rw[Tryz.params7] at hA hval
 clear hA0 hval0
 obtain⟨v0,vs0,d0,ds0,p0,q0,e0,rfl,rfl,h0,r0'⟩:=trodAll_cons hA
 obtain⟨e1,rfl,rfl⟩:=trodAll_nil r0'
 subst e1
 obtain rfl:args= #[v0]:=by cases args;simp_all
 obtain⟨rfl,rfl⟩:=trodVars_none hV
 obtain⟨t0,a0,z0,r0⟩:=zoq h0 (hval 0 _ v0 rfl rfl)
 simp only[Rows.uptoBulkAll,List.append_nil] at hb
 exact zj0 sound Tryz.func7 (by kernel_rfl) Tryz.zwY (s:=Rows.inspectSortsSpec) rfl rfl hW' (.cons a0 (.nil)) (zqR t0 (by omega))
theorem inspectSorts_holds:Rows.InspectSortsUptoSaid:=
 OpenClaim.holds_of_cond 7 Tryz.f7 rfl rfl rfl rfl rfl rfl rfl ⟨rfl,rfl,rfl,rfl,rfl⟩ rfl rfl rfl rfl rfl (by kernel_rfl) Tryz.func7 (by kernel_rfl)
  (of_decide_eq_true (by kernel_rfl)) (by unfold Func.isWrapper;first|(rw[if_pos (by decide+kernel)];kernel_rfl)|(rw[if_neg (by decide+kernel)];exact⟨rfl,rfl⟩))
  (fun os started H enc _ F=>inspectSorts_lifted os started H enc F)
end Go.Proofs.YtiifblpdlphchaaGreatRR
