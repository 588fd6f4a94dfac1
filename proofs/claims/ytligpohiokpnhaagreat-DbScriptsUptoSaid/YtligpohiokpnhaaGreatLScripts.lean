/- What is proved: DbScripts answers true for every list of calls, where what it reads is of bulk at most 1048576. -/
import Derived.Test.YtligpohiokpnhaaGreatData5
set_option linter.unusedSimpArgs false
set_option linter.unusedVariables false
namespace Go.Proofs.YtligpohiokpnhaaGreat
open Go.Am Go.ChangeShapes Go.WideShapes Go.ChangeAt Go.RowKit
theorem mI(l:List Acx)(h:PV.szs (Acx.pvs l)<=1048576):S 4 [.pv none (.sl (some 14) (Acx.pvs l))] []=some (.ret (.pv none (.bool true)),[]):=by
 obtain⟨h1,h2⟩:=GW l;exact mu l (by omega) fun x hx=>by have:=h2 x hx;omega
set_option maxRecDepth 100000 in
theorem dbScripts_lifted(os:Os)(started:os.Started)(H:Type)(enc:TypeId × Value->H)(F:Stop.Interp):
  ReturnsInHanded {} Tryz.checked os 4 .any ((Rows.OpenSpec.upto Rows.dbScriptsSpec).pre6 enc Tryz.prog Tryz.f4 Rows.dbScriptsUptoRow.domain false) (((Rows.OpenSpec.upto Rows.dbScriptsSpec).at F).post enc Tryz.prog Tryz.f4 false true false false):=by
 refine returnsInHanded_of_cond (C:=Tryz.checked) (s:=(Rows.OpenSpec.upto Rows.dbScriptsSpec)) (k:=Rows.uptoSmall) rfl Tryz.own started (by kernel_rfl) Tryz.func4
  (OpenSpec.witness (enc:=enc) (C:=Tryz.checked) (s:=(Rows.OpenSpec.upto Rows.dbScriptsSpec)) (k:=Rows.uptoSmall) rfl false ⟨#[],#[.slice none 0 0],[]⟩ 8 (by kernel_rfl) (by kernel_rfl) (by kernel_rfl)
   (x:=([.nil],[],[])) (by kernel_rfl) rfl (by kernel_rfl)) ?_
 intro W base args ds gs before hval0 hW _ hk _;have hval:∀(j:Nat) t v,Tryz.f4.params[j]? =some t->args[j]? =some v->Value.okWide Tryz.prog W .any base t v:=hval0;have hb:=my hk;have hW':=hW;obtain⟨p,q,hA0,hV,rfl,hfz,hnd⟩:=hW;have hA:DataW.TrodAll enc Tryz.prog W 0 (fun _=>true) true Tryz.f4.params.toList args.toList ds p:=hA0;rw[Tryz.params4] at hA hval;clear hA0 hval0;obtain⟨v0,vs0,d0,ds0,p0,q0,e0,rfl,rfl,h0,r0'⟩:=trodAll_cons hA;obtain⟨e1,rfl,rfl⟩:=trodAll_nil r0';subst e1;obtain rfl:args= #[v0]:=by cases args;simp_all
 obtain⟨rfl,rfl⟩:=trodVars_none hV;obtain⟨t0,a0,z0⟩:=mH h0 (hval 0 _ v0 rfl rfl);simp only[Rows.uptoBulkAll,ZC] at hb;exact D9 sound Tryz.func4 (by kernel_rfl) Tryz.zxk (s:=Rows.dbScriptsSpec) rfl rfl hW' (.cons a0 (.nil)) (mI t0 (by omega))
theorem dbScripts_holds:Rows.DbScriptsUptoSaid:=
 OpenClaim.holds_of_cond 4 Tryz.f4 rfl rfl rfl rfl rfl rfl rfl ⟨rfl,rfl,rfl,rfl,rfl⟩ rfl rfl rfl rfl rfl (by kernel_rfl) Tryz.func4 (by kernel_rfl)
  (zi (by kernel_rfl)) (by unfold Func.isWrapper;first|(rw[Zc (by decide+kernel)];kernel_rfl)|(rw[Zb (by decide+kernel)];exact⟨rfl,rfl⟩))
  (fun os started H enc _ F=>dbScripts_lifted os started H enc F)
end Go.Proofs.YtligpohiokpnhaaGreat
