/- What is proved: BagsGroups answers true for all lists of terms, where what it reads is of bulk at most 1048576. -/
import Derived.Test.YtffecaafklpmhaaGreatData
set_option linter.unusedSimpArgs false
set_option linter.unusedVariables false
namespace Go.Proofs.YtffecaafklpmhaaGreat
open Go.Am Go.ChangeShapes Go.WideShapes Go.ChangeAt Go.RowKit
theorem zhQ(l:List Tm)(hl:Tm.sizes l<=1048576):S 3 [.pv none (.sl (some 4) (Tm.pvs l))] []=some (.ret (.pv none (.bool true)),[]):=by
 refine zao rfl rfl rfl (zac [(none,.sl (some 4) (Tm.pvs l))]) rfl ?_
 obtain⟨HA,haw⟩:=zwh
 by_cases h60:(60:Int)<(l.length:Int)
 ·simp -dsimp -implicitDefEqProofs only[go_sem,seval,↓reduceIte,Tm.pvs_len,h60,haw]
 ·have hll:l.length<=60:=by omega
  have hz:zaN l=true->Tm.sizes l<=200000:=fun hv=>by have:=zhn l hv;omega
  have hG:=zoM l (by omega) (by omega) hz []
  have hR:=zoT l (by omega) (by omega) hz []
  have hS:=zkL (zby l).1 (zjk l) (by have:=zmd l;omega)
  generalize zby l=R at*
  simp -dsimp -implicitDefEqProofs only[go_sem,seval,↓reduceIte,Tm.pvs_len,h60,haw,hG,hR,hS]
set_option maxRecDepth 100000 in
theorem bagsGroups_lifted(os:Os)(started:os.Started)(H:Type)(enc:TypeId × Value->H)(F:Stop.Interp):
  ReturnsInHanded {} Tryz.checked os 3 .any ((Rows.OpenSpec.upto Rows.bagsGroupsSpec).pre6 enc Tryz.prog Tryz.f3 Rows.bagsGroupsUptoRow.domain false) (((Rows.OpenSpec.upto Rows.bagsGroupsSpec).at F).post enc Tryz.prog Tryz.f3 false true false false):=by
 refine returnsInHanded_of_cond (C:=Tryz.checked) (s:=(Rows.OpenSpec.upto Rows.bagsGroupsSpec)) (k:=Rows.uptoSmall) rfl Tryz.own started (by kernel_rfl) Tryz.func3
  (OpenSpec.witness (enc:=enc) (C:=Tryz.checked) (s:=(Rows.OpenSpec.upto Rows.bagsGroupsSpec)) (k:=Rows.uptoSmall) rfl false ⟨#[],#[.slice none 0 0],[]⟩ 8 (by kernel_rfl) (by kernel_rfl) (by kernel_rfl)
   (x:=([.nil],[],[])) (by kernel_rfl) rfl (by kernel_rfl)) ?_
 intro W base args ds gs before hval0 hW _ hk _
 have hval:∀(j:Nat) t v,Tryz.f3.params[j]? =some t->args[j]? =some v->Value.okWide Tryz.prog W .any base t v:=hval0
 have hb:=zoG hk
 have hW':=hW
 obtain⟨p,q,hA0,hV,rfl,hfz,hnd⟩:=hW
 have hA:DataW.TrodAll enc Tryz.prog W 0 (fun _=>true) true Tryz.f3.params.toList args.toList ds p:=hA0
 rw[Tryz.params3] at hA hval
 clear hA0 hval0
 obtain⟨v0,vs0,d0,ds0,p0,q0,e0,rfl,rfl,h0,r0'⟩:=trodAll_cons hA
 obtain⟨e1,rfl,rfl⟩:=trodAll_nil r0'
 subst e1
 obtain rfl:args= #[v0]:=by cases args;simp_all
 obtain⟨rfl,rfl⟩:=trodVars_none hV
 obtain⟨t0,a0,z0,r0⟩:=zoH h0 (hval 0 _ v0 rfl rfl)
 simp only[Rows.uptoBulkAll,List.append_nil] at hb
 exact zkm sound Tryz.func3 (by kernel_rfl) Tryz.zxu (s:=Rows.bagsGroupsSpec) rfl rfl hW' (.cons a0 (.nil)) (zhQ t0 (by omega))
theorem bagsGroups_holds:Rows.BagsGroupsUptoSaid:=
 OpenClaim.holds_of_cond 3 Tryz.f3 rfl rfl rfl rfl rfl rfl rfl ⟨rfl,rfl,rfl,rfl,rfl⟩ rfl rfl rfl rfl rfl (by kernel_rfl) Tryz.func3 (by kernel_rfl)
  (of_decide_eq_true (by kernel_rfl)) (by unfold Func.isWrapper;first|(rw[if_pos (by decide+kernel)];kernel_rfl)|(rw[if_neg (by decide+kernel)];exact⟨rfl,rfl⟩))
  (fun os started H enc _ F=>bagsGroups_lifted os started H enc F)
end Go.Proofs.YtffecaafklpmhaaGreat
