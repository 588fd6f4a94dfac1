/- What is proved: InspectHas answers true for every name and number, where what it reads is of bulk at most 1048576. -/
import Derived.Test.YtiifblpdlphchaaGreatRRHas
import Derived.Test.YtiifblpdlphchaaGreatRRData3
set_option linter.unusedSimpArgs false
set_option linter.unusedVariables false
namespace Go.Proofs.YtiifblpdlphchaaGreatRR
open Go.Am Go.ChangeShapes Go.WideShapes Go.ChangeAt Go.RowKit
theorem inspectHas_sem (s : List UInt8) (n : Int) : S 3 [.pv none (.str s), .pv none (.int .i64 n)] [] = some (.ret (.pv none (.bool true)), []) := by
  refine sem_pure rfl rfl rfl (freezeAll_pvs [(none, .str s), (none, .int .i64 n)]) rfl ?_
  have h1 := has_ok s n
  have h2 := rhas_ok s n
  have h3 : S 13 [] [] = _ := sem13
  have e : ∀ b : Bool, (b == b) = true := fun b => by cases b <;> rfl
  generalize decide (s ∈ namesOf n) = q at h1 h2
  simp -dsimp -implicitDefEqProofs only [g3, c3r0, c3r1, c3, go_sem, seval, ↓reduceIte, h1, h2, h3, e]
set_option maxRecDepth 100000 in
theorem inspectHas_lifted (os : Os) (started : os.Started) (H : Type) (enc : TypeId × Value → H) (F : Stop.Interp) :
    ReturnsInHanded {} Tryz.checked os 3 .any ((Rows.OpenSpec.upto Rows.inspectHasSpec).pre6 enc Tryz.prog Tryz.f3 Rows.inspectHasUptoRow.domain false) (((Rows.OpenSpec.upto Rows.inspectHasSpec).at F).post enc Tryz.prog Tryz.f3 false true false false) := by
  refine returnsInHanded_of_cond (C := Tryz.checked) (s := (Rows.OpenSpec.upto Rows.inspectHasSpec)) (k := Rows.uptoSmall) rfl Tryz.own started (by kernel_rfl) Tryz.func3
    (OpenSpec.witness (enc := enc) (C := Tryz.checked) (s := (Rows.OpenSpec.upto Rows.inspectHasSpec)) (k := Rows.uptoSmall) rfl false ⟨#[], #[.string ⟨#[]⟩, .int .i64 0], []⟩ 8 (by kernel_rfl) (by kernel_rfl) (by kernel_rfl)
      (x := ([.lit (.string []), .lit (.int .i64 0)], [], [])) (by kernel_rfl) rfl (by kernel_rfl)) ?_
  intro W base args ds gs before hval0 hW _ hk _
  have hval : ∀ (j : Nat) t v, Tryz.f3.params[j]? = some t → args[j]? = some v → Value.okWide Tryz.prog W .any base t v := hval0
  have hb := bulk_bound hk
  have hW' := hW
  obtain ⟨p, q, hA0, hV, rfl, hfz, hnd⟩ := hW
  have hA : DataW.TrodAll enc Tryz.prog W 0 (fun _ => true) true Tryz.f3.params.toList args.toList ds p := hA0
  rw [Tryz.params3] at hA hval
  clear hA0 hval0
  obtain ⟨v0, vs0, d0, ds0, p0, q0, e0, rfl, rfl, h0, r0'⟩ := trodAll_cons hA
  obtain ⟨v1, vs1, d1, ds1, p1, q1, e1, rfl, rfl, h1, r1'⟩ := trodAll_cons r0'
  obtain ⟨e2, rfl, rfl⟩ := trodAll_nil r1'
  subst e2
  subst e1
  obtain rfl : args = #[v0, v1] := by cases args; simp_all
  obtain ⟨rfl, rfl⟩ := trodVars_none hV
  obtain ⟨t0, a0, z0⟩ := open_str h0 (hval 0 _ v0 rfl rfl)
  obtain ⟨t1, a1, r1⟩ := open_int h1 (hval 1 _ v1 rfl rfl)
  simp only [Rows.uptoBulkAll, List.append_nil] at hb
  exact law_contract sound Tryz.func3 (by kernel_rfl) Tryz.laidOut (s := Rows.inspectHasSpec) rfl rfl hW' (.cons a0 (.cons a1 (.nil))) (inspectHas_sem t0 t1)
theorem inspectHas_holds : Rows.InspectHasUptoSaid :=
  OpenClaim.holds_of_cond 3 Tryz.f3 rfl rfl rfl rfl rfl rfl rfl ⟨rfl, rfl, rfl, rfl, rfl⟩ rfl rfl rfl rfl rfl (by kernel_rfl) Tryz.func3 (by kernel_rfl)
    (of_decide_eq_true (by kernel_rfl)) (by unfold Func.isWrapper; first | (rw [if_pos (by decide +kernel)]; kernel_rfl) | (rw [if_neg (by decide +kernel)]; exact ⟨rfl, rfl⟩))
    (fun os started H enc _ F => inspectHas_lifted os started H enc F)
end Go.Proofs.YtiifblpdlphchaaGreatRR
