/- What is proved: ChunkOf answers true for every flat clause, where what it reads is of bulk at most 1048576. -/
import Derived.Test.YtmajapjbogmefaaROf3
import Derived.Test.YtmajapjbogmefaaSame
set_option linter.unusedSimpArgs false
set_option linter.unusedVariables false
namespace Go.Proofs.Ytmajapjbogmefaa
open Go.Am Go.ChangeShapes Go.WideShapes Go.ChangeAt Go.RowKit
theorem chunkOf_sem (f : Fl) (hf : f.pv.sz ≤ 1048576) : S 3 [f.av] [] = some (.ret (.pv none (.bool true)), []) := by
  refine sem_pure rfl rfl rfl (freezeAll_pvs [(some 5, f.pv)]) rfl ?_
  have b1 := fl_args_sz f
  have b2 := fl_plcs_sz f
  have b3 := fl_len_sz f
  have b4 := fun g hg => fl_goal_sz f (g := g) hg
  have b5 : (placesP f).length ≤ 1048576 := by rw [← placesP_eq, List.length_map] at b2; omega
  have b6 := perm_len f
  have h1 := small_ok f
  have h2 := awake_ok
  have h3 := fun hp => of_ok f hp (by omega) (fun g hg => by have := b4 g hg; omega) (by omega) (by omega)
  have h4 := fun hp => rof_ok f hp (by omega) (fun g hg => by have := b4 g hg; omega) (by omega) (by omega)
  have h5 : ∀ hp, S 14 [.pv (some 3) (ofPV f), .pv (some 3) (ofPV f)] hp = some (.ret (.pv none (.bool true)), hp) := fun hp => by
    unfold ofPV
    split
    · exact same_ok _ _ _ hp (by rw [ofsOf_len]; omega) (by omega) (by rw [livesOf_len]; omega)
    · exact same_ok _ _ _ hp (by simp) (by simp) (by simp)
  simp only [Fl.av] at h1 h3 h4
  by_cases hs : Fl.small f = true
  · rw [hs] at h1
    generalize (if f.valid = true then (0 : Int) else 1) = e at *
    simp -dsimp -implicitDefEqProofs only [g3, c3r0, c3r1, c3r2, c3k3, c3r4, c3r5, c3r6, c3, go_sem, seval, ↓reduceIte, h1, h2, h3, h4, h5]
  · rw [Bool.not_eq_true] at hs
    rw [hs] at h1
    simp -dsimp -implicitDefEqProofs only [g3, c3r0, c3r1, c3r2, c3k3, c3r4, c3r5, c3r6, c3, go_sem, seval, ↓reduceIte, h1, h2]
set_option maxRecDepth 100000 in
theorem chunkOf_lifted (os : Os) (started : os.Started) (H : Type) (enc : TypeId × Value → H) (F : Stop.Interp) :
    ReturnsInHanded {} Try.checked os 3 .any ((Rows.OpenSpec.upto Rows.chunkOfSpec).pre6 enc Try.prog Try.f3 Rows.chunkOfUptoRow.domain false) (((Rows.OpenSpec.upto Rows.chunkOfSpec).at F).post enc Try.prog Try.f3 false true false false) := by
  refine returnsInHanded_of_cond (C := Try.checked) (s := (Rows.OpenSpec.upto Rows.chunkOfSpec)) (k := Rows.uptoSmall) rfl Try.own started (by kernel_rfl) Try.func3
    (OpenSpec.witness (enc := enc) (C := Try.checked) (s := (Rows.OpenSpec.upto Rows.chunkOfSpec)) (k := Rows.uptoSmall) rfl false ⟨#[], #[.agg #[.string ⟨#[]⟩, .int .i64 0, .int .i64 0, .slice none 0 0, .slice none 0 0]], []⟩ 8 (by kernel_rfl) (by kernel_rfl) (by kernel_rfl)
      (x := ([.agg [.agg [.lit (.string []), .lit (.int .i64 0), .lit (.int .i64 0)], .nil, .nil]], [], [])) (by kernel_rfl) rfl (by kernel_rfl)) ?_
  intro W base args ds gs before hval0 hW _ hk _
  have hval : ∀ (j : Nat) t v, Try.f3.params[j]? = some t → args[j]? = some v → Value.okWide Try.prog W .any base t v := hval0
  have hb := bulk_bound hk
  have hW' := hW
  obtain ⟨p, q, hA0, hV, rfl, hfz, hnd⟩ := hW
  have hA : DataW.TrodAll enc Try.prog W 0 (fun _ => true) true Try.f3.params.toList args.toList ds p := hA0
  rw [Try.params3] at hA hval
  clear hA0 hval0
  obtain ⟨v0, vs0, d0, ds0, p0, q0, e0, rfl, rfl, h0, r0'⟩ := trodAll_cons hA
  obtain ⟨e1, rfl, rfl⟩ := trodAll_nil r0'
  subst e1
  obtain rfl : args = #[v0] := by cases args; simp_all
  obtain ⟨rfl, rfl⟩ := trodVars_none hV
  obtain ⟨t0, a0, z0⟩ := open_flat h0 (hval 0 _ v0 rfl rfl)
  simp only [Rows.uptoBulkAll, List.append_nil] at hb
  exact law_contract sound Try.func3 (by kernel_rfl) Try.laidOut (s := Rows.chunkOfSpec) rfl rfl hW' (.cons a0 (.nil)) (chunkOf_sem t0 (by omega))
theorem chunkOf_holds : Rows.ChunkOfUptoSaid :=
  OpenClaim.holds_of_cond 3 Try.f3 rfl rfl rfl rfl rfl rfl rfl ⟨rfl, rfl, rfl, rfl, rfl⟩ rfl rfl rfl rfl rfl (by kernel_rfl) Try.func3 (by kernel_rfl)
    (of_decide_eq_true (by kernel_rfl)) (by unfold Func.isWrapper; first | (rw [if_pos (by decide +kernel)]; kernel_rfl) | (rw [if_neg (by decide +kernel)]; exact ⟨rfl, rfl⟩))
    (fun os started H enc _ F => chunkOf_lifted os started H enc F)
end Go.Proofs.Ytmajapjbogmefaa
