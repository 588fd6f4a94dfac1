/- What is proved: BagsFree answers true for all terms, where what it reads is of bulk at most 1048576. -/
import Derived.Test.YtffecaafklpmhaaGreatPFre
import Derived.Test.YtffecaafklpmhaaGreatRun9
import Derived.Test.YtffecaafklpmhaaGreatData
set_option linter.unusedSimpArgs false
set_option linter.unusedVariables false
namespace Go.Proofs.YtffecaafklpmhaaGreat
open Go.Am Go.ChangeShapes Go.WideShapes Go.ChangeAt Go.RowKit
theorem equal_ok (a b : Tm) (hp : Heap) (ha : a.size < 1000000000) (hb : b.size < 1000000000) : S 15 [a.av, b.av] hp = some (.ret (.pv none (.bool (same a b))), hp) := by
 refine sem_pure rfl rfl rfl (freezeAll_pvs [(some 4, a.pv), (some 4, b.pv)]) rfl ?_
 have h1 := fun hp => rsame_ok a b hp ha hb
 simp only [Tm.av] at h1
 simp -dsimp -implicitDefEqProofs only [g15, c15r0, c15r1, c15, go_sem, seval, ↓reduceIte, Tm.av, h1]
 try rfl
theorem zt_valid : zt.valid = true := by decide
theorem stR_valid (t : Tm) : (stR t).valid = true := by
 unfold stR
 split
 ·rename_i h; exact inner_valid _ t rfl h
 ·exact zt_valid
theorem frR_valid (p g : Tm) : (frR p g).valid = true := by
 unfold frR
 split
 ·split
  ·rename_i h; exact h
  ·exact zt_valid
 ·exact zt_valid
theorem bagsFree_sem (p g : Tm) (hp0 : p.size ≤ 1048576) (hg0 : g.size ≤ 1048576) :
  S 6 [p.av, g.av] [] = some (.ret (.pv none (.bool true)), []) := by
 refine sem_pure rfl rfl rfl (freezeAll_pvs [(some 4, p.pv), (some 4, g.pv)]) rfl ?_
 have v1 := stR_valid g
 have v2 := frR_valid p g
 have z1 := valid_size v1
 have z2 := valid_size v2
 have h1 := pstrip_ok g (by omega) []
 have h2 := rstrip_ok g (by omega) []
 have h3 := pFree_ok p g (by omega) (by omega) []
 have h4 := rFree_ok p g (by omega) (by omega) []
 have h5 := equal_ok (stR g) (stR g) [] (by omega) (by omega)
 have h6 := equal_ok (frR p g) (frR p g) [] (by omega) (by omega)
 rw [same_self v1] at h5
 rw [same_self v2] at h6
 obtain ⟨HA, haw⟩ := awake9
 simp only [Tm.av] at h1 h2 h3 h4 h5 h6
 generalize (stR g).pv = A at *
 generalize (frR p g).pv = B at *
 simp -dsimp -implicitDefEqProofs only [g6, c6r0, c6r1, c6, go_sem, seval, ↓reduceIte, Tm.av, h1, h2, h3, h4, h5, h6, haw]
set_option maxRecDepth 100000 in
theorem bagsFree_lifted (os : Os) (started : os.Started) (H : Type) (enc : TypeId × Value → H) (F : Stop.Interp) :
  ReturnsInHanded {} Tryz.checked os 6 .any ((Rows.OpenSpec.upto Rows.bagsFreeSpec).pre6 enc Tryz.prog Tryz.f6 Rows.bagsFreeUptoRow.domain false) (((Rows.OpenSpec.upto Rows.bagsFreeSpec).at F).post enc Tryz.prog Tryz.f6 false true false false) := by
 refine returnsInHanded_of_cond (C := Tryz.checked) (s := (Rows.OpenSpec.upto Rows.bagsFreeSpec)) (k := Rows.uptoSmall) rfl Tryz.own started (by kernel_rfl) Tryz.func6
  (OpenSpec.witness (enc := enc) (C := Tryz.checked) (s := (Rows.OpenSpec.upto Rows.bagsFreeSpec)) (k := Rows.uptoSmall) rfl false ⟨#[], #[.agg #[.int .i64 0, .int .i64 0, .string ⟨#[]⟩, .slice none 0 0], .agg #[.int .i64 0, .int .i64 0, .string ⟨#[]⟩, .slice none 0 0]], []⟩ 8 (by kernel_rfl) (by kernel_rfl) (by kernel_rfl)
   (x := ([.agg [.lit (.int .i64 0), .lit (.int .i64 0), .lit (.string []), .nil], .agg [.lit (.int .i64 0), .lit (.int .i64 0), .lit (.string []), .nil]], [], [])) (by kernel_rfl) rfl (by kernel_rfl)) ?_
 intro W base args ds gs before hval0 hW _ hk _
 have hval : ∀ (j : Nat) t v, Tryz.f6.params[j]? = some t → args[j]? = some v → Value.okWide Tryz.prog W .any base t v := hval0
 have hb := bulk_bound hk
 have hW' := hW
 obtain ⟨p, q, hA0, hV, rfl, hfz, hnd⟩ := hW
 have hA : DataW.TrodAll enc Tryz.prog W 0 (fun _ => true) true Tryz.f6.params.toList args.toList ds p := hA0
 rw [Tryz.params6] at hA hval
 clear hA0 hval0
 obtain ⟨v0, vs0, d0, ds0, p0, q0, e0, rfl, rfl, h0, r0'⟩ := trodAll_cons hA
 obtain ⟨v1, vs1, d1, ds1, p1, q1, e1, rfl, rfl, h1, r1'⟩ := trodAll_cons r0'
 obtain ⟨e2, rfl, rfl⟩ := trodAll_nil r1'
 subst e2
 subst e1
 obtain rfl : args = #[v0, v1] := by cases args; simp_all
 obtain ⟨rfl, rfl⟩ := trodVars_none hV
 obtain ⟨t0, a0, z0, r0⟩ := open_term h0 (hval 0 _ v0 rfl rfl)
 obtain ⟨t1, a1, z1, r1⟩ := open_term h1 (hval 1 _ v1 rfl rfl)
 simp only [Rows.uptoBulkAll, List.append_nil] at hb
 exact law_contract sound Tryz.func6 (by kernel_rfl) Tryz.laidOut (s := Rows.bagsFreeSpec) rfl rfl hW' (.cons a0 (.cons a1 (.nil))) (bagsFree_sem t0 t1 (by omega) (by omega))
theorem bagsFree_holds : Rows.BagsFreeUptoSaid :=
 OpenClaim.holds_of_cond 6 Tryz.f6 rfl rfl rfl rfl rfl rfl rfl ⟨rfl, rfl, rfl, rfl, rfl⟩ rfl rfl rfl rfl rfl (by kernel_rfl) Tryz.func6 (by kernel_rfl)
  (of_decide_eq_true (by kernel_rfl)) (by unfold Func.isWrapper; first | (rw [if_pos (by decide +kernel)]; kernel_rfl) | (rw [if_neg (by decide +kernel)]; exact ⟨rfl, rfl⟩))
  (fun os started H enc _ F => bagsFree_lifted os started H enc F)
end Go.Proofs.YtffecaafklpmhaaGreat
