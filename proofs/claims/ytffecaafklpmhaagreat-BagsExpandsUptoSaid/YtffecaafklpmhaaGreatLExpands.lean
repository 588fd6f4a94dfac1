/- What is proved: BagsExpands answers true for all goals, where what it reads is of bulk at most 1048576. -/
import Derived.Test.YtffecaafklpmhaaGreatEx4
import Derived.Test.YtffecaafklpmhaaGreatRun9
import Derived.Test.YtffecaafklpmhaaGreatData
set_option linter.unusedSimpArgs false
set_option linter.unusedVariables false
namespace Go.Proofs.YtffecaafklpmhaaGreat
open Go.Am Go.ChangeShapes Go.WideShapes Go.ChangeAt Go.RowKit
theorem equal_ok (a b : Tm) (hp : Heap) (ha : a.size < 1000000000) (hb : b.size < 1000000000) : S 15 [a.av, b.av] hp = some (.ret (.pv none (.bool (same a b))), hp) := by
 refine sem_pure rfl rfl rfl (freezeAll_pvs [(some 4, a.pv), (some 4, b.pv)]) rfl ?_
 have h1 := fun hp => rsame_ok a b hp ha hb
 simp only [Tm.av] at h1
 simp -dsimp -implicitDefEqProofs only [g15, c15r0, c15r1, c15, go_sem, seval, ↓reduceIte, Tm.av, h1]
 try rfl
theorem zt_valid : zt.valid = true := by decide
theorem exN_valid (nm : List UInt8) (t : Tm) (hv : t.valid = true) (hk : t.args.length = 3) : (exN nm t).1.valid = true ∧ (exN nm t).2.1.valid = true := by
 have m1 : arg1 t ∈ t.args := by rw [args_three hk]; simp
 have m2 : arg2 t ∈ t.args := by rw [args_three hk]; simp
 have v1 := valid_arg hv m1
 have v2 := valid_arg hv m2
 have hiv := inner_valid _ (arg1 t) rfl v1
 unfold exN
 split
 ·exact ⟨zt_valid, instT_valid⟩
 ·split
  ·exact ⟨zt_valid, (typ_valid (by decide) hiv).2⟩
  ·split
   ·exact ⟨zt_valid, (typ_valid (by decide) v2).2⟩
   ·split
    ·rename_i h; exact ⟨h.2, zt_valid⟩
    ·exact ⟨zt_valid, zt_valid⟩
theorem exR_valid (t : Tm) : (exR t).1.valid = true ∧ (exR t).2.1.valid = true := by
 unfold exR
 split
 ·rename_i hv
  split
  ·rename_i h; exact exN_valid _ t hv h.2.2
  ·split
   ·rename_i h; exact exN_valid _ t hv h.2.2
   ·exact ⟨zt_valid, zt_valid⟩
 ·exact ⟨zt_valid, zt_valid⟩
theorem bagsExpands_sem (t : Tm) (ht : t.size ≤ 1048576) :
  S 7 [t.av] [] = some (.ret (.pv none (.bool true)), []) := by
 refine sem_pure rfl rfl rfl (freezeAll_pvs [(some 4, t.pv)]) rfl ?_
 obtain ⟨v1, v2⟩ := exR_valid t
 have z1 := valid_size v1
 have z2 := valid_size v2
 have h1 := pexpand_ok t (by omega)
 have h2 := rexpand_ok t (by omega)
 have h5 := fun hp => equal_ok (exR t).1 (exR t).1 hp (by omega) (by omega)
 have h6 := fun hp => equal_ok (exR t).2.1 (exR t).2.1 hp (by omega) (by omega)
 rw [same_self v1] at h5
 rw [same_self v2] at h6
 obtain ⟨HA, haw0⟩ := awake9
 have haw : ∀ hp, S 9 [] hp = some (.ret (.pv none (.bool true)), hp) := fun hp => sem_any (F := find tab) (prim := prim) (f := 9) (args := []) (ps := []) (hp := hp) (hp1 := hp) rfl rfl rfl rfl haw0
 simp only [Tm.av] at h1 h2 h5 h6
 generalize (exR t).1.pv = A at *
 generalize (exR t).2.1.pv = B at *
 generalize (exR t).2.2 = k at *
 simp -dsimp -implicitDefEqProofs only [g7, c7r0, c7r1, c7r2, c7r3, c7, go_sem, seval, ↓reduceIte, Tm.av, h1, h2, h5, h6, haw, w_alloc_agg]
set_option maxRecDepth 100000 in
theorem bagsExpands_lifted (os : Os) (started : os.Started) (H : Type) (enc : TypeId × Value → H) (F : Stop.Interp) :
  ReturnsInHanded {} Tryz.checked os 7 .any ((Rows.OpenSpec.upto Rows.bagsExpandsSpec).pre6 enc Tryz.prog Tryz.f7 Rows.bagsExpandsUptoRow.domain false) (((Rows.OpenSpec.upto Rows.bagsExpandsSpec).at F).post enc Tryz.prog Tryz.f7 false true false false) := by
 refine returnsInHanded_of_cond (C := Tryz.checked) (s := (Rows.OpenSpec.upto Rows.bagsExpandsSpec)) (k := Rows.uptoSmall) rfl Tryz.own started (by kernel_rfl) Tryz.func7
  (OpenSpec.witness (enc := enc) (C := Tryz.checked) (s := (Rows.OpenSpec.upto Rows.bagsExpandsSpec)) (k := Rows.uptoSmall) rfl false ⟨#[], #[.agg #[.int .i64 0, .int .i64 0, .string ⟨#[]⟩, .slice none 0 0]], []⟩ 8 (by kernel_rfl) (by kernel_rfl) (by kernel_rfl)
   (x := ([.agg [.lit (.int .i64 0), .lit (.int .i64 0), .lit (.string []), .nil]], [], [])) (by kernel_rfl) rfl (by kernel_rfl)) ?_
 intro W base args ds gs before hval0 hW _ hk _
 have hval : ∀ (j : Nat) t v, Tryz.f7.params[j]? = some t → args[j]? = some v → Value.okWide Tryz.prog W .any base t v := hval0
 have hb := bulk_bound hk
 have hW' := hW
 obtain ⟨p, q, hA0, hV, rfl, hfz, hnd⟩ := hW
 have hA : DataW.TrodAll enc Tryz.prog W 0 (fun _ => true) true Tryz.f7.params.toList args.toList ds p := hA0
 rw [Tryz.params7] at hA hval
 clear hA0 hval0
 obtain ⟨v0, vs0, d0, ds0, p0, q0, e0, rfl, rfl, h0, r0'⟩ := trodAll_cons hA
 obtain ⟨e1, rfl, rfl⟩ := trodAll_nil r0'
 subst e1
 obtain rfl : args = #[v0] := by cases args; simp_all
 obtain ⟨rfl, rfl⟩ := trodVars_none hV
 obtain ⟨t0, a0, z0, r0⟩ := open_term h0 (hval 0 _ v0 rfl rfl)
 simp only [Rows.uptoBulkAll, List.append_nil] at hb
 exact law_contract sound Tryz.func7 (by kernel_rfl) Tryz.laidOut (s := Rows.bagsExpandsSpec) rfl rfl hW' (.cons a0 (.nil)) (bagsExpands_sem t0 (by omega))
theorem bagsExpands_holds : Rows.BagsExpandsUptoSaid :=
 OpenClaim.holds_of_cond 7 Tryz.f7 rfl rfl rfl rfl rfl rfl rfl ⟨rfl, rfl, rfl, rfl, rfl⟩ rfl rfl rfl rfl rfl (by kernel_rfl) Tryz.func7 (by kernel_rfl)
  (of_decide_eq_true (by kernel_rfl)) (by unfold Func.isWrapper; first | (rw [if_pos (by decide +kernel)]; kernel_rfl) | (rw [if_neg (by decide +kernel)]; exact ⟨rfl, rfl⟩))
  (fun os started H enc _ F => bagsExpands_lifted os started H enc F)
end Go.Proofs.YtffecaafklpmhaaGreat
