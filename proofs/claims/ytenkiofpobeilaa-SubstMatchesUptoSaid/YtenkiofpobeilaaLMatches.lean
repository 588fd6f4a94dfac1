/- What is proved: SubstMatches answers true for every pattern and term, where what it reads is of bulk at most 1048576. -/
import Derived.Test.YtenkiofpobeilaaRMt
import Derived.Test.YtenkiofpobeilaaRun
import Derived.Test.YtenkiofpobeilaaData
set_option linter.unusedSimpArgs false
set_option linter.unusedVariables false
namespace Go.Proofs.Ytenkiofpobeilaa
open Go.Am Go.ChangeShapes Go.WideShapes Go.ChangeAt Go.RowKit
theorem mtR_good (p t : Tm) (ht : t.size < 1000000000) : Good ((mtR p t).getD []) ∧ ((mtR p t).getD []).length ≤ p.size := by
  unfold mtR
  split
  · rename_i h
    cases hR : pmt p t [] with
    | none => exact ⟨⟨by simp [Srt'], by simp⟩, by simp⟩
    | some l =>
      have := pmt_good p t [] l ⟨by simp [Srt'], by simp⟩ h.2 ht hR
      exact ⟨this.1, by simpa using this.2⟩
  · exact ⟨⟨by simp [Srt'], by simp⟩, by simp⟩
theorem substMatches_sem (p t : Tm) (hp : p.size ≤ 1048576) (ht : t.size ≤ 1048576) : S 4 [p.av, t.av] [] = some (.ret (.pv none (.bool true)), []) := by
  refine sem_pure rfl rfl rfl (freezeAll_pvs [(some 4, p.pv), (some 4, t.pv)]) rfl ?_
  have h1 := fun hp => pmatch_ok p t hp (by omega) (by omega)
  have h2 := fun hp => rmatch_ok p t hp (by omega) (by omega)
  obtain ⟨g1, g2⟩ := mtR_good p t (by omega)
  have h3 := sameB_ok _ g1 (by omega)
  have h4 : ∀ hp, S 11 [] hp = some (.ret (.pv none (.bool true)), hp) := fun hp => sem_any (ps := []) rfl rfl rfl rfl awake_ok
  have e : ∀ b : Bool, (b == b) = true := fun b => by cases b <;> rfl
  simp only [Tm.av] at h1 h2
  generalize (mtR p t).isSome = q at h1 h2
  generalize (mtR p t).getD [] = m at h1 h2 h3
  simp -dsimp -implicitDefEqProofs only [g4, c4r0, c4r1, c4r2, c4r3, c4, go_sem, seval, ↓reduceIte, h1, h2, h3, h4, e]
  done
set_option maxRecDepth 100000 in
theorem substMatches_lifted (os : Os) (started : os.Started) (H : Type) (enc : TypeId × Value → H) (F : Stop.Interp) :
    ReturnsInHanded {} Try.checked os 4 .any ((Rows.OpenSpec.upto Rows.substMatchesSpec).pre6 enc Try.prog Try.f4 Rows.substMatchesUptoRow.domain false) (((Rows.OpenSpec.upto Rows.substMatchesSpec).at F).post enc Try.prog Try.f4 false true false false) := by
  refine returnsInHanded_of_cond (C := Try.checked) (s := (Rows.OpenSpec.upto Rows.substMatchesSpec)) (k := Rows.uptoSmall) rfl Try.own started (by kernel_rfl) Try.func4
    (OpenSpec.witness (enc := enc) (C := Try.checked) (s := (Rows.OpenSpec.upto Rows.substMatchesSpec)) (k := Rows.uptoSmall) rfl false ⟨#[], #[.agg #[.int .i64 0, .int .i64 0, .string ⟨#[]⟩, .slice none 0 0], .agg #[.int .i64 0, .int .i64 0, .string ⟨#[]⟩, .slice none 0 0]], []⟩ 8 (by kernel_rfl) (by kernel_rfl) (by kernel_rfl)
      (x := ([.agg [.lit (.int .i64 0), .lit (.int .i64 0), .lit (.string []), .nil], .agg [.lit (.int .i64 0), .lit (.int .i64 0), .lit (.string []), .nil]], [], [])) (by kernel_rfl) rfl (by kernel_rfl)) ?_
  intro W base args ds gs before hval0 hW _ hk _
  have hval : ∀ (j : Nat) t v, Try.f4.params[j]? = some t → args[j]? = some v → Value.okWide Try.prog W .any base t v := hval0
  have hb := bulk_bound hk
  have hW' := hW
  obtain ⟨p, q, hA0, hV, rfl, hfz, hnd⟩ := hW
  have hA : DataW.TrodAll enc Try.prog W 0 (fun _ => true) true Try.f4.params.toList args.toList ds p := hA0
  rw [Try.params4] at hA hval
  clear hA0 hval0
  obtain ⟨v0, vs0, d0, ds0, p0, q0, e0, rfl, rfl, h0, r0'⟩ := trodAll_cons hA
  obtain ⟨v1, vs1, d1, ds1, p1, q1, e1, rfl, rfl, h1, r1'⟩ := trodAll_cons r0'
  obtain ⟨e2, rfl, rfl⟩ := trodAll_nil r1'
  subst e2
  subst e1
  obtain rfl : args = #[v0, v1] := by cases args; simp_all
  obtain ⟨rfl, rfl⟩ := trodVars_none hV
  obtain ⟨t0, a0, z0, r0⟩ := open_term h0 (hval 0 _ v0 rfl rfl)
  obtain ⟨t1, a1, z1, r1⟩ := open_term h1 (hval 1 _ v1 rfl rfl)
  simp only [Rows.uptoBulkAll, List.append_nil] at hb
  exact law_contract sound Try.func4 (by kernel_rfl) Try.laidOut (s := Rows.substMatchesSpec) rfl rfl hW' (.cons a0 (.cons a1 (.nil))) (substMatches_sem t0 t1 (by omega) (by omega))
theorem substMatches_holds : Rows.SubstMatchesUptoSaid :=
  OpenClaim.holds_of_cond 4 Try.f4 rfl rfl rfl rfl rfl rfl rfl ⟨rfl, rfl, rfl, rfl, rfl⟩ rfl rfl rfl rfl rfl (by kernel_rfl) Try.func4 (by kernel_rfl)
    (of_decide_eq_true (by kernel_rfl)) (by unfold Func.isWrapper; first | (rw [if_pos (by decide +kernel)]; kernel_rfl) | (rw [if_neg (by decide +kernel)]; exact ⟨rfl, rfl⟩))
    (fun os started H enc _ F => substMatches_lifted os started H enc F)
end Go.Proofs.Ytenkiofpobeilaa
