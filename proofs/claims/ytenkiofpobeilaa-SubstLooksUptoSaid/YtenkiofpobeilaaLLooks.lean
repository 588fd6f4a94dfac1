/- What is proved: SubstLooks answers true for all bindings, terms and variables, where what it reads is of bulk at most 1048576. -/
import Derived.Test.YtenkiofpobeilaaROc
import Derived.Test.YtenkiofpobeilaaRun
import Derived.Test.YtenkiofpobeilaaData3
set_option linter.unusedSimpArgs false
set_option linter.unusedVariables false
namespace Go.Proofs.Ytenkiofpobeilaa
open Go.Am Go.ChangeShapes Go.WideShapes Go.ChangeAt Go.RowKit
theorem zt_valid : zt.valid = true := by decide
theorem lkR_valid (l : List B) (t : Tm) : (lkR l t).valid = true := by
  unfold lkR
  split
  · rename_i h
    exact (flw_ok (okb_iff.1 h.1) _ t rfl h.2).1
  · exact zt_valid
theorem rsR_valid (l : List B) (t : Tm) : (rsR l t).1.valid = true := by
  unfold rsR
  split
  · rename_i h
    split
    · rename_i hs
      exact valid_of (rs_fits (okb_iff.1 h.1) _ t rfl (valid_fits h.2)) hs
    · exact zt_valid
  · exact zt_valid
theorem substLooks_sem (l : List B) (t : Tm) (v : Int) (hl : l.length ≤ 1048576) (hsz : ∀ b ∈ l, b.2.size ≤ 1048576) (ht : t.size ≤ 1048576) :
    S 9 [.pv none (.sl (some 5) (bds l)), t.av, .pv none (.int .i64 v)] [] = some (.ret (.pv none (.bool true)), []) := by
  refine sem_pure rfl rfl rfl (freezeAll_pvs [(none, .sl (some 5) (bds l)), (some 4, t.pv), (none, .int .i64 v)]) rfl ?_
  have hsz9 : ∀ b ∈ l, b.2.size < 1000000000 := fun b hb => by have := hsz b hb; omega
  obtain ⟨lg, h1, hlg⟩ := long_ok l (by omega) fun b hb => by have := hsz b hb; omega
  have h2 := rvalidB_eq l (by omega) hsz9
  have h3 := pvalidB_ok l (by omega) hsz9
  have haw := fun hp0 => awake_all hp0 awake_ok
  cases lg with
  | true => simp -dsimp -implicitDefEqProofs only [g9, c9r0, c9r1, c9r2, c9k3, c9r4, c9r5, c9k6, c9r7, c9r8, c9r9, c9, go_sem, seval, ↓reduceIte, h1, haw]
  | false =>
  have h4 := plook_ok l t (by omega) hsz9 (by omega)
  have h5 := rlook_ok l t (by omega) hsz9 (by omega)
  have h6 := presolve_ok l t (by omega) hsz9 (by omega)
  have h7 := rresolve_ok l t (by omega) hsz9 (by omega)
  have h8 := poccurs_ok l v t (by omega) hsz9 (by omega)
  have h9 := roccurs_ok l v t (by omega) hsz9 (by omega)
  have v1 := lkR_valid l t
  have v2 := rsR_valid l t
  have z1 := valid_size v1
  have z2 := valid_size v2
  have s1 := fun hp => rsame_ok (lkR l t) (lkR l t) hp (by omega) (by omega)
  have s2 := fun hp => rsame_ok (rsR l t).1 (rsR l t).1 hp (by omega) (by omega)
  rw [same_self v1] at s1
  rw [same_self v2] at s2
  simp only [Tm.av] at h4 h5 h6 h7 h8 h9 s1 s2
  have hbb : ∀ b : Bool, (b == b) = true := fun b => by cases b <;> rfl
  generalize (rsR l t).1 = R at *
  generalize (rsR l t).2 = e at *
  generalize lkR l t = K at *
  generalize occB l v t = o at *
  simp -dsimp -implicitDefEqProofs only [g9, c9r0, c9r1, c9r2, c9k3, c9r4, c9r5, c9k6, c9r7, c9r8, c9r9, c9, go_sem, seval, ↓reduceIte, h1, h2, h3, h4, h5, h6, h7, h8, h9, s1, s2, hbb, haw, w_alloc_agg, w_store_agg (Nat.zero_le _)]
set_option maxRecDepth 100000 in
theorem substLooks_lifted (os : Os) (started : os.Started) (H : Type) (enc : TypeId × Value → H) (F : Stop.Interp) :
    ReturnsInHanded {} Try.checked os 9 .any ((Rows.OpenSpec.upto Rows.substLooksSpec).pre6 enc Try.prog Try.f9 Rows.substLooksUptoRow.domain false) (((Rows.OpenSpec.upto Rows.substLooksSpec).at F).post enc Try.prog Try.f9 false true false false) := by
  refine returnsInHanded_of_cond (C := Try.checked) (s := (Rows.OpenSpec.upto Rows.substLooksSpec)) (k := Rows.uptoSmall) rfl Try.own started (by kernel_rfl) Try.func9
    (OpenSpec.witness (enc := enc) (C := Try.checked) (s := (Rows.OpenSpec.upto Rows.substLooksSpec)) (k := Rows.uptoSmall) rfl false ⟨#[], #[.slice none 0 0, .agg #[.int .i64 0, .int .i64 0, .string ⟨#[]⟩, .slice none 0 0], .int .i64 0], []⟩ 8 (by kernel_rfl) (by kernel_rfl) (by kernel_rfl)
      (x := ([.nil, .agg [.lit (.int .i64 0), .lit (.int .i64 0), .lit (.string []), .nil], .lit (.int .i64 0)], [], [])) (by kernel_rfl) rfl (by kernel_rfl)) ?_
  intro W base args ds gs before hval0 hW _ hk _
  have hval : ∀ (j : Nat) t v, Try.f9.params[j]? = some t → args[j]? = some v → Value.okWide Try.prog W .any base t v := hval0
  have hb := bulk_bound hk
  have hW' := hW
  obtain ⟨p, q, hA0, hV, rfl, hfz, hnd⟩ := hW
  have hA : DataW.TrodAll enc Try.prog W 0 (fun _ => true) true Try.f9.params.toList args.toList ds p := hA0
  rw [Try.params9] at hA hval
  clear hA0 hval0
  obtain ⟨v0, vs0, d0, ds0, p0, q0, e0, rfl, rfl, h0, r0'⟩ := trodAll_cons hA
  obtain ⟨v1, vs1, d1, ds1, p1, q1, e1, rfl, rfl, h1, r1'⟩ := trodAll_cons r0'
  obtain ⟨v2, vs2, d2, ds2, p2, q2, e2, rfl, rfl, h2, r2'⟩ := trodAll_cons r1'
  obtain ⟨e3, rfl, rfl⟩ := trodAll_nil r2'
  subst e3
  subst e2
  subst e1
  obtain rfl : args = #[v0, v1, v2] := by cases args; simp_all
  obtain ⟨rfl, rfl⟩ := trodVars_none hV
  obtain ⟨t0, a0, z0⟩ := open_binds h0 (hval 0 _ v0 rfl rfl)
  obtain ⟨t1, a1, z1, r1⟩ := open_term h1 (hval 1 _ v1 rfl rfl)
  obtain ⟨t2, a2, r2⟩ := open_i64 h2 (hval 2 _ v2 rfl rfl)
  simp only [Rows.uptoBulkAll, List.append_nil] at hb
  exact law_contract sound Try.func9 (by kernel_rfl) Try.laidOut (s := Rows.substLooksSpec) rfl rfl hW' (.cons a0 (.cons a1 (.cons a2 (.nil)))) (substLooks_sem t0 t1 t2 (by have := z0.1; omega) (fun b hb => by have := z0.2 b hb; omega) (by omega))
theorem substLooks_holds : Rows.SubstLooksUptoSaid :=
  OpenClaim.holds_of_cond 9 Try.f9 rfl rfl rfl rfl rfl rfl rfl ⟨rfl, rfl, rfl, rfl, rfl⟩ rfl rfl rfl rfl rfl (by kernel_rfl) Try.func9 (by kernel_rfl)
    (of_decide_eq_true (by kernel_rfl)) (by unfold Func.isWrapper; first | (rw [if_pos (by decide +kernel)]; kernel_rfl) | (rw [if_neg (by decide +kernel)]; exact ⟨rfl, rfl⟩))
    (fun os started H enc _ F => substLooks_lifted os started H enc F)
end Go.Proofs.Ytenkiofpobeilaa
