/- What is proved: OrderTotal answers true for all terms, where what it reads is of bulk at most 1048576. -/
import Derived.Test.YteaehiceghhajaaOrder
import Derived.Test.YteaehiceghhajaaLists
set_option linter.unusedSimpArgs false
set_option linter.unusedVariables false
namespace Go.Proofs.Yteaehiceghhajaa
open Go.Am Go.ChangeShapes Go.WideShapes Go.ChangeAt Go.RowKit
theorem cmpV_neg (a b : Tm) : IntKind.i64.wrap (0 - cmpV b a) = cmpV a b := by
  have h := Tm.cmp_neg b a
  have r := Tm.cmp_rng b a
  unfold cmpV
  by_cases va : a.valid = true <;> by_cases vb : b.valid = true <;> simp only [va, vb, if_true, if_false, Bool.false_eq_true]
  · rw [wrap64 (by omega) (by omega)]; omega
  all_goals (rw [wrap64 (by omega) (by omega)]; omega)
theorem orderTotal_sem (a b c : Tm) (ha : a.size < 100000000) (hb : b.size < 100000000) (hc : c.size < 100000000) : S 6 [a.av, b.av, c.av] [] = some (.ret (.pv none (.bool true)), []) := by
  refine sem_pure rfl rfl rfl (freezeAll_pvs [(some 4, a.pv), (some 4, b.pv), (some 4, c.pv)]) rfl ?_
  have h1 := fun hp => oCmp_ok a b hp (by omega) (by omega)
  have h2 := fun hp => oCmp_ok b a hp (by omega) (by omega)
  have h3 := fun hp => oCmp_ok b c hp (by omega) (by omega)
  have h4 := fun hp => oCmp_ok a c hp (by omega) (by omega)
  have h5 := fun hp => rsame_ok a b hp (by omega) (by omega)
  have h6 : ∀ hp, S 23 [.tsl (some 4) [a.pv, b.pv, c.pv]] hp = some (.ret (.pv none (.bool (validAll [a, b, c]))), hp) := fun hp =>
    sem_any (ps := [(none, .sl (some 4) (Tm.pvs [a, b, c]))]) rfl rfl rfl rfl (lvalid_ok [a, b, c] (by simp [Tm.sizes]; omega))
  have h7 := awake_ok
  have n1 := cmpV_neg a b
  simp only [Tm.av] at h1 h2 h3 h4 h5
  by_cases hv : validAll [a, b, c] = true
  · have hv' : a.valid = true ∧ b.valid = true ∧ c.valid = true := by simpa [validAll] using hv
    obtain ⟨va, vb, vc⟩ := hv'
    have e1 : cmpV a b = a.cmp b := by simp [cmpV, va, vb]
    have e2 : cmpV b c = b.cmp c := by simp [cmpV, vb, vc]
    have e3 : cmpV a c = a.cmp c := by simp [cmpV, va, vc]
    have e4 : same a b = decide (a.cmp b = 0) := by simp [same, va, vb]
    rw [e1] at h1 n1
    rw [e2] at h3
    rw [e3] at h4
    rw [e4] at h5
    have tr : Kept (a.cmp b ≤ 0 → b.cmp c ≤ 0 → a.cmp c ≤ 0) := fun x y => Tm.cmp_le_trans x y
    clear e1 e2 e3 e4
    (repeat' (first | (simp -dsimp -implicitDefEqProofs only [g6, c6r0, c6r1, c6r2, c6k3, c6r4, c6r5, c6k6, c6r7, c6r8, c6k9, c6r10, c6r11, c6k12, c6r13, c6, go_sem, collect_lit0, collect_lit1, collect_lit2, collect_lit3, if_true, if_false, true_and, and_true, false_and, and_false, and_self, Nat.zero_add, Nat.add_zero, eq_self, Bool.true_eq_false, Bool.false_eq_true, cond_true, cond_false, decide_eq_true_eq, Bool.not_eq_true', decide_eq_false_iff_not, not_true_eq_false, not_false_eq_true, Bool.true_and, Bool.false_and, Bool.and_true, Bool.and_false, Bool.not_true, Bool.not_false, Option.some.injEq, decide_true, decide_false, List.getElem?_cons_zero, List.getElem?_cons_succ, List.length_cons, List.length_nil, List.nil_append, List.cons_append, List.set_cons_zero, List.set_cons_succ, List.take_zero, List.drop_zero, Nat.reduceEqDiff, Nat.reduceAdd, Nat.reduceSub, Nat.reduceLT, Nat.reduceLeDiff, Nat.reduceMul, Int.reduceEq, Int.reduceLT, Int.reduceLE, Int.reduceAdd, Int.reduceSub, Int.reduceNeg, Int.reduceToNat, reduceCtorEq, ↓reduceIte, beq_self_eq_true, *]) | (refine iteK_intro (fun _ => ?_) (fun _ => ?_))))
    all_goals (have := tr.out (by assumption) (by assumption); omega)
  · (repeat' (first | (simp -dsimp -implicitDefEqProofs only [g6, c6r0, c6r1, c6r2, c6k3, c6r4, c6r5, c6k6, c6r7, c6r8, c6k9, c6r10, c6r11, c6k12, c6r13, c6, go_sem, collect_lit0, collect_lit1, collect_lit2, collect_lit3, if_true, if_false, true_and, and_true, false_and, and_false, and_self, Nat.zero_add, Nat.add_zero, eq_self, Bool.true_eq_false, Bool.false_eq_true, cond_true, cond_false, decide_eq_true_eq, Bool.not_eq_true', decide_eq_false_iff_not, not_true_eq_false, not_false_eq_true, Bool.true_and, Bool.false_and, Bool.and_true, Bool.and_false, Bool.not_true, Bool.not_false, Option.some.injEq, decide_true, decide_false, List.getElem?_cons_zero, List.getElem?_cons_succ, List.length_cons, List.length_nil, List.nil_append, List.cons_append, List.set_cons_zero, List.set_cons_succ, List.take_zero, List.drop_zero, Nat.reduceEqDiff, Nat.reduceAdd, Nat.reduceSub, Nat.reduceLT, Nat.reduceLeDiff, Nat.reduceMul, Int.reduceEq, Int.reduceLT, Int.reduceLE, Int.reduceAdd, Int.reduceSub, Int.reduceNeg, Int.reduceToNat, reduceCtorEq, ↓reduceIte, *]) | (refine iteK_intro (fun _ => ?_) (fun _ => ?_))))
set_option maxRecDepth 100000 in
theorem orderTotal_lifted (os : Os) (started : os.Started) (H : Type) (enc : TypeId × Value → H) (F : Stop.Interp) :
    ReturnsInHanded {} Try.checked os 6 .any ((Rows.OpenSpec.upto Rows.orderTotalSpec).pre6 enc Try.prog Try.f6 Rows.orderTotalUptoRow.domain false) (((Rows.OpenSpec.upto Rows.orderTotalSpec).at F).post enc Try.prog Try.f6 false true false false) := by
  refine returnsInHanded_of_cond (C := Try.checked) (s := (Rows.OpenSpec.upto Rows.orderTotalSpec)) (k := Rows.uptoSmall) rfl Try.own started (by kernel_rfl) Try.func6
    (OpenSpec.witness (enc := enc) (C := Try.checked) (s := (Rows.OpenSpec.upto Rows.orderTotalSpec)) (k := Rows.uptoSmall) rfl false ⟨#[], #[.agg #[.int .i64 0, .int .i64 0, .string ⟨#[]⟩, .slice none 0 0], .agg #[.int .i64 0, .int .i64 0, .string ⟨#[]⟩, .slice none 0 0], .agg #[.int .i64 0, .int .i64 0, .string ⟨#[]⟩, .slice none 0 0]], []⟩ 8 (by kernel_rfl) (by kernel_rfl) (by kernel_rfl)
      (x := ([.agg [.lit (.int .i64 0), .lit (.int .i64 0), .lit (.string []), .nil], .agg [.lit (.int .i64 0), .lit (.int .i64 0), .lit (.string []), .nil], .agg [.lit (.int .i64 0), .lit (.int .i64 0), .lit (.string []), .nil]], [], [])) (by kernel_rfl) rfl (by kernel_rfl)) ?_
  intro W base args ds gs before hval0 hW _ hk _
  have hval : ∀ (j : Nat) t v, Try.f6.params[j]? = some t → args[j]? = some v → Value.okWide Try.prog W .any base t v := hval0
  have hb := bulk_bound hk
  have hW' := hW
  obtain ⟨p, q, hA0, hV, rfl, hfz, hnd⟩ := hW
  have hA : DataW.TrodAll enc Try.prog W 0 (fun _ => true) true Try.f6.params.toList args.toList ds p := hA0
  rw [Try.params6] at hA hval
  clear hA0 hval0
  obtain ⟨v0, vs0, d0, ds0, p0, q0, e0, rfl, rfl, h0, r0'⟩ := trodAll_cons hA
  obtain ⟨v1, vs1, d1, ds1, p1, q1, e1, rfl, rfl, h1, r1'⟩ := trodAll_cons r0'
  obtain ⟨v2, vs2, d2, ds2, p2, q2, e2, rfl, rfl, h2, r2'⟩ := trodAll_cons r1'
  obtain ⟨e3, rfl, rfl⟩ := trodAll_nil r2'
  subst e3
  subst e2
  subst e1
  obtain rfl : args = #[v0, v1, v2] := by cases args; simp_all
  obtain ⟨rfl, rfl⟩ := trodVars_none hV
  obtain ⟨t0, a0, z0, r0⟩ := open_term h0 (hval 0 _ v0 rfl rfl)
  obtain ⟨t1, a1, z1, r1⟩ := open_term h1 (hval 1 _ v1 rfl rfl)
  obtain ⟨t2, a2, z2, r2⟩ := open_term h2 (hval 2 _ v2 rfl rfl)
  simp only [Rows.uptoBulkAll, List.append_nil] at hb
  exact law_contract sound Try.func6 (by kernel_rfl) Try.laidOut (s := Rows.orderTotalSpec) rfl rfl hW' (.cons a0 (.cons a1 (.cons a2 (.nil)))) (orderTotal_sem t0 t1 t2 (by omega) (by omega) (by omega))
theorem orderTotal_holds : Rows.OrderTotalUptoSaid :=
  OpenClaim.holds_of_cond 6 Try.f6 rfl rfl rfl rfl rfl rfl rfl ⟨rfl, rfl, rfl, rfl, rfl⟩ rfl rfl rfl rfl rfl (by kernel_rfl) Try.func6 (by kernel_rfl)
    (of_decide_eq_true (by kernel_rfl)) (by unfold Func.isWrapper; first | (rw [if_pos (by decide +kernel)]; kernel_rfl) | (rw [if_neg (by decide +kernel)]; exact ⟨rfl, rfl⟩))
    (fun os started H enc _ F => orderTotal_lifted os started H enc F)
end Go.Proofs.Yteaehiceghhajaa
