/- What is proved: ChunkCounts answers true for every flat clause and variable, where what it reads is of bulk at most 1048576. -/
import Derived.Test.YtmajapjbogmefaaCount
import Derived.Test.YtmajapjbogmefaaSmall
import Derived.Test.YtmajapjbogmefaaData3
set_option linter.unusedSimpArgs false
set_option linter.unusedVariables false
namespace Go.Proofs.Ytmajapjbogmefaa
open Go.Am Go.ChangeShapes Go.WideShapes Go.ChangeAt Go.RowKit
theorem chunkCounts_sem (f : Fl) (v : Int) (hf : f.pv.sz ≤ 1048576) : S 7 [f.av, .pv none (.int .i64 v)] [] = some (.ret (.pv none (.bool true)), []) := by
  refine sem_pure rfl rfl rfl (freezeAll_pvs [(some 5, f.pv), (none, .int .i64 v)]) rfl ?_
  have b1 := fl_args_sz f
  have b2 := fl_plcs_sz f
  have b3 := fl_len_sz f
  have b4 := fun g hg => fl_goal_sz f (g := g) hg
  have b5 : (placesP f).length ≤ LIM := by rw [← placesP_eq, List.length_map] at b2; unfold LIM; omega
  have h1 := small_ok f
  have h2 := awake_ok
  have h3 := fun hp => count_ok f v hp (by omega) (fun g hg => by have := b4 g hg; omega) (by omega) b5
  have h4 := fun hp => rcount25_ok f v hp (by omega) (by omega) (by omega) (fun g hg => by have := b4 g hg; omega)
  simp only [Fl.av] at h1 h3 h4
  clear b1 b2 b3 b4 b5
  by_cases hs : Fl.small f = true
  · (repeat' (first | (simp -dsimp -implicitDefEqProofs only [g7, c7r0, c7r1, c7r2, c7k3, c7r4, c7, go_sem, collect_lit0, collect_lit1, collect_lit2, collect_lit3, if_true, if_false, true_and, and_true, false_and, and_false, and_self, Nat.zero_add, Nat.add_zero, eq_self, Bool.true_eq_false, Bool.false_eq_true, cond_true, cond_false, decide_eq_true_eq, Bool.not_eq_true', Bool.not_eq_false', decide_eq_false_iff_not, not_true_eq_false, not_false_eq_true, Bool.true_and, Bool.false_and, Bool.and_true, Bool.and_false, Bool.not_true, Bool.not_false, Option.some.injEq, decide_true, decide_false, List.getElem?_cons_zero, List.getElem?_cons_succ, List.length_cons, List.length_nil, List.nil_append, List.cons_append, List.set_cons_zero, List.set_cons_succ, List.take_zero, List.drop_zero, Nat.reduceEqDiff, Nat.reduceAdd, Nat.reduceSub, Nat.reduceLT, Nat.reduceLeDiff, Nat.reduceMul, Int.reduceEq, Int.reduceLT, Int.reduceLE, Int.reduceAdd, Int.reduceSub, Int.reduceNeg, Int.reduceToNat, reduceCtorEq, ↓reduceIte, hs, *]) | (refine iteK_intro (fun _ => ?_) (fun _ => ?_))))
  · (repeat' (first | (simp -dsimp -implicitDefEqProofs only [g7, c7r0, c7r1, c7r2, c7k3, c7r4, c7, go_sem, collect_lit0, collect_lit1, collect_lit2, collect_lit3, if_true, if_false, true_and, and_true, false_and, and_false, and_self, Nat.zero_add, Nat.add_zero, eq_self, Bool.true_eq_false, Bool.false_eq_true, cond_true, cond_false, decide_eq_true_eq, Bool.not_eq_true', Bool.not_eq_false', decide_eq_false_iff_not, not_true_eq_false, not_false_eq_true, Bool.true_and, Bool.false_and, Bool.and_true, Bool.and_false, Bool.not_true, Bool.not_false, Option.some.injEq, decide_true, decide_false, List.getElem?_cons_zero, List.getElem?_cons_succ, List.length_cons, List.length_nil, List.nil_append, List.cons_append, List.set_cons_zero, List.set_cons_succ, List.take_zero, List.drop_zero, Nat.reduceEqDiff, Nat.reduceAdd, Nat.reduceSub, Nat.reduceLT, Nat.reduceLeDiff, Nat.reduceMul, Int.reduceEq, Int.reduceLT, Int.reduceLE, Int.reduceAdd, Int.reduceSub, Int.reduceNeg, Int.reduceToNat, reduceCtorEq, ↓reduceIte, hs, *]) | (refine iteK_intro (fun _ => ?_) (fun _ => ?_))))
set_option maxRecDepth 100000 in
theorem chunkCounts_lifted (os : Os) (started : os.Started) (H : Type) (enc : TypeId × Value → H) (F : Stop.Interp) :
    ReturnsInHanded {} Try.checked os 7 .any ((Rows.OpenSpec.upto Rows.chunkCountsSpec).pre6 enc Try.prog Try.f7 Rows.chunkCountsUptoRow.domain false) (((Rows.OpenSpec.upto Rows.chunkCountsSpec).at F).post enc Try.prog Try.f7 false true false false) := by
  refine returnsInHanded_of_cond (C := Try.checked) (s := (Rows.OpenSpec.upto Rows.chunkCountsSpec)) (k := Rows.uptoSmall) rfl Try.own started (by kernel_rfl) Try.func7
    (OpenSpec.witness (enc := enc) (C := Try.checked) (s := (Rows.OpenSpec.upto Rows.chunkCountsSpec)) (k := Rows.uptoSmall) rfl false ⟨#[], #[.agg #[.string ⟨#[]⟩, .int .i64 0, .int .i64 0, .slice none 0 0, .slice none 0 0], .int .i64 0], []⟩ 8 (by kernel_rfl) (by kernel_rfl) (by kernel_rfl)
      (x := ([.agg [.agg [.lit (.string []), .lit (.int .i64 0), .lit (.int .i64 0)], .nil, .nil], .lit (.int .i64 0)], [], [])) (by kernel_rfl) rfl (by kernel_rfl)) ?_
  intro W base args ds gs before hval0 hW _ hk _
  have hval : ∀ (j : Nat) t v, Try.f7.params[j]? = some t → args[j]? = some v → Value.okWide Try.prog W .any base t v := hval0
  have hb := bulk_bound hk
  have hW' := hW
  obtain ⟨p, q, hA0, hV, rfl, hfz, hnd⟩ := hW
  have hA : DataW.TrodAll enc Try.prog W 0 (fun _ => true) true Try.f7.params.toList args.toList ds p := hA0
  rw [Try.params7] at hA hval
  clear hA0 hval0
  obtain ⟨v0, vs0, d0, ds0, p0, q0, e0, rfl, rfl, h0, r0'⟩ := trodAll_cons hA
  obtain ⟨v1, vs1, d1, ds1, p1, q1, e1, rfl, rfl, h1, r1'⟩ := trodAll_cons r0'
  obtain ⟨e2, rfl, rfl⟩ := trodAll_nil r1'
  subst e2
  subst e1
  obtain rfl : args = #[v0, v1] := by cases args; simp_all
  obtain ⟨rfl, rfl⟩ := trodVars_none hV
  obtain ⟨t0, a0, z0⟩ := open_flat h0 (hval 0 _ v0 rfl rfl)
  obtain ⟨t1, a1, r1⟩ := open_i64 h1 (hval 1 _ v1 rfl rfl)
  simp only [Rows.uptoBulkAll, List.append_nil] at hb
  exact law_contract sound Try.func7 (by kernel_rfl) Try.laidOut (s := Rows.chunkCountsSpec) rfl rfl hW' (.cons a0 (.cons a1 (.nil))) (chunkCounts_sem t0 t1 (by omega))
theorem chunkCounts_holds : Rows.ChunkCountsUptoSaid :=
  OpenClaim.holds_of_cond 7 Try.f7 rfl rfl rfl rfl rfl rfl rfl ⟨rfl, rfl, rfl, rfl, rfl⟩ rfl rfl rfl rfl rfl (by kernel_rfl) Try.func7 (by kernel_rfl)
    (of_decide_eq_true (by kernel_rfl)) (by unfold Func.isWrapper; first | (rw [if_pos (by decide +kernel)]; kernel_rfl) | (rw [if_neg (by decide +kernel)]; exact ⟨rfl, rfl⟩))
    (fun os started H enc _ F => chunkCounts_lifted os started H enc F)
end Go.Proofs.Ytmajapjbogmefaa
