/- What is proved: term.Clone of a valid term is the term. -/
import Derived.Test.YteaehiceghhajaaStable
import Derived.Test.YteaehiceghhajaaOrder
import Derived.Test.YteaehiceghhajaaAm3
set_option linter.unusedSimpArgs false
set_option linter.unusedVariables false
namespace Go.Proofs.Yteaehiceghhajaa
open Go.Am
theorem ident_ok (t : Tm) (hp : Heap) : S 69 [t.av] hp = some (.ret t.av, hp) := by
  refine sem_pure rfl rfl rfl (freezeAll_pvs [(some 4, t.pv)]) rfl ?_
  (repeat' (first | (simp -dsimp -implicitDefEqProofs only [g69, c69r0, c69r1, c69, go_sem, collect_lit0, collect_lit1, collect_lit2, collect_lit3, if_true, if_false, true_and, and_true, false_and, and_false, and_self, Nat.zero_add, Nat.add_zero, eq_self, Bool.true_eq_false, Bool.false_eq_true, cond_true, cond_false, decide_eq_true_eq, Bool.not_eq_true', Bool.not_eq_false', decide_eq_false_iff_not, not_true_eq_false, not_false_eq_true, Bool.true_and, Bool.false_and, Bool.and_true, Bool.and_false, Bool.not_true, Bool.not_false, Option.some.injEq, decide_true, decide_false, List.getElem?_cons_zero, List.getElem?_cons_succ, List.length_cons, List.length_nil, List.nil_append, List.cons_append, List.set_cons_zero, List.set_cons_succ, List.take_zero, List.drop_zero, Nat.reduceEqDiff, Nat.reduceAdd, Nat.reduceSub, Nat.reduceLT, Nat.reduceLeDiff, Nat.reduceMul, Int.reduceEq, Int.reduceLT, Int.reduceLE, Int.reduceAdd, Int.reduceSub, Int.reduceNeg, Int.reduceToNat, reduceCtorEq, ↓reduceIte, Tm.av, *]) | (refine iteK_intro (fun _ => ?_) (fun _ => ?_))))

theorem own_cons_sl (s s0 : Sh) (r v o n : Nat) (l : List (Sh × AV)) (hp : Heap) : ownComps ((s, .sl s0 r v o n) :: l) hp = ownCons (s, .sl s0 r v o n) (ownComps l hp) := rfl
theorem frozen_tm {hp : Heap} {r : Nat} (t : Tm) (h : hp[r]? = some (.arr (some 4) (Tm.pvs t.args) false)) : Am.frozen t.av (.agg [(none, .pv none (.int .i64 t.kind)), (none, .pv none (.int .i64 t.n)), (none, .pv none (.str t.name)), (none, .sl (some 4) r t.args.length 0 t.args.length)]) hp := by
  refine ⟨hp.set r (.arr (some 4) (Tm.pvs t.args) true), ?_⟩
  cases t with
  | mk k n s ts =>
    show (match AV.freeze (7 + 1) (.agg _) hp with | some (p, hp') => some (AV.pv _ p, hp') | none => none) = _
    have e : ∀ l hp, AV.freeze (7 + 1) (.agg l) hp = match AV.freeze.go 7 l hp with | some (ps, hp') => some (.agg ps, hp') | none => none := fun _ _ => rfl
    simp only [Tm.args] at h
    simp [e, AV.freeze.go, AV.freeze, h, Tm.kind, Tm.n, Tm.name, Tm.args, Tm.pvs_len, Tm.av, Tm.pv]
    rfl

theorem apply_ok : ∀ (t : Tm) (hp : Heap), t.fits = true → t.size < 1000000000 → S 68 [t.av, .pv none (.func (.func 69))] hp = some (.ret t.av, hp) := by
  intro t
  induction t using Tm.induct with
  | h t ih =>
    intro hp hf ht
    have hts := t.size_eq
    have hlen := Tm.sizes_len t.args
    refine sem_pure rfl rfl rfl (freezeAll_pvs [(some 4, t.pv), (none, .func (.func 69))]) rfl ?_
    have h1 := fun hp => ident_ok t hp
    simp only [Tm.av] at h1
    by_cases hk : t.kind = 0
    · have hk' := eq_true hk
      simp -dsimp -implicitDefEqProofs only [g68, c68r0, c68r1, c68r2, c68k3, c68r4, c68r5, c68r6, c68k7, c68r8, c68r9, c68k10, c68r11, c68b12, c68k13, c68r14, c68, go_sem, collect_lit0, collect_lit1, collect_lit2, collect_lit3, if_true, if_false, true_and, and_true, false_and, and_false, and_self, Nat.zero_add, Nat.add_zero, eq_self, Bool.true_eq_false, Bool.false_eq_true, cond_true, cond_false, decide_eq_true_eq, Bool.not_eq_true', Bool.not_eq_false', decide_eq_false_iff_not, not_true_eq_false, not_false_eq_true, Bool.true_and, Bool.false_and, Bool.and_true, Bool.and_false, Bool.not_true, Bool.not_false, Option.some.injEq, decide_true, decide_false, List.getElem?_cons_zero, List.getElem?_cons_succ, List.length_cons, List.length_nil, List.nil_append, List.cons_append, List.set_cons_zero, List.set_cons_succ, List.take_zero, List.drop_zero, Nat.reduceEqDiff, Nat.reduceAdd, Nat.reduceSub, Nat.reduceLT, Nat.reduceLeDiff, Nat.reduceMul, Int.reduceEq, Int.reduceLT, Int.reduceLE, Int.reduceAdd, Int.reduceSub, Int.reduceNeg, Int.reduceToNat, reduceCtorEq, ↓reduceIte, Tm.av, part_kind, hk', h1]
    · have hk' := eq_false hk
      have hb : sBuild [(none, .pv none (.int .i64 0)), (none, .pv none (.int .i64 0)), (none, .pv none (.str [])), (none, .tsl (some 4) [])] [0, 1, 2] [.pv none (.int .i64 t.kind), .pv none (.int .i64 t.n), .pv none (.str t.name)] = some (.agg [(none, .pv none (.int .i64 t.kind)), (none, .pv none (.int .i64 t.n)), (none, .pv none (.str t.name)), (none, .tsl (some 4) [])]) := rfl
      simp -dsimp -implicitDefEqProofs only [g68, c68r0, c68r1, c68r2, c68k3, c68r4, c68r5, c68r6, c68k7, c68r8, c68r9, c68k10, c68r11, c68b12, c68k13, c68r14, c68, go_sem, collect_lit0, collect_lit1, collect_lit2, collect_lit3, if_true, if_false, true_and, and_true, false_and, and_false, and_self, Nat.zero_add, Nat.add_zero, eq_self, Bool.true_eq_false, Bool.false_eq_true, cond_true, cond_false, decide_eq_true_eq, Bool.not_eq_true', Bool.not_eq_false', decide_eq_false_iff_not, not_true_eq_false, not_false_eq_true, Bool.true_and, Bool.false_and, Bool.and_true, Bool.and_false, Bool.not_true, Bool.not_false, Option.some.injEq, decide_true, decide_false, List.getElem?_cons_zero, List.getElem?_cons_succ, List.length_cons, List.length_nil, List.nil_append, List.cons_append, List.set_cons_zero, List.set_cons_succ, List.take_zero, List.drop_zero, Nat.reduceEqDiff, Nat.reduceAdd, Nat.reduceSub, Nat.reduceLT, Nat.reduceLeDiff, Nat.reduceMul, Int.reduceEq, Int.reduceLT, Int.reduceLE, Int.reduceAdd, Int.reduceSub, Int.reduceNeg, Int.reduceToNat, reduceCtorEq, ↓reduceIte, Tm.av, part_kind, part_n, part_name, part_args, hk', Tm.pvs_len, hb, w_alloc_agg, w_store_agg (Nat.zero_le _)]
      refine W_loop (fun n st => ∃ i : Nat, n = t.args.length - i ∧ i ≤ t.args.length ∧ st = ⟨[(1, .pv none (.func (.func 69))), (4, .ptr 1 0), (5, .ptr 3 0), (22, .pv none (.sl (some 4) (Tm.pvs t.args))), (23, .pv none (.int .i64 t.args.length)), (24, .pv none (.int .i64 i))], [.box (some 4) (.pv (some 4) t.pv), .box (some 4) (.agg [(none, .pv none (.int .i64 0)), (none, .pv none (.int .i64 0)), (none, .pv none (.str [])), (none, .sl (some 4) 2 0 0 0)]), .arr (some 4) [] false, .box (some 4) (.agg [(none, .pv none (.int .i64 t.kind)), (none, .pv none (.int .i64 t.n)), (none, .pv none (.str t.name)), (none, .sl (some 4) 5 i 0 i)]), .arr (some 4) [] false, .arr (some 4) (Tm.pvs (t.args.take i)) false]⟩) (n := t.args.length) ⟨0, rfl, Nat.zero_le _, ?_⟩ ?_
      · simp -dsimp -implicitDefEqProofs only [go_sem, collect_lit0, collect_lit1, collect_lit2, collect_lit3, if_true, if_false, true_and, and_true, false_and, and_false, and_self, Nat.zero_add, Nat.add_zero, eq_self, Bool.true_eq_false, Bool.false_eq_true, cond_true, cond_false, decide_eq_true_eq, Bool.not_eq_true', Bool.not_eq_false', decide_eq_false_iff_not, not_true_eq_false, not_false_eq_true, Bool.true_and, Bool.false_and, Bool.and_true, Bool.and_false, Bool.not_true, Bool.not_false, Option.some.injEq, decide_true, decide_false, List.getElem?_cons_zero, List.getElem?_cons_succ, List.length_cons, List.length_nil, List.nil_append, List.cons_append, List.set_cons_zero, List.set_cons_succ, List.take_zero, List.drop_zero, Nat.reduceEqDiff, Nat.reduceAdd, Nat.reduceSub, Nat.reduceLT, Nat.reduceLeDiff, Nat.reduceMul, Int.reduceEq, Int.reduceLT, Int.reduceLE, Int.reduceAdd, Int.reduceSub, Int.reduceNeg, Int.reduceToNat, reduceCtorEq, ↓reduceIte]
        rfl
      · rintro n st ⟨i, hn, hi, rfl⟩
        by_cases h : i < t.args.length
        · have hc : (i : Int) < (t.args.length : Int) := by omega
          obtain ⟨u, hu⟩ : ∃ u, t.args[i]? = some u := ⟨_, List.getElem?_eq_getElem h⟩
          have hum := List.mem_of_getElem? hu
          have husz := Tm.arg_lt hum
          have hcall := fun hp => ih u hum hp (Tm.fits_arg hf hum) (by omega)
          simp only [Tm.av] at hcall
          have w2 : IntKind.i64.wrap ((i : Int) + 1) = ((i + 1 : Nat) : Int) := by rw [wrap64 (by omega) (by omega)]; omega
          have hl : (Tm.pvs (t.args.take i)).length = i := by rw [Tm.pvs_len, List.length_take]; omega
          have hlim : i + 1 ≤ lim := by unfold lim; omega
          simp -dsimp -implicitDefEqProofs only [g68, c68r0, c68r1, c68r2, c68k3, c68r4, c68r5, c68r6, c68k7, c68r8, c68r9, c68k10, c68r11, c68b12, c68k13, c68r14, c68, go_sem, collect_lit0, collect_lit1, collect_lit2, collect_lit3, if_true, if_false, true_and, and_true, false_and, and_false, and_self, Nat.zero_add, Nat.add_zero, eq_self, Bool.true_eq_false, Bool.false_eq_true, cond_true, cond_false, decide_eq_true_eq, Bool.not_eq_true', Bool.not_eq_false', decide_eq_false_iff_not, not_true_eq_false, not_false_eq_true, Bool.true_and, Bool.false_and, Bool.and_true, Bool.and_false, Bool.not_true, Bool.not_false, Option.some.injEq, decide_true, decide_false, List.getElem?_cons_zero, List.getElem?_cons_succ, List.length_cons, List.length_nil, List.nil_append, List.cons_append, List.set_cons_zero, List.set_cons_succ, List.take_zero, List.drop_zero, Nat.reduceEqDiff, Nat.reduceAdd, Nat.reduceSub, Nat.reduceLT, Nat.reduceLeDiff, Nat.reduceMul, Int.reduceEq, Int.reduceLT, Int.reduceLE, Int.reduceAdd, Int.reduceSub, Int.reduceNeg, Int.reduceToNat, reduceCtorEq, ↓reduceIte, hc, s_iaddr_pv (Tm.pvs_get hu), hcall, w2, hl, hlim, List.length_cons, List.length_nil, Tm.pvs_take_succ hu, upd_agg, w_alloc_agg, w_store_agg (Nat.zero_le _), w_store_sl (Nat.zero_le _)]
          refine ⟨t.args.length - (i + 1), by omega, i + 1, rfl, by omega, ?_⟩
          rfl
        · have hc : ¬ (i : Int) < (t.args.length : Int) := by omega
          obtain rfl : i = t.args.length := by omega
          simp -dsimp -implicitDefEqProofs only [g68, c68r0, c68r1, c68r2, c68k3, c68r4, c68r5, c68r6, c68k7, c68r8, c68r9, c68k10, c68r11, c68b12, c68k13, c68r14, c68, go_sem, collect_lit0, collect_lit1, collect_lit2, collect_lit3, if_true, if_false, true_and, and_true, false_and, and_false, and_self, Nat.zero_add, Nat.add_zero, eq_self, Bool.true_eq_false, Bool.false_eq_true, cond_true, cond_false, decide_eq_true_eq, Bool.not_eq_true', Bool.not_eq_false', decide_eq_false_iff_not, not_true_eq_false, not_false_eq_true, Bool.true_and, Bool.false_and, Bool.and_true, Bool.and_false, Bool.not_true, Bool.not_false, Option.some.injEq, decide_true, decide_false, List.getElem?_cons_zero, List.getElem?_cons_succ, List.length_cons, List.length_nil, List.nil_append, List.cons_append, List.set_cons_zero, List.set_cons_succ, List.take_zero, List.drop_zero, Nat.reduceEqDiff, Nat.reduceAdd, Nat.reduceSub, Nat.reduceLT, Nat.reduceLeDiff, Nat.reduceMul, Int.reduceEq, Int.reduceLT, Int.reduceLE, Int.reduceAdd, Int.reduceSub, Int.reduceNeg, Int.reduceToNat, reduceCtorEq, ↓reduceIte, hc, List.take_length, own_cons_sl, w_alloc_agg, w_store_agg (Nat.zero_le _), w_store_sl (Nat.zero_le _)]
          exact frozen_tm t rfl

theorem Tm.valid_fits {t : Tm} (h : t.valid = true) : t.fits = true := by
  unfold Tm.valid at h
  simp only [Bool.and_eq_true] at h
  exact h.2

theorem clone_ok (t : Tm) (hp : Heap) (hv : t.valid = true) (ht : t.size < 1000000000) : S 59 [t.av] hp = some (.ret t.av, hp) := by
  refine sem_pure rfl rfl rfl (freezeAll_pvs [(some 4, t.pv)]) rfl ?_
  have h1 := fun hp => valid_ok t hp ht
  have h2 := fun hp => apply_ok t hp (Tm.valid_fits hv) ht
  rw [hv] at h1
  simp only [Tm.av] at h1 h2
  simp -dsimp -implicitDefEqProofs only [g59, c59r0, c59r1, c59r2, c59k3, c59r4, c59, go_sem, collect_lit0, collect_lit1, collect_lit2, collect_lit3, if_true, if_false, true_and, and_true, false_and, and_false, and_self, Nat.zero_add, Nat.add_zero, eq_self, Bool.true_eq_false, Bool.false_eq_true, cond_true, cond_false, decide_eq_true_eq, Bool.not_eq_true', Bool.not_eq_false', decide_eq_false_iff_not, not_true_eq_false, not_false_eq_true, Bool.true_and, Bool.false_and, Bool.and_true, Bool.and_false, Bool.not_true, Bool.not_false, Option.some.injEq, decide_true, decide_false, List.getElem?_cons_zero, List.getElem?_cons_succ, List.length_cons, List.length_nil, List.nil_append, List.cons_append, List.set_cons_zero, List.set_cons_succ, List.take_zero, List.drop_zero, Nat.reduceEqDiff, Nat.reduceAdd, Nat.reduceSub, Nat.reduceLT, Nat.reduceLeDiff, Nat.reduceMul, Int.reduceEq, Int.reduceLT, Int.reduceLE, Int.reduceAdd, Int.reduceSub, Int.reduceNeg, Int.reduceToNat, reduceCtorEq, ↓reduceIte, Tm.av, h1, h2, w_alloc_agg, w_store_agg (Nat.zero_le _)]
end Go.Proofs.Yteaehiceghhajaa
