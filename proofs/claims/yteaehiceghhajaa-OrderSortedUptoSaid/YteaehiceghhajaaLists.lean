/- What is proved: whether terms are the same, and whether all of a list are valid. -/
import Derived.Test.YteaehiceghhajaaCmp
import Derived.Test.YteaehiceghhajaaAm3
set_option linter.unusedSimpArgs false
set_option linter.unusedVariables false
namespace Go.Proofs.Yteaehiceghhajaa
open Go.Am
theorem rident_ok : ∀ (a b : Tm) (hp : Heap), a.size < 1000000000 → S 49 [a.av, b.av] hp = some (.ret (.pv none (.bool (decide (a.cmp b = 0)))), hp) := by
  intro a
  induction a using Tm.induct with
  | h a ih =>
    intro b hp ha
    have hts := a.size_eq
    have hlen := Tm.sizes_len a.args
    refine sem_pure rfl rfl rfl (freezeAll_pvs [(some 4, a.pv), (some 4, b.pv)]) rfl ?_
    by_cases hall : a.kind = b.kind ∧ a.n = b.n ∧ a.name = b.name ∧ a.args.length = b.args.length
    · obtain ⟨h1, h2, h3, h4⟩ := hall
      have hz : a.cmp b = Tm.cmps a.args b.args := by
        rw [Tm.cmp_eq, h1, h2, h3, h4, cmpI_self, cmpI_self, cmpI_self, cb_zero.2 rfl]
        rfl
      rw [hz]
      simp -dsimp -implicitDefEqProofs only [g49, c49r0, c49r1, c49r2, c49k3, c49r4, c49r5, c49k6, c49r7, c49r8, c49k9, c49k10, c49r11, c49b12, c49k13, c49r14, c49, go_sem, collect_lit0, collect_lit1, collect_lit2, collect_lit3, if_true, if_false, true_and, and_true, false_and, and_false, and_self, Nat.zero_add, Nat.add_zero, eq_self, Bool.true_eq_false, Bool.false_eq_true, cond_true, cond_false, decide_eq_true_eq, Bool.not_eq_true', Bool.not_eq_false', decide_eq_false_iff_not, not_true_eq_false, not_false_eq_true, Bool.true_and, Bool.false_and, Bool.and_true, Bool.and_false, Bool.not_true, Bool.not_false, Option.some.injEq, decide_true, decide_false, List.getElem?_cons_zero, List.getElem?_cons_succ, List.length_cons, List.length_nil, List.nil_append, List.cons_append, List.set_cons_zero, List.set_cons_succ, List.take_zero, List.drop_zero, Nat.reduceEqDiff, Nat.reduceAdd, Nat.reduceSub, Nat.reduceLT, Nat.reduceLeDiff, Nat.reduceMul, Int.reduceEq, Int.reduceLT, Int.reduceLE, Int.reduceAdd, Int.reduceSub, Int.reduceNeg, Int.reduceToNat, reduceCtorEq, ↓reduceIte, part_kind, part_n, part_name, part_args, Tm.pvs_len, h1, h2, h3, h4]
      refine W_loop (fun n st => ∃ i : Nat, n = a.args.length - i ∧ i ≤ a.args.length ∧ Tm.cmps a.args b.args = Tm.cmps (a.args.drop i) (b.args.drop i) ∧ st = ⟨[(2, .ptr 0 0), (3, .ptr 1 0), (5, .pv none (.int .i64 i))], [.box (some 4) (.pv (some 4) a.pv), .box (some 4) (.pv (some 4) b.pv)]⟩) (n := a.args.length) ⟨0, rfl, Nat.zero_le _, rfl, ?_⟩ ?_
      · simp -dsimp -implicitDefEqProofs only [go_sem, collect_lit0, collect_lit1, collect_lit2, collect_lit3, if_true, if_false, true_and, and_true, false_and, and_false, and_self, Nat.zero_add, Nat.add_zero, eq_self, Bool.true_eq_false, Bool.false_eq_true, cond_true, cond_false, decide_eq_true_eq, Bool.not_eq_true', Bool.not_eq_false', decide_eq_false_iff_not, not_true_eq_false, not_false_eq_true, Bool.true_and, Bool.false_and, Bool.and_true, Bool.and_false, Bool.not_true, Bool.not_false, Option.some.injEq, decide_true, decide_false, List.getElem?_cons_zero, List.getElem?_cons_succ, List.length_cons, List.length_nil, List.nil_append, List.cons_append, List.set_cons_zero, List.set_cons_succ, List.take_zero, List.drop_zero, Nat.reduceEqDiff, Nat.reduceAdd, Nat.reduceSub, Nat.reduceLT, Nat.reduceLeDiff, Nat.reduceMul, Int.reduceEq, Int.reduceLT, Int.reduceLE, Int.reduceAdd, Int.reduceSub, Int.reduceNeg, Int.reduceToNat, reduceCtorEq, ↓reduceIte]
        rfl
      · rintro n st ⟨i, hn, hi, he, rfl⟩
        by_cases h : i < a.args.length
        · have hc : (i : Int) < (a.args.length : Int) := by omega
          obtain ⟨u, hu⟩ : ∃ u, a.args[i]? = some u := ⟨_, List.getElem?_eq_getElem h⟩
          obtain ⟨w, hw⟩ : ∃ w, b.args[i]? = some w := ⟨_, List.getElem?_eq_getElem (by omega)⟩
          have hum := List.mem_of_getElem? hu
          have husz := Tm.arg_lt hum
          have hcall := fun hp => ih u hum w hp (by omega)
          simp only [Tm.av] at hcall
          have w2 : IntKind.i64.wrap ((i : Int) + 1) = ((i + 1 : Nat) : Int) := by rw [wrap64 (by omega) (by omega)]; omega
          rw [Tm.cmps_drop hu hw] at he
          by_cases h0 : u.cmp w = 0
          · rw [h0, thenI_zero] at he
            simp -dsimp -implicitDefEqProofs only [g49, c49r0, c49r1, c49r2, c49k3, c49r4, c49r5, c49k6, c49r7, c49r8, c49k9, c49k10, c49r11, c49b12, c49k13, c49r14, c49, go_sem, collect_lit0, collect_lit1, collect_lit2, collect_lit3, if_true, if_false, true_and, and_true, false_and, and_false, and_self, Nat.zero_add, Nat.add_zero, eq_self, Bool.true_eq_false, Bool.false_eq_true, cond_true, cond_false, decide_eq_true_eq, Bool.not_eq_true', Bool.not_eq_false', decide_eq_false_iff_not, not_true_eq_false, not_false_eq_true, Bool.true_and, Bool.false_and, Bool.and_true, Bool.and_false, Bool.not_true, Bool.not_false, Option.some.injEq, decide_true, decide_false, List.getElem?_cons_zero, List.getElem?_cons_succ, List.length_cons, List.length_nil, List.nil_append, List.cons_append, List.set_cons_zero, List.set_cons_succ, List.take_zero, List.drop_zero, Nat.reduceEqDiff, Nat.reduceAdd, Nat.reduceSub, Nat.reduceLT, Nat.reduceLeDiff, Nat.reduceMul, Int.reduceEq, Int.reduceLT, Int.reduceLE, Int.reduceAdd, Int.reduceSub, Int.reduceNeg, Int.reduceToNat, reduceCtorEq, ↓reduceIte, part_args, Tm.pvs_len, hc, s_iaddr_pv (Tm.pvs_get hu), s_iaddr_pv (Tm.pvs_get hw), hcall, w2, h0]
            exact ⟨a.args.length - (i + 1), by omega, i + 1, rfl, by omega, he, rfl⟩
          · rw [thenI_ne h0] at he
            simp -dsimp -implicitDefEqProofs only [g49, c49r0, c49r1, c49r2, c49k3, c49r4, c49r5, c49k6, c49r7, c49r8, c49k9, c49k10, c49r11, c49b12, c49k13, c49r14, c49, go_sem, collect_lit0, collect_lit1, collect_lit2, collect_lit3, if_true, if_false, true_and, and_true, false_and, and_false, and_self, Nat.zero_add, Nat.add_zero, eq_self, Bool.true_eq_false, Bool.false_eq_true, cond_true, cond_false, decide_eq_true_eq, Bool.not_eq_true', Bool.not_eq_false', decide_eq_false_iff_not, not_true_eq_false, not_false_eq_true, Bool.true_and, Bool.false_and, Bool.and_true, Bool.and_false, Bool.not_true, Bool.not_false, Option.some.injEq, decide_true, decide_false, List.getElem?_cons_zero, List.getElem?_cons_succ, List.length_cons, List.length_nil, List.nil_append, List.cons_append, List.set_cons_zero, List.set_cons_succ, List.take_zero, List.drop_zero, Nat.reduceEqDiff, Nat.reduceAdd, Nat.reduceSub, Nat.reduceLT, Nat.reduceLeDiff, Nat.reduceMul, Int.reduceEq, Int.reduceLT, Int.reduceLE, Int.reduceAdd, Int.reduceSub, Int.reduceNeg, Int.reduceToNat, reduceCtorEq, ↓reduceIte, part_args, Tm.pvs_len, hc, s_iaddr_pv (Tm.pvs_get hu), s_iaddr_pv (Tm.pvs_get hw), hcall, w2, h0, he]
        · have hc : ¬ (i : Int) < (a.args.length : Int) := by omega
          obtain rfl : i = a.args.length := by omega
          rw [List.drop_length, Tm.cmps_nil_left] at he
          simp -dsimp -implicitDefEqProofs only [g49, c49r0, c49r1, c49r2, c49k3, c49r4, c49r5, c49k6, c49r7, c49r8, c49k9, c49k10, c49r11, c49b12, c49k13, c49r14, c49, go_sem, collect_lit0, collect_lit1, collect_lit2, collect_lit3, if_true, if_false, true_and, and_true, false_and, and_false, and_self, Nat.zero_add, Nat.add_zero, eq_self, Bool.true_eq_false, Bool.false_eq_true, cond_true, cond_false, decide_eq_true_eq, Bool.not_eq_true', Bool.not_eq_false', decide_eq_false_iff_not, not_true_eq_false, not_false_eq_true, Bool.true_and, Bool.false_and, Bool.and_true, Bool.and_false, Bool.not_true, Bool.not_false, Option.some.injEq, decide_true, decide_false, List.getElem?_cons_zero, List.getElem?_cons_succ, List.length_cons, List.length_nil, List.nil_append, List.cons_append, List.set_cons_zero, List.set_cons_succ, List.take_zero, List.drop_zero, Nat.reduceEqDiff, Nat.reduceAdd, Nat.reduceSub, Nat.reduceLT, Nat.reduceLeDiff, Nat.reduceMul, Int.reduceEq, Int.reduceLT, Int.reduceLE, Int.reduceAdd, Int.reduceSub, Int.reduceNeg, Int.reduceToNat, reduceCtorEq, ↓reduceIte, part_args, Tm.pvs_len, hc, he]
    · have hz : ¬ a.cmp b = 0 := fun h => hall (by rw [Tm.cmp_zero.1 h]; exact ⟨rfl, rfl, rfl, rfl⟩)
      replace hall := Kept.mk hall
      replace hts := Kept.mk hts
      clear ih
      (repeat' (first | (simp -dsimp -implicitDefEqProofs only [g49, c49r0, c49r1, c49r2, c49k3, c49r4, c49r5, c49k6, c49r7, c49r8, c49k9, c49k10, c49r11, c49k13, c49r14, c49, go_sem, collect_lit0, collect_lit1, collect_lit2, collect_lit3, if_true, if_false, true_and, and_true, false_and, and_false, and_self, Nat.zero_add, Nat.add_zero, eq_self, Bool.true_eq_false, Bool.false_eq_true, cond_true, cond_false, decide_eq_true_eq, Bool.not_eq_true', Bool.not_eq_false', decide_eq_false_iff_not, not_true_eq_false, not_false_eq_true, Bool.true_and, Bool.false_and, Bool.and_true, Bool.and_false, Bool.not_true, Bool.not_false, Option.some.injEq, decide_true, decide_false, List.getElem?_cons_zero, List.getElem?_cons_succ, List.length_cons, List.length_nil, List.nil_append, List.cons_append, List.set_cons_zero, List.set_cons_succ, List.take_zero, List.drop_zero, Nat.reduceEqDiff, Nat.reduceAdd, Nat.reduceSub, Nat.reduceLT, Nat.reduceLeDiff, Nat.reduceMul, Int.reduceEq, Int.reduceLT, Int.reduceLE, Int.reduceAdd, Int.reduceSub, Int.reduceNeg, Int.reduceToNat, reduceCtorEq, ↓reduceIte, part_kind, part_n, part_name, part_args, Tm.pvs_len, *]) | (refine iteK_intro (fun _ => ?_) (fun _ => ?_))))
      exact absurd ⟨‹_›, ‹_›, ‹_›, by omega⟩ hall.out

def same (a b : Tm) : Bool := a.valid && (b.valid && decide (a.cmp b = 0))
theorem rsame_ok (a b : Tm) (hp : Heap) (ha : a.size < 1000000000) (hb : b.size < 1000000000) : S 28 [a.av, b.av] hp = some (.ret (.pv none (.bool (same a b))), hp) := by
  refine sem_pure rfl rfl rfl (freezeAll_pvs [(some 4, a.pv), (some 4, b.pv)]) rfl ?_
  have h1 := fun hp => rvalid_ok a hp ha
  have h2 := fun hp => rvalid_ok b hp hb
  have h3 := fun hp => rident_ok a b hp ha
  simp only [Tm.av] at h1 h2 h3
  unfold same
  by_cases va : a.valid = true
  · by_cases vb : b.valid = true
    · (repeat' (first | (simp -dsimp -implicitDefEqProofs only [g28, c28r0, c28r1, c28, go_sem, collect_lit0, collect_lit1, collect_lit2, collect_lit3, if_true, if_false, true_and, and_true, false_and, and_false, and_self, Nat.zero_add, Nat.add_zero, eq_self, Bool.true_eq_false, Bool.false_eq_true, cond_true, cond_false, decide_eq_true_eq, Bool.not_eq_true', Bool.not_eq_false', decide_eq_false_iff_not, not_true_eq_false, not_false_eq_true, Bool.true_and, Bool.false_and, Bool.and_true, Bool.and_false, Bool.not_true, Bool.not_false, Option.some.injEq, decide_true, decide_false, List.getElem?_cons_zero, List.getElem?_cons_succ, List.length_cons, List.length_nil, List.nil_append, List.cons_append, List.set_cons_zero, List.set_cons_succ, List.take_zero, List.drop_zero, Nat.reduceEqDiff, Nat.reduceAdd, Nat.reduceSub, Nat.reduceLT, Nat.reduceLeDiff, Nat.reduceMul, Int.reduceEq, Int.reduceLT, Int.reduceLE, Int.reduceAdd, Int.reduceSub, Int.reduceNeg, Int.reduceToNat, reduceCtorEq, ↓reduceIte, *]) | (refine iteK_intro (fun _ => ?_) (fun _ => ?_))))
    · (repeat' (first | (simp -dsimp -implicitDefEqProofs only [g28, c28r0, c28r1, c28, go_sem, collect_lit0, collect_lit1, collect_lit2, collect_lit3, if_true, if_false, true_and, and_true, false_and, and_false, and_self, Nat.zero_add, Nat.add_zero, eq_self, Bool.true_eq_false, Bool.false_eq_true, cond_true, cond_false, decide_eq_true_eq, Bool.not_eq_true', Bool.not_eq_false', decide_eq_false_iff_not, not_true_eq_false, not_false_eq_true, Bool.true_and, Bool.false_and, Bool.and_true, Bool.and_false, Bool.not_true, Bool.not_false, Option.some.injEq, decide_true, decide_false, List.getElem?_cons_zero, List.getElem?_cons_succ, List.length_cons, List.length_nil, List.nil_append, List.cons_append, List.set_cons_zero, List.set_cons_succ, List.take_zero, List.drop_zero, Nat.reduceEqDiff, Nat.reduceAdd, Nat.reduceSub, Nat.reduceLT, Nat.reduceLeDiff, Nat.reduceMul, Int.reduceEq, Int.reduceLT, Int.reduceLE, Int.reduceAdd, Int.reduceSub, Int.reduceNeg, Int.reduceToNat, reduceCtorEq, ↓reduceIte, *]) | (refine iteK_intro (fun _ => ?_) (fun _ => ?_))))
  · (repeat' (first | (simp -dsimp -implicitDefEqProofs only [g28, c28r0, c28r1, c28, go_sem, collect_lit0, collect_lit1, collect_lit2, collect_lit3, if_true, if_false, true_and, and_true, false_and, and_false, and_self, Nat.zero_add, Nat.add_zero, eq_self, Bool.true_eq_false, Bool.false_eq_true, cond_true, cond_false, decide_eq_true_eq, Bool.not_eq_true', Bool.not_eq_false', decide_eq_false_iff_not, not_true_eq_false, not_false_eq_true, Bool.true_and, Bool.false_and, Bool.and_true, Bool.and_false, Bool.not_true, Bool.not_false, Option.some.injEq, decide_true, decide_false, List.getElem?_cons_zero, List.getElem?_cons_succ, List.length_cons, List.length_nil, List.nil_append, List.cons_append, List.set_cons_zero, List.set_cons_succ, List.take_zero, List.drop_zero, Nat.reduceEqDiff, Nat.reduceAdd, Nat.reduceSub, Nat.reduceLT, Nat.reduceLeDiff, Nat.reduceMul, Int.reduceEq, Int.reduceLT, Int.reduceLE, Int.reduceAdd, Int.reduceSub, Int.reduceNeg, Int.reduceToNat, reduceCtorEq, ↓reduceIte, *]) | (refine iteK_intro (fun _ => ?_) (fun _ => ?_))))

def validAll (l : List Tm) : Bool := l.all Tm.valid
theorem validAll_take {l : List Tm} {i : Nat} {t : Tm} (h : l[i]? = some t) : validAll (l.take (i + 1)) = (validAll (l.take i) && t.valid) := by
  unfold validAll
  rw [List.take_add_one, h, List.all_append]
  simp
theorem validAll_false {l : List Tm} {t : Tm} (h : t ∈ l) (hv : t.valid = false) : validAll l = false := by
  unfold validAll
  rw [List.all_eq_false]
  exact ⟨t, h, by simp [hv]⟩

/-- The law's own 'valid'. -/
theorem lvalid_ok (l : List Tm) (hl : Tm.sizes l < 1000000000) : S 23 [.pv none (.sl (some 4) (Tm.pvs l))] [] = some (.ret (.pv none (.bool (validAll l))), []) := by
  refine sem_pure rfl rfl rfl (freezeAll_pvs [(none, .sl (some 4) (Tm.pvs l))]) rfl ?_
  have hlen := Tm.sizes_len l
  simp -dsimp -implicitDefEqProofs only [g23, c23r0, c23r1, c23r2, c23k3, c23r4, c23r5, c23k6, c23k7, c23r8, c23b9, c23k10, c23r11, c23, go_sem, collect_lit0, collect_lit1, collect_lit2, collect_lit3, if_true, if_false, true_and, and_true, false_and, and_false, and_self, Nat.zero_add, Nat.add_zero, eq_self, Bool.true_eq_false, Bool.false_eq_true, cond_true, cond_false, decide_eq_true_eq, Bool.not_eq_true', Bool.not_eq_false', decide_eq_false_iff_not, not_true_eq_false, not_false_eq_true, Bool.true_and, Bool.false_and, Bool.and_true, Bool.and_false, Bool.not_true, Bool.not_false, Option.some.injEq, decide_true, decide_false, List.getElem?_cons_zero, List.getElem?_cons_succ, List.length_cons, List.length_nil, List.nil_append, List.cons_append, List.set_cons_zero, List.set_cons_succ, List.take_zero, List.drop_zero, Nat.reduceEqDiff, Nat.reduceAdd, Nat.reduceSub, Nat.reduceLT, Nat.reduceLeDiff, Nat.reduceMul, Int.reduceEq, Int.reduceLT, Int.reduceLE, Int.reduceAdd, Int.reduceSub, Int.reduceNeg, Int.reduceToNat, reduceCtorEq, ↓reduceIte]
  refine W_loop (fun n st => ∃ i : Nat, n = l.length - i ∧ i ≤ l.length ∧ validAll (l.take i) = true ∧ st = ⟨[(0, .pv none (.sl (some 4) (Tm.pvs l))), (3, .pv none (.int .i64 i))], []⟩) (n := l.length) ⟨0, rfl, Nat.zero_le _, rfl, ?_⟩ ?_
  · simp -dsimp -implicitDefEqProofs only [go_sem, collect_lit0, collect_lit1, collect_lit2, collect_lit3, if_true, if_false, true_and, and_true, false_and, and_false, and_self, Nat.zero_add, Nat.add_zero, eq_self, Bool.true_eq_false, Bool.false_eq_true, cond_true, cond_false, decide_eq_true_eq, Bool.not_eq_true', Bool.not_eq_false', decide_eq_false_iff_not, not_true_eq_false, not_false_eq_true, Bool.true_and, Bool.false_and, Bool.and_true, Bool.and_false, Bool.not_true, Bool.not_false, Option.some.injEq, decide_true, decide_false, List.getElem?_cons_zero, List.getElem?_cons_succ, List.length_cons, List.length_nil, List.nil_append, List.cons_append, List.set_cons_zero, List.set_cons_succ, List.take_zero, List.drop_zero, Nat.reduceEqDiff, Nat.reduceAdd, Nat.reduceSub, Nat.reduceLT, Nat.reduceLeDiff, Nat.reduceMul, Int.reduceEq, Int.reduceLT, Int.reduceLE, Int.reduceAdd, Int.reduceSub, Int.reduceNeg, Int.reduceToNat, reduceCtorEq, ↓reduceIte]
    rfl
  · rintro n st ⟨i, hn, hi, he, rfl⟩
    by_cases h : i < l.length
    · have hc : (i : Int) < (l.length : Int) := by omega
      obtain ⟨u, hu⟩ : ∃ u, l[i]? = some u := ⟨_, List.getElem?_eq_getElem h⟩
      have hum := List.mem_of_getElem? hu
      have husz := Tm.sizes_mem hum
      have hcall := fun hp => rvalid_ok u hp (by omega)
      simp only [Tm.av] at hcall
      have w2 : IntKind.i64.wrap ((i : Int) + 1) = ((i + 1 : Nat) : Int) := by rw [wrap64 (by omega) (by omega)]; omega
      by_cases h0 : u.valid = true
      · simp -dsimp -implicitDefEqProofs only [g23, c23r0, c23r1, c23r2, c23k3, c23r4, c23r5, c23k6, c23k7, c23r8, c23b9, c23k10, c23r11, c23, go_sem, collect_lit0, collect_lit1, collect_lit2, collect_lit3, if_true, if_false, true_and, and_true, false_and, and_false, and_self, Nat.zero_add, Nat.add_zero, eq_self, Bool.true_eq_false, Bool.false_eq_true, cond_true, cond_false, decide_eq_true_eq, Bool.not_eq_true', Bool.not_eq_false', decide_eq_false_iff_not, not_true_eq_false, not_false_eq_true, Bool.true_and, Bool.false_and, Bool.and_true, Bool.and_false, Bool.not_true, Bool.not_false, Option.some.injEq, decide_true, decide_false, List.getElem?_cons_zero, List.getElem?_cons_succ, List.length_cons, List.length_nil, List.nil_append, List.cons_append, List.set_cons_zero, List.set_cons_succ, List.take_zero, List.drop_zero, Nat.reduceEqDiff, Nat.reduceAdd, Nat.reduceSub, Nat.reduceLT, Nat.reduceLeDiff, Nat.reduceMul, Int.reduceEq, Int.reduceLT, Int.reduceLE, Int.reduceAdd, Int.reduceSub, Int.reduceNeg, Int.reduceToNat, reduceCtorEq, ↓reduceIte, Tm.pvs_len, hc, s_iaddr_pv (Tm.pvs_get hu), hcall, w2, h0]
        exact ⟨l.length - (i + 1), by omega, i + 1, rfl, by omega, by rw [validAll_take hu, he, h0]; rfl, rfl⟩
      · rw [Bool.not_eq_true] at h0
        simp -dsimp -implicitDefEqProofs only [g23, c23r0, c23r1, c23r2, c23k3, c23r4, c23r5, c23k6, c23k7, c23r8, c23b9, c23k10, c23r11, c23, go_sem, collect_lit0, collect_lit1, collect_lit2, collect_lit3, if_true, if_false, true_and, and_true, false_and, and_false, and_self, Nat.zero_add, Nat.add_zero, eq_self, Bool.true_eq_false, Bool.false_eq_true, cond_true, cond_false, decide_eq_true_eq, Bool.not_eq_true', Bool.not_eq_false', decide_eq_false_iff_not, not_true_eq_false, not_false_eq_true, Bool.true_and, Bool.false_and, Bool.and_true, Bool.and_false, Bool.not_true, Bool.not_false, Option.some.injEq, decide_true, decide_false, List.getElem?_cons_zero, List.getElem?_cons_succ, List.length_cons, List.length_nil, List.nil_append, List.cons_append, List.set_cons_zero, List.set_cons_succ, List.take_zero, List.drop_zero, Nat.reduceEqDiff, Nat.reduceAdd, Nat.reduceSub, Nat.reduceLT, Nat.reduceLeDiff, Nat.reduceMul, Int.reduceEq, Int.reduceLT, Int.reduceLE, Int.reduceAdd, Int.reduceSub, Int.reduceNeg, Int.reduceToNat, reduceCtorEq, ↓reduceIte, Tm.pvs_len, hc, s_iaddr_pv (Tm.pvs_get hu), hcall, w2, h0, validAll_false hum h0]
    · have hc : ¬ (i : Int) < (l.length : Int) := by omega
      obtain rfl : i = l.length := by omega
      rw [List.take_length] at he
      simp -dsimp -implicitDefEqProofs only [g23, c23r0, c23r1, c23r2, c23k3, c23r4, c23r5, c23k6, c23k7, c23r8, c23b9, c23k10, c23r11, c23, go_sem, collect_lit0, collect_lit1, collect_lit2, collect_lit3, if_true, if_false, true_and, and_true, false_and, and_false, and_self, Nat.zero_add, Nat.add_zero, eq_self, Bool.true_eq_false, Bool.false_eq_true, cond_true, cond_false, decide_eq_true_eq, Bool.not_eq_true', Bool.not_eq_false', decide_eq_false_iff_not, not_true_eq_false, not_false_eq_true, Bool.true_and, Bool.false_and, Bool.and_true, Bool.and_false, Bool.not_true, Bool.not_false, Option.some.injEq, decide_true, decide_false, List.getElem?_cons_zero, List.getElem?_cons_succ, List.length_cons, List.length_nil, List.nil_append, List.cons_append, List.set_cons_zero, List.set_cons_succ, List.take_zero, List.drop_zero, Nat.reduceEqDiff, Nat.reduceAdd, Nat.reduceSub, Nat.reduceLT, Nat.reduceLeDiff, Nat.reduceMul, Int.reduceEq, Int.reduceLT, Int.reduceLE, Int.reduceAdd, Int.reduceSub, Int.reduceNeg, Int.reduceToNat, reduceCtorEq, ↓reduceIte, Tm.pvs_len, hc, he]
end Go.Proofs.Yteaehiceghhajaa
