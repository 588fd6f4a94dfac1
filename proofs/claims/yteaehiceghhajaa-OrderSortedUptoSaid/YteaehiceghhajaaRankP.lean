/- What is proved: the search among sorted terms. -/
import Derived.Test.YteaehiceghhajaaValids
set_option linter.unusedSimpArgs false
set_option linter.unusedVariables false
namespace Go.Proofs.Yteaehiceghhajaa
open Go.Am
/-- Each element comes before the next one. -/
def Incr (l : List Tm) : Prop := ∀ k x y, l[k]? = some x → l[k + 1]? = some y → x.cmp y < 0
/-- How many elements come before a term. -/
def lb (l : List Tm) (t : Tm) : Nat := (l.takeWhile fun x => decide (x.cmp t < 0)).length
theorem lb_le (l : List Tm) (t : Tm) : lb l t ≤ l.length := (List.takeWhile_sublist _).length_le
theorem Incr.tail {x : Tm} {l : List Tm} (h : Incr (x :: l)) : Incr l := fun k a b h1 h2 => h (k + 1) a b (by simpa using h1) (by simpa using h2)
theorem Incr.first {x : Tm} : ∀ {l : List Tm}, Incr (x :: l) → ∀ y ∈ l, x.cmp y < 0
  | [], _, y, hy => by simp at hy
  | z :: l, h, y, hy => by
    have h0 : x.cmp z < 0 := h 0 x z rfl rfl
    rcases List.mem_cons.1 hy with rfl | hy
    · exact h0
    · exact Tm.cmp_lt_trans h0 (Incr.first h.tail y hy)
theorem lb_spec {t : Tm} : ∀ {l : List Tm}, Incr l → ∀ {k : Nat} {x : Tm}, l[k]? = some x → (x.cmp t < 0 ↔ k < lb l t)
  | [], _, k, x, h => by simp at h
  | y :: l, hi, k, x, h => by
    unfold lb
    by_cases hy : y.cmp t < 0
    · rw [List.takeWhile_cons_of_pos (by simpa using hy)]
      cases k with
      | zero => simp at h; subst h; simp [hy]
      | succ k =>
        have := lb_spec hi.tail (k := k) (x := x) (t := t) (by simpa using h)
        unfold lb at this
        rw [this]
        simp
    · rw [List.takeWhile_cons_of_neg (by simpa using hy)]
      simp only [List.length_nil, Nat.not_lt_zero, iff_false]
      cases k with
      | zero => simp at h; subst h; exact hy
      | succ k =>
        intro hx
        have hm : x ∈ l := List.mem_of_getElem? (by simpa using h : l[k]? = some x)
        exact hy (Tm.cmp_lt_trans (hi.first x hm) hx)
theorem incr_take {l : List Tm} {i : Nat} {x y : Tm} (h : Incr (l.take (i + 1))) (hx : l[i]? = some x) (hy : l[i + 1]? = some y) (hc : x.cmp y < 0) : Incr (l.take (i + 2)) := by
  intro k a b ha hb
  have hk : k + 1 < i + 2 := by have := (List.getElem?_eq_some_iff.1 hb).1; simp at this; omega
  rw [List.getElem?_take_of_lt (by omega)] at ha hb
  by_cases hk' : k + 1 < i + 1
  · exact h k a b (by rw [List.getElem?_take_of_lt (by omega)]; exact ha) (by rw [List.getElem?_take_of_lt (by omega)]; exact hb)
  · obtain rfl : k = i := by omega
    rw [hx] at ha; rw [hy] at hb
    cases ha; cases hb
    exact hc

theorem oRank_check (l : List Tm) (t : Tm) (hl : Tm.sizes l < 1000000000) (hv : validAll l = true) (fr : Fr) (Q : AExit → St → Prop)
    (hfr : fr.keep [0, 3, 6] = [(0, .pv none (.sl (some 4) (Tm.pvs l))), (3, .ptr 0 0), (6, .pv none (.int .i64 1))])
    (h1 : Incr l → ∀ r, Q (.exit 0) ⟨(0, .pv none (.sl (some 4) (Tm.pvs l))) :: (3, .ptr 0 0) :: r, [.box (some 4) (.pv (some 4) t.pv)]⟩)
    (h2 : ¬ Incr l → ∀ r hp, Q .ret ⟨(4, .pv none (.int .i64 0)) :: (5, .pv none (.bool false)) :: r, hp⟩) :
    W S L 0 (.loop [0, 3, 6] c26b12) ⟨fr, [.box (some 4) (.pv (some 4) t.pv)]⟩ Q := by
  have hlen := Tm.sizes_len l
  refine W_loop (fun n st => ∃ i : Nat, n = l.length - i ∧ Incr (l.take (i + 1)) ∧ st = ⟨[(0, .pv none (.sl (some 4) (Tm.pvs l))), (3, .ptr 0 0), (6, .pv none (.int .i64 ((i + 1 : Nat) : Int)))], [.box (some 4) (.pv (some 4) t.pv)]⟩) (n := l.length) ⟨0, rfl, ?_, ?_⟩ ?_
  · intro k x y hx hy
    have := (List.getElem?_eq_some_iff.1 hy).1
    simp at this
    omega
  · rw [hfr]
    rfl
  · rintro n st ⟨i, hn, hi, rfl⟩
    by_cases h : i + 1 < l.length
    · have hc : ((i + 1 : Nat) : Int) < (l.length : Int) := by omega
      obtain ⟨x, hx⟩ : ∃ x, l[i]? = some x := ⟨_, List.getElem?_eq_getElem (by omega)⟩
      obtain ⟨y, hy⟩ : ∃ y, l[i + 1]? = some y := ⟨_, List.getElem?_eq_getElem h⟩
      have hmx := List.mem_of_getElem? hx
      have hmy := List.mem_of_getElem? hy
      have hsx := Tm.sizes_mem hmx
      have hcall := fun hp => compare_ok x y hp (by omega) (valid_fits (validAll_mem hv hmx)) (valid_fits (validAll_mem hv hmy))
      simp only [Tm.av] at hcall
      have w1 : IntKind.i64.wrap (((i + 1 : Nat) : Int) - 1) = ((i : Nat) : Int) := by rw [wrap64 (by omega) (by omega)]; omega
      have w2 : IntKind.i64.wrap (((i + 1 : Nat) : Int) + 1) = ((i + 1 + 1 : Nat) : Int) := by rw [wrap64 (by omega) (by omega)]; omega
      by_cases h0 : 0 ≤ x.cmp y
      · simp -dsimp -implicitDefEqProofs only [g26, c26r0, c26r1, c26r2, c26k3, c26r4, c26r5, c26k6, c26r7, c26r8, c26k9, c26k10, c26r11, c26b12, c26k13, c26r14, c26, go_sem, collect_lit0, collect_lit1, collect_lit2, collect_lit3, if_true, if_false, true_and, and_true, false_and, and_false, and_self, Nat.zero_add, Nat.add_zero, eq_self, Bool.true_eq_false, Bool.false_eq_true, cond_true, cond_false, decide_eq_true_eq, Bool.not_eq_true', Bool.not_eq_false', decide_eq_false_iff_not, not_true_eq_false, not_false_eq_true, Bool.true_and, Bool.false_and, Bool.and_true, Bool.and_false, Bool.not_true, Bool.not_false, Option.some.injEq, decide_true, decide_false, List.getElem?_cons_zero, List.getElem?_cons_succ, List.length_cons, List.length_nil, List.nil_append, List.cons_append, List.set_cons_zero, List.set_cons_succ, List.take_zero, List.drop_zero, Nat.reduceEqDiff, Nat.reduceAdd, Nat.reduceSub, Nat.reduceLT, Nat.reduceLeDiff, Nat.reduceMul, Int.reduceEq, Int.reduceLT, Int.reduceLE, Int.reduceAdd, Int.reduceSub, Int.reduceNeg, Int.reduceToNat, reduceCtorEq, ↓reduceIte, Tm.pvs_len, hc, s_iaddr_pv (Tm.pvs_get hx), s_iaddr_pv (Tm.pvs_get hy), hcall, w1, w2, h0]
        exact h2 (fun hI => by have := hI i x y hx hy; omega) _ _
      · simp -dsimp -implicitDefEqProofs only [g26, c26r0, c26r1, c26r2, c26k3, c26r4, c26r5, c26k6, c26r7, c26r8, c26k9, c26k10, c26r11, c26b12, c26k13, c26r14, c26, go_sem, collect_lit0, collect_lit1, collect_lit2, collect_lit3, if_true, if_false, true_and, and_true, false_and, and_false, and_self, Nat.zero_add, Nat.add_zero, eq_self, Bool.true_eq_false, Bool.false_eq_true, cond_true, cond_false, decide_eq_true_eq, Bool.not_eq_true', Bool.not_eq_false', decide_eq_false_iff_not, not_true_eq_false, not_false_eq_true, Bool.true_and, Bool.false_and, Bool.and_true, Bool.and_false, Bool.not_true, Bool.not_false, Option.some.injEq, decide_true, decide_false, List.getElem?_cons_zero, List.getElem?_cons_succ, List.length_cons, List.length_nil, List.nil_append, List.cons_append, List.set_cons_zero, List.set_cons_succ, List.take_zero, List.drop_zero, Nat.reduceEqDiff, Nat.reduceAdd, Nat.reduceSub, Nat.reduceLT, Nat.reduceLeDiff, Nat.reduceMul, Int.reduceEq, Int.reduceLT, Int.reduceLE, Int.reduceAdd, Int.reduceSub, Int.reduceNeg, Int.reduceToNat, reduceCtorEq, ↓reduceIte, Tm.pvs_len, hc, s_iaddr_pv (Tm.pvs_get hx), s_iaddr_pv (Tm.pvs_get hy), hcall, w1, w2, h0]
        exact ⟨l.length - (i + 1), by omega, i + 1, rfl, incr_take hi hx hy (by omega), rfl⟩
    · have hc : ¬ ((i + 1 : Nat) : Int) < (l.length : Int) := by omega
      simp -dsimp -implicitDefEqProofs only [g26, c26r0, c26r1, c26r2, c26k3, c26r4, c26r5, c26k6, c26r7, c26r8, c26k9, c26k10, c26r11, c26b12, c26k13, c26r14, c26, go_sem, collect_lit0, collect_lit1, collect_lit2, collect_lit3, if_true, if_false, true_and, and_true, false_and, and_false, and_self, Nat.zero_add, Nat.add_zero, eq_self, Bool.true_eq_false, Bool.false_eq_true, cond_true, cond_false, decide_eq_true_eq, Bool.not_eq_true', Bool.not_eq_false', decide_eq_false_iff_not, not_true_eq_false, not_false_eq_true, Bool.true_and, Bool.false_and, Bool.and_true, Bool.and_false, Bool.not_true, Bool.not_false, Option.some.injEq, decide_true, decide_false, List.getElem?_cons_zero, List.getElem?_cons_succ, List.length_cons, List.length_nil, List.nil_append, List.cons_append, List.set_cons_zero, List.set_cons_succ, List.take_zero, List.drop_zero, Nat.reduceEqDiff, Nat.reduceAdd, Nat.reduceSub, Nat.reduceLT, Nat.reduceLeDiff, Nat.reduceMul, Int.reduceEq, Int.reduceLT, Int.reduceLE, Int.reduceAdd, Int.reduceSub, Int.reduceNeg, Int.reduceToNat, reduceCtorEq, ↓reduceIte, Tm.pvs_len, hc]
      rw [List.take_of_length_le (by omega)] at hi
      exact h1 hi _

theorem rRank_check (l : List Tm) (t : Tm) (hl : Tm.sizes l < 1000000000) (hv : validAll l = true) (fr : Fr) (Q : AExit → St → Prop)
    (hfr : fr.keep [0, 3, 6] = [(0, .pv none (.sl (some 4) (Tm.pvs l))), (3, .ptr 0 0), (6, .pv none (.int .i64 1))])
    (h1 : Incr l → ∀ r, Q (.exit 0) ⟨(0, .pv none (.sl (some 4) (Tm.pvs l))) :: (3, .ptr 0 0) :: r, [.box (some 4) (.pv (some 4) t.pv)]⟩)
    (h2 : ¬ Incr l → ∀ r hp, Q .ret ⟨(4, .pv none (.int .i64 0)) :: (5, .pv none (.bool false)) :: r, hp⟩) :
    W S L 0 (.loop [0, 3, 6] c27b12) ⟨fr, [.box (some 4) (.pv (some 4) t.pv)]⟩ Q := by
  have hlen := Tm.sizes_len l
  refine W_loop (fun n st => ∃ i : Nat, n = l.length - i ∧ Incr (l.take (i + 1)) ∧ st = ⟨[(0, .pv none (.sl (some 4) (Tm.pvs l))), (3, .ptr 0 0), (6, .pv none (.int .i64 ((i + 1 : Nat) : Int)))], [.box (some 4) (.pv (some 4) t.pv)]⟩) (n := l.length) ⟨0, rfl, ?_, ?_⟩ ?_
  · intro k x y hx hy
    have := (List.getElem?_eq_some_iff.1 hy).1
    simp at this
    omega
  · rw [hfr]
    rfl
  · rintro n st ⟨i, hn, hi, rfl⟩
    by_cases h : i + 1 < l.length
    · have hc : ((i + 1 : Nat) : Int) < (l.length : Int) := by omega
      obtain ⟨x, hx⟩ : ∃ x, l[i]? = some x := ⟨_, List.getElem?_eq_getElem (by omega)⟩
      obtain ⟨y, hy⟩ : ∃ y, l[i + 1]? = some y := ⟨_, List.getElem?_eq_getElem h⟩
      have hmx := List.mem_of_getElem? hx
      have hmy := List.mem_of_getElem? hy
      have hsx := Tm.sizes_mem hmx
      have hcall := fun hp => rcompare_ok x y hp (by omega) (valid_fits (validAll_mem hv hmx)) (valid_fits (validAll_mem hv hmy))
      simp only [Tm.av] at hcall
      have w1 : IntKind.i64.wrap (((i + 1 : Nat) : Int) - 1) = ((i : Nat) : Int) := by rw [wrap64 (by omega) (by omega)]; omega
      have w2 : IntKind.i64.wrap (((i + 1 : Nat) : Int) + 1) = ((i + 1 + 1 : Nat) : Int) := by rw [wrap64 (by omega) (by omega)]; omega
      by_cases h0 : 0 ≤ x.cmp y
      · simp -dsimp -implicitDefEqProofs only [g27, c27r0, c27r1, c27r2, c27k3, c27r4, c27r5, c27k6, c27r7, c27r8, c27k9, c27k10, c27r11, c27b12, c27k13, c27r14, c27r15, c27k16, c27r17, c27k18, c27b19, c27k20, c27r21, c27, go_sem, collect_lit0, collect_lit1, collect_lit2, collect_lit3, if_true, if_false, true_and, and_true, false_and, and_false, and_self, Nat.zero_add, Nat.add_zero, eq_self, Bool.true_eq_false, Bool.false_eq_true, cond_true, cond_false, decide_eq_true_eq, Bool.not_eq_true', Bool.not_eq_false', decide_eq_false_iff_not, not_true_eq_false, not_false_eq_true, Bool.true_and, Bool.false_and, Bool.and_true, Bool.and_false, Bool.not_true, Bool.not_false, Option.some.injEq, decide_true, decide_false, List.getElem?_cons_zero, List.getElem?_cons_succ, List.length_cons, List.length_nil, List.nil_append, List.cons_append, List.set_cons_zero, List.set_cons_succ, List.take_zero, List.drop_zero, Nat.reduceEqDiff, Nat.reduceAdd, Nat.reduceSub, Nat.reduceLT, Nat.reduceLeDiff, Nat.reduceMul, Int.reduceEq, Int.reduceLT, Int.reduceLE, Int.reduceAdd, Int.reduceSub, Int.reduceNeg, Int.reduceToNat, reduceCtorEq, ↓reduceIte, Tm.pvs_len, hc, s_iaddr_pv (Tm.pvs_get hx), s_iaddr_pv (Tm.pvs_get hy), hcall, w1, w2, h0]
        exact h2 (fun hI => by have := hI i x y hx hy; omega) _ _
      · simp -dsimp -implicitDefEqProofs only [g27, c27r0, c27r1, c27r2, c27k3, c27r4, c27r5, c27k6, c27r7, c27r8, c27k9, c27k10, c27r11, c27b12, c27k13, c27r14, c27r15, c27k16, c27r17, c27k18, c27b19, c27k20, c27r21, c27, go_sem, collect_lit0, collect_lit1, collect_lit2, collect_lit3, if_true, if_false, true_and, and_true, false_and, and_false, and_self, Nat.zero_add, Nat.add_zero, eq_self, Bool.true_eq_false, Bool.false_eq_true, cond_true, cond_false, decide_eq_true_eq, Bool.not_eq_true', Bool.not_eq_false', decide_eq_false_iff_not, not_true_eq_false, not_false_eq_true, Bool.true_and, Bool.false_and, Bool.and_true, Bool.and_false, Bool.not_true, Bool.not_false, Option.some.injEq, decide_true, decide_false, List.getElem?_cons_zero, List.getElem?_cons_succ, List.length_cons, List.length_nil, List.nil_append, List.cons_append, List.set_cons_zero, List.set_cons_succ, List.take_zero, List.drop_zero, Nat.reduceEqDiff, Nat.reduceAdd, Nat.reduceSub, Nat.reduceLT, Nat.reduceLeDiff, Nat.reduceMul, Int.reduceEq, Int.reduceLT, Int.reduceLE, Int.reduceAdd, Int.reduceSub, Int.reduceNeg, Int.reduceToNat, reduceCtorEq, ↓reduceIte, Tm.pvs_len, hc, s_iaddr_pv (Tm.pvs_get hx), s_iaddr_pv (Tm.pvs_get hy), hcall, w1, w2, h0]
        exact ⟨l.length - (i + 1), by omega, i + 1, rfl, incr_take hi hx hy (by omega), rfl⟩
    · have hc : ¬ ((i + 1 : Nat) : Int) < (l.length : Int) := by omega
      simp -dsimp -implicitDefEqProofs only [g27, c27r0, c27r1, c27r2, c27k3, c27r4, c27r5, c27k6, c27r7, c27r8, c27k9, c27k10, c27r11, c27b12, c27k13, c27r14, c27r15, c27k16, c27r17, c27k18, c27b19, c27k20, c27r21, c27, go_sem, collect_lit0, collect_lit1, collect_lit2, collect_lit3, if_true, if_false, true_and, and_true, false_and, and_false, and_self, Nat.zero_add, Nat.add_zero, eq_self, Bool.true_eq_false, Bool.false_eq_true, cond_true, cond_false, decide_eq_true_eq, Bool.not_eq_true', Bool.not_eq_false', decide_eq_false_iff_not, not_true_eq_false, not_false_eq_true, Bool.true_and, Bool.false_and, Bool.and_true, Bool.and_false, Bool.not_true, Bool.not_false, Option.some.injEq, decide_true, decide_false, List.getElem?_cons_zero, List.getElem?_cons_succ, List.length_cons, List.length_nil, List.nil_append, List.cons_append, List.set_cons_zero, List.set_cons_succ, List.take_zero, List.drop_zero, Nat.reduceEqDiff, Nat.reduceAdd, Nat.reduceSub, Nat.reduceLT, Nat.reduceLeDiff, Nat.reduceMul, Int.reduceEq, Int.reduceLT, Int.reduceLE, Int.reduceAdd, Int.reduceSub, Int.reduceNeg, Int.reduceToNat, reduceCtorEq, ↓reduceIte, Tm.pvs_len, hc]
      rw [List.take_of_length_le (by omega)] at hi
      exact h1 hi _

/-- Whether a term is at its place. -/
def found (l : List Tm) (t : Tm) : Bool :=
  match l[lb l t]? with
  | some x => decide (x.cmp t = 0)
  | none => false
theorem bsearch_ok (l : List Tm) (t : Tm) (hl : Tm.sizes l < 1000000000) (hv : validAll l = true) (hi : Incr l) (ht : t.valid = true) (hp : Heap) :
    S 48 [.pv none (.sl (some 4) (Tm.pvs l)), .pv (some 4) t.pv, .pv none (.func (.func 37))] hp = some (.ret (.tuple [.pv none (.int .i64 (lb l t : Int)), .pv none (.bool (found l t))]), hp) := by
  refine sem_pure rfl rfl rfl (freezeAll_pvs [(none, .sl (some 4) (Tm.pvs l)), (some 4, t.pv), (none, .func (.func 37))]) rfl ?_
  have hlen := Tm.sizes_len l
  have hlb := lb_le l t
  have hcmp : ∀ (k : Nat) (x : Tm), l[k]? = some x → ∀ hp, S 37 [.pv (some 4) x.pv, .pv (some 4) t.pv] hp = some (.ret (.pv none (.int .i64 (x.cmp t))), hp) := fun k x hx hp => by
    have hm := List.mem_of_getElem? hx
    have := Tm.sizes_mem hm
    exact compare_ok x t hp (by omega) (valid_fits (validAll_mem hv hm)) (valid_fits ht)
  simp -dsimp -implicitDefEqProofs only [g48, c48r0, c48r1, c48r2, c48r3, c48k4, c48r5, c48r6, c48r7, c48r8, c48k9, c48k10, c48b11, c48k12, c48r13, c48, go_sem, collect_lit0, collect_lit1, collect_lit2, collect_lit3, if_true, if_false, true_and, and_true, false_and, and_false, and_self, Nat.zero_add, Nat.add_zero, eq_self, Bool.true_eq_false, Bool.false_eq_true, cond_true, cond_false, decide_eq_true_eq, Bool.not_eq_true', Bool.not_eq_false', decide_eq_false_iff_not, not_true_eq_false, not_false_eq_true, Bool.true_and, Bool.false_and, Bool.and_true, Bool.and_false, Bool.not_true, Bool.not_false, Option.some.injEq, decide_true, decide_false, List.getElem?_cons_zero, List.getElem?_cons_succ, List.length_cons, List.length_nil, List.nil_append, List.cons_append, List.set_cons_zero, List.set_cons_succ, List.take_zero, List.drop_zero, Nat.reduceEqDiff, Nat.reduceAdd, Nat.reduceSub, Nat.reduceLT, Nat.reduceLeDiff, Nat.reduceMul, Int.reduceEq, Int.reduceLT, Int.reduceLE, Int.reduceAdd, Int.reduceSub, Int.reduceNeg, Int.reduceToNat, reduceCtorEq, ↓reduceIte, Tm.pvs_len]
  refine W_loop (fun n st => ∃ i j : Nat, n = j - i ∧ i ≤ lb l t ∧ lb l t ≤ j ∧ j ≤ l.length ∧ st = ⟨[(0, .pv none (.sl (some 4) (Tm.pvs l))), (2, .pv none (.func (.func 37))), (4, .ptr 0 0), (8, .pv none (.int .i64 (l.length : Int))), (9, .pv none (.int .i64 i)), (10, .pv none (.int .i64 j))], [.box (some 4) (.pv (some 4) t.pv)]⟩) (n := l.length) ⟨0, l.length, by omega, by omega, hlb, by omega, ?_⟩ ?_
  · simp -dsimp -implicitDefEqProofs only [go_sem, collect_lit0, collect_lit1, collect_lit2, collect_lit3, if_true, if_false, true_and, and_true, false_and, and_false, and_self, Nat.zero_add, Nat.add_zero, eq_self, Bool.true_eq_false, Bool.false_eq_true, cond_true, cond_false, decide_eq_true_eq, Bool.not_eq_true', Bool.not_eq_false', decide_eq_false_iff_not, not_true_eq_false, not_false_eq_true, Bool.true_and, Bool.false_and, Bool.and_true, Bool.and_false, Bool.not_true, Bool.not_false, Option.some.injEq, decide_true, decide_false, List.getElem?_cons_zero, List.getElem?_cons_succ, List.length_cons, List.length_nil, List.nil_append, List.cons_append, List.set_cons_zero, List.set_cons_succ, List.take_zero, List.drop_zero, Nat.reduceEqDiff, Nat.reduceAdd, Nat.reduceSub, Nat.reduceLT, Nat.reduceLeDiff, Nat.reduceMul, Int.reduceEq, Int.reduceLT, Int.reduceLE, Int.reduceAdd, Int.reduceSub, Int.reduceNeg, Int.reduceToNat, reduceCtorEq, ↓reduceIte]
    rfl
  · rintro n st ⟨i, j, hn, h1, h2, h3, rfl⟩
    by_cases hij : i < j
    · have hc : (i : Int) < (j : Int) := by omega
      obtain ⟨x, hx⟩ : ∃ x, l[(i + j) / 2]? = some x := ⟨_, List.getElem?_eq_getElem (by omega)⟩
      have hcall := hcmp _ x hx
      have hs := lb_spec (t := t) hi hx
      have w1 : IntKind.i64.wrap ((i : Int) + (j : Int)) = ((i + j : Nat) : Int) := by rw [wrap64 (by omega) (by omega)]; omega
      have w2 : IntKind.u64.wrap ((i + j : Nat) : Int) = ((i + j : Nat) : Int) := wrap_u64 (by omega) (by omega)
      have w3 : IntKind.i64.wrap (((i + j : Nat) : Int) / 2) = (((i + j) / 2 : Nat) : Int) := by rw [wrap64 (by omega) (by omega)]; omega
      have w4 : IntKind.i64.wrap ((((i + j) / 2 : Nat) : Int) + 1) = (((i + j) / 2 + 1 : Nat) : Int) := by rw [wrap64 (by omega) (by omega)]; omega
      by_cases h0 : x.cmp t < 0
      · simp -dsimp -implicitDefEqProofs only [g48, c48r0, c48r1, c48r2, c48r3, c48k4, c48r5, c48r6, c48r7, c48r8, c48k9, c48k10, c48b11, c48k12, c48r13, c48, go_sem, collect_lit0, collect_lit1, collect_lit2, collect_lit3, if_true, if_false, true_and, and_true, false_and, and_false, and_self, Nat.zero_add, Nat.add_zero, eq_self, Bool.true_eq_false, Bool.false_eq_true, cond_true, cond_false, decide_eq_true_eq, Bool.not_eq_true', Bool.not_eq_false', decide_eq_false_iff_not, not_true_eq_false, not_false_eq_true, Bool.true_and, Bool.false_and, Bool.and_true, Bool.and_false, Bool.not_true, Bool.not_false, Option.some.injEq, decide_true, decide_false, List.getElem?_cons_zero, List.getElem?_cons_succ, List.length_cons, List.length_nil, List.nil_append, List.cons_append, List.set_cons_zero, List.set_cons_succ, List.take_zero, List.drop_zero, Nat.reduceEqDiff, Nat.reduceAdd, Nat.reduceSub, Nat.reduceLT, Nat.reduceLeDiff, Nat.reduceMul, Int.reduceEq, Int.reduceLT, Int.reduceLE, Int.reduceAdd, Int.reduceSub, Int.reduceNeg, Int.reduceToNat, reduceCtorEq, ↓reduceIte, Tm.pvs_len, hc, i_shr1 (show 0 < IntKind.bits .u64 by decide), w1, w2, w3, w4, s_iaddr_pv (Tm.pvs_get hx), hcall, h0]
        refine ⟨j - ((i + j) / 2 + 1), by omega, (i + j) / 2 + 1, j, rfl, ?_, h2, h3, rfl⟩
        have := hs.1 h0
        omega
      · simp -dsimp -implicitDefEqProofs only [g48, c48r0, c48r1, c48r2, c48r3, c48k4, c48r5, c48r6, c48r7, c48r8, c48k9, c48k10, c48b11, c48k12, c48r13, c48, go_sem, collect_lit0, collect_lit1, collect_lit2, collect_lit3, if_true, if_false, true_and, and_true, false_and, and_false, and_self, Nat.zero_add, Nat.add_zero, eq_self, Bool.true_eq_false, Bool.false_eq_true, cond_true, cond_false, decide_eq_true_eq, Bool.not_eq_true', Bool.not_eq_false', decide_eq_false_iff_not, not_true_eq_false, not_false_eq_true, Bool.true_and, Bool.false_and, Bool.and_true, Bool.and_false, Bool.not_true, Bool.not_false, Option.some.injEq, decide_true, decide_false, List.getElem?_cons_zero, List.getElem?_cons_succ, List.length_cons, List.length_nil, List.nil_append, List.cons_append, List.set_cons_zero, List.set_cons_succ, List.take_zero, List.drop_zero, Nat.reduceEqDiff, Nat.reduceAdd, Nat.reduceSub, Nat.reduceLT, Nat.reduceLeDiff, Nat.reduceMul, Int.reduceEq, Int.reduceLT, Int.reduceLE, Int.reduceAdd, Int.reduceSub, Int.reduceNeg, Int.reduceToNat, reduceCtorEq, ↓reduceIte, Tm.pvs_len, hc, i_shr1 (show 0 < IntKind.bits .u64 by decide), w1, w2, w3, w4, s_iaddr_pv (Tm.pvs_get hx), hcall, h0]
        refine ⟨(i + j) / 2 - i, by omega, i, (i + j) / 2, rfl, h1, ?_, by omega, rfl⟩
        have : ¬ (i + j) / 2 < lb l t := fun h => h0 (hs.2 h)
        omega
    · have hc : ¬ (i : Int) < (j : Int) := by omega
      obtain rfl : i = lb l t := by omega
      by_cases hll : lb l t < l.length
      · have hc2 : ((lb l t : Nat) : Int) < (l.length : Int) := by omega
        obtain ⟨x, hx⟩ : ∃ x, l[lb l t]? = some x := ⟨_, List.getElem?_eq_getElem hll⟩
        have hcall := hcmp _ x hx
        have hf : found l t = decide (x.cmp t = 0) := by unfold found; rw [hx]
        simp -dsimp -implicitDefEqProofs only [g48, c48r0, c48r1, c48r2, c48r3, c48k4, c48r5, c48r6, c48r7, c48r8, c48k9, c48k10, c48b11, c48k12, c48r13, c48, go_sem, collect_lit0, collect_lit1, collect_lit2, collect_lit3, if_true, if_false, true_and, and_true, false_and, and_false, and_self, Nat.zero_add, Nat.add_zero, eq_self, Bool.true_eq_false, Bool.false_eq_true, cond_true, cond_false, decide_eq_true_eq, Bool.not_eq_true', Bool.not_eq_false', decide_eq_false_iff_not, not_true_eq_false, not_false_eq_true, Bool.true_and, Bool.false_and, Bool.and_true, Bool.and_false, Bool.not_true, Bool.not_false, Option.some.injEq, decide_true, decide_false, List.getElem?_cons_zero, List.getElem?_cons_succ, List.length_cons, List.length_nil, List.nil_append, List.cons_append, List.set_cons_zero, List.set_cons_succ, List.take_zero, List.drop_zero, Nat.reduceEqDiff, Nat.reduceAdd, Nat.reduceSub, Nat.reduceLT, Nat.reduceLeDiff, Nat.reduceMul, Int.reduceEq, Int.reduceLT, Int.reduceLE, Int.reduceAdd, Int.reduceSub, Int.reduceNeg, Int.reduceToNat, reduceCtorEq, ↓reduceIte, Tm.pvs_len, hc, hc2, s_iaddr_pv (Tm.pvs_get hx), hcall, hf]
      · have hc2 : ¬ ((lb l t : Nat) : Int) < (l.length : Int) := by omega
        have hf : found l t = false := by unfold found; rw [List.getElem?_eq_none (by omega)]
        simp -dsimp -implicitDefEqProofs only [g48, c48r0, c48r1, c48r2, c48r3, c48k4, c48r5, c48r6, c48r7, c48r8, c48k9, c48k10, c48b11, c48k12, c48r13, c48, go_sem, collect_lit0, collect_lit1, collect_lit2, collect_lit3, if_true, if_false, true_and, and_true, false_and, and_false, and_self, Nat.zero_add, Nat.add_zero, eq_self, Bool.true_eq_false, Bool.false_eq_true, cond_true, cond_false, decide_eq_true_eq, Bool.not_eq_true', Bool.not_eq_false', decide_eq_false_iff_not, not_true_eq_false, not_false_eq_true, Bool.true_and, Bool.false_and, Bool.and_true, Bool.and_false, Bool.not_true, Bool.not_false, Option.some.injEq, decide_true, decide_false, List.getElem?_cons_zero, List.getElem?_cons_succ, List.length_cons, List.length_nil, List.nil_append, List.cons_append, List.set_cons_zero, List.set_cons_succ, List.take_zero, List.drop_zero, Nat.reduceEqDiff, Nat.reduceAdd, Nat.reduceSub, Nat.reduceLT, Nat.reduceLeDiff, Nat.reduceMul, Int.reduceEq, Int.reduceLT, Int.reduceLE, Int.reduceAdd, Int.reduceSub, Int.reduceNeg, Int.reduceToNat, reduceCtorEq, ↓reduceIte, Tm.pvs_len, hc, hc2, hf]
end Go.Proofs.Yteaehiceghhajaa
