/- What is proved: two lists of the same elements, sorted; few and SameAll for lists of the run's own. -/
import Derived.Test.YteaehiceghhajaaRanked
set_option linter.unusedSimpArgs false
set_option linter.unusedVariables false
namespace Go.Proofs.Yteaehiceghhajaa
open Go.Am
theorem srt_unique : ∀ {a b : List Tm}, Srt Tm.cmp a → Srt Tm.cmp b → a.Perm b → a = b
  | [], b, _, _, h => (List.nil_perm.1 h).symm
  | x :: a, [], _, _, h => absurd h.length_eq (by simp)
  | x :: a, y :: b, ha, hb, h => by
    have hx : x ∈ y :: b := h.mem_iff.1 (by simp)
    have hy : y ∈ x :: a := h.mem_iff.2 (by simp)
    have h1 : x.cmp y ≤ 0 := by
      rcases List.mem_cons.1 hy with rfl | hy
      · rw [Tm.cmp_self]; exact Int.le_refl _
      · exact ha.head y hy
    have h2 : y.cmp x ≤ 0 := by
      rcases List.mem_cons.1 hx with rfl | hx
      · rw [Tm.cmp_self]; exact Int.le_refl _
      · exact hb.head x hx
    have h3 := Tm.cmp_neg x y
    obtain rfl : x = y := Tm.cmp_zero.1 (by omega)
    rw [srt_unique ha.tail hb.tail ((List.perm_cons _).1 h)]
theorem isort_of_perm {a b : List Tm} (h : a.Perm b) : isort Tm.cmp a = isort Tm.cmp b :=
  srt_unique (isort_srt tm_cmp a) (isort_srt tm_cmp b) ((isort_perm a).trans (h.trans (isort_perm b).symm))
theorem cnt_perm {a b : List Tm} (h : a.Perm b) (t : Tm) : cnt a t = cnt b t := (h.filter _).length_eq
theorem cnt_pos {l : List Tm} {t : Tm} (h : t ∈ l) (hv : t.valid = true) : 0 < cnt l t := by
  unfold cnt
  exact List.length_pos_of_mem (List.mem_filter.2 ⟨h, by simp [same, hv, Tm.cmp_self]⟩)

/-- A slice of the run's own that holds these terms. -/
def SlAt (hp : Heap) (r N n : Nat) (l : List Tm) : Prop := ∃ es fz, hp[r]? = some (.arr (some 4) es fz) ∧ es.length = N ∧ es.take n = Tm.pvs l ∧ l.length = n ∧ n ≤ N
theorem SlAt.isL {hp : Heap} {r N n : Nat} {l : List Tm} (h : SlAt hp r N n l) : IsL (.sl (some 4) r N 0 n) hp l := by
  obtain ⟨es, fz, h1, h2, h3, h4, h5⟩ := h
  exact isL_sl h1 h2 h3 h4 h5
theorem SlAt.more {hp : Heap} {r N n : Nat} {l : List Tm} (h : SlAt hp r N n l) (e : Heap) : SlAt (hp ++ e) r N n l := by
  obtain ⟨es, fz, h1, h2⟩ := h
  exact ⟨es, fz, by rw [get_app (get_lt h1), h1], h2⟩
theorem SlAt.frz {hp : Heap} {r N n : Nat} {l : List Tm} (h : SlAt hp r N n l) : ∃ hp1 : Heap, hp1.length = hp.length ∧ AV.freeze deep (.sl (some 4) r N 0 n) hp = some (.sl (some 4) (Tm.pvs l), hp1) ∧ ∀ r' N' n' l', SlAt hp r' N' n' l' → SlAt hp1 r' N' n' l' := by
  obtain ⟨es, fz, h1, h2, h3, h4, h5⟩ := h
  refine ⟨hp.set r (.arr (some 4) es true), by simp, ?_, ?_⟩
  · show AV.freeze (7 + 1) _ _ = _
    simp only [AV.freeze, h1]
    by_cases hc : n = es.length
    · rw [if_pos (by simp [h2, hc]), ← h3, List.take_of_length_le (by omega)]
    · rw [if_neg (fun h => hc h.2.2), if_pos ⟨h2.symm, by omega⟩, List.drop_zero, h3]
  · rintro r' N' n' l' ⟨es', fz', k1, k2⟩
    by_cases e : r' = r
    · subst e
      rw [h1] at k1
      cases k1
      exact ⟨es, true, by rw [List.getElem?_set_self (get_lt h1)], k2⟩
    · exact ⟨es', fz', by rw [List.getElem?_set_ne (Ne.symm e)]; exact k1, k2⟩
theorem few_l (v : AV) (hp : Heap) (l : List Tm) (hL : IsL v hp l) (h40 : l.length ≤ 40) (hl : Tm.sizes l < 1000000000) : S 15 [v] hp = some (.ret (.sl (some 4) (hp.length + 1) l.length 0 l.length), hp ++ [.arr (some 4) [] false, .arr (some 4) (Tm.pvs l) false]) := by
  refine sem_heap rfl rfl rfl rfl ?_
  have hlen := Tm.sizes_len l
  simp -dsimp -implicitDefEqProofs only [g15, c15r0, c15r1, c15r2, c15r3, c15k4, c15r5, c15k6, c15r7, c15b8, c15k9, c15r10, c15, go_sem, collect_lit0, collect_lit1, collect_lit2, collect_lit3, if_true, if_false, true_and, and_true, false_and, and_false, and_self, Nat.zero_add, Nat.add_zero, eq_self, Bool.true_eq_false, Bool.false_eq_true, cond_true, cond_false, decide_eq_true_eq, Bool.not_eq_true', Bool.not_eq_false', decide_eq_false_iff_not, not_true_eq_false, not_false_eq_true, Bool.true_and, Bool.false_and, Bool.and_true, Bool.and_false, Bool.not_true, Bool.not_false, Option.some.injEq, decide_true, decide_false, List.getElem?_cons_zero, List.getElem?_cons_succ, List.length_cons, List.length_nil, List.nil_append, List.cons_append, List.set_cons_zero, List.set_cons_succ, List.take_zero, List.drop_zero, Nat.reduceEqDiff, Nat.reduceAdd, Nat.reduceSub, Nat.reduceLT, Nat.reduceLeDiff, Nat.reduceMul, Int.reduceEq, Int.reduceLT, Int.reduceLE, Int.reduceAdd, Int.reduceSub, Int.reduceNeg, Int.reduceToNat, reduceCtorEq, ↓reduceIte, w_nilsl (sh := some 4) (by decide), List.append_assoc, List.cons_append, List.nil_append, get_pre, get_pre0, set_pre, set_pre0, Nat.add_assoc, List.length_append, List.length_cons, List.length_nil, Nat.zero_add]
  refine W_loop (fun n st => ∃ i : Nat, n = l.length - i ∧ i ≤ l.length ∧ st = ⟨[(0, v), (3, .sl (some 4) (hp.length + 1) i 0 i), (4, .pv none (.int .i64 i))], hp ++ [.arr (some 4) [] false, .arr (some 4) (Tm.pvs (l.take i)) false]⟩) (n := l.length) ⟨0, rfl, Nat.zero_le _, ?_⟩ ?_
  · simp -dsimp -implicitDefEqProofs only [go_sem, collect_lit0, collect_lit1, collect_lit2, collect_lit3, if_true, if_false, true_and, and_true, false_and, and_false, and_self, Nat.zero_add, Nat.add_zero, eq_self, Bool.true_eq_false, Bool.false_eq_true, cond_true, cond_false, decide_eq_true_eq, Bool.not_eq_true', Bool.not_eq_false', decide_eq_false_iff_not, not_true_eq_false, not_false_eq_true, Bool.true_and, Bool.false_and, Bool.and_true, Bool.and_false, Bool.not_true, Bool.not_false, Option.some.injEq, decide_true, decide_false, List.getElem?_cons_zero, List.getElem?_cons_succ, List.length_cons, List.length_nil, List.nil_append, List.cons_append, List.set_cons_zero, List.set_cons_succ, List.take_zero, List.drop_zero, Nat.reduceEqDiff, Nat.reduceAdd, Nat.reduceSub, Nat.reduceLT, Nat.reduceLeDiff, Nat.reduceMul, Int.reduceEq, Int.reduceLT, Int.reduceLE, Int.reduceAdd, Int.reduceSub, Int.reduceNeg, Int.reduceToNat, reduceCtorEq, ↓reduceIte]
    rfl
  · rintro n st ⟨i, hn, hi, rfl⟩
    by_cases h : i < l.length
    · have hc : (i : Int) < (l.length : Int) := by omega
      have hc' : (i : Int) < 40 := by omega
      obtain ⟨u, hu⟩ : ∃ u, l[i]? = some u := ⟨_, List.getElem?_eq_getElem h⟩
      obtain ⟨p, p1, p2⟩ := hL.idx i u hu
      have w2 : IntKind.i64.wrap ((i : Int) + 1) = ((i + 1 : Nat) : Int) := by rw [wrap64 (by omega) (by omega)]; omega
      have hlm : i + 1 ≤ lim := by unfold lim; omega
      have hti : (Tm.pvs (l.take i)).length = i := by rw [Tm.pvs_len, List.length_take]; omega
      simp -dsimp -implicitDefEqProofs only [g15, c15r0, c15r1, c15r2, c15r3, c15k4, c15r5, c15k6, c15r7, c15b8, c15k9, c15r10, c15, go_sem, collect_lit0, collect_lit1, collect_lit2, collect_lit3, if_true, if_false, true_and, and_true, false_and, and_false, and_self, Nat.zero_add, Nat.add_zero, eq_self, Bool.true_eq_false, Bool.false_eq_true, cond_true, cond_false, decide_eq_true_eq, Bool.not_eq_true', Bool.not_eq_false', decide_eq_false_iff_not, not_true_eq_false, not_false_eq_true, Bool.true_and, Bool.false_and, Bool.and_true, Bool.and_false, Bool.not_true, Bool.not_false, Option.some.injEq, decide_true, decide_false, List.getElem?_cons_zero, List.getElem?_cons_succ, List.length_cons, List.length_nil, List.nil_append, List.cons_append, List.set_cons_zero, List.set_cons_succ, List.take_zero, List.drop_zero, Nat.reduceEqDiff, Nat.reduceAdd, Nat.reduceSub, Nat.reduceLT, Nat.reduceLeDiff, Nat.reduceMul, Int.reduceEq, Int.reduceLT, Int.reduceLE, Int.reduceAdd, Int.reduceSub, Int.reduceNeg, Int.reduceToNat, reduceCtorEq, ↓reduceIte, hL.len, hc, hc', p1, p2, w2, hlm, hti, Tm.pvs_take_succ hu, List.append_assoc, List.cons_append, List.nil_append, get_pre, get_pre0, set_pre, set_pre0, Nat.add_assoc, List.length_append, List.length_cons, List.length_nil, Nat.zero_add]
      refine ⟨l.length - (i + 1), by omega, i + 1, rfl, by omega, ?_⟩
      rw [collect_id (by simp)]
    · have hc : ¬ (i : Int) < (l.length : Int) := by omega
      obtain rfl : i = l.length := by omega
      simp -dsimp -implicitDefEqProofs only [g15, c15r0, c15r1, c15r2, c15r3, c15k4, c15r5, c15k6, c15r7, c15b8, c15k9, c15r10, c15, go_sem, collect_lit0, collect_lit1, collect_lit2, collect_lit3, if_true, if_false, true_and, and_true, false_and, and_false, and_self, Nat.zero_add, Nat.add_zero, eq_self, Bool.true_eq_false, Bool.false_eq_true, cond_true, cond_false, decide_eq_true_eq, Bool.not_eq_true', Bool.not_eq_false', decide_eq_false_iff_not, not_true_eq_false, not_false_eq_true, Bool.true_and, Bool.false_and, Bool.and_true, Bool.and_false, Bool.not_true, Bool.not_false, Option.some.injEq, decide_true, decide_false, List.getElem?_cons_zero, List.getElem?_cons_succ, List.length_cons, List.length_nil, List.nil_append, List.cons_append, List.set_cons_zero, List.set_cons_succ, List.take_zero, List.drop_zero, Nat.reduceEqDiff, Nat.reduceAdd, Nat.reduceSub, Nat.reduceLT, Nat.reduceLeDiff, Nat.reduceMul, Int.reduceEq, Int.reduceLT, Int.reduceLE, Int.reduceAdd, Int.reduceSub, Int.reduceNeg, Int.reduceToNat, reduceCtorEq, ↓reduceIte, hL.len, hc, List.take_length, List.append_assoc, List.cons_append, List.nil_append, get_pre, get_pre0, set_pre, set_pre0, Nat.add_assoc, List.length_append, List.length_cons, List.length_nil, Nat.zero_add]
      simp [AV.refsIn]
theorem sameAll_pure (l : List Tm) (hv : validAll l = true) (hl : Tm.sizes l < 1000000000) : S 22 [.pv none (.sl (some 4) (Tm.pvs l)), .pv none (.sl (some 4) (Tm.pvs l))] [] = some (.ret (.pv none (.bool true)), []) := by
  refine sem_pure rfl rfl rfl (freezeAll_pvs [(none, .sl (some 4) (Tm.pvs l)), (none, .sl (some 4) (Tm.pvs l))]) rfl ?_
  have hlen := Tm.sizes_len l
  simp -dsimp -implicitDefEqProofs only [g22, c22r0, c22r1, c22r2, c22k3, c22r4, c22r5, c22k6, c22r7, c22r8, c22k9, c22k10, c22r11, c22b12, c22k13, c22r14, c22, go_sem, collect_lit0, collect_lit1, collect_lit2, collect_lit3, if_true, if_false, true_and, and_true, false_and, and_false, and_self, Nat.zero_add, Nat.add_zero, eq_self, Bool.true_eq_false, Bool.false_eq_true, cond_true, cond_false, decide_eq_true_eq, Bool.not_eq_true', Bool.not_eq_false', decide_eq_false_iff_not, not_true_eq_false, not_false_eq_true, Bool.true_and, Bool.false_and, Bool.and_true, Bool.and_false, Bool.not_true, Bool.not_false, Option.some.injEq, decide_true, decide_false, List.getElem?_cons_zero, List.getElem?_cons_succ, List.length_cons, List.length_nil, List.nil_append, List.cons_append, List.set_cons_zero, List.set_cons_succ, List.take_zero, List.drop_zero, Nat.reduceEqDiff, Nat.reduceAdd, Nat.reduceSub, Nat.reduceLT, Nat.reduceLeDiff, Nat.reduceMul, Int.reduceEq, Int.reduceLT, Int.reduceLE, Int.reduceAdd, Int.reduceSub, Int.reduceNeg, Int.reduceToNat, reduceCtorEq, ↓reduceIte]
  refine W_loop (fun n st => ∃ i : Nat, n = l.length - i ∧ i ≤ l.length ∧ st = ⟨[(0, .pv none (.sl (some 4) (Tm.pvs l))), (1, .pv none (.sl (some 4) (Tm.pvs l))), (5, .pv none (.int .i64 i))], []⟩) (n := l.length) ⟨0, rfl, Nat.zero_le _, ?_⟩ ?_
  · simp -dsimp -implicitDefEqProofs only [go_sem, collect_lit0, collect_lit1, collect_lit2, collect_lit3, if_true, if_false, true_and, and_true, false_and, and_false, and_self, Nat.zero_add, Nat.add_zero, eq_self, Bool.true_eq_false, Bool.false_eq_true, cond_true, cond_false, decide_eq_true_eq, Bool.not_eq_true', Bool.not_eq_false', decide_eq_false_iff_not, not_true_eq_false, not_false_eq_true, Bool.true_and, Bool.false_and, Bool.and_true, Bool.and_false, Bool.not_true, Bool.not_false, Option.some.injEq, decide_true, decide_false, List.getElem?_cons_zero, List.getElem?_cons_succ, List.length_cons, List.length_nil, List.nil_append, List.cons_append, List.set_cons_zero, List.set_cons_succ, List.take_zero, List.drop_zero, Nat.reduceEqDiff, Nat.reduceAdd, Nat.reduceSub, Nat.reduceLT, Nat.reduceLeDiff, Nat.reduceMul, Int.reduceEq, Int.reduceLT, Int.reduceLE, Int.reduceAdd, Int.reduceSub, Int.reduceNeg, Int.reduceToNat, reduceCtorEq, ↓reduceIte]
    rfl
  · rintro n st ⟨i, hn, hi, rfl⟩
    by_cases h : i < l.length
    · have hc : (i : Int) < (l.length : Int) := by omega
      obtain ⟨u, hu⟩ : ∃ u, l[i]? = some u := ⟨_, List.getElem?_eq_getElem h⟩
      have hum := List.mem_of_getElem? hu
      have husz := Tm.sizes_mem hum
      have hvu := validAll_mem hv hum
      have hcall := fun hp => rsame_ok u u hp (by omega) (by omega)
      have hss : same u u = true := by simp [same, hvu, Tm.cmp_self]
      simp only [Tm.av, hss] at hcall
      have w2 : IntKind.i64.wrap ((i : Int) + 1) = ((i + 1 : Nat) : Int) := by rw [wrap64 (by omega) (by omega)]; omega
      simp -dsimp -implicitDefEqProofs only [g22, c22r0, c22r1, c22r2, c22k3, c22r4, c22r5, c22k6, c22r7, c22r8, c22k9, c22k10, c22r11, c22b12, c22k13, c22r14, c22, go_sem, collect_lit0, collect_lit1, collect_lit2, collect_lit3, if_true, if_false, true_and, and_true, false_and, and_false, and_self, Nat.zero_add, Nat.add_zero, eq_self, Bool.true_eq_false, Bool.false_eq_true, cond_true, cond_false, decide_eq_true_eq, Bool.not_eq_true', Bool.not_eq_false', decide_eq_false_iff_not, not_true_eq_false, not_false_eq_true, Bool.true_and, Bool.false_and, Bool.and_true, Bool.and_false, Bool.not_true, Bool.not_false, Option.some.injEq, decide_true, decide_false, List.getElem?_cons_zero, List.getElem?_cons_succ, List.length_cons, List.length_nil, List.nil_append, List.cons_append, List.set_cons_zero, List.set_cons_succ, List.take_zero, List.drop_zero, Nat.reduceEqDiff, Nat.reduceAdd, Nat.reduceSub, Nat.reduceLT, Nat.reduceLeDiff, Nat.reduceMul, Int.reduceEq, Int.reduceLT, Int.reduceLE, Int.reduceAdd, Int.reduceSub, Int.reduceNeg, Int.reduceToNat, reduceCtorEq, ↓reduceIte, Tm.pvs_len, hc, s_iaddr_pv (Tm.pvs_get hu), hcall, w2]
      exact ⟨l.length - (i + 1), by omega, i + 1, rfl, by omega, rfl⟩
    · have hc : ¬ (i : Int) < (l.length : Int) := by omega
      simp -dsimp -implicitDefEqProofs only [g22, c22r0, c22r1, c22r2, c22k3, c22r4, c22r5, c22k6, c22r7, c22r8, c22k9, c22k10, c22r11, c22b12, c22k13, c22r14, c22, go_sem, collect_lit0, collect_lit1, collect_lit2, collect_lit3, if_true, if_false, true_and, and_true, false_and, and_false, and_self, Nat.zero_add, Nat.add_zero, eq_self, Bool.true_eq_false, Bool.false_eq_true, cond_true, cond_false, decide_eq_true_eq, Bool.not_eq_true', Bool.not_eq_false', decide_eq_false_iff_not, not_true_eq_false, not_false_eq_true, Bool.true_and, Bool.false_and, Bool.and_true, Bool.and_false, Bool.not_true, Bool.not_false, Option.some.injEq, decide_true, decide_false, List.getElem?_cons_zero, List.getElem?_cons_succ, List.length_cons, List.length_nil, List.nil_append, List.cons_append, List.set_cons_zero, List.set_cons_succ, List.take_zero, List.drop_zero, Nat.reduceEqDiff, Nat.reduceAdd, Nat.reduceSub, Nat.reduceLT, Nat.reduceLeDiff, Nat.reduceMul, Int.reduceEq, Int.reduceLT, Int.reduceLE, Int.reduceAdd, Int.reduceSub, Int.reduceNeg, Int.reduceToNat, reduceCtorEq, ↓reduceIte, Tm.pvs_len, hc]
theorem sameAll_l {hp : Heap} {r N n r' N' n' : Nat} {l : List Tm} (h1 : SlAt hp r N n l) (h2 : SlAt hp r' N' n' l) (hv : validAll l = true) (hl : Tm.sizes l < 1000000000) : S 22 [.sl (some 4) r N 0 n, .sl (some 4) r' N' 0 n'] hp = some (.ret (.pv none (.bool true)), hp) := by
  obtain ⟨hp1, _, f1, k1⟩ := h1.frz
  obtain ⟨hp2, _, f2, k2⟩ := (k1 _ _ _ _ h2).frz
  have hz : freezeAll [.sl (some 4) r N 0 n, .sl (some 4) r' N' 0 n'] hp = some ([(none, .sl (some 4) (Tm.pvs l)), (none, .sl (some 4) (Tm.pvs l))], hp2) := by
    simp only [freezeAll, f1, f2, AV.shp]
  exact sem_any rfl rfl rfl hz (sameAll_pure l hv hl)
end Go.Proofs.Yteaehiceghhajaa
