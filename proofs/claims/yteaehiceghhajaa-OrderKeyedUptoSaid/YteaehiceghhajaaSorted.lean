/- What is proved: the copy that is sorted. -/
import Derived.Test.YteaehiceghhajaaClone
import Derived.Test.YteaehiceghhajaaValids
set_option linter.unusedSimpArgs false
set_option linter.unusedVariables false
namespace Go.Proofs.Yteaehiceghhajaa
open Go.Am
theorem collect_ext {hp ext junk : Heap} {n : Nat} {fr : Fr} (hn : n = hp.length + ext.length) (hf : fr.all (fun x => x.2.refsIn.all (· < n)) = true) (he : ext.all (fun o => match o with | .box _ v => v.refsIn.all (· < n) | _ => true) = true) : collect n hp.length fr (hp ++ ext ++ junk) = hp ++ ext := by
  have ht : (hp ++ ext ++ junk).take n = hp ++ ext := by
    rw [List.take_append_of_le_length (by simp; omega), List.take_of_length_le (by simp; omega)]
  unfold collect
  rw [ht, hf, List.drop_left, Bool.true_and]
  exact if_pos he
theorem get_pre {α : Type} (l r : List α) (k : Nat) : (l ++ r)[l.length + k]? = r[k]? := by
  rw [List.getElem?_append_right (by omega)]
  congr 1
  omega
theorem get_pre0 {α : Type} (l r : List α) : (l ++ r)[l.length]? = r[0]? := get_pre l r 0
theorem set_pre {α : Type} (l r : List α) (k : Nat) (x : α) : (l ++ r).set (l.length + k) x = l ++ r.set k x := by
  rw [List.set_append_right _ _ (by omega)]
  congr 2
  omega
theorem set_pre0 {α : Type} (l r : List α) (x : α) : (l ++ r).set l.length x = l ++ r.set 0 x := set_pre l r 0 x
theorem w_mkslice0 {sh s s' : Sh} {k k' : IntKind} {z : PV} {hp : Heap} {n : Nat} (hs : 0 < sh.size) (h : n ≤ lim) : wMkslice sh z hp [.pv s (.int k 0), .pv s' (.int k' n)] = some (.sl sh hp.length 0 0 0, hp ++ [.arr sh [] false]) := by
  have h1 : ((n : Nat) : Int) ≤ ((lim : Nat) : Int) := by omega
  simp [wMkslice, hs, h1]
section
variable (c : PV → PV → Int) (hC : Cmp c) (g : FuncId) (D : PV → Prop) (hg : CmpF c g D)
include hC hg
theorem sortStable_ok (hp : Heap) (r : Nat) (hr : r < hp.length) (N : Nat) (hN' : N < 100000000) (xs : List PV) (hN : N = xs.length) (hD : ∀ x ∈ xs, D x) :
    S 60 [.sl (some 4) r N 0 N, .pv none (.func (.func g))] (hp.set r (.arr (some 4) xs false)) = some (.ret (.tuple []), hp.set r (.arr (some 4) (isort c xs) false)) := by
  have hcall := stable_ok c hC g D hg hp r hr N hN' xs hN hD
  have hsl : (hp.set r (.arr (some 4) xs false)).length = hp.length := by simp
  refine sem_heap rfl rfl rfl rfl ?_
  simp -dsimp -implicitDefEqProofs only [g60, c60r0, c60, go_sem, collect_lit0, collect_lit1, collect_lit2, collect_lit3, if_true, if_false, true_and, and_true, false_and, and_false, and_self, Nat.zero_add, Nat.add_zero, eq_self, Bool.true_eq_false, Bool.false_eq_true, cond_true, cond_false, decide_eq_true_eq, Bool.not_eq_true', Bool.not_eq_false', decide_eq_false_iff_not, not_true_eq_false, not_false_eq_true, Bool.true_and, Bool.false_and, Bool.and_true, Bool.and_false, Bool.not_true, Bool.not_false, Option.some.injEq, decide_true, decide_false, List.getElem?_cons_zero, List.getElem?_cons_succ, List.length_cons, List.length_nil, List.nil_append, List.cons_append, List.set_cons_zero, List.set_cons_succ, List.take_zero, List.drop_zero, Nat.reduceEqDiff, Nat.reduceAdd, Nat.reduceSub, Nat.reduceLT, Nat.reduceLeDiff, Nat.reduceMul, Int.reduceEq, Int.reduceLT, Int.reduceLE, Int.reduceAdd, Int.reduceSub, Int.reduceNeg, Int.reduceToNat, reduceCtorEq, ↓reduceIte, hcall, hsl]
  rw [List.take_of_length_le (by simp)]
theorem sorted_ok (hp : Heap) (ts : List Tm) (hv : ∀ t ∈ ts, t.valid = true) (hl : Tm.sizes ts < 100000000) (hD : ∀ t ∈ ts, D t.pv) :
    S 42 [.pv none (.sl (some 4) (Tm.pvs ts)), .pv none (.func (.func g))] hp = some (.ret (.sl (some 4) (hp.length + 1) ts.length 0 ts.length), hp ++ [.arr (some 4) [] false, .arr (some 4) (isort c (Tm.pvs ts)) false]) := by
  have hlen := Tm.sizes_len ts
  refine sem_heap rfl rfl rfl rfl ?_
  have hm : ts.length ≤ lim := by unfold lim; omega
  simp -dsimp -implicitDefEqProofs only [g42, c42r0, c42r1, c42r2, c42r3, c42k4, c42r5, c42r6, c42k7, c42r8, c42b9, c42k10, c42r11, c42r12, c42, go_sem, collect_lit0, collect_lit1, collect_lit2, collect_lit3, if_true, if_false, true_and, and_true, false_and, and_false, and_self, Nat.zero_add, Nat.add_zero, eq_self, Bool.true_eq_false, Bool.false_eq_true, cond_true, cond_false, decide_eq_true_eq, Bool.not_eq_true', Bool.not_eq_false', decide_eq_false_iff_not, not_true_eq_false, not_false_eq_true, Bool.true_and, Bool.false_and, Bool.and_true, Bool.and_false, Bool.not_true, Bool.not_false, Option.some.injEq, decide_true, decide_false, List.getElem?_cons_zero, List.getElem?_cons_succ, List.length_cons, List.length_nil, List.nil_append, List.cons_append, List.set_cons_zero, List.set_cons_succ, List.take_zero, List.drop_zero, Nat.reduceEqDiff, Nat.reduceAdd, Nat.reduceSub, Nat.reduceLT, Nat.reduceLeDiff, Nat.reduceMul, Int.reduceEq, Int.reduceLT, Int.reduceLE, Int.reduceAdd, Int.reduceSub, Int.reduceNeg, Int.reduceToNat, reduceCtorEq, ↓reduceIte, Tm.pvs_len, w_nilsl (sh := some 4) (by decide), w_mkslice0 (sh := some 4) (by decide) hm, List.append_assoc, List.cons_append, List.nil_append, get_pre, get_pre0, set_pre, set_pre0, Nat.add_assoc, List.length_append, List.length_cons, List.length_nil, Nat.zero_add]
  refine W_loop (fun n st => ∃ i : Nat, n = ts.length - i ∧ i ≤ ts.length ∧ st = ⟨[(1, .pv none (.func (.func g))), (5, .sl (some 4) (hp.length + 1) i 0 i), (11, .pv none (.sl (some 4) (Tm.pvs ts))), (12, .pv none (.int .i64 ts.length)), (13, .pv none (.int .i64 i))], hp ++ [.arr (some 4) [] false, .arr (some 4) (Tm.pvs (ts.take i)) false]⟩) (n := ts.length) ⟨0, rfl, Nat.zero_le _, ?_⟩ ?_
  · simp -dsimp -implicitDefEqProofs only [go_sem, collect_lit0, collect_lit1, collect_lit2, collect_lit3, if_true, if_false, true_and, and_true, false_and, and_false, and_self, Nat.zero_add, Nat.add_zero, eq_self, Bool.true_eq_false, Bool.false_eq_true, cond_true, cond_false, decide_eq_true_eq, Bool.not_eq_true', Bool.not_eq_false', decide_eq_false_iff_not, not_true_eq_false, not_false_eq_true, Bool.true_and, Bool.false_and, Bool.and_true, Bool.and_false, Bool.not_true, Bool.not_false, Option.some.injEq, decide_true, decide_false, List.getElem?_cons_zero, List.getElem?_cons_succ, List.length_cons, List.length_nil, List.nil_append, List.cons_append, List.set_cons_zero, List.set_cons_succ, List.take_zero, List.drop_zero, Nat.reduceEqDiff, Nat.reduceAdd, Nat.reduceSub, Nat.reduceLT, Nat.reduceLeDiff, Nat.reduceMul, Int.reduceEq, Int.reduceLT, Int.reduceLE, Int.reduceAdd, Int.reduceSub, Int.reduceNeg, Int.reduceToNat, reduceCtorEq, ↓reduceIte]
    simp [Tm.pvs]
  · rintro n st ⟨i, hn, hi, rfl⟩
    by_cases h : i < ts.length
    · have hc : (i : Int) < (ts.length : Int) := by omega
      obtain ⟨u, hu⟩ : ∃ u, ts[i]? = some u := ⟨_, List.getElem?_eq_getElem h⟩
      have hum := List.mem_of_getElem? hu
      have husz := Tm.sizes_mem hum
      have hcall := fun hp => clone_ok u hp (hv u hum) (by omega)
      simp only [Tm.av] at hcall
      have w2 : IntKind.i64.wrap ((i : Int) + 1) = ((i + 1 : Nat) : Int) := by rw [wrap64 (by omega) (by omega)]; omega
      have hl2 : (Tm.pvs (ts.take i)).length = i := by rw [Tm.pvs_len, List.length_take]; omega
      have hlim : i + 1 ≤ lim := by unfold lim; omega
      simp -dsimp -implicitDefEqProofs only [g42, c42r0, c42r1, c42r2, c42r3, c42k4, c42r5, c42r6, c42k7, c42r8, c42b9, c42k10, c42r11, c42r12, c42, go_sem, collect_lit0, collect_lit1, collect_lit2, collect_lit3, if_true, if_false, true_and, and_true, false_and, and_false, and_self, Nat.zero_add, Nat.add_zero, eq_self, Bool.true_eq_false, Bool.false_eq_true, cond_true, cond_false, decide_eq_true_eq, Bool.not_eq_true', Bool.not_eq_false', decide_eq_false_iff_not, not_true_eq_false, not_false_eq_true, Bool.true_and, Bool.false_and, Bool.and_true, Bool.and_false, Bool.not_true, Bool.not_false, Option.some.injEq, decide_true, decide_false, List.getElem?_cons_zero, List.getElem?_cons_succ, List.length_cons, List.length_nil, List.nil_append, List.cons_append, List.set_cons_zero, List.set_cons_succ, List.take_zero, List.drop_zero, Nat.reduceEqDiff, Nat.reduceAdd, Nat.reduceSub, Nat.reduceLT, Nat.reduceLeDiff, Nat.reduceMul, Int.reduceEq, Int.reduceLT, Int.reduceLE, Int.reduceAdd, Int.reduceSub, Int.reduceNeg, Int.reduceToNat, reduceCtorEq, ↓reduceIte, hc, s_iaddr_pv (Tm.pvs_get hu), hcall, w2, hl2, hlim, List.append_assoc, List.cons_append, List.nil_append, get_pre, get_pre0, set_pre, set_pre0, Nat.add_assoc, List.length_append, List.length_cons, List.length_nil, Nat.zero_add, Tm.pvs_take_succ hu, w_alloc_agg]
      refine ⟨ts.length - (i + 1), by omega, i + 1, rfl, by omega, ?_⟩
      rw [show ∀ a b c d : AObj, hp ++ [a, b, c, d] = hp ++ [a, b] ++ [c, d] from fun _ _ _ _ => by simp]
      rw [collect_ext (by simp) (by simp [AV.refsIn]) rfl]
    · have hc : ¬ (i : Int) < (ts.length : Int) := by omega
      obtain rfl : i = ts.length := by omega
      have hcall := sortStable_ok c hC g D hg (hp ++ [.arr (some 4) [] false, .arr (some 4) (Tm.pvs ts) false]) (hp.length + 1) (by simp) ts.length (by omega) (Tm.pvs ts) (Tm.pvs_len ts).symm (by rw [Tm.pvs_map]; simpa using hD)
      have e1 : ∀ x, (hp ++ [AObj.arr (some 4) [] false, .arr (some 4) (Tm.pvs ts) false]).set (hp.length + 1) x = hp ++ [.arr (some 4) [] false, x] := fun x => by rw [List.set_append_right _ _ (by omega)]; simp
      rw [e1, e1] at hcall
      simp -dsimp -implicitDefEqProofs only [g42, c42r0, c42r1, c42r2, c42r3, c42k4, c42r5, c42r6, c42k7, c42r8, c42b9, c42k10, c42r11, c42r12, c42, go_sem, collect_lit0, collect_lit1, collect_lit2, collect_lit3, if_true, if_false, true_and, and_true, false_and, and_false, and_self, Nat.zero_add, Nat.add_zero, eq_self, Bool.true_eq_false, Bool.false_eq_true, cond_true, cond_false, decide_eq_true_eq, Bool.not_eq_true', Bool.not_eq_false', decide_eq_false_iff_not, not_true_eq_false, not_false_eq_true, Bool.true_and, Bool.false_and, Bool.and_true, Bool.and_false, Bool.not_true, Bool.not_false, Option.some.injEq, decide_true, decide_false, List.getElem?_cons_zero, List.getElem?_cons_succ, List.length_cons, List.length_nil, List.nil_append, List.cons_append, List.set_cons_zero, List.set_cons_succ, List.take_zero, List.drop_zero, Nat.reduceEqDiff, Nat.reduceAdd, Nat.reduceSub, Nat.reduceLT, Nat.reduceLeDiff, Nat.reduceMul, Int.reduceEq, Int.reduceLT, Int.reduceLE, Int.reduceAdd, Int.reduceSub, Int.reduceNeg, Int.reduceToNat, reduceCtorEq, ↓reduceIte, hc, List.take_length, hcall, List.append_assoc, List.cons_append, List.nil_append, get_pre, get_pre0, set_pre, set_pre0, Nat.add_assoc, List.length_append, List.length_cons, List.length_nil, Nat.zero_add]
      simp [AV.refsIn]
end
/-- The program's stable sorting. -/
def small (p : PV) : Prop := ∃ t : Tm, p = t.pv ∧ t.valid = true ∧ t.size < 1000000000
theorem cmpF_tm : CmpF (onPV Tm.cmp) 37 small := by
  rintro x y ⟨t, rfl, ht, hts⟩ ⟨u, rfl, hu, hus⟩ hp
  have h := compare_ok t u hp hts (Tm.valid_fits ht) (Tm.valid_fits hu)
  simp only [Tm.av] at h
  simpa [onPV, tmOf_pv] using h
theorem stableTop_ok (hp : Heap) (ts : List Tm) (hl : Tm.sizes ts < 100000000) : S 17 [.pv none (.sl (some 4) (Tm.pvs ts))] hp = some (.ret (.tuple (if validAll ts = true then [.sl (some 4) (hp.length + 2) ts.length 0 ts.length, .pv none (.int .i64 0)] else [.sl (some 4) (hp.length + 1) 0 0 0, .pv none (.int .i64 1)])), hp ++ (if validAll ts = true then [.arr (some 4) [] false, .arr (some 4) [] false, .arr (some 4) (Tm.pvs (isort Tm.cmp ts)) false] else [.arr (some 4) [] false, .arr (some 4) [] false])) := by
  have hv := ovalid_any ts (by omega)
  refine sem_heap rfl rfl rfl rfl ?_
  by_cases h : validAll ts = true
  · rw [h] at hv
    have hcall := fun hp => sorted_ok (onPV Tm.cmp) (onPV_cmp tm_cmp) 37 small cmpF_tm hp ts (fun t ht => validAll_mem h ht) hl (fun t ht => ⟨t, rfl, validAll_mem h ht, by have := Tm.sizes_mem ht; omega⟩)
    simp only [isort_pvs] at hcall
    simp -dsimp -implicitDefEqProofs only [g17, c17r0, c17r1, c17r2, c17k3, c17r4, c17, go_sem, collect_lit0, collect_lit1, collect_lit2, collect_lit3, if_true, if_false, true_and, and_true, false_and, and_false, and_self, Nat.zero_add, Nat.add_zero, eq_self, Bool.true_eq_false, Bool.false_eq_true, cond_true, cond_false, decide_eq_true_eq, Bool.not_eq_true', Bool.not_eq_false', decide_eq_false_iff_not, not_true_eq_false, not_false_eq_true, Bool.true_and, Bool.false_and, Bool.and_true, Bool.and_false, Bool.not_true, Bool.not_false, Option.some.injEq, decide_true, decide_false, List.getElem?_cons_zero, List.getElem?_cons_succ, List.length_cons, List.length_nil, List.nil_append, List.cons_append, List.set_cons_zero, List.set_cons_succ, List.take_zero, List.drop_zero, Nat.reduceEqDiff, Nat.reduceAdd, Nat.reduceSub, Nat.reduceLT, Nat.reduceLeDiff, Nat.reduceMul, Int.reduceEq, Int.reduceLT, Int.reduceLE, Int.reduceAdd, Int.reduceSub, Int.reduceNeg, Int.reduceToNat, reduceCtorEq, ↓reduceIte, hv, hcall, h, w_nilsl (sh := some 4) (by decide), List.append_assoc, List.cons_append, List.nil_append, get_pre, get_pre0, set_pre, set_pre0, Nat.add_assoc, List.length_append, List.length_cons, List.length_nil, Nat.zero_add]
    simp [AV.refsIn, AV.refsIn.gol]
  · rw [Bool.not_eq_true] at h
    rw [h] at hv
    simp -dsimp -implicitDefEqProofs only [g17, c17r0, c17r1, c17r2, c17k3, c17r4, c17, go_sem, collect_lit0, collect_lit1, collect_lit2, collect_lit3, if_true, if_false, true_and, and_true, false_and, and_false, and_self, Nat.zero_add, Nat.add_zero, eq_self, Bool.true_eq_false, Bool.false_eq_true, cond_true, cond_false, decide_eq_true_eq, Bool.not_eq_true', Bool.not_eq_false', decide_eq_false_iff_not, not_true_eq_false, not_false_eq_true, Bool.true_and, Bool.false_and, Bool.and_true, Bool.and_false, Bool.not_true, Bool.not_false, Option.some.injEq, decide_true, decide_false, List.getElem?_cons_zero, List.getElem?_cons_succ, List.length_cons, List.length_nil, List.nil_append, List.cons_append, List.set_cons_zero, List.set_cons_succ, List.take_zero, List.drop_zero, Nat.reduceEqDiff, Nat.reduceAdd, Nat.reduceSub, Nat.reduceLT, Nat.reduceLeDiff, Nat.reduceMul, Int.reduceEq, Int.reduceLT, Int.reduceLE, Int.reduceAdd, Int.reduceSub, Int.reduceNeg, Int.reduceToNat, reduceCtorEq, ↓reduceIte, hv, h, w_nilsl (sh := some 4) (by decide), List.append_assoc, List.cons_append, List.nil_append, get_pre, get_pre0, set_pre, set_pre0, Nat.add_assoc, List.length_append, List.length_cons, List.length_nil, Nat.zero_add]
    simp [AV.refsIn, AV.refsIn.gol]
end Go.Proofs.Yteaehiceghhajaa
