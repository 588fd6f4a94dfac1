/- What is proved: the copy that is sorted. -/
import Derived.Test.YteaehiceghhajaaClone
import Derived.Test.YteaehiceghhajaaValids
set_option linter.unusedSimpArgs false
set_option linter.unusedVariables false
namespace Go.Proofs.Yteaehiceghhajaa
open Go.Am
theorem collect_ext {hp ext junk : Heap} {n : Nat} {fr : Fr} (hn : n = hp.length + ext.length) (hf : fr.all (fun x => x.2.refsIn.all (· < n)) = true) (he : ext.all (fun o => match o with | .box _ v => v.refsIn.all (· < n) | _ => true) = true) : collect n hp.length fr (hp ++ ext ++ junk) = hp ++ ext := by
  have ht : (hp ++ ext ++ junk).take n = hp ++ ext := by
    rw [List.take_append_of_le_length (by simp; omega), List.take_of_length_le (by simp; omega)]
  unfold collect
  rw [ht, hf, List.drop_left, Bool.true_and]
  exact if_pos he
theorem get_pre {α : Type} (l r : List α) (k : Nat) : (l ++ r)[l.length + k]? = r[k]? := by
  rw [List.getElem?_append_right (by omega)]
  congr 1
  omega
theorem get_pre0 {α : Type} (l r : List α) : (l ++ r)[l.length]? = r[0]? := get_pre l r 0
theorem set_pre {α : Type} (l r : List α) (k : Nat) (x : α) : (l ++ r).set (l.length + k) x = l ++ r.set k x := by
  rw [List.set_append_right _ _ (by omega)]
  congr 2
  omega
theorem set_pre0 {α : Type} (l r : List α) (x : α) : (l ++ r).set l.length x = l ++ r.set 0 x := set_pre l r 0 x
theorem w_mkslice0 {sh s s' : Sh} {k k' : IntKind} {z : PV} {hp : Heap} {n : Nat} (hs : 0 < sh.size) (h : n ≤ lim) : wMkslice sh z hp [.pv s (.int k 0), .pv s' (.int k' n)] = some (.sl sh hp.length 0 0 0, hp ++ [.arr sh [] false]) := by
  have h1 : ((n : Nat) : Int) ≤ ((lim : Nat) : Int) := by omega
  simp [wMkslice, hs, h1]
/-- A list of terms, given as a value or as a slice of the run's own. -/
structure IsL (v : AV) (hp : Heap) (l : List Tm) : Prop where
  len : sLen [v] = some (.pv none (.int .i64 l.length))
  idx : ∀ (i : Nat) (u : Tm), l[i]? = some u → ∃ p, (∀ (s : Sh) (k : IntKind), sIaddr (some 4) [v, .pv s (.int k i)] = some p) ∧ ∀ ext, aload (some 4) (hp ++ ext) p = some (.pv (some 4) u.pv)
  refs : ∀ q, q ∈ v.refsIn → q < hp.length
  frz : ∃ hp1 : Heap, hp1.length = hp.length ∧ ∀ ext, freezeAll [v] (hp ++ ext) = some ([(none, .sl (some 4) (Tm.pvs l))], hp1 ++ ext)
theorem IsL.more {v : AV} {hp : Heap} {l : List Tm} (h : IsL v hp l) (e : Heap) : IsL v (hp ++ e) l where
  len := h.len
  idx := fun i u hu => by
    obtain ⟨p, h1, h2⟩ := h.idx i u hu
    exact ⟨p, h1, fun ext => by rw [List.append_assoc]; exact h2 _⟩
  refs := fun q hq => by have := h.refs q hq; simp; omega
  frz := by
    obtain ⟨hp1, h1, h2⟩ := h.frz
    exact ⟨hp1 ++ e, by simp [h1], fun ext => by rw [List.append_assoc, h2, List.append_assoc]⟩
theorem isL_pv (hp : Heap) (l : List Tm) : IsL (.pv none (.sl (some 4) (Tm.pvs l))) hp l where
  len := by rw [s_len_pv, Tm.pvs_len]
  idx := fun i u hu => ⟨.iptr (some 4) u.pv 0, fun s k => s_iaddr_pv (Tm.pvs_get hu), fun ext => by rw [aload_iptr]; simp⟩
  refs := fun q hq => by simp [AV.refsIn] at hq
  frz := ⟨hp, rfl, fun ext => freezeAll_pvs [(none, .sl (some 4) (Tm.pvs l))]⟩
theorem isL_sl {hp : Heap} {r N n : Nat} {es : List PV} {fz : Bool} {l : List Tm} (h : hp[r]? = some (.arr (some 4) es fz)) (hN : es.length = N) (hl : es.take n = Tm.pvs l) (hn : l.length = n) (hnN : n ≤ N) : IsL (.sl (some 4) r N 0 n) hp l where
  len := by rw [s_len_sl, hn]
  idx := fun i u hu => by
    have hi := (List.getElem?_eq_some_iff.1 hu).1
    refine ⟨.eptr (some 4) r N (0 + i) 0, fun s k => s_iaddr_sl (by omega), fun ext => ?_⟩
    have hr := get_lt h
    have e : (hp ++ ext)[r]? = some (.arr (some 4) es fz) := by rw [get_app hr, h]
    rw [aload_eptr (by rw [e]; exact hN) (by rw [e]; rfl), e]
    have : es[0 + i]? = some u.pv := by
      rw [← List.getElem?_take_of_lt (show 0 + i < n by omega), hl, Nat.zero_add]
      exact Tm.pvs_get hu
    show toAV (some 4) es[0 + i]? = _
    rw [this]
    rfl
  refs := fun q hq => by
    simp only [AV.refsIn, List.mem_singleton] at hq
    rw [hq]
    exact get_lt h
  frz := by
    refine ⟨hp.set r (.arr (some 4) es true), by simp, fun ext => ?_⟩
    have hr := get_lt h
    have e : (hp ++ ext)[r]? = some (.arr (some 4) es fz) := by rw [get_app hr, h]
    have hf : AV.freeze deep (.sl (some 4) r N 0 n) (hp ++ ext) = some (.sl (some 4) (Tm.pvs l), hp.set r (.arr (some 4) es true) ++ ext) := by
      show AV.freeze (7 + 1) _ _ = _
      simp only [AV.freeze, e, set_app hr]
      by_cases hc : n = es.length
      · rw [if_pos (by simp [hN, hc]), ← hl, List.take_of_length_le (by omega)]
      · rw [if_neg (fun h => hc h.2.2), if_pos ⟨hN.symm, by omega⟩, List.drop_zero, hl]
    simp only [freezeAll, hf, AV.shp]
section
variable (c : PV → PV → Int) (hC : Cmp c) (g : FuncId) (D : PV → Prop) (hg : CmpF c g D)
include hC hg
theorem sortStable_ok (hp : Heap) (r : Nat) (hr : r < hp.length) (N : Nat) (hN' : N < 100000000) (xs : List PV) (hN : N = xs.length) (hD : ∀ x ∈ xs, D x) :
    S 60 [.sl (some 4) r N 0 N, .pv none (.func (.func g))] (hp.set r (.arr (some 4) xs false)) = some (.ret (.tuple []), hp.set r (.arr (some 4) (isort c xs) false)) := by
  have hcall := stable_ok c hC g D hg hp r hr N hN' xs hN hD
  have hsl : (hp.set r (.arr (some 4) xs false)).length = hp.length := by simp
  refine sem_heap rfl rfl rfl rfl ?_
  simp -dsimp -implicitDefEqProofs only [g60, c60r0, c60, go_sem, collect_lit0, collect_lit1, collect_lit2, collect_lit3, if_true, if_false, true_and, and_true, false_and, and_false, and_self, Nat.zero_add, Nat.add_zero, eq_self, Bool.true_eq_false, Bool.false_eq_true, cond_true, cond_false, decide_eq_true_eq, Bool.not_eq_true', Bool.not_eq_false', decide_eq_false_iff_not, not_true_eq_false, not_false_eq_true, Bool.true_and, Bool.false_and, Bool.and_true, Bool.and_false, Bool.not_true, Bool.not_false, Option.some.injEq, decide_true, decide_false, List.getElem?_cons_zero, List.getElem?_cons_succ, List.length_cons, List.length_nil, List.nil_append, List.cons_append, List.set_cons_zero, List.set_cons_succ, List.take_zero, List.drop_zero, Nat.reduceEqDiff, Nat.reduceAdd, Nat.reduceSub, Nat.reduceLT, Nat.reduceLeDiff, Nat.reduceMul, Int.reduceEq, Int.reduceLT, Int.reduceLE, Int.reduceAdd, Int.reduceSub, Int.reduceNeg, Int.reduceToNat, reduceCtorEq, ↓reduceIte, hcall, hsl]
  rw [List.take_of_length_le (by simp)]
theorem sorted_ok (v : AV) (hp : Heap) (ts : List Tm) (hL : IsL v hp ts) (hv : ∀ t ∈ ts, t.valid = true) (hl : Tm.sizes ts < 100000000) (hD : ∀ t ∈ ts, D t.pv) :
    S 42 [v, .pv none (.func (.func g))] hp = some (.ret (.sl (some 4) (hp.length + 1) ts.length 0 ts.length), hp ++ [.arr (some 4) [] false, .arr (some 4) (isort c (Tm.pvs ts)) false]) := by
  have hlen := Tm.sizes_len ts
  refine sem_heap rfl rfl rfl rfl ?_
  have hm : ts.length ≤ lim := by unfold lim; omega
  simp -dsimp -implicitDefEqProofs only [g42, c42r0, c42r1, c42r2, c42r3, c42k4, c42r5, c42r6, c42k7, c42r8, c42b9, c42k10, c42r11, c42r12, c42, go_sem, collect_lit0, collect_lit1, collect_lit2, collect_lit3, if_true, if_false, true_and, and_true, false_and, and_false, and_self, Nat.zero_add, Nat.add_zero, eq_self, Bool.true_eq_false, Bool.false_eq_true, cond_true, cond_false, decide_eq_true_eq, Bool.not_eq_true', Bool.not_eq_false', decide_eq_false_iff_not, not_true_eq_false, not_false_eq_true, Bool.true_and, Bool.false_and, Bool.and_true, Bool.and_false, Bool.not_true, Bool.not_false, Option.some.injEq, decide_true, decide_false, List.getElem?_cons_zero, List.getElem?_cons_succ, List.length_cons, List.length_nil, List.nil_append, List.cons_append, List.set_cons_zero, List.set_cons_succ, List.take_zero, List.drop_zero, Nat.reduceEqDiff, Nat.reduceAdd, Nat.reduceSub, Nat.reduceLT, Nat.reduceLeDiff, Nat.reduceMul, Int.reduceEq, Int.reduceLT, Int.reduceLE, Int.reduceAdd, Int.reduceSub, Int.reduceNeg, Int.reduceToNat, reduceCtorEq, ↓reduceIte, hL.len, w_nilsl (sh := some 4) (by decide), w_mkslice0 (sh := some 4) (by decide) hm, List.append_assoc, List.cons_append, List.nil_append, get_pre, get_pre0, set_pre, set_pre0, Nat.add_assoc, List.length_append, List.length_cons, List.length_nil, Nat.zero_add]
  refine W_loop (fun n st => ∃ i : Nat, n = ts.length - i ∧ i ≤ ts.length ∧ st = ⟨[(1, .pv none (.func (.func g))), (5, .sl (some 4) (hp.length + 1) i 0 i), (11, v), (12, .pv none (.int .i64 ts.length)), (13, .pv none (.int .i64 i))], hp ++ [.arr (some 4) [] false, .arr (some 4) (Tm.pvs (ts.take i)) false]⟩) (n := ts.length) ⟨0, rfl, Nat.zero_le _, ?_⟩ ?_
  · simp -dsimp -implicitDefEqProofs only [go_sem, collect_lit0, collect_lit1, collect_lit2, collect_lit3, if_true, if_false, true_and, and_true, false_and, and_false, and_self, Nat.zero_add, Nat.add_zero, eq_self, Bool.true_eq_false, Bool.false_eq_true, cond_true, cond_false, decide_eq_true_eq, Bool.not_eq_true', Bool.not_eq_false', decide_eq_false_iff_not, not_true_eq_false, not_false_eq_true, Bool.true_and, Bool.false_and, Bool.and_true, Bool.and_false, Bool.not_true, Bool.not_false, Option.some.injEq, decide_true, decide_false, List.getElem?_cons_zero, List.getElem?_cons_succ, List.length_cons, List.length_nil, List.nil_append, List.cons_append, List.set_cons_zero, List.set_cons_succ, List.take_zero, List.drop_zero, Nat.reduceEqDiff, Nat.reduceAdd, Nat.reduceSub, Nat.reduceLT, Nat.reduceLeDiff, Nat.reduceMul, Int.reduceEq, Int.reduceLT, Int.reduceLE, Int.reduceAdd, Int.reduceSub, Int.reduceNeg, Int.reduceToNat, reduceCtorEq, ↓reduceIte]
    simp [Tm.pvs]
  · rintro n st ⟨i, hn, hi, rfl⟩
    by_cases h : i < ts.length
    · have hc : (i : Int) < (ts.length : Int) := by omega
      obtain ⟨u, hu⟩ : ∃ u, ts[i]? = some u := ⟨_, List.getElem?_eq_getElem h⟩
      have hum := List.mem_of_getElem? hu
      have husz := Tm.sizes_mem hum
      have hcall := fun hp => clone_ok u hp (hv u hum) (by omega)
      simp only [Tm.av] at hcall
      obtain ⟨p, hp1, hp2⟩ := hL.idx i u hu
      have w2 : IntKind.i64.wrap ((i : Int) + 1) = ((i + 1 : Nat) : Int) := by rw [wrap64 (by omega) (by omega)]; omega
      have hl2 : (Tm.pvs (ts.take i)).length = i := by rw [Tm.pvs_len, List.length_take]; omega
      have hlim : i + 1 ≤ lim := by unfold lim; omega
      simp -dsimp -implicitDefEqProofs only [g42, c42r0, c42r1, c42r2, c42r3, c42k4, c42r5, c42r6, c42k7, c42r8, c42b9, c42k10, c42r11, c42r12, c42, go_sem, collect_lit0, collect_lit1, collect_lit2, collect_lit3, if_true, if_false, true_and, and_true, false_and, and_false, and_self, Nat.zero_add, Nat.add_zero, eq_self, Bool.true_eq_false, Bool.false_eq_true, cond_true, cond_false, decide_eq_true_eq, Bool.not_eq_true', Bool.not_eq_false', decide_eq_false_iff_not, not_true_eq_false, not_false_eq_true, Bool.true_and, Bool.false_and, Bool.and_true, Bool.and_false, Bool.not_true, Bool.not_false, Option.some.injEq, decide_true, decide_false, List.getElem?_cons_zero, List.getElem?_cons_succ, List.length_cons, List.length_nil, List.nil_append, List.cons_append, List.set_cons_zero, List.set_cons_succ, List.take_zero, List.drop_zero, Nat.reduceEqDiff, Nat.reduceAdd, Nat.reduceSub, Nat.reduceLT, Nat.reduceLeDiff, Nat.reduceMul, Int.reduceEq, Int.reduceLT, Int.reduceLE, Int.reduceAdd, Int.reduceSub, Int.reduceNeg, Int.reduceToNat, reduceCtorEq, ↓reduceIte, hc, hp1, hp2, hcall, w2, hl2, hlim, List.append_assoc, List.cons_append, List.nil_append, get_pre, get_pre0, set_pre, set_pre0, Nat.add_assoc, List.length_append, List.length_cons, List.length_nil, Nat.zero_add, Tm.pvs_take_succ hu, w_alloc_agg]
      refine ⟨ts.length - (i + 1), by omega, i + 1, rfl, by omega, ?_⟩
      rw [show ∀ a b c d : AObj, hp ++ [a, b, c, d] = hp ++ [a, b] ++ [c, d] from fun _ _ _ _ => by simp]
      rw [collect_ext (by simp) (by simp [AV.refsIn]; intro q hq; have := hL.refs q hq; omega) rfl]
    · have hc : ¬ (i : Int) < (ts.length : Int) := by omega
      obtain rfl : i = ts.length := by omega
      have hcall := sortStable_ok c hC g D hg (hp ++ [.arr (some 4) [] false, .arr (some 4) (Tm.pvs ts) false]) (hp.length + 1) (by simp) ts.length (by omega) (Tm.pvs ts) (Tm.pvs_len ts).symm (by rw [Tm.pvs_map]; simpa using hD)
      have e1 : ∀ x, (hp ++ [AObj.arr (some 4) [] false, .arr (some 4) (Tm.pvs ts) false]).set (hp.length + 1) x = hp ++ [.arr (some 4) [] false, x] := fun x => by rw [List.set_append_right _ _ (by omega)]; simp
      rw [e1, e1] at hcall
      simp -dsimp -implicitDefEqProofs only [g42, c42r0, c42r1, c42r2, c42r3, c42k4, c42r5, c42r6, c42k7, c42r8, c42b9, c42k10, c42r11, c42r12, c42, go_sem, collect_lit0, collect_lit1, collect_lit2, collect_lit3, if_true, if_false, true_and, and_true, false_and, and_false, and_self, Nat.zero_add, Nat.add_zero, eq_self, Bool.true_eq_false, Bool.false_eq_true, cond_true, cond_false, decide_eq_true_eq, Bool.not_eq_true', Bool.not_eq_false', decide_eq_false_iff_not, not_true_eq_false, not_false_eq_true, Bool.true_and, Bool.false_and, Bool.and_true, Bool.and_false, Bool.not_true, Bool.not_false, Option.some.injEq, decide_true, decide_false, List.getElem?_cons_zero, List.getElem?_cons_succ, List.length_cons, List.length_nil, List.nil_append, List.cons_append, List.set_cons_zero, List.set_cons_succ, List.take_zero, List.drop_zero, Nat.reduceEqDiff, Nat.reduceAdd, Nat.reduceSub, Nat.reduceLT, Nat.reduceLeDiff, Nat.reduceMul, Int.reduceEq, Int.reduceLT, Int.reduceLE, Int.reduceAdd, Int.reduceSub, Int.reduceNeg, Int.reduceToNat, reduceCtorEq, ↓reduceIte, hc, List.take_length, hcall, List.append_assoc, List.cons_append, List.nil_append, get_pre, get_pre0, set_pre, set_pre0, Nat.add_assoc, List.length_append, List.length_cons, List.length_nil, Nat.zero_add]
      simp [AV.refsIn]
end
/-- The program's stable sorting. -/
def small (p : PV) : Prop := ∃ t : Tm, p = t.pv ∧ t.valid = true ∧ t.size < 1000000000
theorem cmpF_tm : CmpF (onPV Tm.cmp) 37 small := by
  rintro x y ⟨t, rfl, ht, hts⟩ ⟨u, rfl, hu, hus⟩ hp
  have h := compare_ok t u hp hts (Tm.valid_fits ht) (Tm.valid_fits hu)
  simp only [Tm.av] at h
  simpa [onPV, tmOf_pv] using h
theorem valid_l (ts : List Tm) (hl : Tm.sizes ts < 1000000000) (v : AV) (hp : Heap) (hL : IsL v hp ts) (ext : Heap) : S 41 [v] (hp ++ ext) = some (.ret (.pv none (.bool (validAll ts))), hp ++ ext) := by
  obtain ⟨hp1, _, hz⟩ := hL.frz
  exact sem_any rfl rfl rfl (hz ext) (ovalid_ok ts hl)
theorem stableTop_ok (v : AV) (hp : Heap) (ts : List Tm) (hL : IsL v hp ts) (hl : Tm.sizes ts < 100000000) : S 17 [v] hp = some (.ret (.tuple (if validAll ts = true then [.sl (some 4) (hp.length + 2) ts.length 0 ts.length, .pv none (.int .i64 0)] else [.sl (some 4) (hp.length + 1) 0 0 0, .pv none (.int .i64 1)])), hp ++ (if validAll ts = true then [.arr (some 4) [] false, .arr (some 4) [] false, .arr (some 4) (Tm.pvs (isort Tm.cmp ts)) false] else [.arr (some 4) [] false, .arr (some 4) [] false])) := by
  have hv := valid_l ts (by omega) v hp hL
  refine sem_heap rfl rfl rfl rfl ?_
  by_cases h : validAll ts = true
  · rw [h] at hv
    have hcall := fun e => sorted_ok (onPV Tm.cmp) (onPV_cmp tm_cmp) 37 small cmpF_tm v (hp ++ e) ts (hL.more e) (fun t ht => validAll_mem h ht) hl (fun t ht => ⟨t, rfl, validAll_mem h ht, by have := Tm.sizes_mem ht; omega⟩)
    simp only [isort_pvs, List.length_append, List.append_assoc] at hcall
    simp -dsimp -implicitDefEqProofs only [g17, c17r0, c17r1, c17r2, c17k3, c17r4, c17, go_sem, collect_lit0, collect_lit1, collect_lit2, collect_lit3, if_true, if_false, true_and, and_true, false_and, and_false, and_self, Nat.zero_add, Nat.add_zero, eq_self, Bool.true_eq_false, Bool.false_eq_true, cond_true, cond_false, decide_eq_true_eq, Bool.not_eq_true', Bool.not_eq_false', decide_eq_false_iff_not, not_true_eq_false, not_false_eq_true, Bool.true_and, Bool.false_and, Bool.and_true, Bool.and_false, Bool.not_true, Bool.not_false, Option.some.injEq, decide_true, decide_false, List.getElem?_cons_zero, List.getElem?_cons_succ, List.length_cons, List.length_nil, List.nil_append, List.cons_append, List.set_cons_zero, List.set_cons_succ, List.take_zero, List.drop_zero, Nat.reduceEqDiff, Nat.reduceAdd, Nat.reduceSub, Nat.reduceLT, Nat.reduceLeDiff, Nat.reduceMul, Int.reduceEq, Int.reduceLT, Int.reduceLE, Int.reduceAdd, Int.reduceSub, Int.reduceNeg, Int.reduceToNat, reduceCtorEq, ↓reduceIte, hv, hcall, h, w_nilsl (sh := some 4) (by decide), List.append_assoc, List.cons_append, List.nil_append, get_pre, get_pre0, set_pre, set_pre0, Nat.add_assoc, List.length_append, List.length_cons, List.length_nil, Nat.zero_add]
    simp [AV.refsIn, AV.refsIn.gol]
  · rw [Bool.not_eq_true] at h
    rw [h] at hv
    simp -dsimp -implicitDefEqProofs only [g17, c17r0, c17r1, c17r2, c17k3, c17r4, c17, go_sem, collect_lit0, collect_lit1, collect_lit2, collect_lit3, if_true, if_false, true_and, and_true, false_and, and_false, and_self, Nat.zero_add, Nat.add_zero, eq_self, Bool.true_eq_false, Bool.false_eq_true, cond_true, cond_false, decide_eq_true_eq, Bool.not_eq_true', Bool.not_eq_false', decide_eq_false_iff_not, not_true_eq_false, not_false_eq_true, Bool.true_and, Bool.false_and, Bool.and_true, Bool.and_false, Bool.not_true, Bool.not_false, Option.some.injEq, decide_true, decide_false, List.getElem?_cons_zero, List.getElem?_cons_succ, List.length_cons, List.length_nil, List.nil_append, List.cons_append, List.set_cons_zero, List.set_cons_succ, List.take_zero, List.drop_zero, Nat.reduceEqDiff, Nat.reduceAdd, Nat.reduceSub, Nat.reduceLT, Nat.reduceLeDiff, Nat.reduceMul, Int.reduceEq, Int.reduceLT, Int.reduceLE, Int.reduceAdd, Int.reduceSub, Int.reduceNeg, Int.reduceToNat, reduceCtorEq, ↓reduceIte, hv, h, w_nilsl (sh := some 4) (by decide), List.append_assoc, List.cons_append, List.nil_append, get_pre, get_pre0, set_pre, set_pre0, Nat.add_assoc, List.length_append, List.length_cons, List.length_nil, Nat.zero_add]
    simp [AV.refsIn, AV.refsIn.gol]
end Go.Proofs.Yteaehiceghhajaa
