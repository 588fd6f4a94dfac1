/- What is proved: the library's compacting drops neighbours that are the same. -/
import Derived.Test.YteaehiceghhajaaFew
import Derived.Test.YteaehiceghhajaaAm3
set_option linter.unusedSimpArgs false
set_option linter.unusedVariables false
namespace Go.Proofs.Yteaehiceghhajaa
open Go.Am
theorem sameEq_ok (t u : Tm) (hp : Heap) (ht : t.valid = true) (hu : u.valid = true) (hs : t.size < 1000000000) : S 40 [.pv (some 4) t.pv, .pv (some 4) u.pv] hp = some (.ret (.pv none (.bool (decide (t.cmp u = 0)))), hp) := by
  have h := fun hp => compare_ok t u hp hs (Tm.valid_fits ht) (Tm.valid_fits hu)
  simp only [Tm.av] at h
  refine sem_pure rfl rfl rfl (freezeAll_pvs [(some 4, t.pv), (some 4, u.pv)]) rfl ?_
  (repeat' (first | (simp -dsimp -implicitDefEqProofs only [g40, c40r0, c40r1, c40, go_sem, collect_lit0, collect_lit1, collect_lit2, collect_lit3, if_true, if_false, true_and, and_true, false_and, and_false, and_self, Nat.zero_add, Nat.add_zero, eq_self, Bool.true_eq_false, Bool.false_eq_true, cond_true, cond_false, decide_eq_true_eq, Bool.not_eq_true', Bool.not_eq_false', decide_eq_false_iff_not, not_true_eq_false, not_false_eq_true, Bool.true_and, Bool.false_and, Bool.and_true, Bool.and_false, Bool.not_true, Bool.not_false, Option.some.injEq, decide_true, decide_false, List.getElem?_cons_zero, List.getElem?_cons_succ, List.length_cons, List.length_nil, List.nil_append, List.cons_append, List.set_cons_zero, List.set_cons_succ, List.take_zero, List.drop_zero, Nat.reduceEqDiff, Nat.reduceAdd, Nat.reduceSub, Nat.reduceLT, Nat.reduceLeDiff, Nat.reduceMul, Int.reduceEq, Int.reduceLT, Int.reduceLE, Int.reduceAdd, Int.reduceSub, Int.reduceNeg, Int.reduceToNat, reduceCtorEq, ↓reduceIte, *]) | (refine iteK_intro (fun _ => ?_) (fun _ => ?_))))
theorem take_last {l : List Tm} {j : Nat} {y : Tm} (h : l[j]? = some y) : (l.take (j + 1)).getLast? = some y := by
  rw [List.take_add_one, h]; simp
/-- The inner loop. -/
theorem compact_inner (hp : Heap) (r : Nat) (hr : r < hp.length) (ts : List Tm) (N : Nat) (hN : N = ts.length) (hN' : N < 1000000000) (hv : ∀ t ∈ ts, t.valid = true) (hs : ∀ t ∈ ts, t.size < 1000000000) (k0 : Nat) (hk0 : 1 ≤ k0) (hk : k0 < N) (hd : dd (ts.take (k0 + 1)) = ts.take k0) (ext : Heap)
    (fr : Fr) (Q : AExit → St → Prop)
    (hfr : fr.keep [0, 1, 5, 6, 7] = [(0, .sl (some 4) r N 0 N), (1, .pv none (.func (.func 40))), (5, .pv none (.int .i64 k0)), (6, .sl (some 4) r N k0 (N - k0)), (7, .pv none (.int .i64 1))])
    (h : ∀ rest es, es.length = N → es.take (dd ts).length = Tm.pvs (dd ts) → Q (.exit 2) ⟨(0, .sl (some 4) r N 0 N) :: (1, .pv none (.func (.func 40))) :: (5, .pv none (.int .i64 (dd ts).length)) :: rest, hp.set r (.arr (some 4) es false) ++ ext⟩) :
    W S L hp.length (.loop [0, 1, 5, 6, 7] c39b18) ⟨fr, hp.set r (.arr (some 4) (Tm.pvs ts) false) ++ ext⟩ Q := by
  have e1 : ∀ A, (hp.set r A ++ ext)[r]? = some A := fun A => by rw [get_app (by simpa using hr)]; simp [hr]
  have e4 : ∀ A B, (hp.set r A ++ ext).set r B = hp.set r B ++ ext := fun A B => by rw [set_app (by simpa using hr)]; simp
  refine W_loop (fun n st => ∃ (m k : Nat) (es : List PV), n = N - (k0 + m) ∧ 1 ≤ m ∧ k0 + m ≤ N ∧ k = (dd (ts.take (k0 + m))).length ∧ k ≤ k0 + m - 1 ∧ es.length = N ∧ es.take k = Tm.pvs (dd (ts.take (k0 + m))) ∧ es.drop (k0 + m - 1) = (Tm.pvs ts).drop (k0 + m - 1) ∧ st = ⟨[(0, .sl (some 4) r N 0 N), (1, .pv none (.func (.func 40))), (5, .pv none (.int .i64 k)), (6, .sl (some 4) r N k0 (N - k0)), (7, .pv none (.int .i64 m))], hp.set r (.arr (some 4) es false) ++ ext⟩) (n := N - (k0 + 1)) ⟨1, k0, Tm.pvs ts, rfl, Nat.le_refl _, by omega, by rw [hd, List.length_take]; omega, by omega, by rw [Tm.pvs_len, hN], by rw [hd, Tm.pvs_take], rfl, ?_⟩ ?_
  · rw [hfr]
    rfl
  · rintro n st ⟨m, k, es, hn, hm, hmN, hkl, hkm, hes, htk, hdr, rfl⟩
    have hget : ∀ i u, k0 + m - 1 ≤ i → ts[i]? = some u → es[i]? = some u.pv := fun i u hi hu => by
      have h1 : (es.drop (k0 + m - 1))[i - (k0 + m - 1)]? = es[i]? := by rw [List.getElem?_drop]; congr 1; omega
      rw [← h1, hdr, List.getElem?_drop, show k0 + m - 1 + (i - (k0 + m - 1)) = i by omega]
      exact Tm.pvs_get hu
    by_cases hlt : m < N - k0
    · have hc : (m : Int) < ((N - k0 : Nat) : Int) := by omega
      obtain ⟨x, hx⟩ : ∃ x, ts[k0 + m]? = some x := ⟨_, List.getElem?_eq_getElem (by omega)⟩
      obtain ⟨y, hy⟩ : ∃ y, ts[k0 + (m - 1)]? = some y := ⟨_, List.getElem?_eq_getElem (by omega)⟩
      have gx := hget _ x (by omega) hx
      have gy := hget _ y (by omega) hy
      have hxm := List.mem_of_getElem? hx
      have hym := List.mem_of_getElem? hy
      have hcall := fun hp => sameEq_ok x y hp (hv x hxm) (hv y hym) (hs x hxm)
      have hlast : (ts.take (k0 + m)).getLast? = some y := by
        have := take_last hy
        rwa [show k0 + (m - 1) + 1 = k0 + m by omega] at this
      have htx : ts.take (k0 + (m + 1)) = ts.take (k0 + m) ++ [x] := by rw [show k0 + (m + 1) = k0 + m + 1 by omega, List.take_add_one, hx]; rfl
      have w1 : IntKind.i64.wrap ((m : Int) - 1) = ((m - 1 : Nat) : Int) := by rw [wrap64 (by omega) (by omega)]; omega
      have w2 : IntKind.i64.wrap ((m : Int) + 1) = ((m + 1 : Nat) : Int) := by rw [wrap64 (by omega) (by omega)]; omega
      have w3 : IntKind.i64.wrap ((k : Int) + 1) = ((k + 1 : Nat) : Int) := by rw [wrap64 (by omega) (by omega)]; omega
      have la : m - 1 < N - k0 := by omega
      have lk : k < N := by omega
      by_cases h0 : x.cmp y = 0
      · simp -dsimp -implicitDefEqProofs only [g39, c39r0, c39r1, c39r2, c39k3, c39r4, c39r5, c39k6, c39r7, c39r8, c39r9, c39r10, c39k11, c39r12, c39r13, c39r14, c39k15, c39k16, c39r17, c39b18, c39k19, c39r20, c39r21, c39k22, c39k23, c39r24, c39b25, c39k26, c39r27, c39, go_sem, collect_lit0, collect_lit1, collect_lit2, collect_lit3, if_true, if_false, true_and, and_true, false_and, and_false, and_self, Nat.zero_add, Nat.add_zero, eq_self, Bool.true_eq_false, Bool.false_eq_true, cond_true, cond_false, decide_eq_true_eq, Bool.not_eq_true', Bool.not_eq_false', decide_eq_false_iff_not, not_true_eq_false, not_false_eq_true, Bool.true_and, Bool.false_and, Bool.and_true, Bool.and_false, Bool.not_true, Bool.not_false, Option.some.injEq, decide_true, decide_false, List.getElem?_cons_zero, List.getElem?_cons_succ, List.length_cons, List.length_nil, List.nil_append, List.cons_append, List.set_cons_zero, List.set_cons_succ, List.take_zero, List.drop_zero, Nat.reduceEqDiff, Nat.reduceAdd, Nat.reduceSub, Nat.reduceLT, Nat.reduceLeDiff, Nat.reduceMul, Int.reduceEq, Int.reduceLT, Int.reduceLE, Int.reduceAdd, Int.reduceSub, Int.reduceNeg, Int.reduceToNat, reduceCtorEq, ↓reduceIte, hc, s_iaddr_sl hlt, s_iaddr_sl la, aload_eptr, e1, hes, gx, gy, hcall, w1, w2, h0]
        refine ⟨N - (k0 + (m + 1)), by omega, m + 1, k, es, rfl, by omega, by omega, by rw [htx, dd_eq hlast h0, hkl], by omega, hes, by rw [htx, dd_eq hlast h0, htk], ?_, ?_⟩
        · have := congrArg (List.drop 1) hdr
          rw [List.drop_drop, List.drop_drop] at this
          rwa [show k0 + (m + 1) - 1 = k0 + m - 1 + 1 by omega]
        · rw [collect_id (by simp)]
      · simp -dsimp -implicitDefEqProofs only [g39, c39r0, c39r1, c39r2, c39k3, c39r4, c39r5, c39k6, c39r7, c39r8, c39r9, c39r10, c39k11, c39r12, c39r13, c39r14, c39k15, c39k16, c39r17, c39b18, c39k19, c39r20, c39r21, c39k22, c39k23, c39r24, c39b25, c39k26, c39r27, c39, go_sem, collect_lit0, collect_lit1, collect_lit2, collect_lit3, if_true, if_false, true_and, and_true, false_and, and_false, and_self, Nat.zero_add, Nat.add_zero, eq_self, Bool.true_eq_false, Bool.false_eq_true, cond_true, cond_false, decide_eq_true_eq, Bool.not_eq_true', Bool.not_eq_false', decide_eq_false_iff_not, not_true_eq_false, not_false_eq_true, Bool.true_and, Bool.false_and, Bool.and_true, Bool.and_false, Bool.not_true, Bool.not_false, Option.some.injEq, decide_true, decide_false, List.getElem?_cons_zero, List.getElem?_cons_succ, List.length_cons, List.length_nil, List.nil_append, List.cons_append, List.set_cons_zero, List.set_cons_succ, List.take_zero, List.drop_zero, Nat.reduceEqDiff, Nat.reduceAdd, Nat.reduceSub, Nat.reduceLT, Nat.reduceLeDiff, Nat.reduceMul, Int.reduceEq, Int.reduceLT, Int.reduceLE, Int.reduceAdd, Int.reduceSub, Int.reduceNeg, Int.reduceToNat, reduceCtorEq, ↓reduceIte, hc, s_iaddr_sl hlt, s_iaddr_sl la, s_iaddr_sl lk, aload_eptr, w_store_eptr, e1, e4, hes, lk, gx, gy, hcall, w1, w2, w3, h0]
        refine ⟨N - (k0 + (m + 1)), by omega, m + 1, k + 1, es.set k x.pv, rfl, by omega, by omega, by rw [htx, dd_ne hlast h0, List.length_append, hkl]; rfl, by omega, by simp [hes], ?_, ?_, ?_⟩
        · rw [htx, dd_ne hlast h0, Tm.pvs_append, ← htk, List.take_add_one]
          simp [hes, lk, List.take_set, Tm.pvs]
          rw [List.set_eq_of_length_le (by rw [List.length_take]; omega)]
        · have := congrArg (List.drop 1) hdr
          rw [List.drop_drop, List.drop_drop] at this
          rw [List.drop_set, if_pos (by omega)]
          rwa [show k0 + (m + 1) - 1 = k0 + m - 1 + 1 by omega]
        · rw [collect_id (by simp)]
    · have hc : ¬ (m : Int) < ((N - k0 : Nat) : Int) := by omega
      have hfull : ts.take (k0 + m) = ts := List.take_of_length_le (by omega)
      rw [hfull] at hkl htk
      simp -dsimp -implicitDefEqProofs only [g39, c39r0, c39r1, c39r2, c39k3, c39r4, c39r5, c39k6, c39r7, c39r8, c39r9, c39r10, c39k11, c39r12, c39r13, c39r14, c39k15, c39k16, c39r17, c39b18, c39k19, c39r20, c39r21, c39k22, c39k23, c39r24, c39b25, c39k26, c39r27, c39, go_sem, collect_lit0, collect_lit1, collect_lit2, collect_lit3, if_true, if_false, true_and, and_true, false_and, and_false, and_self, Nat.zero_add, Nat.add_zero, eq_self, Bool.true_eq_false, Bool.false_eq_true, cond_true, cond_false, decide_eq_true_eq, Bool.not_eq_true', Bool.not_eq_false', decide_eq_false_iff_not, not_true_eq_false, not_false_eq_true, Bool.true_and, Bool.false_and, Bool.and_true, Bool.and_false, Bool.not_true, Bool.not_false, Option.some.injEq, decide_true, decide_false, List.getElem?_cons_zero, List.getElem?_cons_succ, List.length_cons, List.length_nil, List.nil_append, List.cons_append, List.set_cons_zero, List.set_cons_succ, List.take_zero, List.drop_zero, Nat.reduceEqDiff, Nat.reduceAdd, Nat.reduceSub, Nat.reduceLT, Nat.reduceLeDiff, Nat.reduceMul, Int.reduceEq, Int.reduceLT, Int.reduceLE, Int.reduceAdd, Int.reduceSub, Int.reduceNeg, Int.reduceToNat, reduceCtorEq, ↓reduceIte, hc]
      rw [hkl] at htk ⊢
      exact h _ es hes htk
theorem slice_hi_sl {sh s : Sh} {k : IntKind} {r N n h : Nat} (hh : h ≤ n) : sSlice sh false true [.sl sh r N 0 n, .pv s (.int k h)] = some (.sl sh r N 0 h) := by
  have h1 : (h : Int) ≤ (n : Int) := by omega
  simp [sSlice, aslice, h1]
theorem slice_lo_sl {sh s : Sh} {k : IntKind} {r N n h : Nat} (hh : h ≤ n) : sSlice sh true false [.sl sh r N 0 n, .pv s (.int k h)] = some (.sl sh r N h (n - h)) := by
  have h1 : (h : Int) ≤ (n : Int) := by omega
  simp [sSlice, aslice, h1]
theorem w_clear_sl {sh : Sh} {z : PV} {hp : Heap} {r N o n : Nat} {es : List PV} (h : hp[r]? = some (.arr sh es false)) (hN : es.length = N) (hon : o + n = N) : wClear sh z hp [.sl sh r N o n] = some (.undef, hp.set r (.arr sh (es.take o ++ List.replicate n z) false)) := by
  have : es.drop (o + n) = [] := List.drop_eq_nil_iff.2 (by omega)
  simp only [wClear, h]
  rw [if_pos ⟨trivial, hN.symm, by omega⟩, this, List.append_nil]
def zeroT : PV := .agg [(none, .int .i64 0), (none, .int .i64 0), (none, .str []), (none, .sl (some 4) [])]
def packed (N : Nat) (l : List Tm) : List PV := Tm.pvs l ++ List.replicate (N - l.length) zeroT
theorem dd_take_step {ts : List Tm} {k : Nat} {x y : Tm} (hd : dd (ts.take k) = ts.take k) (hx : ts[k]? = some x) (hy : ts[k - 1]? = some y) (hk : 1 ≤ k) : dd (ts.take (k + 1)) = if x.cmp y = 0 then ts.take k else ts.take (k + 1) := by
  have hlast : (ts.take k).getLast? = some y := by
    have := take_last hy
    rwa [show k - 1 + 1 = k by omega] at this
  have htx : ts.take (k + 1) = ts.take k ++ [x] := by rw [List.take_add_one, hx]; rfl
  rw [htx]
  split
  · rename_i h; rw [dd_eq hlast h, hd]
  · rename_i h; rw [dd_ne hlast h, hd]
theorem compact_ok (hp : Heap) (r : Nat) (hr : r < hp.length) (ts : List Tm) (N : Nat) (hN : N = ts.length) (hN' : N < 1000000000) (hv : ∀ t ∈ ts, t.valid = true) (hs : ∀ t ∈ ts, t.size < 1000000000) :
    S 39 [.sl (some 4) r N 0 N, .pv none (.func (.func 40))] (hp.set r (.arr (some 4) (Tm.pvs ts) false)) = some (.ret (.sl (some 4) r N 0 (dd ts).length), hp.set r (.arr (some 4) (packed N (dd ts)) false)) := by
  have hsl : (hp.set r (.arr (some 4) (Tm.pvs ts) false)).length = hp.length := by simp
  have e1 : ∀ A ext, (hp.set r A ++ ext)[r]? = some A := fun A ext => by rw [get_app (by simpa using hr)]; simp [hr]
  have e4 : ∀ A B ext, (hp.set r A ++ ext).set r B = hp.set r B ++ ext := fun A B ext => by rw [set_app (by simpa using hr)]; simp
  refine sem_heap rfl rfl rfl rfl ?_
  rw [hsl]
  by_cases h2 : N < 2
  · have hc : (N : Int) < 2 := by omega
    simp -dsimp -implicitDefEqProofs only [g39, c39r0, c39r1, c39r2, c39k3, c39r4, c39r5, c39k6, c39r7, c39r8, c39r9, c39r10, c39k11, c39r12, c39r13, c39r14, c39k15, c39k16, c39r17, c39b18, c39k19, c39r20, c39r21, c39k22, c39k23, c39r24, c39b25, c39k26, c39r27, c39, go_sem, collect_lit0, collect_lit1, collect_lit2, collect_lit3, if_true, if_false, true_and, and_true, false_and, and_false, and_self, Nat.zero_add, Nat.add_zero, eq_self, Bool.true_eq_false, Bool.false_eq_true, cond_true, cond_false, decide_eq_true_eq, Bool.not_eq_true', Bool.not_eq_false', decide_eq_false_iff_not, not_true_eq_false, not_false_eq_true, Bool.true_and, Bool.false_and, Bool.and_true, Bool.and_false, Bool.not_true, Bool.not_false, Option.some.injEq, decide_true, decide_false, List.getElem?_cons_zero, List.getElem?_cons_succ, List.length_cons, List.length_nil, List.nil_append, List.cons_append, List.set_cons_zero, List.set_cons_succ, List.take_zero, List.drop_zero, Nat.reduceEqDiff, Nat.reduceAdd, Nat.reduceSub, Nat.reduceLT, Nat.reduceLeDiff, Nat.reduceMul, Int.reduceEq, Int.reduceLT, Int.reduceLE, Int.reduceAdd, Int.reduceSub, Int.reduceNeg, Int.reduceToNat, reduceCtorEq, ↓reduceIte, w_nilsl (sh := some 4) (by decide), hc]
    have hdd : dd ts = ts := by
      match ts, hN with
      | [], _ => rfl
      | [x], _ => rfl
      | _ :: _ :: _, h => simp at h; omega
    have ht : ∀ (A : AObj) (e : Heap), (hp.set r A ++ e).take hp.length = hp.set r A := fun A e => by
      rw [List.take_append_of_le_length (by simp), List.take_of_length_le (by simp)]
    rw [hdd, ← hN, ht]
    simp [AV.refsIn, hr, packed, ← hN]
  · have hc : ¬ (N : Int) < 2 := by omega
    simp -dsimp -implicitDefEqProofs only [g39, c39r0, c39r1, c39r2, c39k3, c39r4, c39r5, c39k6, c39r7, c39r8, c39r9, c39r10, c39k11, c39r12, c39r13, c39r14, c39k15, c39k16, c39r17, c39b18, c39k19, c39r20, c39r21, c39k22, c39k23, c39r24, c39b25, c39k26, c39r27, c39, go_sem, collect_lit0, collect_lit1, collect_lit2, collect_lit3, if_true, if_false, true_and, and_true, false_and, and_false, and_self, Nat.zero_add, Nat.add_zero, eq_self, Bool.true_eq_false, Bool.false_eq_true, cond_true, cond_false, decide_eq_true_eq, Bool.not_eq_true', Bool.not_eq_false', decide_eq_false_iff_not, not_true_eq_false, not_false_eq_true, Bool.true_and, Bool.false_and, Bool.and_true, Bool.and_false, Bool.not_true, Bool.not_false, Option.some.injEq, decide_true, decide_false, List.getElem?_cons_zero, List.getElem?_cons_succ, List.length_cons, List.length_nil, List.nil_append, List.cons_append, List.set_cons_zero, List.set_cons_succ, List.take_zero, List.drop_zero, Nat.reduceEqDiff, Nat.reduceAdd, Nat.reduceSub, Nat.reduceLT, Nat.reduceLeDiff, Nat.reduceMul, Int.reduceEq, Int.reduceLT, Int.reduceLE, Int.reduceAdd, Int.reduceSub, Int.reduceNeg, Int.reduceToNat, reduceCtorEq, ↓reduceIte, w_nilsl (sh := some 4) (by decide), hc]
    refine W_loop (fun n st => ∃ k : Nat, n = N - k ∧ 1 ≤ k ∧ k ≤ N ∧ dd (ts.take k) = ts.take k ∧ st = ⟨[(0, .sl (some 4) r N 0 N), (1, .pv none (.func (.func 40))), (5, .pv none (.int .i64 k))], hp.set r (.arr (some 4) (Tm.pvs ts) false) ++ [.arr (some 4) [] false]⟩) (n := N - 1) ⟨1, rfl, Nat.le_refl _, by omega, ?_, ?_⟩ ?_
    · match ts, hN with
      | x :: l, _ => rfl
      | [], h => simp at h; omega
    · simp -dsimp -implicitDefEqProofs only [go_sem, collect_lit0, collect_lit1, collect_lit2, collect_lit3, if_true, if_false, true_and, and_true, false_and, and_false, and_self, Nat.zero_add, Nat.add_zero, eq_self, Bool.true_eq_false, Bool.false_eq_true, cond_true, cond_false, decide_eq_true_eq, Bool.not_eq_true', Bool.not_eq_false', decide_eq_false_iff_not, not_true_eq_false, not_false_eq_true, Bool.true_and, Bool.false_and, Bool.and_true, Bool.and_false, Bool.not_true, Bool.not_false, Option.some.injEq, decide_true, decide_false, List.getElem?_cons_zero, List.getElem?_cons_succ, List.length_cons, List.length_nil, List.nil_append, List.cons_append, List.set_cons_zero, List.set_cons_succ, List.take_zero, List.drop_zero, Nat.reduceEqDiff, Nat.reduceAdd, Nat.reduceSub, Nat.reduceLT, Nat.reduceLeDiff, Nat.reduceMul, Int.reduceEq, Int.reduceLT, Int.reduceLE, Int.reduceAdd, Int.reduceSub, Int.reduceNeg, Int.reduceToNat, reduceCtorEq, ↓reduceIte]
      rfl
    · rintro n st ⟨k, hn, hk, hkN, hd, rfl⟩
      by_cases hlt : k < N
      · have hc : (k : Int) < (N : Int) := by omega
        obtain ⟨x, hx⟩ : ∃ x, ts[k]? = some x := ⟨_, List.getElem?_eq_getElem (by omega)⟩
        obtain ⟨y, hy⟩ : ∃ y, ts[k - 1]? = some y := ⟨_, List.getElem?_eq_getElem (by omega)⟩
        have gx := Tm.pvs_get hx
        have gy := Tm.pvs_get hy
        have hxm := List.mem_of_getElem? hx
        have hym := List.mem_of_getElem? hy
        have hcall := fun hp => sameEq_ok x y hp (hv x hxm) (hv y hym) (hs x hxm)
        have hstep := dd_take_step hd hx hy hk
        have hlen : (Tm.pvs ts).length = N := by rw [Tm.pvs_len, hN]
        have w1 : IntKind.i64.wrap ((k : Int) - 1) = ((k - 1 : Nat) : Int) := by rw [wrap64 (by omega) (by omega)]; omega
        have w2 : IntKind.i64.wrap ((k : Int) + 1) = ((k + 1 : Nat) : Int) := by rw [wrap64 (by omega) (by omega)]; omega
        have la : k - 1 < N := by omega
        by_cases h0 : x.cmp y = 0
        · rw [if_pos h0] at hstep
          simp -dsimp -implicitDefEqProofs only [g39, c39r0, c39r1, c39r2, c39k3, c39r4, c39r5, c39k6, c39r7, c39r8, c39r9, c39r10, c39k11, c39r12, c39r13, c39r14, c39k15, c39k16, c39r17, c39k19, c39r20, c39r21, c39k22, c39k23, c39r24, c39b25, c39k26, c39r27, c39, go_sem, collect_lit0, collect_lit1, collect_lit2, collect_lit3, if_true, if_false, true_and, and_true, false_and, and_false, and_self, Nat.zero_add, Nat.add_zero, eq_self, Bool.true_eq_false, Bool.false_eq_true, cond_true, cond_false, decide_eq_true_eq, Bool.not_eq_true', Bool.not_eq_false', decide_eq_false_iff_not, not_true_eq_false, not_false_eq_true, Bool.true_and, Bool.false_and, Bool.and_true, Bool.and_false, Bool.not_true, Bool.not_false, Option.some.injEq, decide_true, decide_false, List.getElem?_cons_zero, List.getElem?_cons_succ, List.length_cons, List.length_nil, List.nil_append, List.cons_append, List.set_cons_zero, List.set_cons_succ, List.take_zero, List.drop_zero, Nat.reduceEqDiff, Nat.reduceAdd, Nat.reduceSub, Nat.reduceLT, Nat.reduceLeDiff, Nat.reduceMul, Int.reduceEq, Int.reduceLT, Int.reduceLE, Int.reduceAdd, Int.reduceSub, Int.reduceNeg, Int.reduceToNat, reduceCtorEq, ↓reduceIte, hc, s_iaddr_sl hlt, s_iaddr_sl la, aload_eptr, e1, hlen, gx, gy, hcall, w1, w2, h0, slice_lo_sl hkN]
          refine compact_inner hp r hr ts N hN hN' hv hs k hk hlt hstep _ _ _ rfl fun rest es hes htk => ?_
          have hdl : (dd ts).length ≤ N := by rw [hN]; exact dd_length ts
          simp -dsimp -implicitDefEqProofs only [g39, c39r0, c39r1, c39r2, c39k3, c39r4, c39r5, c39k6, c39r7, c39r8, c39r9, c39r10, c39k11, c39r12, c39r13, c39r14, c39k15, c39k16, c39r17, c39b18, c39k19, c39r20, c39r21, c39k22, c39k23, c39r24, c39b25, c39k26, c39r27, c39, go_sem, collect_lit0, collect_lit1, collect_lit2, collect_lit3, if_true, if_false, true_and, and_true, false_and, and_false, and_self, Nat.zero_add, Nat.add_zero, eq_self, Bool.true_eq_false, Bool.false_eq_true, cond_true, cond_false, decide_eq_true_eq, Bool.not_eq_true', Bool.not_eq_false', decide_eq_false_iff_not, not_true_eq_false, not_false_eq_true, Bool.true_and, Bool.false_and, Bool.and_true, Bool.and_false, Bool.not_true, Bool.not_false, Option.some.injEq, decide_true, decide_false, List.getElem?_cons_zero, List.getElem?_cons_succ, List.length_cons, List.length_nil, List.nil_append, List.cons_append, List.set_cons_zero, List.set_cons_succ, List.take_zero, List.drop_zero, Nat.reduceEqDiff, Nat.reduceAdd, Nat.reduceSub, Nat.reduceLT, Nat.reduceLeDiff, Nat.reduceMul, Int.reduceEq, Int.reduceLT, Int.reduceLE, Int.reduceAdd, Int.reduceSub, Int.reduceNeg, Int.reduceToNat, reduceCtorEq, ↓reduceIte, slice_lo_sl hdl, slice_hi_sl hdl, w_clear_sl (e1 _ _) hes (show (dd ts).length + (N - (dd ts).length) = N by omega), e4]
          have ht : ∀ (A : AObj) (e : Heap), (hp.set r A ++ e).take hp.length = hp.set r A := fun A e => by
            rw [List.take_append_of_le_length (by simp), List.take_of_length_le (by simp)]
          rw [ht, htk]
          simp [AV.refsIn, hr, packed, zeroT]
        · rw [if_neg h0] at hstep
          simp -dsimp -implicitDefEqProofs only [g39, c39r0, c39r1, c39r2, c39k3, c39r4, c39r5, c39k6, c39r7, c39r8, c39r9, c39r10, c39k11, c39r12, c39r13, c39r14, c39k15, c39k16, c39r17, c39b18, c39k19, c39r20, c39r21, c39k22, c39k23, c39r24, c39b25, c39k26, c39r27, c39, go_sem, collect_lit0, collect_lit1, collect_lit2, collect_lit3, if_true, if_false, true_and, and_true, false_and, and_false, and_self, Nat.zero_add, Nat.add_zero, eq_self, Bool.true_eq_false, Bool.false_eq_true, cond_true, cond_false, decide_eq_true_eq, Bool.not_eq_true', Bool.not_eq_false', decide_eq_false_iff_not, not_true_eq_false, not_false_eq_true, Bool.true_and, Bool.false_and, Bool.and_true, Bool.and_false, Bool.not_true, Bool.not_false, Option.some.injEq, decide_true, decide_false, List.getElem?_cons_zero, List.getElem?_cons_succ, List.length_cons, List.length_nil, List.nil_append, List.cons_append, List.set_cons_zero, List.set_cons_succ, List.take_zero, List.drop_zero, Nat.reduceEqDiff, Nat.reduceAdd, Nat.reduceSub, Nat.reduceLT, Nat.reduceLeDiff, Nat.reduceMul, Int.reduceEq, Int.reduceLT, Int.reduceLE, Int.reduceAdd, Int.reduceSub, Int.reduceNeg, Int.reduceToNat, reduceCtorEq, ↓reduceIte, hc, s_iaddr_sl hlt, s_iaddr_sl la, aload_eptr, e1, hlen, gx, gy, hcall, w1, w2, h0]
          refine ⟨N - (k + 1), by omega, k + 1, rfl, by omega, by omega, hstep, ?_⟩
          rw [collect_id (by simp)]
      · have hc : ¬ (k : Int) < (N : Int) := by omega
        have hdd : dd ts = ts := by rwa [List.take_of_length_le (by omega)] at hd
        have ht : ∀ (A : AObj) (e : Heap), (hp.set r A ++ e).take hp.length = hp.set r A := fun A e => by
          rw [List.take_append_of_le_length (by simp), List.take_of_length_le (by simp)]
        simp -dsimp -implicitDefEqProofs only [g39, c39r0, c39r1, c39r2, c39k3, c39r4, c39r5, c39k6, c39r7, c39r8, c39r9, c39r10, c39k11, c39r12, c39r13, c39r14, c39k15, c39k16, c39r17, c39b18, c39k19, c39r20, c39r21, c39k22, c39k23, c39r24, c39b25, c39k26, c39r27, c39, go_sem, collect_lit0, collect_lit1, collect_lit2, collect_lit3, if_true, if_false, true_and, and_true, false_and, and_false, and_self, Nat.zero_add, Nat.add_zero, eq_self, Bool.true_eq_false, Bool.false_eq_true, cond_true, cond_false, decide_eq_true_eq, Bool.not_eq_true', Bool.not_eq_false', decide_eq_false_iff_not, not_true_eq_false, not_false_eq_true, Bool.true_and, Bool.false_and, Bool.and_true, Bool.and_false, Bool.not_true, Bool.not_false, Option.some.injEq, decide_true, decide_false, List.getElem?_cons_zero, List.getElem?_cons_succ, List.length_cons, List.length_nil, List.nil_append, List.cons_append, List.set_cons_zero, List.set_cons_succ, List.take_zero, List.drop_zero, Nat.reduceEqDiff, Nat.reduceAdd, Nat.reduceSub, Nat.reduceLT, Nat.reduceLeDiff, Nat.reduceMul, Int.reduceEq, Int.reduceLT, Int.reduceLE, Int.reduceAdd, Int.reduceSub, Int.reduceNeg, Int.reduceToNat, reduceCtorEq, ↓reduceIte, hc]
        rw [hdd, ← hN, ht]
        simp [AV.refsIn, hr, packed, ← hN]
end Go.Proofs.Yteaehiceghhajaa
