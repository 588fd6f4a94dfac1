/- What is proved: what slices.Insert does at one type. -/
import Derived.Test.YtffecaafklpmhaaProg
import Derived.Shelf.Spec.SlicesInsertGrow
import Derived.Test.YtffecaafklpmhaaAm4
import Derived.Test.YtffecaafklpmhaaAm2
set_option linter.unusedVariables false
set_option linter.unusedSimpArgs false
namespace Go.Proofs.Ytffecaafklpmhaa
open Go Go.Am Go.Proofs Go.Lib Go.RowKit
theorem t3 : Try.prog.underlying 3 = some (TypeDesc.int IntKind.i64) := by kernel_rfl
theorem a3 : ∀ w, (isAgg 3).run Try.prog w = .ok false w := fun w => by kernel_rfl
theorem z3 : ∀ w, (Go.sizeOf 3).run Try.prog w = .ok 1 w := fun w => by kernel_rfl
theorem v3 : ∀ w, (zeroValue 3).run Try.prog w = .ok (Value.int IntKind.i64 0) w := fun w => by kernel_rfl
theorem t4 : Try.prog.underlying 4 = some TypeDesc.bool := by kernel_rfl
theorem a4 : ∀ w, (isAgg 4).run Try.prog w = .ok false w := fun w => by kernel_rfl
theorem z4 : ∀ w, (Go.sizeOf 4).run Try.prog w = .ok 1 w := fun w => by kernel_rfl
theorem v4 : ∀ w, (zeroValue 4).run Try.prog w = .ok (Value.bool false) w := fun w => by kernel_rfl
theorem tS : Try.prog.underlying 80 = some (TypeDesc.slice 102) := by kernel_rfl
theorem aS : ∀ w, (isAgg 80).run Try.prog w = .ok false w := fun w => by kernel_rfl
theorem zS : ∀ w, (Go.sizeOf 80).run Try.prog w = .ok 1 w := fun w => by kernel_rfl
theorem vS : ∀ w, (zeroValue 80).run Try.prog w = .ok (Value.slice none 0 0) w := fun w => by kernel_rfl
theorem zE : ∀ w, (Go.sizeOf 102).run Try.prog w = .ok 5 w := fun w => by kernel_rfl
theorem iE : (Try.prog.info? 102).map (·.size) = some 5 := by kernel_rfl
theorem ins_list {α : Type} (C : List α) (p q : Nat) (hpq : p ≤ q) (hq : q ≤ C.length) (R : List α) : (C.take q ++ R).take p = C.take p ∧ (C.take q ++ R).drop q = R := by
 have hl : (C.take q).length = q := by simp; omega
 refine ⟨?_, ?_⟩
 ·rw [List.take_append_of_le_length (by omega), List.take_take]
  congr 1
  omega
 ·exact List.drop_left' hl
set_option maxHeartbeats 4000000 in
set_option maxRecDepth 100000 in
theorem ins_shift (b n c i vb voff m vc : Nat) (cur : Array Value) (t : TypeId) (vs : List Value) (w : World) (hi : i < n) (hm : 0 < m) (hroom : n + m ≤ c) (hlim : n + m ≤ lim) (hvb : vb ≠ b)
  (hg : w.heap[b]? = some (.cells cur t (0, 0))) (hcs : cur.size = c * 5) (hvl : vs.length = m * 5) (h1 : ∀ v ∈ (cur.toList.drop (i * 5)).take ((n - i) * 5), v.oneCell' = true)
  (hvs : ∀ j v, vs[j]? = some v → w.cell? ⟨vb, voff + j, none⟩ = some v) (h1v : ∀ v ∈ vs, v.oneCell' = true)
  (tA : TypeId) (kA : Nat) (hsa : w.shape? vb = some (tA, kA)) (hkA : kA ≠ 0) :
  ∃ cur2 : Array Value, cur2.toList = cur.toList.take (i * 5) ++ vs ++ (cur.toList.drop (i * 5)).take ((n - i) * 5) ++ cur.toList.drop ((n + m) * 5) ∧
  Calls Try.prog 100 #[.slice (some ⟨b, 0, none⟩) n c, .int .i64 i, .slice (some ⟨vb, voff, none⟩) m vc] w fun e w' =>
   e = .returned (.slice (some ⟨b, 0, none⟩) (n + m) c) ∧ ∃ cur1, w' = (w.drew.setRow b cur1).setRow b cur2 := by
 have t3 := t3; have a3 := a3; have z3 := z3; have v3 := v3; have t4 := t4; have a4 := a4; have z4 := z4; have v4 := v4; have tS := tS; have aS := aS; have zS := zS; have vS := vS; have zE := zE
 have u3 := run_underlying t3; have u4 := run_underlying t4; have uS := run_underlying tS
 have hlim' : n + m ≤ 1073741824 := hlim
 have hov : ∀ lb cb x, (callFunc 104 #[.slice (some ⟨vb, voff, none⟩) m vc, .slice (some ⟨b, x, none⟩) lb cb]).run Try.prog w = .ok (.value (.bool false)) w := fun lb cb x => by
  have hfr : ∀ o, w.frozen? ⟨b, o, none⟩ = false := fun o => by simp [World.frozen?, hg]
  rw [run_callFunc_extern Try.func104 (by kernel_rfl) (by kernel_rfl) (by kernel_rfl) (e := Extern.SlicesOverlaps.overlaps #[80, 80] #[4]) (by kernel_rfl),
   run_overlaps_own w 80 4 102 tS 5 zE ⟨vb, voff, none⟩ ⟨b, x, none⟩ m vc lb cb hvb tA t kA cur.size hsa (by simp [World.shape?, hg]) hkA (by omega) hfr (hfr x)]
  rfl
 have hz1 : ¬ ((m : Int) = 0) := by omega
 have hz2 : ¬ ((i : Int) = (n : Int)) := by omega
 have hw1 : IntKind.i64.wrap ((i : Int) + (m : Int)) = (i : Int) + (m : Int) := by rw [IntKind.wrap_i64]; omega
 have hb1 : (0 : Int) ≤ (i : Int) + (m : Int) := by omega
 have hin : i ≤ n := by omega
 have htn : ((i : Int) + (m : Int)).toNat = i + m := by omega
 have hb2 : ¬ (c = i + m) := by omega
 have hb3 : (i : Int) ≤ (n : Int) + (m : Int) := by omega
 have hb4 : ¬ (c = i) := by omega
 have hcell : ∀ (W : World) (j : Nat), W.heap = w.heap → W.cell? ⟨b, j, none⟩ = cur.toList[j]? := fun W j h => by
  simp [World.cell?, h, hg]
 have hcp1 : ∃ cur1 : Array Value, cur1.toList = cur.toList.take ((i + m) * 5) ++ (cur.toList.drop (i * 5)).take ((n - i) * 5) ++ cur.toList.drop ((n + m) * 5) ∧ ∀ ty dc sc, (Builtin.copy_ #[80, 80] ty #[.slice (some ⟨b, (i + m) * 5, none⟩) (n + m - (i + m)) dc, .slice (some ⟨b, i * 5, none⟩) (n + m - i) sc]).run Try.prog w.drew = .ok (goInt ((n - i : Nat) : Int)) (w.drew.setRow b cur1) := by
  obtain ⟨cs1, hcs1⟩ : ∃ cs1, cs1 = (cur.toList.drop (i * 5)).take ((n - i) * 5) := ⟨_, rfl⟩
  have hl1 : cs1.length = (n - i) * 5 := by rw [hcs1]; simp; omega
  have hmin : Nat.min (n + m - i) (n + m - (i + m)) = n - i := by simp only [Nat.min_def]; split <;> omega
  have h := fun ty dc sc =>
   run_copy_rowk w.drew 80 80 ty 102 b ((i + m) * 5) (n + m - (i + m)) dc ⟨b, i * 5, none⟩ (n + m - i) sc 5 cur t cs1 tS iE hg (by rw [hl1, hmin])
   (fun j v hj => by
    have ha : (⟨b, i * 5, none⟩ : Addr).add j = ⟨b, i * 5 + j, none⟩ := by unfold Addr.add; split <;> simp_all
    rw [ha, hcell w.drew _ rfl]
    rw [hcs1, List.getElem?_take] at hj
    split at hj
    ·rwa [List.getElem?_drop] at hj
    ·cases hj)
   (by rw [hl1, hcs]; omega) (fun v hv => h1 v (by rw [hcs1] at hv; exact hv))
  refine ⟨(cur.toList.take ((i + m) * 5) ++ cs1 ++ cur.toList.drop ((i + m) * 5 + cs1.length)).toArray, ?_, fun ty dc sc => ?_⟩
  ·rw [hl1, hcs1, show (i + m) * 5 + (n - i) * 5 = (n + m) * 5 by omega]
  ·rw [h, hmin]
 obtain ⟨cur1, hcur1, hcp1⟩ := hcp1
 have hcur1l : cur1.size = cur.size := by
  have := congrArg List.length hcur1
  simp at this
  omega
 have hne : ∀ x, x ≠ b → (w.drew.setRow b cur1).heap[x]? = w.heap[x]? := fun x hx => by
  simp [World.setRow, Array.getElem?_modify, Ne.symm hx]
  rfl
 have hg1 : (w.drew.setRow b cur1).heap[b]? = some (.cells cur1 t (0, 0)) := setRow_heap w.drew b cur cur1 t _ hg
 have hcp2 : ∃ cur2 : Array Value, cur2.toList = cur1.toList.take (i * 5) ++ vs ++ cur1.toList.drop (i * 5 + m * 5) ∧ ∀ ty dc, (Builtin.copy_ #[80, 80] ty #[.slice (some ⟨b, i * 5, none⟩) (n + m - i) dc, .slice (some ⟨vb, voff, none⟩) m vc]).run Try.prog (w.drew.setRow b cur1) = .ok (goInt m) ((w.drew.setRow b cur1).setRow b cur2) := by
  have hmin : Nat.min m (n + m - i) = m := by simp only [Nat.min_def]; split <;> omega
  have h := fun ty dc =>
   run_copy_rowk (w.drew.setRow b cur1) 80 80 ty 102 b (i * 5) (n + m - i) dc ⟨vb, voff, none⟩ m vc 5 cur1 t vs tS iE hg1 (by rw [hvl, hmin])
   (fun j v hj => by
    have ha : (⟨vb, voff, none⟩ : Addr).add j = ⟨vb, voff + j, none⟩ := by unfold Addr.add; split <;> simp_all
    rw [ha]
    have := hvs j v hj
    unfold World.cell? at this ⊢
    rw [hne vb hvb]
    exact this)
   (by rw [hvl, hcur1l, hcs]; omega) h1v
  refine ⟨(cur1.toList.take (i * 5) ++ vs ++ cur1.toList.drop (i * 5 + vs.length)).toArray, ?_, fun ty dc => ?_⟩
  ·rw [hvl]
  ·rw [h, hmin]
 obtain ⟨cur2, hcur2, hcp2⟩ := hcp2
 have hfin : cur2.toList = cur.toList.take (i * 5) ++ vs ++ (cur.toList.drop (i * 5)).take ((n - i) * 5) ++ cur.toList.drop ((n + m) * 5) := by
  rw [hcur2, hcur1]
  simp only [List.append_assoc]
  obtain ⟨e1, e2⟩ := ins_list cur.toList (i * 5) ((i + m) * 5) (by omega) (by simp; omega) ((cur.toList.drop (i * 5)).take ((n - i) * 5) ++ cur.toList.drop ((n + m) * 5))
  rw [e1, show i * 5 + m * 5 = (i + m) * 5 by omega, e2]
 refine ⟨cur2, hfin, ?_⟩
 clear hcur1 hcur2 hfin
 have mixed : Try.prog.follows .mixedOrders = true := by kernel_rfl
 go_enter Try.func100, Try.f100
 go_wp2_with (simp only [hov])
 go_region_law_o (refine step_copy_runI rfl _ _ 80 80 rfl _ _ (by simp [Act.eval, Act.put]) (by simp [Act.eval, Act.put]) (hcp1 _ _ _) ?_)
 go_wp2_with (at_builtin; refine wpList_copy_runI _ rfl _ _ 80 80 rfl _ _ rfl rfl (hcp2 _ _) ?_)
 go_ret
 exact ⟨rfl, cur1, rfl⟩
set_option maxHeartbeats 4000000 in
set_option maxRecDepth 100000 in
theorem ins_grow (b n c i vb voff m vc : Nat) (cur : Array Value) (t : TypeId) (vs : List Value) (w : World) (hi : i < n) (hm : 0 < m) (hnc : n ≤ c) (hroom : c < n + m) (hlim : n + m ≤ lim) (hvb : vb < w.heap.size)
  (hg : w.heap[b]? = some (.cells cur t (0, 0))) (hcs : cur.size = c * 5) (hvl : vs.length = m * 5) (h1 : ∀ v ∈ (cur.toList.drop (i * 5)).take ((n - i) * 5), v.oneCell' = true)
  (hvs : ∀ j v, vs[j]? = some v → w.cell? ⟨vb, voff + j, none⟩ = some v) (h1v : ∀ v ∈ vs, v.oneCell' = true)
  (hok : okT Try.prog 102 = true) (hz : zeroOk Try.prog 102 = true) (hby : bytesOk Try.prog 102 = true) (hshE : (shOf Try.prog 102).size = 5) :
  ∃ (row : Array Value) (G : Nat), n + m ≤ G ∧ row.size = G * 5 ∧ row.toList.take ((n + m) * 5) = cur.toList.take (i * 5) ++ vs ++ (cur.toList.drop (i * 5)).take ((n - i) * 5) ∧
  Calls Try.prog 100 #[.slice (some ⟨b, 0, none⟩) n c, .int .i64 i, .slice (some ⟨vb, voff, none⟩) m vc] w fun e w' =>
   e = .returned (.slice (some ⟨w.heap.size, 0, none⟩) (n + m) G) ∧ w'.heap[w.heap.size]? = some (.cells row 102 (0, 0)) ∧ w'.heap.size = w.heap.size + 1 ∧ (∀ x, x < w.heap.size → w'.heap[x]? = w.heap[x]?) ∧ w'.os = w.os ∧ w'.tape = w.tape ∧ w'.output = w.output := by
 have t3 := t3; have a3 := a3; have z3 := z3; have v3 := v3; have t4 := t4; have a4 := a4; have z4 := z4; have v4 := v4; have tS := tS; have aS := aS; have zS := zS; have vS := vS; have zE := zE
 have u3 := run_underlying t3; have u4 := run_underlying t4; have uS := run_underlying tS
 obtain ⟨i0, z0, hi0, hz0, hs0, hzc⟩ := okE w hok hz
 rw [hshE] at hs0 hzc
 have hb : i0.bytes ≤ 1024 := by
  unfold bytesOk at hby
  rw [hi0] at hby
  simpa using hby
 have hbb : (n + m) * i0.bytes ≤ 140737488355328 := by
  have : (n + m) * i0.bytes ≤ lim * 1024 := Nat.mul_le_mul hlim hb
  unfold lim at this
  omega
 have hlim' : n + m ≤ 1073741824 := hlim
 have hbN : b < w.heap.size := heap_lt hg
 have hz1 : ¬ ((m : Int) = 0) := by omega
 have hz2 : ¬ ((i : Int) = (n : Int)) := by omega
 have hz3 : (c : Int) < (n : Int) + (m : Int) := by omega
 have hkk : (n : Int) + (m : Int) - (i : Int) = ((n + m - i : Nat) : Int) := by omega
 have hik : i + (n + m - i) = n + m := by omega
 have hold : (Builtin.firstCells i0.size i (.slice (some ⟨b, 0, none⟩) i c)).run Try.prog w.drew = .ok (cur.toList.take (i * 5)).toArray w.drew := by
  rw [hs0]
  refine run_firstCells_some w.drew 5 i ⟨b, 0, none⟩ i c (cur.toList.take (i * 5)) (by simp; omega) fun j v hj => ?_
  have ha : (⟨b, 0, none⟩ : Addr).add j = ⟨b, j, none⟩ := by unfold Addr.add; split <;> simp_all
  rw [ha]
  rw [List.getElem?_take] at hj
  split at hj
  ·have hg' : w.drew.heap[b]? = some (.cells cur t (0, 0)) := hg
   simpa [World.cell?, hg'] using hj
  ·cases hj
 obtain ⟨G, hG⟩ : ∃ G, grownCap w (n + m) c 102 = G := ⟨_, rfl⟩
 obtain ⟨ROW, hROW⟩ : ∃ ROW : Array Value, (cur.toList.take (i * 5)).toArray ++ Builtin.zeroCells z0.cells (n + m - i) ++ Builtin.zeroCells z0.cells (G - (n + m)) = ROW := ⟨_, rfl⟩
 have hGn : n + m ≤ G := by rw [← hG]; exact grownCap_ge w _ _ _
 have hRl : ROW.size = G * 5 := by
  rw [← hROW]
  simp only [Array.size_append, List.size_toArray, size_zeroCells, hzc, List.length_take, Array.length_toList]
  omega
 have hRt : ROW.toList.take (i * 5) = cur.toList.take (i * 5) := by
  rw [← hROW]
  simp only [Array.toList_append, List.append_assoc]
  exact List.take_left' (by simp; omega)
 have hrz : ∀ ty, (Builtin.append_ #[80, 3] ty #[.slice (some ⟨b, 0, none⟩) i c, .int .i64 ((n : Int) + (m : Int) - (i : Int))]).run Try.prog w =
   .ok (.slice (some ⟨w.heap.size, 0, none⟩) (n + m) G) (w.drew.alloc (.cells ROW 102)) := fun ty => by
  have h := Lib.run_append_grow_zeros w 80 3 ty 102 i0 z0 .i64 .i64 tS t3 hi0 hz0 (some ⟨b, 0, none⟩) i c (cur.toList.take (i * 5)) hold (n + m - i) (by omega) (by rw [hs0]; omega) (by omega) (by omega)
   (by have : (n + m - i) * i0.bytes ≤ (n + m) * i0.bytes := Nat.mul_le_mul (by omega) (Nat.le_refl _); omega) (by rw [hik]; exact growslice_fits hroom hbb)
  rw [hik, hG] at h
  rw [hkk, ← hROW]
  exact h
 have hd1 : ROW.toList.length = G * 5 := by simpa using hRl
 have hGn' : (n + m) * 5 ≤ G * 5 := Nat.mul_le_mul hGn (Nat.le_refl _)
 have hcpA : ∃ row1 : Array Value, row1.toList = ROW.toList.take (i * 5) ++ vs ++ ROW.toList.drop (i * 5 + m * 5) ∧ ∀ W : World, W.heap[w.heap.size]? = some (.cells ROW 102 (0, 0)) → W.heap[vb]? = w.heap[vb]? → ∀ ty dc, (Builtin.copy_ #[80, 80] ty #[.slice (some ⟨w.heap.size, i * 5, none⟩) (n + m - i) dc, .slice (some ⟨vb, voff, none⟩) m vc]).run Try.prog W = .ok (goInt m) (W.setRow w.heap.size row1) := by
  have hmin : Nat.min m (n + m - i) = m := by simp only [Nat.min_def]; split <;> omega
  refine ⟨(ROW.toList.take (i * 5) ++ vs ++ ROW.toList.drop (i * 5 + vs.length)).toArray, by rw [hvl], fun W hN hV ty dc => ?_⟩
  have h := run_copy_rowk W 80 80 ty 102 w.heap.size (i * 5) (n + m - i) dc ⟨vb, voff, none⟩ m vc 5 ROW 102 vs tS iE hN (by rw [hvl, hmin])
   (fun j v hj => by
    have ha : (⟨vb, voff, none⟩ : Addr).add j = ⟨vb, voff + j, none⟩ := by unfold Addr.add; split <;> simp_all
    rw [ha]
    have := hvs j v hj
    unfold World.cell? at this ⊢
    rw [hV]
    exact this)
   (by rw [hvl, hRl]; omega) h1v
  rw [h, hmin]
 obtain ⟨row1, hrow1, hcpA⟩ := hcpA
 have hr1l : row1.size = G * 5 := by
  have := congrArg List.length hrow1
  simp at this
  omega
 have hcpB : ∃ row2 : Array Value, row2.toList = row1.toList.take ((i + m) * 5) ++ (cur.toList.drop (i * 5)).take ((n - i) * 5) ++ row1.toList.drop ((n + m) * 5) ∧ ∀ W : World, W.heap[w.heap.size]? = some (.cells row1 102 (0, 0)) → W.heap[b]? = some (.cells cur t (0, 0)) → ∀ ty dc sc, (Builtin.copy_ #[80, 80] ty #[.slice (some ⟨w.heap.size, (i + m) * 5, none⟩) (n + m - (i + m)) dc, .slice (some ⟨b, i * 5, none⟩) (n - i) sc]).run Try.prog W = .ok (goInt ((n - i : Nat) : Int)) (W.setRow w.heap.size row2) := by
  obtain ⟨cs1, hcs1⟩ : ∃ cs1, cs1 = (cur.toList.drop (i * 5)).take ((n - i) * 5) := ⟨_, rfl⟩
  have hl1 : cs1.length = (n - i) * 5 := by rw [hcs1]; simp; omega
  have hmin : Nat.min (n - i) (n + m - (i + m)) = n - i := by simp only [Nat.min_def]; split <;> omega
  refine ⟨(row1.toList.take ((i + m) * 5) ++ cs1 ++ row1.toList.drop ((i + m) * 5 + cs1.length)).toArray, by rw [hl1, hcs1, show (i + m) * 5 + (n - i) * 5 = (n + m) * 5 by omega], fun W hN hB ty dc sc => ?_⟩
  have h := run_copy_rowk W 80 80 ty 102 w.heap.size ((i + m) * 5) (n + m - (i + m)) dc ⟨b, i * 5, none⟩ (n - i) sc 5 row1 102 cs1 tS iE hN (by rw [hl1, hmin])
   (fun j v hj => by
    have ha : (⟨b, i * 5, none⟩ : Addr).add j = ⟨b, i * 5 + j, none⟩ := by unfold Addr.add; split <;> simp_all
    rw [ha]
    rw [hcs1, List.getElem?_take] at hj
    split at hj
    ·rw [List.getElem?_drop] at hj
     simpa [World.cell?, hB] using hj
    ·cases hj)
   (by rw [hl1, hr1l]; omega) (fun v hv => h1 v (by rw [hcs1] at hv; exact hv))
  rw [h, hmin]
 obtain ⟨row2, hrow2, hcpB⟩ := hcpB
 have hfin : row2.toList.take ((n + m) * 5) = cur.toList.take (i * 5) ++ vs ++ (cur.toList.drop (i * 5)).take ((n - i) * 5) := by
  have e0 : row1.toList.take ((i + m) * 5) = cur.toList.take (i * 5) ++ vs := by
   rw [hrow1, hRt]
   exact List.take_left' (by simp [hvl]; omega)
  rw [hrow2, e0]
  exact List.take_left' (by simp [hvl]; omega)
 have hr2l : row2.size = G * 5 := by
  have := congrArg List.length hrow2
  simp at this
  omega
 have hA1 : (w.drew.alloc (.cells ROW 102)).heap[w.heap.size]? = some (.cells ROW 102 (0, 0)) := alloc_new w.drew _
 have hA2 : ∀ x, x < w.heap.size → (w.drew.alloc (.cells ROW 102)).heap[x]? = w.heap[x]? := fun x hx => alloc_old w.drew _ hx
 have hA3 : (w.drew.alloc (.cells ROW 102)).heap.size = w.heap.size + 1 := by
  show (w.drew.heap.push _).size = _
  rw [Array.size_push]
  rfl
 refine ⟨row2, G, hGn, hr2l, hfin, ?_⟩
 have hG63 : G ≤ 9223372036854775807 := by
  have := grownCap_le_maxLen w (n + m) c 102 (by unfold maxLen; omega)
  rw [hG] at this
  unfold maxLen at this
  omega
 have hGi : ¬ (G = i) := by omega
 have hGim : ¬ (G = i + m) := by omega
 have hci : ¬ (c = i) := by omega
 have hw1 : IntKind.i64.wrap ((i : Int) + (m : Int)) = (i : Int) + (m : Int) := by rw [IntKind.wrap_i64]; omega
 have hw2 : IntKind.i64.wrap ((n : Int) + (m : Int)) = (n : Int) + (m : Int) := by rw [IntKind.wrap_i64]; omega
 have hw3 : IntKind.i64.wrap ((n : Int) + (m : Int) - (i : Int)) = (n : Int) + (m : Int) - (i : Int) := by rw [IntKind.wrap_i64]; omega
 have hb1 : (0 : Int) ≤ (i : Int) + (m : Int) := by omega
 have hin : i ≤ n := by omega
 have htn : ((i : Int) + (m : Int)).toNat = i + m := by omega
 have hb3 : (i : Int) ≤ (n : Int) := by omega
 clear hkk hik hold hrow1 hrow2 hfin hRt hd1 hROW hG
 have mixed : Try.prog.follows .mixedOrders = true := by kernel_rfl
 go_enter Try.func100, Try.f100
 go_wp2_with (at_builtin; refine Lib.wpList_append_run _ rfl _ _ _ _ rfl _ _ rfl rfl _ _ (hrz _) ?_)
 have hA1' : ((w.alloc (.cells ROW 102)).drew).heap[w.heap.size]? = some (.cells ROW 102 (0, 0)) := hA1
 have hA2' : ∀ x, x < w.heap.size → ((w.alloc (.cells ROW 102)).drew).heap[x]? = w.heap[x]? := hA2
 have hA3' : ((w.alloc (.cells ROW 102)).drew).heap.size = w.heap.size + 1 := hA3
 have hA4' : ((w.alloc (.cells ROW 102)).drew).os = w.os ∧ ((w.alloc (.cells ROW 102)).drew).tape = w.tape ∧ ((w.alloc (.cells ROW 102)).drew).output = w.output := ⟨rfl, rfl, rfl⟩
 rw [hcpA _ hA1' (hA2' _ hvb)]
 generalize (w.alloc (.cells ROW 102)).drew = W0 at *
 have hB1 : (W0.setRow w.heap.size row1).heap[w.heap.size]? = some (.cells row1 102 (0, 0)) := setRow_heap W0 w.heap.size ROW row1 102 _ hA1'
 have hB2 : ∀ x, x < w.heap.size → (W0.setRow w.heap.size row1).heap[x]? = w.heap[x]? := fun x hx => by
  rw [← hA2' x hx]
  have : w.heap.size ≠ x := by omega
  simp [World.setRow, Array.getElem?_modify, this]
 have hB3 : (W0.setRow w.heap.size row1).heap.size = w.heap.size + 1 := by rw [← hA3']; simp [World.setRow]
 have hB4 : (W0.setRow w.heap.size row1).os = w.os ∧ (W0.setRow w.heap.size row1).tape = w.tape ∧ (W0.setRow w.heap.size row1).output = w.output := hA4'
 generalize W0.setRow w.heap.size row1 = W1 at *
 clear hA1' hA2' hA3' hA4' hcpA hrz hA1 hA2 hA3
 go_wp2
 have hD1 : W1.drew.heap[w.heap.size]? = some (.cells row1 102 (0, 0)) := hB1
 have hD2 : W1.drew.heap[b]? = some (.cells cur t (0, 0)) := by rw [← hg]; exact hB2 b hbN
 go_region_law_o (refine step_copy_runI rfl _ _ 80 80 rfl (.slice (some ⟨w.heap.size, (i + m) * 5, none⟩) (n + m - (i + m)) (G - (i + m))) (.slice (some ⟨b, i * 5, none⟩) (n - i) (c - i)) (by simp [Act.eval, Act.put]) (by simp [Act.eval, Act.put]) (hcpB W1.drew hD1 hD2 3 (G - (i + m)) (c - i)) ?_)
 have hE1 : (W1.drew.setRow w.heap.size row2).heap[w.heap.size]? = some (.cells row2 102 (0, 0)) := setRow_heap W1.drew w.heap.size row1 row2 102 _ hD1
 have hE2 : ∀ x, x < w.heap.size → (W1.drew.setRow w.heap.size row2).heap[x]? = w.heap[x]? := fun x hx => by
  rw [← hB2 x hx]
  have : w.heap.size ≠ x := by omega
  simp [World.setRow, Array.getElem?_modify, this]
  rfl
 have hE3 : (W1.drew.setRow w.heap.size row2).heap.size = w.heap.size + 1 := by
  rw [← hB3]
  show (W1.heap.modify _ _).size = _
  rw [Array.size_modify]
 have hE4 : (W1.drew.setRow w.heap.size row2).os = w.os ∧ (W1.drew.setRow w.heap.size row2).tape = w.tape ∧ (W1.drew.setRow w.heap.size row2).output = w.output := hB4
 generalize W1.drew.setRow w.heap.size row2 = W2 at *
 clear hD1 hD2 hB1 hB2 hB3 hB4 hcpB
 go_wp2
 go_ret
 exact ⟨rfl, hE1, hE3, hE2, hE4⟩
set_option maxHeartbeats 4000000 in
set_option maxRecDepth 100000 in
theorem ins_end (base : Option Addr) (n c vb voff m vc : Nat) (w w' : World) (v' : Value) (hm : 0 < m) (hnc : n ≤ c) (hlim : n ≤ lim) (hrun : (Builtin.append_ #[80, 80] 80 #[.slice base n c, .slice (some ⟨vb, voff, none⟩) m vc]).run Try.prog w = .ok v' w') :
  Calls Try.prog 100 #[.slice base n c, .int .i64 n, .slice (some ⟨vb, voff, none⟩) m vc] w fun E W => E = .returned v' ∧ W = w' := by
 have t3 := t3; have a3 := a3; have z3 := z3; have v3 := v3; have t4 := t4; have a4 := a4; have z4 := z4; have v4 := v4; have tS := tS; have aS := aS; have zS := zS; have vS := vS; have zE := zE
 have u3 := run_underlying t3; have u4 := run_underlying t4; have uS := run_underlying tS
 have hlim' : n ≤ 1073741824 := hlim
 have hz1 : ¬ ((m : Int) = 0) := by omega
 have mixed : Try.prog.follows .mixedOrders = true := by kernel_rfl
 go_enter Try.func100, Try.f100
 cases base with
 | none =>
  go_wp2_with (at_builtin; refine Lib.wpList_append_run _ rfl _ _ _ _ rfl _ _ rfl rfl _ _ hrun ?_)
  all_goals (go_ret; exact ⟨rfl, rfl⟩)
 | some a =>
  obtain ⟨ab, ao, asp⟩ := a
  go_wp2_with (at_builtin; refine Lib.wpList_append_run _ rfl _ _ _ _ rfl _ _ rfl rfl _ _ hrun ?_)
  all_goals (go_ret; exact ⟨rfl, rfl⟩)
end Go.Proofs.Ytffecaafklpmhaa
