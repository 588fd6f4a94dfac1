/- What is proved: the program's free variables. -/
import Derived.Test.YtffecaafklpmhaaFre
import Derived.Test.YtffecaafklpmhaaVarsP
set_option linter.unusedSimpArgs false
set_option linter.unusedVariables false
namespace Go.Proofs.Ytffecaafklpmhaa
open Go.Am
def MapB (m : List (Int × PV)) (s : List Int) : Prop := ∀ v, (mFind v m).getD (.bool false) = .bool (decide (v ∈ s))
theorem MapB.put {m : List (Int × PV)} {s : List Int} (h : MapB m s) (v : Int) : MapB (mPut v (.bool true) m) (s ++ [v]) := fun w => by
 rw [mFind_put]
 by_cases e : w = v
 ·rw [if_pos e]; simp [e]
 ·rw [if_neg e, h w]; simp [e]
def marks (m : List (Int × PV)) (l : List Int) : List (Int × PV) := l.foldl (fun m v => mPut v (.bool true) m) m
theorem marks_snoc (m : List (Int × PV)) (l : List Int) (v : Int) : marks m (l ++ [v]) = mPut v (.bool true) (marks m l) := by simp [marks]
theorem MapB.marks {m : List (Int × PV)} {s : List Int} (h : MapB m s) (l : List Int) : MapB (marks m l) (s ++ l) := by
 induction l generalizing m s with
 | nil => rw [List.append_nil]; exact h
 | cons v r ih =>
  have := ih (h.put v)
  rw [List.append_assoc] at this
  exact this
theorem mark_ok (v : Tm) (hv : v.valid = true) (hp : Heap) (q r : Nat) (m : List (Int × PV)) (hq : hp[q]? = some (.box none (.map r))) (hr : hp[r]? = some (.map none (kEnts m))) :
  S 50 [v.av, .ptr q 0] hp = some (.ret (.tuple []), hp.set r (.map none (kEnts (marks m (vads [] v.occ))))) := by
 refine sem_heap rfl rfl rfl rfl ?_
 have hlt := get_lt hr
 have hsz := valid_size hv
 have hvs := pVars_ok v hv
 have hal := vads_len v.occ []
 have hol := v.occ_len
 rw [List.length_nil, Nat.zero_add] at hal
 simp only [Tm.av] at hvs
 generalize vads [] v.occ = l at *
 have hne : q ≠ r := fun e => by rw [e, hr] at hq; cases hq
 have hself : hp.set r (.map none (kEnts m)) = hp := by
  obtain ⟨_, h⟩ := List.getElem?_eq_some_iff.1 hr
  rw [← h]; exact List.set_getElem_self _
 have hlen : ∀ (X : AObj), (hp.set r X).length = hp.length := fun X => by simp
 have hgq : ∀ (X : AObj) (e : Heap), (hp.set r X ++ e)[q]? = some (.box none (.map r)) := fun X e => by rw [List.getElem?_append_left (by simpa using get_lt hq), List.getElem?_set_ne (Ne.symm hne), hq]
 have hms : ∀ (i : Nat) (x : Int) (e : Heap), wMapset false none (hp.set r (.map none (kEnts (marks m (l.take i)))) ++ e) [.map r, .pv none (.int .i64 x), .pv none (.bool true)] = some (.undef, hp.set r (.map none (kEnts (mPut x (.bool true) (marks m (l.take i))))) ++ e) := fun i x e => by
  have := w_mapset_pv (str := false) (sh := none) (s := none) (hp := hp.set r (.map none (kEnts (marks m (l.take i)))) ++ e) (r := r) (k := .int .i64 x) (p := .bool true) (es := kEnts (marks m (l.take i))) (by rw [List.getElem?_append_left (by simpa using hlt), List.getElem?_set_self hlt]) (kEnts_put _ _ _)
  rw [List.set_append_left _ _ (by simpa using hlt), List.set_set] at this
  exact this
 simp -dsimp -implicitDefEqProofs only [g50, c50r0, c50r1, c50r2, c50k3, c50r4, c50r5, c50k6, c50r7, c50b8, c50k9, c50, go_sem, seval, ↓reduceIte, Tm.av, hvs, ints_len, List.append_assoc, List.cons_append, List.nil_append, get_pre, get_pre0, set_pre, set_pre0, Nat.add_assoc, List.length_append, List.length_cons, List.length_nil, Nat.zero_add]
 refine W_for (α := Unit) l.length (fun _ _ => True) (fun i _ => ⟨[(1, .ptr q 0), (6, .pv none (.sl none (ints l))), (7, .pv none (.int .i64 l.length)), (8, .pv none (.int .i64 i))], hp.set r (.map none (kEnts (marks m (l.take i)))) ++ [.box (some 4) (.pv (some 4) v.pv)]⟩) () ⟨trivial, ?_⟩ ?_ ?_
 ·show _ = (⟨_, hp.set r (.map none (kEnts m)) ++ _⟩ : St)
  rw [hself]
  rfl
 ·rintro i - hi -
  have hc : (i : Int) < (l.length : Int) := by omega
  obtain ⟨x, hx⟩ : ∃ x, l[i]? = some x := ⟨_, List.getElem?_eq_getElem hi⟩
  have w2 : IntKind.i64.wrap ((i : Int) + 1) = ((i + 1 : Nat) : Int) := by rw [wrap64 (by omega) (by omega)]; omega
  have htk : marks m (l.take (i + 1)) = mPut x (.bool true) (marks m (l.take i)) := by rw [take_snoc hx, marks_snoc]
  simp -dsimp -implicitDefEqProofs only [g50, c50r0, c50r1, c50r2, c50k3, c50r4, c50r5, c50k6, c50r7, c50b8, c50k9, c50, go_sem, seval, ↓reduceIte, hc, s_iaddr_pv (ints_get hx), hgq, hms, hlen, w2, List.append_assoc, List.cons_append, List.nil_append, get_pre, get_pre0, set_pre, set_pre0, Nat.add_assoc, List.length_append, List.length_cons, List.length_nil, Nat.zero_add]
  refine ⟨(), ?_⟩
  rw [htk, collect_pre 1 (hlen _) rfl (by simp [AObj.refs, AV.refsIn]) (by simp [AV.refsIn]; have := get_lt hq; omega)]
  rfl
 ·rintro - -
  have hc : ¬ (l.length : Int) < (l.length : Int) := by omega
  simp -dsimp -implicitDefEqProofs only [g50, c50r0, c50r1, c50r2, c50k3, c50r4, c50r5, c50k6, c50r7, c50b8, c50k9, c50, go_sem, seval, ↓reduceIte, hc, List.take_length]
  exact List.take_left' (hlen _)
theorem pVar_ok (v : Int) (h : 0 ≤ v ∧ v ≤ 1099511627776) (hp : Heap) : S 33 [.pv none (.int .i64 v)] hp = some (.ret (tvar v).av, hp) := by
 refine sem_pure rfl rfl rfl (freezeAll_pvs [(none, .int .i64 v)]) rfl ?_
 have hn : ∀ hp, S 59 [.pv none (.int .i64 v)] hp = some (.ret (.pv none (.bool true)), hp) := fun hp => by
  refine sem_pure rfl rfl rfl (freezeAll_pvs [(none, .int .i64 v)]) rfl ?_
  have h1 := eq_true h.1
  have h2 := eq_true h.2
  simp -dsimp -implicitDefEqProofs only [g59, c59r0, c59r1, c59, go_sem, seval, ↓reduceIte, h1, h2]
  try rfl
 have hb : sBuild [(none, .pv none (.int .i64 0)), (none, .pv none (.int .i64 0)), (none, .pv none (.str [])), (none, .tsl (some 4) [])] [1] [.pv none (.int .i64 v)] = some (.agg [(none, .pv none (.int .i64 0)), (none, .pv none (.int .i64 v)), (none, .pv none (.str [])), (none, .tsl (some 4) [])]) := rfl
 simp -dsimp -implicitDefEqProofs only [g33, c33r0, c33r1, c33r2, c33k3, c33r4, c33, go_sem, seval, ↓reduceIte, Tm.av, hn, hb, w_alloc_agg, w_store_agg (Nat.zero_le _)]
 exact ⟨_, rfl⟩
abbrev mstep : List (Int × PV) → Tm → Tm → List (Int × PV) := fun m v _ => marks m (vads [] v.occ)
theorem qfold_marks : ∀ (n : Nat) (g : Tm), g.size = n → ∀ (m : List (Int × PV)) (s : List Int), MapB m s → MapB (qfold mstep m g) (s ++ flatQ g) := by
 intro n
 induction n using Nat.strongRecOn with
 | _ n ih =>
  intro g hn m s hm
  by_cases h : qd g
  ·have h3 := Tm.arg_lt (mem_arg1 h.2.2)
   rw [qfold_q h, flatQ_q h, ← List.append_assoc]
   exact ih _ (by omega) (arg1 g) rfl _ _ (hm.marks _)
  ·rw [qfold_n h, flatQ_n h, List.append_nil]; exact hm
def hc21 (p g0 : Tm) (m : List (Int × PV)) (g : Tm) : Heap := [.box (some 4) (.pv (some 4) p.pv), .box (some 4) (.pv (some 4) g0.pv), .box (some 4) (zg 3), .arr (some 4) [] false, .map none (kEnts m), .box none (.map 4), .box none (.func (.func 50) [] [.ptr 5 0]), .box (some 4) (.pv (some 4) g.pv), .loop 22 [27, 28] [(6, .ptr 6 0)] false]
theorem free_rnd (p g0 : Tm) : QR (hc21 p g0) 9 8 7 22 mstep where
 len s g := rfl
 fn s g := rfl
 rlt := by omega
 clt := by omega
 box s g := rfl
 set s g g' := rfl
 call s g v w ext hv hw := by
  refine sem_round (ps := [27, 28]) (env := [(6, .ptr 6 0)]) rfl rfl rfl rfl ?_
  have hcall := fun e => mark_ok v hv (((hc21 p g0 s g).set 8 (.loop 22 [27, 28] [(6, .ptr 6 0)] true)) ++ e) 5 4 s rfl rfl
  simp only [hc21, Tm.av, zg, List.set_cons_succ, List.set_cons_zero, List.cons_append, List.nil_append] at hcall
  simp -dsimp -implicitDefEqProofs only [g22, c22r0, c22r1, c22r2, c22k3, c22r4, c22r5, c22r6, c22r7, c22r8, c22r9, c22r10, c22k11, c22r12, c22r13, c22r14, c22k15, c22k16, c22r17, c22b18, c22k19, c22r20, c22r21, c22r22, c22k23, c22r24, c22p25, c22r26, c22r27, c22k28, c22q29, c22, go_sem, seval, ↓reduceIte, List.append_assoc, List.cons_append, List.nil_append, Nat.add_assoc, List.length_append, List.length_cons, List.length_nil, Nat.zero_add, hc21, zg, zipFr, Tm.av, hcall, op_callf, w_alloc_agg, List.append_assoc, List.cons_append, List.nil_append, get_pre, get_pre0, set_pre, set_pre0, Nat.add_assoc, List.length_append, List.length_cons, List.length_nil, Nat.zero_add]
  exact ⟨⟨_, rfl⟩, by simp [mstep]⟩
theorem pFree_ok (p g : Tm) (hp0 : p.size < 1000000000) (hg0 : g.size < 1000000000) (hp : Heap) : S 22 [p.av, g.av] hp = some (.ret (frR p g).av, hp) := by
 refine sem_pure_range rfl rfl rfl (freezeAll_pvs [(some 4, p.pv), (some 4, g.pv)]) rfl rfl ?_
 have h1 := fun hp => valid_ok p hp hp0
 have h2 := fun hp => valid_ok g hp hg0
 simp only [Tm.av] at h1 h2
 by_cases hv : p.valid = true
 rotate_left
 ·have hv' : p.valid = false := by simpa using hv
  unfold frR
  rw [if_neg (fun e => hv e.1)]
  simp -dsimp -implicitDefEqProofs only [g22, c22r0, c22r1, c22r2, c22k3, c22r4, c22r5, c22r6, c22r7, c22r8, c22r9, c22r10, c22k11, c22r12, c22r13, c22r14, c22k15, c22k16, c22r17, c22b18, c22k19, c22r20, c22r21, c22r22, c22k23, c22r24, c22p25, c22r26, c22r27, c22k28, c22q29, c22, go_sem, seval, ↓reduceIte, Tm.av, h1, h2, hv', hb0, w_alloc_agg, w_store_agg (Nat.zero_le _)]
  exact ⟨_, rfl⟩
 by_cases gv : g.valid = true
 rotate_left
 ·have gv' : g.valid = false := by simpa using gv
  unfold frR
  rw [if_neg (fun e => gv e.2)]
  simp -dsimp -implicitDefEqProofs only [g22, c22r0, c22r1, c22r2, c22k3, c22r4, c22r5, c22r6, c22r7, c22r8, c22r9, c22r10, c22k11, c22r12, c22r13, c22r14, c22k15, c22k16, c22r17, c22b18, c22k19, c22r20, c22r21, c22r22, c22k23, c22r24, c22p25, c22r26, c22r27, c22k28, c22q29, c22, go_sem, seval, ↓reduceIte, Tm.av, h1, h2, hv, gv', hb0, w_alloc_agg, w_store_agg (Nat.zero_le _)]
  exact ⟨_, rfl⟩
 have hqt : ∀ H : Heap, S 51 [g.av] H = some (.ret (.func (.func 71) [] [.ptr H.length 0]), H ++ [.box (some 4) (.pv (some 4) g.pv)]) := fun H => by
  refine sem_heap rfl rfl rfl rfl ?_
  simp -dsimp -implicitDefEqProofs only [g51, c51r0, c51r1, c51, go_sem, seval, ↓reduceIte, Tm.av, List.append_assoc, List.cons_append, List.nil_append, get_pre, get_pre0, set_pre, set_pre0, Nat.add_assoc, List.length_append, List.length_cons, List.length_nil, Nat.zero_add]
  simp [AV.refsIn, AV.refsIn.gol]
 have hmk : ∀ (a0 a1 a2 a3 : AObj), wStore none 0 [a0, a1, a2, a3, .map none [], .box none (.pv none .nilmap)] [.ptr 5 0, .map 4] = some (.undef, [a0, a1, a2, a3, .map none [], .box none (.map 4)]) := fun _ _ _ _ => rfl
 have hmf : ∀ (a0 a1 a2 a3 a4 a5 : AObj), wStore none 0 [a0, a1, a2, a3, a4, a5, .box none (.pv none .nilfunc)] [.ptr 6 0, .func (.func 50) [] [.ptr 5 0]] = some (.undef, [a0, a1, a2, a3, a4, a5, .box none (.func (.func 50) [] [.ptr 5 0])]) := fun _ _ _ _ _ _ => rfl
 have hm1 := fun (a0 a1 a2 a3 a6 : AObj) => mark_ok p hv [a0, a1, a2, a3, .map none [], .box none (.map 4), a6] 5 4 [] rfl rfl
 obtain ⟨m0, hm0⟩ : ∃ m0, m0 = marks [] (vads [] p.occ) := ⟨_, rfl⟩
 rw [← hm0] at hm1
 have hB0 : MapB m0 (vads [] p.occ) := by
  have := MapB.marks (m := []) (s := []) (fun _ => rfl) (vads [] p.occ)
  rw [List.nil_append, ← hm0] at this
  exact this
 have hit := qit_ok (free_rnd p g) m0 g gv
 have hBm := qfold_marks _ g rfl m0 _ hB0
 generalize qfold mstep m0 g = m at hit hBm
 have hBm : MapB m (hl p g) := hBm
 simp only [Tm.av, List.set_cons_succ, List.set_cons_zero] at hqt hm1
 simp -dsimp -implicitDefEqProofs only [g22, c22r0, c22r1, c22r2, c22k3, c22r4, c22r5, c22r6, c22r7, c22r8, c22r9, c22r10, c22k11, c22r12, c22r13, c22r14, c22k15, c22k16, c22r17, c22b18, c22k19, c22r20, c22r21, c22r22, c22k23, c22r24, c22p25, c22r26, c22r27, c22k28, c22q29, c22, go_sem, seval, ↓reduceIte, Tm.av, h1, h2, hv, gv, hqt, hmk, hmf, hm1, op_callf, w_alloc_agg]
 refine ⟨_, atop_range rfl rfl (by rw [sem_seq (by rfl)]; exact hit) rfl, ?_⟩
 have hn0 : ∀ H : Heap, wNilsl (some 4) H = some (.sl (some 4) H.length 0 0 0, H ++ [.arr (some 4) [] false]) := fun H => w_nilsl (sh := some 4) (by decide)
 have hvs := pVars_ok g gv
 have hgz := valid_size gv
 have hfe := free_eq p g
 have hfl := free_len p g
 have hal := vads_len g.occ []
 have hol := g.occ_len
 have hrg : ∀ v ∈ vads [] g.occ, 0 ≤ v ∧ v ≤ 1099511627776 := fun v hvm => occ_rng (valid_fits gv) v (by simpa using (vads_mem g.occ [] v).1 hvm)
 rw [List.length_nil, Nat.zero_add] at hal
 simp only [Tm.av] at hvs
 generalize vads [] g.occ = a at *
 obtain ⟨F, hF⟩ : ∃ F : Nat → List Int, F = fun i => (a.take i).filter (fun v => decide (v ∉ hl p g)) := ⟨_, rfl⟩
 have hFa : F a.length = free p g := by rw [hF, ← hfe]; simp only [List.take_length]
 have hFl : ∀ i, (F i).length ≤ a.length := fun i => by
  rw [hF]
  exact Nat.le_trans (List.length_filter_le _ _) (by rw [List.length_take]; omega)
 have hF0 : F 0 = [] := by rw [hF]; rfl
 simp -dsimp -implicitDefEqProofs only [g22, c22r0, c22r1, c22r2, c22k3, c22r4, c22r5, c22r6, c22r7, c22r8, c22r9, c22r10, c22k11, c22r12, c22r13, c22r14, c22k15, c22k16, c22r17, c22b18, c22k19, c22r20, c22r21, c22r22, c22k23, c22r24, c22p25, c22r26, c22r27, c22k28, c22q29, c22, go_sem, seval, ↓reduceIte, hc21, List.take_succ_cons, hn0, hvs, ints_len]
 refine W_for (α := Unit) a.length (fun _ _ => True) (fun i _ => ⟨[(4, .ptr 2 0), (5, .ptr 5 0), (8, .sl (some 4) 8 (F i).length 0 (F i).length), (33, .pv none (.sl none (ints a))), (34, .pv none (.int .i64 a.length)), (35, .pv none (.int .i64 i))],
  [.box (some 4) (.pv (some 4) p.pv), .box (some 4) (.pv (some 4) g.pv), .box (some 4) (zg 3), .arr (some 4) [] false, .map none (kEnts m), .box none (.map 4), .box none (.func (.func 50) [] [.ptr 5 0]), .box (some 4) (.pv (some 4) (inner g).pv), .arr (some 4) (Tm.pvs (tvs (F i))) false]⟩) () ⟨trivial, ?_⟩ ?_ ?_
 ·rw [hF0]
  rfl
 ·rintro i - hi -
  have hc : (i : Int) < (a.length : Int) := by omega
  obtain ⟨x, hx⟩ : ∃ x, a[i]? = some x := ⟨_, List.getElem?_eq_getElem hi⟩
  have w2 : IntKind.i64.wrap ((i : Int) + 1) = ((i + 1 : Nat) : Int) := by rw [wrap64 (by omega) (by omega)]; omega
  have hlk : ∀ (a0 a1 a2 a3 a5 : AObj) (e : Heap), rLookup false none (.pv none (.bool false)) false (a0 :: a1 :: a2 :: a3 :: .map none (kEnts m) :: a5 :: e) [.map 4, .pv none (.int .i64 x)] = some (.pv none (.bool (decide (x ∈ hl p g)))) := fun a0 a1 a2 a3 a5 e => by
   rw [look_m (m := m) rfl, hBm x]
  have htk : F (i + 1) = F i ++ (if x ∈ hl p g then [] else [x]) := by
   rw [hF]
   simp only
   rw [take_snoc hx, List.filter_append]
   congr 1
   by_cases e : x ∈ hl p g <;> simp [e]
  by_cases hm : x ∈ hl p g
  ·have hd : decide (x ∈ hl p g) = true := by simp [hm]
   rw [hd] at hlk
   rw [if_pos hm, List.append_nil] at htk
   simp -dsimp -implicitDefEqProofs only [g22, c22r0, c22r1, c22r2, c22k3, c22r4, c22r5, c22r6, c22r7, c22r8, c22r9, c22r10, c22k11, c22r12, c22r13, c22r14, c22k15, c22k16, c22r17, c22b18, c22k19, c22r20, c22r21, c22r22, c22k23, c22r24, c22p25, c22r26, c22r27, c22k28, c22q29, c22, go_sem, seval, ↓reduceIte, zg, hc, s_iaddr_pv (ints_get hx), hlk, w2]
   exact ⟨(), by rw [htk]; rfl⟩
  ·have hd : decide (x ∈ hl p g) = false := by simp [hm]
   rw [hd] at hlk
   rw [if_neg hm] at htk
   have hvr := pVar_ok x (hrg x (List.mem_of_getElem? hx))
   simp only [Tm.av] at hvr
   have hlen : (Tm.pvs (tvs (F i))).length = (F i).length := by rw [Tm.pvs_len]; simp [tvs]
   have hlim : (F i).length + 1 ≤ lim := by have := hFl i; unfold lim; omega
   have hpv : Tm.pvs (tvs (F i)) ++ [(tvar x).pv] = Tm.pvs (tvs (F (i + 1))) := by rw [htk]; simp [tvs, Tm.pvs_append]; rfl
   have hl1 : (F i).length + 1 = (F (i + 1)).length := by rw [htk]; simp
   generalize (tvar x).pv = X at hvr hpv
   simp -dsimp -implicitDefEqProofs only [g22, c22r0, c22r1, c22r2, c22k3, c22r4, c22r5, c22r6, c22r7, c22r8, c22r9, c22r10, c22k11, c22r12, c22r13, c22r14, c22k15, c22k16, c22r17, c22b18, c22k19, c22r20, c22r21, c22r22, c22k23, c22r24, c22p25, c22r26, c22r27, c22k28, c22q29, c22, go_sem, seval, ↓reduceIte, zg, hc, s_iaddr_pv (ints_get hx), hlk, hvr, hlen, hlim, hpv, w2]
   rw [hl1]
   exact ⟨(), rfl⟩
 ·rintro - -
  have hc : ¬ (a.length : Int) < (a.length : Int) := by omega
  have hsz := lst_size (free p g)
  have hli : ∀ (H : Heap), H[8]? = some (.arr (some 4) (Tm.pvs (tvs (free p g))) false) → S 28 [.sl (some 4) 8 (free p g).length 0 (free p g).length] H = some (.ret (lst (tvs (free p g))).av, H.set 8 (.arr (some 4) (Tm.pvs (tvs (free p g))) true)) := fun H hH => by
   have h := sem_any (F := find tab) (prim := prim) (f := 28) (args := [.sl (some 4) 8 (free p g).length 0 (free p g).length]) (ps := [(none, .sl (some 4) (Tm.pvs (tvs (free p g))))]) (hp := H) (hp1 := H.set 8 (.arr (some 4) (Tm.pvs (tvs (free p g))) true)) rfl rfl rfl (by simp [freezeAll, AV.freeze, deep, hH, Tm.pvs_len, tvs, AV.shp]) (plist_ok (tvs (free p g)) (by simp [tvs]; omega) [])
   have hs : ∀ t : Tm, t.av.scalar = false := fun t => by cases t; rfl
   rw [hs] at h
   exact h
  have hli1 := fun (a0 a1 a2 a3 a4 a5 a6 a7 : AObj) => hli [a0, a1, a2, a3, a4, a5, a6, a7, .arr (some 4) (Tm.pvs (tvs (free p g))) false] rfl
  have h5 := fun hp => valid_ok (lst (tvs (free p g))) hp (by omega)
  simp only [Tm.av, List.set_cons_succ, List.set_cons_zero] at hli1 h5
  unfold frR
  rw [if_pos ⟨hv, gv⟩, hFa]
  by_cases wv : (lst (tvs (free p g))).valid = true
  ·rw [if_pos wv]
   simp -dsimp -implicitDefEqProofs only [g22, c22r0, c22r1, c22r2, c22k3, c22r4, c22r5, c22r6, c22r7, c22r8, c22r9, c22r10, c22k11, c22r12, c22r13, c22r14, c22k15, c22k16, c22r17, c22b18, c22k19, c22r20, c22r21, c22r22, c22k23, c22r24, c22p25, c22r26, c22r27, c22k28, c22q29, c22, go_sem, seval, ↓reduceIte, Tm.av, zg, hc, hli1, h5, wv, w_alloc_agg]
   try rfl
  ·have wv' : (lst (tvs (free p g))).valid = false := by simpa using wv
   rw [if_neg wv]
   simp -dsimp -implicitDefEqProofs only [g22, c22r0, c22r1, c22r2, c22k3, c22r4, c22r5, c22r6, c22r7, c22r8, c22r9, c22r10, c22k11, c22r12, c22r13, c22r14, c22k15, c22k16, c22r17, c22b18, c22k19, c22r20, c22r21, c22r22, c22k23, c22r24, c22p25, c22r26, c22r27, c22k28, c22q29, c22, go_sem, seval, ↓reduceIte, Tm.av, zg, hc, hli1, h5, wv', hb0, w_alloc_agg, w_store_agg (Nat.zero_le _)]
   exact ⟨_, rfl⟩
end Go.Proofs.Ytffecaafklpmhaa
