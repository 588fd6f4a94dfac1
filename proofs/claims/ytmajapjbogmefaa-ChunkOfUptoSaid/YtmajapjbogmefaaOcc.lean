/- What is proved: chunk.occurrences calls back for all occurrences, in order. -/
import Derived.Test.YtmajapjbogmefaaWalk
import Derived.Test.YtmajapjbogmefaaAm4
set_option linter.unusedSimpArgs false
set_option linter.unusedVariables false
namespace Go.Proofs.Ytmajapjbogmefaa
open Go.Am
structure Rnd (H : List (Int × Int) → Heap) (n0 r : Nat) (f : FuncId) : Prop where
  len : ∀ s, (H s).length = n0
  lt : r < n0
  fn : ∀ s, loopFn (H s)[r]? = some f
  call : ∀ (s : List (Int × Int)) (v c : Int) (ext : Heap), s.length < LIM → sem (find tab) prim .rnd f [.yield r, .pv (some 2) (placeP c v)] (H s ++ ext) = some (.ret (.pv none (.bool true)), H (s ++ [(v, c)]) ++ ext)
variable {H : List (Int × Int) → Heap} {n0 r : Nat} {f : FuncId}
theorem Rnd.low (R : Rnd H n0 r f) (s : List (Int × Int)) (ext : Heap) : loopFn (H s ++ ext)[r]? = some f := by
  rw [get_app (by rw [R.len]; exact R.lt)]
  exact R.fn s
def two (H : List (Int × Int) → Heap) (r : Nat) (c : Int) (s : List (Int × Int)) : Heap := H s ++ [.box none (.yield r), .box none (.pv none (.int .i64 c))]
theorem two_len (R : Rnd H n0 r f) (c : Int) (s : List (Int × Int)) : (two H r c s).length = n0 + 2 := by simp [two, R.len]
theorem occBuild : ∀ v c : Int, sBuild [(none, .pv none (.int .i64 0)), (none, .pv none (.int .i64 0))] [0, 1] [.pv none (.int .i64 v), .pv none (.int .i64 c)] = some (.pv (some 2) (placeP c v)) := fun _ _ => rfl
theorem occ42 (R : Rnd H n0 r f) (c : Int) : Back (two H r c) (n0 + 2) c (.func (.func 42) [] [.ptr n0 0, .ptr (n0 + 1) 0]) where
  len := two_len R c
  refs q hq := by simp [AV.refsIn, AV.refsIn.gol] at hq; omega
  call s v ext hlim := by
    refine ⟨_, _, _, rfl, ?_⟩
    refine sem_heap rfl rfl rfl rfl ?_
    have h1 := fun ext => R.call s v c ext hlim
    have hL : (two H r c s ++ ext).length = n0 + 2 + ext.length := by simp [two_len R]
    simp -dsimp -implicitDefEqProofs only [g42, c42r0, c42r1, c42, go_sem, seval, ↓reduceIte, two, List.append_assoc, List.cons_append, List.nil_append, Nat.add_assoc, List.length_append, List.length_cons, List.length_nil, Nat.zero_add, getN (R.len _), getN0 (R.len _), occBuild, op_yield, R.low, h1]
    simp [AV.refsIn, R.len]
    rw [show n0 + (ext.length + 1 + 1) = (H (s ++ [(v, c)]) ++ .box none (.yield r) :: .box none (.pv none (.int .i64 c)) :: ext).length by simp [R.len], List.take_length]

theorem each_ok (R : Rnd H n0 r f) (c : Int) (l : List Tm) (s : List (Int × Int)) (ext : Heap) (hl : Tm.sizes l < 1000000000) (hlim : s.length + (Tm.occs l).length ≤ LIM) :
    S 40 [.pv none (.sl (some 4) (Tm.pvs l)), .ptr n0 0, .ptr (n0 + 1) 0] (two H r c s ++ ext) = some (.ret (.pv none (.bool true)), two H r c (s ++ (Tm.occs l).map (fun v => (v, c))) ++ ext) := by
  have hlen := Tm.sizes_len l
  obtain ⟨G, hG⟩ : ∃ G : List (Int × Int) → Heap, G = fun s => two H r c s ++ ext := ⟨_, rfl⟩
  have hGs : ∀ s, two H r c s ++ ext = G s := fun s => by rw [hG]
  have hGl : ∀ s, (G s).length = n0 + 2 + ext.length := fun s => by rw [← hGs]; simp [two_len R]
  obtain ⟨N, hN⟩ : ∃ N, N = n0 + 2 + ext.length := ⟨_, rfl⟩
  rw [← hN] at hGl
  have hw : ∀ (t : Tm) (s : List (Int × Int)) (e2 : Heap), t.size < 1000000000 → s.length + t.occ.length ≤ LIM → S 41 [.pv (some 4) t.pv, .func (.func 42) [] [.ptr n0 0, .ptr (n0 + 1) 0]] (G s ++ e2) = some (.ret (.pv none (.bool true)), G (s ++ t.occ.map (fun v => (v, c))) ++ e2) := fun t s e2 h hlm => by
    have := walk_ok (occ42 R c) t s (ext ++ e2) h hlm
    rw [← List.append_assoc, ← List.append_assoc, hGs, hGs] at this
    exact this
  rw [hGs, hGs]
  refine sem_heap rfl rfl rfl rfl ?_
  simp -dsimp -implicitDefEqProofs only [g40, c40r0, c40r1, c40r2, c40k3, c40r4, c40r5, c40r6, c40k7, c40k8, c40r9, c40b10, c40k11, c40r12, c40, go_sem, seval, ↓reduceIte, Tm.pvs_len]
  refine W_loop (fun n st => ∃ i : Nat, n = l.length - i ∧ i ≤ l.length ∧ st = ⟨[(1, .ptr n0 0), (2, .ptr (n0 + 1) 0), (7, .pv none (.sl (some 4) (Tm.pvs l))), (8, .pv none (.int .i64 l.length)), (9, .pv none (.int .i64 i))], G (s ++ (Tm.occs (l.take i)).map (fun v => (v, c)))⟩) (n := l.length) ⟨0, rfl, Nat.zero_le _, (by simp only [List.take_zero, Tm.occs, List.map_nil, List.append_nil]; rfl)⟩ ?_
  rintro n st ⟨i, hn, hi, rfl⟩
  by_cases h : i < l.length
  · have hc : (i : Int) < (l.length : Int) := by omega
    obtain ⟨u, hu⟩ : ∃ u, l[i]? = some u := ⟨_, List.getElem?_eq_getElem h⟩
    have hum := List.mem_of_getElem? hu
    have husz := Tm.sizes_mem hum
    have hot := Tm.occs_take hu
    have hol : (Tm.occs (l.take (i + 1))).length ≤ (Tm.occs l).length := by
      have h5 : Tm.occs l = Tm.occs (l.take (i + 1)) ++ Tm.occs (l.drop (i + 1)) := by rw [← Tm.occs_append, List.take_append_drop]
      rw [h5, List.length_append]
      omega
    have hcall := fun e2 => hw u (s ++ (Tm.occs (l.take i)).map (fun v => (v, c))) e2 (by omega) (by rw [hot] at hol; simp at hol ⊢; omega)
    have w2 : IntKind.i64.wrap ((i : Int) + 1) = ((i + 1 : Nat) : Int) := by rw [wrap64 (by omega) (by omega)]; omega
    simp -dsimp -implicitDefEqProofs only [g40, c40r0, c40r1, c40r2, c40k3, c40r4, c40r5, c40r6, c40k7, c40k8, c40r9, c40b10, c40k11, c40r12, c40, go_sem, seval, ↓reduceIte, hc, s_iaddr_pv (Tm.pvs_get hu), List.append_assoc, List.cons_append, List.nil_append, Nat.add_assoc, List.length_append, List.length_cons, List.length_nil, Nat.zero_add, hGl, getN (hGl _), getN0 (hGl _), setN (hGl _), setN0 (hGl _), hcall, w2]
    refine ⟨l.length - (i + 1), by omega, i + 1, rfl, by omega, ?_⟩
    rw [collect_pre0 (hGl _) (by simp [AV.refsIn, hN]; omega), hot, List.map_append]
  · have hc : ¬ (i : Int) < (l.length : Int) := by omega
    obtain rfl : i = l.length := by omega
    simp -dsimp -implicitDefEqProofs only [g40, c40r0, c40r1, c40r2, c40k3, c40r4, c40r5, c40r6, c40k7, c40k8, c40r9, c40b10, c40k11, c40r12, c40, go_sem, seval, ↓reduceIte, hc]
    rw [List.take_length]
    simp [AV.refsIn, hGl]
    rw [← hGl (s ++ (Tm.occs l).map (fun v => (v, c))), List.take_length]

theorem operates_ok (g : Gl) (hp : Heap) : S 43 [.pv (some 6) g.pv] hp = some (.ret (.pv none (.bool g.op)), hp) := by
  refine sem_pure rfl rfl rfl (freezeAll_pvs [(some 6, g.pv)]) rfl ?_
  have hop : g.op = (decide (g.kind = 2) || decide (g.kind = 3) || decide (g.kind = 4)) := rfl
  rcases (by omega : g.kind = 2 ∨ g.kind = 3 ∨ g.kind = 4 ∨ (g.kind ≠ 2 ∧ g.kind ≠ 3 ∧ g.kind ≠ 4)) with q | q | q | ⟨q2, q3, q4⟩
  · rw [show g.op = true by simp [hop, q]]
    (repeat' (first | (simp -dsimp -implicitDefEqProofs only [g43, c43r0, c43r1, c43, go_sem, seval, ↓reduceIte, gl_kind, *]) | (refine iteK_intro (fun _ => ?_) (fun _ => ?_))))
  · rw [show g.op = true by simp [hop, q]]
    (repeat' (first | (simp -dsimp -implicitDefEqProofs only [g43, c43r0, c43r1, c43, go_sem, seval, ↓reduceIte, gl_kind, *]) | (refine iteK_intro (fun _ => ?_) (fun _ => ?_))))
  · rw [show g.op = true by simp [hop, q]]
    (repeat' (first | (simp -dsimp -implicitDefEqProofs only [g43, c43r0, c43r1, c43, go_sem, seval, ↓reduceIte, gl_kind, *]) | (refine iteK_intro (fun _ => ?_) (fun _ => ?_))))
  · rw [show g.op = false by simp [hop, q2, q3, q4]]
    (repeat' (first | (simp -dsimp -implicitDefEqProofs only [g43, c43r0, c43r1, c43, go_sem, seval, ↓reduceIte, gl_kind, *]) | (refine iteK_intro (fun _ => ?_) (fun _ => ?_))))
theorem each_ok' (R : Rnd H n0 r f) (c : Int) (l : List Tm) (s : List (Int × Int)) (ext : Heap) (hl : Tm.sizes l < 1000000000) (hlim : s.length + (Tm.occs l).length ≤ LIM) :
    S 40 [.pv none (.sl (some 4) (Tm.pvs l)), .ptr n0 0, .ptr (n0 + 1) 0] (H s ++ .box none (.yield r) :: .box none (.pv none (.int .i64 c)) :: ext) = some (.ret (.pv none (.bool true)), H (s ++ (Tm.occs l).map (fun v => (v, c))) ++ .box none (.yield r) :: .box none (.pv none (.int .i64 c)) :: ext) := by
  have := each_ok R c l s ext hl hlim
  simpa [two] using this
theorem plcsP_drop {c : Int} {l : List Gl} {i : Nat} {g : Gl} (h : l[i]? = some g) : plcsP c (l.drop i) = hereP c g ++ plcsP (g.next c) (l.drop (i + 1)) := by
  obtain ⟨h1, rfl⟩ := List.getElem?_eq_some_iff.1 h
  rw [List.drop_eq_getElem_cons h1, plcsP]
theorem occs_ok (R : Rnd H n0 r f) (x : Fl) (s : List (Int × Int)) (fb : Nat) (hfb : fb < n0) (hx : ∀ s, (H s)[fb]? = some (.box (some 5) (.pv (some 5) x.pv))) (ha : Tm.sizes x.args < 1000000000) (hs : ∀ g ∈ x.goals, Tm.sizes g.args < 1000000000) (hlen : x.goals.length < 1000000000) (hlim : s.length + (placesP x).length ≤ LIM) :
    S 39 [.yield r, .ptr fb 0] (H s) = some (.ret (.tuple []), H (s ++ placesP x)) := by
  refine sem_heap rfl rfl rfl rfl ?_
  have hlow : ∀ s ext, (H s ++ ext)[fb]? = some (.box (some 5) (.pv (some 5) x.pv)) := fun s ext => by rw [get_app (by rw [R.len]; exact hfb)]; exact hx s
  have hpl : (placesP x).length = (Tm.occs x.args).length + (plcsP 0 x.goals).length := by simp [placesP]
  have h1 := fun ext => each_ok' R 0 x.args s ext ha (by omega)
  simp -dsimp -implicitDefEqProofs only [g39, c39r0, c39r1, c39r2, c39r3, c39k4, c39r5, c39r6, c39k7, c39r8, c39r9, c39k10, c39r11, c39r12, c39k13, c39k14, c39r15, c39b16, c39k17, c39, go_sem, seval, ↓reduceIte, List.append_assoc, List.cons_append, List.nil_append, Nat.add_assoc, List.length_append, List.length_cons, List.length_nil, Nat.zero_add, R.len, getN (R.len _), getN0 (R.len _), setN (R.len _), setN0 (R.len _), hlow, hx, fl_args, fl_goals, Gl.pvs_len, h1, w_box_yield]
  refine W_for (α := Int × List (Int × Int)) x.goals.length (fun i a => 0 ≤ a.1 ∧ a.1 ≤ i ∧ s ++ placesP x = a.2 ++ plcsP a.1 (x.goals.drop i))
    (fun i a => ⟨[(2, .ptr n0 0), (3, .ptr (n0 + 1) 0), (4, .func (.func 40) [] [.ptr n0 0, .ptr (n0 + 1) 0]), (14, .pv none (.sl (some 6) (Gl.pvs x.goals))), (15, .pv none (.int .i64 x.goals.length)), (16, .pv none (.int .i64 i))],
      H a.2 ++ .box none (.yield r) :: .box none (.pv none (.int .i64 a.1)) :: []⟩) (0, _) ⟨⟨Int.le_refl _, Int.le_refl _, ?_⟩, rfl⟩ ?_ ?_
  · simp [placesP]
  · rintro i ⟨c, s'⟩ h ⟨hc0, hci, hfold⟩
    have hc : (i : Int) < (x.goals.length : Int) := by omega
    obtain ⟨g, hg⟩ : ∃ g, x.goals[i]? = some g := ⟨_, List.getElem?_eq_getElem h⟩
    have hgs := hs g (List.mem_of_getElem? hg)
    have hfl := congrArg List.length hfold
    simp only [List.length_append, plcsP_drop hg] at hfl
    have hherl : (hereP c g).length = (Tm.occs g.args).length + (if g.op = true then 1 else 0) := by unfold hereP; split <;> simp
    have h2 := fun ext => each_ok' R c g.args s' ext hgs (by omega)
    have h3 := operates_ok g
    have h4 := fun ext => R.call (s' ++ (Tm.occs g.args).map (fun v => (v, c))) g.var c ext
    have w2 : IntKind.i64.wrap ((i : Int) + 1) = ((i + 1 : Nat) : Int) := by rw [wrap64 (by omega) (by omega)]; omega
    have w3 : IntKind.i64.wrap (c + 1) = c + 1 := by rw [wrap64 (by omega) (by omega)]
    rw [plcsP_drop hg, ← List.append_assoc] at hfold
    have hcl : ∀ (l : Fr) (s1 : List (Int × Int)) (y z : AObj) (e : Heap), l.all (fun x => x.2.refsIn.all (fun q => decide (q < n0 + 2))) = true → y.refs.all (fun q => decide (q < n0 + 2)) = true → z.refs.all (fun q => decide (q < n0 + 2)) = true → collect (n0 + 2) n0 l (H s1 ++ y :: z :: e) = H s1 ++ [y, z] := fun l s1 y z e h h' h'' =>
      collect_pre 2 (R.len _) rfl (by simp [h', h'']) h
    by_cases hop : g.op = true <;> by_cases hk : g.kind = 1
    all_goals
      have hher : hereP c g = (Tm.occs g.args).map (fun v => (v, c)) ++ (if g.op = true then [(g.var, c)] else []) := rfl
      have hnx : g.next c = if g.kind = 1 then c + 1 else c := rfl
      simp only [hop, hk, if_true, if_false, List.append_nil, Bool.false_eq_true] at hher hnx hherl
      rw [hher, hnx] at hfold
      first | (have h4 := fun ext => h4 ext (by simp; omega)) | skip
      simp only [List.append_assoc] at h4 hfold
      have hrl := R.lt
      simp -dsimp -implicitDefEqProofs only [g39, c39r0, c39r1, c39r2, c39r3, c39k4, c39r5, c39r6, c39k7, c39r8, c39r9, c39k10, c39r11, c39r12, c39k13, c39k14, c39r15, c39b16, c39k17, c39, go_sem, seval, ↓reduceIte, List.append_assoc, List.cons_append, List.nil_append, Nat.add_assoc, List.length_append, List.length_cons, List.length_nil, Nat.zero_add, R.len, getN (R.len _), getN0 (R.len _), setN (R.len _), setN0 (R.len _), hc, s_iaddr_pv (Gl.pvs_get hg), gl_args, gl_var, gl_kind, h2, h3, hop, hk, occBuild, op_yield, R.low, h4, w2, w3]
      rw [hcl _ _ _ _ _ (by simp [AV.refsIn, AV.refsIn.gol]) (by simp [AObj.refs, AV.refsIn]; omega) (by simp [AObj.refs, AV.refsIn])]
      exact ⟨(_, _), ⟨by dsimp only; omega, by dsimp only; omega, by rw [hfold]; simp only [List.append_assoc]⟩, rfl⟩
  · rintro ⟨c, s'⟩ ⟨hc0, hci, hfold⟩
    have hc : ¬ (x.goals.length : Int) < (x.goals.length : Int) := by omega
    simp -dsimp -implicitDefEqProofs only [g39, c39r0, c39r1, c39r2, c39r3, c39k4, c39r5, c39r6, c39k7, c39r8, c39r9, c39k10, c39r11, c39r12, c39k13, c39k14, c39r15, c39b16, c39k17, c39, go_sem, seval, ↓reduceIte, hc]
    rw [List.drop_length, plcsP, List.append_nil] at hfold
    rw [hfold]
    simp [R.len, resultOf, takeN0 (R.len _)]
theorem part_place0 (c v : Int) : PV.part deep (placeP c v) 0 none = some (.int .i64 v) := rfl
theorem part_place1 (c v : Int) : PV.part deep (placeP c v) 1 none = some (.int .i64 c) := rfl
theorem occ24_ok (x : Fl) (hp : Heap) : S 24 [.pv (some 5) x.pv] hp = some (.ret (.func (.func 39) [] [.ptr hp.length 0]), hp ++ [.box (some 5) (.pv (some 5) x.pv)]) := by
  refine sem_heap rfl rfl rfl rfl ?_
  simp -dsimp -implicitDefEqProofs only [g24, c24r0, c24r1, c24, go_sem, seval, ↓reduceIte]
  simp [AV.refsIn, AV.refsIn.gol, resultOf, resultAt]
end Go.Proofs.Ytmajapjbogmefaa
