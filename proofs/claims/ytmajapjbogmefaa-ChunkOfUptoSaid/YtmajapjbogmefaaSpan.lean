/- What is proved: the statements' own search for a variable's span. -/
import Derived.Test.YtmajapjbogmefaaPlain
set_option linter.unusedSimpArgs false
set_option linter.unusedVariables false
namespace Go.Proofs.Ytmajapjbogmefaa
open Go.Am
mutual
def occv (v : Int) : Tm → Bool
  | .mk k n _ l => (decide (k = 0) && decide (n = v)) || occvs v l
def occvs (v : Int) : List Tm → Bool
  | [] => false
  | t :: r => occv v t || occvs v r
end
theorem occv_eq (v : Int) (t : Tm) : occv v t = ((decide (t.kind = 0) && decide (t.n = v)) || occvs v t.args) := by cases t; rfl
theorem occvs_drop {v : Int} {l : List Tm} {i : Nat} {t : Tm} (h : l[i]? = some t) : occvs v (l.drop i) = (occv v t || occvs v (l.drop (i + 1))) := by
  obtain ⟨h1, rfl⟩ := List.getElem?_eq_some_iff.1 h
  rw [List.drop_eq_getElem_cons h1, occvs]
theorem occurs_ok (v : Int) : ∀ (m : Nat) (l : List Tm) (hp : Heap), Tm.sizes l < m → m < 1000000000 → S 34 [.pv none (.sl (some 4) (Tm.pvs l)), .pv none (.int .i64 v)] hp = some (.ret (.pv none (.bool (occvs v l))), hp) := by
  intro m
  induction m with
  | zero => intro l hp hl; omega
  | succ m ih =>
    intro l hp hl hm
    have hlen := Tm.sizes_len l
    refine sem_pure rfl rfl rfl (freezeAll_pvs [(none, .sl (some 4) (Tm.pvs l)), (none, .int .i64 v)]) rfl ?_
    simp -dsimp -implicitDefEqProofs only [g34, c34r0, c34r1, c34r2, c34k3, c34r4, c34r5, c34k6, c34k7, c34r8, c34b9, c34k10, c34r11, c34, go_sem, seval, ↓reduceIte]
    refine W_for (α := Unit) l.length (fun i _ => occvs v l = occvs v (l.drop i)) (fun i _ => ⟨[(0, .pv none (.sl (some 4) (Tm.pvs l))), (1, .pv none (.int .i64 v)), (5, .pv none (.int .i64 i))], []⟩) () ⟨rfl, rfl⟩ ?_ ?_
    · rintro i _ h hI
      have hc : (i : Int) < (l.length : Int) := by omega
      obtain ⟨u, hu⟩ : ∃ u, l[i]? = some u := ⟨_, List.getElem?_eq_getElem h⟩
      have hum := List.mem_of_getElem? hu
      have husz := Tm.sizes_mem hum
      have hus := u.size_eq
      have hcall := fun hp => ih u.args hp (by omega) (by omega)
      have w2 : IntKind.i64.wrap ((i : Int) + 1) = ((i + 1 : Nat) : Int) := by rw [wrap64 (by omega) (by omega)]; omega
      rw [occvs_drop hu] at hI
      have he := occv_eq v u
      by_cases hk : u.kind = 0
      · by_cases hn : u.n = v
        · rw [show occv v u = true by rw [he]; simp [hk, hn]] at hI
          simp -dsimp -implicitDefEqProofs only [g34, c34r0, c34r1, c34r2, c34k3, c34r4, c34r5, c34k6, c34k7, c34r8, c34b9, c34k10, c34r11, c34, go_sem, seval, ↓reduceIte, Tm.pvs_len, hc, s_iaddr_pv (Tm.pvs_get hu), part_kind, part_n, part_args, hk, hn]
          rw [hI]; rfl
        · rw [show occv v u = occvs v u.args by rw [he]; simp [hn]] at hI
          cases ha : occvs v u.args with
          | true =>
            rw [ha] at hI hcall
            simp -dsimp -implicitDefEqProofs only [g34, c34r0, c34r1, c34r2, c34k3, c34r4, c34r5, c34k6, c34k7, c34r8, c34b9, c34k10, c34r11, c34, go_sem, seval, ↓reduceIte, Tm.pvs_len, hc, s_iaddr_pv (Tm.pvs_get hu), part_kind, part_n, part_args, hk, hn, hcall]
            rw [hI]; rfl
          | false =>
            rw [ha] at hI hcall
            simp -dsimp -implicitDefEqProofs only [g34, c34r0, c34r1, c34r2, c34k3, c34r4, c34r5, c34k6, c34k7, c34r8, c34b9, c34k10, c34r11, c34, go_sem, seval, ↓reduceIte, Tm.pvs_len, hc, s_iaddr_pv (Tm.pvs_get hu), part_kind, part_n, part_args, hk, hn, hcall, w2]
            rw [hI]; exact ⟨(), rfl⟩
      · rw [show occv v u = occvs v u.args by rw [he]; simp [hk]] at hI
        cases ha : occvs v u.args with
        | true =>
          rw [ha] at hI hcall
          simp -dsimp -implicitDefEqProofs only [g34, c34r0, c34r1, c34r2, c34k3, c34r4, c34r5, c34k6, c34k7, c34r8, c34b9, c34k10, c34r11, c34, go_sem, seval, ↓reduceIte, Tm.pvs_len, hc, s_iaddr_pv (Tm.pvs_get hu), part_kind, part_n, part_args, hk, hcall]
          rw [hI]; rfl
        | false =>
          rw [ha] at hI hcall
          simp -dsimp -implicitDefEqProofs only [g34, c34r0, c34r1, c34r2, c34k3, c34r4, c34r5, c34k6, c34k7, c34r8, c34b9, c34k10, c34r11, c34, go_sem, seval, ↓reduceIte, Tm.pvs_len, hc, s_iaddr_pv (Tm.pvs_get hu), part_kind, part_n, part_args, hk, hcall, w2]
          rw [hI]; exact ⟨(), rfl⟩
    · rintro _ hI
      have hc : ¬ (l.length : Int) < (l.length : Int) := by omega
      simp -dsimp -implicitDefEqProofs only [g34, c34r0, c34r1, c34r2, c34k3, c34r4, c34r5, c34k6, c34k7, c34r8, c34b9, c34k10, c34r11, c34, go_sem, seval, ↓reduceIte, Tm.pvs_len, hc]
      rw [hI, List.drop_length]; rfl
theorem occv_occ (v : Int) : ∀ t : Tm, t.fits = true → occv v t = t.occ.contains v := by
  intro t
  induction t using Tm.induct with
  | h t ih =>
    intro hf
    have lists : ∀ l : List Tm, (∀ u ∈ l, u.fits = true → occv v u = u.occ.contains v) → (∀ u ∈ l, u.fits = true) → occvs v l = (Tm.occs l).contains v := by
      intro l
      induction l with
      | nil => intro _ _; rfl
      | cons x r ihl =>
        intro h1 h2
        simp only [occvs, Tm.occs]
        rw [h1 x (by simp) (h2 x (by simp)), ihl (fun u hu => h1 u (by simp [hu])) (fun u hu => h2 u (by simp [hu]))]
        simp
    rw [occv_eq, Tm.occ_eq, lists t.args ih (fun u hu => Tm.fits_arg hf hu)]
    rcases Tm.fits_cases hf with ⟨hk, _, ha⟩ | ⟨hk, _, ha⟩ | ⟨hk, _, ha⟩ | ⟨hk, _⟩
    · simp [hk, ha, Tm.occs, eq_comm]
    all_goals simp [hk]
theorem occvs_occ (v : Int) (l : List Tm) (h : ∀ u ∈ l, u.fits = true) : occvs v l = (Tm.occs l).contains v := by
  induction l with
  | nil => rfl
  | cons x r ih =>
    simp only [occvs, Tm.occs]
    rw [occv_occ v x (h x (by simp)), ih (fun u hu => h u (by simp [hu]))]
    simp
theorem mem_any (v : Int) (L : List Int) : (L.any fun x => decide (x = v)) = L.contains v := by
  rw [Bool.eq_iff_iff]
  simp
def touches (v : Int) (g : Gl) : Bool := occvs v g.args || (g.op && decide (g.var = v))
theorem updS_idem (s : Int × Int) {c : Int} (h : 0 ≤ c) : updS (updS s c) c = updS s c := by
  unfold updS
  dsimp only
  split <;> split <;> first | rfl | (congr 1 <;> split <;> omega)
theorem stepS_all (v c : Int) (h : 0 ≤ c) : ∀ (l : List (Int × Int)) (s : Int × Int), (∀ p ∈ l, p.2 = c) → l.foldl (stepS v) s = if (l.any fun p => decide (p.1 = v)) = true then updS s c else s
  | [], s, _ => rfl
  | p :: r, s, hp => by
    have hpc := hp p (by simp)
    have ih := stepS_all v c h r (stepS v s p) fun q hq => hp q (by simp [hq])
    rw [List.foldl_cons, ih]
    by_cases e : p.1 = v
    · have : stepS v s p = updS s c := by simp [stepS, e, hpc]
      rw [this]
      simp only [List.any_cons, decide_eq_true e, Bool.true_or, if_true]
      split
      · exact updS_idem s h
      · rfl
    · have : stepS v s p = s := by simp [stepS, e]
      rw [this]
      simp only [List.any_cons, decide_eq_false e, Bool.false_or]
theorem hereP_any (v c : Int) (g : Gl) (hf : ∀ u ∈ g.args, u.fits = true) : ((hereP c g).any fun p => decide (p.1 = v)) = touches v g := by
  unfold hereP touches
  rw [occvs_occ v g.args hf, List.any_append]
  congr 1
  · rw [List.any_map]
    exact mem_any v (Tm.occs g.args)
  · cases g.op <;> simp
theorem hereP_all (c : Int) (g : Gl) : ∀ p ∈ hereP c g, p.2 = c := by
  intro p hp
  unfold hereP at hp
  rcases List.mem_append.1 hp with hp | hp
  · obtain ⟨_, _, rfl⟩ := List.mem_map.1 hp; rfl
  · split at hp
    · simp at hp; subst hp; rfl
    · cases hp
def spanG (v : Int) : Int × Int → Int → List Gl → Int × Int
  | s, _, [] => s
  | s, c, g :: r => spanG v (if touches v g = true then updS s c else s) (g.next c) r
theorem spanG_drop {v : Int} {s : Int × Int} {c : Int} {l : List Gl} {i : Nat} {g : Gl} (h : l[i]? = some g) : spanG v s c (l.drop i) = spanG v (if touches v g = true then updS s c else s) (g.next c) (l.drop (i + 1)) := by
  obtain ⟨h1, rfl⟩ := List.getElem?_eq_some_iff.1 h
  rw [List.drop_eq_getElem_cons h1, spanG]
theorem spanG_fold (v : Int) : ∀ (l : List Gl) (s : Int × Int) (c : Int), 0 ≤ c → (∀ g ∈ l, ∀ u ∈ g.args, u.fits = true) → spanG v s c l = (plcsP c l).foldl (stepS v) s
  | [], s, c, _, _ => rfl
  | g :: r, s, c, hc, hf => by
    have hn : 0 ≤ g.next c := by unfold Gl.next; split <;> omega
    rw [spanG, plcsP, List.foldl_append, stepS_all v c hc _ _ (hereP_all c g), hereP_any v c g (hf g (by simp))]
    exact spanG_fold v r _ _ hn fun g' hg' => hf g' (by simp [hg'])
def spanF (v : Int) (f : Fl) : Int × Int := spanG v (if occvs v f.args = true then (0, 0) else (-1, -1)) 0 f.goals
theorem spanF_eq (v : Int) (f : Fl) (ha : ∀ u ∈ f.args, u.fits = true) (hg : ∀ g ∈ f.goals, ∀ u ∈ g.args, u.fits = true) : spanF v f = spanOf v (placesP f) := by
  unfold spanF spanOf placesP
  rw [spanG_fold v _ _ 0 (Int.le_refl _) hg, List.foldl_append]
  congr 1
  rw [stepS_all v 0 (Int.le_refl _) _ _ (fun p hp => by obtain ⟨_, _, rfl⟩ := List.mem_map.1 hp; rfl)]
  have : ((((Tm.occs f.args).map fun w => (w, (0 : Int))).any fun p => decide (p.1 = v)) = occvs v f.args) := by
    rw [occvs_occ v f.args ha, List.any_map]
    exact mem_any v (Tm.occs f.args)
  rw [this]
  rfl
theorem ofsOf_len : ∀ (l : List Gl) (c : Int), (ofsOf c l).length = l.length
  | [], _ => rfl
  | g :: r, c => by simp [ofsOf, ofsOf_len r]
theorem span_loop (f : Fl) (v : Int) (s : Int × Int) (hs : ∀ g ∈ f.goals, Tm.sizes g.args < 100000000) (hlen : f.goals.length < 100000000) (r0 : Fr) (Q : AExit → St → Prop)
    (hQ : ∀ r : Fr, Q .normal ⟨(1, .pv none (.sl none (ints (ofsOf 0 f.goals)))) :: (2, .pv none (.int .i64 v)) :: (3, .ptr 0 0) :: (6, .pv none (.int .i64 (spanG v s 0 f.goals).1)) :: (7, .pv none (.int .i64 (spanG v s 0 f.goals).2)) :: r, [.box (some 5) (.pv (some 5) f.pv)]⟩) :
    W Z L 0 c16k19 ⟨(1, .pv none (.sl none (ints (ofsOf 0 f.goals)))) :: (2, .pv none (.int .i64 v)) :: (3, .ptr 0 0) :: (6, .pv none (.int .i64 s.1)) :: (7, .pv none (.int .i64 s.2)) :: (8, .pv none (.int .i64 0)) :: r0, [.box (some 5) (.pv (some 5) f.pv)]⟩ Q := by
  have hol := ofsOf_len f.goals 0
  simp -dsimp -implicitDefEqProofs only [g16, c16r0, c16r1, c16r2, c16r3, c16k4, c16r5, c16r6, c16k7, c16r8, c16r9, c16r10, c16k11, c16r12, c16r13, c16k14, c16r15, c16k16, c16r17, c16b18, c16k19, c16r20, c16, go_sem, seval, ↓reduceIte]
  refine W_for (α := (Int × Int) × Int) f.goals.length (fun i a => spanG v s 0 f.goals = spanG v a.1 a.2 (f.goals.drop i) ∧ (ofsOf 0 f.goals).drop i = ofsOf a.2 (f.goals.drop i))
    (fun i a => ⟨[(1, .pv none (.sl none (ints (ofsOf 0 f.goals)))), (2, .pv none (.int .i64 v)), (3, .ptr 0 0), (6, .pv none (.int .i64 a.1.1)), (7, .pv none (.int .i64 a.1.2)), (8, .pv none (.int .i64 i))], [.box (some 5) (.pv (some 5) f.pv)]⟩) (s, 0) ⟨⟨rfl, rfl⟩, rfl⟩ ?_ ?_
  · rintro i ⟨⟨s1, s2⟩, c⟩ h ⟨hG, hO⟩
    dsimp only at hG hO
    have hc : (i : Int) < (f.goals.length : Int) := by omega
    obtain ⟨g, hg⟩ : ∃ g, f.goals[i]? = some g := ⟨_, List.getElem?_eq_getElem h⟩
    have hgs := hs g (List.mem_of_getElem? hg)
    have h1 := fun hp => occurs_ok v 100000000 g.args hp hgs (by omega)
    have w2 : IntKind.i64.wrap ((i : Int) + 1) = ((i + 1 : Nat) : Int) := by rw [wrap64 (by omega) (by omega)]; omega
    rw [spanG_drop hg] at hG
    rw [ofsOf_drop hg] at hO
    have hoi : (ofsOf 0 f.goals)[i]? = some c := by
      have := congrArg List.head? hO
      rwa [List.head?_drop, List.head?_cons] at this
    have hix := s_iaddr_pv (s := none) (s' := none) (k := .i64) (sh := none) (ints_get hoi)
    have hO2 : (ofsOf 0 f.goals).drop (i + 1) = ofsOf (g.next c) (f.goals.drop (i + 1)) := by
      rw [← List.drop_drop, hO]; rfl
    have hop : g.op = (decide (g.kind = 2) || decide (g.kind = 3) || decide (g.kind = 4)) := rfl
    have htt : touches v g = (occvs v g.args || (g.op && decide (g.var = v))) := rfl
    have hus : updS (s1, s2) c = (if s1 < 0 then c else s1, if s2 < c then c else s2) := rfl
    have key : ∀ (a b : Int), (a, b) = (if touches v g = true then updS (s1, s2) c else (s1, s2)) → ∃ a' : (Int × Int) × Int, (spanG v s 0 f.goals = spanG v a'.1 a'.2 (f.goals.drop (i + 1)) ∧ (ofsOf 0 f.goals).drop (i + 1) = ofsOf a'.2 (f.goals.drop (i + 1))) ∧
        (⟨[(1, .pv none (.sl none (ints (ofsOf 0 f.goals)))), (2, .pv none (.int .i64 v)), (3, .ptr 0 0), (6, .pv none (.int .i64 a)), (7, .pv none (.int .i64 b)), (8, .pv none (.int .i64 ((i + 1 : Nat) : Int)))], collect 1 0 [(1, .pv none (.sl none (ints (ofsOf 0 f.goals)))), (2, .pv none (.int .i64 v)), (3, .ptr 0 0), (6, .pv none (.int .i64 a)), (7, .pv none (.int .i64 b)), (8, .pv none (.int .i64 ((i + 1 : Nat) : Int)))] [.box (some 5) (.pv (some 5) f.pv), .box (some 6) (.pv (some 6) g.pv), .arr (some 4) [] false]⟩ : St) =
        ⟨[(1, .pv none (.sl none (ints (ofsOf 0 f.goals)))), (2, .pv none (.int .i64 v)), (3, .ptr 0 0), (6, .pv none (.int .i64 a'.1.1)), (7, .pv none (.int .i64 a'.1.2)), (8, .pv none (.int .i64 ((i + 1 : Nat) : Int)))], [.box (some 5) (.pv (some 5) f.pv)]⟩ := fun a b hab => by
      refine ⟨((a, b), g.next c), ⟨by rw [hG, hab], hO2⟩, ?_⟩
      rw [collect_1 _ _ _ (by simp [AV.refsIn]) rfl]
    have hgl := ints_len (ofsOf 0 f.goals)
    rcases (by omega : g.kind = 2 ∨ g.kind = 3 ∨ g.kind = 4 ∨ (g.kind ≠ 2 ∧ g.kind ≠ 3 ∧ g.kind ≠ 4)) with q | q | q | ⟨q2, q3, q4⟩ <;> cases ho : occvs v g.args <;> by_cases hvv : g.var = v <;> by_cases hn : s1 < 0
    all_goals
      rw [ho] at h1
      have ht := htt
      rw [hop, ho] at ht
      first | simp only [q, hvv, decide_true, decide_false, Bool.or_true, Bool.true_or, Bool.or_false, Bool.false_or, Bool.and_true, Bool.and_false, Bool.true_and, Bool.false_and, Int.reduceEq] at ht | simp only [q2, q3, q4, hvv, decide_true, decide_false, Bool.or_true, Bool.true_or, Bool.or_false, Bool.false_or, Bool.and_true, Bool.and_false, Bool.true_and, Bool.false_and, Int.reduceEq] at ht
      rw [ht, hus] at key
      simp only [hn, if_true, if_false, Bool.false_eq_true] at key
      first | simp -dsimp -implicitDefEqProofs only [g16, c16r0, c16r1, c16r2, c16r3, c16k4, c16r5, c16r6, c16k7, c16r8, c16r9, c16r10, c16k11, c16r12, c16r13, c16k14, c16r15, c16k16, c16r17, c16b18, c16k19, c16r20, c16, go_sem, seval, ↓reduceIte, fl_goals, Gl.pvs_len, hgl, hol, hc, s_iaddr_pv (Gl.pvs_get hg), gl_kind, gl_args, gl_var, h1, q, hvv, hn, hix, w2] | simp -dsimp -implicitDefEqProofs only [g16, c16r0, c16r1, c16r2, c16r3, c16k4, c16r5, c16r6, c16k7, c16r8, c16r9, c16r10, c16k11, c16r12, c16r13, c16k14, c16r15, c16k16, c16r17, c16b18, c16k19, c16r20, c16, go_sem, seval, ↓reduceIte, fl_goals, Gl.pvs_len, hgl, hol, hc, s_iaddr_pv (Gl.pvs_get hg), gl_kind, gl_args, gl_var, h1, q2, q3, q4, hvv, hn, hix, w2]
      exact key _ _ rfl
  · rintro ⟨⟨s1, s2⟩, c⟩ ⟨hG, hO⟩
    have hc : ¬ (f.goals.length : Int) < (f.goals.length : Int) := by omega
    simp -dsimp -implicitDefEqProofs only [g16, c16r0, c16r1, c16r2, c16r3, c16k4, c16r5, c16r6, c16k7, c16r8, c16r9, c16r10, c16k11, c16r12, c16r13, c16k14, c16r15, c16k16, c16r17, c16b18, c16k19, c16r20, c16, go_sem, seval, ↓reduceIte, fl_goals, Gl.pvs_len, hc]
    dsimp only at hG
    rw [List.drop_length, spanG] at hG
    rw [hG] at hQ
    exact hQ _
theorem span_ok (f : Fl) (v : Int) (hp : Heap) (ha : Tm.sizes f.args < 100000000) (hs : ∀ g ∈ f.goals, Tm.sizes g.args < 100000000) (hlen : f.goals.length < 100000000) :
    S 16 [f.av, .pv none (.sl none (ints (ofsOf 0 f.goals))), .pv none (.int .i64 v)] hp = some (.ret (.tuple [.pv none (.int .i64 (spanF v f).1), .pv none (.int .i64 (spanF v f).2)]), hp) := by
  refine sem_pure rfl rfl rfl (freezeAll_pvs [(some 5, f.pv), (none, .sl none (ints (ofsOf 0 f.goals))), (none, .int .i64 v)]) rfl ?_
  have h1 := fun hp => occurs_ok v 100000000 f.args hp ha (by omega)
  have hl := fun s => span_loop f v s hs hlen
  have hF : spanF v f = spanG v (if occvs v f.args = true then (0, 0) else (-1, -1)) 0 f.goals := rfl
  by_cases ho : occvs v f.args = true
  · simp -dsimp -implicitDefEqProofs only [g16, c16r0, c16r1, c16r2, c16r3, c16k4, c16r5, c16r6, c16k7, c16r8, c16r9, c16r10, c16k11, c16r12, c16r13, c16k14, c16r15, c16k16, c16r17, c16b18, c16r20, c16, go_sem, seval, ↓reduceIte, fl_args, h1, ho]
    rw [if_pos ho] at hF
    refine hl (0, 0) _ _ (fun r => ?_)
    simp -dsimp -implicitDefEqProofs only [g16, c16r0, c16r1, c16r2, c16r3, c16k4, c16r5, c16r6, c16k7, c16r8, c16r9, c16r10, c16k11, c16r12, c16r13, c16k14, c16r15, c16k16, c16r17, c16b18, c16r20, c16, go_sem, seval, ↓reduceIte, hF]
  · simp -dsimp -implicitDefEqProofs only [g16, c16r0, c16r1, c16r2, c16r3, c16k4, c16r5, c16r6, c16k7, c16r8, c16r9, c16r10, c16k11, c16r12, c16r13, c16k14, c16r15, c16k16, c16r17, c16b18, c16r20, c16, go_sem, seval, ↓reduceIte, fl_args, h1, ho]
    rw [if_neg ho] at hF
    refine hl (-1, -1) _ _ (fun r => ?_)
    simp -dsimp -implicitDefEqProofs only [g16, c16r0, c16r1, c16r2, c16r3, c16k4, c16r5, c16r6, c16k7, c16r8, c16r9, c16r10, c16k11, c16r12, c16r13, c16k14, c16r15, c16k16, c16r17, c16b18, c16r20, c16, go_sem, seval, ↓reduceIte, hF]
end Go.Proofs.Ytmajapjbogmefaa
