/- What is proved: which predicates belong to the layer, by the program and by the reference. -/
import Derived.Test.YtiifblpdlphchaaGreatRRRun
import Derived.Test.YtiifblpdlphchaaGreatRRAm4
set_option linter.unusedSimpArgs false
set_option linter.unusedVariables false
namespace Go.Proofs.YtiifblpdlphchaaGreatRR
open Go.Am
noncomputable abbrev Z := sem (find tab) prim
noncomputable abbrev S := sem (find tab) prim .fn
noncomputable abbrev L := sloop (find tab) prim
def strs (l : List (List UInt8)) : List PV := l.map .str
theorem strs_len (l : List (List UInt8)) : (strs l).length = l.length := by simp [strs]
theorem strs_get {l : List (List UInt8)} {i : Nat} {s : List UInt8} (h : l[i]? = some s) : (strs l)[i]? = some (.str s) := by simp [strs, h]
def idxI : List (List UInt8) → List UInt8 → Nat → Int
  | [], _, _ => -1
  | x :: r, s, k => if s = x then k else idxI r s (k + 1)
theorem idxI_nonneg : ∀ (l : List (List UInt8)) (s : List UInt8) (k : Nat), 0 ≤ idxI l s k ↔ s ∈ l
  | [], s, k => by simp [idxI]
  | x :: r, s, k => by
    unfold idxI
    split
    · rename_i h; simp [h]
    · rename_i h; rw [idxI_nonneg r s (k + 1)]; simp [h]
theorem index_ok (l : List (List UInt8)) (s : List UInt8) (hl : l.length ≤ 1000000) (hp : Heap) : S 85 [.pv none (.sl none (strs l)), .pv none (.str s)] hp = some (.ret (.pv none (.int .i64 (idxI l s 0))), hp) := by
  refine sem_pure rfl rfl rfl (freezeAll_pvs [(none, .sl none (strs l)), (none, .str s)]) rfl ?_
  simp -dsimp -implicitDefEqProofs only [g85, c85r0, c85r1, c85r2, c85k3, c85r4, c85r5, c85r6, c85k7, c85k8, c85r9, c85b10, c85k11, c85r12, c85, go_sem, seval, ↓reduceIte, strs_len]
  refine W_for (α := Unit) l.length (fun i _ => idxI l s 0 = idxI (l.drop i) s i) (fun i _ => ⟨[(0, .pv none (.sl none (strs l))), (1, .pv none (.str s)), (7, .pv none (.int .i64 l.length)), (8, .pv none (.int .i64 i))], []⟩) () ⟨rfl, rfl⟩ ?_ ?_
  · rintro i - h hinv
    have hc : (i : Int) < (l.length : Int) := by omega
    obtain ⟨u, hu⟩ : ∃ u, l[i]? = some u := ⟨_, List.getElem?_eq_getElem h⟩
    have w2 : IntKind.i64.wrap ((i : Int) + 1) = ((i + 1 : Nat) : Int) := by rw [wrap64 (by omega) (by omega)]; omega
    have hd : l.drop i = u :: l.drop (i + 1) := by
      have hlt := (List.getElem?_eq_some_iff.1 hu).1
      rw [List.drop_eq_getElem_cons hlt]
      congr 1
      exact (List.getElem?_eq_some_iff.1 hu).2
    rw [hd, idxI] at hinv
    by_cases hs : s = u
    · rw [if_pos hs] at hinv
      subst hs
      simp -dsimp -implicitDefEqProofs only [g85, c85r0, c85r1, c85r2, c85k3, c85r4, c85r5, c85r6, c85k7, c85k8, c85r9, c85b10, c85k11, c85r12, c85, go_sem, seval, ↓reduceIte, hc, s_iaddr_pv (strs_get hu), hinv]
    · rw [if_neg hs] at hinv
      simp -dsimp -implicitDefEqProofs only [g85, c85r0, c85r1, c85r2, c85k3, c85r4, c85r5, c85r6, c85k7, c85k8, c85r9, c85b10, c85k11, c85r12, c85, go_sem, seval, ↓reduceIte, hc, s_iaddr_pv (strs_get hu), hs, w2]
      exact ⟨(), hinv⟩
  · rintro - hinv
    have hc : ¬ (l.length : Int) < (l.length : Int) := by omega
    rw [List.drop_length, idxI] at hinv
    simp -dsimp -implicitDefEqProofs only [g85, c85r0, c85r1, c85r2, c85k3, c85r4, c85r5, c85r6, c85k7, c85k8, c85r9, c85b10, c85k11, c85r12, c85, go_sem, seval, ↓reduceIte, hc, hinv]
theorem contains_ok (l : List (List UInt8)) (s : List UInt8) (hl : l.length ≤ 1000000) (hp : Heap) : S 41 [.pv none (.sl none (strs l)), .pv none (.str s)] hp = some (.ret (.pv none (.bool (decide (s ∈ l)))), hp) := by
  refine sem_pure rfl rfl rfl (freezeAll_pvs [(none, .sl none (strs l)), (none, .str s)]) rfl ?_
  have h := index_ok l s hl
  have e : decide (0 ≤ idxI l s 0) = decide (s ∈ l) := by simp [idxI_nonneg]
  simp -dsimp -implicitDefEqProofs only [g41, c41r0, c41r1, c41, go_sem, seval, ↓reduceIte, h, e]
theorem contains_tsl (l : List (List UInt8)) (s : List UInt8) (hl : l.length ≤ 1000000) (hp : Heap) : S 41 [.tsl none (strs l), .pv none (.str s)] hp = some (.ret (.pv none (.bool (decide (s ∈ l)))), hp) := by
  refine sem_pure (ps := [(none, .sl none (strs l)), (none, .str s)]) rfl rfl rfl rfl rfl ?_
  have h := index_ok l s hl
  have e : decide (0 ≤ idxI l s 0) = decide (s ∈ l) := by simp [idxI_nonneg]
  simp -dsimp -implicitDefEqProofs only [g41, c41r0, c41r1, c41, go_sem, seval, ↓reduceIte, h, e]
def names1 : List (List UInt8) := [[118, 97, 114], [110, 111, 110, 118, 97, 114], [97, 116, 111, 109], [105, 110, 116, 101, 103, 101, 114], [97, 116, 111, 109, 105, 99], [99, 111, 109, 112, 111, 117, 110, 100], [99, 97, 108, 108, 97, 98, 108, 101], [105, 115, 95, 108, 105, 115, 116], [103, 114, 111, 117, 110, 100]]
def names2a : List (List UInt8) := [[61, 61], [92, 61, 61], [64, 60], [64, 61, 60], [64, 62], [64, 62, 61]]
def names2b : List (List UInt8) := [[92, 61], [61, 46, 46], [99, 111, 112, 121, 95, 116, 101, 114, 109], [116, 101, 114, 109, 95, 118, 97, 114, 105, 97, 98, 108, 101, 115], [108, 101, 110, 103, 116, 104], [109, 115, 111, 114, 116], [115, 111, 114, 116], [107, 101, 121, 115, 111, 114, 116]]
def names3 : List (List UInt8) := [[99, 111, 109, 112, 97, 114, 101], [102, 117, 110, 99, 116, 111, 114], [97, 114, 103], [98, 101, 116, 119, 101, 101, 110]]
def namesOf (n : Int) : List (List UInt8) := if n = 1 then names1 else if n = 2 then names2a ++ names2b else if n = 3 then names3 else []
theorem names_ok (n : Int) (hp : Heap) : S 42 [.pv none (.int .i64 n)] hp = some (.ret (.pv none (.sl none (strs (namesOf n)))), hp) := by
  refine sem_pure rfl rfl rfl (freezeAll_pvs [(none, .int .i64 n)]) rfl ?_
  by_cases h1 : n = 1
  · subst h1
    simp -dsimp -implicitDefEqProofs only [g42, c42r0, c42r1, c42r2, c42r3, c42r4, c42r5, c42r6, c42r7, c42k8, c42k9, c42k10, c42k11, c42r12, c42, go_sem, seval, ↓reduceIte, w_nilsl (sh := none) (by decide)]
    rfl
  · by_cases h2 : n = 2
    · subst h2
      simp -dsimp -implicitDefEqProofs only [g42, c42r0, c42r1, c42r2, c42r3, c42r4, c42r5, c42r6, c42r7, c42k8, c42k9, c42k10, c42k11, c42r12, c42, go_sem, seval, ↓reduceIte, w_nilsl (sh := none) (by decide)]
      rfl
    · by_cases h3 : n = 3
      · subst h3
        simp -dsimp -implicitDefEqProofs only [g42, c42r0, c42r1, c42r2, c42r3, c42r4, c42r5, c42r6, c42r7, c42k8, c42k9, c42k10, c42k11, c42r12, c42, go_sem, seval, ↓reduceIte, w_nilsl (sh := none) (by decide)]
        rfl
      · have e : namesOf n = [] := by simp [namesOf, h1, h2, h3]
        rw [e]
        simp -dsimp -implicitDefEqProofs only [g42, c42r0, c42r1, c42r2, c42r3, c42r4, c42r5, c42r6, c42r7, c42k8, c42k9, c42k10, c42k11, c42r12, c42, go_sem, seval, ↓reduceIte, h1, h2, h3, w_nilsl (sh := none) (by decide)]
        rfl
theorem rhas_ok (s : List UInt8) (n : Int) (hp : Heap) : S 12 [.pv none (.str s), .pv none (.int .i64 n)] hp = some (.ret (.pv none (.bool (decide (s ∈ namesOf n)))), hp) := by
  refine sem_pure rfl rfl rfl (freezeAll_pvs [(none, .str s), (none, .int .i64 n)]) rfl ?_
  have h := names_ok n
  have hl : (namesOf n).length ≤ 100 := by unfold namesOf; (repeat' split) <;> decide
  generalize namesOf n = l at h hl
  simp -dsimp -implicitDefEqProofs only [g12, c12r0, c12r1, c12r2, c12r3, c12k4, c12r5, c12r6, c12k7, c12k8, c12r9, c12b10, c12k11, c12r12, c12, go_sem, seval, ↓reduceIte, h]
  refine W_for (α := Unit) l.length (fun i _ => decide (s ∈ l) = decide (s ∈ l.drop i)) (fun i _ => ⟨[(0, .pv none (.str s)), (5, .pv none (.sl none (strs l))), (6, .pv none (.int .i64 i))], []⟩) () ⟨rfl, rfl⟩ ?_ ?_
  · rintro i - h hinv
    have hc : (i : Int) < (l.length : Int) := by omega
    obtain ⟨u, hu⟩ : ∃ u, l[i]? = some u := ⟨_, List.getElem?_eq_getElem h⟩
    have w2 : IntKind.i64.wrap ((i : Int) + 1) = ((i + 1 : Nat) : Int) := by rw [wrap64 (by omega) (by omega)]; omega
    have hd : l.drop i = u :: l.drop (i + 1) := by
      have hlt := (List.getElem?_eq_some_iff.1 hu).1
      rw [List.drop_eq_getElem_cons hlt]
      congr 1
      exact (List.getElem?_eq_some_iff.1 hu).2
    rw [hd] at hinv
    by_cases hs : u = s
    · subst hs
      have hinv : decide (u ∈ l) = true := by rw [hinv]; simp
      simp -dsimp -implicitDefEqProofs only [g12, c12r0, c12r1, c12r2, c12r3, c12k4, c12r5, c12r6, c12k7, c12k8, c12r9, c12b10, c12k11, c12r12, c12, go_sem, seval, ↓reduceIte, hc, strs_len, s_iaddr_pv (strs_get hu), hinv]
    · have hinv : decide (s ∈ l) = decide (s ∈ l.drop (i + 1)) := by rw [hinv]; simp [Ne.symm hs]
      simp -dsimp -implicitDefEqProofs only [g12, c12r0, c12r1, c12r2, c12r3, c12k4, c12r5, c12r6, c12k7, c12k8, c12r9, c12b10, c12k11, c12r12, c12, go_sem, seval, ↓reduceIte, hc, strs_len, s_iaddr_pv (strs_get hu), hs, w2]
      exact ⟨(), hinv⟩
  · rintro - hinv
    have hc : ¬ (l.length : Int) < (l.length : Int) := by omega
    have hinv : decide (s ∈ l) = false := by rw [hinv]; simp
    simp -dsimp -implicitDefEqProofs only [g12, c12r0, c12r1, c12r2, c12r3, c12k4, c12r5, c12r6, c12k7, c12k8, c12r9, c12b10, c12k11, c12r12, c12, go_sem, seval, ↓reduceIte, hc, strs_len, hinv]
theorem tests_run : ∃ rows : List (List UInt8 × PV), rows.map (·.1) = names1 ∧ S 39 [] [] = some (.ret (.map 0), [.map none (rows.map fun x => (.str x.1, x.2))]) := by
  refine ⟨[(names1.getD 0 [], .func (.func 71)), (names1.getD 1 [], .func (.func 72)), (names1.getD 2 [], .func (.func 73)), (names1.getD 3 [], .func (.func 74)), (names1.getD 4 [], .func (.func 75)), (names1.getD 5 [], .func (.func 47)), (names1.getD 6 [], .func (.func 76)), (names1.getD 7 [], .func (.func 77)), (names1.getD 8 [], .func (.func 78))], by decide, sem_iff.2 ⟨60, by kernel_rfl⟩⟩
theorem comparisons_run : ∃ rows : List (List UInt8 × PV), rows.map (·.1) = names2a ∧ S 40 [] [] = some (.ret (.map 0), [.map none (rows.map fun x => (.str x.1, x.2))]) := by
  refine ⟨[(names2a.getD 0 [], .func (.func 79)), (names2a.getD 1 [], .func (.func 80)), (names2a.getD 2 [], .func (.func 81)), (names2a.getD 3 [], .func (.func 82)), (names2a.getD 4 [], .func (.func 83)), (names2a.getD 5 [], .func (.func 84))], by decide, sem_iff.2 ⟨60, by kernel_rfl⟩⟩
theorem afind_strs (s : List UInt8) : ∀ rows : List (List UInt8 × PV), ∃ r, afind true (.str s) (rows.map fun x => (.str x.1, x.2)) = some r ∧ (r.isSome = decide (s ∈ rows.map (·.1)))
  | [] => ⟨none, rfl, rfl⟩
  | x :: l => by
    obtain ⟨r, h1, h2⟩ := afind_strs s l
    by_cases h : s = x.1
    · exact ⟨some x.2, by simp [afind, PV.same, h], by simp [h]⟩
    · exact ⟨r, by simp [afind, PV.same, h, h1], by rw [h2]; simp [h]⟩
theorem lookup_strs (s : List UInt8) (z : AV) (rows : List (List UInt8 × PV)) (hp : Heap) (h : hp[0]? = some (.map none (rows.map fun x => (.str x.1, x.2)))) : ∃ u, rLookup true none z true hp [.map 0, .pv none (.str s)] = some (.tuple [u, .pv none (.bool (decide (s ∈ rows.map (·.1))))]) := by
  obtain ⟨r, h1, h2⟩ := afind_strs s rows
  rw [← h2]
  cases r with
  | none => exact ⟨z, r_lookup_none h h1⟩
  | some p => exact ⟨.pv none p, r_lookup_some h h1⟩
theorem has_ok (s : List UInt8) (n : Int) (hp : Heap) : S 11 [.pv none (.str s), .pv none (.int .i64 n)] hp = some (.ret (.pv none (.bool (decide (s ∈ namesOf n)))), hp) := by
  refine sem_pure rfl rfl rfl (freezeAll_pvs [(none, .str s), (none, .int .i64 n)]) rfl ?_
  by_cases h1 : n = 1
  · subst h1
    obtain ⟨rows, hr, ht⟩ := tests_run
    obtain ⟨u, hu⟩ := lookup_strs s (.pv none .nilfunc) rows [.map none (rows.map fun x => (.str x.1, x.2))] rfl
    rw [hr] at hu
    have e : namesOf 1 = names1 := rfl
    rw [e]
    simp -dsimp -implicitDefEqProofs only [g11, c11r0, c11r1, c11r2, c11r3, c11r4, c11r5, c11r6, c11r7, c11r8, c11k9, c11k10, c11k11, c11k12, c11r13, c11, go_sem, seval, ↓reduceIte, ht, op_lookup, hu]
  · by_cases h2 : n = 2
    · subst h2
      obtain ⟨rows, hr, ht⟩ := comparisons_run
      obtain ⟨u, hu⟩ := lookup_strs s (.pv none .nilfunc) rows [.map none (rows.map fun x => (.str x.1, x.2))] rfl
      rw [hr] at hu
      have e : namesOf 2 = names2a ++ names2b := rfl
      rw [e]
      have hc : ∀ hp, S 41 [.tsl none [.str [92, 61], .str [61, 46, 46], .str [99, 111, 112, 121, 95, 116, 101, 114, 109], .str [116, 101, 114, 109, 95, 118, 97, 114, 105, 97, 98, 108, 101, 115], .str [108, 101, 110, 103, 116, 104], .str [109, 115, 111, 114, 116], .str [115, 111, 114, 116], .str [107, 101, 121, 115, 111, 114, 116]], .pv none (.str s)] hp = some (.ret (.pv none (.bool (decide (s ∈ names2b)))), hp) := contains_tsl names2b s (by decide)
      by_cases hs : s ∈ names2a
      · have e2 : decide (s ∈ names2a ++ names2b) = true := by simp [hs]
        simp -dsimp -implicitDefEqProofs only [g11, c11r0, c11r1, c11r2, c11r3, c11r4, c11r5, c11r6, c11r7, c11r8, c11k9, c11k10, c11k11, c11k12, c11r13, c11, go_sem, seval, ↓reduceIte, ht, op_lookup, hu, hs, e2]
      · have e2 : decide (s ∈ names2a ++ names2b) = decide (s ∈ names2b) := by simp [hs]
        simp -dsimp -implicitDefEqProofs only [g11, c11r0, c11r1, c11r2, c11r3, c11r4, c11r5, c11r6, c11r7, c11r8, c11k9, c11k10, c11k11, c11k12, c11r13, c11, go_sem, seval, ↓reduceIte, ht, op_lookup, hu, hs, e2, hc]
    · by_cases h3 : n = 3
      · subst h3
        have hc : ∀ hp, S 41 [.tsl none [.str [99, 111, 109, 112, 97, 114, 101], .str [102, 117, 110, 99, 116, 111, 114], .str [97, 114, 103], .str [98, 101, 116, 119, 101, 101, 110]], .pv none (.str s)] hp = some (.ret (.pv none (.bool (decide (s ∈ names3)))), hp) := contains_tsl names3 s (by decide)
        have e : namesOf 3 = names3 := rfl
        rw [e]
        simp -dsimp -implicitDefEqProofs only [g11, c11r0, c11r1, c11r2, c11r3, c11r4, c11r5, c11r6, c11r7, c11r8, c11k9, c11k10, c11k11, c11k12, c11r13, c11, go_sem, seval, ↓reduceIte, hc]
      · have e : namesOf n = [] := by simp [namesOf, h1, h2, h3]
        rw [e]
        simp -dsimp -implicitDefEqProofs only [g11, c11r0, c11r1, c11r2, c11r3, c11r4, c11r5, c11r6, c11r7, c11r8, c11k9, c11k10, c11k11, c11k12, c11r13, c11, go_sem, seval, ↓reduceIte, h1, h2, h3]
        simp
end Go.Proofs.YtiifblpdlphchaaGreatRR
