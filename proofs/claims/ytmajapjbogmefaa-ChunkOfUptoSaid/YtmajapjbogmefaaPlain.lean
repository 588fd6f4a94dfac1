/- The spans of variables: what holds of them. No program in sight. -/
import Derived.Test.YtmajapjbogmefaaOf5
set_option linter.unusedSimpArgs false
set_option linter.unusedVariables false
namespace Go.Proofs.Ytmajapjbogmefaa
open Go.Am
def updS (s : Int × Int) (c : Int) : Int × Int := (if s.1 < 0 then c else s.1, if s.2 < c then c else s.2)
def stepS (v : Int) (s : Int × Int) (p : Int × Int) : Int × Int := if p.1 = v then updS s p.2 else s
def spanOf (v : Int) (L : List (Int × Int)) : Int × Int := L.foldl (stepS v) (-1, -1)
def Mono (L : List (Int × Int)) : Prop := L.Pairwise (fun a b => a.2 ≤ b.2) ∧ ∀ p ∈ L, 0 ≤ p.2
theorem Mono.init {L : List (Int × Int)} {p : Int × Int} (h : Mono (L ++ [p])) : Mono L ∧ (∀ q ∈ L, q.2 ≤ p.2) ∧ 0 ≤ p.2 := by
  obtain ⟨h1, h2⟩ := h
  obtain ⟨k1, k2, k3⟩ := List.pairwise_append.1 h1
  exact ⟨⟨k1, fun q hq => h2 q (by simp [hq])⟩, fun q hq => k3 q hq p (by simp), h2 p (by simp)⟩
theorem spFind_app (v : Int) (y : Sp) : ∀ l : List Sp, spFind v (l ++ [y]) = match spFind v l with | some x => some x | none => if y.v = v then some y else none
  | [] => rfl
  | x :: r => by
    simp only [List.cons_append, spFind]
    split
    · rfl
    · exact spFind_app v y r
theorem spFind_set_ne {v w c : Int} (h : v ≠ w) : ∀ l : List Sp, spFind v (spSet w c l) = spFind v l
  | [] => rfl
  | x :: r => by
    unfold spSet
    split
    · rename_i hx
      have : ¬ x.v = v := fun e => h (e.symm.trans hx)
      simp [spFind, this]
    · simp only [spFind]
      rw [spFind_set_ne h r]
theorem spFind_set {w c : Int} : ∀ {l : List Sp} {x : Sp}, spFind w l = some x → spFind w (spSet w c l) = some ⟨x.v, x.at_, x.first, c⟩
  | [], x, h => by cases h
  | y :: r, x, h => by
    unfold spFind at h
    unfold spSet
    split at h
    · rename_i hy; cases h; simp [spFind, hy]
    · rename_i hy; simp only [hy, if_false, spFind]; exact spFind_set h
theorem spanOf_snoc (v : Int) (L : List (Int × Int)) (p : Int × Int) : spanOf v (L ++ [p]) = stepS v (spanOf v L) p := by simp [spanOf]
def SpOk (v : Int) (L : List (Int × Int)) : Option Sp → Prop
  | none => spanOf v L = (-1, -1) ∧ ∀ p ∈ L, p.1 ≠ v
  | some x => spanOf v L = (x.first, x.last) ∧ 0 ≤ x.first ∧ x.first ≤ x.last ∧ ∃ p ∈ L, p.1 = v ∧ p.2 = x.last
theorem sps_spec : ∀ (n : Nat) (L : List (Int × Int)), L.length = n → Mono L → ∀ v, SpOk v L (spFind v (sps L))
  | 0, L, hn, _, v => by
    obtain rfl := List.length_eq_zero_iff.1 hn
    exact ⟨rfl, fun p hp => by cases hp⟩
  | n + 1, L, hn, hm, v => by
    rcases nil_or_snoc L with rfl | ⟨L, ⟨w, c⟩, rfl⟩
    · cases hn
    · obtain ⟨hm1, hm2, hm3⟩ := hm.init
      have ih := sps_spec n L (by simpa using hn) hm1
      have ihv := ih v
      have ihw := ih w
      rw [sps_snoc]
      unfold spStep
      dsimp only
      cases hw : spFind w (sps L) with
      | none =>
        rw [hw] at ihw
        dsimp only
        rw [spFind_app]
        by_cases e : v = w
        · subst e
          rw [hw]
          simp only [if_true]
          obtain ⟨h1, h2⟩ := ihw
          refine ⟨?_, hm3, Int.le_refl _, (v, c), by simp, rfl, rfl⟩
          rw [spanOf_snoc, h1]
          simp only [stepS, updS, if_true]
          rw [if_pos (by omega), if_pos (by omega)]
        · have e' : ¬ w = v := fun h => e h.symm
          cases hv : spFind v (sps L) with
          | none =>
            rw [hv] at ihv
            simp only [if_neg e']
            obtain ⟨h1, h2⟩ := ihv
            refine ⟨?_, fun p hp => ?_⟩
            · rw [spanOf_snoc, h1]; simp [stepS, e']
            · rcases List.mem_append.1 hp with hp | hp
              · exact h2 p hp
              · simp at hp; subst hp; exact e'
          | some x =>
            rw [hv] at ihv
            obtain ⟨h1, h2, h3, q, hq, h4, h5⟩ := ihv
            refine ⟨?_, h2, h3, q, by simp [hq], h4, h5⟩
            rw [spanOf_snoc, h1]; simp [stepS, e']
      | some x =>
        rw [hw] at ihw
        dsimp only
        by_cases e : v = w
        · subst e
          rw [spFind_set hw]
          obtain ⟨h1, h2, h3, q, hq, h4, h5⟩ := ihw
          have hle := hm2 q hq
          dsimp only at hle hm3
          refine ⟨?_, h2, by dsimp only; omega, (v, c), by simp, rfl, rfl⟩
          rw [spanOf_snoc, h1]
          simp only [stepS, updS, if_true]
          rw [if_neg (by omega)]
          split
          · rfl
          · congr 1; omega
        · have e' : ¬ w = v := fun h => e h.symm
          rw [spFind_set_ne e]
          cases hv : spFind v (sps L) with
          | none =>
            rw [hv] at ihv
            obtain ⟨h1, h2⟩ := ihv
            refine ⟨?_, fun p hp => ?_⟩
            · rw [spanOf_snoc, h1]; simp [stepS, e']
            · rcases List.mem_append.1 hp with hp | hp
              · exact h2 p hp
              · simp at hp; subst hp; exact e'
          | some x =>
            rw [hv] at ihv
            obtain ⟨h1, h2, h3, q, hq, h4, h5⟩ := ihv
            refine ⟨?_, h2, h3, q, by simp [hq], h4, h5⟩
            rw [spanOf_snoc, h1]; simp [stepS, e']
theorem spFind_mem {v : Int} : ∀ {l : List Sp}, spFind v l ≠ none ↔ v ∈ vars l
  | [] => by simp [spFind, vars]
  | x :: r => by
    have ih := spFind_mem (v := v) (l := r)
    unfold vars at ih ⊢
    unfold spFind
    by_cases h : x.v = v
    · simp [h]
    · have h' : ¬ v = x.v := fun e => h e.symm
      simp only [if_neg h, ih, List.map_cons, List.mem_cons, h', false_or]
theorem vars_step (l : List Sp) (p : Int × Int) : vars (spStep l p) = if p.1 ∈ vars l then vars l else vars l ++ [p.1] := by
  unfold spStep
  cases h : spFind p.1 l with
  | none =>
    have : ¬ p.1 ∈ vars l := fun hm => spFind_mem.2 hm h
    rw [if_neg this]
    simp [vars]
  | some x =>
    have : p.1 ∈ vars l := spFind_mem.1 (by rw [h]; simp)
    rw [if_pos this]
    have h1 := ords_set p.1 p.2 l
    rw [ords_vars, ords_vars] at h1
    exact (List.map_inj_right (fun x y h => by cases h; rfl)).1 h1
theorem vars_nodup : ∀ (L : List (Int × Int)) (l : List Sp), (vars l).Nodup → (vars (L.foldl spStep l)).Nodup
  | [], l, h => h
  | p :: L, l, h => by
    refine vars_nodup L (spStep l p) ?_
    rw [vars_step]
    split
    · exact h
    · rename_i hp
      rw [List.nodup_append]
      exact ⟨h, by simp, fun a ha b hb e => by simp at hb; subst hb; subst e; exact hp ha⟩
theorem sps_nodup (L : List (Int × Int)) : (vars (sps L)).Nodup := vars_nodup L [] List.nodup_nil
theorem perm_nodup (l : List Sp) (h : (vars l).Nodup) : (permOf l).Nodup := (isort_perm (c := lastD l) (perm0 l)).nodup_iff.2 (h.filter _)
theorem perm_mem (l : List Sp) (v : Int) : v ∈ permOf l ↔ v ∈ vars l ∧ wide l v = true := by
  unfold permOf
  rw [(isort_perm (c := lastD l) (perm0 l)).mem_iff]
  simp [perm0]
theorem not_wide {l : List Sp} {v : Int} (h : ¬ v ∈ vars l) : wide l v = false := by
  have : spFind v l = none := by
    cases hs : spFind v l with
    | none => rfl
    | some x => exact (h (spFind_mem.1 (by rw [hs]; simp))).elim
  simp [wide, firstOf, lastOf, this]
theorem perm_mem' (l : List Sp) (v : Int) : v ∈ permOf l ↔ wide l v = true := by
  rw [perm_mem]
  constructor
  · exact fun h => h.2
  · intro h
    refine ⟨Classical.byContradiction fun hn => ?_, h⟩
    rw [not_wide hn] at h
    cases h
theorem lastD_cmp (l : List Sp) : Cmp (lastD l) where
  neg x y := (lastC_cmp l).neg (.int .i64 x) (.int .i64 y)
  trans {x y z} h1 h2 := (lastC_cmp l).trans (x := .int .i64 x) (y := .int .i64 y) (z := .int .i64 z) h1 h2
theorem lastD_le {l : List Sp} {a b : Int} (h : lastD l a b ≤ 0) : lastOf l b ≤ lastOf l a := by
  unfold lastD cmpI at h
  split at h
  · omega
  · split at h <;> omega
theorem perm_sorted (l : List Sp) : (permOf l).Pairwise (fun a b => lastOf l b ≤ lastOf l a) := (isort_srt (lastD_cmp l) (perm0 l)).imp fun h => lastD_le h
theorem span_sps (L : List (Int × Int)) (hm : Mono L) (v : Int) : (wide (sps L) v = true ↔ (spanOf v L).1 ≠ (spanOf v L).2) ∧ (v ∈ vars (sps L) → (spanOf v L).2 = lastOf (sps L) v ∧ (spanOf v L).1 = firstOf (sps L) v) := by
  have h := sps_spec _ L rfl hm v
  unfold wide firstOf lastOf
  cases hs : spFind v (sps L) with
  | none =>
    rw [hs] at h
    obtain ⟨h1, _⟩ := h
    refine ⟨by simp [h1], fun hv => ?_⟩
    exact (spFind_mem.2 hv hs).elim
  | some x =>
    rw [hs] at h
    obtain ⟨h1, h2, h3, _⟩ := h
    refine ⟨?_, fun _ => by simp [h1]⟩
    simp only [h1, decide_eq_true_eq]
    omega
end Go.Proofs.Ytmajapjbogmefaa
