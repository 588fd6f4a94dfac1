/- What is proved: of clauses that are valid: their terms are, and their chunks ascend. -/
import Derived.Test.YtmajapjbogmefaaSpan
set_option linter.unusedSimpArgs false
set_option linter.unusedVariables false
namespace Go.Proofs.Ytmajapjbogmefaa
open Go.Am
theorem valid_fits {t : Tm} (h : t.valid = true) : t.fits = true := by
  unfold Tm.valid at h
  simp only [Bool.and_eq_true] at h
  exact h.2
theorem roomF_valid : ∀ (l : List Tm) (left l' : Int), roomF left l = (true, l') → ∀ u ∈ l, u.fits = true
  | [], _, _, _, u, hu => by cases hu
  | t :: r, left, l', e, u, hu => by
    unfold roomF at e
    split at e
    · rename_i hv
      split at e
      · cases e
      · rcases List.mem_cons.1 hu with rfl | hu
        · exact valid_fits hv
        · exact roomF_valid r _ _ e u hu
    · cases e
theorem bare_fits {g : Gl} (h : g.bare = true) : ∀ u ∈ g.args, u.fits = true := by
  unfold Gl.bare at h
  simp only [Bool.and_eq_true, decide_eq_true_eq] at h
  have : g.args = [] := List.length_eq_zero_iff.1 (by omega)
  intro u hu
  rw [this] at hu
  cases hu
theorem step_fits {g : Gl} {called : Bool} {left : Int} {r : Bool × Int} (h : g.step called left = some r) : ∀ u ∈ g.args, u.fits = true := by
  unfold Gl.step at h
  split at h
  · split at h
    · split at h
      · rename_i l hl; exact roomF_valid _ _ _ hl
      · cases h
    · cases h
  · split at h
    · split at h
      · rename_i hb; simp only [Bool.and_eq_true] at hb; exact bare_fits hb.1.1.1
      · cases h
    · split at h
      · split at h
        · rename_i hb; simp only [Bool.and_eq_true] at hb; exact bare_fits hb.1.1
        · cases h
      · split at h
        · split at h
          · rename_i hb; simp only [Bool.and_eq_true] at hb; exact bare_fits hb.1
          · cases h
        · cases h
theorem steps_fits : ∀ (l : List Gl) (called : Bool) (left : Int), Gl.steps called left l = true → ∀ g ∈ l, ∀ u ∈ g.args, u.fits = true
  | [], _, _, _, g, hg => by cases hg
  | x :: r, called, left, h, g, hg => by
    unfold Gl.steps at h
    split at h
    · rename_i c l hs
      rcases List.mem_cons.1 hg with rfl | hg
      · exact step_fits hs
      · exact steps_fits r _ _ h g hg
    · cases h
theorem fl_valid_fits {f : Fl} (h : f.valid = true) : (∀ u ∈ f.args, u.fits = true) ∧ ∀ g ∈ f.goals, ∀ u ∈ g.args, u.fits = true := by
  unfold Fl.valid at h
  simp only [Bool.and_eq_true] at h
  obtain ⟨_, h⟩ := h
  split at h
  · rename_i l hl
    exact ⟨roomF_valid _ _ _ hl, steps_fits _ _ _ h⟩
  · cases h
theorem plcsP_ge : ∀ (l : List Gl) (c : Int), ∀ p ∈ plcsP c l, c ≤ p.2
  | [], c, p, hp => by cases hp
  | g :: r, c, p, hp => by
    rw [plcsP] at hp
    rcases List.mem_append.1 hp with hp | hp
    · rw [hereP_all c g p hp]; exact Int.le_refl _
    · have := plcsP_ge r (g.next c) p hp
      unfold Gl.next at this
      split at this <;> omega
theorem plcsP_mono : ∀ (l : List Gl) (c : Int), (plcsP c l).Pairwise (fun a b => a.2 ≤ b.2)
  | [], c => List.Pairwise.nil
  | g :: r, c => by
    rw [plcsP, List.pairwise_append]
    refine ⟨?_, plcsP_mono r _, fun a ha b hb => ?_⟩
    · rw [List.pairwise_iff_forall_sublist]
      intro a b hab
      have ha := hereP_all c g a (hab.subset (by simp))
      have hb := hereP_all c g b (hab.subset (by simp))
      rw [ha, hb]
      exact Int.le_refl _
    · have := plcsP_ge r (g.next c) b hb
      rw [hereP_all c g a ha]
      unfold Gl.next at this
      split at this <;> omega
theorem places_mono (f : Fl) : Mono (placesP f) := by
  unfold placesP
  refine ⟨?_, fun p hp => ?_⟩
  · rw [List.pairwise_append]
    refine ⟨?_, plcsP_mono _ _, fun a ha b hb => ?_⟩
    · rw [List.pairwise_map]
      exact List.pairwise_of_forall fun _ _ => Int.le_refl _
    · obtain ⟨_, _, rfl⟩ := List.mem_map.1 ha
      exact plcsP_ge _ _ b hb
  · rcases List.mem_append.1 hp with hp | hp
    · obtain ⟨_, _, rfl⟩ := List.mem_map.1 hp
      exact Int.le_refl _
    · exact plcsP_ge _ _ p hp
theorem span_perm {f : Fl} (h : f.valid = true) (v : Int) : v ∈ permOf (sps (placesP f)) ↔ (spanF v f).1 ≠ (spanF v f).2 := by
  obtain ⟨h1, h2⟩ := fl_valid_fits h
  rw [spanF_eq v f h1 h2, perm_mem']
  exact (span_sps _ (places_mono f) v).1
theorem span_last {f : Fl} (h : f.valid = true) {v : Int} (hv : v ∈ permOf (sps (placesP f))) : (spanF v f).2 = lastOf (sps (placesP f)) v := by
  obtain ⟨h1, h2⟩ := fl_valid_fits h
  rw [spanF_eq v f h1 h2]
  exact ((span_sps _ (places_mono f) v).2 ((perm_mem _ _).1 hv).1).1
def countI (v : Int) (l : List Int) : Nat := l.countP (fun x => decide (x = v))
theorem countI_take {v : Int} {l : List Int} {i : Nat} {x : Int} (h : l[i]? = some x) : countI v (l.take (i + 1)) = countI v (l.take i) + (if x = v then 1 else 0) := by
  obtain ⟨h1, rfl⟩ := List.getElem?_eq_some_iff.1 h
  rw [List.take_succ_eq_append_getElem h1]
  simp only [countI, List.countP_append, List.countP_cons, List.countP_nil]
  by_cases e : l[i] = v <;> simp [e]
theorem countI_nodup {v : Int} : ∀ {l : List Int}, l.Nodup → countI v l = if v ∈ l then 1 else 0
  | [], _ => rfl
  | x :: r, h => by
    obtain ⟨h1, h2⟩ := List.nodup_cons.1 h
    have ih := countI_nodup (v := v) h2
    unfold countI at ih ⊢
    rw [List.countP_cons, ih]
    by_cases e : x = v
    · subst e; simp [h1]
    · have e' : ¬ v = x := fun h => e h.symm
      simp [e, e']
theorem perm_len (f : Fl) : (permOf (sps (placesP f))).length ≤ (placesP f).length := by
  have := sps_len (placesP f)
  have h2 : (permOf (sps (placesP f))).length ≤ (sps (placesP f)).length := by
    unfold permOf
    rw [isort_length]
    exact Nat.le_trans (List.length_filter_le _ _) (by simp [vars])
  omega
theorem ch_part0 (A P B : List Int) : PV.part deep (chPV A P B) 0 none = some (.sl none (ints A)) := rfl
theorem ch_part1 (A P B : List Int) : PV.part deep (chPV A P B) 1 none = some (.sl none (ints P)) := rfl
theorem ch_part2 (A P B : List Int) : PV.part deep (chPV A P B) 2 none = some (.sl none (ints B)) := rfl
end Go.Proofs.Ytmajapjbogmefaa
