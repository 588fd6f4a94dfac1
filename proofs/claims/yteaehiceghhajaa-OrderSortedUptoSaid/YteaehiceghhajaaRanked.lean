/- What is proved: ranks in a list that increases, in plain Lean. -/
import Derived.Test.YteaehiceghhajaaSortTop
import Derived.Test.YteaehiceghhajaaRank2P
set_option linter.unusedSimpArgs false
set_option linter.unusedVariables false
namespace Go.Proofs.Yteaehiceghhajaa
open Go.Am
theorem incr_of {D : List Tm} (h : D.Pairwise fun x y => x.cmp y < 0) : Incr D := fun k x y hx hy => by
  obtain ⟨h1, h1'⟩ := List.getElem?_eq_some_iff.1 hx
  obtain ⟨h2, h2'⟩ := List.getElem?_eq_some_iff.1 hy
  have := List.pairwise_iff_getElem.1 h k (k + 1) h1 h2 (by omega)
  rwa [h1', h2'] at this
theorem ddStep_sub {l s : List Tm} {x : Tm} (h : s.Sublist l) : (ddStep s x).Sublist (l ++ [x]) := by
  unfold ddStep
  split
  · split
    · exact h.trans (List.sublist_append_left _ _)
    · exact h.append (List.Sublist.refl _)
  · exact List.sublist_append_right _ _
theorem dd_sub (l : List Tm) : (dd l).Sublist l := by
  have : ∀ n (l : List Tm), l.length = n → (dd l).Sublist l := by
    intro n
    induction n with
    | zero => intro l h; rw [List.length_eq_zero_iff.1 h]; exact List.Sublist.refl _
    | succ n ih =>
      intro l h
      rcases nil_or_snoc l with rfl | ⟨r, x, rfl⟩
      · simp at h
      · rw [dd_snoc]
        exact ddStep_sub (ih r (by simpa using h))
  exact this _ l rfl
theorem sizes_sub {a b : List Tm} (h : a.Sublist b) : Tm.sizes a ≤ Tm.sizes b := by
  induction h with
  | slnil => exact Nat.le_refl _
  | cons x _ ih => simp only [Tm.sizes]; omega
  | cons_cons x _ ih => simp only [Tm.sizes]; omega
theorem cnt_zero {l : List Tm} {t : Tm} (h : t ∉ l) : cnt l t = 0 := by
  unfold cnt
  rw [List.length_eq_zero_iff, List.filter_eq_nil_iff]
  intro u hu hs
  simp only [same, Bool.and_eq_true, decide_eq_true_eq] at hs
  exact h (Tm.cmp_zero.1 hs.2.2 ▸ hu)
theorem cnt_nodup {l : List Tm} {t : Tm} (hv : validAll l = true) (hn : l.Nodup) (ht : t ∈ l) : cnt l t = 1 := by
  have hvt := validAll_mem hv ht
  induction l with
  | nil => simp at ht
  | cons x l ih =>
    obtain ⟨h1, h2⟩ := List.nodup_cons.1 hn
    have hx := validAll_mem hv (List.mem_cons_self (a := x))
    have hl : validAll l = true := List.all_eq_true.2 fun y hy => validAll_mem hv (by simp [hy])
    have e : same x t = decide (x.cmp t = 0) := by simp [same, hx, hvt]
    unfold cnt
    rw [List.filter_cons, e]
    rcases List.mem_cons.1 ht with rfl | ht
    · have hz := cnt_zero h1
      unfold cnt at hz
      simp [hz, Tm.cmp_self]
    · have hne' : ¬ x.cmp t = 0 := fun h => h1 (Tm.cmp_zero.1 h ▸ ht)
      simp only [hne', decide_false, if_false, Bool.false_eq_true]
      exact ih hl h2 ht
theorem found_cnt {D : List Tm} {t : Tm} (h : D.Pairwise fun x y => x.cmp y < 0) (hv : validAll D = true) : found D t = decide (((cnt D t : Nat) : Int) = 1) := by
  have hi := incr_of h
  by_cases ht : t ∈ D
  · have hn : D.Nodup := h.imp fun {x y} hxy => by rintro rfl; rw [Tm.cmp_self] at hxy; omega
    rw [cnt_nodup hv hn ht]
    obtain ⟨k, hk, hk'⟩ := List.getElem_of_mem ht
    have hk2 : D[k]? = some t := by rw [List.getElem?_eq_getElem hk, hk']
    have h1 : lb D t ≤ k := by
      have := lb_spec (t := t) hi hk2
      rw [Tm.cmp_self] at this
      omega
    have h2 : lb D t = k := by
      rcases Nat.lt_or_eq_of_le h1 with hlt | heq
      · obtain ⟨x, hx⟩ : ∃ x, D[lb D t]? = some x := ⟨_, List.getElem?_eq_getElem (by omega)⟩
        have h3 := lb_spec (t := t) hi hx
        obtain ⟨g1, g1'⟩ := List.getElem?_eq_some_iff.1 hx
        have h4 := List.pairwise_iff_getElem.1 h _ _ g1 hk hlt
        rw [g1', hk'] at h4
        omega
      · exact heq
    unfold found
    rw [h2, hk2]
    simp [Tm.cmp_self]
  · rw [cnt_zero ht]
    unfold found
    split
    · rename_i x hx
      have : ¬ x.cmp t = 0 := fun h0 => ht (Tm.cmp_zero.1 h0 ▸ List.mem_of_getElem? hx)
      simp [this]
    · simp
end Go.Proofs.Yteaehiceghhajaa
