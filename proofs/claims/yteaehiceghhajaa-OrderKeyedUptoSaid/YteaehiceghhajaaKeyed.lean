/- What is proved: pairs with numbers, sorted by keys. -/
import Derived.Test.YteaehiceghhajaaKeys
set_option linter.unusedSimpArgs false
set_option linter.unusedVariables false
namespace Go.Proofs.Yteaehiceghhajaa
open Go.Am
def pr (k : Tm) (i : Nat) : Tm := .mk 3 0 [45] [k, .mk 1 i [] []]
def prs (K : List Tm) : List Tm := K.mapIdx fun i k => pr k i
def valOf (t : Tm) : Int := ((t.args[1]?).getD (Tm.mk 0 0 [] [])).n
theorem prs_take {K : List Tm} {i : Nat} {u : Tm} (h : K[i]? = some u) : prs (K.take (i + 1)) = prs (K.take i) ++ [pr u i] := by
  have hi := (List.getElem?_eq_some_iff.1 h).1
  rw [List.take_add_one, h]
  simp [prs, List.mapIdx_append, Nat.min_eq_left (Nat.le_of_lt hi)]
theorem prs_len (K : List Tm) : (prs K).length = K.length := by simp [prs]
theorem prs_mem {K : List Tm} {t : Tm} (h : t ∈ prs K) : ∃ k i, t = pr k i ∧ K[i]? = some k := by
  obtain ⟨i, h⟩ := List.mem_iff_getElem?.1 h
  simp only [prs, List.getElem?_mapIdx, Option.map_eq_some_iff] at h
  obtain ⟨k, hk, rfl⟩ := h
  exact ⟨k, i, rfl, hk⟩
theorem pr_size (k : Tm) (i : Nat) : (pr k i).size = k.size + 2 := by simp [pr, Tm.size, Tm.sizes]; omega
theorem prs_sizes (K : List Tm) : Tm.sizes (prs K) = Tm.sizes K + 2 * K.length := by
  have : ∀ (K : List Tm) (f : Nat → Nat), Tm.sizes (K.mapIdx fun i k => pr k (f i)) = Tm.sizes K + 2 * K.length := by
    intro K
    induction K with
    | nil => intro f; rfl
    | cons k K ih =>
      intro f
      rw [List.mapIdx_cons]
      simp only [Tm.sizes, pr_size, List.length_cons]
      rw [ih fun i => f (i + 1)]
      omega
  exact this K id
theorem pr_isPair (k : Tm) (i : Nat) : isPair (pr k i) = true := rfl
theorem prs_pair (K : List Tm) : (prs K).all isPair = true := List.all_eq_true.2 fun t h => by obtain ⟨k, i, rfl, _⟩ := prs_mem h; rfl
theorem keyOfT_pr (k : Tm) (i : Nat) : keyOfT (pr k i) = k := rfl
theorem valOf_pr (k : Tm) (i : Nat) : valOf (pr k i) = i := rfl
/-- The keys do not decrease, and of equal keys the values increase. -/
def Asc (x y : Tm) : Prop := keyCmp x y < 0 ∨ (keyCmp x y = 0 ∧ valOf x < valOf y)
theorem insC_asc {t : Tm} : ∀ {l : List Tm}, Srt keyCmp l → l.Pairwise Asc → (∀ x ∈ l, valOf x < valOf t) → (insC keyCmp t l).Pairwise Asc
  | [], _, _, _ => by simp [insC]
  | x :: l, hs, hp, hv => by
    have hn := key_cmp.neg x t
    have hp' := List.pairwise_cons.1 hp
    rw [insC]
    split
    · rename_i h
      refine List.pairwise_cons.2 ⟨fun y hy => ?_, hp⟩
      rcases List.mem_cons.1 hy with rfl | hy
      · exact .inl h
      · exact .inl (key_cmp.lt_of_lt_le h (hs.head y hy))
    · rename_i h
      refine List.pairwise_cons.2 ⟨fun y hy => ?_, insC_asc hs.tail hp'.2 fun z hz => hv z (by simp [hz])⟩
      rw [insC_mrg, mem_mrg] at hy
      rcases hy with hy | hy
      · exact hp'.1 y hy
      · obtain rfl : y = t := by simpa using hy
        have := hv x (by simp)
        unfold Asc
        omega
theorem prs_asc (K : List Tm) : ∀ i, i ≤ K.length → (isort keyCmp (prs (K.take i))).Pairwise Asc ∧ ∀ x ∈ prs (K.take i), valOf x < i := by
  intro i
  induction i with
  | zero => intro _; simp [prs, isort]
  | succ i ih =>
    intro hi
    obtain ⟨u, hu⟩ : ∃ u, K[i]? = some u := ⟨_, List.getElem?_eq_getElem (by omega)⟩
    obtain ⟨h1, h2⟩ := ih (by omega)
    rw [prs_take hu, isort_snoc]
    refine ⟨insC_asc (isort_srt key_cmp _) h1 fun x hx => ?_, fun x hx => ?_⟩
    · rw [valOf_pr]; exact h2 x ((isort_perm _).mem_iff.1 hx)
    · rcases List.mem_append.1 hx with h | h
      · have := h2 x h; omega
      · obtain rfl : x = pr u i := by simpa using h
        rw [valOf_pr]; omega
theorem prs_nodup (K : List Tm) : (isort keyCmp (prs K)).Nodup := by
  have h := (prs_asc K K.length (Nat.le_refl _)).1
  rw [List.take_length] at h
  refine h.imp fun {x y} h => ?_
  rintro rfl
  rcases h with h | h
  · rw [key_cmp.self] at h; omega
  · omega
theorem cnt_one {l : List Tm} {t : Tm} (hv : validAll l = true) (hn : l.Nodup) (ht : t ∈ l) : cnt l t = 1 := by
  have hvt := validAll_mem hv ht
  induction l with
  | nil => simp at ht
  | cons x l ih =>
    obtain ⟨h1, h2⟩ := List.nodup_cons.1 hn
    have hx := validAll_mem hv (List.mem_cons_self (a := x))
    have hl : validAll l = true := List.all_eq_true.2 fun y hy => validAll_mem hv (by simp [hy])
    have e : same x t = decide (x.cmp t = 0) := by simp [same, hx, hvt]
    unfold cnt
    rw [List.filter_cons, e]
    rcases List.mem_cons.1 ht with rfl | ht
    · have hz : l.filter (fun u => same u t) = [] := List.filter_eq_nil_iff.2 fun u hu => by
        have hu' := validAll_mem hl hu
        simp only [same, hu', hvt, Tm.cmp_zero, Bool.true_and, decide_eq_true_eq]
        rintro rfl
        exact h1 hu
      simp [hz, Tm.cmp_self]
    · have hne : x ≠ t := fun h => h1 (h ▸ ht)
      have hne' : ¬ x.cmp t = 0 := fun h => hne (Tm.cmp_zero.1 h)
      simp only [hne', decide_false, if_false, Bool.false_eq_true]
      exact ih hl h2 ht
end Go.Proofs.Yteaehiceghhajaa
