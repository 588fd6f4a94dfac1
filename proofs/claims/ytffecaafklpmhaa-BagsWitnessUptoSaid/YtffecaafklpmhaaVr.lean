/- What is proved: the reference's Vars and Rename. -/
import Derived.Test.YtffecaafklpmhaaSml
set_option linter.unusedSimpArgs false
set_option linter.unusedVariables false
namespace Go.Proofs.Ytffecaafklpmhaa
open Go.Am
def ints (l : List Int) : List PV := l.map (.int .i64)
theorem ints_len (l : List Int) : (ints l).length = l.length := by simp [ints]
theorem ints_get {l : List Int} {i : Nat} {x : Int} (h : l[i]? = some x) : (ints l)[i]? = some (.int .i64 x) := by simp [ints, h]
theorem ints_snoc (l : List Int) (x : Int) : ints l ++ [.int .i64 x] = ints (l ++ [x]) := by simp [ints]
def posI (l : List Int) (x : Int) : Int := if x ∈ l then (l.idxOf x : Int) else -1
def vadd (s : List Int) (w : Int) : List Int := if w ∈ s then s else s ++ [w]
def vads (s : List Int) (ws : List Int) : List Int := ws.foldl vadd s
theorem vads_app (s a b : List Int) : vads s (a ++ b) = vads (vads s a) b := by simp [vads]
theorem vads_len (ws : List Int) : ∀ s : List Int, (vads s ws).length ≤ s.length + ws.length := by
 induction ws with
 | nil => intro s; simp [vads]
 | cons w r ih =>
  intro s
  have := ih (vadd s w)
  have h2 : (vadd s w).length ≤ s.length + 1 := by unfold vadd; split <;> simp
  simp only [vads, List.foldl_cons, List.length_cons] at this ⊢
  omega
theorem vads_mem (ws : List Int) : ∀ (s : List Int) (x : Int), x ∈ vads s ws ↔ x ∈ s ∨ x ∈ ws := by
 induction ws with
 | nil => intro s x; simp [vads]
 | cons w r ih =>
  intro s x
  have := ih (vadd s w) x
  simp only [vads, List.foldl_cons] at this ⊢
  rw [this]
  unfold vadd
  split
  ·rename_i h
   simp only [List.mem_cons]
   constructor
   ·rintro (h1 | h1) <;> simp [h1]
   ·rintro (h1 | rfl | h1)
    ·exact .inl h1
    ·exact .inl h
    ·exact .inr h1
  ·simp only [List.mem_append, List.mem_cons, List.not_mem_nil, or_false]
   constructor
   ·rintro ((h1 | h1) | h1) <;> simp [h1]
   ·rintro (h1 | h1 | h1) <;> simp [h1]
theorem vads_nodup (ws : List Int) : ∀ s : List Int, s.Nodup → (vads s ws).Nodup := by
 induction ws with
 | nil => intro s h; exact h
 | cons w r ih =>
  intro s h
  refine ih (vadd s w) ?_
  unfold vadd
  split
  ·exact h
  ·rename_i hw
   refine List.nodup_append.2 ⟨h, by simp, ?_⟩
   intro a ha b hb e
   simp at hb
   subst hb
   subst e
   exact hw ha
def IsV (s : AV) (hp : Heap) (l : List Int) : Prop := (s = .tsl none [] ∧ l = []) ∨ ∃ r, s = .sl none r l.length 0 l.length ∧ hp[r]? = some (.arr none (ints l) false)
def PresV (s : AV) (hp hp' : Heap) : Prop := hp.length ≤ hp'.length ∧ ∀ (i : Nat) (x : AObj), hp[i]? = some x → (∀ v o n, s ≠ .sl none i v o n) → hp'[i]? = some x
def OwnV (s : AV) (hp : Heap) (s' : AV) : Prop := ∀ r v o n, s' = .sl none r v o n → (∃ v o n, s = .sl none r v o n) ∨ hp.length ≤ r
theorem PresV.refl (s : AV) (hp : Heap) : PresV s hp hp := ⟨Nat.le_refl _, fun _ _ h _ => h⟩
theorem OwnV.refl (s : AV) (hp : Heap) : OwnV s hp s := fun r v o n h => .inl ⟨v, o, n, h⟩
theorem IsV.more {s : AV} {hp : Heap} {l : List Int} (h : IsV s hp l) (e : Heap) : IsV s (hp ++ e) l := by
 rcases h with h | ⟨r, h1, h2⟩
 ·exact .inl h
 ·exact .inr ⟨r, h1, by rw [List.getElem?_append_left (get_lt h2)]; exact h2⟩
theorem OwnV.trans {s s1 s2 : AV} {hp hp1 : Heap} (h1 : OwnV s hp s1) (hl : hp.length ≤ hp1.length) (h2 : OwnV s1 hp1 s2) : OwnV s hp s2 := fun r v o n e => by
 rcases h2 r v o n e with ⟨v', o', n', e'⟩ | h
 ·exact h1 r v' o' n' e'
 ·exact .inr (by omega)
theorem PresV.trans {s s1 : AV} {hp hp1 hp2 : Heap} (h1 : PresV s hp hp1) (ho : OwnV s hp s1) (h2 : PresV s1 hp1 hp2) : PresV s hp hp2 :=
 ⟨Nat.le_trans h1.1 h2.1, fun i x hx hne => h2.2 i x (h1.2 i x hx hne) fun v o n e => by
  rcases ho i v o n e with ⟨v', o', n', e'⟩ | h
  ·exact hne v' o' n' e'
  ·have := get_lt hx; omega⟩
theorem PresV.take {s : AV} {hp hp1 : Heap} {n : Nat} (h : PresV s hp hp1) (hn : hp.length ≤ n) : PresV s hp (hp1.take n) :=
 ⟨by rw [List.length_take]; have := h.1; omega, fun i x hx hne => by
  have := get_lt hx
  rw [List.getElem?_take, if_pos (by omega)]
  exact h.2 i x hx hne⟩
theorem PresV.less {s : AV} {hp e hp1 : Heap} (h : PresV s (hp ++ e) hp1) : PresV s hp hp1 :=
 ⟨by have := h.1; simp at this; omega, fun i x hx hne => h.2 i x (by rw [List.getElem?_append_left (get_lt hx)]; exact hx) hne⟩
theorem OwnV.less {s s' : AV} {hp e : Heap} (h : OwnV s (hp ++ e) s') : OwnV s hp s' := fun r v o n h1 => by
 rcases h r v o n h1 with h | h
 ·exact .inl h
 ·exact .inr (by simp at h; omega)
theorem IsV.take {s : AV} {hp : Heap} {l : List Int} {n : Nat} (h : IsV s hp l) (hr : ∀ q ∈ s.refsIn, q < n) : IsV s (hp.take n) l := by
 rcases h with h | ⟨r, rfl, h2⟩
 ·exact .inl h
 ·have : r < n := hr r (by simp [AV.refsIn])
  exact .inr ⟨r, rfl, by rw [List.getElem?_take, if_pos this]; exact h2⟩
theorem IsV.freeze {s : AV} {hp : Heap} {l : List Int} (h : IsV s hp l) : ∃ hp1, AV.freeze deep s hp = some (.sl none (ints l), hp1) ∧ s.shp = none ∧ s.plain = true := by
 rcases h with ⟨rfl, rfl⟩ | ⟨r, rfl, h⟩
 ·exact ⟨hp, rfl, rfl, rfl⟩
 ·exact ⟨hp.set r (.arr none (ints l) true), by simp [AV.freeze, deep, h, ints_len], rfl, rfl⟩
theorem isV_frozen {s : AV} {H : Heap} {l : List Int} (h : IsV s H l) : Am.frozen (.pv none (.sl none (ints l))) s H := by
 rcases h with ⟨rfl, rfl⟩ | ⟨r, rfl, h⟩
 ·exact ⟨H, rfl⟩
 ·exact ⟨H.set r (.arr none (ints l) true), by simp [AV.freezeRes, AV.freeze, deep, h, ints_len, AV.shp]⟩
theorem node_n {t : Tm} (h : t.fits = true) (hk : t.kind = 0) : 0 ≤ t.n ∧ t.n ≤ 1099511627776 := by
 rw [Tm.fits_eq] at h
 have h1 : t.node = true := by simp at h; exact h.1
 cases t with
 | mk k n s ts =>
  simp only [Tm.kind] at hk
  subst hk
  simp [Tm.node, Tm.kind, Tm.n, Tm.name, Tm.args] at h1
  obtain ⟨⟨⟨h2, h3⟩, _⟩, _⟩ := h1
  exact ⟨of_decide_eq_true h2, of_decide_eq_true h3⟩
theorem occ_rng : ∀ {t : Tm}, t.fits = true → ∀ w ∈ t.occ, 0 ≤ w ∧ w ≤ 1099511627776 := by
 intro t
 induction t using Tm.induct with
 | h t ih =>
  intro hf w hw
  rw [Tm.occ_eq] at hw
  by_cases hk : t.kind = 0
  ·rw [if_pos hk, List.mem_singleton] at hw
   rw [hw]
   exact node_n hf hk
  ·rw [if_neg hk] at hw
   obtain ⟨u, hu, h⟩ := Tm.occs_inv hw
   exact ih u hu (Tm.fits_arg hf hu) w h
end Go.Proofs.Ytffecaafklpmhaa
