/- What is proved: the reference's free variables. -/
import Derived.Test.YtffecaafklpmhaaLst
set_option linter.unusedSimpArgs false
set_option linter.unusedVariables false
namespace Go.Proofs.Ytffecaafklpmhaa
open Go.Am
theorem IsV.elems {s : AV} {hp : Heap} {l : List Int} (h : IsV s hp l) : Am.elems hp s = some (none, ints l) := by
 rcases h with ⟨rfl, rfl⟩ | ⟨r, rfl, h⟩
 ·rfl
 ·simp [Am.elems, h, ints_len]
def flatQ (g : Tm) : List Int := (quants g).flatMap fun q => vads [] q.occ
def hl (p g : Tm) : List Int := vads [] p.occ ++ flatQ g
theorem flatQ_q {g : Tm} (h : qd g) : flatQ g = vads [] (arg0 g).occ ++ flatQ (arg1 g) := by unfold flatQ; rw [quants_q h]; rfl
theorem flatQ_n {g : Tm} (h : ¬ qd g) : flatQ g = [] := by unfold flatQ; rw [quants_n h]; rfl
theorem flatQ_len : ∀ (n : Nat) (g : Tm), g.size = n → (flatQ g).length ≤ g.size := by
 intro n
 induction n using Nat.strongRecOn with
 | _ n ih =>
  intro g hn
  by_cases h : qd g
  ·rw [flatQ_q h, List.length_append]
   have h1 := vads_len (arg0 g).occ []
   have h2 := (arg0 g).occ_len
   have h3 := Tm.arg_lt (mem_arg1 h.2.2)
   have h4 := ih _ (by omega) (arg1 g) rfl
   have h5 : g.size = 1 + ((arg0 g).size + ((arg1 g).size + 0)) := by rw [g.size_eq, args_two h.2.2]; rfl
   rw [List.length_nil, Nat.zero_add] at h1
   omega
  ·rw [flatQ_n h]; exact Nat.zero_le _
theorem hl_len (p g : Tm) : (hl p g).length ≤ p.size + g.size := by
 have h1 := vads_len p.occ []
 have h2 := p.occ_len
 have h3 := flatQ_len _ g rfl
 unfold hl
 rw [List.length_append]
 rw [List.length_nil, Nat.zero_add] at h1
 omega
theorem IsV.keep {s : AV} {hp hp' : Heap} {l : List Int} (h : IsV s hp l) (hP : PresV (.tsl none []) hp hp') : IsV s hp' l := by
 rcases h with h | ⟨r, h1, h2⟩
 ·exact .inl h
 ·exact .inr ⟨r, h1, hP.2 r _ h2 (fun v o n e => by cases e)⟩
theorem IsV.len {s : AV} {hp : Heap} {l : List Int} (h : IsV s hp l) : sLen [s] = some (.pv none (.int .i64 l.length)) := by
 rcases h with ⟨rfl, rfl⟩ | ⟨r, rfl, _⟩ <;> rfl
theorem IsV.get {s : AV} {hp : Heap} {l : List Int} (h : IsV s hp l) {i : Nat} {x : Int} (hx : l[i]? = some x) : ∃ a, sIaddr none [s, .pv none (.int .i64 i)] = some a ∧ aload none hp a = some (.pv none (.int .i64 x)) := by
 rcases h with ⟨rfl, rfl⟩ | ⟨r, rfl, h⟩
 ·simp at hx
 ·have hlt := (List.getElem?_eq_some_iff.1 hx).1
  refine ⟨_, s_iaddr_sl hlt, ?_⟩
  simp [aload, h, ints_len, ints_get hx, toAV]
theorem IsV.other {s : AV} {hp : Heap} {l : List Int} (h : IsV s hp l) {r : Nat} {es es' : List PV} {z z' : Bool} (hr : hp[r]? = some (.arr (some 4) es z)) : IsV s (hp.set r (.arr (some 4) es' z')) l := by
 rcases h with h | ⟨q, h1, h2⟩
 ·exact .inl h
 ·refine .inr ⟨q, h1, ?_⟩
  have : r ≠ q := fun e => by rw [e, h2] at hr; cases hr
  rw [List.getElem?_set_ne this]
  exact h2
theorem mem_flatQ (w : Int) : ∀ (n : Nat) (g : Tm), g.size = n → (w ∈ flatQ g ↔ w ∈ Tm.occs (quants g)) := by
 intro n
 induction n using Nat.strongRecOn with
 | _ n ih =>
  intro g hn
  by_cases h : qd g
  ·have h3 := Tm.arg_lt (mem_arg1 h.2.2)
   rw [flatQ_q h, quants_q h, Tm.occs, List.mem_append, List.mem_append, vads_mem, ih _ (by omega) (arg1 g) rfl]
   simp
  ·rw [flatQ_n h, quants_n h]
   simp [Tm.occs]
theorem free_eq (p g : Tm) : (vads [] g.occ).filter (fun v => decide (v ∉ hl p g)) = free p g := by
 unfold free
 congr 1
 funext v
 have : v ∈ hl p g ↔ v ∈ hid p g := by
  unfold hl hid
  rw [List.mem_append, List.mem_append, vads_mem, mem_flatQ v _ g rfl]
  simp
 simp [this]
theorem free_len (p g : Tm) : (free p g).length ≤ g.size := by
 have h1 := List.length_filter_le (fun v => decide (v ∉ hid p g)) (vads [] g.occ)
 have h2 := vads_len g.occ []
 have h3 := g.occ_len
 unfold free
 rw [List.length_nil, Nat.zero_add] at h2
 omega
def frR (p g : Tm) : Tm := if p.valid = true ∧ g.valid = true then (if (lst (tvs (free p g))).valid = true then lst (tvs (free p g)) else zt) else zt
end Go.Proofs.Ytffecaafklpmhaa
