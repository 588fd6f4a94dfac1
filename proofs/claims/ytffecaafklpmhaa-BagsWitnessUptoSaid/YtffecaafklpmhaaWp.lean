/- What is proved: the witness in plain terms; has. -/
import Derived.Test.YtffecaafklpmhaaHv
import Derived.Test.YtffecaafklpmhaaEx1
set_option linter.unusedSimpArgs false
set_option linter.unusedVariables false
namespace Go.Proofs.Ytffecaafklpmhaa
open Go.Am
theorem els_lst : ∀ l : List Tm, els (lst l) = l
 | [] => by rw [lst, els_n (by decide)]
 | x :: r => by
  have h : cs (consT x (lst r)) := ⟨rfl, rfl, rfl⟩
  rw [lst, els_c h]
  show x :: els (lst r) = _
  rw [els_lst r]
theorem tl_lst : ∀ l : List Tm, tl (lst l) = nilT
 | [] => by rw [lst, tl_n (by decide)]
 | x :: r => by
  have h : cs (consT x (lst r)) := ⟨rfl, rfl, rfl⟩
  rw [lst, tl_c h]
  exact tl_lst r
theorem lst_kind : ∀ l : List Tm, (lst l).kind ≠ 0
 | [] => by decide
 | _ :: _ => by show (3 : Int) ≠ 0; decide
theorem free_nodup (p g : Tm) : (free p g).Nodup := (vads_nodup _ _ List.nodup_nil).filter _
theorem mem_free (p g : Tm) (x : Int) : x ∈ free p g ↔ x ∈ vads [] g.occ ∧ x ∉ hl p g := by
 rw [← free_eq, List.mem_filter]
 simp
theorem mem_inner (x : Int) : ∀ (n : Nat) (g : Tm), g.size = n → x ∈ g.occ → x ∈ flatQ g ∨ x ∈ (inner g).occ := by
 intro n
 induction n using Nat.strongRecOn with
 | _ n ih =>
  intro g hn hx
  by_cases h : qd g
  ·have h3 := Tm.arg_lt (mem_arg1 h.2.2)
   rw [flatQ_q h, inner_q h, List.mem_append, vads_mem]
   rw [Tm.occ_eq, if_neg (by rw [h.1]; decide), args_two h.2.2] at hx
   simp only [Tm.occs, List.append_nil, List.mem_append] at hx
   rcases hx with hx | hx
   ·exact .inl (.inl (.inr hx))
   ·rcases ih _ (by omega) (arg1 g) rfl hx with k | k
    ·exact .inl (.inr k)
    ·exact .inr k
  ·rw [inner_n h]; exact .inr hx
theorem free_inner {p g : Tm} {x : Int} (h : x ∈ free p g) : x ∈ vads [] (inner g).occ := by
 obtain ⟨h1, h2⟩ := (mem_free p g x).1 h
 rw [vads_mem] at h1 ⊢
 rcases h1 with h1 | h1
 ·simp at h1
 ·rcases mem_inner x _ g rfl h1 with k | k
  ·exact absurd (by unfold hl; exact List.mem_append_right _ k) h2
  ·exact .inr k
theorem has_ok (l : List Int) (x : Int) (hl : l.length < 100000000) (hp : Heap) : SC 23 [.pv none (.sl none (ints l)), .pv none (.int .i64 x)] hp = some (.ret (.pv none (.bool (decide (x ∈ l)))), hp) := by
 refine sem_pure rfl rfl rfl (freezeAll_pvs [(none, .sl none (ints l)), (none, .int .i64 x)]) rfl ?_
 simp -dsimp -implicitDefEqProofs only [g23, c23r0, c23r1, c23r2, c23k3, c23r4, c23r5, c23k6, c23k7, c23r8, c23b9, c23k10, c23r11, c23, go_sem, seval, ↓reduceIte]
 refine W_for (α := Unit) l.length (fun i _ => x ∉ l.take i) (fun i _ => ⟨[(0, .pv none (.sl none (ints l))), (1, .pv none (.int .i64 x)), (5, .pv none (.int .i64 i))], []⟩) () ⟨by simp, rfl⟩ ?_ ?_
 ·rintro i - hi hn
  have hc : (i : Int) < (l.length : Int) := by omega
  obtain ⟨y, hy⟩ : ∃ y, l[i]? = some y := ⟨_, List.getElem?_eq_getElem hi⟩
  have w2 : IntKind.i64.wrap ((i : Int) + 1) = ((i + 1 : Nat) : Int) := by rw [wrap64 (by omega) (by omega)]; omega
  by_cases e : y = x
  ·have e' := eq_true e
   have hm : decide (x ∈ l) = true := by simp; rw [← e]; exact List.mem_of_getElem? hy
   simp -dsimp -implicitDefEqProofs only [g23, c23r0, c23r1, c23r2, c23k3, c23r4, c23r5, c23k6, c23k7, c23r8, c23b9, c23k10, c23r11, c23, go_sem, seval, ↓reduceIte, hc, ints_len, s_iaddr_pv (ints_get hy), e', hm]
   try rfl
  ·have e' := eq_false e
   simp -dsimp -implicitDefEqProofs only [g23, c23r0, c23r1, c23r2, c23k3, c23r4, c23r5, c23k6, c23k7, c23r8, c23b9, c23k10, c23r11, c23, go_sem, seval, ↓reduceIte, hc, ints_len, s_iaddr_pv (ints_get hy), e', w2]
   refine ⟨(), ?_⟩
   rw [take_snoc hy]
   simp [hn]
   exact fun k => e k.symm
 ·rintro - hn
  rw [List.take_length] at hn
  have hc : ¬ (l.length : Int) < (l.length : Int) := by omega
  have hm : decide (x ∈ l) = false := by simp [hn]
  simp -dsimp -implicitDefEqProofs only [g23, c23r0, c23r1, c23r2, c23k3, c23r4, c23r5, c23k6, c23k7, c23r8, c23b9, c23k10, c23r11, c23, go_sem, seval, ↓reduceIte, hc, ints_len, hm]
  try rfl
theorem hasO_ok (r : Nat) (fz : Bool) (l : List Int) (x : Int) (hl : l.length < 100000000) (hp : Heap) (hr : hp[r]? = some (.arr none (ints l) fz)) : SC 23 [.sl none r l.length 0 l.length, .pv none (.int .i64 x)] hp = some (.ret (.pv none (.bool (decide (x ∈ l)))), hp) := by
 have h := sem_any (F := find tabC) (prim := primC) (f := 23) (args := [.sl none r l.length 0 l.length, .pv none (.int .i64 x)]) (ps := [(none, .sl none (ints l)), (none, .int .i64 x)]) (hp := hp) (hp1 := hp.set r (.arr none (ints l) true)) rfl rfl rfl (by simp [freezeAll, AV.freeze, deep, hr, ints_len, AV.shp]) (has_ok l x hl [])
 exact h
end Go.Proofs.Ytffecaafklpmhaa
