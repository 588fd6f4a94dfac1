/- What is proved: elements of lists, names of structures, the next variable. -/
import Derived.Test.YtffecaafklpmhaaPFre
set_option linter.unusedSimpArgs false
set_option linter.unusedVariables false
namespace Go.Proofs.Ytffecaafklpmhaa
open Go.Am
def cs (t : Tm) : Prop := t.kind = 3 ∧ t.name = [46] ∧ t.args.length = 2
instance (t : Tm) : Decidable (cs t) := inferInstanceAs (Decidable (_ ∧ _))
def tl (t : Tm) : Tm := if h : cs t then tl (arg1 t) else t
termination_by t.size
decreasing_by exact Tm.arg_lt (mem_arg1 h.2.2)
def els (t : Tm) : List Tm := if h : cs t then arg0 t :: els (arg1 t) else []
termination_by t.size
decreasing_by exact Tm.arg_lt (mem_arg1 h.2.2)
theorem tl_c {t : Tm} (h : cs t) : tl t = tl (arg1 t) := by rw [tl, dif_pos h]
theorem tl_n {t : Tm} (h : ¬ cs t) : tl t = t := by rw [tl, dif_neg h]
theorem els_c {t : Tm} (h : cs t) : els t = arg0 t :: els (arg1 t) := by rw [els, dif_pos h]
theorem els_n {t : Tm} (h : ¬ cs t) : els t = [] := by rw [els, dif_neg h]
theorem els_len : ∀ (n : Nat) (t : Tm), t.size = n → (els t).length ≤ t.size := by
 intro n
 induction n using Nat.strongRecOn with
 | _ n ih =>
  intro t hn
  by_cases h : cs t
  ·have h3 := Tm.arg_lt (mem_arg1 h.2.2)
   have := ih _ (by omega) (arg1 t) rfl
   rw [els_c h, List.length_cons]; omega
  ·rw [els_n h]; exact Nat.zero_le _
theorem frozen_els {l : List Tm} {t : Tm} {a0 a1 a2 a3 : AObj} : Am.frozen (.tuple [.pv none (.sl (some 4) (Tm.pvs l)), .pv (some 4) t.pv]) (.tuple [.sl (some 4) 4 l.length 0 l.length, .pv (some 4) t.pv]) [a0, a1, a2, a3, .arr (some 4) (Tm.pvs l) false] := by
 refine ⟨[a0, a1, a2, a3, .arr (some 4) (Tm.pvs l) true], ?_⟩
 have e2 : ∀ p hp, AV.freeze deep (.pv (some 4) p) hp = some (p, hp) := fun _ _ => rfl
 simp [AV.freezeRes, freezeAll, e2, AV.freeze, deep, Tm.pvs_len, pvs, AV.shp]
theorem pelems_ok (t : Tm) (hv : t.valid = true) (hp : Heap) : S 11 [t.av] hp = some (.ret (.tuple [.pv none (.sl (some 4) (Tm.pvs (els t))), (tl t).av]), hp) := by
 refine sem_pure rfl rfl rfl (freezeAll_pvs [(some 4, t.pv)]) rfl ?_
 have hz := valid_size hv
 have hlen := els_len _ t rfl
 have h1 := fun hp => valid_ok t hp (by omega)
 have hn0 : ∀ H : Heap, wNilsl (some 4) H = some (.sl (some 4) H.length 0 0 0, H ++ [.arr (some 4) [] false]) := fun H => w_nilsl (sh := some 4) (by decide)
 simp only [Tm.av] at h1
 simp -dsimp -implicitDefEqProofs only [g11, c11r0, c11r1, c11r2, c11k3, c11r4, c11r5, c11k6, c11r7, c11r8, c11k9, c11b10, c11k11, c11r12, c11, go_sem, seval, ↓reduceIte, Tm.av, h1, hv, hn0, w_alloc_agg]
 refine W_loop (fun n st => ∃ (t1 : Tm) (d : List Tm), n = t1.size ∧ t1.valid = true ∧ d ++ els t1 = els t ∧ tl t1 = tl t ∧ st = ⟨[(1, .ptr 0 0), (3, .ptr 2 0), (4, .sl (some 4) 4 d.length 0 d.length)], [.box (some 4) (.pv (some 4) t1.pv), .arr (some 4) [] false, .box (some 4) (zg 3), .arr (some 4) [] false, .arr (some 4) (Tm.pvs d) false]⟩) (n := t.size) ⟨t, [], rfl, hv, rfl, rfl, rfl⟩ ?_
 rintro n st ⟨t1, d, rfl, hv1, he, ht, rfl⟩
 have hdl := congrArg List.length he
 rw [List.length_append] at hdl
 by_cases h : cs t1
 ·have hlt := Tm.arg_lt (mem_arg1 h.2.2)
  have v0 := valid_arg hv1 (mem_arg0 h.2.2)
  have v1 := valid_arg hv1 (mem_arg1 h.2.2)
  have hcp := fun hp => clone_ok (arg0 t1) hp v0 (fit9 v0)
  have hlim : d.length + 1 ≤ lim := by unfold lim; omega
  have hpl := Tm.pvs_len d
  have k1 := eq_true h.1
  have k2 := eq_true h.2.1
  have k3 := eq_true (show (t1.args.length : Int) = 2 by have := h.2.2; omega)
  rw [els_c h] at he
  simp only [Tm.av] at hcp
  simp -dsimp -implicitDefEqProofs only [g11, c11r0, c11r1, c11r2, c11k3, c11r4, c11r5, c11k6, c11r7, c11r8, c11k9, c11b10, c11k11, c11r12, c11, go_sem, seval, ↓reduceIte, zg, part_kind, part_name, part_args, Tm.pvs_len, k1, k2, k3, hcp, ia0 (Tm.pvs_get (get_arg0 h.2.2)), ia1 (Tm.pvs_get (get_arg1 h.2.2)), hpl, hlim]
  refine ⟨_, hlt, arg1 t1, d ++ [arg0 t1], rfl, v1, by rw [← he, List.append_assoc]; rfl, by rw [← ht, tl_c h], ?_⟩
  rw [Tm.pvs_append, List.length_append]
  rfl
 ·have hcp := fun hp => clone_ok t1 hp hv1 (fit9 hv1)
  rw [els_n h, List.append_nil] at he
  rw [tl_n h] at ht
  simp only [Tm.av] at hcp
  rw [← he, ← ht]
  by_cases k1 : t1.kind = 3
  ·have k1' := eq_true k1
   by_cases k2 : t1.name = [46]
   ·have k2' := eq_true k2
    have k3' := eq_false (show ¬ (t1.args.length : Int) = 2 by
     intro e
     exact h ⟨k1, k2, by omega⟩)
    simp -dsimp -implicitDefEqProofs only [g11, c11r0, c11r1, c11r2, c11k3, c11r4, c11r5, c11k6, c11r7, c11r8, c11k9, c11b10, c11k11, c11r12, c11, go_sem, seval, ↓reduceIte, zg, part_kind, part_name, part_args, Tm.pvs_len, k1', k2', k3', hcp]
    exact frozen_els
   ·have k2' := eq_false k2
    simp -dsimp -implicitDefEqProofs only [g11, c11r0, c11r1, c11r2, c11k3, c11r4, c11r5, c11k6, c11r7, c11r8, c11k9, c11b10, c11k11, c11r12, c11, go_sem, seval, ↓reduceIte, zg, part_kind, part_name, part_args, Tm.pvs_len, k1', k2', hcp]
    exact frozen_els
  ·have k1' := eq_false k1
   simp -dsimp -implicitDefEqProofs only [g11, c11r0, c11r1, c11r2, c11k3, c11r4, c11r5, c11k6, c11r7, c11r8, c11k9, c11b10, c11k11, c11r12, c11, go_sem, seval, ↓reduceIte, zg, part_kind, part_name, part_args, Tm.pvs_len, k1', hcp]
   exact frozen_els
def ll (t : Tm) : Prop := (tl t).kind = 0 ∨ ((tl t).kind = 2 ∧ (tl t).name = [91, 93])
instance (t : Tm) : Decidable (ll t) := inferInstanceAs (Decidable (_ ∨ _))
def mx (x y : Int) : Int := if x < y then y else x
def nxt (l : List Int) : Int := l.foldl (fun n v => mx n (v + 1)) 0
end Go.Proofs.Ytffecaafklpmhaa
