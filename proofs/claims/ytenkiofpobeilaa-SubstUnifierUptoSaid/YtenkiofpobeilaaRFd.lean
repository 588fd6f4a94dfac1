/- What is proved: the reference's search among bindings, and its insertion. -/
import Derived.Test.YtenkiofpobeilaaMt
set_option linter.unusedSimpArgs false
set_option linter.unusedVariables false
namespace Go.Proofs.Ytenkiofpobeilaa
open Go.Am
def fdI (l : List B) (v : Int) : Int := if fndB l v = true then (lbB l v : Int) else -1
theorem rfind_ok (l : List B) (v : Int) (hs : Srt' l) (hl : l.length < 1000000000) (hp : Heap) :
  S 19 [.pv none (.sl (some 5) (bds l)), .pv none (.int .i64 v)] hp = some (.ret (.pv none (.int .i64 (fdI l v))), hp) := by
 refine sem_pure rfl rfl rfl (freezeAll_pvs [(none, .sl (some 5) (bds l)), (none, .int .i64 v)]) rfl ?_
 have hlb := lbB_le l v
 simp -dsimp -implicitDefEqProofs only [g19, c19r0, c19r1, c19r2, c19k3, c19r4, c19r5, c19r6, c19r7, c19k8, c19k9, c19b10, c19k11, c19r12, c19r13, c19k14, c19r15, c19, go_sem, seval, ↓reduceIte, bds_len]
 refine W_loop (fun n st => ∃ i j : Nat, n = j - i ∧ i ≤ lbB l v ∧ lbB l v ≤ j ∧ j ≤ l.length ∧ st = ⟨[(0, .pv none (.sl (some 5) (bds l))), (1, .pv none (.int .i64 v)), (5, .pv none (.int .i64 i)), (6, .pv none (.int .i64 j))], []⟩) (n := l.length) ⟨0, l.length, by omega, by omega, hlb, by omega, ?_⟩ ?_
 ·simp -dsimp -implicitDefEqProofs only [go_sem, seval, ↓reduceIte]
  try rfl
 ·rintro n st ⟨i, j, hn, h1, h2, h3, rfl⟩
  by_cases hij : i < j
  ·have hc : (i : Int) < (j : Int) := by omega
   obtain ⟨x, hx⟩ : ∃ x, l[(i + j) / 2]? = some x := ⟨_, List.getElem?_eq_getElem (by omega)⟩
   have hsp := lbB_spec (v := v) hs hx
   have w1 : IntKind.i64.wrap ((i : Int) + (j : Int)) = ((i + j : Nat) : Int) := by rw [wrap64 (by omega) (by omega)]; omega
   have w3 : intBin .quo .i64 ((i + j : Nat) : Int) 2 = some (.int .i64 (((i + j) / 2 : Nat) : Int)) := by
    have : ((i + j : Nat) : Int).tdiv 2 = (((i + j) / 2 : Nat) : Int) := by rw [Int.tdiv_eq_ediv_of_nonneg (by omega)]; omega
    simp only [intBin, this]
    rw [wrap64 (by omega) (by omega)]
    rfl
   have w4 : IntKind.i64.wrap ((((i + j) / 2 : Nat) : Int) + 1) = (((i + j) / 2 + 1 : Nat) : Int) := by rw [wrap64 (by omega) (by omega)]; omega
   by_cases h0 : x.1 < v
   ·simp -dsimp -implicitDefEqProofs only [g19, c19r0, c19r1, c19r2, c19k3, c19r4, c19r5, c19r6, c19r7, c19k8, c19k9, c19b10, c19k11, c19r12, c19r13, c19k14, c19r15, c19, go_sem, seval, ↓reduceIte, bds_len, hc, w1, w3, w4, s_iaddr_pv (bds_get hx), part_var, h0]
    refine ⟨j - ((i + j) / 2 + 1), by omega, (i + j) / 2 + 1, j, rfl, ?_, h2, h3, rfl⟩
    have := hsp.1 h0
    omega
   ·simp -dsimp -implicitDefEqProofs only [g19, c19r0, c19r1, c19r2, c19k3, c19r4, c19r5, c19r6, c19r7, c19k8, c19k9, c19b10, c19k11, c19r12, c19r13, c19k14, c19r15, c19, go_sem, seval, ↓reduceIte, bds_len, hc, w1, w3, w4, s_iaddr_pv (bds_get hx), part_var, h0]
    refine ⟨(i + j) / 2 - i, by omega, i, (i + j) / 2, rfl, h1, ?_, by omega, rfl⟩
    have : ¬ (i + j) / 2 < lbB l v := fun h => h0 (hsp.2 h)
    omega
  ·have hc : ¬ (i : Int) < (j : Int) := by omega
   obtain rfl : i = lbB l v := by omega
   by_cases hll : lbB l v < l.length
   ·have hc2 : ((lbB l v : Nat) : Int) < (l.length : Int) := by omega
    obtain ⟨x, hx⟩ : ∃ x, l[lbB l v]? = some x := ⟨_, List.getElem?_eq_getElem hll⟩
    have hf : fndB l v = decide (x.1 = v) := by unfold fndB; rw [hx]
    by_cases hxv : x.1 = v
    ·have hfd : fdI l v = (lbB l v : Int) := by unfold fdI; rw [hf]; simp [hxv]
     rw [hfd]
     simp -dsimp -implicitDefEqProofs only [g19, c19r0, c19r1, c19r2, c19k3, c19r4, c19r5, c19r6, c19r7, c19k8, c19k9, c19b10, c19k11, c19r12, c19r13, c19k14, c19r15, c19, go_sem, seval, ↓reduceIte, bds_len, hc, hc2, s_iaddr_pv (bds_get hx), part_var, hxv]
    ·have hfd : fdI l v = -1 := by unfold fdI; rw [hf]; simp [hxv]
     rw [hfd]
     simp -dsimp -implicitDefEqProofs only [g19, c19r0, c19r1, c19r2, c19k3, c19r4, c19r5, c19r6, c19r7, c19k8, c19k9, c19b10, c19k11, c19r12, c19r13, c19k14, c19r15, c19, go_sem, seval, ↓reduceIte, bds_len, hc, hc2, s_iaddr_pv (bds_get hx), part_var, hxv]
   ·have hc2 : ¬ ((lbB l v : Nat) : Int) < (l.length : Int) := by omega
    have hfd : fdI l v = -1 := by unfold fdI fndB; rw [List.getElem?_eq_none (by omega)]; rfl
    rw [hfd]
    simp -dsimp -implicitDefEqProofs only [g19, c19r0, c19r1, c19r2, c19k3, c19r4, c19r5, c19r6, c19r7, c19k8, c19k9, c19b10, c19k11, c19r12, c19r13, c19k14, c19r15, c19, go_sem, seval, ↓reduceIte, bds_len, hc, hc2]
def bo (l : List B) (v : Int) (t : Tm) (i : Nat) : List B := if lbB l v < i then (insB l v t).take (i + 1) else l.take i
theorem take_snoc {α : Type} {l : List α} {i : Nat} {x : α} (h : l[i]? = some x) : l.take (i + 1) = l.take i ++ [x] := by
 rw [List.take_add_one, h]; rfl
end Go.Proofs.Ytenkiofpobeilaa
