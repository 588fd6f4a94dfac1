/- What is proved: the reference's Follow, Resolved and Resolve. -/
import Derived.Test.YtenkiofpobeilaaRs
set_option linter.unusedSimpArgs false
set_option linter.unusedVariables false
namespace Go.Proofs.Ytenkiofpobeilaa
open Go.Am
theorem rfollow_ok (l : List B) (t : Tm) (h : OKB l) (hl : l.length < 1000000000) (hv : t.valid = true) (hp : Heap) :
  S 54 [.pv none (.sl (some 5) (bds l)), t.av] hp = some (.ret (flw l t).av, hp) := by
 refine sem_pure rfl rfl rfl (freezeAll_pvs [(none, .sl (some 5) (bds l)), (some 4, t.pv)]) rfl ?_
 simp -dsimp -implicitDefEqProofs only [g54, c54r0, c54r1, c54k2, c54r3, c54r4, c54r5, c54k6, c54r7, c54k8, c54b9, c54k10, c54r11, c54, go_sem, seval, ↓reduceIte, Tm.av, w_alloc_agg]
 refine W_loop (fun n st => ∃ t1 : Tm, n = mu l t1 ∧ t1.valid = true ∧ flw l t1 = flw l t ∧ st = ⟨[(0, .pv none (.sl (some 5) (bds l))), (3, .ptr 0 0), (4, .ptr 1 0)], [.box (some 4) (.pv (some 4) t1.pv), .box (some 4) (.agg [(none, .pv none (.int .i64 0)), (none, .pv none (.int .i64 0)), (none, .pv none (.str [])), (none, .sl (some 4) 2 0 0 0)]), .arr (some 4) [] false]⟩) (n := mu l t) ⟨t, rfl, hv, rfl, ?_⟩ ?_
 ·simp -dsimp -implicitDefEqProofs only [go_sem, seval, ↓reduceIte]
  try rfl
 ·rintro n st ⟨t1, rfl, hv1, he, rfl⟩
  by_cases hk : t1.kind = 0
  ·have hfd := rfind_ok l t1.n h.good.1 hl
   by_cases hf : fndB l t1.n = true
   ·have hfi : fdI l t1.n = (lbB l t1.n : Int) := by unfold fdI; rw [if_pos hf]
    have hnn : ¬ ((lbB l t1.n : Nat) : Int) < 0 := by omega
    rw [hfi] at hfd
    have hlt := mu_to h.Acyc hk hf
    simp -dsimp -implicitDefEqProofs only [g54, c54r0, c54r1, c54k2, c54r3, c54r4, c54r5, c54k6, c54r7, c54k8, c54b9, c54k10, c54r11, c54, go_sem, seval, ↓reduceIte, part_kind, part_n, hk, hfd, hnn, s_iaddr_pv (bds_get (fnd_get hf)), part_to]
    refine ⟨mu l (toB l t1.n), hlt, toB l t1.n, rfl, (h.to hf).1, by rw [← he, flw_to h.Acyc hk hf], rfl⟩
   ·have hfi : fdI l t1.n = -1 := by unfold fdI; rw [if_neg hf]
    have hnn : (-1 : Int) < 0 := by omega
    rw [hfi] at hfd
    rw [flw_free h.Acyc (valid_fits hv1) hk hf] at he
    rw [← he]
    simp -dsimp -implicitDefEqProofs only [g54, c54r0, c54r1, c54k2, c54r3, c54r4, c54r5, c54k6, c54r7, c54k8, c54b9, c54k10, c54r11, c54, go_sem, seval, ↓reduceIte, part_kind, part_n, hk, hfd, hnn]
    rfl
  ·rw [flw_str l hk] at he
   rw [← he]
   simp -dsimp -implicitDefEqProofs only [g54, c54r0, c54r1, c54k2, c54r3, c54r4, c54r5, c54k6, c54r7, c54k8, c54b9, c54k10, c54r11, c54, go_sem, seval, ↓reduceIte, part_kind, part_n, hk]
   rfl
def rawP (k n : Int) (s : List UInt8) (es : List PV) : PV := .agg [(none, .int .i64 k), (none, .int .i64 n), (none, .str s), (none, .sl (some 4) es)]
def appG (t : Tm) (es : List PV) : Heap := [.box (some 4) (.pv (some 4) t.pv), .box (some 4) (.agg [(none, .pv none (.int .i64 0)), (none, .pv none (.int .i64 0)), (none, .pv none (.str [])), (none, .sl (some 4) 2 0 0 0)]), .arr (some 4) [] false, .box (some 4) (.agg [(none, .pv none (.int .i64 t.kind)), (none, .pv none (.int .i64 t.n)), (none, .pv none (.str t.name)), (none, .sl (some 4) 5 es.length 0 es.length)]), .arr (some 4) [] false, .arr (some 4) es false]
def RV (R : Tm) (left : Nat) (v : AV) : Prop := ∃ (p : PV) (e : Int), v = .tuple [.pv (some 4) p, .pv none (.int .i64 e)] ∧ (R.size ≤ left → p = R.pv ∧ e = (left : Int) - R.size) ∧ (left < R.size → e = -1)
def zt : Tm := .mk 0 0 [] []
noncomputable def rsd (l : List B) (t : Tm) : Tm × Bool := if (rs l t).size ≤ 2000 then (rs l t, true) else (zt, false)
theorem hb0 : sBuild [(none, .pv none (.int .i64 0)), (none, .pv none (.int .i64 0)), (none, .pv none (.str [])), (none, .tsl (some 4) [])] [] [] = some (.agg [(none, .pv none (.int .i64 0)), (none, .pv none (.int .i64 0)), (none, .pv none (.str [])), (none, .tsl (some 4) [])]) := rfl
end Go.Proofs.Ytenkiofpobeilaa
