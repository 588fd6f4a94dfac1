/- What is proved: bindings, and the place of a variable among them. -/
import Derived.Test.YtenkiofpobeilaaRCl
set_option linter.unusedSimpArgs false
set_option linter.unusedVariables false
namespace Go.Proofs.Ytenkiofpobeilaa
open Go.Am
abbrev B := Int × Tm
def bdp (b : B) : PV := .agg [(none, .int .i64 b.1), (some 4, b.2.pv)]
def bds (l : List B) : List PV := l.map bdp
theorem bds_len (l : List B) : (bds l).length = l.length := by simp [bds]
theorem bds_get {l : List B} {i : Nat} {b : B} (h : l[i]? = some b) : (bds l)[i]? = some (bdp b) := by simp [bds, h]
theorem part_var (b : B) : PV.part deep (bdp b) 0 none = some (.int .i64 b.1) := rfl
theorem part_to (b : B) : PV.part deep (bdp b) 1 (some 4) = some b.2.pv := rfl
def Srt' (l : List B) : Prop := l.Pairwise (fun a b => a.1 < b.1)
def lbB (l : List B) (v : Int) : Nat := (l.takeWhile (fun b => decide (b.1 < v))).length
def fndB (l : List B) (v : Int) : Bool := match l[lbB l v]? with
 | some b => decide (b.1 = v)
 | none => false
theorem lbB_le (l : List B) (v : Int) : lbB l v ≤ l.length := (List.takeWhile_sublist _).length_le
theorem lbB_spec {v : Int} : ∀ {l : List B}, Srt' l → ∀ {k : Nat} {x : B}, l[k]? = some x → (x.1 < v ↔ k < lbB l v)
 | [], _, k, x, h => by simp at h
 | y :: r, hs, k, x, h => by
  obtain ⟨h1, h2⟩ := List.pairwise_cons.1 hs
  unfold lbB
  by_cases hy : y.1 < v
  ·rw [List.takeWhile_cons_of_pos (by simpa using hy)]
   cases k with
   | zero => simp at h; subst h; simp [hy]
   | succ k =>
    have := lbB_spec (v := v) h2 (k := k) (x := x) (by simpa using h)
    rw [this]
    simp [lbB]
  ·rw [List.takeWhile_cons_of_neg (by simpa using hy)]
   cases k with
   | zero => simp at h; subst h; simp [hy]
   | succ k =>
    have hm : x ∈ r := List.mem_of_getElem? (by simpa using h)
    have := h1 x hm
    simp
    omega
theorem isNaN64_ok (hp : Heap) (x : Int) : S 83 [.pv none (.int .i64 x)] hp = some (.ret (.pv none (.bool false)), hp) := by
 refine sem_pure rfl rfl rfl (freezeAll_pvs [(none, .int .i64 x)]) rfl ?_
 (repeat' (first | (simp -dsimp -implicitDefEqProofs only [g83, c83r0, c83r1, c83, go_sem, seval, ↓reduceIte, *]) | (refine iteK_intro (fun _ => ?_) (fun _ => ?_))))
theorem cmpInt64_ok (hp : Heap) (x y : Int) : S 78 [.pv none (.int .i64 x), .pv none (.int .i64 y)] hp = some (.ret (.pv none (.int .i64 (cmpI x y))), hp) := by
 refine sem_pure rfl rfl rfl (freezeAll_pvs [(none, .int .i64 x), (none, .int .i64 y)]) rfl ?_
 (repeat' (first | (simp -dsimp -implicitDefEqProofs only [g78, c78r0, c78r1, c78r2, c78r3, c78r4, c78r5, c78k6, c78r7, c78k8, c78r9, c78r10, c78k11, c78r12, c78r13, c78k14, c78r15, c78r16, c78k17, c78r18, c78, go_sem, seval, ↓reduceIte, isNaN64_ok, cmpI, *]) | (refine iteK_intro (fun _ => ?_) (fun _ => ?_))))
theorem place1_ok (hp : Heap) (b : B) (v : Int) : S 77 [.pv (some 5) (bdp b), .pv none (.int .i64 v)] hp = some (.ret (.pv none (.int .i64 (cmpI b.1 v))), hp) := by
 refine sem_pure rfl rfl rfl (freezeAll_pvs [(some 5, bdp b), (none, .int .i64 v)]) rfl ?_
 have h := fun hp => cmpInt64_ok hp b.1 v
 (repeat' (first | (simp -dsimp -implicitDefEqProofs only [g77, c77r0, c77r1, c77, go_sem, seval, ↓reduceIte, part_var, *]) | (refine iteK_intro (fun _ => ?_) (fun _ => ?_))))
theorem cmpI_lt {x y : Int} : cmpI x y < 0 ↔ x < y := by
 unfold cmpI
 split
 ·simp [*]
 ·split
  ·simp [*]
  ·simp [*]
theorem bsearch_ok (l : List B) (v : Int) (hs : Srt' l) (hl : l.length < 1000000000) (hp : Heap) :
  S 76 [.pv none (.sl (some 5) (bds l)), .pv none (.int .i64 v), .pv none (.func (.func 77))] hp = some (.ret (.tuple [.pv none (.int .i64 (lbB l v : Int)), .pv none (.bool (fndB l v))]), hp) := by
 refine sem_pure rfl rfl rfl (freezeAll_pvs [(none, .sl (some 5) (bds l)), (none, .int .i64 v), (none, .func (.func 77))]) rfl ?_
 have hlb := lbB_le l v
 have hcall := fun (b : B) hp => place1_ok hp b v
 simp -dsimp -implicitDefEqProofs only [g76, c76r0, c76r1, c76r2, c76r3, c76k4, c76r5, c76r6, c76r7, c76r8, c76k9, c76k10, c76b11, c76k12, c76r13, c76, go_sem, seval, ↓reduceIte, bds_len]
 refine W_loop (fun n st => ∃ i j : Nat, n = j - i ∧ i ≤ lbB l v ∧ lbB l v ≤ j ∧ j ≤ l.length ∧ st = ⟨[(0, .pv none (.sl (some 5) (bds l))), (1, .pv none (.int .i64 v)), (2, .pv none (.func (.func 77))), (8, .pv none (.int .i64 (l.length : Int))), (9, .pv none (.int .i64 i)), (10, .pv none (.int .i64 j))], []⟩) (n := l.length) ⟨0, l.length, by omega, by omega, hlb, by omega, ?_⟩ ?_
 ·simp -dsimp -implicitDefEqProofs only [go_sem, seval, ↓reduceIte]
  try rfl
 ·rintro n st ⟨i, j, hn, h1, h2, h3, rfl⟩
  by_cases hij : i < j
  ·have hc : (i : Int) < (j : Int) := by omega
   obtain ⟨x, hx⟩ : ∃ x, l[(i + j) / 2]? = some x := ⟨_, List.getElem?_eq_getElem (by omega)⟩
   have hsp := lbB_spec (v := v) hs hx
   have w1 : IntKind.i64.wrap ((i : Int) + (j : Int)) = ((i + j : Nat) : Int) := by rw [wrap64 (by omega) (by omega)]; omega
   have w2 : IntKind.u64.wrap ((i + j : Nat) : Int) = ((i + j : Nat) : Int) := wrap_u64 (by omega) (by omega)
   have w3 : IntKind.i64.wrap (((i + j : Nat) : Int) / 2) = (((i + j) / 2 : Nat) : Int) := by rw [wrap64 (by omega) (by omega)]; omega
   have w4 : IntKind.i64.wrap ((((i + j) / 2 : Nat) : Int) + 1) = (((i + j) / 2 + 1 : Nat) : Int) := by rw [wrap64 (by omega) (by omega)]; omega
   by_cases h0 : cmpI x.1 v < 0
   ·simp -dsimp -implicitDefEqProofs only [g76, c76r0, c76r1, c76r2, c76r3, c76k4, c76r5, c76r6, c76r7, c76r8, c76k9, c76k10, c76b11, c76k12, c76r13, c76, go_sem, seval, ↓reduceIte, bds_len, hc, i_shr1 (show 0 < IntKind.bits .u64 by decide), w1, w2, w3, w4, s_iaddr_pv (bds_get hx), hcall, h0]
    refine ⟨j - ((i + j) / 2 + 1), by omega, (i + j) / 2 + 1, j, rfl, ?_, h2, h3, rfl⟩
    have := hsp.1 (cmpI_lt.1 h0)
    omega
   ·simp -dsimp -implicitDefEqProofs only [g76, c76r0, c76r1, c76r2, c76r3, c76k4, c76r5, c76r6, c76r7, c76r8, c76k9, c76k10, c76b11, c76k12, c76r13, c76, go_sem, seval, ↓reduceIte, bds_len, hc, i_shr1 (show 0 < IntKind.bits .u64 by decide), w1, w2, w3, w4, s_iaddr_pv (bds_get hx), hcall, h0]
    refine ⟨(i + j) / 2 - i, by omega, i, (i + j) / 2, rfl, h1, ?_, by omega, rfl⟩
    have : ¬ (i + j) / 2 < lbB l v := fun h => h0 (cmpI_lt.2 (hsp.2 h))
    omega
  ·have hc : ¬ (i : Int) < (j : Int) := by omega
   obtain rfl : i = lbB l v := by omega
   by_cases hll : lbB l v < l.length
   ·have hc2 : ((lbB l v : Nat) : Int) < (l.length : Int) := by omega
    obtain ⟨x, hx⟩ : ∃ x, l[lbB l v]? = some x := ⟨_, List.getElem?_eq_getElem hll⟩
    have hf : fndB l v = decide (cmpI x.1 v = 0) := by unfold fndB; rw [hx]; simp [cmpI_zero]
    simp -dsimp -implicitDefEqProofs only [g76, c76r0, c76r1, c76r2, c76r3, c76k4, c76r5, c76r6, c76r7, c76r8, c76k9, c76k10, c76b11, c76k12, c76r13, c76, go_sem, seval, ↓reduceIte, bds_len, hc, hc2, s_iaddr_pv (bds_get hx), hcall, hf]
   ·have hc2 : ¬ ((lbB l v : Nat) : Int) < (l.length : Int) := by omega
    have hf : fndB l v = false := by unfold fndB; rw [List.getElem?_eq_none (by omega)]
    simp -dsimp -implicitDefEqProofs only [g76, c76r0, c76r1, c76r2, c76r3, c76k4, c76r5, c76r6, c76r7, c76r8, c76k9, c76k10, c76b11, c76k12, c76r13, c76, go_sem, seval, ↓reduceIte, bds_len, hc, hc2, hf]
theorem place_ok (l : List B) (v : Int) (hs : Srt' l) (hl : l.length < 1000000000) (hp : Heap) :
  S 61 [.pv none (.sl (some 5) (bds l)), .pv none (.int .i64 v)] hp = some (.ret (.tuple [.pv none (.int .i64 (lbB l v : Int)), .pv none (.bool (fndB l v))]), hp) := by
 refine sem_pure rfl rfl rfl (freezeAll_pvs [(none, .sl (some 5) (bds l)), (none, .int .i64 v)]) rfl ?_
 have h := bsearch_ok l v hs hl
 simp -dsimp -implicitDefEqProofs only [g61, c61r0, c61r1, c61, go_sem, seval, ↓reduceIte, h]
def IsB (s : AV) (hp : Heap) (l : List B) : Prop := (s = .tsl (some 5) [] ∧ l = []) ∨ ∃ r, s = .sl (some 5) r l.length 0 l.length ∧ hp[r]? = some (.arr (some 5) (bds l) false)
theorem IsB.freeze {s : AV} {hp : Heap} {l : List B} (h : IsB s hp l) : ∃ hp1, AV.freeze deep s hp = some (.sl (some 5) (bds l), hp1) ∧ s.shp = none ∧ s.plain = true := by
 rcases h with ⟨rfl, rfl⟩ | ⟨r, rfl, h⟩
 ·exact ⟨hp, rfl, rfl, rfl⟩
 ·exact ⟨hp.set r (.arr (some 5) (bds l) true), by simp [AV.freeze, deep, h, bds_len], rfl, rfl⟩
theorem place_own {s : AV} {hp : Heap} {l : List B} (h : IsB s hp l) (v : Int) (hs : Srt' l) (hl : l.length < 1000000000) :
  S 61 [s, .pv none (.int .i64 v)] hp = some (.ret (.tuple [.pv none (.int .i64 (lbB l v : Int)), .pv none (.bool (fndB l v))]), hp) := by
 obtain ⟨hp1, h1, h2, _⟩ := h.freeze
 have := sem_any (F := find tab) (prim := prim) (f := 61) (args := [s, .pv none (.int .i64 v)]) (ps := [(none, .sl (some 5) (bds l)), (none, .int .i64 v)]) (hp := hp) (hp1 := hp1) rfl rfl rfl (by
  have e : ∀ H : Heap, AV.freeze deep (.pv none (.int .i64 v)) H = some (.int .i64 v, H) := fun _ => rfl
  simp only [freezeAll, h1, e, h2]; rfl) (place_ok l v hs hl [])
 exact this
end Go.Proofs.Ytenkiofpobeilaa
