/- What is proved: the reference's search among bindings, and its insertion. -/
import Derived.Test.YtenkiofpobeilaaMt
set_option linter.unusedSimpArgs false
set_option linter.unusedVariables false
namespace Go.Proofs.Ytenkiofpobeilaa
open Go.Am
def fdI (l : List B) (v : Int) : Int := if fndB l v = true then (lbB l v : Int) else -1
theorem rfind_ok (l : List B) (v : Int) (hs : Srt' l) (hl : l.length < 1000000000) (hp : Heap) :
  S 19 [.pv none (.sl (some 5) (bds l)), .pv none (.int .i64 v)] hp = some (.ret (.pv none (.int .i64 (fdI l v))), hp) := by
 refine sem_pure rfl rfl rfl (freezeAll_pvs [(none, .sl (some 5) (bds l)), (none, .int .i64 v)]) rfl ?_
 have hlb := lbB_le l v
 simp -dsimp -implicitDefEqProofs only [g19, c19r0, c19r1, c19r2, c19k3, c19r4, c19r5, c19r6, c19r7, c19k8, c19k9, c19b10, c19k11, c19r12, c19r13, c19k14, c19r15, c19, go_sem, seval, ↓reduceIte, bds_len]
 refine W_loop (fun n st => ∃ i j : Nat, n = j - i ∧ i ≤ lbB l v ∧ lbB l v ≤ j ∧ j ≤ l.length ∧ st = ⟨[(0, .pv none (.sl (some 5) (bds l))), (1, .pv none (.int .i64 v)), (5, .pv none (.int .i64 i)), (6, .pv none (.int .i64 j))], []⟩) (n := l.length) ⟨0, l.length, by omega, by omega, hlb, by omega, ?_⟩ ?_
 ·simp -dsimp -implicitDefEqProofs only [go_sem, seval, ↓reduceIte]
  try rfl
 ·rintro n st ⟨i, j, hn, h1, h2, h3, rfl⟩
  by_cases hij : i < j
  ·have hc : (i : Int) < (j : Int) := by omega
   obtain ⟨x, hx⟩ : ∃ x, l[(i + j) / 2]? = some x := ⟨_, List.getElem?_eq_getElem (by omega)⟩
   have hsp := lbB_spec (v := v) hs hx
   have w1 : IntKind.i64.wrap ((i : Int) + (j : Int)) = ((i + j : Nat) : Int) := by rw [wrap64 (by omega) (by omega)]; omega
   have w3 : intBin .quo .i64 ((i + j : Nat) : Int) 2 = some (.int .i64 (((i + j) / 2 : Nat) : Int)) := by
    have : ((i + j : Nat) : Int).tdiv 2 = (((i + j) / 2 : Nat) : Int) := by rw [Int.tdiv_eq_ediv_of_nonneg (by omega)]; omega
    simp only [intBin, this]
    rw [wrap64 (by omega) (by omega)]
    rfl
   have w4 : IntKind.i64.wrap ((((i + j) / 2 : Nat) : Int) + 1) = (((i + j) / 2 + 1 : Nat) : Int) := by rw [wrap64 (by omega) (by omega)]; omega
   by_cases h0 : x.1 < v
   ·simp -dsimp -implicitDefEqProofs only [g19, c19r0, c19r1, c19r2, c19k3, c19r4, c19r5, c19r6, c19r7, c19k8, c19k9, c19b10, c19k11, c19r12, c19r13, c19k14, c19r15, c19, go_sem, seval, ↓reduceIte, bds_len, hc, w1, w3, w4, s_iaddr_pv (bds_get hx), part_var, h0]
    refine ⟨j - ((i + j) / 2 + 1), by omega, (i + j) / 2 + 1, j, rfl, ?_, h2, h3, rfl⟩
    have := hsp.1 h0
    omega
   ·simp -dsimp -implicitDefEqProofs only [g19, c19r0, c19r1, c19r2, c19k3, c19r4, c19r5, c19r6, c19r7, c19k8, c19k9, c19b10, c19k11, c19r12, c19r13, c19k14, c19r15, c19, go_sem, seval, ↓reduceIte, bds_len, hc, w1, w3, w4, s_iaddr_pv (bds_get hx), part_var, h0]
    refine ⟨(i + j) / 2 - i, by omega, i, (i + j) / 2, rfl, h1, ?_, by omega, rfl⟩
    have : ¬ (i + j) / 2 < lbB l v := fun h => h0 (hsp.2 h)
    omega
  ·have hc : ¬ (i : Int) < (j : Int) := by omega
   obtain rfl : i = lbB l v := by omega
   by_cases hll : lbB l v < l.length
   ·have hc2 : ((lbB l v : Nat) : Int) < (l.length : Int) := by omega
    obtain ⟨x, hx⟩ : ∃ x, l[lbB l v]? = some x := ⟨_, List.getElem?_eq_getElem hll⟩
    have hf : fndB l v = decide (x.1 = v) := by unfold fndB; rw [hx]
    by_cases hxv : x.1 = v
    ·have hfd : fdI l v = (lbB l v : Int) := by unfold fdI; rw [hf]; simp [hxv]
     rw [hfd]
     simp -dsimp -implicitDefEqProofs only [g19, c19r0, c19r1, c19r2, c19k3, c19r4, c19r5, c19r6, c19r7, c19k8, c19k9, c19b10, c19k11, c19r12, c19r13, c19k14, c19r15, c19, go_sem, seval, ↓reduceIte, bds_len, hc, hc2, s_iaddr_pv (bds_get hx), part_var, hxv]
    ·have hfd : fdI l v = -1 := by unfold fdI; rw [hf]; simp [hxv]
     rw [hfd]
     simp -dsimp -implicitDefEqProofs only [g19, c19r0, c19r1, c19r2, c19k3, c19r4, c19r5, c19r6, c19r7, c19k8, c19k9, c19b10, c19k11, c19r12, c19r13, c19k14, c19r15, c19, go_sem, seval, ↓reduceIte, bds_len, hc, hc2, s_iaddr_pv (bds_get hx), part_var, hxv]
   ·have hc2 : ¬ ((lbB l v : Nat) : Int) < (l.length : Int) := by omega
    have hfd : fdI l v = -1 := by unfold fdI fndB; rw [List.getElem?_eq_none (by omega)]; rfl
    rw [hfd]
    simp -dsimp -implicitDefEqProofs only [g19, c19r0, c19r1, c19r2, c19k3, c19r4, c19r5, c19r6, c19r7, c19k8, c19k9, c19b10, c19k11, c19r12, c19r13, c19k14, c19r15, c19, go_sem, seval, ↓reduceIte, bds_len, hc, hc2]
def bo (l : List B) (v : Int) (t : Tm) (i : Nat) : List B := if lbB l v < i then (insB l v t).take (i + 1) else l.take i
theorem bo_len {l : List B} {v : Int} {t : Tm} {i : Nat} (h : i ≤ l.length) : (bo l v t i).length ≤ i + 1 := by
 unfold bo
 split <;> simp <;> omega
theorem take_snoc {α : Type} {l : List α} {i : Nat} {x : α} (h : l[i]? = some x) : l.take (i + 1) = l.take i ++ [x] := by
 rw [List.take_add_one, h]; rfl
theorem insB_get_lo {l : List B} {v : Int} {t : Tm} {i : Nat} (h : i < lbB l v) : (insB l v t)[i]? = l[i]? := by
 have := lbB_le l v
 unfold insB
 rw [List.append_assoc, List.getElem?_append_left (by rw [List.length_take]; omega), List.getElem?_take, if_pos h]
theorem insB_get_at (l : List B) (v : Int) (t : Tm) : (insB l v t)[lbB l v]? = some (v, t) := by
 have := lbB_le l v
 unfold insB
 have e : (l.take (lbB l v)).length = lbB l v := by rw [List.length_take]; omega
 rw [List.append_assoc, List.getElem?_append_right (by omega), e]
 simp
theorem insB_get_hi {l : List B} {v : Int} {t : Tm} {i : Nat} (h : lbB l v ≤ i) : (insB l v t)[i + 1]? = l[i]? := by
 have := lbB_le l v
 unfold insB
 have e : (l.take (lbB l v)).length = lbB l v := by rw [List.length_take]; omega
 rw [List.append_assoc, List.getElem?_append_right (by omega), e, show i + 1 - lbB l v = (i - lbB l v) + 1 by omega]
 simp only [List.singleton_append, List.getElem?_cons_succ, List.getElem?_drop]
 congr 1
 omega
theorem bo_lo {l : List B} {v : Int} {t : Tm} {i : Nat} {b : B} (h : i < lbB l v) (hb : l[i]? = some b) : bo l v t (i + 1) = bo l v t i ++ [b] := by
 unfold bo
 rw [if_neg (by omega), if_neg (by omega), take_snoc hb]
theorem bo_hi {l : List B} {v : Int} {t : Tm} {i : Nat} {b : B} (h : lbB l v < i) (hb : l[i]? = some b) : bo l v t (i + 1) = bo l v t i ++ [b] := by
 unfold bo
 rw [if_pos (by omega), if_pos h, take_snoc (by rw [insB_get_hi (by omega)]; exact hb)]
theorem bo_at {l : List B} {v : Int} {t : Tm} {b : B} (hb : l[lbB l v]? = some b) : bo l v t (lbB l v + 1) = bo l v t (lbB l v) ++ [(v, t)] ++ [b] := by
 unfold bo
 rw [if_pos (by omega), if_neg (by omega), take_snoc (by rw [insB_get_hi (Nat.le_refl _)]; exact hb), take_snoc (insB_get_at l v t)]
 congr 2
 apply List.ext_getElem?
 intro k
 rw [List.getElem?_take, List.getElem?_take]
 split
 ·rename_i h; exact insB_get_lo h
 ·rfl
theorem bo_end {l : List B} {v : Int} {t : Tm} : insB l v t = if lbB l v < l.length then bo l v t l.length else bo l v t l.length ++ [(v, t)] := by
 have := lbB_le l v
 split
 ·rename_i h
  unfold bo
  rw [if_pos h, ← insB_len l v t, List.take_length]
 ·rename_i h
  have e : lbB l v = l.length := by omega
  unfold bo
  rw [if_neg h]
  unfold insB
  rw [e]
  simp
theorem gt_iff {l : List B} {v : Int} (hs : Srt' l) (hf : fndB l v = false) {i : Nat} {b : B} (hb : l[i]? = some b) : v < b.1 ↔ lbB l v ≤ i := by
 have h1 := lbB_spec (v := v) hs hb
 constructor
 ·intro h
  have : ¬ b.1 < v := by omega
  rw [h1] at this
  omega
 ·intro h
  have h2 : ¬ b.1 < v := by rw [h1]; omega
  have h3 : b.1 ≠ v := by
   intro e
   have hlt := (List.getElem?_eq_some_iff.1 hb).1
   obtain ⟨c, hc⟩ : ∃ c, l[lbB l v]? = some c := ⟨_, List.getElem?_eq_getElem (by omega)⟩
   have h4 : ¬ c.1 < v := by rw [lbB_spec hs hc]; omega
   have h5 : c.1 ≠ v := by unfold fndB at hf; rw [hc] at hf; simpa using hf
   rcases Nat.eq_or_lt_of_le h with h | h
   ·rw [h] at hc; rw [hc] at hb; cases hb; exact h5 e
   ·have := List.pairwise_iff_getElem.1 hs (lbB l v) i (by omega) hlt h
    rw [(List.getElem?_eq_some_iff.1 hc).2, (List.getElem?_eq_some_iff.1 hb).2] at this
    omega
  omega
theorem rbound_ok (l : List B) (v : Int) (t : Tm) (hs : Srt' l) (hf : fndB l v = false) (hl : l.length < 100000000) (hp : Heap) :
  S 64 [.pv none (.sl (some 5) (bds l)), .pv none (.int .i64 v), .pv (some 4) t.pv] hp = some (.ret (.pv none (.sl (some 5) (bds (insB l v t)))), hp) := by
 refine sem_pure rfl rfl rfl (freezeAll_pvs [(none, .sl (some 5) (bds l)), (none, .int .i64 v), (some 4, t.pv)]) rfl ?_
 have hlb := lbB_le l v
 have hn0 : ∀ H : Heap, wNilsl (some 5) H = some (.sl (some 5) H.length 0 0 0, H ++ [.arr (some 5) [] false]) := fun H => w_nilsl (sh := some 5) (by decide)
 have hbd : sBuild [(none, .pv none (.int .i64 0)), (some 4, .agg [(none, .pv none (.int .i64 0)), (none, .pv none (.int .i64 0)), (none, .pv none (.str [])), (none, .tsl (some 4) [])])] [0, 1] [.pv none (.int .i64 v), .pv (some 4) t.pv] = some (.pv (some 5) (bdp (v, t))) := rfl
 have hap : ∀ (m : List B) (b : B), m.length + 1 < 1000000000 → wAppend (some 5) [.box (some 4) (.pv (some 4) t.pv), .arr (some 5) [] false, .arr (some 5) (bds m) false] [.sl (some 5) 2 m.length 0 m.length, .tsl (some 5) [bdp b]] = some (.sl (some 5) 2 (m ++ [b]).length 0 (m ++ [b]).length, [.box (some 4) (.pv (some 4) t.pv), .arr (some 5) [] false, .arr (some 5) (bds (m ++ [b])) false]) := fun m b hm => by
  have := w_append_tsl (sh := some 5) (s := some 5) (hp := [.box (some 4) (.pv (some 4) t.pv), .arr (some 5) [] false, .arr (some 5) (bds m) false]) (r := 2) (n := m.length) (new := [bdp b]) (show okArr (some 5) m.length (some (.arr (some 5) (bds m) false)) from ⟨rfl, bds_len m⟩) (by simp [lim]; omega)
  rw [this]
  simp [bds, arrOf]
 simp -dsimp -implicitDefEqProofs only [g64, c64r0, c64r1, c64r2, c64r3, c64r4, c64k5, c64r6, c64r7, c64r8, c64k9, c64r10, c64k11, c64r12, c64b13, c64k14, c64r15, c64r16, c64k17, c64r18, c64, go_sem, seval, ↓reduceIte, hn0]
 refine W_for (α := Unit) l.length (fun _ _ => True) (fun i _ => ⟨[(0, .pv none (.sl (some 5) (bds l))), (1, .pv none (.int .i64 v)), (5, .ptr 0 0), (7, .sl (some 5) 2 (bo l v t i).length 0 (bo l v t i).length), (8, .pv none (.bool (decide (lbB l v < i)))), (9, .pv none (.int .i64 i))], [.box (some 4) (.pv (some 4) t.pv), .arr (some 5) [] false, .arr (some 5) (bds (bo l v t i)) false]⟩) () ⟨trivial, by simp [bo, bds]; rfl⟩ ?_ ?_
 ·rintro i - h -
  have hc : (i : Int) < (l.length : Int) := by omega
  obtain ⟨b, hb⟩ : ∃ b, l[i]? = some b := ⟨_, List.getElem?_eq_getElem h⟩
  have hg := gt_iff hs hf hb
  have hbl := bo_len (l := l) (v := v) (t := t) (Nat.le_of_lt h)
  have w2 : IntKind.i64.wrap ((i : Int) + 1) = ((i + 1 : Nat) : Int) := by rw [wrap64 (by omega) (by omega)]; omega
  have ha1 := fun b => hap (bo l v t i) b (by omega)
  rcases Nat.lt_trichotomy i (lbB l v) with hlt | heq | hgt
  ·have c1 : ¬ lbB l v < i := by omega
   have c2 : ¬ v < b.1 := by rw [hg]; omega
   have c3 : decide (lbB l v < i + 1) = false := by simp; omega
   have e := bo_lo (t := t) hlt hb
   simp -dsimp -implicitDefEqProofs only [g64, c64r0, c64r1, c64r2, c64r3, c64r4, c64k5, c64r6, c64r7, c64r8, c64k9, c64r10, c64k11, c64r12, c64b13, c64k14, c64r15, c64r16, c64k17, c64r18, c64, go_sem, seval, ↓reduceIte, bds_len, hc, c1, c2, s_iaddr_pv (bds_get hb), part_var, ha1, w2]
   exact ⟨(), by rw [e, c3]⟩
  ·subst heq
   have c1 : ¬ lbB l v < lbB l v := by omega
   have c2 : v < b.1 := hg.2 (Nat.le_refl _)
   have c3 : decide (lbB l v < lbB l v + 1) = true := by simp
   have e := bo_at (t := t) hb
   have ha2 := hap (bo l v t (lbB l v) ++ [(v, t)]) b (by simp; omega)
   simp -dsimp -implicitDefEqProofs only [g64, c64r0, c64r1, c64r2, c64r3, c64r4, c64k5, c64r6, c64r7, c64r8, c64k9, c64r10, c64k11, c64r12, c64b13, c64k14, c64r15, c64r16, c64k17, c64r18, c64, go_sem, seval, ↓reduceIte, bds_len, hc, c1, c2, s_iaddr_pv (bds_get hb), part_var, hbd, ha1, ha2, w2]
   exact ⟨(), by rw [e, c3]⟩
  ·have c1 : lbB l v < i := by omega
   have c3 : decide (lbB l v < i + 1) = true := by simp; omega
   have e := bo_hi (t := t) hgt hb
   simp -dsimp -implicitDefEqProofs only [g64, c64r0, c64r1, c64r2, c64r3, c64r4, c64k5, c64r6, c64r7, c64r8, c64k9, c64r10, c64k11, c64r12, c64b13, c64k14, c64r15, c64r16, c64k17, c64r18, c64, go_sem, seval, ↓reduceIte, bds_len, hc, c1, s_iaddr_pv (bds_get hb), part_var, ha1, w2]
   exact ⟨(), by rw [e]⟩
 ·rintro - -
  have hc : ¬ (l.length : Int) < (l.length : Int) := by omega
  have hbl := bo_len (l := l) (v := v) (t := t) (Nat.le_refl _)
  have ha1 := hap (bo l v t l.length) (v, t) (by omega)
  by_cases hll : lbB l v < l.length
  ·have e : insB l v t = bo l v t l.length := by rw [bo_end, if_pos hll]
   rw [e]
   simp -dsimp -implicitDefEqProofs only [g64, c64r0, c64r1, c64r2, c64r3, c64r4, c64k5, c64r6, c64r7, c64r8, c64k9, c64r10, c64k11, c64r12, c64b13, c64k14, c64r15, c64r16, c64k17, c64r18, c64, go_sem, seval, ↓reduceIte, bds_len, hc, hll, hbd, ha1]
   done
  ·have e : insB l v t = bo l v t l.length ++ [(v, t)] := by rw [bo_end, if_neg hll]
   rw [e]
   simp -dsimp -implicitDefEqProofs only [g64, c64r0, c64r1, c64r2, c64r3, c64r4, c64k5, c64r6, c64r7, c64r8, c64k9, c64r10, c64k11, c64r12, c64b13, c64k14, c64r15, c64r16, c64k17, c64r18, c64, go_sem, seval, ↓reduceIte, bds_len, hc, hll, hbd, ha1]
   done
end Go.Proofs.Ytenkiofpobeilaa
