/- What is proved: the program's search for cycles. -/
import Derived.Test.YtenkiofpobeilaaBn
set_option linter.unusedSimpArgs false
set_option linter.unusedVariables false
namespace Go.Proofs.Ytenkiofpobeilaa
open Go.Am
def Dep (l : List B) (v w : Int) : Prop := fndB l v = true ∧ w ∈ (toB l v).occ
theorem dep_rank {l : List B} {r : Int → Nat} (hr : ∀ v, fndB l v = true → ∀ w ∈ (toB l v).occ, fndB l w = true → r w < r v) {a b : Int} (h : Relation.TransGen (Dep l) a b) (hb : fndB l b = true) : r b < r a := by
 induction h with
 | single h => exact hr _ h.1 _ h.2 hb
 | tail h1 h2 ih => exact Nat.lt_trans (hr _ h2.1 _ h2.2 hb) (ih h2.1)
theorem no_cycle {l : List B} {x : Int} (h : Relation.TransGen (Dep l) x x) (hx : fndB l x = true) : ¬ Acyc l := fun ⟨_, hr⟩ => Nat.lt_irrefl _ (dep_rank hr h hx)
def MapI (m : List (Int × PV)) (f : Int → Int) : Prop := ∀ v, (mFind v m).getD (.int .i64 0) = .int .i64 (f v)
theorem MapI.put {m : List (Int × PV)} {f : Int → Int} (h : MapI m f) (v x : Int) : MapI (mPut v (.int .i64 x) m) (fun w => if w = v then x else f w) := fun w => by
 rw [mFind_put]
 by_cases e : w = v
 ·simp [e]
 ·simp only [if_neg e]; exact h w
structure CInv (l : List B) (st : Int → Int) : Prop where
 val : ∀ o, st o = 0 ∨ st o = 1 ∨ st o = 2
 bnd : ∀ o, st o ≠ 0 → fndB l o = true
 done : ∃ (rk : Int → Nat) (c : Nat), ∀ v, st v = 2 → rk v < c ∧ ∀ w ∈ (toB l v).occ, fndB l w = true → st w = 2 ∧ rk w < rk v
structure CPost (l : List B) (st st' : Int → Int) (v : Int) : Prop where
 inv : CInv l st'
 opn : ∀ o, st' o = 1 ↔ st o = 1
 dn : ∀ o, st o = 2 → st' o = 2
 me : fndB l v = true → st' v = 2
def cnt (l : List B) (st : Int → Int) : Nat := (l.filter fun b => decide (st b.1 = 0)).length
theorem cnt_le {l : List B} {st st' : Int → Int} (h : ∀ o, st o ≠ 0 → st' o ≠ 0) : cnt l st' ≤ cnt l st := by
 unfold cnt
 induction l with
 | nil => exact Nat.le_refl _
 | cons x r ih =>
  simp only [List.filter_cons]
  by_cases h1 : st' x.1 = 0
  ·have h2 : st x.1 = 0 := by
    rcases Int.lt_trichotomy (st x.1) 0 with h3 | h3 | h3
    ·exact absurd h1 (h _ (by omega))
    ·exact h3
    ·exact absurd h1 (h _ (by omega))
   simp [h1, h2]; exact ih
  ·by_cases h2 : st x.1 = 0
   ·simp [h1, h2]; omega
   ·simp [h1, h2]; exact ih
theorem cnt_lt {st st' : Int → Int} (h : ∀ o, st o ≠ 0 → st' o ≠ 0) {v : Int} (h0 : st v = 0) (h1 : st' v ≠ 0) {t : Tm} : ∀ {l : List B}, (v, t) ∈ l → cnt l st' < cnt l st
 | [], hm => by cases hm
 | x :: r, hm => by
  have hle := cnt_le (l := r) h
  unfold cnt at hle ⊢
  simp only [List.filter_cons]
  by_cases e : x.1 = v
  ·rw [e]
   simp [h0, h1]; omega
  ·have hr : (v, t) ∈ r := by
    rcases List.mem_cons.1 hm with h | h
    ·exact absurd (by rw [← h]) e
    ·exact h
   have ih := cnt_lt h h0 h1 hr
   unfold cnt at ih
   by_cases h2 : st' x.1 = 0
   ·have h3 : st x.1 = 0 := by
     rcases Int.lt_trichotomy (st x.1) 0 with h3 | h3 | h3
     ·exact absurd h2 (h _ (by omega))
     ·exact h3
     ·exact absurd h2 (h _ (by omega))
    simp [h2, h3]; omega
   ·by_cases h3 : st x.1 = 0
    ·simp [h2, h3]; omega
    ·simp [h2, h3]; omega
theorem CPost.mono {l : List B} {st st' : Int → Int} {v : Int} (h : CInv l st) (hp : CPost l st st' v) (o : Int) (ho : st o ≠ 0) : st' o ≠ 0 := by
 rcases h.val o with e | e | e
 ·exact absurd e ho
 ·rw [(hp.opn o).2 e]; decide
 ·rw [hp.dn o e]; decide
theorem CInv.open_ {l : List B} {st : Int → Int} (h : CInv l st) {v : Int} (hf : fndB l v = true) (h0 : st v = 0) : CInv l (fun w => if w = v then 1 else st w) := by
 obtain ⟨h1, h2, rk, c, h3⟩ := h
 refine ⟨fun o => ?_, fun o ho => ?_, rk, c, fun w hw => ?_⟩
 ·by_cases e : o = v
  ·simp [e]
  ·simp only [if_neg e]; exact h1 o
 ·by_cases e : o = v
  ·rw [e]; exact hf
  ·simp only [if_neg e] at ho; exact h2 o ho
 ·have hne : w ≠ v := fun e => by simp [e] at hw
  simp only [if_neg hne] at hw
  obtain ⟨k1, k2⟩ := h3 w hw
  refine ⟨k1, fun x hx hfx => ?_⟩
  obtain ⟨k3, k4⟩ := k2 x hx hfx
  have hne2 : x ≠ v := fun e => by rw [e, h0] at k3; cases k3
  simp only [if_neg hne2]
  exact ⟨k3, k4⟩
theorem CInv.close_ {l : List B} {st : Int → Int} (h : CInv l st) {v : Int} (hf : fndB l v = true) (h1 : st v = 1) (hall : ∀ w ∈ (toB l v).occ, fndB l w = true → st w = 2) : CInv l (fun w => if w = v then 2 else st w) := by
 obtain ⟨g1, g2, rk, c, g3⟩ := h
 refine ⟨fun o => ?_, fun o ho => ?_, fun w => if w = v then c else rk w, c + 1, fun w hw => ?_⟩
 ·by_cases e : o = v
  ·simp [e]
  ·simp only [if_neg e]; exact g1 o
 ·by_cases e : o = v
  ·rw [e]; exact hf
  ·simp only [if_neg e] at ho; exact g2 o ho
 ·have key : ∀ x ∈ (toB l w).occ, fndB l x = true → st x = 2 → x ≠ v := fun x _ _ e e2 => by rw [e2, h1] at e; cases e
  by_cases e : w = v
  ·subst e
   refine ⟨by simp, fun x hx hfx => ?_⟩
   have k := hall x hx hfx
   have hne := key x hx hfx k
   simp only [if_neg hne, if_true]
   exact ⟨k, (g3 x k).1⟩
  ·simp only [if_neg e] at hw ⊢
   obtain ⟨k1, k2⟩ := g3 w hw
   refine ⟨by omega, fun x hx hfx => ?_⟩
   obtain ⟨k3, k4⟩ := k2 x hx hfx
   have hne := key x hx hfx k3
   simp only [if_neg hne]
   exact ⟨k3, k4⟩
theorem CInv.acyc {l : List B} {st : Int → Int} (h : CInv l st) (hall : ∀ v, fndB l v = true → st v = 2) : Acyc l := by
 obtain ⟨_, _, rk, c, g3⟩ := h
 exact ⟨rk, fun v hv w hw hf => ((g3 v (hall v hv)).2 w hw hf).2⟩
end Go.Proofs.Ytenkiofpobeilaa
