/- What is proved: the program's measure. -/
import Derived.Test.YtenkiofpobeilaaCyc
set_option linter.unusedSimpArgs false
set_option linter.unusedVariables false
namespace Go.Proofs.Ytenkiofpobeilaa
open Go.Am
def SzI (l : List B) (m : List (Int × PV)) : Prop := ∃ f : Int → Int, MapI m f ∧ ∀ v, f v ≠ 0 → fndB l v = true ∧ f v = ((min (rs l (toB l v)).size 2001 : Nat) : Int)
theorem SzI.put {l : List B} {m : List (Int × PV)} (h : SzI l m) {v : Int} (hf : fndB l v = true) : SzI l (mPut v (.int .i64 ((min (rs l (toB l v)).size 2001 : Nat) : Int)) m) := by
 obtain ⟨f, h1, h2⟩ := h
 refine ⟨_, h1.put v _, fun w hw => ?_⟩
 by_cases e : w = v
 ·subst e; simp [hf]
 ·simp only [if_neg e] at hw ⊢; exact h2 w hw
def XL (n : Nat) (t : Tm) : Heap := [.box (some 4) (.pv (some 4) t.pv), .box (some 4) (.pv (some 4) t.pv), .box (some 4) (zagg (n + 4)), .arr (some 4) [] false, .arr (some 4) [] false, .box (some 4) (zagg (n + 4)), .arr (some 4) [] false]
end Go.Proofs.Ytenkiofpobeilaa
