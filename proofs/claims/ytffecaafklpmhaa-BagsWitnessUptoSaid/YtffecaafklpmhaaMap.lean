/- What is proved: maps from numbers; the program's Vars. -/
import Derived.Test.YtffecaafklpmhaaVr
set_option linter.unusedSimpArgs false
set_option linter.unusedVariables false
namespace Go.Proofs.Ytffecaafklpmhaa
open Go.Am
def mFind (v : Int) : List (Int × PV) → Option PV
 | [] => none
 | x :: r => if x.1 = v then some x.2 else mFind v r
def mPut (v : Int) (p : PV) : List (Int × PV) → List (Int × PV)
 | [] => [(v, p)]
 | x :: r => if x.1 = v then (v, p) :: r else x :: mPut v p r
def kEnts (m : List (Int × PV)) : List (PV × PV) := m.map fun x => (.int .i64 x.1, x.2)
theorem kEnts_find (v : Int) : ∀ m, afind false (.int .i64 v) (kEnts m) = some (mFind v m)
 | [] => rfl
 | x :: r => by
  have ih := kEnts_find v r
  unfold kEnts at ih ⊢
  simp only [List.map_cons, afind, PV.same, if_true, mFind]
  by_cases h : x.1 = v
  ·simp [h]
  ·have h' : ¬ v = x.1 := fun e => h e.symm
   simp only [decide_eq_false h', if_neg h]
   exact ih
theorem kEnts_put (v : Int) (p : PV) : ∀ m, aput false (.int .i64 v) p (kEnts m) = some (kEnts (mPut v p m))
 | [] => rfl
 | x :: r => by
  have ih := kEnts_put v p r
  unfold kEnts at ih ⊢
  simp only [List.map_cons, aput, PV.same, if_true, mPut]
  by_cases h : x.1 = v
  ·simp [h]
  ·have h' : ¬ v = x.1 := fun e => h e.symm
   simp only [decide_eq_false h', if_neg h, List.map_cons]
   rw [ih]
theorem mFind_put (v w : Int) (p : PV) : ∀ m, mFind v (mPut w p m) = if v = w then some p else mFind v m
 | [] => by
  by_cases h : v = w
  ·simp [mPut, mFind, h]
  ·have h' : ¬ w = v := fun e => h e.symm
   simp [mPut, mFind, h, h']
 | x :: r => by
  have ih := mFind_put v w p r
  unfold mPut
  by_cases h : x.1 = w
  ·rw [if_pos h]
   by_cases e : v = w
   ·simp [mFind, e]
   ·have e' : ¬ w = v := fun q => e q.symm
    have e2 : ¬ x.1 = v := fun q => e (q.symm.trans h)
    simp [mFind, e, e', e2]
  ·rw [if_neg h]
   simp only [mFind, ih]
   by_cases e : x.1 = v
   ·have e2 : ¬ v = w := fun q => h (e.trans q)
    simp [e, e2]
   ·simp [e]
theorem look_m {m : List (Int × PV)} {z : PV} {hp : Heap} {r : Nat} {s : Sh} {v : Int} (h : hp[r]? = some (.map none (kEnts m))) : rLookup false none (.pv none z) false hp [.map r, .pv s (.int .i64 v)] = some (.pv none ((mFind v m).getD z)) := by
 have hf := kEnts_find v m
 cases hm : mFind v m with
 | none => rw [hm] at hf; exact r_lookup_none h hf
 | some x => rw [hm] at hf; exact r_lookup_some h hf
end Go.Proofs.Ytffecaafklpmhaa
