/- The spans of variables, as plain data. -/
import Derived.Test.YtmajapjbogmefaaOcc
import Derived.Test.YtmajapjbogmefaaAm4
import Derived.Test.YtmajapjbogmefaaStable
set_option linter.unusedSimpArgs false
set_option linter.unusedVariables false
namespace Go.Proofs.Ytmajapjbogmefaa
open Go.Am
structure Sp where
  v : Int
  at_ : Nat
  first : Int
  last : Int
def Sp.pv (x : Sp) : PV := .agg [(none, .int .i64 x.at_), (none, .int .i64 x.first), (none, .int .i64 x.last)]
def Sp.ent (x : Sp) : PV × PV := (.int .i64 x.v, x.pv)
def spSet (v c : Int) : List Sp → List Sp
  | [] => []
  | x :: r => if x.v = v then ⟨x.v, x.at_, x.first, c⟩ :: r else x :: spSet v c r
def spFind (v : Int) : List Sp → Option Sp
  | [] => none
  | x :: r => if x.v = v then some x else spFind v r
def spStep (l : List Sp) (p : Int × Int) : List Sp :=
  match spFind p.1 l with
  | some _ => spSet p.1 p.2 l
  | none => l ++ [⟨p.1, l.length, p.2, p.2⟩]
def sps (L : List (Int × Int)) : List Sp := L.foldl spStep []
def ents (l : List Sp) : List (PV × PV) := l.map Sp.ent
def ords (l : List Sp) : List PV := l.map fun x => .int .i64 x.v
theorem sps_snoc (L : List (Int × Int)) (p : Int × Int) : sps (L ++ [p]) = spStep (sps L) p := by simp [sps]
theorem spSet_len (v c : Int) : ∀ l, (spSet v c l).length = l.length
  | [] => rfl
  | x :: r => by unfold spSet; split <;> simp [spSet_len v c r]
theorem spStep_len (l : List Sp) (p : Int × Int) : (spStep l p).length ≤ l.length + 1 := by
  unfold spStep
  split
  · rw [spSet_len]; omega
  · simp
theorem sps_len (L : List (Int × Int)) : (sps L).length ≤ L.length := by
  have : ∀ (L : List (Int × Int)) (l : List Sp), (L.foldl spStep l).length ≤ l.length + L.length := by
    intro L
    induction L with
    | nil => intro l; simp
    | cons p r ih => intro l; have h1 := ih (spStep l p); have h2 := spStep_len l p; simp only [List.foldl_cons, List.length_cons]; omega
  simpa [sps] using this L []
theorem ents_find (v : Int) : ∀ l : List Sp, afind false (.int .i64 v) (ents l) = some ((spFind v l).map Sp.pv)
  | [] => rfl
  | x :: r => by
    have ih := ents_find v r
    unfold ents at ih ⊢
    simp only [List.map_cons, Sp.ent, afind, PV.same, if_true, spFind]
    by_cases h : x.v = v
    · simp [h]
    · have h' : ¬ v = x.v := fun e => h e.symm
      simp only [decide_eq_false h', if_neg h]
      exact ih
theorem ents_put_new (v c : Int) (n : Nat) : ∀ l : List Sp, spFind v l = none → aput false (.int .i64 v) (Sp.pv ⟨v, n, c, c⟩) (ents l) = some (ents (l ++ [⟨v, n, c, c⟩]))
  | [], _ => rfl
  | x :: r, h => by
    unfold spFind at h
    split at h
    · cases h
    · rename_i hne
      have ih := ents_put_new v c n r h
      unfold ents at ih ⊢
      have h' : ¬ v = x.v := fun e => hne e.symm
      simp only [List.map_cons, Sp.ent, aput, PV.same, if_true, decide_eq_false h', List.cons_append]
      rw [ih]
theorem ents_put_old (v c : Int) : ∀ (l : List Sp) (x : Sp), spFind v l = some x → aput false (.int .i64 v) (Sp.pv ⟨x.v, x.at_, x.first, c⟩) (ents l) = some (ents (spSet v c l))
  | [], x, h => by cases h
  | y :: r, x, h => by
    unfold spFind at h
    split at h
    · rename_i he
      cases h
      simp [ents, Sp.ent, aput, PV.same, he, spSet]
    · rename_i hne
      have ih := ents_put_old v c r x h
      unfold ents at ih ⊢
      have h' : ¬ v = y.v := fun e => hne e.symm
      simp only [List.map_cons, Sp.ent, aput, PV.same, if_true, decide_eq_false h', spSet, if_neg hne]
      rw [ih]
theorem ords_set (v c : Int) : ∀ l, ords (spSet v c l) = ords l
  | [] => rfl
  | x :: r => by
    have ih := ords_set v c r
    unfold ords at ih ⊢
    unfold spSet
    split
    · simp
    · simp [ih]
theorem ords_len (l : List Sp) : (ords l).length = l.length := by simp [ords]
def lastOf (l : List Sp) (v : Int) : Int := match spFind v l with | some x => x.last | none => 0
def firstOf (l : List Sp) (v : Int) : Int := match spFind v l with | some x => x.first | none => 0
theorem spFind_v {v : Int} : ∀ {l : List Sp} {x : Sp}, spFind v l = some x → x.v = v
  | [], x, h => by cases h
  | y :: r, x, h => by
    unfold spFind at h
    split at h
    · cases h; assumption
    · exact spFind_v h
end Go.Proofs.Ytmajapjbogmefaa
