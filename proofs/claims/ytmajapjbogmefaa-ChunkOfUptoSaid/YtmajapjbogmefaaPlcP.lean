/- Occurrences as pairs, counted. -/
import Derived.Test.YtmajapjbogmefaaFlat
set_option linter.unusedSimpArgs false
set_option linter.unusedVariables false
namespace Go.Proofs.Ytmajapjbogmefaa
open Go.Am
def pl (x : Int × Int) : PV := placeP x.2 x.1
def hereP (calls : Int) (g : Gl) : List (Int × Int) := (Tm.occs g.args).map (fun v => (v, calls)) ++ (if g.op = true then [(g.var, calls)] else [])
def plcsP : Int → List Gl → List (Int × Int)
  | _, [] => []
  | calls, g :: r => hereP calls g ++ plcsP (g.next calls) r
def placesP (f : Fl) : List (Int × Int) := (Tm.occs f.args).map (fun v => (v, 0)) ++ plcsP 0 f.goals
theorem hereP_eq (c : Int) (g : Gl) : (hereP c g).map pl = g.here c := by
  unfold hereP Gl.here
  cases g.op <;> simp [pl, Function.comp_def]
theorem plcsP_eq : ∀ (l : List Gl) (c : Int), (plcsP c l).map pl = Gl.plcs c l
  | [], c => rfl
  | g :: r, c => by simp only [plcsP, Gl.plcs, List.map_append, hereP_eq, plcsP_eq r]
theorem placesP_eq (f : Fl) : (placesP f).map pl = f.plcs := by
  unfold placesP Fl.plcs
  simp [plcsP_eq, pl, Function.comp_def]
def cnt (v : Int) (l : List (Int × Int)) : Nat := l.countP (fun x => decide (x.1 = v))
theorem cnt_take {v : Int} {l : List (Int × Int)} {i : Nat} {x : Int × Int} (h : l[i]? = some x) : cnt v (l.take (i + 1)) = cnt v (l.take i) + (if x.1 = v then 1 else 0) := by
  obtain ⟨h1, rfl⟩ := List.getElem?_eq_some_iff.1 h
  rw [List.take_succ_eq_append_getElem h1]
  simp only [cnt, List.countP_append, List.countP_cons, List.countP_nil]
  by_cases e : l[i].1 = v <;> simp [e]
theorem part_place (x : Int × Int) : PV.part deep (pl x) 0 none = some (.int .i64 x.1) := rfl
end Go.Proofs.Ytmajapjbogmefaa
