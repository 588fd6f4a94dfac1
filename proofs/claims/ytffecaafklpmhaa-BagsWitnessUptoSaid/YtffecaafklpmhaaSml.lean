/- Small facts of terms and runs. -/
import Derived.Test.YtffecaafklpmhaaCl
import Derived.Test.YtffecaafklpmhaaAm4
set_option linter.unusedSimpArgs false
set_option linter.unusedVariables false
namespace Go.Proofs.Ytffecaafklpmhaa
open Go.Am
theorem Tm.occs_inv {l : List Tm} {w : Int} (hw : w ∈ Tm.occs l) : ∃ u ∈ l, w ∈ u.occ := by
 induction l with
 | nil => cases hw
 | cons x r ih =>
  rw [Tm.occs] at hw
  rcases List.mem_append.1 hw with h | h
  ·exact ⟨x, List.mem_cons_self, h⟩
  ·obtain ⟨u, hu, h⟩ := ih h
   exact ⟨u, List.mem_cons_of_mem _ hu, h⟩
def tvar (v : Int) : Tm := .mk 0 v [] []
theorem valid_fits {t : Tm} (h : t.valid = true) : t.fits = true := by simp [Tm.valid] at h; exact h.2
theorem valid_size {t : Tm} (h : t.valid = true) : t.size ≤ 2000 := by simp [Tm.valid] at h; exact h.1
theorem valid_of {t : Tm} (h : t.fits = true) (h2 : t.size ≤ 2000) : t.valid = true := by simp [Tm.valid, h, h2]
theorem valid_arg {t u : Tm} (h : t.valid = true) (hu : u ∈ t.args) : u.valid = true := by
 unfold Tm.valid at h ⊢
 simp only [Bool.and_eq_true, decide_eq_true_eq] at h ⊢
 have := Tm.arg_lt hu
 exact ⟨by omega, Tm.fits_arg h.2 hu⟩
theorem take_snoc {α : Type} {l : List α} {i : Nat} {x : α} (h : l[i]? = some x) : l.take (i + 1) = l.take i ++ [x] := by
 rw [List.take_add_one, h]; rfl
theorem fit9 {t : Tm} (h : t.valid = true) : t.size < 1000000000 := by have := valid_size h; omega
def zt : Tm := .mk 0 0 [] []
theorem hb0 : sBuild [(none, .pv none (.int .i64 0)), (none, .pv none (.int .i64 0)), (none, .pv none (.str [])), (none, .tsl (some 4) [])] [] [] = some (.agg [(none, .pv none (.int .i64 0)), (none, .pv none (.int .i64 0)), (none, .pv none (.str [])), (none, .tsl (some 4) [])]) := rfl
end Go.Proofs.Ytffecaafklpmhaa
