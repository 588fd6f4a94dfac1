/- What is proved: what the laws of this seat are given are terms, lists of them, and so on. -/
import Derived.Test.YtffecaafklpmhaaBase
import Derived.Test.YtffecaafklpmhaaAm4
set_option linter.unusedSimpArgs false
set_option linter.unusedVariables false
namespace Go.Proofs.Ytffecaafklpmhaa
open Go.Am Go.ChangeShapes Go.WideShapes Go.ChangeAt Go.RowKit
theorem bulk_laws (H : Type) : BulkLaws (H := H) Rows.uptoBulk Rows.uptoBulkAll where
 nil := by simp [Rows.uptoBulkAll]
 cons d r := by simp [Rows.uptoBulkAll]
 slice e s := by simp [Rows.uptoBulk]
 agg l := by simp [Rows.uptoBulk]
 string l := by simp [Rows.uptoBulk]
theorem bulk_bound {H : Type} {l : List (DataW H)} (hk : Rows.uptoSmall H l = true) : Rows.uptoBulkAll l ≤ 1048576 := of_decide_eq_true hk
def isTermTy (P : Program) (tA tT : TypeId) : Bool :=
 (match P.underlying tA with | some (.slice t) => t == tT | _ => false) &&
 (match P.underlying tT with
  | some (.struct fs) => match fs.toList.map (·.type) with
   | [a, b, c, d] => d == tA && (match P.underlying a with | some (.int .i64) => true | _ => false) && (match P.underlying b with | some (.int .i64) => true | _ => false) && (match P.underlying c with | some .string => true | _ => false) && decide (shOf P a = none) && decide (shOf P b = none) && decide (shOf P c = none)
   | _ => false
  | _ => false) && decide (shOf P tT = some 4) && decide (shOf P tA = none)
theorem isTermTy_of {P : Program} {tA tT : TypeId} (h : isTermTy P tA tT = true) : TermTy P tA tT := by
 unfold isTermTy at h
 simp only [Bool.and_eq_true, decide_eq_true_eq] at h
 obtain ⟨⟨⟨h1, h2⟩, h3⟩, h4⟩ := h
 refine ⟨?_, ?_⟩
 ·split at h1
  ·rename_i t ht; rw [ht]; simp at h1; rw [h1]
  ·cases h1
 ·split at h2
  ·rename_i fs hfs
   split at h2
   ·rename_i a b c d hl
    simp only [Bool.and_eq_true, decide_eq_true_eq, beq_iff_eq] at h2
    obtain ⟨⟨⟨⟨⟨⟨k1, k2⟩, k3⟩, k4⟩, k5⟩, k6⟩, k7⟩ := h2
    subst k1
    refine ⟨fs, a, b, c, hfs, hl, ?_, ?_, ?_, h3, h4, k5, k6, k7⟩
    ·split at k2
     ·assumption
     ·cases k2
    ·split at k3
     ·assumption
     ·cases k3
    ·split at k4
     ·assumption
     ·cases k4
   ·cases h2
  ·cases h2
theorem termTy : TermTy Try.prog 22 24 := isTermTy_of (by kernel_rfl)
def plainTs : List TypeId := [2, 3, 4, 5, 9, 22, 24]
theorem closed : closedTs Try.prog plainTs = true := by kernel_rfl
set_option maxRecDepth 100000 in
theorem open_term {H : Type} {enc : TypeId × Value → H} {W : World} {base : Nat} {v : Value} {d : DataW H} {ps : List MemPlace} (h : DataW.Trod enc Try.prog W 0 (fun _ => true) true 24 v d ps) (hv : Value.okWide Try.prog W .any base 24 v) :
  ∃ t : Tm, AR W (noX (P := Try.prog)) noμ [] t.av v ∧ t.size ≤ Rows.uptoBulk d ∧ t.rng := by
 obtain ⟨fuel, h0⟩ := h
 obtain ⟨p, hp⟩ := data_some closed fuel _ _ _ _ (by simp [plainTs]) h0
 obtain ⟨t, rfl, h1, h2⟩ := (term_data termTy (bulk_laws H) fuel).1 d p hp
 have := arg_ar ⟨fuel, h0⟩ (by kernel_rfl) hp (okWide_shp hv)
 rw [show shOf Try.prog 24 = some 4 from by kernel_rfl] at this
 exact ⟨t, this, h1, h2⟩
end Go.Proofs.Ytffecaafklpmhaa
