/- What is proved: what the laws of this seat are given are values of their types. -/
import Derived.Test.YtenkiofpobeilaaData
import Derived.Test.YtenkiofpobeilaaAm4
set_option linter.unusedSimpArgs false
set_option linter.unusedVariables false
namespace Go.Proofs.Ytenkiofpobeilaa
open Go.Am Go.ChangeShapes Go.WideShapes Go.ChangeAt Go.RowKit
theorem bulk_laws2 (H : Type) : BulkLaws2 (H := H) Rows.uptoBulk Rows.uptoBulkAll :=
 ⟨bulk_laws H, fun d => by
  cases d with
  | lit l => cases l <;> simp [Rows.uptoBulk]
  | _ => simp [Rows.uptoBulk]⟩
theorem open_any {H : Type} {enc : TypeId × Value → H} {W : World} {base : Nat} {v : Value} {d : DataW H} {ps : List MemPlace} {t : TypeId} (ht : t ∈ plainTs) (hok : okT Try.prog t = true) (h : DataW.Trod enc Try.prog W 0 (fun _ => true) true t v d ps) (hv : Value.okWide Try.prog W .any base t v) :
  ∃ n p, AR W (noX (P := Try.prog)) noμ [] (.pv (shOf Try.prog t) p) v ∧ wt Try.prog n t p ∧ p.sz ≤ Rows.uptoBulk d := by
 obtain ⟨fuel, h0⟩ := h
 obtain ⟨p, hp⟩ := data_some closed fuel _ _ _ _ ht h0
 obtain ⟨h1, h2⟩ := data_wt (bulk_laws2 H) fuel _ _ _ hp
 exact ⟨fuel, p, arg_ar ⟨fuel, h0⟩ hok hp (okWide_shp hv), h1, h2⟩
theorem wt_sl {n : Nat} {t e : TypeId} {p : PV} (hk : Try.prog.underlying t = some (.slice e)) (h : wt Try.prog n t p) : ∃ es m, p = .sl (shOf Try.prog e) es ∧ ∀ x ∈ es, wt Try.prog m e x := by
 cases n with
 | zero => exact h.elim
 | succ n => unfold wt at h; rw [hk] at h; obtain ⟨es, h1, h2⟩ := h; exact ⟨es, n, h1, h2⟩
end Go.Proofs.Ytenkiofpobeilaa
