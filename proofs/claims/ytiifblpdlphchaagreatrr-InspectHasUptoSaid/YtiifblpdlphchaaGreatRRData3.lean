/- What is proved: what the laws of this seat are given are strings and numbers. -/
import Derived.Test.YtiifblpdlphchaaGreatRRData2
import Derived.Test.YtiifblpdlphchaaGreatRRAm4
set_option linter.unusedSimpArgs false
set_option linter.unusedVariables false
namespace Go.Proofs.YtiifblpdlphchaaGreatRR
open Go.Am Go.ChangeShapes Go.WideShapes Go.ChangeAt Go.RowKit
set_option maxRecDepth 100000 in
theorem open_i64 {H : Type} {enc : TypeId × Value → H} {W : World} {base : Nat} {v : Value} {d : DataW H} {ps : List MemPlace} (h : DataW.Trod enc Tryz.prog W 0 (fun _ => true) true 2 v d ps) (hv : Value.okWide Tryz.prog W .any base 2 v) :
    ∃ x : Int, AR W (noX (P := Tryz.prog)) noμ [] (.pv none (.int .i64 x)) v ∧ inI64 x := by
  obtain ⟨n, p, h1, h2, h3⟩ := open_any (by decide) (by kernel_rfl) h hv
  obtain ⟨x, rfl, hx⟩ := wt_i64 (by kernel_rfl) h2
  rw [show shOf Tryz.prog 2 = none from by kernel_rfl] at h1
  exact ⟨x, h1, hx⟩
set_option maxRecDepth 100000 in
theorem open_int {H : Type} {enc : TypeId × Value → H} {W : World} {base : Nat} {v : Value} {d : DataW H} {ps : List MemPlace} (h : DataW.Trod enc Tryz.prog W 0 (fun _ => true) true 3 v d ps) (hv : Value.okWide Tryz.prog W .any base 3 v) :
    ∃ x : Int, AR W (noX (P := Tryz.prog)) noμ [] (.pv none (.int .i64 x)) v ∧ inI64 x := by
  obtain ⟨n, p, h1, h2, h3⟩ := open_any (by decide) (by kernel_rfl) h hv
  obtain ⟨x, rfl, hx⟩ := wt_i64 (by kernel_rfl) h2
  rw [show shOf Tryz.prog 3 = none from by kernel_rfl] at h1
  exact ⟨x, h1, hx⟩
set_option maxRecDepth 100000 in
theorem open_str {H : Type} {enc : TypeId × Value → H} {W : World} {base : Nat} {v : Value} {d : DataW H} {ps : List MemPlace} (h : DataW.Trod enc Tryz.prog W 0 (fun _ => true) true 9 v d ps) (hv : Value.okWide Tryz.prog W .any base 9 v) :
    ∃ s : List UInt8, AR W (noX (P := Tryz.prog)) noμ [] (.pv none (.str s)) v ∧ (PV.str s).sz ≤ Rows.uptoBulk d := by
  obtain ⟨n, p, h1, h2, h3⟩ := open_any (by decide) (by kernel_rfl) h hv
  obtain ⟨s, rfl⟩ := wt_str (by kernel_rfl) h2
  rw [show shOf Tryz.prog 9 = none from by kernel_rfl] at h1
  exact ⟨s, h1, h3⟩
end Go.Proofs.YtiifblpdlphchaaGreatRR
