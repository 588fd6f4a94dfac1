/- What is proved: what the laws of this seat are given are bindings and numbers. -/
import Derived.Test.YtenkiofpobeilaaData2
import Derived.Test.YtenkiofpobeilaaBd
import Derived.Test.YtenkiofpobeilaaAm4
set_option linter.unusedSimpArgs false
set_option linter.unusedVariables false
namespace Go.Proofs.Ytenkiofpobeilaa
open Go.Am Go.ChangeShapes Go.WideShapes Go.ChangeAt Go.RowKit
theorem wt_bind {n : Nat} {p : PV} (h : wt Try.prog n 39 p) : ∃ x : B, p = bdp x := by
 obtain ⟨m, l, rfl, h'⟩ := wt_struct (ts := [2, 25]) (by kernel_rfl) h
 obtain ⟨a, l, rfl, ha, h⟩ := wtList_cons h'
 obtain ⟨b, l, rfl, hb, h⟩ := wtList_cons h
 obtain rfl := wtList_nil h
 obtain ⟨x, rfl, _⟩ := wt_i64 (by kernel_rfl) ha
 obtain ⟨y, rfl, _⟩ := (wt_term termTy m).1 b hb
 refine ⟨(x, y), ?_⟩
 rw [show shOf Try.prog 2 = none from by kernel_rfl, show shOf Try.prog 25 = some 4 from by kernel_rfl]
 rfl
theorem bds_sz : ∀ l : List B, l.length ≤ PV.szs (bds l) ∧ ∀ b ∈ l, b.2.size ≤ PV.szs (bds l)
 | [] => ⟨Nat.zero_le _, fun b hb => by cases hb⟩
 | x :: r => by
  obtain ⟨h1, h2⟩ := bds_sz r
  have h3 := Tm.size_sz x.2
  have h4 : PV.szs (bds (x :: r)) = (bdp x).sz + PV.szs (bds r) := by simp [bds, PV.szs]
  have h5 : x.2.pv.sz + 1 ≤ (bdp x).sz := by simp [bdp, PV.sz, PV.szc]; try omega
  refine ⟨by simp only [List.length_cons]; omega, fun b hb => ?_⟩
  rcases List.mem_cons.1 hb with rfl | hb
  ·omega
  ·have := h2 b hb; omega
theorem open_binds {H : Type} {enc : TypeId × Value → H} {W : World} {base : Nat} {v : Value} {d : DataW H} {ps : List MemPlace} (h : DataW.Trod enc Try.prog W 0 (fun _ => true) true 22 v d ps) (hv : Value.okWide Try.prog W .any base 22 v) :
  ∃ l : List B, AR W (noX (P := Try.prog)) noμ [] (.pv none (.sl (some 5) (bds l))) v ∧ (l.length ≤ Rows.uptoBulk d ∧ ∀ b ∈ l, b.2.size ≤ Rows.uptoBulk d) := by
 obtain ⟨n, p, h1, h2, h3⟩ := open_any (by decide) (by kernel_rfl) h hv
 obtain ⟨es, m, rfl, he⟩ := wt_sl (e := 39) (by kernel_rfl) h2
 obtain ⟨gs, rfl, _⟩ := list_of (f := bdp) (Q := fun _ => True) es fun x hx => by
  obtain ⟨g, rfl⟩ := wt_bind (he x hx)
  exact ⟨g, rfl, trivial⟩
 rw [show shOf Try.prog 22 = none from by kernel_rfl, show shOf Try.prog 39 = some 5 from by kernel_rfl] at h1
 have h4 := bds_sz gs
 have h5 : PV.szs (bds gs) ≤ (PV.sl (shOf Try.prog 39) (gs.map bdp)).sz := by simp only [PV.sz, bds]; omega
 exact ⟨gs, h1, by omega, fun b hb => by have := h4.2 b hb; omega⟩
end Go.Proofs.Ytenkiofpobeilaa
