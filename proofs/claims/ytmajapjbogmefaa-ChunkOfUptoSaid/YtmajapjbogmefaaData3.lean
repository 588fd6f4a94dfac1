/- What is proved: what the laws of this seat are given are flat clauses and numbers. -/
import Derived.Test.YtmajapjbogmefaaData2
import Derived.Test.YtmajapjbogmefaaAm4
set_option linter.unusedSimpArgs false
set_option linter.unusedVariables false
namespace Go.Proofs.Ytmajapjbogmefaa
open Go.Am Go.ChangeShapes Go.WideShapes Go.ChangeAt Go.RowKit
theorem wt_pred {n : Nat} {p : PV} (h : wt Try.prog n 23 p) : ∃ x : Pr, p = x.pv := by
  obtain ⟨m, l, rfl, h'⟩ := wt_struct (ts := [9, 3, 2]) (by kernel_rfl) h
  obtain ⟨a, l, rfl, ha, h⟩ := wtList_cons h'
  obtain ⟨b, l, rfl, hb, h⟩ := wtList_cons h
  obtain ⟨c, l, rfl, hc, h⟩ := wtList_cons h
  obtain rfl := wtList_nil h
  obtain ⟨x, rfl⟩ := wt_str (by kernel_rfl) ha
  obtain ⟨y, rfl, _⟩ := wt_i64 (by kernel_rfl) hb
  obtain ⟨z, rfl, _⟩ := wt_i64 (by kernel_rfl) hc
  refine ⟨⟨x, y, z⟩, ?_⟩
  rw [show shOf Try.prog 9 = none from by kernel_rfl, show shOf Try.prog 3 = none from by kernel_rfl, show shOf Try.prog 2 = none from by kernel_rfl]
  rfl
theorem wt_args {n : Nat} {p : PV} (h : wt Try.prog n 24 p) : ∃ l : List Tm, p = .sl (some 4) (Tm.pvs l) ∧ Tm.rngs l := (wt_term termTy n).2 p h
theorem wt_goal {n : Nat} {p : PV} (h : wt Try.prog n 39 p) : ∃ x : Gl, p = x.pv := by
  obtain ⟨m, l, rfl, h'⟩ := wt_struct (ts := [3, 23, 24, 2]) (by kernel_rfl) h
  obtain ⟨a, l, rfl, ha, h⟩ := wtList_cons h'
  obtain ⟨b, l, rfl, hb, h⟩ := wtList_cons h
  obtain ⟨c, l, rfl, hc, h⟩ := wtList_cons h
  obtain ⟨d, l, rfl, hd, h⟩ := wtList_cons h
  obtain rfl := wtList_nil h
  obtain ⟨x, rfl, _⟩ := wt_i64 (by kernel_rfl) ha
  obtain ⟨y, rfl⟩ := wt_pred hb
  obtain ⟨z, rfl, _⟩ := wt_args hc
  obtain ⟨w, rfl, _⟩ := wt_i64 (by kernel_rfl) hd
  refine ⟨⟨x, y, z, w⟩, ?_⟩
  rw [show shOf Try.prog 3 = none from by kernel_rfl, show shOf Try.prog 23 = some 3 from by kernel_rfl, show shOf Try.prog 24 = none from by kernel_rfl, show shOf Try.prog 2 = none from by kernel_rfl]
  rfl
theorem wt_flat {n : Nat} {p : PV} (h : wt Try.prog n 27 p) : ∃ x : Fl, p = x.pv := by
  obtain ⟨m, l, rfl, h'⟩ := wt_struct (ts := [23, 24, 25]) (by kernel_rfl) h
  obtain ⟨a, l, rfl, ha, h⟩ := wtList_cons h'
  obtain ⟨b, l, rfl, hb, h⟩ := wtList_cons h
  obtain ⟨c, l, rfl, hc, h⟩ := wtList_cons h
  obtain rfl := wtList_nil h
  obtain ⟨x, rfl⟩ := wt_pred ha
  obtain ⟨y, rfl, _⟩ := wt_args hb
  obtain ⟨k, es, rfl, he⟩ := wt_slice (e := 39) (by kernel_rfl) hc
  obtain ⟨gs, rfl, _⟩ := list_of (f := Gl.pv) (Q := fun _ => True) es fun x hx => by
    obtain ⟨g, rfl⟩ := wt_goal (he x hx)
    exact ⟨g, rfl, trivial⟩
  refine ⟨⟨x, y, gs⟩, ?_⟩
  rw [show shOf Try.prog 23 = some 3 from by kernel_rfl, show shOf Try.prog 24 = none from by kernel_rfl, show shOf Try.prog 25 = none from by kernel_rfl, show shOf Try.prog 39 = some 6 from by kernel_rfl]
  rfl
theorem open_flat {H : Type} {enc : TypeId × Value → H} {W : World} {base : Nat} {v : Value} {d : DataW H} {ps : List MemPlace} (h : DataW.Trod enc Try.prog W 0 (fun _ => true) true 27 v d ps) (hv : Value.okWide Try.prog W .any base 27 v) :
    ∃ f : Fl, AR W (noX (P := Try.prog)) noμ [] f.av v ∧ f.pv.sz ≤ Rows.uptoBulk d := by
  obtain ⟨n, p, h1, h2, h3⟩ := open_any (by decide) (by kernel_rfl) h hv
  obtain ⟨f, rfl⟩ := wt_flat h2
  rw [show shOf Try.prog 27 = some 5 from by kernel_rfl] at h1
  exact ⟨f, h1, h3⟩
theorem open_i64 {H : Type} {enc : TypeId × Value → H} {W : World} {base : Nat} {v : Value} {d : DataW H} {ps : List MemPlace} (h : DataW.Trod enc Try.prog W 0 (fun _ => true) true 2 v d ps) (hv : Value.okWide Try.prog W .any base 2 v) :
    ∃ x : Int, AR W (noX (P := Try.prog)) noμ [] (.pv none (.int .i64 x)) v ∧ inI64 x := by
  obtain ⟨n, p, h1, h2, h3⟩ := open_any (by decide) (by kernel_rfl) h hv
  obtain ⟨x, rfl, hx⟩ := wt_i64 (by kernel_rfl) h2
  rw [show shOf Try.prog 2 = none from by kernel_rfl] at h1
  exact ⟨x, h1, hx⟩
end Go.Proofs.Ytmajapjbogmefaa
