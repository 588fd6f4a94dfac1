/- What is proved: term.Clone of a valid term is the term. -/
import Derived.Test.YtenkiofpobeilaaSm
import Derived.Test.YtenkiofpobeilaaAm4
set_option linter.unusedSimpArgs false
set_option linter.unusedVariables false
namespace Go.Proofs.Ytenkiofpobeilaa
open Go.Am
theorem get_pre {α : Type} (l r : List α) (k : Nat) : (l ++ r)[l.length + k]? = r[k]? := by
  rw [List.getElem?_append_right (by omega)]
  congr 1
  omega
theorem get_pre0 {α : Type} (l r : List α) : (l ++ r)[l.length]? = r[0]? := get_pre l r 0
theorem set_pre {α : Type} (l r : List α) (k : Nat) (x : α) : (l ++ r).set (l.length + k) x = l ++ r.set k x := by
  rw [List.set_append_right _ _ (by omega)]
  congr 2
  omega
theorem set_pre0 {α : Type} (l r : List α) (x : α) : (l ++ r).set l.length x = l ++ r.set 0 x := set_pre l r 0 x
theorem own_cons_sl (s s0 : Sh) (r v o n : Nat) (l : List (Sh × AV)) (hp : Heap) : ownComps ((s, .sl s0 r v o n) :: l) hp = ownCons (s, .sl s0 r v o n) (ownComps l hp) := rfl
theorem op_bslicen {Γ : Oracle} {b : Nat} {vs : List AV} {hp : Heap} {K : AV → Heap → Prop} {Kp : PV → Heap → Prop} (sh : Sh) (n : Nat) : opK (aOp Γ b (.bslicen sh n) vs hp) K Kp = stepK (wBslice sh hp (vs.drop n)) (fun v hp' => (vs.take n).all (samePtr hp hp') = true ∧ K v hp') := by
  simp only [aOp, aBslicen]
  cases wBslice sh hp (vs.drop n) with
  | none => rfl
  | some r =>
    obtain ⟨v, hp'⟩ := r
    simp only [opK, stepK]
    split
    · rename_i h; split at h
      · cases h; simp [*]
      · cases h
    · rename_i h; split at h <;> cases h
    · rename_i h; split at h
      · cases h
      · simp [*]
def appH (n : Nat) (t : Tm) (i : Nat) : Heap := [.box (some 4) (.pv (some 4) t.pv), .box (some 4) (.agg [(none, .pv none (.int .i64 0)), (none, .pv none (.int .i64 0)), (none, .pv none (.str [])), (none, .sl (some 4) (n + 2) 0 0 0)]), .arr (some 4) [] false, .box (some 4) (.agg [(none, .pv none (.int .i64 t.kind)), (none, .pv none (.int .i64 t.n)), (none, .pv none (.str t.name)), (none, .sl (some 4) (n + 5) i 0 i)]), .arr (some 4) [] false, .arr (some 4) (Tm.pvs (t.args.take i)) false]
theorem samePtr_c {hp hp' : Heap} {r o q i : Nat} {t : Tm} (h : hp[r]? = some (.box (some 4) (.agg [(none, .pv none (.int .i64 t.kind)), (none, .pv none (.int .i64 t.n)), (none, .pv none (.str t.name)), (none, .sl (some 4) q i 0 i)]))) (h' : hp'[r]? = some (.box (some 4) (.agg [(none, .pv none (.int .i64 t.kind)), (none, .pv none (.int .i64 t.n)), (none, .pv none (.str t.name)), (none, .sl (some 4) q i 0 i)]))) : samePtr hp hp' (.ptr r o) = true := by
  simp [samePtr, h, h', AObj.beq, AV.beq, AV.beqc, PV.beq]
theorem Tm.valid_fits {t : Tm} (h : t.valid = true) : t.fits = true := by
  unfold Tm.valid at h
  simp only [Bool.and_eq_true] at h
  exact h.2
end Go.Proofs.Ytenkiofpobeilaa
