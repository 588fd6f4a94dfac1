/- What is proved: the reference's Follow, Resolved and Resolve. -/
import Derived.Test.YtenkiofpobeilaaRs
set_option linter.unusedSimpArgs false
set_option linter.unusedVariables false
namespace Go.Proofs.Ytenkiofpobeilaa
open Go.Am
theorem rs_flw {l : List B} (h : OKB l) {t : Tm} (hv : t.valid = true) : rs l t = .mk (flw l t).kind (flw l t).n (flw l t).name ((flw l t).args.map (rs l)) := by
 obtain ⟨h1, h2, h3, h4⟩ := flw_ok h _ t rfl hv
 rw [← h2]
 by_cases hk : (flw l t).kind = 0
 ·have e := node_var (valid_fits h1) hk
  rw [rs_free h.Acyc (valid_fits h1) hk fun e => h4 ⟨hk, e⟩]
  rw [e]
  rfl
 ·exact rs_str l hk
def rawP (k n : Int) (s : List UInt8) (es : List PV) : PV := .agg [(none, .int .i64 k), (none, .int .i64 n), (none, .str s), (none, .sl (some 4) es)]
theorem frozen_raw {hp : Heap} {r : Nat} (k n : Int) (s : List UInt8) (es : List PV) (m : Nat) (hm : m = es.length) (h : hp[r]? = some (.arr (some 4) es false)) : Am.frozen (.pv (some 4) (rawP k n s es)) (.agg [(none, .pv none (.int .i64 k)), (none, .pv none (.int .i64 n)), (none, .pv none (.str s)), (none, .sl (some 4) r m 0 m)]) hp := by
 subst hm
 refine ⟨hp.set r (.arr (some 4) es true), ?_⟩
 show (match AV.freeze (7 + 1) (.agg _) hp with | some (p, hp') => some (AV.pv _ p, hp') | none => none) = _
 have e : ∀ l hp, AV.freeze (7 + 1) (.agg l) hp = match AV.freeze.go 7 l hp with | some (ps, hp') => some (.agg ps, hp') | none => none := fun _ _ => rfl
 simp [e, AV.freeze.go, AV.freeze, h, rawP]
 rfl
def appG (t : Tm) (es : List PV) : Heap := [.box (some 4) (.pv (some 4) t.pv), .box (some 4) (.agg [(none, .pv none (.int .i64 0)), (none, .pv none (.int .i64 0)), (none, .pv none (.str [])), (none, .sl (some 4) 2 0 0 0)]), .arr (some 4) [] false, .box (some 4) (.agg [(none, .pv none (.int .i64 t.kind)), (none, .pv none (.int .i64 t.n)), (none, .pv none (.str t.name)), (none, .sl (some 4) 5 es.length 0 es.length)]), .arr (some 4) [] false, .arr (some 4) es false]
def RV (R : Tm) (left : Nat) (v : AV) : Prop := ∃ (p : PV) (e : Int), v = .tuple [.pv (some 4) p, .pv none (.int .i64 e)] ∧ (R.size ≤ left → p = R.pv ∧ e = (left : Int) - R.size) ∧ (left < R.size → e = -1)
def zt : Tm := .mk 0 0 [] []
noncomputable def rsd (l : List B) (t : Tm) : Tm × Bool := if (rs l t).size ≤ 2000 then (rs l t, true) else (zt, false)
theorem frozen_two (p q : PV) (s s' : Sh) (hp : Heap) : Am.frozen (.tuple [.pv s p, .pv s' q]) (.tuple [.pv s p, .pv s' q]) hp := by
 refine ⟨hp, ?_⟩
 have := freezeAll_pvs (hp := hp) [(s, p), (s', q)]
 simp only [pvs, List.map_cons, List.map_nil] at this
 simp only [AV.freezeRes, this]
 rfl
theorem frozen_zt2 (q : PV) (hp : Heap) (r : Nat) (h : hp[r]? = some (.arr (some 4) [] false)) : Am.frozen (.tuple [zt.av, .pv none q]) (.tuple [.agg [(none, .pv none (.int .i64 0)), (none, .pv none (.int .i64 0)), (none, .pv none (.str [])), (none, .sl (some 4) r 0 0 0)], .pv none q]) hp := by
 refine ⟨hp.set r (.arr (some 4) [] true), ?_⟩
 have e : ∀ l hp, AV.freeze (7 + 1) (.agg l) hp = match AV.freeze.go 7 l hp with | some (ps, hp') => some (.agg ps, hp') | none => none := fun _ _ => rfl
 have e2 : ∀ p hp, AV.freeze (7 + 1) (.pv none p) hp = some (p, hp) := fun _ _ => rfl
 simp [AV.freezeRes, freezeAll, deep, e, e2, AV.freeze.go, AV.freeze, h, pvs, AV.shp]
 rfl
theorem hb0 : sBuild [(none, .pv none (.int .i64 0)), (none, .pv none (.int .i64 0)), (none, .pv none (.str [])), (none, .tsl (some 4) [])] [] [] = some (.agg [(none, .pv none (.int .i64 0)), (none, .pv none (.int .i64 0)), (none, .pv none (.str [])), (none, .tsl (some 4) [])]) := rfl
end Go.Proofs.Ytenkiofpobeilaa
