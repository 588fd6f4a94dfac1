/- What is proved: what chunk.Of gives. -/
import Derived.Test.YtmajapjbogmefaaOf1
set_option linter.unusedSimpArgs false
set_option linter.unusedVariables false
namespace Go.Proofs.Ytmajapjbogmefaa
open Go.Am
theorem isNaN_ok (hp : Heap) (x : Int) : S 45 [.pv none (.int .i64 x)] hp = some (.ret (.pv none (.bool false)), hp) := by
  refine sem_pure rfl rfl rfl (freezeAll_pvs [(none, .int .i64 x)]) rfl ?_
  (repeat' (first | (simp -dsimp -implicitDefEqProofs only [g45, c45r0, c45r1, c45, go_sem, seval, ↓reduceIte, *]) | (refine iteK_intro (fun _ => ?_) (fun _ => ?_))))
theorem cmpInt_ok (hp : Heap) (x y : Int) : S 27 [.pv none (.int .i64 x), .pv none (.int .i64 y)] hp = some (.ret (.pv none (.int .i64 (cmpI x y))), hp) := by
  refine sem_pure rfl rfl rfl (freezeAll_pvs [(none, .int .i64 x), (none, .int .i64 y)]) rfl ?_
  (repeat' (first | (simp -dsimp -implicitDefEqProofs only [g27, c27r0, c27r1, c27r2, c27r3, c27r4, c27r5, c27k6, c27r7, c27k8, c27r9, c27r10, c27k11, c27r12, c27r13, c27k14, c27r15, c27r16, c27k17, c27r18, c27, go_sem, seval, ↓reduceIte, isNaN_ok, cmpI, *]) | (refine iteK_intro (fun _ => ?_) (fun _ => ?_))))
def lastPV (l : List Sp) : PV → Int
  | .int _ v => lastOf l v
  | _ => 0
def lastC (l : List Sp) (p q : PV) : Int := cmpI (lastPV l q) (lastPV l p)
theorem lastC_cmp (l : List Sp) : Cmp (lastC l) where
  neg x y := by unfold lastC cmpI; split <;> split <;> first | rfl | omega | (split <;> omega)
  trans {x y z} h1 h2 := by
    unfold lastC cmpI at *
    repeat' split
    all_goals (repeat' split at h1)
    all_goals (repeat' split at h2)
    all_goals omega
def isVar (p : PV) : Prop := ∃ v, p = .int .i64 v
theorem last_lookup (l : List Sp) (v : Int) (hp : Heap) (a0 a1 a2 a3 a4 : AObj) (e : Heap) : ∃ t, rLookup false (some 3) (.pv (some 3) (.agg [(none, .int .i64 0), (none, .int .i64 0), (none, .int .i64 0)])) false (a0 :: a1 :: a2 :: a3 :: a4 :: .map (some 3) (ents l) :: e) [.map 5, .pv none (.int .i64 v)] = some (.pv (some 3) t) ∧ PV.part deep t 2 none = some (.int .i64 (lastOf l v)) ∧ PV.part deep t 1 none = some (.int .i64 (firstOf l v)) := by
  have hf := ents_find v l
  unfold lastOf firstOf
  cases hs : spFind v l with
  | none =>
    rw [hs] at hf
    exact ⟨_, r_lookup_none (str := false) (hp := a0 :: a1 :: a2 :: a3 :: a4 :: .map (some 3) (ents l) :: e) (r := 5) rfl hf, rfl, rfl⟩
  | some y =>
    rw [hs] at hf
    exact ⟨_, r_lookup_some (str := false) (hp := a0 :: a1 :: a2 :: a3 :: a4 :: .map (some 3) (ents l) :: e) (r := 5) rfl hf, rfl, rfl⟩
theorem of26_ok (x : Fl) (l : List Sp) (P : List PV) : CmpF (lastC l) (.func (.func 26) [] [.ptr 6 0]) isVar (hOf x l P) 3 := by
  refine ⟨_, _, _, rfl, ?_⟩
  rintro _ _ ⟨a, rfl⟩ ⟨b, rfl⟩ A
  obtain ⟨t, h1, h2, _⟩ := last_lookup l a [] (.box (some 5) (.pv (some 5) x.pv)) (.box (some 3) (.agg [(none, .sl none 2 0 0 0), (none, .sl none 3 P.length 0 P.length), (none, .sl none 4 0 0 0)])) (.arr none [] false) A (.arr none [] false) [.box none (.map 5), .box none (.sl none 8 l.length 0 l.length), .arr none (ords l) false, .box (some 5) (.pv (some 5) x.pv)]
  obtain ⟨u, h3, h4, _⟩ := last_lookup l b [] (.box (some 5) (.pv (some 5) x.pv)) (.box (some 3) (.agg [(none, .sl none 2 0 0 0), (none, .sl none 3 P.length 0 P.length), (none, .sl none 4 0 0 0)])) (.arr none [] false) A (.arr none [] false) [.box none (.map 5), .box none (.sl none 8 l.length 0 l.length), .arr none (ords l) false, .box (some 5) (.pv (some 5) x.pv)]
  refine sem_heap rfl rfl rfl rfl ?_
  simp -dsimp -implicitDefEqProofs only [g26, c26r0, c26r1, c26, go_sem, seval, ↓reduceIte, hOf, h1, h2, h3, h4, cmpInt_ok]
  simp [AV.refsIn, lastC, lastPV]
end Go.Proofs.Ytmajapjbogmefaa
