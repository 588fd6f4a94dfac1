/- What is proved: the reference's count of a variable's occurrences. -/
import Derived.Test.YtmajapjbogmefaaPlaces
set_option linter.unusedSimpArgs false
set_option linter.unusedVariables false
namespace Go.Proofs.Ytmajapjbogmefaa
open Go.Am
/-- Occurrences: variable and chunk. -/
def pl (x : Int × Int) : PV := placeP x.2 x.1
def hereP (calls : Int) (g : Gl) : List (Int × Int) := (Tm.occs g.args).map (fun v => (v, calls)) ++ (if g.op = true then [(g.var, calls)] else [])
def plcsP : Int → List Gl → List (Int × Int)
  | _, [] => []
  | calls, g :: r => hereP calls g ++ plcsP (g.next calls) r
def placesP (f : Fl) : List (Int × Int) := (Tm.occs f.args).map (fun v => (v, 0)) ++ plcsP 0 f.goals
theorem hereP_eq (c : Int) (g : Gl) : (hereP c g).map pl = g.here c := by
  unfold hereP Gl.here
  cases g.op <;> simp [pl, Function.comp_def]
theorem plcsP_eq : ∀ (l : List Gl) (c : Int), (plcsP c l).map pl = Gl.plcs c l
  | [], c => rfl
  | g :: r, c => by simp only [plcsP, Gl.plcs, List.map_append, hereP_eq, plcsP_eq r]
theorem placesP_eq (f : Fl) : (placesP f).map pl = f.plcs := by
  unfold placesP Fl.plcs
  simp [plcsP_eq, pl, Function.comp_def]
def cnt (v : Int) (l : List (Int × Int)) : Nat := l.countP (fun x => decide (x.1 = v))
theorem cnt_take {v : Int} {l : List (Int × Int)} {i : Nat} {x : Int × Int} (h : l[i]? = some x) : cnt v (l.take (i + 1)) = cnt v (l.take i) + (if x.1 = v then 1 else 0) := by
  obtain ⟨h1, rfl⟩ := List.getElem?_eq_some_iff.1 h
  rw [List.take_succ_eq_append_getElem h1]
  simp only [cnt, List.countP_append, List.countP_cons, List.countP_nil]
  by_cases e : l[i].1 = v <;> simp [e]
theorem part_place (x : Int × Int) : PV.part deep (pl x) 0 none = some (.int .i64 x.1) := rfl
theorem rcountLoop_ok (l : List (Int × Int)) (v : Int) (o : AObj) (Q : AExit → St → Prop) (hl : l.length < 1000000000)
    (hQ : ∀ (r : Fr) (hp : Heap), Q .normal ⟨(1, .pv none (.int .i64 v)) :: (5, .pv none (.sl (some 2) (l.map pl))) :: (6, .pv none (.int .i64 (cnt v l))) :: r, hp⟩) :
    W Z L 0 c18k15 ⟨[(1, .pv none (.int .i64 v)), (5, .pv none (.sl (some 2) (l.map pl))), (6, .pv none (.int .i64 0)), (7, .pv none (.int .i64 0))], [o]⟩ Q := by
  simp -dsimp -implicitDefEqProofs only [g18, c18r0, c18r1, c18r2, c18k3, c18r4, c18r5, c18r6, c18r7, c18k8, c18r9, c18r10, c18k11, c18k12, c18r13, c18b14, c18k15, c18r16, c18, go_sem, collect_lit0, collect_lit1, collect_lit2, collect_lit3, if_true, if_false, true_and, and_true, false_and, and_false, and_self, Nat.zero_add, Nat.add_zero, eq_self, Bool.true_eq_false, Bool.false_eq_true, cond_true, cond_false, decide_eq_true_eq, Bool.not_eq_true', Bool.not_eq_false', decide_eq_false_iff_not, not_true_eq_false, not_false_eq_true, Bool.true_and, Bool.false_and, Bool.and_true, Bool.and_false, Bool.not_true, Bool.not_false, Option.some.injEq, decide_true, decide_false, List.getElem?_cons_zero, List.getElem?_cons_succ, List.length_cons, List.length_nil, List.nil_append, List.cons_append, List.set_cons_zero, List.set_cons_succ, List.take_zero, List.drop_zero, Nat.reduceEqDiff, Nat.reduceAdd, Nat.reduceSub, Nat.reduceLT, Nat.reduceLeDiff, Nat.reduceMul, Int.reduceEq, Int.reduceLT, Int.reduceLE, Int.reduceAdd, Int.reduceSub, Int.reduceNeg, Int.reduceToNat, reduceCtorEq, ↓reduceIte]
  refine W_loop (fun n st => ∃ i : Nat, n = l.length - i ∧ i ≤ l.length ∧ st = ⟨[(1, .pv none (.int .i64 v)), (5, .pv none (.sl (some 2) (l.map pl))), (6, .pv none (.int .i64 (cnt v (l.take i)))), (7, .pv none (.int .i64 i))], [o]⟩) (n := l.length) ⟨0, rfl, Nat.zero_le _, rfl⟩ ?_
  rintro n st ⟨i, hn, hi, rfl⟩
  by_cases h : i < l.length
  · have hc : (i : Int) < (l.length : Int) := by omega
    obtain ⟨u, hu⟩ : ∃ u, l[i]? = some u := ⟨_, List.getElem?_eq_getElem h⟩
    have hum : (l.map pl)[i]? = some (pl u) := by simp [hu]
    have hct : cnt v (l.take i) ≤ l.length := Nat.le_trans (List.countP_le_length) (by simp; omega)
    have w2 : IntKind.i64.wrap ((i : Int) + 1) = ((i + 1 : Nat) : Int) := by rw [wrap64 (by omega) (by omega)]; omega
    have w3 : IntKind.i64.wrap ((cnt v (l.take i) : Int) + 1) = ((cnt v (l.take i) + 1 : Nat) : Int) := by rw [wrap64 (by omega) (by omega)]; omega
    have hct2 := cnt_take (v := v) hu
    by_cases e : u.1 = v
    · rw [if_pos e] at hct2
      simp -dsimp -implicitDefEqProofs only [g18, c18r0, c18r1, c18r2, c18k3, c18r4, c18r5, c18r6, c18r7, c18k8, c18r9, c18r10, c18k11, c18k12, c18r13, c18b14, c18k15, c18r16, c18, go_sem, collect_lit0, collect_lit1, collect_lit2, collect_lit3, if_true, if_false, true_and, and_true, false_and, and_false, and_self, Nat.zero_add, Nat.add_zero, eq_self, Bool.true_eq_false, Bool.false_eq_true, cond_true, cond_false, decide_eq_true_eq, Bool.not_eq_true', Bool.not_eq_false', decide_eq_false_iff_not, not_true_eq_false, not_false_eq_true, Bool.true_and, Bool.false_and, Bool.and_true, Bool.and_false, Bool.not_true, Bool.not_false, Option.some.injEq, decide_true, decide_false, List.getElem?_cons_zero, List.getElem?_cons_succ, List.length_cons, List.length_nil, List.nil_append, List.cons_append, List.set_cons_zero, List.set_cons_succ, List.take_zero, List.drop_zero, Nat.reduceEqDiff, Nat.reduceAdd, Nat.reduceSub, Nat.reduceLT, Nat.reduceLeDiff, Nat.reduceMul, Int.reduceEq, Int.reduceLT, Int.reduceLE, Int.reduceAdd, Int.reduceSub, Int.reduceNeg, Int.reduceToNat, reduceCtorEq, ↓reduceIte, List.length_map, hc, s_iaddr_pv hum, part_place, e, w2, w3]
      exact ⟨l.length - (i + 1), by omega, i + 1, rfl, by omega, by rw [hct2]⟩
    · rw [if_neg e] at hct2
      simp -dsimp -implicitDefEqProofs only [g18, c18r0, c18r1, c18r2, c18k3, c18r4, c18r5, c18r6, c18r7, c18k8, c18r9, c18r10, c18k11, c18k12, c18r13, c18b14, c18k15, c18r16, c18, go_sem, collect_lit0, collect_lit1, collect_lit2, collect_lit3, if_true, if_false, true_and, and_true, false_and, and_false, and_self, Nat.zero_add, Nat.add_zero, eq_self, Bool.true_eq_false, Bool.false_eq_true, cond_true, cond_false, decide_eq_true_eq, Bool.not_eq_true', Bool.not_eq_false', decide_eq_false_iff_not, not_true_eq_false, not_false_eq_true, Bool.true_and, Bool.false_and, Bool.and_true, Bool.and_false, Bool.not_true, Bool.not_false, Option.some.injEq, decide_true, decide_false, List.getElem?_cons_zero, List.getElem?_cons_succ, List.length_cons, List.length_nil, List.nil_append, List.cons_append, List.set_cons_zero, List.set_cons_succ, List.take_zero, List.drop_zero, Nat.reduceEqDiff, Nat.reduceAdd, Nat.reduceSub, Nat.reduceLT, Nat.reduceLeDiff, Nat.reduceMul, Int.reduceEq, Int.reduceLT, Int.reduceLE, Int.reduceAdd, Int.reduceSub, Int.reduceNeg, Int.reduceToNat, reduceCtorEq, ↓reduceIte, List.length_map, hc, s_iaddr_pv hum, part_place, e, w2, w3]
      exact ⟨l.length - (i + 1), by omega, i + 1, rfl, by omega, by rw [hct2]; rfl⟩
  · have hc : ¬ (i : Int) < (l.length : Int) := by omega
    obtain rfl : i = l.length := by omega
    simp -dsimp -implicitDefEqProofs only [g18, c18r0, c18r1, c18r2, c18k3, c18r4, c18r5, c18r6, c18r7, c18k8, c18r9, c18r10, c18k11, c18k12, c18r13, c18b14, c18k15, c18r16, c18, go_sem, collect_lit0, collect_lit1, collect_lit2, collect_lit3, if_true, if_false, true_and, and_true, false_and, and_false, and_self, Nat.zero_add, Nat.add_zero, eq_self, Bool.true_eq_false, Bool.false_eq_true, cond_true, cond_false, decide_eq_true_eq, Bool.not_eq_true', Bool.not_eq_false', decide_eq_false_iff_not, not_true_eq_false, not_false_eq_true, Bool.true_and, Bool.false_and, Bool.and_true, Bool.and_false, Bool.not_true, Bool.not_false, Option.some.injEq, decide_true, decide_false, List.getElem?_cons_zero, List.getElem?_cons_succ, List.length_cons, List.length_nil, List.nil_append, List.cons_append, List.set_cons_zero, List.set_cons_succ, List.take_zero, List.drop_zero, Nat.reduceEqDiff, Nat.reduceAdd, Nat.reduceSub, Nat.reduceLT, Nat.reduceLeDiff, Nat.reduceMul, Int.reduceEq, Int.reduceLT, Int.reduceLE, Int.reduceAdd, Int.reduceSub, Int.reduceNeg, Int.reduceToNat, reduceCtorEq, ↓reduceIte, List.length_map, hc]
    rw [List.take_length]
    exact hQ _ _
theorem rcount25_ok (f : Fl) (v : Int) (hp : Heap) (ha : Tm.sizes f.args < 10000000) (hl : f.plcs.length < 100000000) (hlen : f.goals.length < 1000000000) (hs : ∀ g ∈ f.goals, Tm.sizes g.args < 100000000) :
    S 18 [f.av, .pv none (.int .i64 v)] hp = some (.ret (.pv none (.int .i64 (if f.valid = true then (cnt v (placesP f) : Int) else 0))), hp) := by
  refine sem_pure rfl rfl rfl (freezeAll_pvs [(some 5, f.pv), (none, .int .i64 v)]) rfl ?_
  have hv := fun hp => rflatValid_ok f hp (by omega) (fun g hg => by have := hs g hg; omega) hlen
  have hp2 := fun hp => places_ok f hp ha hl hlen hs
  rw [← placesP_eq] at hp2 hl
  simp only [Fl.av] at hv hp2
  rw [List.length_map] at hl
  cases hval : f.valid with
  | false =>
    rw [hval] at hv
    simp -dsimp -implicitDefEqProofs only [g18, c18r0, c18r1, c18r2, c18k3, c18r4, c18r5, c18r6, c18r7, c18k8, c18r9, c18r10, c18k11, c18k12, c18r13, c18b14, c18r16, c18, go_sem, collect_lit0, collect_lit1, collect_lit2, collect_lit3, if_true, if_false, true_and, and_true, false_and, and_false, and_self, Nat.zero_add, Nat.add_zero, eq_self, Bool.true_eq_false, Bool.false_eq_true, cond_true, cond_false, decide_eq_true_eq, Bool.not_eq_true', Bool.not_eq_false', decide_eq_false_iff_not, not_true_eq_false, not_false_eq_true, Bool.true_and, Bool.false_and, Bool.and_true, Bool.and_false, Bool.not_true, Bool.not_false, Option.some.injEq, decide_true, decide_false, List.getElem?_cons_zero, List.getElem?_cons_succ, List.length_cons, List.length_nil, List.nil_append, List.cons_append, List.set_cons_zero, List.set_cons_succ, List.take_zero, List.drop_zero, Nat.reduceEqDiff, Nat.reduceAdd, Nat.reduceSub, Nat.reduceLT, Nat.reduceLeDiff, Nat.reduceMul, Int.reduceEq, Int.reduceLT, Int.reduceLE, Int.reduceAdd, Int.reduceSub, Int.reduceNeg, Int.reduceToNat, reduceCtorEq, ↓reduceIte, hv]
  | true =>
    rw [hval] at hv
    simp -dsimp -implicitDefEqProofs only [g18, c18r0, c18r1, c18r2, c18k3, c18r4, c18r5, c18r6, c18r7, c18k8, c18r9, c18r10, c18k11, c18k12, c18r13, c18b14, c18r16, c18, go_sem, collect_lit0, collect_lit1, collect_lit2, collect_lit3, if_true, if_false, true_and, and_true, false_and, and_false, and_self, Nat.zero_add, Nat.add_zero, eq_self, Bool.true_eq_false, Bool.false_eq_true, cond_true, cond_false, decide_eq_true_eq, Bool.not_eq_true', Bool.not_eq_false', decide_eq_false_iff_not, not_true_eq_false, not_false_eq_true, Bool.true_and, Bool.false_and, Bool.and_true, Bool.and_false, Bool.not_true, Bool.not_false, Option.some.injEq, decide_true, decide_false, List.getElem?_cons_zero, List.getElem?_cons_succ, List.length_cons, List.length_nil, List.nil_append, List.cons_append, List.set_cons_zero, List.set_cons_succ, List.take_zero, List.drop_zero, Nat.reduceEqDiff, Nat.reduceAdd, Nat.reduceSub, Nat.reduceLT, Nat.reduceLeDiff, Nat.reduceMul, Int.reduceEq, Int.reduceLT, Int.reduceLE, Int.reduceAdd, Int.reduceSub, Int.reduceNeg, Int.reduceToNat, reduceCtorEq, ↓reduceIte, hv, hp2]
    refine rcountLoop_ok (placesP f) v _ _ (by omega) (fun r hp => ?_)
    simp -dsimp -implicitDefEqProofs only [g18, c18r0, c18r1, c18r2, c18k3, c18r4, c18r5, c18r6, c18r7, c18k8, c18r9, c18r10, c18k11, c18k12, c18r13, c18b14, c18r16, c18, go_sem, collect_lit0, collect_lit1, collect_lit2, collect_lit3, if_true, if_false, true_and, and_true, false_and, and_false, and_self, Nat.zero_add, Nat.add_zero, eq_self, Bool.true_eq_false, Bool.false_eq_true, cond_true, cond_false, decide_eq_true_eq, Bool.not_eq_true', Bool.not_eq_false', decide_eq_false_iff_not, not_true_eq_false, not_false_eq_true, Bool.true_and, Bool.false_and, Bool.and_true, Bool.and_false, Bool.not_true, Bool.not_false, Option.some.injEq, decide_true, decide_false, List.getElem?_cons_zero, List.getElem?_cons_succ, List.length_cons, List.length_nil, List.nil_append, List.cons_append, List.set_cons_zero, List.set_cons_succ, List.take_zero, List.drop_zero, Nat.reduceEqDiff, Nat.reduceAdd, Nat.reduceSub, Nat.reduceLT, Nat.reduceLeDiff, Nat.reduceMul, Int.reduceEq, Int.reduceLT, Int.reduceLE, Int.reduceAdd, Int.reduceSub, Int.reduceNeg, Int.reduceToNat, reduceCtorEq, ↓reduceIte]
end Go.Proofs.Ytmajapjbogmefaa
