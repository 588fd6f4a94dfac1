/- What is proved: the reference's occurrences in a term. -/
import Derived.Test.YtmajapjbogmefaaRFlat
set_option linter.unusedSimpArgs false
set_option linter.unusedVariables false
namespace Go.Proofs.Ytmajapjbogmefaa
open Go.Am
theorem within_ok : ∀ (t : Tm) (hp : Heap) (r : Nat) (es : List PV) (c : Int), es.length + t.size < 1000000000 → hp[r]? = some (.arr (some 2) es false) →
    S 48 [.sl (some 2) r es.length 0 es.length, t.av, .pv none (.int .i64 c)] hp = some (.ret (.sl (some 2) r (es.length + t.occ.length) 0 (es.length + t.occ.length)), hp.set r (.arr (some 2) (es ++ t.occ.map (placeP c)) false)) := by
  intro t
  induction t using Tm.induct with
  | h t ih =>
    intro hp r es c hsz hr
    have hrl := get_lt hr
    have hts := t.size_eq
    have hlen := Tm.sizes_len t.args
    have hoe := t.occ_eq
    have hnil : ∀ H : Heap, wNilsl (some 2) H = some (.sl (some 2) H.length 0 0 0, H ++ [.arr (some 2) [] false]) := fun _ => rfl
    have hbuild : ∀ v c : Int, sBuild [(none, .pv none (.int .i64 0)), (none, .pv none (.int .i64 0))] [0, 1] [.pv none (.int .i64 v), .pv none (.int .i64 c)] = some (.pv (some 2) (placeP c v)) := fun _ _ => rfl
    have e1 : ∀ (z y x : AObj), (hp.set r z ++ [y] ++ [x])[r]? = some z := fun z y x => by rw [get_low (by simpa using hrl)]; simp [hrl]
    have e2 : ∀ (z y x : AObj), (hp.set r z ++ [y] ++ [x])[hp.length]? = some y := fun z y x => by have := get_two (H := hp.set r z) y x; rwa [List.length_set] at this
    have e3 : ∀ (z z' y x : AObj), (hp.set r z ++ [y] ++ [x]).set r z' = hp.set r z' ++ [y] ++ [x] := fun z z' y x => by rw [set_low (by simpa using hrl)]; simp
    have hr' : hp = hp.set r (.arr (some 2) es false) := (set_self hr).symm
    refine sem_heap rfl rfl rfl rfl ?_
    obtain ⟨n0, hn0⟩ : ∃ n0, hp.length = n0 := ⟨_, rfl⟩
    by_cases hk : t.kind = 0
    · rw [if_pos hk] at hoe
      rw [hoe]
      have hap : ∀ (y x : AObj) (new : PV), wAppend (some 2) (hp ++ [y] ++ [x]) [.sl (some 2) r es.length 0 es.length, .tsl (some 2) [new]] = some (.sl (some 2) r (es.length + 1) 0 (es.length + 1), hp.set r (.arr (some 2) (es ++ [new]) false) ++ [y] ++ [x]) := fun y x new => by
        have h2 : (hp ++ [y] ++ [x])[r]? = some (.arr (some 2) es false) := by rw [get_low hrl]; exact hr
        have := w_append_tsl (sh := some 2) (s := some 2) (hp := hp ++ [y] ++ [x]) (r := r) (n := es.length) (new := [new]) (by rw [h2, okArr_arr]; exact ⟨rfl, rfl⟩) (by simp [lim]; omega)
        rw [this, h2, set_low hrl]
        rfl
      simp -dsimp -implicitDefEqProofs only [g48, c48r0, c48r1, c48r2, c48k3, c48r4, c48r5, c48k6, c48r7, c48k8, c48r9, c48b10, c48k11, c48r12, c48, go_sem, seval, ↓reduceIte, Tm.av, part_kind, part_n, part_args, hk, hnil, hbuild, hap, get_two, get_low hrl]
      simp [AV.refsIn, hrl]
    · rw [if_neg hk] at hoe
      rw [hoe]
      simp -dsimp -implicitDefEqProofs only [g48, c48r0, c48r1, c48r2, c48k3, c48r4, c48r5, c48k6, c48r7, c48k8, c48r9, c48b10, c48k11, c48r12, c48, go_sem, seval, ↓reduceIte, Tm.av, part_kind, part_n, part_args, hk, hnil, get_two, get_low hrl]
      refine W_loop (fun n st => ∃ i : Nat, n = t.args.length - i ∧ i ≤ t.args.length ∧ st = ⟨[(0, .sl (some 2) r (es.length + (Tm.occs (t.args.take i)).length) 0 (es.length + (Tm.occs (t.args.take i)).length)), (2, .pv none (.int .i64 c)), (4, .ptr hp.length 0), (7, .pv none (.int .i64 i))],
        hp.set r (.arr (some 2) (es ++ (Tm.occs (t.args.take i)).map (placeP c)) false) ++ [.box (some 4) (.pv (some 4) t.pv)] ++ [.arr (some 2) [] false]⟩) (n := t.args.length) ⟨0, rfl, Nat.zero_le _, ?_⟩ ?_
      · simp only [List.take_zero, Tm.occs, List.map_nil, List.append_nil, List.length_nil, Nat.add_zero]
        rw [← hr']
        rfl
      · rintro n st ⟨i, hn, hi, rfl⟩
        by_cases h : i < t.args.length
        · have hc : (i : Int) < (t.args.length : Int) := by omega
          obtain ⟨u, hu⟩ : ∃ u, t.args[i]? = some u := ⟨_, List.getElem?_eq_getElem h⟩
          have hum := List.mem_of_getElem? hu
          have husz := Tm.sizes_mem hum
          have hst := Tm.sizes_take hu
          have hle := Tm.sizes_take_le t.args (i + 1)
          have hoc : ∀ l : List Tm, (Tm.occs l).length ≤ Tm.sizes l := fun l => by
            induction l with
            | nil => simp [Tm.occs]
            | cons x y ih2 => have := x.occ_len; simp only [Tm.occs, Tm.sizes, List.length_append]; omega
          have h1 := hoc (t.args.take i)
          have hlm : (es ++ (Tm.occs (t.args.take i)).map (placeP c)).length = es.length + (Tm.occs (t.args.take i)).length := by simp
          have hcall := ih u hum (hp.set r (.arr (some 2) (es ++ (Tm.occs (t.args.take i)).map (placeP c)) false) ++ [.box (some 4) (.pv (some 4) t.pv)] ++ [.arr (some 2) [] false]) r (es ++ (Tm.occs (t.args.take i)).map (placeP c)) c (by rw [hlm]; omega) (e1 _ _ _)
          rw [hlm, e3] at hcall
          have w2 : IntKind.i64.wrap ((i : Int) + 1) = ((i + 1 : Nat) : Int) := by rw [wrap64 (by omega) (by omega)]; omega
          simp -dsimp -implicitDefEqProofs only [g48, c48r0, c48r1, c48r2, c48k3, c48r4, c48r5, c48k6, c48r7, c48k8, c48r9, c48b10, c48k11, c48r12, c48, go_sem, seval, ↓reduceIte, e2, part_args, Tm.pvs_len, hc, s_iaddr_pv (Tm.pvs_get hu), show AV.pv (some 4) u.pv = u.av from rfl, hcall, w2]
          refine ⟨t.args.length - (i + 1), by omega, i + 1, rfl, by omega, ?_⟩
          rw [collect_id (by simp), Tm.occs_take hu]
          simp only [List.length_append, List.map_append, List.append_assoc, Nat.add_assoc]
        · have hc : ¬ (i : Int) < (t.args.length : Int) := by omega
          obtain rfl : i = t.args.length := by omega
          simp -dsimp -implicitDefEqProofs only [g48, c48r0, c48r1, c48r2, c48k3, c48r4, c48r5, c48k6, c48r7, c48k8, c48r9, c48b10, c48k11, c48r12, c48, go_sem, seval, ↓reduceIte, e2, part_args, Tm.pvs_len, hc]
          rw [List.take_length]
          simp [AV.refsIn, hrl]
end Go.Proofs.Ytmajapjbogmefaa
