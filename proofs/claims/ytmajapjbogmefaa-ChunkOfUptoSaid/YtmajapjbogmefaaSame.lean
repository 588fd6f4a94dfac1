/- What is proved: the reference's comparison of chunks says yes to the same. -/
import Derived.Test.YtmajapjbogmefaaPerms
set_option linter.unusedSimpArgs false
set_option linter.unusedVariables false
namespace Go.Proofs.Ytmajapjbogmefaa
open Go.Am
theorem sameInts_ok (l : List Int) (hp : Heap) (hl : l.length < 1000000000) : S 30 [.pv none (.sl none (ints l)), .pv none (.sl none (ints l))] hp = some (.ret (.pv none (.bool true)), hp) := by
  refine sem_pure rfl rfl rfl (freezeAll_pvs [(none, .sl none (ints l)), (none, .sl none (ints l))]) rfl ?_
  have hil := ints_len l
  simp -dsimp -implicitDefEqProofs only [g30, c30r0, c30r1, c30r2, c30k3, c30r4, c30r5, c30k6, c30r7, c30r8, c30k9, c30k10, c30r11, c30b12, c30k13, c30r14, c30, go_sem, seval, ↓reduceIte]
  refine W_for (α := Unit) l.length (fun i _ => True) (fun i _ => ⟨[(0, .pv none (.sl none (ints l))), (1, .pv none (.sl none (ints l))), (5, .pv none (.int .i64 i))], []⟩) () ⟨trivial, rfl⟩ ?_ ?_
  · rintro i _ h _
    have hc : (i : Int) < (l.length : Int) := by omega
    obtain ⟨v, hv⟩ : ∃ v, l[i]? = some v := ⟨_, List.getElem?_eq_getElem h⟩
    have w2 : IntKind.i64.wrap ((i : Int) + 1) = ((i + 1 : Nat) : Int) := by rw [wrap64 (by omega) (by omega)]; omega
    simp -dsimp -implicitDefEqProofs only [g30, c30r0, c30r1, c30r2, c30k3, c30r4, c30r5, c30k6, c30r7, c30r8, c30k9, c30k10, c30r11, c30b12, c30k13, c30r14, c30, go_sem, seval, ↓reduceIte, hil, hc, s_iaddr_pv (ints_get hv), w2]
    exact ⟨(), trivial⟩
  · rintro _ _
    have hc : ¬ (l.length : Int) < (l.length : Int) := by omega
    simp -dsimp -implicitDefEqProofs only [g30, c30r0, c30r1, c30r2, c30k3, c30r4, c30r5, c30k6, c30r7, c30r8, c30k9, c30k10, c30r11, c30b12, c30k13, c30r14, c30, go_sem, seval, ↓reduceIte, hil, hc]
theorem sameVars_ok (l : List Int) (hp : Heap) (hl : l.length < 1000000000) : S 31 [.pv none (.sl none (ints l)), .pv none (.sl none (ints l))] hp = some (.ret (.pv none (.bool true)), hp) := by
  refine sem_pure rfl rfl rfl (freezeAll_pvs [(none, .sl none (ints l)), (none, .sl none (ints l))]) rfl ?_
  have hil := ints_len l
  simp -dsimp -implicitDefEqProofs only [g31, c31r0, c31r1, c31r2, c31k3, c31r4, c31r5, c31k6, c31r7, c31r8, c31k9, c31k10, c31r11, c31b12, c31k13, c31r14, c31, go_sem, seval, ↓reduceIte]
  refine W_for (α := Unit) l.length (fun i _ => True) (fun i _ => ⟨[(0, .pv none (.sl none (ints l))), (1, .pv none (.sl none (ints l))), (5, .pv none (.int .i64 i))], []⟩) () ⟨trivial, rfl⟩ ?_ ?_
  · rintro i _ h _
    have hc : (i : Int) < (l.length : Int) := by omega
    obtain ⟨v, hv⟩ : ∃ v, l[i]? = some v := ⟨_, List.getElem?_eq_getElem h⟩
    have w2 : IntKind.i64.wrap ((i : Int) + 1) = ((i + 1 : Nat) : Int) := by rw [wrap64 (by omega) (by omega)]; omega
    simp -dsimp -implicitDefEqProofs only [g31, c31r0, c31r1, c31r2, c31k3, c31r4, c31r5, c31k6, c31r7, c31r8, c31k9, c31k10, c31r11, c31b12, c31k13, c31r14, c31, go_sem, seval, ↓reduceIte, hil, hc, s_iaddr_pv (ints_get hv), w2]
    exact ⟨(), trivial⟩
  · rintro _ _
    have hc : ¬ (l.length : Int) < (l.length : Int) := by omega
    simp -dsimp -implicitDefEqProofs only [g31, c31r0, c31r1, c31r2, c31k3, c31r4, c31r5, c31k6, c31r7, c31r8, c31k9, c31k10, c31r11, c31b12, c31k13, c31r14, c31, go_sem, seval, ↓reduceIte, hil, hc]
theorem same_ok (A P B : List Int) (hp : Heap) (hA : A.length < 1000000000) (hP : P.length < 1000000000) (hB : B.length < 1000000000) : S 14 [.pv (some 3) (chPV A P B), .pv (some 3) (chPV A P B)] hp = some (.ret (.pv none (.bool true)), hp) := by
  refine sem_pure rfl rfl rfl (freezeAll_pvs [(some 3, chPV A P B), (some 3, chPV A P B)]) rfl ?_
  have h1 := fun hp => sameInts_ok A hp hA
  have h2 := fun hp => sameVars_ok P hp hP
  have h3 := fun hp => sameInts_ok B hp hB
  simp -dsimp -implicitDefEqProofs only [g14, c14r0, c14r1, c14, go_sem, seval, ↓reduceIte, ch_part0, ch_part1, ch_part2, h1, h2, h3]
end Go.Proofs.Ytmajapjbogmefaa
