/- What is proved: whether two terms are the same, by the program and by the reference. -/
import Derived.Test.YtffecaafklpmhaaGreatTerm
import Derived.Test.YtffecaafklpmhaaGreatAm4
set_option linter.unusedSimpArgs false
set_option linter.unusedVariables false
namespace Go.Proofs.YtffecaafklpmhaaGreat
open Go.Am
theorem rident_ok : ∀ (a b : Tm) (hp : Heap), a.size < 1000000000 → S 75 [a.av, b.av] hp = some (.ret (.pv none (.bool (decide (a.cmp b = 0)))), hp) := by
 intro a
 induction a using Tm.induct with
 | h a ih =>
  intro b hp ha
  have hts := a.size_eq
  have hlen := Tm.sizes_len a.args
  refine sem_pure rfl rfl rfl (freezeAll_pvs [(some 4, a.pv), (some 4, b.pv)]) rfl ?_
  by_cases hall : a.kind = b.kind ∧ a.n = b.n ∧ a.name = b.name ∧ a.args.length = b.args.length
  ·obtain ⟨h1, h2, h3, h4⟩ := hall
   have hz : a.cmp b = Tm.cmps a.args b.args := by
    rw [Tm.cmp_eq, h1, h2, h3, h4, cmpI_self, cmpI_self, cmpI_self, cb_zero.2 rfl]
    rfl
   rw [hz]
   simp -dsimp -implicitDefEqProofs only [g75, c75r0, c75r1, c75r2, c75k3, c75r4, c75r5, c75k6, c75r7, c75r8, c75k9, c75k10, c75r11, c75b12, c75k13, c75r14, c75, go_sem, seval, ↓reduceIte, part_kind, part_n, part_name, part_args, Tm.pvs_len, h1, h2, h3, h4]
   refine W_loop (fun n st => ∃ i : Nat, n = a.args.length - i ∧ i ≤ a.args.length ∧ Tm.cmps a.args b.args = Tm.cmps (a.args.drop i) (b.args.drop i) ∧ st = ⟨[(2, .ptr 0 0), (3, .ptr 1 0), (5, .pv none (.int .i64 i))], [.box (some 4) (.pv (some 4) a.pv), .box (some 4) (.pv (some 4) b.pv)]⟩) (n := a.args.length) ⟨0, rfl, Nat.zero_le _, rfl, ?_⟩ ?_
   ·simp -dsimp -implicitDefEqProofs only [go_sem, seval, ↓reduceIte]
    try rfl
   ·rintro n st ⟨i, hn, hi, he, rfl⟩
    by_cases h : i < a.args.length
    ·have hc : (i : Int) < (a.args.length : Int) := by omega
     obtain ⟨u, hu⟩ : ∃ u, a.args[i]? = some u := ⟨_, List.getElem?_eq_getElem h⟩
     obtain ⟨w, hw⟩ : ∃ w, b.args[i]? = some w := ⟨_, List.getElem?_eq_getElem (by omega)⟩
     have hum := List.mem_of_getElem? hu
     have husz := Tm.arg_lt hum
     have hcall := fun hp => ih u hum w hp (by omega)
     simp only [Tm.av] at hcall
     have w2 : IntKind.i64.wrap ((i : Int) + 1) = ((i + 1 : Nat) : Int) := by rw [wrap64 (by omega) (by omega)]; omega
     rw [Tm.cmps_drop hu hw] at he
     by_cases h0 : u.cmp w = 0
     ·rw [h0, thenI_zero] at he
      simp -dsimp -implicitDefEqProofs only [g75, c75r0, c75r1, c75r2, c75k3, c75r4, c75r5, c75k6, c75r7, c75r8, c75k9, c75k10, c75r11, c75b12, c75k13, c75r14, c75, go_sem, seval, ↓reduceIte, part_args, Tm.pvs_len, hc, s_iaddr_pv (Tm.pvs_get hu), s_iaddr_pv (Tm.pvs_get hw), hcall, w2, h0]
      exact ⟨a.args.length - (i + 1), by omega, i + 1, rfl, by omega, he, rfl⟩
     ·rw [thenI_ne h0] at he
      simp -dsimp -implicitDefEqProofs only [g75, c75r0, c75r1, c75r2, c75k3, c75r4, c75r5, c75k6, c75r7, c75r8, c75k9, c75k10, c75r11, c75b12, c75k13, c75r14, c75, go_sem, seval, ↓reduceIte, part_args, Tm.pvs_len, hc, s_iaddr_pv (Tm.pvs_get hu), s_iaddr_pv (Tm.pvs_get hw), hcall, w2, h0, he]
    ·have hc : ¬ (i : Int) < (a.args.length : Int) := by omega
     obtain rfl : i = a.args.length := by omega
     rw [List.drop_length, Tm.cmps_nil_left] at he
     simp -dsimp -implicitDefEqProofs only [g75, c75r0, c75r1, c75r2, c75k3, c75r4, c75r5, c75k6, c75r7, c75r8, c75k9, c75k10, c75r11, c75b12, c75k13, c75r14, c75, go_sem, seval, ↓reduceIte, part_args, Tm.pvs_len, hc, he]
  ·have hz : ¬ a.cmp b = 0 := fun h => hall (by rw [Tm.cmp_zero.1 h]; exact ⟨rfl, rfl, rfl, rfl⟩)
   replace hall := Kept.mk hall
   replace hts := Kept.mk hts
   clear ih
   (repeat' (first | (simp -dsimp -implicitDefEqProofs only [g75, c75r0, c75r1, c75r2, c75k3, c75r4, c75r5, c75k6, c75r7, c75r8, c75k9, c75k10, c75r11, c75k13, c75r14, c75, go_sem, seval, ↓reduceIte, part_kind, part_n, part_name, part_args, Tm.pvs_len, *]) | (refine iteK_intro (fun _ => ?_) (fun _ => ?_))))
   exact absurd ⟨‹_›, ‹_›, ‹_›, by omega⟩ hall.out

def same (a b : Tm) : Bool := a.valid && (b.valid && decide (a.cmp b = 0))
theorem rsame_ok (a b : Tm) (hp : Heap) (ha : a.size < 1000000000) (hb : b.size < 1000000000) : S 27 [a.av, b.av] hp = some (.ret (.pv none (.bool (same a b))), hp) := by
 refine sem_pure rfl rfl rfl (freezeAll_pvs [(some 4, a.pv), (some 4, b.pv)]) rfl ?_
 have h1 := fun hp => rvalid_ok a hp ha
 have h2 := fun hp => rvalid_ok b hp hb
 have h3 := fun hp => rident_ok a b hp ha
 simp only [Tm.av] at h1 h2 h3
 unfold same
 by_cases va : a.valid = true
 ·by_cases vb : b.valid = true
  ·(repeat' (first | (simp -dsimp -implicitDefEqProofs only [g27, c27r0, c27r1, c27, go_sem, seval, ↓reduceIte, *]) | (refine iteK_intro (fun _ => ?_) (fun _ => ?_))))
  ·(repeat' (first | (simp -dsimp -implicitDefEqProofs only [g27, c27r0, c27r1, c27, go_sem, seval, ↓reduceIte, *]) | (refine iteK_intro (fun _ => ?_) (fun _ => ?_))))
 ·(repeat' (first | (simp -dsimp -implicitDefEqProofs only [g27, c27r0, c27r1, c27, go_sem, seval, ↓reduceIte, *]) | (refine iteK_intro (fun _ => ?_) (fun _ => ?_))))

end Go.Proofs.YtffecaafklpmhaaGreat
