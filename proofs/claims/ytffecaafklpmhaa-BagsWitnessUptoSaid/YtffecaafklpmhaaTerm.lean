/- What is proved: the functions of the package term, and of the reference for it, give what plain functions on terms give. -/
import Derived.Test.YtffecaafklpmhaaBase
import Derived.Test.YtffecaafklpmhaaAm4
set_option linter.unusedSimpArgs false
set_option linter.unusedVariables false
namespace Go.Proofs.Ytffecaafklpmhaa
open Go.Am
noncomputable abbrev Z := sem (find tab) prim
noncomputable abbrev S := sem (find tab) prim .fn
noncomputable abbrev L := sloop (find tab) prim

theorem size1_ok : ∀ (t : Tm) (hp : Heap) (r1 r2 : Nat) (l : Nat), t.size < 1000000000 → l < 1000000000 → hp[r1]? = some (.box none (.pv none (.int .i64 ((l + 1 : Nat) : Int)))) → hp[r2]? = some (.box none (.func (.func 44) [] [.ptr r1 0, .ptr r2 0])) →
  S 44 [t.av, .ptr r1 0, .ptr r2 0] hp = some (.ret (.tuple []), hp.set r1 (.box none (.pv none (.int .i64 ((l + 1 - t.size : Nat) : Int))))) := by
 intro t
 induction t using Tm.induct with
 | h t ih =>
  intro hp r1 r2 l ht hl h1 h2
  have hr1 := get_lt h1
  have hr2 := get_lt h2
  have hne : r1 ≠ r2 := by
   rintro rfl
   rw [h1] at h2
   cases h2
  have hts := t.size_eq
  have hlen := Tm.sizes_len t.args
  refine sem_heap rfl rfl rfl rfl ?_
  have e1 : ∀ y x, (hp.set r1 y ++ [x])[r1]? = some y := fun y x => by rw [get_app (by simpa using hr1)]; simp [hr1]
  have e2 : ∀ y x, (hp.set r1 y ++ [x])[r2]? = some (.box none (.func (.func 44) [] [.ptr r1 0, .ptr r2 0])) := fun y x => by rw [get_app (by simpa using hr2), List.getElem?_set_ne hne, h2]
  have e3 : ∀ y x, (hp.set r1 y ++ [x])[hp.length]? = some x := fun y x => by simp
  have e4 : ∀ y x z, (hp.set r1 y ++ [x]).set r1 z = hp.set r1 z ++ [x] := fun y x z => by rw [set_app (by simpa using hr1)]; simp
  have e5 : (↑(l + 1) - 1 : Int) = ((l + 1 - (1 + Tm.sizes (t.args.take 0)) : Nat) : Int) := by simp [Tm.sizes]
  have w1 : IntKind.i64.wrap ((l + 1 : Nat) - 1 : Int) = ((l + 1 - (1 + Tm.sizes (t.args.take 0)) : Nat) : Int) := by rw [wrap64 (by omega) (by omega), e5]
  simp -dsimp -implicitDefEqProofs only [g44, c44r0, c44r1, c44r2, c44r3, c44k4, c44r5, c44k6, c44r7, c44b8, c44k9, c44, go_sem, seval, ↓reduceIte, Tm.av, get_app hr1, h1, get_last, set_app hr1, w1]
  refine W_loop (fun n st => ∃ i : Nat, n = t.args.length - i ∧ i ≤ t.args.length ∧ st = ⟨[(1, .ptr r1 0), (2, .ptr r2 0), (3, .ptr hp.length 0), (4, .pv none (.int .i64 i))], hp.set r1 (.box none (.pv none (.int .i64 ((l + 1 - (1 + Tm.sizes (t.args.take i)) : Nat) : Int)))) ++ [.box (some 4) (.pv (some 4) t.pv)]⟩) ⟨0, rfl, Nat.zero_le _, ?_⟩ ?_
  ·simp -dsimp -implicitDefEqProofs only [go_sem, seval, ↓reduceIte]
   try rfl
  ·rintro n st ⟨i, hn, hi, rfl⟩
   by_cases h : i < t.args.length
   ·have hc : (i : Int) < (t.args.length : Int) := by omega
    obtain ⟨u, hu⟩ : ∃ u, t.args[i]? = some u := ⟨_, List.getElem?_eq_getElem h⟩
    have hst := Tm.sizes_take hu
    have hum := List.mem_of_getElem? hu
    have husz := Tm.arg_lt hum
    by_cases h0 : 0 < ((l + 1 - (1 + Tm.sizes (t.args.take i)) : Nat) : Int)
    ·obtain ⟨l', hl'⟩ : ∃ l' : Nat, l + 1 - (1 + Tm.sizes (t.args.take i)) = l' + 1 := ⟨l + 1 - (1 + Tm.sizes (t.args.take i)) - 1, by omega⟩
     have hcall := ih u hum (hp.set r1 (.box none (.pv none (.int .i64 ((l' + 1 : Nat) : Int)))) ++ [.box (some 4) (.pv (some 4) t.pv)]) r1 r2 l' (by omega) (by omega) (e1 _ _) (e2 _ _)
     rw [e4] at hcall
     have e6 : l' + 1 - u.size = l + 1 - (1 + Tm.sizes (t.args.take (i + 1))) := by omega
     have w2 : IntKind.i64.wrap ((i : Int) + 1) = ((i + 1 : Nat) : Int) := by rw [wrap64 (by omega) (by omega)]; omega
     rw [hl'] at h0 ⊢
     simp -dsimp -implicitDefEqProofs only [g44, c44r0, c44r1, c44r2, c44r3, c44k4, c44r5, c44k6, c44r7, c44b8, c44k9, c44, go_sem, seval, ↓reduceIte, e1, e2, e3, e4, part_args, Tm.pvs_len, hc, h0, s_iaddr_pv (Tm.pvs_get hu), show AV.pv (some 4) u.pv = u.av from rfl, hcall, e6, w2]
     refine ⟨t.args.length - (i + 1), by omega, i + 1, rfl, by omega, ?_⟩
     rw [collect_id (by simp)]
    ·simp -dsimp -implicitDefEqProofs only [g44, c44r0, c44r1, c44r2, c44r3, c44k4, c44r5, c44k6, c44r7, c44b8, c44k9, c44, go_sem, seval, ↓reduceIte, e1, e2, e3, e4, part_args, Tm.pvs_len, hc, h0]
     rw [List.take_left' (by simp)]
     have hle : Tm.sizes (t.args.take i) ≤ Tm.sizes t.args := Tm.sizes_take_le _ _
     congr 5
     omega
   ·have hc : ¬ (i : Int) < (t.args.length : Int) := by omega
    obtain rfl : i = t.args.length := by omega
    simp -dsimp -implicitDefEqProofs only [g44, c44r0, c44r1, c44r2, c44r3, c44k4, c44r5, c44k6, c44r7, c44b8, c44k9, c44, go_sem, seval, ↓reduceIte, e1, e2, e3, e4, part_args, Tm.pvs_len, hc]
    rw [List.take_left' (by simp), List.take_length, hts]

theorem size_ok (t : Tm) (hp : Heap) (h : t.size < 1000000000) : S 18 [t.av] hp = some (.ret (.pv none (.int .i64 ((min t.size 2001 : Nat) : Int))), hp) := by
 refine sem_pure rfl rfl rfl (freezeAll_pvs [(some 4, t.pv)]) rfl ?_
 have hc := size1_ok t [.box (some 4) (.pv (some 4) t.pv), .box none (.pv none (.int .i64 2001)), .box none (.func (.func 44) [] [.ptr 1 0, .ptr 2 0])] 1 2 2000 h (by omega) rfl rfl
 have w1 : IntKind.i64.wrap (2001 - ((2000 + 1 - t.size : Nat) : Int)) = ((min t.size 2001 : Nat) : Int) := by rw [wrap64 (by omega) (by omega)]; omega
 simp only [Tm.av] at hc
 simp -dsimp -implicitDefEqProofs only [g18, c18r0, c18r1, c18r2, c18r3, c18r4, c18r5, c18, go_sem, seval, ↓reduceIte, Tm.av, w_store_func (Nat.zero_le _), hc, w1]

theorem fits_k15 (t : Tm) (Q : AExit → St → Prop) (h : ∀ r, Q .normal ⟨(1, .ptr 0 0) :: (3, .pv none (.bool t.node)) :: r, [.box (some 4) (.pv (some 4) t.pv)]⟩) :
  W Z L 0 c42k15 ⟨[(1, .ptr 0 0), (3, .pv none (.bool false)), (6, .pv none (.int .i64 t.kind))], [.box (some 4) (.pv (some 4) t.pv)]⟩ Q := by
 (repeat' (first | (simp -dsimp -implicitDefEqProofs only [g42, c42r0, c42r1, c42r2, c42r3, c42r4, c42r5, c42r6, c42r7, c42r8, c42r9, c42r10, c42k11, c42k12, c42k13, c42k14, c42k15, c42r16, c42r17, c42k18, c42r19, c42k20, c42r21, c42b22, c42k23, c42r24, c42, go_sem, seval, ↓reduceIte, part_kind, part_n, part_name, part_args, Tm.pvs_len, *]) | (refine iteK_intro (fun _ => ?_) (fun _ => ?_))))
 all_goals (simp -dsimp -implicitDefEqProofs only [Tm.node, go_sem, seval, ↓reduceIte, *, Bool.true_and, Bool.false_and, Bool.and_true] at h; exact h _)

theorem fits_ok : ∀ (t : Tm) (hp : Heap), t.size < 1000000000 → S 42 [t.av] hp = some (.ret (.pv none (.bool t.fits)), hp) := by
 intro t
 induction t using Tm.induct with
 | h t ih =>
  intro hp ht
  have hts := t.size_eq
  have hlen := Tm.sizes_len t.args
  refine sem_pure rfl rfl rfl (freezeAll_pvs [(some 4, t.pv)]) rfl ?_
  simp -dsimp -dsimp -implicitDefEqProofs only [g42, c42r0, c42r1, c42r2, c42r3, c42r4, c42r5, c42r6, c42r7, c42r8, c42r9, c42r10, c42k11, c42k12, c42k13, c42k14, c42r16, c42r17, c42k18, c42r19, c42k20, c42r21, c42b22, c42k23, c42r24, c42, go_sem, seval, ↓reduceIte, part_kind, part_n, part_name, part_args, Tm.pvs_len]
  refine fits_k15 t _ (fun r => ?_)
  simp -dsimp -dsimp -implicitDefEqProofs only [g42, c42r0, c42r1, c42r2, c42r3, c42r4, c42r5, c42r6, c42r7, c42r8, c42r9, c42r10, c42k11, c42k12, c42k13, c42k14, c42r16, c42r17, c42k18, c42r19, c42k20, c42r21, c42b22, c42k23, c42r24, c42, go_sem, seval, ↓reduceIte, part_kind, part_n, part_name, part_args, Tm.pvs_len]
  refine W_loop (fun n st => ∃ i : Nat, n = t.args.length - i ∧ i ≤ t.args.length ∧ st = ⟨[(1, .ptr 0 0), (3, .pv none (.bool (t.node && Tm.fitsAll (t.args.take i)))), (4, .pv none (.int .i64 i))], [.box (some 4) (.pv (some 4) t.pv)]⟩) (n := t.args.length) ⟨0, rfl, Nat.zero_le _, ?_⟩ ?_
  ·simp -dsimp -implicitDefEqProofs only [go_sem, seval, ↓reduceIte, Tm.fitsAll, Bool.and_true]
   try rfl
  ·rintro n st ⟨i, hn, hi, rfl⟩
   by_cases h : i < t.args.length
   ·have hc : (i : Int) < (t.args.length : Int) := by omega
    obtain ⟨u, hu⟩ : ∃ u, t.args[i]? = some u := ⟨_, List.getElem?_eq_getElem h⟩
    have hum := List.mem_of_getElem? hu
    have husz := Tm.arg_lt hum
    have hcall := fun hp => ih u hum hp (by omega)
    have e6 : Tm.fitsAll (t.args.take (i + 1)) = (Tm.fitsAll (t.args.take i) && u.fits) := Tm.fitsAll_take hu
    have w2 : IntKind.i64.wrap ((i : Int) + 1) = ((i + 1 : Nat) : Int) := by rw [wrap64 (by omega) (by omega)]; omega
    by_cases h0 : (t.node && Tm.fitsAll (t.args.take i)) = true
    ·simp -dsimp -dsimp -implicitDefEqProofs only [g42, c42r0, c42r1, c42r2, c42r3, c42r4, c42r5, c42r6, c42r7, c42r8, c42r9, c42r10, c42k11, c42k12, c42k13, c42k14, c42r16, c42r17, c42k18, c42r19, c42k20, c42r21, c42b22, c42k23, c42r24, c42, go_sem, seval, ↓reduceIte, part_args, Tm.pvs_len, hc, h0, s_iaddr_pv (Tm.pvs_get hu), show AV.pv (some 4) u.pv = u.av from rfl, hcall, w2]
     refine ⟨t.args.length - (i + 1), by omega, i + 1, rfl, by omega, ?_⟩
     rw [e6, ← Bool.and_assoc, h0, Bool.true_and]
    ·simp -dsimp -implicitDefEqProofs only [g42, c42r0, c42r1, c42r2, c42r3, c42r4, c42r5, c42r6, c42r7, c42r8, c42r9, c42r10, c42k11, c42k12, c42k13, c42k14, c42r16, c42r17, c42k18, c42r19, c42k20, c42r21, c42b22, c42k23, c42r24, c42, go_sem, seval, ↓reduceIte, part_args, Tm.pvs_len, hc, h0]
     rw [Tm.fits_eq]
     have hp : Tm.fitsAll t.args = (Tm.fitsAll (t.args.take i) && Tm.fitsAll (t.args.drop i)) := by rw [← Tm.fitsAll_append, List.take_append_drop]
     rw [hp, ← Bool.and_assoc, Bool.eq_false_iff.2 h0]
     rfl
   ·have hc : ¬ (i : Int) < (t.args.length : Int) := by omega
    obtain rfl : i = t.args.length := by omega
    simp -dsimp -implicitDefEqProofs only [g42, c42r0, c42r1, c42r2, c42r3, c42r4, c42r5, c42r6, c42r7, c42r8, c42r9, c42r10, c42k11, c42k12, c42k13, c42k14, c42r16, c42r17, c42k18, c42r19, c42k20, c42r21, c42b22, c42k23, c42r24, c42, go_sem, seval, ↓reduceIte, part_args, Tm.pvs_len, hc]
    rw [Tm.fits_eq, List.take_length]

theorem valid_ok (t : Tm) (hp : Heap) (h : t.size < 1000000000) : S 16 [t.av] hp = some (.ret (.pv none (.bool t.valid)), hp) := by
 refine sem_pure rfl rfl rfl (freezeAll_pvs [(some 4, t.pv)]) rfl ?_
 have h1 := fun hp => size_ok t hp h
 have h2 := fun hp => fits_ok t hp h
 unfold Tm.valid
 simp only [Tm.av] at h1 h2
 by_cases hs : t.size ≤ 2000
 ·have hc : ((min t.size 2001 : Nat) : Int) ≤ 2000 := by omega
  (repeat' (first | (simp -dsimp -implicitDefEqProofs only [g16, c16r0, c16r1, c16, go_sem, seval, ↓reduceIte, Tm.av, *]) | (refine iteK_intro (fun _ => ?_) (fun _ => ?_))))
 ·have hc : ¬ ((min t.size 2001 : Nat) : Int) ≤ 2000 := by omega
  (repeat' (first | (simp -dsimp -implicitDefEqProofs only [g16, c16r0, c16r1, c16, go_sem, seval, ↓reduceIte, Tm.av, *]) | (refine iteK_intro (fun _ => ?_) (fun _ => ?_))))

end Go.Proofs.Ytffecaafklpmhaa
