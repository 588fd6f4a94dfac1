/- What is proved: the functions of the package term, and of the reference for it, give what plain functions on terms give. -/
import Derived.Test.YtffecaafklpmhaaGreatBase
import Derived.Test.YtffecaafklpmhaaGreatAm4
set_option linter.unusedSimpArgs false
set_option linter.unusedVariables false
namespace Go.Proofs.YtffecaafklpmhaaGreat
open Go.Am
noncomputable abbrev Z := sem (find tab) prim
noncomputable abbrev S := sem (find tab) prim .fn
noncomputable abbrev L := sloop (find tab) prim

theorem size1_ok : ∀ (t : Tm) (hp : Heap) (r1 r2 : Nat) (l : Nat), t.size < 1000000000 → l < 1000000000 → hp[r1]? = some (.box none (.pv none (.int .i64 ((l + 1 : Nat) : Int)))) → hp[r2]? = some (.box none (.func (.func 125) [] [.ptr r1 0, .ptr r2 0])) →
  S 125 [t.av, .ptr r1 0, .ptr r2 0] hp = some (.ret (.tuple []), hp.set r1 (.box none (.pv none (.int .i64 ((l + 1 - t.size : Nat) : Int))))) := by
 intro t
 induction t using Tm.induct with
 | h t ih =>
  intro hp r1 r2 l ht hl h1 h2
  have hr1 := get_lt h1
  have hr2 := get_lt h2
  have hne : r1 ≠ r2 := by
   rintro rfl
   rw [h1] at h2
   cases h2
  have hts := t.size_eq
  have hlen := Tm.sizes_len t.args
  refine sem_heap rfl rfl rfl rfl ?_
  have e1 : ∀ y x, (hp.set r1 y ++ [x])[r1]? = some y := fun y x => by rw [get_app (by simpa using hr1)]; simp [hr1]
  have e2 : ∀ y x, (hp.set r1 y ++ [x])[r2]? = some (.box none (.func (.func 125) [] [.ptr r1 0, .ptr r2 0])) := fun y x => by rw [get_app (by simpa using hr2), List.getElem?_set_ne hne, h2]
  have e3 : ∀ y x, (hp.set r1 y ++ [x])[hp.length]? = some x := fun y x => by simp
  have e4 : ∀ y x z, (hp.set r1 y ++ [x]).set r1 z = hp.set r1 z ++ [x] := fun y x z => by rw [set_app (by simpa using hr1)]; simp
  have e5 : (↑(l + 1) - 1 : Int) = ((l + 1 - (1 + Tm.sizes (t.args.take 0)) : Nat) : Int) := by simp [Tm.sizes]
  have w1 : IntKind.i64.wrap ((l + 1 : Nat) - 1 : Int) = ((l + 1 - (1 + Tm.sizes (t.args.take 0)) : Nat) : Int) := by rw [wrap64 (by omega) (by omega), e5]
  simp -dsimp -implicitDefEqProofs only [g125, c125r0, c125r1, c125r2, c125r3, c125k4, c125r5, c125k6, c125r7, c125b8, c125k9, c125, go_sem, seval, ↓reduceIte, Tm.av, get_app hr1, h1, get_last, set_app hr1, w1]
  refine W_loop (fun n st => ∃ i : Nat, n = t.args.length - i ∧ i ≤ t.args.length ∧ st = ⟨[(1, .ptr r1 0), (2, .ptr r2 0), (3, .ptr hp.length 0), (4, .pv none (.int .i64 i))], hp.set r1 (.box none (.pv none (.int .i64 ((l + 1 - (1 + Tm.sizes (t.args.take i)) : Nat) : Int)))) ++ [.box (some 4) (.pv (some 4) t.pv)]⟩) ⟨0, rfl, Nat.zero_le _, ?_⟩ ?_
  ·simp -dsimp -implicitDefEqProofs only [go_sem, seval, ↓reduceIte]
   try rfl
  ·rintro n st ⟨i, hn, hi, rfl⟩
   by_cases h : i < t.args.length
   ·have hc : (i : Int) < (t.args.length : Int) := by omega
    obtain ⟨u, hu⟩ : ∃ u, t.args[i]? = some u := ⟨_, List.getElem?_eq_getElem h⟩
    have hst := Tm.sizes_take hu
    have hum := List.mem_of_getElem? hu
    have husz := Tm.arg_lt hum
    by_cases h0 : 0 < ((l + 1 - (1 + Tm.sizes (t.args.take i)) : Nat) : Int)
    ·obtain ⟨l', hl'⟩ : ∃ l' : Nat, l + 1 - (1 + Tm.sizes (t.args.take i)) = l' + 1 := ⟨l + 1 - (1 + Tm.sizes (t.args.take i)) - 1, by omega⟩
     have hcall := ih u hum (hp.set r1 (.box none (.pv none (.int .i64 ((l' + 1 : Nat) : Int)))) ++ [.box (some 4) (.pv (some 4) t.pv)]) r1 r2 l' (by omega) (by omega) (e1 _ _) (e2 _ _)
     rw [e4] at hcall
     have e6 : l' + 1 - u.size = l + 1 - (1 + Tm.sizes (t.args.take (i + 1))) := by omega
     have w2 : IntKind.i64.wrap ((i : Int) + 1) = ((i + 1 : Nat) : Int) := by rw [wrap64 (by omega) (by omega)]; omega
     rw [hl'] at h0 ⊢
     simp -dsimp -implicitDefEqProofs only [g125, c125r0, c125r1, c125r2, c125r3, c125k4, c125r5, c125k6, c125r7, c125b8, c125k9, c125, go_sem, seval, ↓reduceIte, e1, e2, e3, e4, part_args, Tm.pvs_len, hc, h0, s_iaddr_pv (Tm.pvs_get hu), show AV.pv (some 4) u.pv = u.av from rfl, hcall, e6, w2]
     refine ⟨t.args.length - (i + 1), by omega, i + 1, rfl, by omega, ?_⟩
     rw [collect_id (by simp)]
    ·simp -dsimp -implicitDefEqProofs only [g125, c125r0, c125r1, c125r2, c125r3, c125k4, c125r5, c125k6, c125r7, c125b8, c125k9, c125, go_sem, seval, ↓reduceIte, e1, e2, e3, e4, part_args, Tm.pvs_len, hc, h0]
     rw [List.take_left' (by simp)]
     have hle : Tm.sizes (t.args.take i) ≤ Tm.sizes t.args := Tm.sizes_take_le _ _
     congr 5
     omega
   ·have hc : ¬ (i : Int) < (t.args.length : Int) := by omega
    obtain rfl : i = t.args.length := by omega
    simp -dsimp -implicitDefEqProofs only [g125, c125r0, c125r1, c125r2, c125r3, c125k4, c125r5, c125k6, c125r7, c125b8, c125k9, c125, go_sem, seval, ↓reduceIte, e1, e2, e3, e4, part_args, Tm.pvs_len, hc]
    rw [List.take_left' (by simp), List.take_length, hts]

theorem size_ok (t : Tm) (hp : Heap) (h : t.size < 1000000000) : S 87 [t.av] hp = some (.ret (.pv none (.int .i64 ((min t.size 2001 : Nat) : Int))), hp) := by
 refine sem_pure rfl rfl rfl (freezeAll_pvs [(some 4, t.pv)]) rfl ?_
 have hc := size1_ok t [.box (some 4) (.pv (some 4) t.pv), .box none (.pv none (.int .i64 2001)), .box none (.func (.func 125) [] [.ptr 1 0, .ptr 2 0])] 1 2 2000 h (by omega) rfl rfl
 have w1 : IntKind.i64.wrap (2001 - ((2000 + 1 - t.size : Nat) : Int)) = ((min t.size 2001 : Nat) : Int) := by rw [wrap64 (by omega) (by omega)]; omega
 simp only [Tm.av] at hc
 simp -dsimp -implicitDefEqProofs only [g87, c87r0, c87r1, c87r2, c87r3, c87r4, c87r5, c87, go_sem, seval, ↓reduceIte, Tm.av, w_store_func (Nat.zero_le _), hc, w1]

theorem fits_k15 (t : Tm) (Q : AExit → St → Prop) (h : ∀ r, Q .normal ⟨(1, .ptr 0 0) :: (3, .pv none (.bool t.node)) :: r, [.box (some 4) (.pv (some 4) t.pv)]⟩) :
  W Z L 0 c96k15 ⟨[(1, .ptr 0 0), (3, .pv none (.bool false)), (6, .pv none (.int .i64 t.kind))], [.box (some 4) (.pv (some 4) t.pv)]⟩ Q := by
 (repeat' (first | (simp -dsimp -implicitDefEqProofs only [g96, c96r0, c96r1, c96r2, c96r3, c96r4, c96r5, c96r6, c96r7, c96r8, c96r9, c96r10, c96k11, c96k12, c96k13, c96k14, c96k15, c96r16, c96r17, c96k18, c96r19, c96k20, c96r21, c96b22, c96k23, c96r24, c96, go_sem, seval, ↓reduceIte, part_kind, part_n, part_name, part_args, Tm.pvs_len, *]) | (refine iteK_intro (fun _ => ?_) (fun _ => ?_))))
 all_goals (simp -dsimp -implicitDefEqProofs only [Tm.node, go_sem, seval, ↓reduceIte, *, Bool.true_and, Bool.false_and, Bool.and_true] at h; exact h _)

theorem fits_ok : ∀ (t : Tm) (hp : Heap), t.size < 1000000000 → S 96 [t.av] hp = some (.ret (.pv none (.bool t.fits)), hp) := by
 intro t
 induction t using Tm.induct with
 | h t ih =>
  intro hp ht
  have hts := t.size_eq
  have hlen := Tm.sizes_len t.args
  refine sem_pure rfl rfl rfl (freezeAll_pvs [(some 4, t.pv)]) rfl ?_
  simp -dsimp -dsimp -implicitDefEqProofs only [g96, c96r0, c96r1, c96r2, c96r3, c96r4, c96r5, c96r6, c96r7, c96r8, c96r9, c96r10, c96k11, c96k12, c96k13, c96k14, c96r16, c96r17, c96k18, c96r19, c96k20, c96r21, c96b22, c96k23, c96r24, c96, go_sem, seval, ↓reduceIte, part_kind, part_n, part_name, part_args, Tm.pvs_len]
  refine fits_k15 t _ (fun r => ?_)
  simp -dsimp -dsimp -implicitDefEqProofs only [g96, c96r0, c96r1, c96r2, c96r3, c96r4, c96r5, c96r6, c96r7, c96r8, c96r9, c96r10, c96k11, c96k12, c96k13, c96k14, c96r16, c96r17, c96k18, c96r19, c96k20, c96r21, c96b22, c96k23, c96r24, c96, go_sem, seval, ↓reduceIte, part_kind, part_n, part_name, part_args, Tm.pvs_len]
  refine W_loop (fun n st => ∃ i : Nat, n = t.args.length - i ∧ i ≤ t.args.length ∧ st = ⟨[(1, .ptr 0 0), (3, .pv none (.bool (t.node && Tm.fitsAll (t.args.take i)))), (4, .pv none (.int .i64 i))], [.box (some 4) (.pv (some 4) t.pv)]⟩) (n := t.args.length) ⟨0, rfl, Nat.zero_le _, ?_⟩ ?_
  ·simp -dsimp -implicitDefEqProofs only [go_sem, seval, ↓reduceIte, Tm.fitsAll, Bool.and_true]
   try rfl
  ·rintro n st ⟨i, hn, hi, rfl⟩
   by_cases h : i < t.args.length
   ·have hc : (i : Int) < (t.args.length : Int) := by omega
    obtain ⟨u, hu⟩ : ∃ u, t.args[i]? = some u := ⟨_, List.getElem?_eq_getElem h⟩
    have hum := List.mem_of_getElem? hu
    have husz := Tm.arg_lt hum
    have hcall := fun hp => ih u hum hp (by omega)
    have e6 : Tm.fitsAll (t.args.take (i + 1)) = (Tm.fitsAll (t.args.take i) && u.fits) := Tm.fitsAll_take hu
    have w2 : IntKind.i64.wrap ((i : Int) + 1) = ((i + 1 : Nat) : Int) := by rw [wrap64 (by omega) (by omega)]; omega
    by_cases h0 : (t.node && Tm.fitsAll (t.args.take i)) = true
    ·simp -dsimp -dsimp -implicitDefEqProofs only [g96, c96r0, c96r1, c96r2, c96r3, c96r4, c96r5, c96r6, c96r7, c96r8, c96r9, c96r10, c96k11, c96k12, c96k13, c96k14, c96r16, c96r17, c96k18, c96r19, c96k20, c96r21, c96b22, c96k23, c96r24, c96, go_sem, seval, ↓reduceIte, part_args, Tm.pvs_len, hc, h0, s_iaddr_pv (Tm.pvs_get hu), show AV.pv (some 4) u.pv = u.av from rfl, hcall, w2]
     refine ⟨t.args.length - (i + 1), by omega, i + 1, rfl, by omega, ?_⟩
     rw [e6, ← Bool.and_assoc, h0, Bool.true_and]
    ·simp -dsimp -implicitDefEqProofs only [g96, c96r0, c96r1, c96r2, c96r3, c96r4, c96r5, c96r6, c96r7, c96r8, c96r9, c96r10, c96k11, c96k12, c96k13, c96k14, c96r16, c96r17, c96k18, c96r19, c96k20, c96r21, c96b22, c96k23, c96r24, c96, go_sem, seval, ↓reduceIte, part_args, Tm.pvs_len, hc, h0]
     rw [Tm.fits_eq]
     have hp : Tm.fitsAll t.args = (Tm.fitsAll (t.args.take i) && Tm.fitsAll (t.args.drop i)) := by rw [← Tm.fitsAll_append, List.take_append_drop]
     rw [hp, ← Bool.and_assoc, Bool.eq_false_iff.2 h0]
     rfl
   ·have hc : ¬ (i : Int) < (t.args.length : Int) := by omega
    obtain rfl : i = t.args.length := by omega
    simp -dsimp -implicitDefEqProofs only [g96, c96r0, c96r1, c96r2, c96r3, c96r4, c96r5, c96r6, c96r7, c96r8, c96r9, c96r10, c96k11, c96k12, c96k13, c96k14, c96r16, c96r17, c96k18, c96r19, c96k20, c96r21, c96b22, c96k23, c96r24, c96, go_sem, seval, ↓reduceIte, part_args, Tm.pvs_len, hc]
    rw [Tm.fits_eq, List.take_length]

theorem valid_ok (t : Tm) (hp : Heap) (h : t.size < 1000000000) : S 45 [t.av] hp = some (.ret (.pv none (.bool t.valid)), hp) := by
 refine sem_pure rfl rfl rfl (freezeAll_pvs [(some 4, t.pv)]) rfl ?_
 have h1 := fun hp => size_ok t hp h
 have h2 := fun hp => fits_ok t hp h
 unfold Tm.valid
 simp only [Tm.av] at h1 h2
 by_cases hs : t.size ≤ 2000
 ·have hc : ((min t.size 2001 : Nat) : Int) ≤ 2000 := by omega
  (repeat' (first | (simp -dsimp -implicitDefEqProofs only [g45, c45r0, c45r1, c45, go_sem, seval, ↓reduceIte, Tm.av, *]) | (refine iteK_intro (fun _ => ?_) (fun _ => ?_))))
 ·have hc : ¬ ((min t.size 2001 : Nat) : Int) ≤ 2000 := by omega
  (repeat' (first | (simp -dsimp -implicitDefEqProofs only [g45, c45r0, c45r1, c45, go_sem, seval, ↓reduceIte, Tm.av, *]) | (refine iteK_intro (fun _ => ?_) (fun _ => ?_))))

theorem rcount_ok : ∀ (t : Tm) (hp : Heap) (m : Nat), t.size < 1000000000 → m < 1000000000 → S 129 [t.av, .pv none (.int .i64 ((m + 1 : Nat) : Int))] hp = some (.ret (.pv none (.int .i64 ((min t.size (m + 1) : Nat) : Int))), hp) := by
 intro t
 induction t using Tm.induct with
 | h t ih =>
  intro hp m ht hm
  have hts := t.size_eq
  have hlen := Tm.sizes_len t.args
  refine sem_pure rfl rfl rfl (freezeAll_pvs [(some 4, t.pv), (none, .int .i64 ((m + 1 : Nat) : Int))]) rfl ?_
  simp -dsimp -implicitDefEqProofs only [g129, c129r0, c129r1, c129r2, c129r3, c129k4, c129r5, c129k6, c129r7, c129b8, c129k9, c129r10, c129, go_sem, seval, ↓reduceIte, part_args, Tm.pvs_len]
  refine W_loop (fun n st => ∃ i : Nat, n = t.args.length - i ∧ i ≤ t.args.length ∧ st = ⟨[(1, .pv none (.int .i64 ((m + 1 : Nat) : Int))), (2, .ptr 0 0), (5, .pv none (.int .i64 ((min (1 + Tm.sizes (t.args.take i)) (m + 1) : Nat) : Int))), (6, .pv none (.int .i64 i))], [.box (some 4) (.pv (some 4) t.pv)]⟩) (n := t.args.length) ⟨0, rfl, Nat.zero_le _, ?_⟩ ?_
  ·simp -dsimp -implicitDefEqProofs only [go_sem, seval, ↓reduceIte]
   rw [show min (1 + Tm.sizes []) (m + 1) = 1 by simp [Tm.sizes]]
   rfl
  ·rintro n st ⟨i, hn, hi, rfl⟩
   by_cases h : i < t.args.length
   ·have hc : (i : Int) < (t.args.length : Int) := by omega
    obtain ⟨u, hu⟩ : ∃ u, t.args[i]? = some u := ⟨_, List.getElem?_eq_getElem h⟩
    have hst := Tm.sizes_take hu
    have hum := List.mem_of_getElem? hu
    have husz := Tm.arg_lt hum
    have w2 : IntKind.i64.wrap ((i : Int) + 1) = ((i + 1 : Nat) : Int) := by rw [wrap64 (by omega) (by omega)]; omega
    by_cases h0 : ((min (1 + Tm.sizes (t.args.take i)) (m + 1) : Nat) : Int) < ((m + 1 : Nat) : Int)
    ·obtain ⟨m', hm'⟩ : ∃ m' : Nat, m + 1 - min (1 + Tm.sizes (t.args.take i)) (m + 1) = m' + 1 := ⟨m - min (1 + Tm.sizes (t.args.take i)) (m + 1), by omega⟩
     have w3 : IntKind.i64.wrap (((m + 1 : Nat) : Int) - ((min (1 + Tm.sizes (t.args.take i)) (m + 1) : Nat) : Int)) = ((m' + 1 : Nat) : Int) := by rw [wrap64 (by omega) (by omega)]; omega
     have w4 : IntKind.i64.wrap (((min (1 + Tm.sizes (t.args.take i)) (m + 1) : Nat) : Int) + ((min u.size (m' + 1) : Nat) : Int)) = ((min (1 + Tm.sizes (t.args.take (i + 1))) (m + 1) : Nat) : Int) := by rw [wrap64 (by omega) (by omega)]; omega
     have hcall := fun hp => ih u hum hp m' (by omega) (by omega)
     simp -dsimp -implicitDefEqProofs only [g129, c129r0, c129r1, c129r2, c129r3, c129k4, c129r5, c129k6, c129r7, c129b8, c129k9, c129r10, c129, go_sem, seval, ↓reduceIte, part_args, Tm.pvs_len, hc, h0, s_iaddr_pv (Tm.pvs_get hu), show AV.pv (some 4) u.pv = u.av from rfl, hcall, w2, w3, w4]
     exact ⟨t.args.length - (i + 1), by omega, i + 1, rfl, by omega, rfl⟩
    ·simp -dsimp -implicitDefEqProofs only [g129, c129r0, c129r1, c129r2, c129r3, c129k4, c129r5, c129k6, c129r7, c129b8, c129k9, c129r10, c129, go_sem, seval, ↓reduceIte, part_args, Tm.pvs_len, hc, h0]
     have hle : Tm.sizes (t.args.take i) ≤ Tm.sizes t.args := Tm.sizes_take_le _ _
     congr 3
     omega
   ·have hc : ¬ (i : Int) < (t.args.length : Int) := by omega
    obtain rfl : i = t.args.length := by omega
    simp -dsimp -implicitDefEqProofs only [g129, c129r0, c129r1, c129r2, c129r3, c129k4, c129r5, c129k6, c129r7, c129b8, c129k9, c129r10, c129, go_sem, seval, ↓reduceIte, part_args, Tm.pvs_len, hc]
    rw [List.take_length, hts]

theorem rsize_ok (t : Tm) (hp : Heap) (h : t.size < 1000000000) : S 93 [t.av] hp = some (.ret (.pv none (.int .i64 ((min t.size 2001 : Nat) : Int))), hp) := by
 refine sem_pure rfl rfl rfl (freezeAll_pvs [(some 4, t.pv)]) rfl ?_
 have h1 := fun hp => rcount_ok t hp 2000 h (by omega)
 simp only [Tm.av] at h1
 have e : (((2000 + 1 : Nat) : Int)) = 2001 := rfl
 rw [e] at h1
 (repeat' (first | (simp -dsimp -implicitDefEqProofs only [g93, c93r0, c93r1, c93, go_sem, seval, ↓reduceIte, *]) | (refine iteK_intro (fun _ => ?_) (fun _ => ?_))))

theorem rnode_ok (t : Tm) (hp : Heap) : S 130 [t.av] hp = some (.ret (.pv none (.bool t.node)), hp) := by
 refine sem_pure rfl rfl rfl (freezeAll_pvs [(some 4, t.pv)]) rfl ?_
 (repeat' (first | (simp -dsimp -implicitDefEqProofs only [g130, c130r0, c130r1, c130r2, c130r3, c130r4, c130r5, c130r6, c130r7, c130r8, c130r9, c130k10, c130k11, c130k12, c130k13, c130k14, c130r15, c130, go_sem, seval, ↓reduceIte, part_kind, part_n, part_name, part_args, Tm.pvs_len, *]) | (refine iteK_intro (fun _ => ?_) (fun _ => ?_))))
 all_goals (simp only [Tm.node, show (0 < (t.args.length : Int)) = (1 ≤ (t.args.length : Int)) from propext (by omega), *, Int.reduceEq, if_true, if_false, decide_true, decide_false, Bool.true_and, Bool.false_and, Bool.and_true])

theorem rnodes_ok : ∀ (t : Tm) (hp : Heap), t.size < 1000000000 → S 94 [t.av] hp = some (.ret (.pv none (.bool t.fits)), hp) := by
 intro t
 induction t using Tm.induct with
 | h t ih =>
  intro hp ht
  have hts := t.size_eq
  have hlen := Tm.sizes_len t.args
  refine sem_pure rfl rfl rfl (freezeAll_pvs [(some 4, t.pv)]) rfl ?_
  have hnode := rnode_ok t
  simp only [Tm.av] at hnode
  by_cases hn : t.node = true
  ·rw [hn] at hnode
   simp -dsimp -implicitDefEqProofs only [g94, c94r0, c94r1, c94r2, c94k3, c94r4, c94r5, c94k6, c94r7, c94r8, c94k9, c94k10, c94r11, c94b12, c94k13, c94r14, c94, go_sem, seval, ↓reduceIte, hnode, part_args, Tm.pvs_len]
   refine W_loop (fun n st => ∃ i : Nat, n = t.args.length - i ∧ i ≤ t.args.length ∧ Tm.fitsAll (t.args.take i) = true ∧ st = ⟨[(1, .ptr 0 0), (3, .pv none (.int .i64 i))], [.box (some 4) (.pv (some 4) t.pv)]⟩) (n := t.args.length) ⟨0, rfl, Nat.zero_le _, rfl, ?_⟩ ?_
   ·simp -dsimp -implicitDefEqProofs only [go_sem, seval, ↓reduceIte]
    try rfl
   ·rintro n st ⟨i, hn', hi, hf, rfl⟩
    by_cases h : i < t.args.length
    ·have hc : (i : Int) < (t.args.length : Int) := by omega
     obtain ⟨u, hu⟩ : ∃ u, t.args[i]? = some u := ⟨_, List.getElem?_eq_getElem h⟩
     have hum := List.mem_of_getElem? hu
     have husz := Tm.arg_lt hum
     have hcall := fun hp => ih u hum hp (by omega)
     have e6 : Tm.fitsAll (t.args.take (i + 1)) = (Tm.fitsAll (t.args.take i) && u.fits) := Tm.fitsAll_take hu
     have w2 : IntKind.i64.wrap ((i : Int) + 1) = ((i + 1 : Nat) : Int) := by rw [wrap64 (by omega) (by omega)]; omega
     by_cases h0 : u.fits = true
     ·simp -dsimp -implicitDefEqProofs only [g94, c94r0, c94r1, c94r2, c94k3, c94r4, c94r5, c94k6, c94r7, c94r8, c94k9, c94k10, c94r11, c94b12, c94k13, c94r14, c94, go_sem, seval, ↓reduceIte, part_args, Tm.pvs_len, hc, h0, s_iaddr_pv (Tm.pvs_get hu), show AV.pv (some 4) u.pv = u.av from rfl, hcall, w2]
      exact ⟨t.args.length - (i + 1), by omega, i + 1, rfl, by omega, by rw [e6, hf, h0]; rfl, rfl⟩
     ·rw [Bool.not_eq_true] at h0
      simp -dsimp -implicitDefEqProofs only [g94, c94r0, c94r1, c94r2, c94k3, c94r4, c94r5, c94k6, c94r7, c94r8, c94k9, c94k10, c94r11, c94b12, c94k13, c94r14, c94, go_sem, seval, ↓reduceIte, part_args, Tm.pvs_len, hc, h0, s_iaddr_pv (Tm.pvs_get hu), show AV.pv (some 4) u.pv = u.av from rfl, hcall, w2]
      rw [show t.fits = false from Bool.eq_false_iff.2 fun h => by rw [Tm.fits_arg h hum] at h0; cases h0]
    ·have hc : ¬ (i : Int) < (t.args.length : Int) := by omega
     obtain rfl : i = t.args.length := by omega
     rw [List.take_length] at hf
     simp -dsimp -implicitDefEqProofs only [g94, c94r0, c94r1, c94r2, c94k3, c94r4, c94r5, c94k6, c94r7, c94r8, c94k9, c94k10, c94r11, c94b12, c94k13, c94r14, c94, go_sem, seval, ↓reduceIte, part_args, Tm.pvs_len, hc]
     rw [Tm.fits_eq, hn, hf]
     rfl
  ·rw [Bool.not_eq_true] at hn
   rw [hn] at hnode
   simp -dsimp -implicitDefEqProofs only [g94, c94r0, c94r1, c94r2, c94k3, c94r4, c94r5, c94k6, c94r7, c94r8, c94k9, c94k10, c94r11, c94b12, c94k13, c94r14, c94, go_sem, seval, ↓reduceIte, hnode, part_args, Tm.pvs_len]
   rw [Tm.fits_eq, hn]
   rfl

theorem rvalid_ok (t : Tm) (hp : Heap) (h : t.size < 1000000000) : S 43 [t.av] hp = some (.ret (.pv none (.bool t.valid)), hp) := by
 refine sem_pure rfl rfl rfl (freezeAll_pvs [(some 4, t.pv)]) rfl ?_
 have h1 := fun hp => rsize_ok t hp h
 have h2 := fun hp => rnodes_ok t hp h
 unfold Tm.valid
 simp only [Tm.av] at h1 h2
 by_cases hs : t.size ≤ 2000
 ·have hc : ((min t.size 2001 : Nat) : Int) ≤ 2000 := by omega
  (repeat' (first | (simp -dsimp -implicitDefEqProofs only [g43, c43r0, c43r1, c43, go_sem, seval, ↓reduceIte, Tm.av, *]) | (refine iteK_intro (fun _ => ?_) (fun _ => ?_))))
 ·have hc : ¬ ((min t.size 2001 : Nat) : Int) ≤ 2000 := by omega
  (repeat' (first | (simp -dsimp -implicitDefEqProofs only [g43, c43r0, c43r1, c43, go_sem, seval, ↓reduceIte, Tm.av, *]) | (refine iteK_intro (fun _ => ?_) (fun _ => ?_))))
end Go.Proofs.YtffecaafklpmhaaGreat
