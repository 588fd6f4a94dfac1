/- What is proved: goals are stripped. -/
import Derived.Test.YtffecaafklpmhaaBg
import Derived.Test.YtffecaafklpmhaaAm4
set_option linter.unusedSimpArgs false
set_option linter.unusedVariables false
namespace Go.Proofs.Ytffecaafklpmhaa
open Go.Am
theorem is_q (t : Tm) (hp : Heap) : S 54 [t.av, .pv none (.str [94]), .pv none (.int .i64 2)] hp = some (.ret (.pv none (.bool (decide (qd t)))), hp) := by
 refine sem_pure rfl rfl rfl (freezeAll_pvs [(some 4, t.pv), (none, .str [94]), (none, .int .i64 2)]) rfl ?_
 by_cases h1 : t.kind = 3
 ·have h1' := eq_true h1
  by_cases h2 : t.name = [94]
  ·have h2' := eq_true h2
   by_cases h3 : t.args.length = 2
   ·have h3' := eq_true (show (t.args.length : Int) = 2 by omega)
    have e : decide (qd t) = true := by simp [qd, h1, h2, h3]
    rw [e]
    simp -dsimp -implicitDefEqProofs only [g54, c54r0, c54r1, c54, go_sem, seval, ↓reduceIte, Tm.av, part_kind, part_name, part_args, Tm.pvs_len, h1', h2', h3']
   ·have h3' := eq_false (show ¬ (t.args.length : Int) = 2 by omega)
    have e : decide (qd t) = false := by simp [qd, h3]
    rw [e]
    simp -dsimp -implicitDefEqProofs only [g54, c54r0, c54r1, c54, go_sem, seval, ↓reduceIte, Tm.av, part_kind, part_name, part_args, Tm.pvs_len, h1', h2', h3']
  ·have h2' := eq_false h2
   have e : decide (qd t) = false := by simp [qd, h2]
   rw [e]
   simp -dsimp -implicitDefEqProofs only [g54, c54r0, c54r1, c54, go_sem, seval, ↓reduceIte, Tm.av, part_kind, part_name, part_args, Tm.pvs_len, h1', h2']
 ·have h1' := eq_false h1
  have e : decide (qd t) = false := by simp [qd, h1]
  rw [e]
  simp -dsimp -implicitDefEqProofs only [g54, c54r0, c54r1, c54, go_sem, seval, ↓reduceIte, Tm.av, part_kind, part_name, part_args, Tm.pvs_len, h1']
theorem ia0 {es : List PV} {p : PV} (h : es[0]? = some p) : sIaddr (some 4) [.pv none (.sl (some 4) es), .pv none (.int .i64 0)] = some (.iptr (some 4) p 0) := s_iaddr_pv0 h
theorem ia1 {es : List PV} {p : PV} (h : es[1]? = some p) : sIaddr (some 4) [.pv none (.sl (some 4) es), .pv none (.int .i64 1)] = some (.iptr (some 4) p 0) := by
 simp [sIaddr, aindex, h]
def zg (q : Nat) : AV := .agg [(none, .pv none (.int .i64 0)), (none, .pv none (.int .i64 0)), (none, .pv none (.str [])), (none, .sl (some 4) q 0 0 0)]
structure QR {α : Type} (K : α → Tm → Heap) (N r c : Nat) (f : FuncId) (step : α → Tm → Tm → α) : Prop where
 len : ∀ s g, (K s g).length = N
 fn : ∀ s g, loopFn (K s g)[r]? = some f
 rlt : r < N
 clt : c < N
 box : ∀ s g, (K s g)[c]? = some (.box (some 4) (.pv (some 4) g.pv))
 set : ∀ s g g', (K s g).set c (.box (some 4) (.pv (some 4) g'.pv)) = K s g'
 call : ∀ s g v w ext, v.valid = true → w.valid = true → sem (find tab) prim .rnd f [.yield r, v.av, w.av] (K s g ++ ext) = some (.ret (.pv none (.bool true)), K (step s v w) g ++ ext)
def qfold {α : Type} (step : α → Tm → Tm → α) (s : α) (t : Tm) : α := if h : qd t then qfold step (step s (arg0 t) (arg1 t)) (arg1 t) else s
termination_by t.size
decreasing_by exact Tm.arg_lt (mem_arg1 h.2.2)
theorem qfold_q {α : Type} {step : α → Tm → Tm → α} {s : α} {t : Tm} (h : qd t) : qfold step s t = qfold step (step s (arg0 t) (arg1 t)) (arg1 t) := by rw [qfold, dif_pos h]
theorem qfold_n {α : Type} {step : α → Tm → Tm → α} {s : α} {t : Tm} (h : ¬ qd t) : qfold step s t = s := by rw [qfold, dif_neg h]
theorem qit_ok {α : Type} {K : α → Tm → Heap} {N r c : Nat} {f : FuncId} {step : α → Tm → Tm → α} (R : QR K N r c f step) (s : α) (g : Tm) (hv : g.valid = true) :
  S 71 [.yield r, .ptr c 0] (K s g) = some (.ret (.tuple []), K (qfold step s g) (inner g)) := by
 refine sem_heap rfl rfl rfl rfl ?_
 have hlen := R.len
 have hgc : ∀ s g (e : Heap), (K s g ++ e)[c]? = some (.box (some 4) (.pv (some 4) g.pv)) := fun s g e => by rw [List.getElem?_append_left (by rw [R.len]; exact R.clt), R.box]
 have hgc0 := R.box
 have hsc : ∀ s g (g' : Tm) (e : Heap), (K s g ++ e).set c (.box (some 4) (.pv (some 4) g'.pv)) = K s g' ++ e := fun s g g' e => by rw [List.set_append_left _ _ (by rw [R.len]; exact R.clt), R.set]
 have hlo : ∀ s g (e : Heap), loopFn (K s g ++ e)[r]? = some f := fun s g e => by rw [List.getElem?_append_left (by rw [R.len]; exact R.rlt), R.fn]
 have hg0 : ∀ s g (e : Heap), (K s g ++ e)[N]? = e[0]? := fun s g e => getN0 (hlen s g)
 have hs0 : ∀ s g (Y : AObj) (e : Heap), (K s g ++ e).set N Y = K s g ++ e.set 0 Y := fun s g Y e => setN0 (hlen s g) Y
 simp -dsimp -implicitDefEqProofs only [g71, c71r0, c71k1, c71r2, c71r3, c71r4, c71k5, c71k6, c71b7, c71k8, c71, go_sem, seval, ↓reduceIte]
 refine W_loop (fun n st => ∃ (s1 : α) (g1 : Tm), n = g1.size ∧ g1.valid = true ∧ qfold step s1 g1 = qfold step s g ∧ inner g1 = inner g ∧ st = ⟨[(0, .yield r), (1, .ptr c 0)], K s1 g1⟩) (n := g.size) ⟨s, g, rfl, hv, rfl, rfl, rfl⟩ ?_
 rintro n st ⟨s1, g1, rfl, hv1, he1, he2, rfl⟩
 have hq := is_q g1
 simp only [Tm.av] at hq
 by_cases h : qd g1
 ·have hd : decide (qd g1) = true := by simp [h]
  rw [hd] at hq
  have hlt := Tm.arg_lt (mem_arg1 h.2.2)
  have v0 := valid_arg hv1 (mem_arg0 h.2.2)
  have v1 := valid_arg hv1 (mem_arg1 h.2.2)
  have hcall := fun g e => R.call s1 g (arg0 g1) (arg1 g1) e v0 v1
  simp only [Tm.av] at hcall
  simp -dsimp -implicitDefEqProofs only [g71, c71r0, c71k1, c71r2, c71r3, c71r4, c71k5, c71k6, c71b7, c71k8, c71, go_sem, seval, ↓reduceIte, hq, hlen, hgc, hgc0, hsc, hlo, hg0, hs0, hcall, op_yield, part_args, ia0 (Tm.pvs_get (get_arg0 h.2.2)), ia1 (Tm.pvs_get (get_arg1 h.2.2)), w_alloc_agg, List.append_assoc, List.cons_append, List.nil_append, get_pre, get_pre0, set_pre, set_pre0, Nat.add_assoc, List.length_append, List.length_cons, List.length_nil, Nat.zero_add]
  refine ⟨_, hlt, step s1 (arg0 g1) (arg1 g1), arg1 g1, rfl, v1, by rw [← he1, qfold_q h], by rw [← he2, inner_q h], ?_⟩
  rw [collect_pre0 (hlen _ _) (by simp [AV.refsIn]; exact ⟨R.rlt, R.clt⟩)]
 ·have hd : decide (qd g1) = false := by simp [h]
  rw [hd] at hq
  rw [inner_n h] at he2
  rw [qfold_n h] at he1
  rw [← he1, ← he2]
  simp -dsimp -implicitDefEqProofs only [g71, c71r0, c71k1, c71r2, c71r3, c71r4, c71k5, c71k6, c71b7, c71k8, c71, go_sem, seval, ↓reduceIte, hq, hlen, hgc, hgc0, List.append_assoc, List.cons_append, List.nil_append, get_pre, get_pre0, set_pre, set_pre0, Nat.add_assoc, List.length_append, List.length_cons, List.length_nil, Nat.zero_add]
  exact List.take_of_length_le (by rw [hlen]; exact Nat.le_refl _)
theorem qfold_last (s : Tm) : ∀ (n : Nat) (t : Tm), t.size = n → qd t → qfold (fun _ _ w => w) s t = inner t := by
 intro n
 induction n using Nat.strongRecOn generalizing s with
 | _ n ih =>
  intro t hn h
  rw [qfold_q h, inner_q h]
  by_cases h2 : qd (arg1 t)
  ·have := Tm.arg_lt (mem_arg1 h.2.2)
   exact ih _ (by omega) _ _ rfl h2
  ·rw [qfold_n h2, inner_n h2]
theorem qfold_inner (t : Tm) : qfold (fun _ _ w => w) t t = inner t := by
 by_cases h : qd t
 ·exact qfold_last _ _ t rfl h
 ·rw [qfold_n h, inner_n h]
def hc61 (g0 s g : Tm) : Heap := [.box (some 4) (.pv (some 4) g0.pv), .box (some 4) (zg 2), .arr (some 4) [] false, .box (some 4) (.pv (some 4) s.pv), .arr (some 4) [] false, .box (some 4) (.pv (some 4) g.pv), .loop 49 [9, 10] [(3, .ptr 3 0)] false]
theorem stripped_rnd (g0 : Tm) : QR (hc61 g0) 7 6 5 49 (fun _ _ w => w) where
 len s g := rfl
 fn s g := rfl
 rlt := by omega
 clt := by omega
 box s g := rfl
 set s g g' := rfl
 call s g v w ext hv hw := by
  refine sem_round (ps := [9, 10]) (env := [(3, .ptr 3 0)]) rfl rfl rfl rfl ?_
  simp -dsimp -implicitDefEqProofs only [g49, c49r0, c49r1, c49r2, c49r3, c49p4, c49r5, c49r6, c49k7, c49q8, c49, go_sem, seval, ↓reduceIte, List.append_assoc, List.cons_append, List.nil_append, Nat.add_assoc, List.length_append, List.length_cons, List.length_nil, Nat.zero_add, hc61, zg, zipFr, Tm.av, w_alloc_agg, List.append_assoc, List.cons_append, List.nil_append, get_pre, get_pre0, set_pre, set_pre0, Nat.add_assoc, List.length_append, List.length_cons, List.length_nil, Nat.zero_add]
  exact ⟨⟨_, rfl⟩, by simp⟩
theorem stripped_ok (t : Tm) (hv : t.valid = true) (hp : Heap) : S 49 [t.av] hp = some (.ret (inner t).av, hp) := by
 refine sem_pure_range rfl rfl rfl (freezeAll_pvs [(some 4, t.pv)]) rfl rfl ?_
 have hqt : ∀ H : Heap, S 51 [t.av] H = some (.ret (.func (.func 71) [] [.ptr H.length 0]), H ++ [.box (some 4) (.pv (some 4) t.pv)]) := fun H => by
  refine sem_heap rfl rfl rfl rfl ?_
  simp -dsimp -implicitDefEqProofs only [g51, c51r0, c51r1, c51, go_sem, seval, ↓reduceIte, Tm.av, List.append_assoc, List.cons_append, List.nil_append, get_pre, get_pre0, set_pre, set_pre0, Nat.add_assoc, List.length_append, List.length_cons, List.length_nil, Nat.zero_add]
  simp [AV.refsIn, AV.refsIn.gol]
 simp only [Tm.av] at hqt
 simp -dsimp -implicitDefEqProofs only [g49, c49r0, c49r1, c49r2, c49r3, c49p4, c49r5, c49r6, c49k7, c49q8, c49, go_sem, seval, ↓reduceIte, Tm.av, hqt, w_alloc_agg]
 have h1 := qit_ok (stripped_rnd t) t t hv
 rw [qfold_inner] at h1
 refine ⟨_, atop_range rfl rfl (by rw [sem_seq (by rfl)]; exact h1) rfl, ?_⟩
 simp -dsimp -implicitDefEqProofs only [g49, c49r0, c49r1, c49r2, c49r3, c49p4, c49r5, c49r6, c49k7, c49q8, c49, go_sem, seval, ↓reduceIte, hc61, List.take_succ_cons, zg]
 rfl
def stR (t : Tm) : Tm := if t.valid = true then inner t else zt
theorem pstrip_ok (t : Tm) (ht : t.size < 1000000000) (hp : Heap) : S 21 [t.av] hp = some (.ret (stR t).av, hp) := by
 refine sem_pure rfl rfl rfl (freezeAll_pvs [(some 4, t.pv)]) rfl ?_
 have h1 := fun hp => valid_ok t hp ht
 simp only [Tm.av] at h1
 by_cases hv : t.valid = true
 ·have hi := inner_valid _ t rfl hv
  have h2 := stripped_ok t hv
  have h3 := fun hp => clone_ok (inner t) hp hi (fit9 hi)
  simp only [Tm.av] at h2 h3
  unfold stR
  rw [if_pos hv]
  simp -dsimp -implicitDefEqProofs only [g21, c21r0, c21r1, c21r2, c21k3, c21r4, c21, go_sem, seval, ↓reduceIte, Tm.av, h1, hv, h2, h3, w_alloc_agg]
  try rfl
 ·have hv' : t.valid = false := by simpa using hv
  unfold stR
  rw [if_neg hv]
  simp -dsimp -implicitDefEqProofs only [g21, c21r0, c21r1, c21r2, c21k3, c21r4, c21, go_sem, seval, ↓reduceIte, Tm.av, h1, hv', hb0, w_alloc_agg, w_store_agg (Nat.zero_le _)]
  exact ⟨_, rfl⟩
end Go.Proofs.Ytffecaafklpmhaa
