/- What is proved: Expand, by the program. -/
import Derived.Test.YtffecaafklpmhaaGreatEx2
set_option linter.unusedSimpArgs false
set_option linter.unusedVariables false
namespace Go.Proofs.YtffecaafklpmhaaGreat
open Go.Am
def bagN : List UInt8 := [36, 98, 97, 103]
def setN' : List UInt8 := [36, 115, 101, 116]
def bagofN : List UInt8 := [98, 97, 103, 111, 102]
def setofN : List UInt8 := [115, 101, 116, 111, 102]
def callN : List UInt8 := [99, 97, 108, 108, 97, 98, 108, 101]
def listN : List UInt8 := [108, 105, 115, 116]
def findN : List UInt8 := [102, 105, 110, 100, 97, 108, 108]
def outT (nm : List UInt8) (w x0 g x2 : Tm) (n : Int) : Tm := strT [44] [strT findN [strT [45] [w, x0], g, tvar n], strT nm [w, tvar n, x2]]
def arg2 (t : Tm) : Tm := match t.args with
 | _ :: _ :: z :: _ => z
 | _ => .mk 0 0 [] []
theorem args_three {t : Tm} (h : t.args.length = 3) : t.args = [arg0 t, arg1 t, arg2 t] := by
 unfold arg0 arg1 arg2
 match e : t.args, h with
 | [x, y, z], _ => rfl
def setQ (t : Tm) : Prop := t.kind = 3 ∧ t.name = setofN ∧ t.args.length = 3
def bagQ (t : Tm) : Prop := t.kind = 3 ∧ t.name = bagofN ∧ t.args.length = 3
instance (t : Tm) : Decidable (setQ t) := inferInstanceAs (Decidable (_ ∧ _))
instance (t : Tm) : Decidable (bagQ t) := inferInstanceAs (Decidable (_ ∧ _))
def exN (nm : List UInt8) (t : Tm) : Tm × Tm × Int :=
 if (inner (arg1 t)).kind = 0 then (zt, instT, 8)
 else if (inner (arg1 t)).kind = 1 then (zt, typT callN (inner (arg1 t)), 8)
 else if ¬ ll (arg2 t) then (zt, typT listN (arg2 t), 8)
 else if nxt (vads [] t.occ) ≤ 1099511627776 ∧ (outT nm (lst (tvs (free (arg0 t) (arg1 t)))) (arg0 t) (inner (arg1 t)) (arg2 t) (nxt (vads [] t.occ))).valid = true then
  (outT nm (lst (tvs (free (arg0 t) (arg1 t)))) (arg0 t) (inner (arg1 t)) (arg2 t) (nxt (vads [] t.occ)), zt, 0)
 else (zt, zt, 2)
def exR (t : Tm) : Tm × Tm × Int :=
 if t.valid = true then (if setQ t then exN setN' t else if bagQ t then exN bagN t else (zt, zt, 4)) else (zt, zt, 1)
theorem pstr_ok (nm : List UInt8) (l : List Tm) (hp : Heap) : S 51 [.pv none (.str nm), .pv none (.sl (some 4) (Tm.pvs l))] hp = some (.ret (strT nm l).av, hp) := by
 refine sem_pure rfl rfl rfl (freezeAll_pvs [(none, .str nm), (none, .sl (some 4) (Tm.pvs l))]) rfl ?_
 have hb : sBuild [(none, .pv none (.int .i64 0)), (none, .pv none (.int .i64 0)), (none, .pv none (.str [])), (none, .tsl (some 4) [])] [0, 2, 3] [.pv none (.int .i64 3), .pv none (.str nm), .pv none (.sl (some 4) (Tm.pvs l))] = some (.pv (some 4) (strT nm l).pv) := rfl
 simp -dsimp -implicitDefEqProofs only [g51, c51r0, c51r1, c51, go_sem, seval, ↓reduceIte, Tm.av, hb, w_alloc_agg]
 try rfl
theorem lst_kind (l : List Tm) : ¬ (lst l).kind = 0 := by
 cases l with
 | nil => decide
 | cons x r => show ¬ (3 : Int) = 0; decide
theorem wit_rng (p g : Tm) (hg : g.valid = true) : ∀ v ∈ free p g, 0 ≤ v ∧ v ≤ 1099511627776 := fun v hv => by
 have h := (List.mem_filter.1 hv).1
 exact occ_rng (valid_fits hg) v (by simpa using (vads_mem g.occ [] v).1 h)
theorem out_size (nm : List UInt8) (w x0 g x2 : Tm) (n : Int) : (outT nm w x0 g x2 n).size = 1 + ((1 + ((1 + (w.size + (x0.size + 0))) + (g.size + (1 + 0)))) + ((1 + (w.size + (1 + (x2.size + 0)))) + 0)) := by
 unfold outT strT
 rw [Tm.size_eq]
 show 1 + ((Tm.mk 3 0 findN _).size + ((Tm.mk 3 0 nm _).size + 0)) = _
 rw [Tm.size_eq, Tm.size_eq]
 show 1 + ((1 + ((Tm.mk 3 0 [45] _).size + _)) + _) = _
 rw [Tm.size_eq]
 rfl
theorem out_no {nm : List UInt8} {w x0 g x2 : Tm} {n : Int} (hw : w.fits = true) (h : w.valid = false) : (outT nm w x0 g x2 n).valid = false := by
 have h1 : ¬ w.size ≤ 2000 := fun e => by rw [valid_of hw e] at h; cases h
 cases e : (outT nm w x0 g x2 n).valid with
 | false => rfl
 | true =>
  have h2 := valid_size e
  have s := out_size nm w x0 g x2 n
  omega
set_option maxRecDepth 8000 in
theorem pexpand_ok (t : Tm) (ht : t.size < 1000000000) (hp : Heap) : S 23 [t.av] hp = some (.ret (.tuple [(exR t).1.av, (exR t).2.1.av, .pv none (.int .i64 (exR t).2.2)]), hp) := by
 refine sem_pure rfl rfl rfl (freezeAll_pvs [(some 4, t.pv)]) rfl ?_
 have h1 := fun hp => valid_ok t hp ht
 simp only [Tm.av] at h1
 by_cases hv : t.valid = true
 rotate_left
 ·have hv' : t.valid = false := by simpa using hv
  have e : exR t = (zt, zt, 1) := by unfold exR; rw [if_neg hv]
  rw [e]
  simp -dsimp -implicitDefEqProofs only [g23, c23r0, c23r1, c23r2, c23k3, c23r4, c23r5, c23r6, c23r7, c23r8, c23k9, c23k10, c23k11, c23r12, c23r13, c23r14, c23r15, c23r16, c23r17, c23r18, c23r19, c23k20, c23k21, c23k22, c23k23, c23r24, c23r25, c23r26, c23r27, c23k28, c23r29, c23r30, c23r31, c23r32, c23r33, c23k34, c23r35, c23, go_sem, seval, ↓reduceIte, Tm.av, h1, hv', hb0, w_alloc_agg, w_store_agg (Nat.zero_le _)]
  exact ⟨_, rfl⟩
 have hz := valid_size hv
 have hs1 : ∀ hp, S 67 [.pv (some 4) t.pv, .pv none (.str [115, 101, 116, 111, 102]), .pv none (.int .i64 3)] hp = some (.ret (.pv none (.bool (decide (setQ t)))), hp) := fun hp => is_ok t setofN 3 hp
 have hs2 : ∀ hp, S 67 [.pv (some 4) t.pv, .pv none (.str [98, 97, 103, 111, 102]), .pv none (.int .i64 3)] hp = some (.ret (.pv none (.bool (decide (bagQ t)))), hp) := fun hp => is_ok t bagofN 3 hp
 by_cases q0 : setQ t ∨ bagQ t
 rotate_left
 ·have q1 : ¬ setQ t := fun e => q0 (.inl e)
  have q2 : ¬ bagQ t := fun e => q0 (.inr e)
  have e : exR t = (zt, zt, 4) := by unfold exR; rw [if_pos hv, if_neg q1, if_neg q2]
  have d1 : decide (setQ t) = false := decide_eq_false q1
  have d2 : decide (bagQ t) = false := decide_eq_false q2
  rw [d1] at hs1
  rw [d2] at hs2
  rw [e]
  simp -dsimp -implicitDefEqProofs only [g23, c23r0, c23r1, c23r2, c23k3, c23r4, c23r5, c23r6, c23r7, c23r8, c23k9, c23k10, c23k11, c23r12, c23r13, c23r14, c23r15, c23r16, c23r17, c23r18, c23r19, c23k20, c23k21, c23k22, c23k23, c23r24, c23r25, c23r26, c23r27, c23k28, c23r29, c23r30, c23r31, c23r32, c23r33, c23k34, c23r35, c23, go_sem, seval, ↓reduceIte, Tm.av, h1, hv, hs1, hs2, hb0, w_alloc_agg, w_store_agg (Nat.zero_le _)]
  exact ⟨_, rfl⟩
 have hk : t.args.length = 3 := q0.elim (fun q => q.2.2) fun q => q.2.2
 have hpa : Tm.pvs t.args = [(arg0 t).pv, (arg1 t).pv, (arg2 t).pv] := by rw [args_three hk]; rfl
 have m0 : arg0 t ∈ t.args := by rw [args_three hk]; simp
 have m1 : arg1 t ∈ t.args := by rw [args_three hk]; simp
 have m2 : arg2 t ∈ t.args := by rw [args_three hk]; simp
 have v0 := valid_arg hv m0
 have v1 := valid_arg hv m1
 have v2 := valid_arg hv m2
 have hin := stripped_ok (arg1 t) v1
 have hiv := inner_valid _ (arg1 t) rfl v1
 have hll := listLike_ok (arg2 t) v2
 have hty1 := ptype_ok callN (by decide) (inner (arg1 t)) hiv
 have hty2 := ptype_ok listN (by decide) (arg2 t) v2
 have hins := pinst_ok
 simp only [Tm.av, callN, listN] at hin hll hty1 hty2 hins
 have i0 : sIaddr (some 4) [.pv none (.sl (some 4) [(arg0 t).pv, (arg1 t).pv, (arg2 t).pv]), .pv none (.int .i64 0)] = some (.iptr (some 4) (arg0 t).pv 0) := rfl
 have i1 : sIaddr (some 4) [.pv none (.sl (some 4) [(arg0 t).pv, (arg1 t).pv, (arg2 t).pv]), .pv none (.int .i64 1)] = some (.iptr (some 4) (arg1 t).pv 0) := rfl
 have i2 : sIaddr (some 4) [.pv none (.sl (some 4) [(arg0 t).pv, (arg1 t).pv, (arg2 t).pv]), .pv none (.int .i64 2)] = some (.iptr (some 4) (arg2 t).pv 0) := rfl
 have st5 : ∀ (a0 a1 a2 a3 a4 : AObj) (old : AV) (e : Heap) (p x y : PV), wStoren (some 4) 0 (a0 :: a1 :: a2 :: a3 :: a4 :: .box (some 4) old :: e) [.ptr 5 0, .pv (some 4) p, .ptr 0 3, .iptr (some 4) x 0, .ptr 0 3, .iptr (some 4) y 0] = some (.undef, a0 :: a1 :: a2 :: a3 :: a4 :: .box (some 4) (.pv (some 4) p) :: e) := fun _ _ _ _ _ _ _ _ _ _ => rfl
 have st7 : ∀ (a0 a1 a2 a3 a4 a5 a6 : AObj) (old : AV) (e : Heap) (p y : PV), wStoren (some 4) 0 (a0 :: a1 :: a2 :: a3 :: a4 :: a5 :: a6 :: .box (some 4) old :: e) [.ptr 7 0, .pv (some 4) p, .ptr 0 3, .iptr (some 4) y 0] = some (.undef, a0 :: a1 :: a2 :: a3 :: a4 :: a5 :: a6 :: .box (some 4) (.pv (some 4) p) :: e) := fun _ _ _ _ _ _ _ _ _ _ _ => rfl
 have hfr := pFree_ok (arg0 t) (arg1 t) (fit9 v0) (fit9 v1)
 have hnx := pnext_ok t hv
 have hwr := wit_rng (arg0 t) (arg1 t) v1
 have hwf := lst_fits (free (arg0 t) (arg1 t)) hwr
 have hn0 := nxt_lo (vads [] t.occ)
 simp only [Tm.av] at hfr hnx
 by_cases q1 : setQ t
 ·have d1 : decide (setQ t) = true := decide_eq_true q1
  rw [d1] at hs1
  have e : exR t = exN setN' t := by unfold exR; rw [if_pos hv, if_pos q1]
  rw [e]
  unfold exN
  by_cases g0 : (inner (arg1 t)).kind = 0
  ·rw [if_pos g0]
   have g0' := eq_true g0
   simp -dsimp -implicitDefEqProofs only [g23, c23r0, c23r1, c23r2, c23k3, c23r4, c23r5, c23r6, c23r7, c23r8, c23k9, c23k10, c23k11, c23r12, c23r13, c23r14, c23r15, c23r16, c23r17, c23r18, c23r19, c23k20, c23k21, c23k22, c23k23, c23r24, c23r25, c23r26, c23r27, c23k28, c23r29, c23r30, c23r31, c23r32, c23r33, c23k34, c23r35, c23, go_sem, seval, ↓reduceIte, Tm.av, h1, hv, hs1, part_args, hpa, i0, i1, i2, hin, part_kind, st5, st7, g0', hins, hb0, w_alloc_agg, w_store_agg (Nat.zero_le _)]
   exact ⟨_, rfl⟩
  ·rw [if_neg g0]
   have g0' := eq_false g0
   by_cases g1 : (inner (arg1 t)).kind = 1
   ·rw [if_pos g1]
    have g1' := eq_true g1
    simp -dsimp -implicitDefEqProofs only [g23, c23r0, c23r1, c23r2, c23k3, c23r4, c23r5, c23r6, c23r7, c23r8, c23k9, c23k10, c23k11, c23r12, c23r13, c23r14, c23r15, c23r16, c23r17, c23r18, c23r19, c23k20, c23k21, c23k22, c23k23, c23r24, c23r25, c23r26, c23r27, c23k28, c23r29, c23r30, c23r31, c23r32, c23r33, c23k34, c23r35, c23, go_sem, seval, ↓reduceIte, Tm.av, h1, hv, hs1, part_args, hpa, i0, i1, i2, hin, part_kind, st5, st7, g0', g1', hty1, hb0, w_alloc_agg, w_store_agg (Nat.zero_le _)]
    exact ⟨_, rfl⟩
   ·rw [if_neg g1]
    have g1' := eq_false g1
    by_cases gl : ll (arg2 t)
    rotate_left
    ·rw [if_pos gl]
     have dl : decide (ll (arg2 t)) = false := decide_eq_false gl
     rw [dl] at hll
     simp -dsimp -implicitDefEqProofs only [g23, c23r0, c23r1, c23r2, c23k3, c23r4, c23r5, c23r6, c23r7, c23r8, c23k9, c23k10, c23k11, c23r12, c23r13, c23r14, c23r15, c23r16, c23r17, c23r18, c23r19, c23k20, c23k21, c23k22, c23k23, c23r24, c23r25, c23r26, c23r27, c23k28, c23r29, c23r30, c23r31, c23r32, c23r33, c23k34, c23r35, c23, go_sem, seval, ↓reduceIte, Tm.av, h1, hv, hs1, part_args, hpa, i0, i1, i2, hin, part_kind, st5, st7, g0', g1', hll, hty2, hb0, w_alloc_agg, w_store_agg (Nat.zero_le _)]
     exact ⟨_, rfl⟩
    ·rw [if_neg (fun e => e gl)]
     have dl : decide (ll (arg2 t)) = true := decide_eq_true gl
     rw [dl] at hll
     by_cases gn : nxt (vads [] t.occ) ≤ 1099511627776
     rotate_left
     ·rw [if_neg (fun e => gn e.1)]
      have gn' := eq_true (show (1099511627776 : Int) < nxt (vads [] t.occ) by omega)
      simp -dsimp -implicitDefEqProofs only [g23, c23r0, c23r1, c23r2, c23k3, c23r4, c23r5, c23r6, c23r7, c23r8, c23k9, c23k10, c23k11, c23r12, c23r13, c23r14, c23r15, c23r16, c23r17, c23r18, c23r19, c23k20, c23k21, c23k22, c23k23, c23r24, c23r25, c23r26, c23r27, c23k28, c23r29, c23r30, c23r31, c23r32, c23r33, c23k34, c23r35, c23, go_sem, seval, ↓reduceIte, Tm.av, h1, hv, hs1, part_args, hpa, i0, i1, i2, hin, part_kind, st5, st7, g0', g1', hll, hfr, hnx, gn', hb0, w_alloc_agg, w_store_agg (Nat.zero_le _)]
      exact ⟨_, rfl⟩
     ·have gn' := eq_false (show ¬ (1099511627776 : Int) < nxt (vads [] t.occ) by omega)
      by_cases gw : (lst (tvs (free (arg0 t) (arg1 t)))).valid = true
      rotate_left
      ·have ef : frR (arg0 t) (arg1 t) = zt := by unfold frR; rw [if_pos ⟨v0, v1⟩, if_neg gw]
       have eo := out_no (nm := setN') (x0 := arg0 t) (g := inner (arg1 t)) (x2 := arg2 t) (n := nxt (vads [] t.occ)) hwf (by simpa using gw)
       rw [if_neg (fun e => by rw [eo] at e; cases e.2)]
       rw [ef] at hfr
       have zk := eq_true (show zt.kind = 0 by rfl)
       simp -dsimp -implicitDefEqProofs only [g23, c23r0, c23r1, c23r2, c23k3, c23r4, c23r5, c23r6, c23r7, c23r8, c23k9, c23k10, c23k11, c23r12, c23r13, c23r14, c23r15, c23r16, c23r17, c23r18, c23r19, c23k20, c23k21, c23k22, c23k23, c23r24, c23r25, c23r26, c23r27, c23k28, c23r29, c23r30, c23r31, c23r32, c23r33, c23k34, c23r35, c23, go_sem, seval, ↓reduceIte, Tm.av, h1, hv, hs1, part_args, hpa, i0, i1, i2, hin, part_kind, st5, st7, g0', g1', hll, hfr, hnx, gn', zk, hb0, w_alloc_agg, w_store_agg (Nat.zero_le _)]
       exact ⟨_, rfl⟩
      ·have ef : frR (arg0 t) (arg1 t) = lst (tvs (free (arg0 t) (arg1 t))) := by unfold frR; rw [if_pos ⟨v0, v1⟩, if_pos gw]
       rw [ef] at hfr
       have zk := eq_false (lst_kind (tvs (free (arg0 t) (arg1 t))))
       have hva := pVar_ok (nxt (vads [] t.occ)) ⟨hn0, gn⟩
       have p1 := pstr_ok [45] [lst (tvs (free (arg0 t) (arg1 t))), arg0 t] []
       have p2 := pstr_ok findN [strT [45] [lst (tvs (free (arg0 t) (arg1 t))), arg0 t], inner (arg1 t), tvar (nxt (vads [] t.occ))] []
       have p3 := pstr_ok setN' [lst (tvs (free (arg0 t) (arg1 t))), tvar (nxt (vads [] t.occ)), arg2 t] []
       have p4 := pstr_ok [44] [strT findN [strT [45] [lst (tvs (free (arg0 t) (arg1 t))), arg0 t], inner (arg1 t), tvar (nxt (vads [] t.occ))], strT setN' [lst (tvs (free (arg0 t) (arg1 t))), tvar (nxt (vads [] t.occ)), arg2 t]] []
       have eO : strT [44] [strT findN [strT [45] [lst (tvs (free (arg0 t) (arg1 t))), arg0 t], inner (arg1 t), tvar (nxt (vads [] t.occ))], strT setN' [lst (tvs (free (arg0 t) (arg1 t))), tvar (nxt (vads [] t.occ)), arg2 t]] = outT setN' (lst (tvs (free (arg0 t) (arg1 t)))) (arg0 t) (inner (arg1 t)) (arg2 t) (nxt (vads [] t.occ)) := rfl
       rw [eO] at p4
       have os := out_size setN' (lst (tvs (free (arg0 t) (arg1 t)))) (arg0 t) (inner (arg1 t)) (arg2 t) (nxt (vads [] t.occ))
       have z0 := valid_size v0
       have z1 := valid_size hiv
       have z2 := valid_size v2
       have z3 := valid_size gw
       have hov := fun hp => valid_ok (outT setN' (lst (tvs (free (arg0 t) (arg1 t)))) (arg0 t) (inner (arg1 t)) (arg2 t) (nxt (vads [] t.occ))) hp (by omega)
       have hoc := fun hp h => clone_ok (outT setN' (lst (tvs (free (arg0 t) (arg1 t)))) (arg0 t) (inner (arg1 t)) (arg2 t) (nxt (vads [] t.occ))) hp h (by omega)
       have tp2 : ∀ a b : Tm, Tm.pvs [a, b] = [a.pv, b.pv] := fun _ _ => rfl
       have tp3 : ∀ a b c : Tm, Tm.pvs [a, b, c] = [a.pv, b.pv, c.pv] := fun _ _ _ => rfl
       rw [tp2] at p1 p4
       rw [tp3] at p2 p3
       simp only [Tm.av, findN, setN'] at hva p1 p2 p3 p4 hov hoc
       by_cases go : (outT setN' (lst (tvs (free (arg0 t) (arg1 t)))) (arg0 t) (inner (arg1 t)) (arg2 t) (nxt (vads [] t.occ))).valid = true
       ·rw [if_pos ⟨gn, go⟩]
        have hoc := fun hp => hoc hp go
        have go' := go
        simp only [setN'] at hov hoc go'
        simp -dsimp -implicitDefEqProofs only [g23, c23r0, c23r1, c23r2, c23k3, c23r4, c23r5, c23r6, c23r7, c23r8, c23k9, c23k10, c23k11, c23r12, c23r13, c23r14, c23r15, c23r16, c23r17, c23r18, c23r19, c23k20, c23k21, c23k22, c23k23, c23r24, c23r25, c23r26, c23r27, c23k28, c23r29, c23r30, c23r31, c23r32, c23r33, c23k34, c23r35, c23, go_sem, seval, ↓reduceIte, Tm.av, h1, hv, hs1, part_args, hpa, i0, i1, i2, hin, part_kind, st5, st7, g0', g1', hll, hfr, hnx, gn', zk, hva, p1, p2, p3, p4, hov, go', hoc, hb0, w_alloc_agg, w_store_agg (Nat.zero_le _)]
        exact ⟨_, rfl⟩
       ·rw [if_neg (fun e => go e.2)]
        have go' : (outT setN' (lst (tvs (free (arg0 t) (arg1 t)))) (arg0 t) (inner (arg1 t)) (arg2 t) (nxt (vads [] t.occ))).valid = false := by simpa using go
        simp only [setN'] at hov go'
        simp -dsimp -implicitDefEqProofs only [g23, c23r0, c23r1, c23r2, c23k3, c23r4, c23r5, c23r6, c23r7, c23r8, c23k9, c23k10, c23k11, c23r12, c23r13, c23r14, c23r15, c23r16, c23r17, c23r18, c23r19, c23k20, c23k21, c23k22, c23k23, c23r24, c23r25, c23r26, c23r27, c23k28, c23r29, c23r30, c23r31, c23r32, c23r33, c23k34, c23r35, c23, go_sem, seval, ↓reduceIte, Tm.av, h1, hv, hs1, part_args, hpa, i0, i1, i2, hin, part_kind, st5, st7, g0', g1', hll, hfr, hnx, gn', zk, hva, p1, p2, p3, p4, hov, go', hb0, w_alloc_agg, w_store_agg (Nat.zero_le _)]
        exact ⟨_, rfl⟩
 ·have q2 : bagQ t := q0.resolve_left q1
  have d1 : decide (setQ t) = false := decide_eq_false q1
  have d2 : decide (bagQ t) = true := decide_eq_true q2
  rw [d1] at hs1
  rw [d2] at hs2
  have e : exR t = exN bagN t := by unfold exR; rw [if_pos hv, if_neg q1, if_pos q2]
  rw [e]
  unfold exN
  by_cases g0 : (inner (arg1 t)).kind = 0
  ·rw [if_pos g0]
   have g0' := eq_true g0
   simp -dsimp -implicitDefEqProofs only [g23, c23r0, c23r1, c23r2, c23k3, c23r4, c23r5, c23r6, c23r7, c23r8, c23k9, c23k10, c23k11, c23r12, c23r13, c23r14, c23r15, c23r16, c23r17, c23r18, c23r19, c23k20, c23k21, c23k22, c23k23, c23r24, c23r25, c23r26, c23r27, c23k28, c23r29, c23r30, c23r31, c23r32, c23r33, c23k34, c23r35, c23, go_sem, seval, ↓reduceIte, Tm.av, h1, hv, hs1, hs2, part_args, hpa, i0, i1, i2, hin, part_kind, st5, st7, g0', hins, hb0, w_alloc_agg, w_store_agg (Nat.zero_le _)]
   exact ⟨_, rfl⟩
  ·rw [if_neg g0]
   have g0' := eq_false g0
   by_cases g1 : (inner (arg1 t)).kind = 1
   ·rw [if_pos g1]
    have g1' := eq_true g1
    simp -dsimp -implicitDefEqProofs only [g23, c23r0, c23r1, c23r2, c23k3, c23r4, c23r5, c23r6, c23r7, c23r8, c23k9, c23k10, c23k11, c23r12, c23r13, c23r14, c23r15, c23r16, c23r17, c23r18, c23r19, c23k20, c23k21, c23k22, c23k23, c23r24, c23r25, c23r26, c23r27, c23k28, c23r29, c23r30, c23r31, c23r32, c23r33, c23k34, c23r35, c23, go_sem, seval, ↓reduceIte, Tm.av, h1, hv, hs1, hs2, part_args, hpa, i0, i1, i2, hin, part_kind, st5, st7, g0', g1', hty1, hb0, w_alloc_agg, w_store_agg (Nat.zero_le _)]
    exact ⟨_, rfl⟩
   ·rw [if_neg g1]
    have g1' := eq_false g1
    by_cases gl : ll (arg2 t)
    rotate_left
    ·rw [if_pos gl]
     have dl : decide (ll (arg2 t)) = false := decide_eq_false gl
     rw [dl] at hll
     simp -dsimp -implicitDefEqProofs only [g23, c23r0, c23r1, c23r2, c23k3, c23r4, c23r5, c23r6, c23r7, c23r8, c23k9, c23k10, c23k11, c23r12, c23r13, c23r14, c23r15, c23r16, c23r17, c23r18, c23r19, c23k20, c23k21, c23k22, c23k23, c23r24, c23r25, c23r26, c23r27, c23k28, c23r29, c23r30, c23r31, c23r32, c23r33, c23k34, c23r35, c23, go_sem, seval, ↓reduceIte, Tm.av, h1, hv, hs1, hs2, part_args, hpa, i0, i1, i2, hin, part_kind, st5, st7, g0', g1', hll, hty2, hb0, w_alloc_agg, w_store_agg (Nat.zero_le _)]
     exact ⟨_, rfl⟩
    ·rw [if_neg (fun e => e gl)]
     have dl : decide (ll (arg2 t)) = true := decide_eq_true gl
     rw [dl] at hll
     by_cases gn : nxt (vads [] t.occ) ≤ 1099511627776
     rotate_left
     ·rw [if_neg (fun e => gn e.1)]
      have gn' := eq_true (show (1099511627776 : Int) < nxt (vads [] t.occ) by omega)
      simp -dsimp -implicitDefEqProofs only [g23, c23r0, c23r1, c23r2, c23k3, c23r4, c23r5, c23r6, c23r7, c23r8, c23k9, c23k10, c23k11, c23r12, c23r13, c23r14, c23r15, c23r16, c23r17, c23r18, c23r19, c23k20, c23k21, c23k22, c23k23, c23r24, c23r25, c23r26, c23r27, c23k28, c23r29, c23r30, c23r31, c23r32, c23r33, c23k34, c23r35, c23, go_sem, seval, ↓reduceIte, Tm.av, h1, hv, hs1, hs2, part_args, hpa, i0, i1, i2, hin, part_kind, st5, st7, g0', g1', hll, hfr, hnx, gn', hb0, w_alloc_agg, w_store_agg (Nat.zero_le _)]
      exact ⟨_, rfl⟩
     ·have gn' := eq_false (show ¬ (1099511627776 : Int) < nxt (vads [] t.occ) by omega)
      by_cases gw : (lst (tvs (free (arg0 t) (arg1 t)))).valid = true
      rotate_left
      ·have ef : frR (arg0 t) (arg1 t) = zt := by unfold frR; rw [if_pos ⟨v0, v1⟩, if_neg gw]
       have eo := out_no (nm := bagN) (x0 := arg0 t) (g := inner (arg1 t)) (x2 := arg2 t) (n := nxt (vads [] t.occ)) hwf (by simpa using gw)
       rw [if_neg (fun e => by rw [eo] at e; cases e.2)]
       rw [ef] at hfr
       have zk := eq_true (show zt.kind = 0 by rfl)
       simp -dsimp -implicitDefEqProofs only [g23, c23r0, c23r1, c23r2, c23k3, c23r4, c23r5, c23r6, c23r7, c23r8, c23k9, c23k10, c23k11, c23r12, c23r13, c23r14, c23r15, c23r16, c23r17, c23r18, c23r19, c23k20, c23k21, c23k22, c23k23, c23r24, c23r25, c23r26, c23r27, c23k28, c23r29, c23r30, c23r31, c23r32, c23r33, c23k34, c23r35, c23, go_sem, seval, ↓reduceIte, Tm.av, h1, hv, hs1, hs2, part_args, hpa, i0, i1, i2, hin, part_kind, st5, st7, g0', g1', hll, hfr, hnx, gn', zk, hb0, w_alloc_agg, w_store_agg (Nat.zero_le _)]
       exact ⟨_, rfl⟩
      ·have ef : frR (arg0 t) (arg1 t) = lst (tvs (free (arg0 t) (arg1 t))) := by unfold frR; rw [if_pos ⟨v0, v1⟩, if_pos gw]
       rw [ef] at hfr
       have zk := eq_false (lst_kind (tvs (free (arg0 t) (arg1 t))))
       have hva := pVar_ok (nxt (vads [] t.occ)) ⟨hn0, gn⟩
       have p1 := pstr_ok [45] [lst (tvs (free (arg0 t) (arg1 t))), arg0 t] []
       have p2 := pstr_ok findN [strT [45] [lst (tvs (free (arg0 t) (arg1 t))), arg0 t], inner (arg1 t), tvar (nxt (vads [] t.occ))] []
       have p3 := pstr_ok bagN [lst (tvs (free (arg0 t) (arg1 t))), tvar (nxt (vads [] t.occ)), arg2 t] []
       have p4 := pstr_ok [44] [strT findN [strT [45] [lst (tvs (free (arg0 t) (arg1 t))), arg0 t], inner (arg1 t), tvar (nxt (vads [] t.occ))], strT bagN [lst (tvs (free (arg0 t) (arg1 t))), tvar (nxt (vads [] t.occ)), arg2 t]] []
       have eO : strT [44] [strT findN [strT [45] [lst (tvs (free (arg0 t) (arg1 t))), arg0 t], inner (arg1 t), tvar (nxt (vads [] t.occ))], strT bagN [lst (tvs (free (arg0 t) (arg1 t))), tvar (nxt (vads [] t.occ)), arg2 t]] = outT bagN (lst (tvs (free (arg0 t) (arg1 t)))) (arg0 t) (inner (arg1 t)) (arg2 t) (nxt (vads [] t.occ)) := rfl
       rw [eO] at p4
       have os := out_size bagN (lst (tvs (free (arg0 t) (arg1 t)))) (arg0 t) (inner (arg1 t)) (arg2 t) (nxt (vads [] t.occ))
       have z0 := valid_size v0
       have z1 := valid_size hiv
       have z2 := valid_size v2
       have z3 := valid_size gw
       have hov := fun hp => valid_ok (outT bagN (lst (tvs (free (arg0 t) (arg1 t)))) (arg0 t) (inner (arg1 t)) (arg2 t) (nxt (vads [] t.occ))) hp (by omega)
       have hoc := fun hp h => clone_ok (outT bagN (lst (tvs (free (arg0 t) (arg1 t)))) (arg0 t) (inner (arg1 t)) (arg2 t) (nxt (vads [] t.occ))) hp h (by omega)
       have tp2 : ∀ a b : Tm, Tm.pvs [a, b] = [a.pv, b.pv] := fun _ _ => rfl
       have tp3 : ∀ a b c : Tm, Tm.pvs [a, b, c] = [a.pv, b.pv, c.pv] := fun _ _ _ => rfl
       rw [tp2] at p1 p4
       rw [tp3] at p2 p3
       simp only [Tm.av, findN, bagN] at hva p1 p2 p3 p4 hov hoc
       by_cases go : (outT bagN (lst (tvs (free (arg0 t) (arg1 t)))) (arg0 t) (inner (arg1 t)) (arg2 t) (nxt (vads [] t.occ))).valid = true
       ·rw [if_pos ⟨gn, go⟩]
        have hoc := fun hp => hoc hp go
        have go' := go
        simp only [bagN] at hov hoc go'
        simp -dsimp -implicitDefEqProofs only [g23, c23r0, c23r1, c23r2, c23k3, c23r4, c23r5, c23r6, c23r7, c23r8, c23k9, c23k10, c23k11, c23r12, c23r13, c23r14, c23r15, c23r16, c23r17, c23r18, c23r19, c23k20, c23k21, c23k22, c23k23, c23r24, c23r25, c23r26, c23r27, c23k28, c23r29, c23r30, c23r31, c23r32, c23r33, c23k34, c23r35, c23, go_sem, seval, ↓reduceIte, Tm.av, h1, hv, hs1, hs2, part_args, hpa, i0, i1, i2, hin, part_kind, st5, st7, g0', g1', hll, hfr, hnx, gn', zk, hva, p1, p2, p3, p4, hov, go', hoc, hb0, w_alloc_agg, w_store_agg (Nat.zero_le _)]
        exact ⟨_, rfl⟩
       ·rw [if_neg (fun e => go e.2)]
        have go' : (outT bagN (lst (tvs (free (arg0 t) (arg1 t)))) (arg0 t) (inner (arg1 t)) (arg2 t) (nxt (vads [] t.occ))).valid = false := by simpa using go
        simp only [bagN] at hov go'
        simp -dsimp -implicitDefEqProofs only [g23, c23r0, c23r1, c23r2, c23k3, c23r4, c23r5, c23r6, c23r7, c23r8, c23k9, c23k10, c23k11, c23r12, c23r13, c23r14, c23r15, c23r16, c23r17, c23r18, c23r19, c23k20, c23k21, c23k22, c23k23, c23r24, c23r25, c23r26, c23r27, c23k28, c23r29, c23r30, c23r31, c23r32, c23r33, c23k34, c23r35, c23, go_sem, seval, ↓reduceIte, Tm.av, h1, hv, hs1, hs2, part_args, hpa, i0, i1, i2, hin, part_kind, st5, st7, g0', g1', hll, hfr, hnx, gn', zk, hva, p1, p2, p3, p4, hov, go', hb0, w_alloc_agg, w_store_agg (Nat.zero_le _)]
        exact ⟨_, rfl⟩
end Go.Proofs.YtffecaafklpmhaaGreat
