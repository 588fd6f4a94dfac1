/- What is proved: Expand, by the reference. -/
import Derived.Test.YtffecaafklpmhaaGreatEx3
set_option linter.unusedSimpArgs false
set_option linter.unusedVariables false
namespace Go.Proofs.YtffecaafklpmhaaGreat
open Go.Am
def clR (t : Tm) : Tm × Bool := if t.kind = 0 then (instT, false) else if t.kind = 1 then (typT callN t, false) else (zt, true)
theorem callable_ok (t : Tm) (hv : t.valid = true) (hp : Heap) : S 72 [t.av] hp = some (.ret (.tuple [(clR t).1.av, .pv none (.bool (clR t).2)]), hp) := by
 refine sem_pure rfl rfl rfl (freezeAll_pvs [(some 4, t.pv)]) rfl ?_
 have h1 := fun hp => rvalid_ok t hp (fit9 hv)
 have h2 := rinst_ok
 have h3 := rtype_ok callN (by decide) t hv
 simp only [Tm.av, callN] at h1 h2 h3
 unfold clR
 by_cases g0 : t.kind = 0
 ·rw [if_pos g0]
  have g0' := eq_true g0
  simp -dsimp -implicitDefEqProofs only [g72, c72r0, c72r1, c72r2, c72k3, c72r4, c72r5, c72k6, c72r7, c72r8, c72k9, c72r10, c72, go_sem, seval, ↓reduceIte, Tm.av, h1, hv, part_kind, g0', h2, hb0, w_alloc_agg, w_store_agg (Nat.zero_le _)]
  exact ⟨_, rfl⟩
 ·rw [if_neg g0]
  have g0' := eq_false g0
  by_cases g1 : t.kind = 1
  ·rw [if_pos g1]
   have g1' := eq_true g1
   simp -dsimp -implicitDefEqProofs only [g72, c72r0, c72r1, c72r2, c72k3, c72r4, c72r5, c72k6, c72r7, c72r8, c72k9, c72r10, c72, go_sem, seval, ↓reduceIte, Tm.av, h1, hv, part_kind, g0', g1', h3, hb0, w_alloc_agg, w_store_agg (Nat.zero_le _)]
   exact ⟨_, rfl⟩
  ·rw [if_neg g1]
   have g1' := eq_false g1
   simp -dsimp -implicitDefEqProofs only [g72, c72r0, c72r1, c72r2, c72k3, c72r4, c72r5, c72k6, c72r7, c72r8, c72k9, c72r10, c72, go_sem, seval, ↓reduceIte, Tm.av, h1, hv, part_kind, g0', g1', hb0, w_alloc_agg, w_store_agg (Nat.zero_le _)]
   exact ⟨_, rfl⟩
theorem PresV.ext {b H : Heap} (h : PresV (.tsl none []) b H) : ∃ e, H = b ++ e := by
 refine ⟨H.drop b.length, ?_⟩
 have h2 : H.take b.length = b := by
  refine List.ext_getElem? fun i => ?_
  rw [List.getElem?_take]
  by_cases hi : i < b.length
  ·rw [if_pos hi, List.getElem?_eq_getElem hi]
   exact h.2 i _ (List.getElem?_eq_getElem hi) (fun v o n e => by cases e)
  ·rw [if_neg hi, List.getElem?_eq_none (by omega)]
 rw [← h2, List.length_take]
 rw [show min b.length H.length = b.length from by have := h.1; omega]
 exact (List.take_append_drop _ _).symm
theorem rstr_ok (nm : List UInt8) (l : List Tm) (hp : Heap) : S 41 [.pv none (.str nm), .pv none (.sl (some 4) (Tm.pvs l))] hp = some (.ret (strT nm l).av, hp) := by
 refine sem_pure rfl rfl rfl (freezeAll_pvs [(none, .str nm), (none, .sl (some 4) (Tm.pvs l))]) rfl ?_
 have hb : sBuild [(none, .pv none (.int .i64 0)), (none, .pv none (.int .i64 0)), (none, .pv none (.str [])), (none, .tsl (some 4) [])] [0, 2, 3] [.pv none (.int .i64 3), .pv none (.str nm), .pv none (.sl (some 4) (Tm.pvs l))] = some (.pv (some 4) (strT nm l).pv) := rfl
 simp -dsimp -implicitDefEqProofs only [g41, c41r0, c41r1, c41, go_sem, seval, ↓reduceIte, Tm.av, hb, w_alloc_agg]
 try rfl
theorem settleB_zw {r : List Nat} {st : St} {q k : Nat} {w : Int} (h : st.hp[k]? = some (.arr (some 4) [] false)) : settleB r st q (some (.box (some 4) (.agg [(none, .pv none (.int .i64 0)), (none, .pv none (.int .i64 w)), (none, .pv none (.str [])), (none, .sl (some 4) k 0 0 0)]))) = Am.settle r ⟨st.fr, (st.hp.set k (.arr (some 4) [] true)).set q (.box (some 4) (.pv (some 4) (tvar w).pv))⟩ := by
 have e : AV.freeze deep (.agg [(none, .pv none (.int .i64 0)), (none, .pv none (.int .i64 w)), (none, .pv none (.str [])), (none, .sl (some 4) k 0 0 0)]) st.hp = some ((tvar w).pv, st.hp.set k (.arr (some 4) [] true)) := by
  have e : ∀ l hp, AV.freeze (7 + 1) (.agg l) hp = match AV.freeze.go 7 l hp with | some (ps, hp') => some (.agg ps, hp') | none => none := fun _ _ => rfl
  show AV.freeze (7 + 1) _ _ = _
  simp [e, AV.freeze.go, AV.freeze, h]
  rfl
 show (match AV.freeze deep _ st.hp with | some (p, hp') => Am.settle r ⟨st.fr, hp'.set q (.box (some 4) (.pv (some 4) p))⟩ | none => none) = _
 rw [e]
theorem frozen_zz {H : Heap} {q1 q2 : Nat} {k : Int} (h1 : H[q1]? = some (.arr (some 4) [] false)) (h2 : H[q2]? = some (.arr (some 4) [] false)) : Am.frozen (.tuple [zt.av, zt.av, .pv none (.int .i64 k)]) (.tuple [zg q1, zg q2, .pv none (.int .i64 k)]) H := by
 have e : ∀ l hp, AV.freeze (7 + 1) (.agg l) hp = match AV.freeze.go 7 l hp with | some (ps, hp') => some (.agg ps, hp') | none => none := fun _ _ => rfl
 have h3 : ∃ z, (H.set q1 (.arr (some 4) [] true))[q2]? = some (.arr (some 4) [] z) := by
  by_cases hq : q1 = q2
  ·subst hq; exact ⟨true, List.getElem?_set_self (get_lt h1)⟩
  ·exact ⟨false, by rw [List.getElem?_set_ne hq]; exact h2⟩
 obtain ⟨z, h3⟩ := h3
 refine ⟨(H.set q1 (.arr (some 4) [] true)).set q2 (.arr (some 4) [] true), ?_⟩
 simp [AV.freezeRes, freezeAll, zg, deep, e, AV.freeze.go, AV.freeze, h1, h3, pvs, AV.shp]
 exact ⟨rfl, rfl⟩
theorem frozen_pz {H : Heap} {q2 : Nat} {k : Int} {t : Tm} (h2 : H[q2]? = some (.arr (some 4) [] false)) : Am.frozen (.tuple [t.av, zt.av, .pv none (.int .i64 k)]) (.tuple [.pv (some 4) t.pv, zg q2, .pv none (.int .i64 k)]) H := by
 have e : ∀ l hp, AV.freeze (7 + 1) (.agg l) hp = match AV.freeze.go 7 l hp with | some (ps, hp') => some (.agg ps, hp') | none => none := fun _ _ => rfl
 have e2 : ∀ p hp, AV.freeze (7 + 1) (.pv (some 4) p) hp = some (p, hp) := fun _ _ => rfl
 refine ⟨H.set q2 (.arr (some 4) [] true), ?_⟩
 simp [AV.freezeRes, freezeAll, zg, deep, e, e2, AV.freeze.go, AV.freeze, h2, pvs, AV.shp]
 exact ⟨rfl, rfl⟩
set_option maxRecDepth 8000 in
set_option maxHeartbeats 1000000 in
theorem rexp_set (t : Tm) (hv : t.valid = true) (q : setQ t) : W Z L 0 g24.code ⟨params 0 (pvs [(some 4, t.pv)]), []⟩ (endK g24.results (Am.frozen (.tuple [(exN setN' t).1.av, (exN setN' t).2.1.av, .pv none (.int .i64 (exN setN' t).2.2)]))) := by
 have hz := valid_size hv
 have h1 := fun hp => rvalid_ok t hp (by omega)
 simp only [Tm.av] at h1
 have hk : t.args.length = 3 := q.2.2
 have hpa : Tm.pvs t.args = [(arg0 t).pv, (arg1 t).pv, (arg2 t).pv] := by rw [args_three hk]; rfl
 have m0 : arg0 t ∈ t.args := by rw [args_three hk]; simp
 have m1 : arg1 t ∈ t.args := by rw [args_three hk]; simp
 have m2 : arg2 t ∈ t.args := by rw [args_three hk]; simp
 have v0 := valid_arg hv m0
 have v1 := valid_arg hv m1
 have v2 := valid_arg hv m2
 have hin := rinner_ok (arg1 t)
 have hiv := inner_valid _ (arg1 t) rfl v1
 have hca := callable_ok (inner (arg1 t)) hiv
 have hel := relems_ok (arg2 t) v2
 have hty2 := rtype_ok listN (by decide) (arg2 t) v2
 simp only [Tm.av, listN] at hin hca hel hty2
 have i0 : sIaddr (some 4) [.pv none (.sl (some 4) [(arg0 t).pv, (arg1 t).pv, (arg2 t).pv]), .pv none (.int .i64 0)] = some (.iptr (some 4) (arg0 t).pv 0) := rfl
 have i1 : sIaddr (some 4) [.pv none (.sl (some 4) [(arg0 t).pv, (arg1 t).pv, (arg2 t).pv]), .pv none (.int .i64 1)] = some (.iptr (some 4) (arg1 t).pv 0) := rfl
 have i2 : sIaddr (some 4) [.pv none (.sl (some 4) [(arg0 t).pv, (arg1 t).pv, (arg2 t).pv]), .pv none (.int .i64 2)] = some (.iptr (some 4) (arg2 t).pv 0) := rfl
 have k1' := eq_true q.1
 have hlen3 : (([(arg0 t).pv, (arg1 t).pv, (arg2 t).pv] : List PV).length : Int) = 3 := rfl
 have str : ∀ (a0 a2 a3 a4 a5 a6 a7 a8 : AObj) (old : AV), wStoren (some 4) 0 [a0, .box (some 4) old, a2, a3, a4, a5, a6, a7, a8] [.ptr 1 0, .agg [(none, .pv none (.int .i64 0)), (none, .pv none (.int .i64 0)), (none, .pv none (.str [])), (none, .tsl (some 4) [])], .ptr 7 0] = some (.undef, [a0, .box (some 4) (zg 9), a2, a3, a4, a5, a6, a7, a8, .arr (some 4) [] false]) := fun _ _ _ _ _ _ _ _ _ => rfl
 have hfr := rfree_ok (arg0 t) (arg1 t) v0 v1
 rw [free_eq] at hfr
 have hfl := free_len (arg0 t) (arg1 t)
 have hz1 := valid_size v1
 have hli := rlist_ok (tvs (free (arg0 t) (arg1 t))) (by simp [tvs]; omega)
 have hwr := wit_rng (arg0 t) (arg1 t) v1
 have hwf := lst_fits (free (arg0 t) (arg1 t)) hwr
 have hws := lst_size (free (arg0 t) (arg1 t))
 have hn0 := nxt_lo (vads [] t.occ)
 have hrg : ∀ v ∈ vads [] t.occ, 0 ≤ v ∧ v ≤ 1099511627776 := fun v hvm => occ_rng (valid_fits hv) v (by simpa using (vads_mem t.occ [] v).1 hvm)
 have hal := vads_len t.occ []
 have hol := t.occ_len
 rw [List.length_nil, Nat.zero_add] at hal
 have z0 := valid_size v0
 have z1 := valid_size hiv
 have z2 := valid_size v2
 simp only [Tm.av] at hfr hli
 unfold exN
 have a1 := eq_false (show ¬ t.name = [98, 97, 103, 111, 102] from fun e => by have := q.2.1; rw [e] at this; exact absurd this (by decide))
 have a2 := eq_true (show t.name = [115, 101, 116, 111, 102] from q.2.1)
 by_cases g0 : (inner (arg1 t)).kind = 0
 ·rw [if_pos g0]
  have hc0 : clR (inner (arg1 t)) = (instT, false) := by unfold clR; rw [if_pos g0]
  rw [hc0] at hca
  simp -dsimp -implicitDefEqProofs only [g24, c24r0, c24r1, c24r2, c24k3, c24r4, c24r5, c24k6, c24r7, c24r8, c24r9, c24r10, c24k11, c24r12, c24r13, c24r14, c24k15, c24r16, c24r17, c24r18, c24r19, c24k20, c24r21, c24k22, c24r23, c24b24, c24k25, c24r26, c24r27, c24r28, c24k29, c24r30, c24r31, c24r32, c24r33, c24r34, c24k35, c24r36, c24, go_sem, seval, ↓reduceIte, Tm.av, h1, hv, part_kind, part_name, part_args, hpa, hlen3, k1', a1, a2, i0, i1, i2, hin, hca, str, zg, hb0, w_alloc_agg, w_store_agg (Nat.zero_le _)]
  exact ⟨_, rfl⟩
 ·rw [if_neg g0]
  by_cases g1 : (inner (arg1 t)).kind = 1
  ·rw [if_pos g1]
   have hc0 : clR (inner (arg1 t)) = (typT callN (inner (arg1 t)), false) := by unfold clR; rw [if_neg g0, if_pos g1]
   rw [hc0] at hca
   simp -dsimp -implicitDefEqProofs only [g24, c24r0, c24r1, c24r2, c24k3, c24r4, c24r5, c24k6, c24r7, c24r8, c24r9, c24r10, c24k11, c24r12, c24r13, c24r14, c24k15, c24r16, c24r17, c24r18, c24r19, c24k20, c24r21, c24k22, c24r23, c24b24, c24k25, c24r26, c24r27, c24r28, c24k29, c24r30, c24r31, c24r32, c24r33, c24r34, c24k35, c24r36, c24, go_sem, seval, ↓reduceIte, Tm.av, h1, hv, part_kind, part_name, part_args, hpa, hlen3, k1', a1, a2, i0, i1, i2, hin, hca, str, zg, hb0, w_alloc_agg, w_store_agg (Nat.zero_le _)]
   exact ⟨_, rfl⟩
  ·rw [if_neg g1]
   have hc0 : clR (inner (arg1 t)) = (zt, true) := by unfold clR; rw [if_neg g0, if_neg g1]
   rw [hc0] at hca
   by_cases l0 : (tl (arg2 t)).kind = 0
   ·have gl : ll (arg2 t) := .inl l0
    rw [if_neg (fun e => e gl)]
    have l0' := eq_true l0
    obtain ⟨s11, H, hvars, hB, hP, hW⟩ := rVars_h t hv [.box (some 4) (.pv (some 4) t.pv), .box (some 4) (zg 2), .arr (some 4) [] false, .box (some 4) (zg 4), .arr (some 4) [] false, .box (some 4) (.pv (some 4) (inner (arg1 t)).pv), .arr (some 4) [] false, .box (some 4) (.pv (some 4) zt.pv), .arr (some 4) [] false, .box (some 4) (.pv (some 4) (tl (arg2 t)).pv), .arr (some 4) [] false]
    obtain ⟨e, rfl⟩ := hP.ext
    simp only [Tm.av, zg, List.cons_append, List.nil_append] at hvars hB
    simp -dsimp -implicitDefEqProofs only [g24, c24r0, c24r1, c24r2, c24k3, c24r4, c24r5, c24k6, c24r7, c24r8, c24r9, c24r10, c24k11, c24r12, c24r13, c24r14, c24k15, c24r16, c24r17, c24r18, c24r19, c24k20, c24r21, c24k22, c24r23, c24b24, c24k25, c24r26, c24r27, c24r28, c24k29, c24r30, c24r31, c24r32, c24r33, c24r34, c24k35, c24r36, c24, go_sem, seval, ↓reduceIte, Tm.av, h1, hv, part_kind, part_name, part_args, hpa, hlen3, k1', a1, a2, i0, i1, i2, hin, hca, str, hel, l0', hvars, hb0, w_alloc_agg, w_store_agg (Nat.zero_le _)]
    refine W_for (α := Unit) (vads [] t.occ).length (fun _ _ => True) (fun i _ => ⟨[(1, .ptr 0 0), (2, .ptr 1 0), (3, .ptr 3 0), (5, .ptr 5 0), (10, .pv none (.int .i64 (nxt ((vads [] t.occ).take i)))), (11, s11), (12, .pv none (.int .i64 i))], .box (some 4) (.pv (some 4) t.pv) :: .box (some 4) (zg 2) :: .arr (some 4) [] false :: .box (some 4) (zg 4) :: .arr (some 4) [] false :: .box (some 4) (.pv (some 4) (inner (arg1 t)).pv) :: .arr (some 4) [] false :: .box (some 4) (.pv (some 4) zt.pv) :: .arr (some 4) [] false :: .box (some 4) (.pv (some 4) (tl (arg2 t)).pv) :: .arr (some 4) [] false :: e⟩) () ⟨trivial, rfl⟩ ?_ ?_
    ·rintro i - hi -
     have hc : (i : Int) < ((vads [] t.occ).length : Int) := by omega
     obtain ⟨x, hx⟩ : ∃ x, (vads [] t.occ)[i]? = some x := ⟨_, List.getElem?_eq_getElem hi⟩
     have hxr := hrg x (List.mem_of_getElem? hx)
     have w2 : IntKind.i64.wrap ((i : Int) + 1) = ((i + 1 : Nat) : Int) := by rw [wrap64 (by omega) (by omega)]; omega
     have w3 : IntKind.i64.wrap (x + 1) = x + 1 := wrap64 (by omega) (by omega)
     have htk : nxt ((vads [] t.occ).take (i + 1)) = mx (nxt ((vads [] t.occ).take i)) (x + 1) := by rw [take_snoc hx, nxt_snoc]
     have e8 := hB.len
     obtain ⟨p, p1, p2⟩ := hB.get hx
     generalize vads [] t.occ = a at *
     simp -dsimp -implicitDefEqProofs only [g24, c24r0, c24r1, c24r2, c24k3, c24r4, c24r5, c24k6, c24r7, c24r8, c24r9, c24r10, c24k11, c24r12, c24r13, c24r14, c24k15, c24r16, c24r17, c24r18, c24r19, c24k20, c24r21, c24k22, c24r23, c24b24, c24k25, c24r26, c24r27, c24r28, c24k29, c24r30, c24r31, c24r32, c24r33, c24r34, c24k35, c24r36, c24, go_sem, seval, ↓reduceIte, zg, hc, e8, p1, p2, w2, w3]
     refine ⟨(), ?_⟩
     rw [htk, collect_mid (by simp)]
     rfl
    ·rintro - -
     have hc : ¬ ((vads [] t.occ).length : Int) < ((vads [] t.occ).length : Int) := by omega
     have e8 := hB.len
     have p1 := rstr_ok [45] [lst (tvs (free (arg0 t) (arg1 t))), arg0 t] []
     have p2 := rstr_ok findN [strT [45] [lst (tvs (free (arg0 t) (arg1 t))), arg0 t], inner (arg1 t), tvar (nxt (vads [] t.occ))] []
     have p3 := rstr_ok setN' [lst (tvs (free (arg0 t) (arg1 t))), tvar (nxt (vads [] t.occ)), arg2 t] []
     have p4 := rstr_ok [44] [strT findN [strT [45] [lst (tvs (free (arg0 t) (arg1 t))), arg0 t], inner (arg1 t), tvar (nxt (vads [] t.occ))], strT setN' [lst (tvs (free (arg0 t) (arg1 t))), tvar (nxt (vads [] t.occ)), arg2 t]] []
     have eO : strT [44] [strT findN [strT [45] [lst (tvs (free (arg0 t) (arg1 t))), arg0 t], inner (arg1 t), tvar (nxt (vads [] t.occ))], strT setN' [lst (tvs (free (arg0 t) (arg1 t))), tvar (nxt (vads [] t.occ)), arg2 t]] = outT setN' (lst (tvs (free (arg0 t) (arg1 t)))) (arg0 t) (inner (arg1 t)) (arg2 t) (nxt (vads [] t.occ)) := rfl
     rw [eO] at p4
     have os := out_size setN' (lst (tvs (free (arg0 t) (arg1 t)))) (arg0 t) (inner (arg1 t)) (arg2 t) (nxt (vads [] t.occ))
     have hov := fun hp => rvalid_ok (outT setN' (lst (tvs (free (arg0 t) (arg1 t)))) (arg0 t) (inner (arg1 t)) (arg2 t) (nxt (vads [] t.occ))) hp (by omega)
     have hoc := fun hp h => rclone_ok (outT setN' (lst (tvs (free (arg0 t) (arg1 t)))) (arg0 t) (inner (arg1 t)) (arg2 t) (nxt (vads [] t.occ))) hp h (by omega)
     have tp2 : ∀ a b : Tm, Tm.pvs [a, b] = [a.pv, b.pv] := fun _ _ => rfl
     have tp3 : ∀ a b c : Tm, Tm.pvs [a, b, c] = [a.pv, b.pv, c.pv] := fun _ _ _ => rfl
     have hbv : sBuild [(none, .pv none (.int .i64 0)), (none, .pv none (.int .i64 0)), (none, .pv none (.str [])), (none, .tsl (some 4) [])] [0, 1] [.pv none (.int .i64 0), .pv none (.int .i64 (nxt (vads [] t.occ)))] = some (.agg [(none, .pv none (.int .i64 0)), (none, .pv none (.int .i64 (nxt (vads [] t.occ)))), (none, .pv none (.str [])), (none, .tsl (some 4) [])]) := rfl
     rw [tp2] at p1 p4
     rw [tp3] at p2 p3
     simp only [Tm.av, findN, setN'] at p1 p2 p3 p4 hov hoc
     by_cases gn : nxt (vads [] t.occ) ≤ 1099511627776
     rotate_left
     ·rw [if_neg (fun e => gn e.1)]
      have gn' := eq_true (show (1099511627776 : Int) < nxt (vads [] t.occ) by omega)
      simp -dsimp -implicitDefEqProofs only [g24, c24r0, c24r1, c24r2, c24k3, c24r4, c24r5, c24k6, c24r7, c24r8, c24r9, c24r10, c24k11, c24r12, c24r13, c24r14, c24k15, c24r16, c24r17, c24r18, c24r19, c24k20, c24r21, c24k22, c24r23, c24b24, c24k25, c24r26, c24r27, c24r28, c24k29, c24r30, c24r31, c24r32, c24r33, c24r34, c24k35, c24r36, c24, go_sem, seval, ↓reduceIte, Tm.av, zg, a1, a2, part_kind, part_name, part_args, hpa, i0, i1, i2, hc, e8, List.take_length, hfr, hli, hbv, settleB_zw, p1, p2, p3, p4, hov, gn', hb0, w_alloc_agg, w_store_agg (Nat.zero_le _), own_cons_sl, List.append_assoc, List.cons_append, List.nil_append, get_pre, get_pre0, set_pre, set_pre0, Nat.add_assoc, List.length_append, List.length_cons, List.length_nil, Nat.zero_add]
      exact frozen_zz (by simp) (by simp)
     ·have gn' := eq_false (show ¬ (1099511627776 : Int) < nxt (vads [] t.occ) by omega)
      by_cases go : (outT setN' (lst (tvs (free (arg0 t) (arg1 t)))) (arg0 t) (inner (arg1 t)) (arg2 t) (nxt (vads [] t.occ))).valid = true
      ·rw [if_pos ⟨gn, go⟩]
       have hoc := fun hp => hoc hp go
       have go' := go
       simp only [setN'] at hoc go'
       simp -dsimp -implicitDefEqProofs only [g24, c24r0, c24r1, c24r2, c24k3, c24r4, c24r5, c24k6, c24r7, c24r8, c24r9, c24r10, c24k11, c24r12, c24r13, c24r14, c24k15, c24r16, c24r17, c24r18, c24r19, c24k20, c24r21, c24k22, c24r23, c24b24, c24k25, c24r26, c24r27, c24r28, c24k29, c24r30, c24r31, c24r32, c24r33, c24r34, c24k35, c24r36, c24, go_sem, seval, ↓reduceIte, Tm.av, zg, a1, a2, part_kind, part_name, part_args, hpa, i0, i1, i2, hc, e8, List.take_length, hfr, hli, hbv, settleB_zw, p1, p2, p3, p4, hov, gn', go', hoc, hb0, w_alloc_agg, w_store_agg (Nat.zero_le _), own_cons_sl, List.append_assoc, List.cons_append, List.nil_append, get_pre, get_pre0, set_pre, set_pre0, Nat.add_assoc, List.length_append, List.length_cons, List.length_nil, Nat.zero_add]
       exact frozen_pz (by simp)
      ·rw [if_neg (fun e => go e.2)]
       have go' : (outT setN' (lst (tvs (free (arg0 t) (arg1 t)))) (arg0 t) (inner (arg1 t)) (arg2 t) (nxt (vads [] t.occ))).valid = false := by simpa using go
       simp only [setN'] at go'
       simp -dsimp -implicitDefEqProofs only [g24, c24r0, c24r1, c24r2, c24k3, c24r4, c24r5, c24k6, c24r7, c24r8, c24r9, c24r10, c24k11, c24r12, c24r13, c24r14, c24k15, c24r16, c24r17, c24r18, c24r19, c24k20, c24r21, c24k22, c24r23, c24b24, c24k25, c24r26, c24r27, c24r28, c24k29, c24r30, c24r31, c24r32, c24r33, c24r34, c24k35, c24r36, c24, go_sem, seval, ↓reduceIte, Tm.av, zg, a1, a2, part_kind, part_name, part_args, hpa, i0, i1, i2, hc, e8, List.take_length, hfr, hli, hbv, settleB_zw, p1, p2, p3, p4, hov, gn', go', hb0, w_alloc_agg, w_store_agg (Nat.zero_le _), own_cons_sl, List.append_assoc, List.cons_append, List.nil_append, get_pre, get_pre0, set_pre, set_pre0, Nat.add_assoc, List.length_append, List.length_cons, List.length_nil, Nat.zero_add]
       exact frozen_zz (by simp) (by simp)
   ·have l0' := eq_false l0
    by_cases l2 : (tl (arg2 t)).kind = 2
    ·have l2' := eq_true l2
     by_cases ln : (tl (arg2 t)).name = [91, 93]
     ·have gl : ll (arg2 t) := .inr ⟨l2, ln⟩
      rw [if_neg (fun e => e gl)]
      have ln' := eq_true ln
      obtain ⟨s11, H, hvars, hB, hP, hW⟩ := rVars_h t hv [.box (some 4) (.pv (some 4) t.pv), .box (some 4) (zg 2), .arr (some 4) [] false, .box (some 4) (zg 4), .arr (some 4) [] false, .box (some 4) (.pv (some 4) (inner (arg1 t)).pv), .arr (some 4) [] false, .box (some 4) (.pv (some 4) zt.pv), .arr (some 4) [] false, .box (some 4) (.pv (some 4) (tl (arg2 t)).pv), .arr (some 4) [] false]
      obtain ⟨e, rfl⟩ := hP.ext
      simp only [Tm.av, zg, List.cons_append, List.nil_append] at hvars hB
      simp -dsimp -implicitDefEqProofs only [g24, c24r0, c24r1, c24r2, c24k3, c24r4, c24r5, c24k6, c24r7, c24r8, c24r9, c24r10, c24k11, c24r12, c24r13, c24r14, c24k15, c24r16, c24r17, c24r18, c24r19, c24k20, c24r21, c24k22, c24r23, c24b24, c24k25, c24r26, c24r27, c24r28, c24k29, c24r30, c24r31, c24r32, c24r33, c24r34, c24k35, c24r36, c24, go_sem, seval, ↓reduceIte, Tm.av, h1, hv, part_kind, part_name, part_args, hpa, hlen3, k1', a1, a2, i0, i1, i2, hin, hca, str, hel, l0', l2', ln', hvars, hb0, w_alloc_agg, w_store_agg (Nat.zero_le _)]
      refine W_for (α := Unit) (vads [] t.occ).length (fun _ _ => True) (fun i _ => ⟨[(1, .ptr 0 0), (2, .ptr 1 0), (3, .ptr 3 0), (5, .ptr 5 0), (10, .pv none (.int .i64 (nxt ((vads [] t.occ).take i)))), (11, s11), (12, .pv none (.int .i64 i))], .box (some 4) (.pv (some 4) t.pv) :: .box (some 4) (zg 2) :: .arr (some 4) [] false :: .box (some 4) (zg 4) :: .arr (some 4) [] false :: .box (some 4) (.pv (some 4) (inner (arg1 t)).pv) :: .arr (some 4) [] false :: .box (some 4) (.pv (some 4) zt.pv) :: .arr (some 4) [] false :: .box (some 4) (.pv (some 4) (tl (arg2 t)).pv) :: .arr (some 4) [] false :: e⟩) () ⟨trivial, rfl⟩ ?_ ?_
      ·rintro i - hi -
       have hc : (i : Int) < ((vads [] t.occ).length : Int) := by omega
       obtain ⟨x, hx⟩ : ∃ x, (vads [] t.occ)[i]? = some x := ⟨_, List.getElem?_eq_getElem hi⟩
       have hxr := hrg x (List.mem_of_getElem? hx)
       have w2 : IntKind.i64.wrap ((i : Int) + 1) = ((i + 1 : Nat) : Int) := by rw [wrap64 (by omega) (by omega)]; omega
       have w3 : IntKind.i64.wrap (x + 1) = x + 1 := wrap64 (by omega) (by omega)
       have htk : nxt ((vads [] t.occ).take (i + 1)) = mx (nxt ((vads [] t.occ).take i)) (x + 1) := by rw [take_snoc hx, nxt_snoc]
       have e8 := hB.len
       obtain ⟨p, p1, p2⟩ := hB.get hx
       generalize vads [] t.occ = a at *
       simp -dsimp -implicitDefEqProofs only [g24, c24r0, c24r1, c24r2, c24k3, c24r4, c24r5, c24k6, c24r7, c24r8, c24r9, c24r10, c24k11, c24r12, c24r13, c24r14, c24k15, c24r16, c24r17, c24r18, c24r19, c24k20, c24r21, c24k22, c24r23, c24b24, c24k25, c24r26, c24r27, c24r28, c24k29, c24r30, c24r31, c24r32, c24r33, c24r34, c24k35, c24r36, c24, go_sem, seval, ↓reduceIte, zg, hc, e8, p1, p2, w2, w3]
       refine ⟨(), ?_⟩
       rw [htk, collect_mid (by simp)]
       rfl
      ·rintro - -
       have hc : ¬ ((vads [] t.occ).length : Int) < ((vads [] t.occ).length : Int) := by omega
       have e8 := hB.len
       have p1 := rstr_ok [45] [lst (tvs (free (arg0 t) (arg1 t))), arg0 t] []
       have p2 := rstr_ok findN [strT [45] [lst (tvs (free (arg0 t) (arg1 t))), arg0 t], inner (arg1 t), tvar (nxt (vads [] t.occ))] []
       have p3 := rstr_ok setN' [lst (tvs (free (arg0 t) (arg1 t))), tvar (nxt (vads [] t.occ)), arg2 t] []
       have p4 := rstr_ok [44] [strT findN [strT [45] [lst (tvs (free (arg0 t) (arg1 t))), arg0 t], inner (arg1 t), tvar (nxt (vads [] t.occ))], strT setN' [lst (tvs (free (arg0 t) (arg1 t))), tvar (nxt (vads [] t.occ)), arg2 t]] []
       have eO : strT [44] [strT findN [strT [45] [lst (tvs (free (arg0 t) (arg1 t))), arg0 t], inner (arg1 t), tvar (nxt (vads [] t.occ))], strT setN' [lst (tvs (free (arg0 t) (arg1 t))), tvar (nxt (vads [] t.occ)), arg2 t]] = outT setN' (lst (tvs (free (arg0 t) (arg1 t)))) (arg0 t) (inner (arg1 t)) (arg2 t) (nxt (vads [] t.occ)) := rfl
       rw [eO] at p4
       have os := out_size setN' (lst (tvs (free (arg0 t) (arg1 t)))) (arg0 t) (inner (arg1 t)) (arg2 t) (nxt (vads [] t.occ))
       have hov := fun hp => rvalid_ok (outT setN' (lst (tvs (free (arg0 t) (arg1 t)))) (arg0 t) (inner (arg1 t)) (arg2 t) (nxt (vads [] t.occ))) hp (by omega)
       have hoc := fun hp h => rclone_ok (outT setN' (lst (tvs (free (arg0 t) (arg1 t)))) (arg0 t) (inner (arg1 t)) (arg2 t) (nxt (vads [] t.occ))) hp h (by omega)
       have tp2 : ∀ a b : Tm, Tm.pvs [a, b] = [a.pv, b.pv] := fun _ _ => rfl
       have tp3 : ∀ a b c : Tm, Tm.pvs [a, b, c] = [a.pv, b.pv, c.pv] := fun _ _ _ => rfl
       have hbv : sBuild [(none, .pv none (.int .i64 0)), (none, .pv none (.int .i64 0)), (none, .pv none (.str [])), (none, .tsl (some 4) [])] [0, 1] [.pv none (.int .i64 0), .pv none (.int .i64 (nxt (vads [] t.occ)))] = some (.agg [(none, .pv none (.int .i64 0)), (none, .pv none (.int .i64 (nxt (vads [] t.occ)))), (none, .pv none (.str [])), (none, .tsl (some 4) [])]) := rfl
       rw [tp2] at p1 p4
       rw [tp3] at p2 p3
       simp only [Tm.av, findN, setN'] at p1 p2 p3 p4 hov hoc
       by_cases gn : nxt (vads [] t.occ) ≤ 1099511627776
       rotate_left
       ·rw [if_neg (fun e => gn e.1)]
        have gn' := eq_true (show (1099511627776 : Int) < nxt (vads [] t.occ) by omega)
        simp -dsimp -implicitDefEqProofs only [g24, c24r0, c24r1, c24r2, c24k3, c24r4, c24r5, c24k6, c24r7, c24r8, c24r9, c24r10, c24k11, c24r12, c24r13, c24r14, c24k15, c24r16, c24r17, c24r18, c24r19, c24k20, c24r21, c24k22, c24r23, c24b24, c24k25, c24r26, c24r27, c24r28, c24k29, c24r30, c24r31, c24r32, c24r33, c24r34, c24k35, c24r36, c24, go_sem, seval, ↓reduceIte, Tm.av, zg, a1, a2, part_kind, part_name, part_args, hpa, i0, i1, i2, hc, e8, List.take_length, hfr, hli, hbv, settleB_zw, p1, p2, p3, p4, hov, gn', hb0, w_alloc_agg, w_store_agg (Nat.zero_le _), own_cons_sl, List.append_assoc, List.cons_append, List.nil_append, get_pre, get_pre0, set_pre, set_pre0, Nat.add_assoc, List.length_append, List.length_cons, List.length_nil, Nat.zero_add]
        exact frozen_zz (by simp) (by simp)
       ·have gn' := eq_false (show ¬ (1099511627776 : Int) < nxt (vads [] t.occ) by omega)
        by_cases go : (outT setN' (lst (tvs (free (arg0 t) (arg1 t)))) (arg0 t) (inner (arg1 t)) (arg2 t) (nxt (vads [] t.occ))).valid = true
        ·rw [if_pos ⟨gn, go⟩]
         have hoc := fun hp => hoc hp go
         have go' := go
         simp only [setN'] at hoc go'
         simp -dsimp -implicitDefEqProofs only [g24, c24r0, c24r1, c24r2, c24k3, c24r4, c24r5, c24k6, c24r7, c24r8, c24r9, c24r10, c24k11, c24r12, c24r13, c24r14, c24k15, c24r16, c24r17, c24r18, c24r19, c24k20, c24r21, c24k22, c24r23, c24b24, c24k25, c24r26, c24r27, c24r28, c24k29, c24r30, c24r31, c24r32, c24r33, c24r34, c24k35, c24r36, c24, go_sem, seval, ↓reduceIte, Tm.av, zg, a1, a2, part_kind, part_name, part_args, hpa, i0, i1, i2, hc, e8, List.take_length, hfr, hli, hbv, settleB_zw, p1, p2, p3, p4, hov, gn', go', hoc, hb0, w_alloc_agg, w_store_agg (Nat.zero_le _), own_cons_sl, List.append_assoc, List.cons_append, List.nil_append, get_pre, get_pre0, set_pre, set_pre0, Nat.add_assoc, List.length_append, List.length_cons, List.length_nil, Nat.zero_add]
         exact frozen_pz (by simp)
        ·rw [if_neg (fun e => go e.2)]
         have go' : (outT setN' (lst (tvs (free (arg0 t) (arg1 t)))) (arg0 t) (inner (arg1 t)) (arg2 t) (nxt (vads [] t.occ))).valid = false := by simpa using go
         simp only [setN'] at go'
         simp -dsimp -implicitDefEqProofs only [g24, c24r0, c24r1, c24r2, c24k3, c24r4, c24r5, c24k6, c24r7, c24r8, c24r9, c24r10, c24k11, c24r12, c24r13, c24r14, c24k15, c24r16, c24r17, c24r18, c24r19, c24k20, c24r21, c24k22, c24r23, c24b24, c24k25, c24r26, c24r27, c24r28, c24k29, c24r30, c24r31, c24r32, c24r33, c24r34, c24k35, c24r36, c24, go_sem, seval, ↓reduceIte, Tm.av, zg, a1, a2, part_kind, part_name, part_args, hpa, i0, i1, i2, hc, e8, List.take_length, hfr, hli, hbv, settleB_zw, p1, p2, p3, p4, hov, gn', go', hb0, w_alloc_agg, w_store_agg (Nat.zero_le _), own_cons_sl, List.append_assoc, List.cons_append, List.nil_append, get_pre, get_pre0, set_pre, set_pre0, Nat.add_assoc, List.length_append, List.length_cons, List.length_nil, Nat.zero_add]
         exact frozen_zz (by simp) (by simp)
     ·have gl : ¬ ll (arg2 t) := fun e => e.elim l0 fun e => ln e.2
      rw [if_pos gl]
      have ln' := eq_false ln
      simp -dsimp -implicitDefEqProofs only [g24, c24r0, c24r1, c24r2, c24k3, c24r4, c24r5, c24k6, c24r7, c24r8, c24r9, c24r10, c24k11, c24r12, c24r13, c24r14, c24k15, c24r16, c24r17, c24r18, c24r19, c24k20, c24r21, c24k22, c24r23, c24b24, c24k25, c24r26, c24r27, c24r28, c24k29, c24r30, c24r31, c24r32, c24r33, c24r34, c24k35, c24r36, c24, go_sem, seval, ↓reduceIte, Tm.av, h1, hv, part_kind, part_name, part_args, hpa, hlen3, k1', a1, a2, i0, i1, i2, hin, hca, str, hel, l0', l2', ln', hty2, hb0, w_alloc_agg, w_store_agg (Nat.zero_le _)]
      exact ⟨_, rfl⟩
    ·have gl : ¬ ll (arg2 t) := fun e => e.elim l0 fun e => l2 e.1
     rw [if_pos gl]
     have l2' := eq_false l2
     simp -dsimp -implicitDefEqProofs only [g24, c24r0, c24r1, c24r2, c24k3, c24r4, c24r5, c24k6, c24r7, c24r8, c24r9, c24r10, c24k11, c24r12, c24r13, c24r14, c24k15, c24r16, c24r17, c24r18, c24r19, c24k20, c24r21, c24k22, c24r23, c24b24, c24k25, c24r26, c24r27, c24r28, c24k29, c24r30, c24r31, c24r32, c24r33, c24r34, c24k35, c24r36, c24, go_sem, seval, ↓reduceIte, Tm.av, h1, hv, part_kind, part_name, part_args, hpa, hlen3, k1', a1, a2, i0, i1, i2, hin, hca, str, hel, l0', l2', hty2, hb0, w_alloc_agg, w_store_agg (Nat.zero_le _)]
     exact ⟨_, rfl⟩
set_option maxRecDepth 8000 in
set_option maxHeartbeats 1000000 in
theorem rexp_bag (t : Tm) (hv : t.valid = true) (q : bagQ t) : W Z L 0 g24.code ⟨params 0 (pvs [(some 4, t.pv)]), []⟩ (endK g24.results (Am.frozen (.tuple [(exN bagN t).1.av, (exN bagN t).2.1.av, .pv none (.int .i64 (exN bagN t).2.2)]))) := by
 have hz := valid_size hv
 have h1 := fun hp => rvalid_ok t hp (by omega)
 simp only [Tm.av] at h1
 have hk : t.args.length = 3 := q.2.2
 have hpa : Tm.pvs t.args = [(arg0 t).pv, (arg1 t).pv, (arg2 t).pv] := by rw [args_three hk]; rfl
 have m0 : arg0 t ∈ t.args := by rw [args_three hk]; simp
 have m1 : arg1 t ∈ t.args := by rw [args_three hk]; simp
 have m2 : arg2 t ∈ t.args := by rw [args_three hk]; simp
 have v0 := valid_arg hv m0
 have v1 := valid_arg hv m1
 have v2 := valid_arg hv m2
 have hin := rinner_ok (arg1 t)
 have hiv := inner_valid _ (arg1 t) rfl v1
 have hca := callable_ok (inner (arg1 t)) hiv
 have hel := relems_ok (arg2 t) v2
 have hty2 := rtype_ok listN (by decide) (arg2 t) v2
 simp only [Tm.av, listN] at hin hca hel hty2
 have i0 : sIaddr (some 4) [.pv none (.sl (some 4) [(arg0 t).pv, (arg1 t).pv, (arg2 t).pv]), .pv none (.int .i64 0)] = some (.iptr (some 4) (arg0 t).pv 0) := rfl
 have i1 : sIaddr (some 4) [.pv none (.sl (some 4) [(arg0 t).pv, (arg1 t).pv, (arg2 t).pv]), .pv none (.int .i64 1)] = some (.iptr (some 4) (arg1 t).pv 0) := rfl
 have i2 : sIaddr (some 4) [.pv none (.sl (some 4) [(arg0 t).pv, (arg1 t).pv, (arg2 t).pv]), .pv none (.int .i64 2)] = some (.iptr (some 4) (arg2 t).pv 0) := rfl
 have k1' := eq_true q.1
 have hlen3 : (([(arg0 t).pv, (arg1 t).pv, (arg2 t).pv] : List PV).length : Int) = 3 := rfl
 have str : ∀ (a0 a2 a3 a4 a5 a6 a7 a8 : AObj) (old : AV), wStoren (some 4) 0 [a0, .box (some 4) old, a2, a3, a4, a5, a6, a7, a8] [.ptr 1 0, .agg [(none, .pv none (.int .i64 0)), (none, .pv none (.int .i64 0)), (none, .pv none (.str [])), (none, .tsl (some 4) [])], .ptr 7 0] = some (.undef, [a0, .box (some 4) (zg 9), a2, a3, a4, a5, a6, a7, a8, .arr (some 4) [] false]) := fun _ _ _ _ _ _ _ _ _ => rfl
 have hfr := rfree_ok (arg0 t) (arg1 t) v0 v1
 rw [free_eq] at hfr
 have hfl := free_len (arg0 t) (arg1 t)
 have hz1 := valid_size v1
 have hli := rlist_ok (tvs (free (arg0 t) (arg1 t))) (by simp [tvs]; omega)
 have hwr := wit_rng (arg0 t) (arg1 t) v1
 have hwf := lst_fits (free (arg0 t) (arg1 t)) hwr
 have hws := lst_size (free (arg0 t) (arg1 t))
 have hn0 := nxt_lo (vads [] t.occ)
 have hrg : ∀ v ∈ vads [] t.occ, 0 ≤ v ∧ v ≤ 1099511627776 := fun v hvm => occ_rng (valid_fits hv) v (by simpa using (vads_mem t.occ [] v).1 hvm)
 have hal := vads_len t.occ []
 have hol := t.occ_len
 rw [List.length_nil, Nat.zero_add] at hal
 have z0 := valid_size v0
 have z1 := valid_size hiv
 have z2 := valid_size v2
 simp only [Tm.av] at hfr hli
 unfold exN
 have a1 := eq_true (show t.name = [98, 97, 103, 111, 102] from q.2.1)
 have a2 := eq_false (show ¬ t.name = [115, 101, 116, 111, 102] from fun e => by have := q.2.1; rw [e] at this; exact absurd this (by decide))
 by_cases g0 : (inner (arg1 t)).kind = 0
 ·rw [if_pos g0]
  have hc0 : clR (inner (arg1 t)) = (instT, false) := by unfold clR; rw [if_pos g0]
  rw [hc0] at hca
  simp -dsimp -implicitDefEqProofs only [g24, c24r0, c24r1, c24r2, c24k3, c24r4, c24r5, c24k6, c24r7, c24r8, c24r9, c24r10, c24k11, c24r12, c24r13, c24r14, c24k15, c24r16, c24r17, c24r18, c24r19, c24k20, c24r21, c24k22, c24r23, c24b24, c24k25, c24r26, c24r27, c24r28, c24k29, c24r30, c24r31, c24r32, c24r33, c24r34, c24k35, c24r36, c24, go_sem, seval, ↓reduceIte, Tm.av, h1, hv, part_kind, part_name, part_args, hpa, hlen3, k1', a1, i0, i1, i2, hin, hca, str, zg, hb0, w_alloc_agg, w_store_agg (Nat.zero_le _)]
  exact ⟨_, rfl⟩
 ·rw [if_neg g0]
  by_cases g1 : (inner (arg1 t)).kind = 1
  ·rw [if_pos g1]
   have hc0 : clR (inner (arg1 t)) = (typT callN (inner (arg1 t)), false) := by unfold clR; rw [if_neg g0, if_pos g1]
   rw [hc0] at hca
   simp -dsimp -implicitDefEqProofs only [g24, c24r0, c24r1, c24r2, c24k3, c24r4, c24r5, c24k6, c24r7, c24r8, c24r9, c24r10, c24k11, c24r12, c24r13, c24r14, c24k15, c24r16, c24r17, c24r18, c24r19, c24k20, c24r21, c24k22, c24r23, c24b24, c24k25, c24r26, c24r27, c24r28, c24k29, c24r30, c24r31, c24r32, c24r33, c24r34, c24k35, c24r36, c24, go_sem, seval, ↓reduceIte, Tm.av, h1, hv, part_kind, part_name, part_args, hpa, hlen3, k1', a1, i0, i1, i2, hin, hca, str, zg, hb0, w_alloc_agg, w_store_agg (Nat.zero_le _)]
   exact ⟨_, rfl⟩
  ·rw [if_neg g1]
   have hc0 : clR (inner (arg1 t)) = (zt, true) := by unfold clR; rw [if_neg g0, if_neg g1]
   rw [hc0] at hca
   by_cases l0 : (tl (arg2 t)).kind = 0
   ·have gl : ll (arg2 t) := .inl l0
    rw [if_neg (fun e => e gl)]
    have l0' := eq_true l0
    obtain ⟨s11, H, hvars, hB, hP, hW⟩ := rVars_h t hv [.box (some 4) (.pv (some 4) t.pv), .box (some 4) (zg 2), .arr (some 4) [] false, .box (some 4) (zg 4), .arr (some 4) [] false, .box (some 4) (.pv (some 4) (inner (arg1 t)).pv), .arr (some 4) [] false, .box (some 4) (.pv (some 4) zt.pv), .arr (some 4) [] false, .box (some 4) (.pv (some 4) (tl (arg2 t)).pv), .arr (some 4) [] false]
    obtain ⟨e, rfl⟩ := hP.ext
    simp only [Tm.av, zg, List.cons_append, List.nil_append] at hvars hB
    simp -dsimp -implicitDefEqProofs only [g24, c24r0, c24r1, c24r2, c24k3, c24r4, c24r5, c24k6, c24r7, c24r8, c24r9, c24r10, c24k11, c24r12, c24r13, c24r14, c24k15, c24r16, c24r17, c24r18, c24r19, c24k20, c24r21, c24k22, c24r23, c24b24, c24k25, c24r26, c24r27, c24r28, c24k29, c24r30, c24r31, c24r32, c24r33, c24r34, c24k35, c24r36, c24, go_sem, seval, ↓reduceIte, Tm.av, h1, hv, part_kind, part_name, part_args, hpa, hlen3, k1', a1, i0, i1, i2, hin, hca, str, hel, l0', hvars, hb0, w_alloc_agg, w_store_agg (Nat.zero_le _)]
    refine W_for (α := Unit) (vads [] t.occ).length (fun _ _ => True) (fun i _ => ⟨[(1, .ptr 0 0), (2, .ptr 1 0), (3, .ptr 3 0), (5, .ptr 5 0), (10, .pv none (.int .i64 (nxt ((vads [] t.occ).take i)))), (11, s11), (12, .pv none (.int .i64 i))], .box (some 4) (.pv (some 4) t.pv) :: .box (some 4) (zg 2) :: .arr (some 4) [] false :: .box (some 4) (zg 4) :: .arr (some 4) [] false :: .box (some 4) (.pv (some 4) (inner (arg1 t)).pv) :: .arr (some 4) [] false :: .box (some 4) (.pv (some 4) zt.pv) :: .arr (some 4) [] false :: .box (some 4) (.pv (some 4) (tl (arg2 t)).pv) :: .arr (some 4) [] false :: e⟩) () ⟨trivial, rfl⟩ ?_ ?_
    ·rintro i - hi -
     have hc : (i : Int) < ((vads [] t.occ).length : Int) := by omega
     obtain ⟨x, hx⟩ : ∃ x, (vads [] t.occ)[i]? = some x := ⟨_, List.getElem?_eq_getElem hi⟩
     have hxr := hrg x (List.mem_of_getElem? hx)
     have w2 : IntKind.i64.wrap ((i : Int) + 1) = ((i + 1 : Nat) : Int) := by rw [wrap64 (by omega) (by omega)]; omega
     have w3 : IntKind.i64.wrap (x + 1) = x + 1 := wrap64 (by omega) (by omega)
     have htk : nxt ((vads [] t.occ).take (i + 1)) = mx (nxt ((vads [] t.occ).take i)) (x + 1) := by rw [take_snoc hx, nxt_snoc]
     have e8 := hB.len
     obtain ⟨p, p1, p2⟩ := hB.get hx
     generalize vads [] t.occ = a at *
     simp -dsimp -implicitDefEqProofs only [g24, c24r0, c24r1, c24r2, c24k3, c24r4, c24r5, c24k6, c24r7, c24r8, c24r9, c24r10, c24k11, c24r12, c24r13, c24r14, c24k15, c24r16, c24r17, c24r18, c24r19, c24k20, c24r21, c24k22, c24r23, c24b24, c24k25, c24r26, c24r27, c24r28, c24k29, c24r30, c24r31, c24r32, c24r33, c24r34, c24k35, c24r36, c24, go_sem, seval, ↓reduceIte, zg, hc, e8, p1, p2, w2, w3]
     refine ⟨(), ?_⟩
     rw [htk, collect_mid (by simp)]
     rfl
    ·rintro - -
     have hc : ¬ ((vads [] t.occ).length : Int) < ((vads [] t.occ).length : Int) := by omega
     have e8 := hB.len
     have p1 := rstr_ok [45] [lst (tvs (free (arg0 t) (arg1 t))), arg0 t] []
     have p2 := rstr_ok findN [strT [45] [lst (tvs (free (arg0 t) (arg1 t))), arg0 t], inner (arg1 t), tvar (nxt (vads [] t.occ))] []
     have p3 := rstr_ok bagN [lst (tvs (free (arg0 t) (arg1 t))), tvar (nxt (vads [] t.occ)), arg2 t] []
     have p4 := rstr_ok [44] [strT findN [strT [45] [lst (tvs (free (arg0 t) (arg1 t))), arg0 t], inner (arg1 t), tvar (nxt (vads [] t.occ))], strT bagN [lst (tvs (free (arg0 t) (arg1 t))), tvar (nxt (vads [] t.occ)), arg2 t]] []
     have eO : strT [44] [strT findN [strT [45] [lst (tvs (free (arg0 t) (arg1 t))), arg0 t], inner (arg1 t), tvar (nxt (vads [] t.occ))], strT bagN [lst (tvs (free (arg0 t) (arg1 t))), tvar (nxt (vads [] t.occ)), arg2 t]] = outT bagN (lst (tvs (free (arg0 t) (arg1 t)))) (arg0 t) (inner (arg1 t)) (arg2 t) (nxt (vads [] t.occ)) := rfl
     rw [eO] at p4
     have os := out_size bagN (lst (tvs (free (arg0 t) (arg1 t)))) (arg0 t) (inner (arg1 t)) (arg2 t) (nxt (vads [] t.occ))
     have hov := fun hp => rvalid_ok (outT bagN (lst (tvs (free (arg0 t) (arg1 t)))) (arg0 t) (inner (arg1 t)) (arg2 t) (nxt (vads [] t.occ))) hp (by omega)
     have hoc := fun hp h => rclone_ok (outT bagN (lst (tvs (free (arg0 t) (arg1 t)))) (arg0 t) (inner (arg1 t)) (arg2 t) (nxt (vads [] t.occ))) hp h (by omega)
     have tp2 : ∀ a b : Tm, Tm.pvs [a, b] = [a.pv, b.pv] := fun _ _ => rfl
     have tp3 : ∀ a b c : Tm, Tm.pvs [a, b, c] = [a.pv, b.pv, c.pv] := fun _ _ _ => rfl
     have hbv : sBuild [(none, .pv none (.int .i64 0)), (none, .pv none (.int .i64 0)), (none, .pv none (.str [])), (none, .tsl (some 4) [])] [0, 1] [.pv none (.int .i64 0), .pv none (.int .i64 (nxt (vads [] t.occ)))] = some (.agg [(none, .pv none (.int .i64 0)), (none, .pv none (.int .i64 (nxt (vads [] t.occ)))), (none, .pv none (.str [])), (none, .tsl (some 4) [])]) := rfl
     rw [tp2] at p1 p4
     rw [tp3] at p2 p3
     simp only [Tm.av, findN, bagN] at p1 p2 p3 p4 hov hoc
     by_cases gn : nxt (vads [] t.occ) ≤ 1099511627776
     rotate_left
     ·rw [if_neg (fun e => gn e.1)]
      have gn' := eq_true (show (1099511627776 : Int) < nxt (vads [] t.occ) by omega)
      simp -dsimp -implicitDefEqProofs only [g24, c24r0, c24r1, c24r2, c24k3, c24r4, c24r5, c24k6, c24r7, c24r8, c24r9, c24r10, c24k11, c24r12, c24r13, c24r14, c24k15, c24r16, c24r17, c24r18, c24r19, c24k20, c24r21, c24k22, c24r23, c24b24, c24k25, c24r26, c24r27, c24r28, c24k29, c24r30, c24r31, c24r32, c24r33, c24r34, c24k35, c24r36, c24, go_sem, seval, ↓reduceIte, Tm.av, zg, a1, a2, part_kind, part_name, part_args, hpa, i0, i1, i2, hc, e8, List.take_length, hfr, hli, hbv, settleB_zw, p1, p2, p3, p4, hov, gn', hb0, w_alloc_agg, w_store_agg (Nat.zero_le _), own_cons_sl, List.append_assoc, List.cons_append, List.nil_append, get_pre, get_pre0, set_pre, set_pre0, Nat.add_assoc, List.length_append, List.length_cons, List.length_nil, Nat.zero_add]
      exact frozen_zz (by simp) (by simp)
     ·have gn' := eq_false (show ¬ (1099511627776 : Int) < nxt (vads [] t.occ) by omega)
      by_cases go : (outT bagN (lst (tvs (free (arg0 t) (arg1 t)))) (arg0 t) (inner (arg1 t)) (arg2 t) (nxt (vads [] t.occ))).valid = true
      ·rw [if_pos ⟨gn, go⟩]
       have hoc := fun hp => hoc hp go
       have go' := go
       simp only [bagN] at hoc go'
       simp -dsimp -implicitDefEqProofs only [g24, c24r0, c24r1, c24r2, c24k3, c24r4, c24r5, c24k6, c24r7, c24r8, c24r9, c24r10, c24k11, c24r12, c24r13, c24r14, c24k15, c24r16, c24r17, c24r18, c24r19, c24k20, c24r21, c24k22, c24r23, c24b24, c24k25, c24r26, c24r27, c24r28, c24k29, c24r30, c24r31, c24r32, c24r33, c24r34, c24k35, c24r36, c24, go_sem, seval, ↓reduceIte, Tm.av, zg, a1, a2, part_kind, part_name, part_args, hpa, i0, i1, i2, hc, e8, List.take_length, hfr, hli, hbv, settleB_zw, p1, p2, p3, p4, hov, gn', go', hoc, hb0, w_alloc_agg, w_store_agg (Nat.zero_le _), own_cons_sl, List.append_assoc, List.cons_append, List.nil_append, get_pre, get_pre0, set_pre, set_pre0, Nat.add_assoc, List.length_append, List.length_cons, List.length_nil, Nat.zero_add]
       exact frozen_pz (by simp)
      ·rw [if_neg (fun e => go e.2)]
       have go' : (outT bagN (lst (tvs (free (arg0 t) (arg1 t)))) (arg0 t) (inner (arg1 t)) (arg2 t) (nxt (vads [] t.occ))).valid = false := by simpa using go
       simp only [bagN] at go'
       simp -dsimp -implicitDefEqProofs only [g24, c24r0, c24r1, c24r2, c24k3, c24r4, c24r5, c24k6, c24r7, c24r8, c24r9, c24r10, c24k11, c24r12, c24r13, c24r14, c24k15, c24r16, c24r17, c24r18, c24r19, c24k20, c24r21, c24k22, c24r23, c24b24, c24k25, c24r26, c24r27, c24r28, c24k29, c24r30, c24r31, c24r32, c24r33, c24r34, c24k35, c24r36, c24, go_sem, seval, ↓reduceIte, Tm.av, zg, a1, a2, part_kind, part_name, part_args, hpa, i0, i1, i2, hc, e8, List.take_length, hfr, hli, hbv, settleB_zw, p1, p2, p3, p4, hov, gn', go', hb0, w_alloc_agg, w_store_agg (Nat.zero_le _), own_cons_sl, List.append_assoc, List.cons_append, List.nil_append, get_pre, get_pre0, set_pre, set_pre0, Nat.add_assoc, List.length_append, List.length_cons, List.length_nil, Nat.zero_add]
       exact frozen_zz (by simp) (by simp)
   ·have l0' := eq_false l0
    by_cases l2 : (tl (arg2 t)).kind = 2
    ·have l2' := eq_true l2
     by_cases ln : (tl (arg2 t)).name = [91, 93]
     ·have gl : ll (arg2 t) := .inr ⟨l2, ln⟩
      rw [if_neg (fun e => e gl)]
      have ln' := eq_true ln
      obtain ⟨s11, H, hvars, hB, hP, hW⟩ := rVars_h t hv [.box (some 4) (.pv (some 4) t.pv), .box (some 4) (zg 2), .arr (some 4) [] false, .box (some 4) (zg 4), .arr (some 4) [] false, .box (some 4) (.pv (some 4) (inner (arg1 t)).pv), .arr (some 4) [] false, .box (some 4) (.pv (some 4) zt.pv), .arr (some 4) [] false, .box (some 4) (.pv (some 4) (tl (arg2 t)).pv), .arr (some 4) [] false]
      obtain ⟨e, rfl⟩ := hP.ext
      simp only [Tm.av, zg, List.cons_append, List.nil_append] at hvars hB
      simp -dsimp -implicitDefEqProofs only [g24, c24r0, c24r1, c24r2, c24k3, c24r4, c24r5, c24k6, c24r7, c24r8, c24r9, c24r10, c24k11, c24r12, c24r13, c24r14, c24k15, c24r16, c24r17, c24r18, c24r19, c24k20, c24r21, c24k22, c24r23, c24b24, c24k25, c24r26, c24r27, c24r28, c24k29, c24r30, c24r31, c24r32, c24r33, c24r34, c24k35, c24r36, c24, go_sem, seval, ↓reduceIte, Tm.av, h1, hv, part_kind, part_name, part_args, hpa, hlen3, k1', a1, i0, i1, i2, hin, hca, str, hel, l0', l2', ln', hvars, hb0, w_alloc_agg, w_store_agg (Nat.zero_le _)]
      refine W_for (α := Unit) (vads [] t.occ).length (fun _ _ => True) (fun i _ => ⟨[(1, .ptr 0 0), (2, .ptr 1 0), (3, .ptr 3 0), (5, .ptr 5 0), (10, .pv none (.int .i64 (nxt ((vads [] t.occ).take i)))), (11, s11), (12, .pv none (.int .i64 i))], .box (some 4) (.pv (some 4) t.pv) :: .box (some 4) (zg 2) :: .arr (some 4) [] false :: .box (some 4) (zg 4) :: .arr (some 4) [] false :: .box (some 4) (.pv (some 4) (inner (arg1 t)).pv) :: .arr (some 4) [] false :: .box (some 4) (.pv (some 4) zt.pv) :: .arr (some 4) [] false :: .box (some 4) (.pv (some 4) (tl (arg2 t)).pv) :: .arr (some 4) [] false :: e⟩) () ⟨trivial, rfl⟩ ?_ ?_
      ·rintro i - hi -
       have hc : (i : Int) < ((vads [] t.occ).length : Int) := by omega
       obtain ⟨x, hx⟩ : ∃ x, (vads [] t.occ)[i]? = some x := ⟨_, List.getElem?_eq_getElem hi⟩
       have hxr := hrg x (List.mem_of_getElem? hx)
       have w2 : IntKind.i64.wrap ((i : Int) + 1) = ((i + 1 : Nat) : Int) := by rw [wrap64 (by omega) (by omega)]; omega
       have w3 : IntKind.i64.wrap (x + 1) = x + 1 := wrap64 (by omega) (by omega)
       have htk : nxt ((vads [] t.occ).take (i + 1)) = mx (nxt ((vads [] t.occ).take i)) (x + 1) := by rw [take_snoc hx, nxt_snoc]
       have e8 := hB.len
       obtain ⟨p, p1, p2⟩ := hB.get hx
       generalize vads [] t.occ = a at *
       simp -dsimp -implicitDefEqProofs only [g24, c24r0, c24r1, c24r2, c24k3, c24r4, c24r5, c24k6, c24r7, c24r8, c24r9, c24r10, c24k11, c24r12, c24r13, c24r14, c24k15, c24r16, c24r17, c24r18, c24r19, c24k20, c24r21, c24k22, c24r23, c24b24, c24k25, c24r26, c24r27, c24r28, c24k29, c24r30, c24r31, c24r32, c24r33, c24r34, c24k35, c24r36, c24, go_sem, seval, ↓reduceIte, zg, hc, e8, p1, p2, w2, w3]
       refine ⟨(), ?_⟩
       rw [htk, collect_mid (by simp)]
       rfl
      ·rintro - -
       have hc : ¬ ((vads [] t.occ).length : Int) < ((vads [] t.occ).length : Int) := by omega
       have e8 := hB.len
       have p1 := rstr_ok [45] [lst (tvs (free (arg0 t) (arg1 t))), arg0 t] []
       have p2 := rstr_ok findN [strT [45] [lst (tvs (free (arg0 t) (arg1 t))), arg0 t], inner (arg1 t), tvar (nxt (vads [] t.occ))] []
       have p3 := rstr_ok bagN [lst (tvs (free (arg0 t) (arg1 t))), tvar (nxt (vads [] t.occ)), arg2 t] []
       have p4 := rstr_ok [44] [strT findN [strT [45] [lst (tvs (free (arg0 t) (arg1 t))), arg0 t], inner (arg1 t), tvar (nxt (vads [] t.occ))], strT bagN [lst (tvs (free (arg0 t) (arg1 t))), tvar (nxt (vads [] t.occ)), arg2 t]] []
       have eO : strT [44] [strT findN [strT [45] [lst (tvs (free (arg0 t) (arg1 t))), arg0 t], inner (arg1 t), tvar (nxt (vads [] t.occ))], strT bagN [lst (tvs (free (arg0 t) (arg1 t))), tvar (nxt (vads [] t.occ)), arg2 t]] = outT bagN (lst (tvs (free (arg0 t) (arg1 t)))) (arg0 t) (inner (arg1 t)) (arg2 t) (nxt (vads [] t.occ)) := rfl
       rw [eO] at p4
       have os := out_size bagN (lst (tvs (free (arg0 t) (arg1 t)))) (arg0 t) (inner (arg1 t)) (arg2 t) (nxt (vads [] t.occ))
       have hov := fun hp => rvalid_ok (outT bagN (lst (tvs (free (arg0 t) (arg1 t)))) (arg0 t) (inner (arg1 t)) (arg2 t) (nxt (vads [] t.occ))) hp (by omega)
       have hoc := fun hp h => rclone_ok (outT bagN (lst (tvs (free (arg0 t) (arg1 t)))) (arg0 t) (inner (arg1 t)) (arg2 t) (nxt (vads [] t.occ))) hp h (by omega)
       have tp2 : ∀ a b : Tm, Tm.pvs [a, b] = [a.pv, b.pv] := fun _ _ => rfl
       have tp3 : ∀ a b c : Tm, Tm.pvs [a, b, c] = [a.pv, b.pv, c.pv] := fun _ _ _ => rfl
       have hbv : sBuild [(none, .pv none (.int .i64 0)), (none, .pv none (.int .i64 0)), (none, .pv none (.str [])), (none, .tsl (some 4) [])] [0, 1] [.pv none (.int .i64 0), .pv none (.int .i64 (nxt (vads [] t.occ)))] = some (.agg [(none, .pv none (.int .i64 0)), (none, .pv none (.int .i64 (nxt (vads [] t.occ)))), (none, .pv none (.str [])), (none, .tsl (some 4) [])]) := rfl
       rw [tp2] at p1 p4
       rw [tp3] at p2 p3
       simp only [Tm.av, findN, bagN] at p1 p2 p3 p4 hov hoc
       by_cases gn : nxt (vads [] t.occ) ≤ 1099511627776
       rotate_left
       ·rw [if_neg (fun e => gn e.1)]
        have gn' := eq_true (show (1099511627776 : Int) < nxt (vads [] t.occ) by omega)
        simp -dsimp -implicitDefEqProofs only [g24, c24r0, c24r1, c24r2, c24k3, c24r4, c24r5, c24k6, c24r7, c24r8, c24r9, c24r10, c24k11, c24r12, c24r13, c24r14, c24k15, c24r16, c24r17, c24r18, c24r19, c24k20, c24r21, c24k22, c24r23, c24b24, c24k25, c24r26, c24r27, c24r28, c24k29, c24r30, c24r31, c24r32, c24r33, c24r34, c24k35, c24r36, c24, go_sem, seval, ↓reduceIte, Tm.av, zg, a1, a2, part_kind, part_name, part_args, hpa, i0, i1, i2, hc, e8, List.take_length, hfr, hli, hbv, settleB_zw, p1, p2, p3, p4, hov, gn', hb0, w_alloc_agg, w_store_agg (Nat.zero_le _), own_cons_sl, List.append_assoc, List.cons_append, List.nil_append, get_pre, get_pre0, set_pre, set_pre0, Nat.add_assoc, List.length_append, List.length_cons, List.length_nil, Nat.zero_add]
        exact frozen_zz (by simp) (by simp)
       ·have gn' := eq_false (show ¬ (1099511627776 : Int) < nxt (vads [] t.occ) by omega)
        by_cases go : (outT bagN (lst (tvs (free (arg0 t) (arg1 t)))) (arg0 t) (inner (arg1 t)) (arg2 t) (nxt (vads [] t.occ))).valid = true
        ·rw [if_pos ⟨gn, go⟩]
         have hoc := fun hp => hoc hp go
         have go' := go
         simp only [bagN] at hoc go'
         simp -dsimp -implicitDefEqProofs only [g24, c24r0, c24r1, c24r2, c24k3, c24r4, c24r5, c24k6, c24r7, c24r8, c24r9, c24r10, c24k11, c24r12, c24r13, c24r14, c24k15, c24r16, c24r17, c24r18, c24r19, c24k20, c24r21, c24k22, c24r23, c24b24, c24k25, c24r26, c24r27, c24r28, c24k29, c24r30, c24r31, c24r32, c24r33, c24r34, c24k35, c24r36, c24, go_sem, seval, ↓reduceIte, Tm.av, zg, a1, a2, part_kind, part_name, part_args, hpa, i0, i1, i2, hc, e8, List.take_length, hfr, hli, hbv, settleB_zw, p1, p2, p3, p4, hov, gn', go', hoc, hb0, w_alloc_agg, w_store_agg (Nat.zero_le _), own_cons_sl, List.append_assoc, List.cons_append, List.nil_append, get_pre, get_pre0, set_pre, set_pre0, Nat.add_assoc, List.length_append, List.length_cons, List.length_nil, Nat.zero_add]
         exact frozen_pz (by simp)
        ·rw [if_neg (fun e => go e.2)]
         have go' : (outT bagN (lst (tvs (free (arg0 t) (arg1 t)))) (arg0 t) (inner (arg1 t)) (arg2 t) (nxt (vads [] t.occ))).valid = false := by simpa using go
         simp only [bagN] at go'
         simp -dsimp -implicitDefEqProofs only [g24, c24r0, c24r1, c24r2, c24k3, c24r4, c24r5, c24k6, c24r7, c24r8, c24r9, c24r10, c24k11, c24r12, c24r13, c24r14, c24k15, c24r16, c24r17, c24r18, c24r19, c24k20, c24r21, c24k22, c24r23, c24b24, c24k25, c24r26, c24r27, c24r28, c24k29, c24r30, c24r31, c24r32, c24r33, c24r34, c24k35, c24r36, c24, go_sem, seval, ↓reduceIte, Tm.av, zg, a1, a2, part_kind, part_name, part_args, hpa, i0, i1, i2, hc, e8, List.take_length, hfr, hli, hbv, settleB_zw, p1, p2, p3, p4, hov, gn', go', hb0, w_alloc_agg, w_store_agg (Nat.zero_le _), own_cons_sl, List.append_assoc, List.cons_append, List.nil_append, get_pre, get_pre0, set_pre, set_pre0, Nat.add_assoc, List.length_append, List.length_cons, List.length_nil, Nat.zero_add]
         exact frozen_zz (by simp) (by simp)
     ·have gl : ¬ ll (arg2 t) := fun e => e.elim l0 fun e => ln e.2
      rw [if_pos gl]
      have ln' := eq_false ln
      simp -dsimp -implicitDefEqProofs only [g24, c24r0, c24r1, c24r2, c24k3, c24r4, c24r5, c24k6, c24r7, c24r8, c24r9, c24r10, c24k11, c24r12, c24r13, c24r14, c24k15, c24r16, c24r17, c24r18, c24r19, c24k20, c24r21, c24k22, c24r23, c24b24, c24k25, c24r26, c24r27, c24r28, c24k29, c24r30, c24r31, c24r32, c24r33, c24r34, c24k35, c24r36, c24, go_sem, seval, ↓reduceIte, Tm.av, h1, hv, part_kind, part_name, part_args, hpa, hlen3, k1', a1, i0, i1, i2, hin, hca, str, hel, l0', l2', ln', hty2, hb0, w_alloc_agg, w_store_agg (Nat.zero_le _)]
      exact ⟨_, rfl⟩
    ·have gl : ¬ ll (arg2 t) := fun e => e.elim l0 fun e => l2 e.1
     rw [if_pos gl]
     have l2' := eq_false l2
     simp -dsimp -implicitDefEqProofs only [g24, c24r0, c24r1, c24r2, c24k3, c24r4, c24r5, c24k6, c24r7, c24r8, c24r9, c24r10, c24k11, c24r12, c24r13, c24r14, c24k15, c24r16, c24r17, c24r18, c24r19, c24k20, c24r21, c24k22, c24r23, c24b24, c24k25, c24r26, c24r27, c24r28, c24k29, c24r30, c24r31, c24r32, c24r33, c24r34, c24k35, c24r36, c24, go_sem, seval, ↓reduceIte, Tm.av, h1, hv, part_kind, part_name, part_args, hpa, hlen3, k1', a1, i0, i1, i2, hin, hca, str, hel, l0', l2', hty2, hb0, w_alloc_agg, w_store_agg (Nat.zero_le _)]
     exact ⟨_, rfl⟩
set_option maxRecDepth 8000 in
theorem rexpand_ok (t : Tm) (ht : t.size < 1000000000) (hp : Heap) : S 24 [t.av] hp = some (.ret (.tuple [(exR t).1.av, (exR t).2.1.av, .pv none (.int .i64 (exR t).2.2)]), hp) := by
 refine sem_pure rfl rfl rfl (freezeAll_pvs [(some 4, t.pv)]) rfl ?_
 have h1 := fun hp => rvalid_ok t hp ht
 simp only [Tm.av] at h1
 by_cases hv : t.valid = true
 rotate_left
 ·have hv' : t.valid = false := by simpa using hv
  have e : exR t = (zt, zt, 1) := by unfold exR; rw [if_neg hv]
  rw [e]
  simp -dsimp -implicitDefEqProofs only [g24, c24r0, c24r1, c24r2, c24k3, c24r4, c24r5, c24k6, c24r7, c24r8, c24r9, c24r10, c24k11, c24r12, c24r13, c24r14, c24k15, c24r16, c24r17, c24r18, c24r19, c24k20, c24r21, c24k22, c24r23, c24b24, c24k25, c24r26, c24r27, c24r28, c24k29, c24r30, c24r31, c24r32, c24r33, c24r34, c24k35, c24r36, c24, go_sem, seval, ↓reduceIte, Tm.av, h1, hv', hb0, w_alloc_agg, w_store_agg (Nat.zero_le _)]
  exact ⟨_, rfl⟩
 have hz := valid_size hv
 by_cases q0 : setQ t ∨ bagQ t
 rotate_left
 ·have q1 : ¬ setQ t := fun e => q0 (.inl e)
  have q2 : ¬ bagQ t := fun e => q0 (.inr e)
  have e : exR t = (zt, zt, 4) := by unfold exR; rw [if_pos hv, if_neg q1, if_neg q2]
  rw [e]
  by_cases k1 : t.kind = 3
  ·have k1' := eq_true k1
   by_cases k3 : t.args.length = 3
   ·have k3' := eq_true (show (t.args.length : Int) = 3 by omega)
    have n1 : ¬ t.name = [98, 97, 103, 111, 102] := fun e => q2 ⟨k1, e, k3⟩
    have n2 : ¬ t.name = [115, 101, 116, 111, 102] := fun e => q1 ⟨k1, e, k3⟩
    have n1' := eq_false n1
    have n2' := eq_false n2
    simp -dsimp -implicitDefEqProofs only [g24, c24r0, c24r1, c24r2, c24k3, c24r4, c24r5, c24k6, c24r7, c24r8, c24r9, c24r10, c24k11, c24r12, c24r13, c24r14, c24k15, c24r16, c24r17, c24r18, c24r19, c24k20, c24r21, c24k22, c24r23, c24b24, c24k25, c24r26, c24r27, c24r28, c24k29, c24r30, c24r31, c24r32, c24r33, c24r34, c24k35, c24r36, c24, go_sem, seval, ↓reduceIte, Tm.av, h1, hv, part_kind, part_name, part_args, Tm.pvs_len, k1', k3', n1', n2', hb0, w_alloc_agg, w_store_agg (Nat.zero_le _)]
    exact ⟨_, rfl⟩
   ·have k3' := eq_false (show ¬ (t.args.length : Int) = 3 by omega)
    simp -dsimp -implicitDefEqProofs only [g24, c24r0, c24r1, c24r2, c24k3, c24r4, c24r5, c24k6, c24r7, c24r8, c24r9, c24r10, c24k11, c24r12, c24r13, c24r14, c24k15, c24r16, c24r17, c24r18, c24r19, c24k20, c24r21, c24k22, c24r23, c24b24, c24k25, c24r26, c24r27, c24r28, c24k29, c24r30, c24r31, c24r32, c24r33, c24r34, c24k35, c24r36, c24, go_sem, seval, ↓reduceIte, Tm.av, h1, hv, part_kind, part_name, part_args, Tm.pvs_len, k1', k3', hb0, w_alloc_agg, w_store_agg (Nat.zero_le _)]
    exact ⟨_, rfl⟩
  ·have k1' := eq_false k1
   simp -dsimp -implicitDefEqProofs only [g24, c24r0, c24r1, c24r2, c24k3, c24r4, c24r5, c24k6, c24r7, c24r8, c24r9, c24r10, c24k11, c24r12, c24r13, c24r14, c24k15, c24r16, c24r17, c24r18, c24r19, c24k20, c24r21, c24k22, c24r23, c24b24, c24k25, c24r26, c24r27, c24r28, c24k29, c24r30, c24r31, c24r32, c24r33, c24r34, c24k35, c24r36, c24, go_sem, seval, ↓reduceIte, Tm.av, h1, hv, part_kind, part_name, part_args, Tm.pvs_len, k1', hb0, w_alloc_agg, w_store_agg (Nat.zero_le _)]
   exact ⟨_, rfl⟩
 by_cases q1 : setQ t
 ·have e : exR t = exN setN' t := by unfold exR; rw [if_pos hv, if_pos q1]
  rw [e]
  exact rexp_set t hv q1
 ·have q2 := q0.resolve_left q1
  have e : exR t = exN bagN t := by unfold exR; rw [if_pos hv, if_neg q1, if_pos q2]
  rw [e]
  exact rexp_bag t hv q2
end Go.Proofs.YtffecaafklpmhaaGreat
