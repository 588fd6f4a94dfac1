/- What is proved: SubstMatched answers true for all bindings, patterns and terms, where what it reads is of bulk at most 1048576. -/
import Derived.Test.YtenkiofpobeilaaRRz
import Derived.Test.YtenkiofpobeilaaRun
import Derived.Test.YtenkiofpobeilaaData3
set_option linter.unusedSimpArgs false
set_option linter.unusedVariables false
namespace Go.Proofs.Ytenkiofpobeilaa
open Go.Am Go.ChangeShapes Go.WideShapes Go.ChangeAt Go.RowKit
theorem scalar_tm2 (t : Tm) (q : PV) : (AV.tuple [t.av, .pv none q]).scalar = false := by cases t; rfl
theorem substMatched_sem (l : List B) (p t : Tm) (hl : l.length ≤ 1048576) (hsz : ∀ b ∈ l, b.2.size ≤ 1048576) (hp : p.size ≤ 1048576) (ht : t.size ≤ 1048576) :
    S 7 [.pv none (.sl (some 5) (bds l)), p.av, t.av] [] = some (.ret (.pv none (.bool true)), []) := by
  refine sem_pure rfl rfl rfl (freezeAll_pvs [(none, .sl (some 5) (bds l)), (some 4, p.pv), (some 4, t.pv)]) rfl ?_
  obtain ⟨lg, h1, hlg⟩ := long_ok l (by omega) fun b hb => by have := hsz b hb; omega
  have h2 := rvalidB_eq l (by omega) fun b hb => by have := hsz b hb; omega
  have h3 := fun hp0 => rvalid_ok p hp0 (by omega)
  have h4 := fun hp0 => rvalid_ok t hp0 (by omega)
  have haw := fun hp0 => awake_all hp0 awake_ok
  simp only [Tm.av] at h3 h4
  cases lg with
  | true => simp -dsimp -implicitDefEqProofs only [g7, c7r0, c7r1, c7r2, c7k3, c7r4, c7r5, c7r6, c7r7, c7r8, c7k9, c7k10, c7r11, c7r12, c7r13, c7k14, c7r15, c7r16, c7r17, c7k18, c7r19, c7r20, c7r21, c7k22, c7r23, c7r24, c7k25, c7k26, c7r27, c7b28, c7k29, c7r30, c7r31, c7r32, c7k33, c7r34, c7k35, c7r36, c7b37, c7k38, c7r39, c7r40, c7, go_sem, seval, ↓reduceIte, h1, haw]
  | false =>
  cases hok : okb l with
  | false =>
    rw [hok] at h2
    simp -dsimp -implicitDefEqProofs only [g7, c7r0, c7r1, c7r2, c7k3, c7r4, c7r5, c7r6, c7r7, c7r8, c7k9, c7k10, c7r11, c7r12, c7r13, c7k14, c7r15, c7r16, c7r17, c7k18, c7r19, c7r20, c7r21, c7k22, c7r23, c7r24, c7k25, c7k26, c7r27, c7b28, c7k29, c7r30, c7r31, c7r32, c7k33, c7r34, c7k35, c7r36, c7b37, c7k38, c7r39, c7r40, c7, go_sem, seval, ↓reduceIte, h1, h2, haw]
  | true =>
  rw [hok] at h2
  by_cases hpv : p.valid = true
  rotate_left
  · have hpv' : p.valid = false := by simpa using hpv
    simp -dsimp -implicitDefEqProofs only [g7, c7r0, c7r1, c7r2, c7k3, c7r4, c7r5, c7r6, c7r7, c7r8, c7k9, c7k10, c7r11, c7r12, c7r13, c7k14, c7r15, c7r16, c7r17, c7k18, c7r19, c7r20, c7r21, c7k22, c7r23, c7r24, c7k25, c7k26, c7r27, c7b28, c7k29, c7r30, c7r31, c7r32, c7k33, c7r34, c7k35, c7r36, c7b37, c7k38, c7r39, c7r40, c7, go_sem, seval, ↓reduceIte, h1, h2, h3, hpv', haw]
  by_cases htv : t.valid = true
  rotate_left
  · have htv' : t.valid = false := by simpa using htv
    simp -dsimp -implicitDefEqProofs only [g7, c7r0, c7r1, c7r2, c7k3, c7r4, c7r5, c7r6, c7r7, c7r8, c7k9, c7k10, c7r11, c7r12, c7r13, c7k14, c7r15, c7r16, c7r17, c7k18, c7r19, c7r20, c7r21, c7k22, c7r23, c7r24, c7k25, c7k26, c7r27, c7b28, c7k29, c7r30, c7r31, c7r32, c7k33, c7r34, c7k35, c7r36, c7b37, c7k38, c7r39, c7r40, c7, go_sem, seval, ↓reduceIte, h1, h2, h3, h4, hpv, htv', haw]
  have hO := okb_iff.1 hok
  have hps := valid_size hpv
  have hts := valid_size htv
  have h5 := rresolve_ok l p (by omega) (fun b hb => by have := hsz b hb; omega) (by omega)
  obtain ⟨r, bb, h6, hbb⟩ : ∃ (r : List B) (bb : Bool), (∀ hp0, S 15 [p.av, (rsR l p).1.av] hp0 = some (.ret (.tuple [.pv none (.sl (some 5) (bds r)), .pv none (.bool bb)]), hp0)) ∧ ((rsR l p).2 = 0 → bb = true) := by
    have e : rsR l p = if (rs l p).size ≤ 2000 then (rs l p, 0) else (zt, 2) := by unfold rsR; rw [if_pos ⟨hok, hpv⟩]
    by_cases hs : (rs l p).size ≤ 2000
    · rw [if_pos hs] at e
      refine ⟨_, _, fun hp0 => pmatch_ok p _ hp0 (by omega) (by rw [e]; show (rs l p).size < _; omega), fun _ => ?_⟩
      have hrv := valid_of (rs_fits hO _ p rfl (valid_fits hpv)) hs
      obtain ⟨l', hm, _, _⟩ := pmt_inst (rsv l) p [] ⟨by simp [Srt'], by simp⟩ (fun b hb => by cases hb) (valid_fits hpv) hrv
      rw [e]
      show (mtR p (rs l p)).isSome = true
      unfold mtR
      rw [if_pos ⟨hpv, hrv⟩]
      show (pmt p (Tm.sub (rsv l) p) []).isSome = true
      rw [hm]
      rfl
    · rw [if_neg hs] at e
      refine ⟨_, _, fun hp0 => pmatch_ok p _ hp0 (by omega) (by rw [e]; decide), fun he => ?_⟩
      rw [e] at he
      cases he
  generalize (rsR l p).1 = u at h5 h6
  generalize (rsR l p).2 = e at h5 hbb
  have h7 := fun hp0 => pmatch_ok p t hp0 (by omega) (by omega)
  have h8 := fun hp0 => rename_ok 549755813888 (by decide) p hpv hp0
  have h9 := fun hp0 => rVars_ok t hp0 (by omega)
  have h10 := fun hp0 => rVars_ok p hp0 (by omega)
  rw [if_pos htv] at h9
  rw [if_pos hpv] at h10
  have hm : mtR p t = pmt p t [] := by unfold mtR; rw [if_pos ⟨hpv, htv⟩]
  rw [hm] at h7
  simp only [Tm.av] at h5 h6 h7 h8 h9 h10
  by_cases he : e = 0
  · obtain rfl := hbb he
    subst he
    have he : True := trivial
    cases hR : pmt p t [] with
    | none =>
      rw [hR] at h7
      simp only [Option.isSome_none, Option.getD_none] at h7
      simp -dsimp -implicitDefEqProofs only [g7, c7r0, c7r1, c7r2, c7k3, c7r4, c7r5, c7r6, c7r7, c7r8, c7k9, c7k10, c7r11, c7r12, c7r13, c7k14, c7r15, c7r16, c7r17, c7k18, c7r19, c7r20, c7r21, c7k22, c7r23, c7r24, c7k25, c7k26, c7r27, c7b28, c7k29, c7r30, c7r31, c7r32, c7k33, c7r34, c7k35, c7r36, c7b37, c7k38, c7r39, c7r40, c7, go_sem, seval, ↓reduceIte, h1, h2, h3, h4, h5, h6, h7, he, hpv, htv, haw, bds_len, w_alloc_agg, w_store_agg (Nat.zero_le _)]
    | some m =>
      rw [hR] at h7
      simp only [Option.isSome_some, Option.getD_some] at h7
      by_cases hren : ∀ w ∈ p.occ, w + 549755813888 ≤ 1099511627776
      rotate_left
      · simp only [if_neg hren] at h8
        simp -dsimp -implicitDefEqProofs only [g7, c7r0, c7r1, c7r2, c7k3, c7r4, c7r5, c7r6, c7r7, c7r8, c7k9, c7k10, c7r11, c7r12, c7r13, c7k14, c7r15, c7r16, c7r17, c7k18, c7r19, c7r20, c7r21, c7k22, c7r23, c7r24, c7k25, c7k26, c7r27, c7b28, c7k29, c7r30, c7r31, c7r32, c7k33, c7r34, c7k35, c7r36, c7b37, c7k38, c7r39, c7r40, c7, go_sem, seval, ↓reduceIte, h1, h2, h3, h4, h5, h6, h7, h8, he, hpv, htv, haw, bds_len, zt, Tm.av, w_alloc_agg, w_store_agg (Nat.zero_le _)]
      · simp only [if_pos hren] at h8
        simp -dsimp -implicitDefEqProofs only [g7, c7r0, c7r1, c7r2, c7k3, c7r4, c7r5, c7r6, c7r7, c7r8, c7k9, c7k10, c7r11, c7r12, c7r13, c7k14, c7r15, c7r16, c7r17, c7k18, c7r19, c7r20, c7r21, c7k22, c7r23, c7r24, c7k25, c7k26, c7r27, c7k29, c7r30, c7r31, c7r32, c7k33, c7r34, c7k35, c7r36, c7k38, c7r39, c7r40, c7, go_sem, seval, ↓reduceIte, h1, h2, h3, h4, h5, h6, h7, h8, h9, he, hpv, htv, haw, bds_len, Tm.av, w_alloc_agg, w_store_agg (Nat.zero_le _)]
        refine W_for (α := Unit) (vads [] t.occ).length (fun i _ => ∀ j, j < i → ∀ x, (vads [] t.occ)[j]? = some x → x < 549755813888) (fun i _ => ⟨[(4, .ptr 0 0), (5, .ptr 1 0), (11, .pv none (.sl (some 5) (bds m))), (13, .ptr 4 0), (15, .pv none (.sl none (ints (vads [] t.occ)))), (16, .pv none (.int .i64 i))], [.box (some 4) (.pv (some 4) p.pv), .box (some 4) (.pv (some 4) t.pv), .box (some 4) (.pv (some 4) u.pv), .arr (some 4) [] false, .box (some 4) (.pv (some 4) (shf 549755813888 p).pv), .arr (some 4) [] false]⟩) () ⟨fun j hj => by omega, rfl⟩ ?_ ?_
        · rintro i - h hinv
          have hc : (i : Int) < ((vads [] t.occ).length : Int) := by omega
          obtain ⟨x, hx⟩ : ∃ x, (vads [] t.occ)[i]? = some x := ⟨_, List.getElem?_eq_getElem h⟩
          have hvl := vads_len t.occ []
          have hol := t.occ_len
          rw [List.length_nil, Nat.zero_add] at hvl
          have w2 : IntKind.i64.wrap ((i : Int) + 1) = ((i + 1 : Nat) : Int) := by rw [wrap64 (by omega) (by omega)]; omega
          by_cases hbig : 549755813888 ≤ x
          · simp -dsimp -implicitDefEqProofs only [g7, c7r0, c7r1, c7r2, c7k3, c7r4, c7r5, c7r6, c7r7, c7r8, c7k9, c7k10, c7r11, c7r12, c7r13, c7k14, c7r15, c7r16, c7r17, c7k18, c7r19, c7r20, c7r21, c7k22, c7r23, c7r24, c7k25, c7k26, c7r27, c7b28, c7k29, c7r30, c7r31, c7r32, c7k33, c7r34, c7k35, c7r36, c7k38, c7r39, c7r40, c7, go_sem, seval, ↓reduceIte, ints_len, hc, s_iaddr_pv (ints_get hx), hbig, haw]
          · simp -dsimp -implicitDefEqProofs only [g7, c7r0, c7r1, c7r2, c7k3, c7r4, c7r5, c7r6, c7r7, c7r8, c7k9, c7k10, c7r11, c7r12, c7r13, c7k14, c7r15, c7r16, c7r17, c7k18, c7r19, c7r20, c7r21, c7k22, c7r23, c7r24, c7k25, c7k26, c7r27, c7b28, c7k29, c7r30, c7r31, c7r32, c7k33, c7r34, c7k35, c7r36, c7k38, c7r39, c7r40, c7, go_sem, seval, ↓reduceIte, ints_len, hc, s_iaddr_pv (ints_get hx), hbig, w2]
            refine ⟨(), fun j hj y hy => ?_, rfl⟩
            rcases Nat.lt_or_ge j i with h | h
            · exact hinv j h y hy
            · have : j = i := by omega
              subst this
              rw [hx] at hy
              cases hy
              omega
        · rintro - hinv
          have hc : ¬ ((vads [] t.occ).length : Int) < ((vads [] t.occ).length : Int) := by omega
          have hfar : ∀ w ∈ t.occ, w < 549755813888 := fun w hw => by
            have hm : w ∈ vads [] t.occ := (vads_mem t.occ [] w).2 (.inr hw)
            obtain ⟨j, hj, rfl⟩ := List.getElem_of_mem hm
            exact hinv j hj _ (List.getElem?_eq_getElem hj)
          obtain ⟨k1, k2, k3, k4⟩ := matched_law (by decide) hpv htv hR hren hfar
          obtain ⟨g1, g2⟩ := pmt_good p t [] m ⟨by simp [Srt'], by simp⟩ htv (by omega) hR
          simp only [List.length_nil, Nat.zero_add] at g2
          have hn0 : ∀ H : Heap, wNilsl (some 5) H = some (.sl (some 5) H.length 0 0 0, H ++ [.arr (some 5) [] false]) := fun H => w_nilsl (sh := some 5) (by decide)
          have hkr : ∀ b ∈ m, 0 ≤ b.1 ∧ b.1 ≤ 1099511627776 := fun b hb => by
            have hM := pmt_mt p (valid_fits hpv) t [] m ⟨by simp [Srt'], by simp⟩ htv (by omega) hR
            have := (hM.keys b.1).1 (List.mem_map.2 ⟨b, hb, rfl⟩)
            simp only [List.map_nil, List.not_mem_nil, false_or] at this
            exact occ_rng (valid_fits hpv) b.1 this
          simp -dsimp -implicitDefEqProofs only [g7, c7r0, c7r1, c7r2, c7k3, c7r4, c7r5, c7r6, c7r7, c7r8, c7k9, c7k10, c7r11, c7r12, c7r13, c7k14, c7r15, c7r16, c7r17, c7k18, c7r19, c7r20, c7r21, c7k22, c7r23, c7r24, c7k25, c7k26, c7r27, c7b28, c7k29, c7r30, c7r31, c7r32, c7k33, c7r34, c7k35, c7r36, c7k38, c7r39, c7r40, c7, go_sem, seval, ↓reduceIte, ints_len, hc, hn0]
          refine W_for (α := Unit) m.length (fun _ _ => True) (fun i _ => ⟨[(4, .ptr 0 0), (5, .ptr 1 0), (11, .pv none (.sl (some 5) (bds m))), (13, .ptr 4 0), (17, .sl (some 5) 6 i 0 i), (18, .pv none (.int .i64 i))], [.box (some 4) (.pv (some 4) p.pv), .box (some 4) (.pv (some 4) t.pv), .box (some 4) (.pv (some 4) u.pv), .arr (some 4) [] false, .box (some 4) (.pv (some 4) (shf 549755813888 p).pv), .arr (some 4) [] false, .arr (some 5) (bds (mvd 549755813888 (m.take i))) false]⟩) () ⟨trivial, rfl⟩ ?_ ?_
          · rintro i - h -
            have hc : (i : Int) < (m.length : Int) := by omega
            obtain ⟨b, hb⟩ : ∃ b, m[i]? = some b := ⟨_, List.getElem?_eq_getElem h⟩
            obtain ⟨q1, q2⟩ := hkr b (List.mem_of_getElem? hb)
            have w2 : IntKind.i64.wrap ((i : Int) + 1) = ((i + 1 : Nat) : Int) := by rw [wrap64 (by omega) (by omega)]; omega
            have w3 : IntKind.i64.wrap (b.1 + 549755813888) = b.1 + 549755813888 := wrap64 (by omega) (by omega)
            have hbd : sBuild [(none, .pv none (.int .i64 0)), (some 4, .agg [(none, .pv none (.int .i64 0)), (none, .pv none (.int .i64 0)), (none, .pv none (.str [])), (none, .tsl (some 4) [])])] [0, 1] [.pv none (.int .i64 (b.1 + 549755813888)), .pv (some 4) b.2.pv] = some (.pv (some 5) (bdp (b.1 + 549755813888, b.2))) := rfl
            have hl6 : (bds (mvd 549755813888 (m.take i))).length = i := by rw [bds_len]; unfold mvd; rw [List.length_map, List.length_take]; omega
            have hlim : i + 1 ≤ lim := by unfold lim; omega
            have hsn : bds (mvd 549755813888 (m.take i)) ++ [bdp (b.1 + 549755813888, b.2)] = bds (mvd 549755813888 (m.take (i + 1))) := by
              rw [take_snoc hb]; simp [bds, mvd]
            simp -dsimp -implicitDefEqProofs only [g7, c7r0, c7r1, c7r2, c7k3, c7r4, c7r5, c7r6, c7r7, c7r8, c7k9, c7k10, c7r11, c7r12, c7r13, c7k14, c7r15, c7r16, c7r17, c7k18, c7r19, c7r20, c7r21, c7k22, c7r23, c7r24, c7k25, c7k26, c7r27, c7b28, c7k29, c7r30, c7r31, c7r32, c7k33, c7r34, c7k35, c7r36, c7b37, c7k38, c7r39, c7r40, c7, go_sem, seval, ↓reduceIte, bds_len, hc, s_iaddr_pv (bds_get hb), part_var, part_to, w2, w3, hbd, hl6, hlim, hsn]
            exact ⟨(), rfl⟩
          · rintro - -
            have hc : ¬ (m.length : Int) < (m.length : Int) := by omega
            have htk : m.take m.length = m := List.take_length
            have hml : (mvd 549755813888 m).length = m.length := by unfold mvd; rw [List.length_map]
            have hrR : rsR (mvd 549755813888 m) (shf 549755813888 p) = (t, 0) := by
              unfold rsR
              rw [if_pos ⟨okb_iff.2 k2, k3⟩, k4, if_pos hts]
            have hres : ∀ X0 X1 X2 X3 X4 X5 : AObj, S 22 [.sl (some 5) 6 m.length 0 m.length, .pv (some 4) (shf 549755813888 p).pv] [X0, X1, X2, X3, X4, X5, AObj.arr (some 5) (bds (mvd 549755813888 m)) false] = some (.ret (.tuple [.pv (some 4) t.pv, .pv none (.int .i64 0)]), [X0, X1, X2, X3, X4, X5, AObj.arr (some 5) (bds (mvd 549755813888 m)) true]) := fun X0 X1 X2 X3 X4 X5 => by
              have q := rresolve_ok (mvd 549755813888 m) (shf 549755813888 p) (by omega) (fun b hb => (k2.good.2 b hb).2) (by have := valid_size k3; omega) []
              rw [hrR] at q
              have z1 : AV.freeze deep (.sl (some 5) 6 m.length 0 m.length) [X0, X1, X2, X3, X4, X5, AObj.arr (some 5) (bds (mvd 549755813888 m)) false] = some (.sl (some 5) (bds (mvd 549755813888 m)), [X0, X1, X2, X3, X4, X5, AObj.arr (some 5) (bds (mvd 549755813888 m)) true]) := by
                simp [AV.freeze, deep, bds_len, hml]
              have z2 : ∀ H : Heap, AV.freeze deep (.pv (some 4) (shf 549755813888 p).pv) H = some ((shf 549755813888 p).pv, H) := fun _ => rfl
              have := sem_any (F := find tab) (prim := prim) (f := 22) (args := [.sl (some 5) 6 m.length 0 m.length, .pv (some 4) (shf 549755813888 p).pv]) (ps := [(none, .sl (some 5) (bds (mvd 549755813888 m))), (some 4, (shf 549755813888 p).pv)]) (hp := [X0, X1, X2, X3, X4, X5, AObj.arr (some 5) (bds (mvd 549755813888 m)) false]) (hp1 := [X0, X1, X2, X3, X4, X5, AObj.arr (some 5) (bds (mvd 549755813888 m)) true]) rfl rfl rfl (by simp only [freezeAll, z1, z2]; rfl) q
              rw [scalar_tm2, cond_false] at this
              exact this
            have hsame := fun hp => rsame_ok t t hp (by omega) (by omega)
            rw [same_self htv] at hsame
            simp only [Tm.av] at hsame
            rw [htk]
            simp -dsimp -implicitDefEqProofs only [g7, c7r0, c7r1, c7r2, c7k3, c7r4, c7r5, c7r6, c7r7, c7r8, c7k9, c7k10, c7r11, c7r12, c7r13, c7k14, c7r15, c7r16, c7r17, c7k18, c7r19, c7r20, c7r21, c7k22, c7r23, c7r24, c7k25, c7k26, c7r27, c7b28, c7k29, c7r30, c7r31, c7r32, c7k33, c7r34, c7k35, c7r36, c7b37, c7k38, c7r39, c7r40, c7, go_sem, seval, ↓reduceIte, bds_len, hc, hres, w_alloc_agg, h10, ints_len, k1.symm, hsame, haw]
  · cases hR : pmt p t [] with
    | none =>
      rw [hR] at h7
      simp only [Option.isSome_none, Option.getD_none] at h7
      simp -dsimp -implicitDefEqProofs only [g7, c7r0, c7r1, c7r2, c7k3, c7r4, c7r5, c7r6, c7r7, c7r8, c7k9, c7k10, c7r11, c7r12, c7r13, c7k14, c7r15, c7r16, c7r17, c7k18, c7r19, c7r20, c7r21, c7k22, c7r23, c7r24, c7k25, c7k26, c7r27, c7b28, c7k29, c7r30, c7r31, c7r32, c7k33, c7r34, c7k35, c7r36, c7b37, c7k38, c7r39, c7r40, c7, go_sem, seval, ↓reduceIte, h1, h2, h3, h4, h5, h6, h7, he, hpv, htv, haw, bds_len, w_alloc_agg, w_store_agg (Nat.zero_le _)]
    | some m =>
      rw [hR] at h7
      simp only [Option.isSome_some, Option.getD_some] at h7
      by_cases hren : ∀ w ∈ p.occ, w + 549755813888 ≤ 1099511627776
      rotate_left
      · simp only [if_neg hren] at h8
        simp -dsimp -implicitDefEqProofs only [g7, c7r0, c7r1, c7r2, c7k3, c7r4, c7r5, c7r6, c7r7, c7r8, c7k9, c7k10, c7r11, c7r12, c7r13, c7k14, c7r15, c7r16, c7r17, c7k18, c7r19, c7r20, c7r21, c7k22, c7r23, c7r24, c7k25, c7k26, c7r27, c7b28, c7k29, c7r30, c7r31, c7r32, c7k33, c7r34, c7k35, c7r36, c7b37, c7k38, c7r39, c7r40, c7, go_sem, seval, ↓reduceIte, h1, h2, h3, h4, h5, h6, h7, h8, he, hpv, htv, haw, bds_len, zt, Tm.av, w_alloc_agg, w_store_agg (Nat.zero_le _)]
      · simp only [if_pos hren] at h8
        simp -dsimp -implicitDefEqProofs only [g7, c7r0, c7r1, c7r2, c7k3, c7r4, c7r5, c7r6, c7r7, c7r8, c7k9, c7k10, c7r11, c7r12, c7r13, c7k14, c7r15, c7r16, c7r17, c7k18, c7r19, c7r20, c7r21, c7k22, c7r23, c7r24, c7k25, c7k26, c7r27, c7k29, c7r30, c7r31, c7r32, c7k33, c7r34, c7k35, c7r36, c7k38, c7r39, c7r40, c7, go_sem, seval, ↓reduceIte, h1, h2, h3, h4, h5, h6, h7, h8, h9, he, hpv, htv, haw, bds_len, Tm.av, w_alloc_agg, w_store_agg (Nat.zero_le _)]
        refine W_for (α := Unit) (vads [] t.occ).length (fun i _ => ∀ j, j < i → ∀ x, (vads [] t.occ)[j]? = some x → x < 549755813888) (fun i _ => ⟨[(4, .ptr 0 0), (5, .ptr 1 0), (11, .pv none (.sl (some 5) (bds m))), (13, .ptr 4 0), (15, .pv none (.sl none (ints (vads [] t.occ)))), (16, .pv none (.int .i64 i))], [.box (some 4) (.pv (some 4) p.pv), .box (some 4) (.pv (some 4) t.pv), .box (some 4) (.pv (some 4) u.pv), .arr (some 4) [] false, .box (some 4) (.pv (some 4) (shf 549755813888 p).pv), .arr (some 4) [] false]⟩) () ⟨fun j hj => by omega, rfl⟩ ?_ ?_
        · rintro i - h hinv
          have hc : (i : Int) < ((vads [] t.occ).length : Int) := by omega
          obtain ⟨x, hx⟩ : ∃ x, (vads [] t.occ)[i]? = some x := ⟨_, List.getElem?_eq_getElem h⟩
          have hvl := vads_len t.occ []
          have hol := t.occ_len
          rw [List.length_nil, Nat.zero_add] at hvl
          have w2 : IntKind.i64.wrap ((i : Int) + 1) = ((i + 1 : Nat) : Int) := by rw [wrap64 (by omega) (by omega)]; omega
          by_cases hbig : 549755813888 ≤ x
          · simp -dsimp -implicitDefEqProofs only [g7, c7r0, c7r1, c7r2, c7k3, c7r4, c7r5, c7r6, c7r7, c7r8, c7k9, c7k10, c7r11, c7r12, c7r13, c7k14, c7r15, c7r16, c7r17, c7k18, c7r19, c7r20, c7r21, c7k22, c7r23, c7r24, c7k25, c7k26, c7r27, c7b28, c7k29, c7r30, c7r31, c7r32, c7k33, c7r34, c7k35, c7r36, c7k38, c7r39, c7r40, c7, go_sem, seval, ↓reduceIte, ints_len, hc, s_iaddr_pv (ints_get hx), hbig, haw]
          · simp -dsimp -implicitDefEqProofs only [g7, c7r0, c7r1, c7r2, c7k3, c7r4, c7r5, c7r6, c7r7, c7r8, c7k9, c7k10, c7r11, c7r12, c7r13, c7k14, c7r15, c7r16, c7r17, c7k18, c7r19, c7r20, c7r21, c7k22, c7r23, c7r24, c7k25, c7k26, c7r27, c7b28, c7k29, c7r30, c7r31, c7r32, c7k33, c7r34, c7k35, c7r36, c7k38, c7r39, c7r40, c7, go_sem, seval, ↓reduceIte, ints_len, hc, s_iaddr_pv (ints_get hx), hbig, w2]
            refine ⟨(), fun j hj y hy => ?_, rfl⟩
            rcases Nat.lt_or_ge j i with h | h
            · exact hinv j h y hy
            · have : j = i := by omega
              subst this
              rw [hx] at hy
              cases hy
              omega
        · rintro - hinv
          have hc : ¬ ((vads [] t.occ).length : Int) < ((vads [] t.occ).length : Int) := by omega
          have hfar : ∀ w ∈ t.occ, w < 549755813888 := fun w hw => by
            have hm : w ∈ vads [] t.occ := (vads_mem t.occ [] w).2 (.inr hw)
            obtain ⟨j, hj, rfl⟩ := List.getElem_of_mem hm
            exact hinv j hj _ (List.getElem?_eq_getElem hj)
          obtain ⟨k1, k2, k3, k4⟩ := matched_law (by decide) hpv htv hR hren hfar
          obtain ⟨g1, g2⟩ := pmt_good p t [] m ⟨by simp [Srt'], by simp⟩ htv (by omega) hR
          simp only [List.length_nil, Nat.zero_add] at g2
          have hn0 : ∀ H : Heap, wNilsl (some 5) H = some (.sl (some 5) H.length 0 0 0, H ++ [.arr (some 5) [] false]) := fun H => w_nilsl (sh := some 5) (by decide)
          have hkr : ∀ b ∈ m, 0 ≤ b.1 ∧ b.1 ≤ 1099511627776 := fun b hb => by
            have hM := pmt_mt p (valid_fits hpv) t [] m ⟨by simp [Srt'], by simp⟩ htv (by omega) hR
            have := (hM.keys b.1).1 (List.mem_map.2 ⟨b, hb, rfl⟩)
            simp only [List.map_nil, List.not_mem_nil, false_or] at this
            exact occ_rng (valid_fits hpv) b.1 this
          simp -dsimp -implicitDefEqProofs only [g7, c7r0, c7r1, c7r2, c7k3, c7r4, c7r5, c7r6, c7r7, c7r8, c7k9, c7k10, c7r11, c7r12, c7r13, c7k14, c7r15, c7r16, c7r17, c7k18, c7r19, c7r20, c7r21, c7k22, c7r23, c7r24, c7k25, c7k26, c7r27, c7b28, c7k29, c7r30, c7r31, c7r32, c7k33, c7r34, c7k35, c7r36, c7k38, c7r39, c7r40, c7, go_sem, seval, ↓reduceIte, ints_len, hc, hn0]
          refine W_for (α := Unit) m.length (fun _ _ => True) (fun i _ => ⟨[(4, .ptr 0 0), (5, .ptr 1 0), (11, .pv none (.sl (some 5) (bds m))), (13, .ptr 4 0), (17, .sl (some 5) 6 i 0 i), (18, .pv none (.int .i64 i))], [.box (some 4) (.pv (some 4) p.pv), .box (some 4) (.pv (some 4) t.pv), .box (some 4) (.pv (some 4) u.pv), .arr (some 4) [] false, .box (some 4) (.pv (some 4) (shf 549755813888 p).pv), .arr (some 4) [] false, .arr (some 5) (bds (mvd 549755813888 (m.take i))) false]⟩) () ⟨trivial, rfl⟩ ?_ ?_
          · rintro i - h -
            have hc : (i : Int) < (m.length : Int) := by omega
            obtain ⟨b, hb⟩ : ∃ b, m[i]? = some b := ⟨_, List.getElem?_eq_getElem h⟩
            obtain ⟨q1, q2⟩ := hkr b (List.mem_of_getElem? hb)
            have w2 : IntKind.i64.wrap ((i : Int) + 1) = ((i + 1 : Nat) : Int) := by rw [wrap64 (by omega) (by omega)]; omega
            have w3 : IntKind.i64.wrap (b.1 + 549755813888) = b.1 + 549755813888 := wrap64 (by omega) (by omega)
            have hbd : sBuild [(none, .pv none (.int .i64 0)), (some 4, .agg [(none, .pv none (.int .i64 0)), (none, .pv none (.int .i64 0)), (none, .pv none (.str [])), (none, .tsl (some 4) [])])] [0, 1] [.pv none (.int .i64 (b.1 + 549755813888)), .pv (some 4) b.2.pv] = some (.pv (some 5) (bdp (b.1 + 549755813888, b.2))) := rfl
            have hl6 : (bds (mvd 549755813888 (m.take i))).length = i := by rw [bds_len]; unfold mvd; rw [List.length_map, List.length_take]; omega
            have hlim : i + 1 ≤ lim := by unfold lim; omega
            have hsn : bds (mvd 549755813888 (m.take i)) ++ [bdp (b.1 + 549755813888, b.2)] = bds (mvd 549755813888 (m.take (i + 1))) := by
              rw [take_snoc hb]; simp [bds, mvd]
            simp -dsimp -implicitDefEqProofs only [g7, c7r0, c7r1, c7r2, c7k3, c7r4, c7r5, c7r6, c7r7, c7r8, c7k9, c7k10, c7r11, c7r12, c7r13, c7k14, c7r15, c7r16, c7r17, c7k18, c7r19, c7r20, c7r21, c7k22, c7r23, c7r24, c7k25, c7k26, c7r27, c7b28, c7k29, c7r30, c7r31, c7r32, c7k33, c7r34, c7k35, c7r36, c7b37, c7k38, c7r39, c7r40, c7, go_sem, seval, ↓reduceIte, bds_len, hc, s_iaddr_pv (bds_get hb), part_var, part_to, w2, w3, hbd, hl6, hlim, hsn]
            exact ⟨(), rfl⟩
          · rintro - -
            have hc : ¬ (m.length : Int) < (m.length : Int) := by omega
            have htk : m.take m.length = m := List.take_length
            have hml : (mvd 549755813888 m).length = m.length := by unfold mvd; rw [List.length_map]
            have hrR : rsR (mvd 549755813888 m) (shf 549755813888 p) = (t, 0) := by
              unfold rsR
              rw [if_pos ⟨okb_iff.2 k2, k3⟩, k4, if_pos hts]
            have hres : ∀ X0 X1 X2 X3 X4 X5 : AObj, S 22 [.sl (some 5) 6 m.length 0 m.length, .pv (some 4) (shf 549755813888 p).pv] [X0, X1, X2, X3, X4, X5, AObj.arr (some 5) (bds (mvd 549755813888 m)) false] = some (.ret (.tuple [.pv (some 4) t.pv, .pv none (.int .i64 0)]), [X0, X1, X2, X3, X4, X5, AObj.arr (some 5) (bds (mvd 549755813888 m)) true]) := fun X0 X1 X2 X3 X4 X5 => by
              have q := rresolve_ok (mvd 549755813888 m) (shf 549755813888 p) (by omega) (fun b hb => (k2.good.2 b hb).2) (by have := valid_size k3; omega) []
              rw [hrR] at q
              have z1 : AV.freeze deep (.sl (some 5) 6 m.length 0 m.length) [X0, X1, X2, X3, X4, X5, AObj.arr (some 5) (bds (mvd 549755813888 m)) false] = some (.sl (some 5) (bds (mvd 549755813888 m)), [X0, X1, X2, X3, X4, X5, AObj.arr (some 5) (bds (mvd 549755813888 m)) true]) := by
                simp [AV.freeze, deep, bds_len, hml]
              have z2 : ∀ H : Heap, AV.freeze deep (.pv (some 4) (shf 549755813888 p).pv) H = some ((shf 549755813888 p).pv, H) := fun _ => rfl
              have := sem_any (F := find tab) (prim := prim) (f := 22) (args := [.sl (some 5) 6 m.length 0 m.length, .pv (some 4) (shf 549755813888 p).pv]) (ps := [(none, .sl (some 5) (bds (mvd 549755813888 m))), (some 4, (shf 549755813888 p).pv)]) (hp := [X0, X1, X2, X3, X4, X5, AObj.arr (some 5) (bds (mvd 549755813888 m)) false]) (hp1 := [X0, X1, X2, X3, X4, X5, AObj.arr (some 5) (bds (mvd 549755813888 m)) true]) rfl rfl rfl (by simp only [freezeAll, z1, z2]; rfl) q
              rw [scalar_tm2, cond_false] at this
              exact this
            have hsame := fun hp => rsame_ok t t hp (by omega) (by omega)
            rw [same_self htv] at hsame
            simp only [Tm.av] at hsame
            rw [htk]
            simp -dsimp -implicitDefEqProofs only [g7, c7r0, c7r1, c7r2, c7k3, c7r4, c7r5, c7r6, c7r7, c7r8, c7k9, c7k10, c7r11, c7r12, c7r13, c7k14, c7r15, c7r16, c7r17, c7k18, c7r19, c7r20, c7r21, c7k22, c7r23, c7r24, c7k25, c7k26, c7r27, c7b28, c7k29, c7r30, c7r31, c7r32, c7k33, c7r34, c7k35, c7r36, c7b37, c7k38, c7r39, c7r40, c7, go_sem, seval, ↓reduceIte, bds_len, hc, hres, w_alloc_agg, h10, ints_len, k1.symm, hsame, haw]
set_option maxRecDepth 100000 in
theorem substMatched_lifted (os : Os) (started : os.Started) (H : Type) (enc : TypeId × Value → H) (F : Stop.Interp) :
    ReturnsInHanded {} Try.checked os 7 .any ((Rows.OpenSpec.upto Rows.substMatchedSpec).pre6 enc Try.prog Try.f7 Rows.substMatchedUptoRow.domain false) (((Rows.OpenSpec.upto Rows.substMatchedSpec).at F).post enc Try.prog Try.f7 false true false false) := by
  refine returnsInHanded_of_cond (C := Try.checked) (s := (Rows.OpenSpec.upto Rows.substMatchedSpec)) (k := Rows.uptoSmall) rfl Try.own started (by kernel_rfl) Try.func7
    (OpenSpec.witness (enc := enc) (C := Try.checked) (s := (Rows.OpenSpec.upto Rows.substMatchedSpec)) (k := Rows.uptoSmall) rfl false ⟨#[], #[.slice none 0 0, .agg #[.int .i64 0, .int .i64 0, .string ⟨#[]⟩, .slice none 0 0], .agg #[.int .i64 0, .int .i64 0, .string ⟨#[]⟩, .slice none 0 0]], []⟩ 8 (by kernel_rfl) (by kernel_rfl) (by kernel_rfl)
      (x := ([.nil, .agg [.lit (.int .i64 0), .lit (.int .i64 0), .lit (.string []), .nil], .agg [.lit (.int .i64 0), .lit (.int .i64 0), .lit (.string []), .nil]], [], [])) (by kernel_rfl) rfl (by kernel_rfl)) ?_
  intro W base args ds gs before hval0 hW _ hk _
  have hval : ∀ (j : Nat) t v, Try.f7.params[j]? = some t → args[j]? = some v → Value.okWide Try.prog W .any base t v := hval0
  have hb := bulk_bound hk
  have hW' := hW
  obtain ⟨p, q, hA0, hV, rfl, hfz, hnd⟩ := hW
  have hA : DataW.TrodAll enc Try.prog W 0 (fun _ => true) true Try.f7.params.toList args.toList ds p := hA0
  rw [Try.params7] at hA hval
  clear hA0 hval0
  obtain ⟨v0, vs0, d0, ds0, p0, q0, e0, rfl, rfl, h0, r0'⟩ := trodAll_cons hA
  obtain ⟨v1, vs1, d1, ds1, p1, q1, e1, rfl, rfl, h1, r1'⟩ := trodAll_cons r0'
  obtain ⟨v2, vs2, d2, ds2, p2, q2, e2, rfl, rfl, h2, r2'⟩ := trodAll_cons r1'
  obtain ⟨e3, rfl, rfl⟩ := trodAll_nil r2'
  subst e3
  subst e2
  subst e1
  obtain rfl : args = #[v0, v1, v2] := by cases args; simp_all
  obtain ⟨rfl, rfl⟩ := trodVars_none hV
  obtain ⟨t0, a0, z0⟩ := open_binds h0 (hval 0 _ v0 rfl rfl)
  obtain ⟨t1, a1, z1, r1⟩ := open_term h1 (hval 1 _ v1 rfl rfl)
  obtain ⟨t2, a2, z2, r2⟩ := open_term h2 (hval 2 _ v2 rfl rfl)
  simp only [Rows.uptoBulkAll, List.append_nil] at hb
  exact law_contract sound Try.func7 (by kernel_rfl) Try.laidOut (s := Rows.substMatchedSpec) rfl rfl hW' (.cons a0 (.cons a1 (.cons a2 (.nil)))) (substMatched_sem t0 t1 t2 (by have := z0.1; omega) (fun b hb => by have := z0.2 b hb; omega) (by omega) (by omega))
theorem substMatched_holds : Rows.SubstMatchedUptoSaid :=
  OpenClaim.holds_of_cond 7 Try.f7 rfl rfl rfl rfl rfl rfl rfl ⟨rfl, rfl, rfl, rfl, rfl⟩ rfl rfl rfl rfl rfl (by kernel_rfl) Try.func7 (by kernel_rfl)
    (of_decide_eq_true (by kernel_rfl)) (by unfold Func.isWrapper; first | (rw [if_pos (by decide +kernel)]; kernel_rfl) | (rw [if_neg (by decide +kernel)]; exact ⟨rfl, rfl⟩))
    (fun os started H enc _ F => substMatched_lifted os started H enc F)
end Go.Proofs.Ytenkiofpobeilaa
