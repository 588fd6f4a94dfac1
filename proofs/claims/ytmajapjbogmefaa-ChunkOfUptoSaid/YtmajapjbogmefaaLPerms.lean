/- What is proved: ChunkPerms answers true for every flat clause and variable, where what it reads is of bulk at most 1048576. -/
import Derived.Test.YtmajapjbogmefaaPerms
import Derived.Test.YtmajapjbogmefaaSmall
import Derived.Test.YtmajapjbogmefaaData3
set_option linter.unusedSimpArgs false
set_option linter.unusedVariables false
namespace Go.Proofs.Ytmajapjbogmefaa
open Go.Am Go.ChangeShapes Go.WideShapes Go.ChangeAt Go.RowKit
def hP4 (f : Fl) (p : PV) : Heap := [.box (some 5) (.pv (some 5) f.pv), .box (some 3) (.pv (some 3) p), .arr none [] false, .arr none [] false, .arr none [] false]
theorem perms_loop1 (f : Fl) (v : Int) (P B : List Int) (hlen : f.goals.length < 100000000) (r0 : Fr) (Q : AExit → St → Prop)
    (hQ : ∀ r : Fr, Q .normal ⟨(1, .pv none (.int .i64 v)) :: (2, .ptr 0 0) :: (5, .ptr 1 0) :: r, hP4 f (chPV (ofsOf 0 f.goals) P B)⟩) :
    W Z L 0 c4k24 ⟨(1, .pv none (.int .i64 v)) :: (2, .ptr 0 0) :: (5, .ptr 1 0) :: (7, .pv none (.int .i64 0)) :: (8, .pv none (.int .i64 0)) :: r0, hP4 f (chPV (ofsOf 0 f.goals) P B)⟩ Q := by
  have hol := ofsOf_len f.goals 0
  simp -dsimp -implicitDefEqProofs only [g4, c4r0, c4r1, c4r2, c4k3, c4r4, c4r5, c4r6, c4k7, c4r8, c4r9, c4k10, c4r11, c4r12, c4r13, c4k14, c4r15, c4r16, c4k17, c4r18, c4r19, c4k20, c4k21, c4r22, c4b23, c4k24, c4r25, c4r26, c4r27, c4k28, c4r29, c4r30, c4k31, c4k32, c4r33, c4b34, c4k35, c4r36, c4r37, c4, go_sem, seval, ↓reduceIte]
  refine W_for (α := Int) f.goals.length (fun i c => 0 ≤ c ∧ c ≤ i ∧ (ofsOf 0 f.goals).drop i = ofsOf c (f.goals.drop i))
    (fun i c => ⟨[(1, .pv none (.int .i64 v)), (2, .ptr 0 0), (5, .ptr 1 0), (7, .pv none (.int .i64 c)), (8, .pv none (.int .i64 i))], hP4 f (chPV (ofsOf 0 f.goals) P B)⟩) 0 ⟨⟨Int.le_refl _, Int.le_refl _, rfl⟩, rfl⟩ ?_ ?_
  · rintro i c h ⟨hc0, hci, hO⟩
    have hc : (i : Int) < (f.goals.length : Int) := by omega
    obtain ⟨g, hg⟩ : ∃ g, f.goals[i]? = some g := ⟨_, List.getElem?_eq_getElem h⟩
    have w2 : IntKind.i64.wrap ((i : Int) + 1) = ((i + 1 : Nat) : Int) := by rw [wrap64 (by omega) (by omega)]; omega
    have w3 : IntKind.i64.wrap (c + 1) = c + 1 := by rw [wrap64 (by omega) (by omega)]
    rw [ofsOf_drop hg] at hO
    have hoi : (ofsOf 0 f.goals)[i]? = some c := by
      have := congrArg List.head? hO
      rwa [List.head?_drop, List.head?_cons] at this
    have hix := s_iaddr_pv (s := none) (s' := none) (k := .i64) (sh := none) (ints_get hoi)
    have hO2 : (ofsOf 0 f.goals).drop (i + 1) = ofsOf (g.next c) (f.goals.drop (i + 1)) := by
      rw [← List.drop_drop, hO]; rfl
    by_cases hk : g.kind = 1
    · rw [show g.next c = c + 1 by simp [Gl.next, hk]] at hO2
      simp -dsimp -implicitDefEqProofs only [g4, c4r0, c4r1, c4r2, c4k3, c4r4, c4r5, c4r6, c4k7, c4r8, c4r9, c4k10, c4r11, c4r12, c4r13, c4k14, c4r15, c4r16, c4k17, c4r18, c4r19, c4k20, c4k21, c4r22, c4b23, c4k24, c4r25, c4r26, c4r27, c4k28, c4r29, c4r30, c4k31, c4k32, c4r33, c4b34, c4k35, c4r36, c4r37, c4, go_sem, seval, ↓reduceIte, hP4, fl_goals, Gl.pvs_len, hc, s_iaddr_pv (Gl.pvs_get hg), gl_kind, hk, ch_part0, hix, w2, w3]
      refine ⟨c + 1, ⟨by omega, by omega, hO2⟩, ?_⟩
      rw [collect_id (by rfl)]
    · rw [show g.next c = c by simp [Gl.next, hk]] at hO2
      simp -dsimp -implicitDefEqProofs only [g4, c4r0, c4r1, c4r2, c4k3, c4r4, c4r5, c4r6, c4k7, c4r8, c4r9, c4k10, c4r11, c4r12, c4r13, c4k14, c4r15, c4r16, c4k17, c4r18, c4r19, c4k20, c4k21, c4r22, c4b23, c4k24, c4r25, c4r26, c4r27, c4k28, c4r29, c4r30, c4k31, c4k32, c4r33, c4b34, c4k35, c4r36, c4r37, c4, go_sem, seval, ↓reduceIte, hP4, fl_goals, Gl.pvs_len, hc, s_iaddr_pv (Gl.pvs_get hg), gl_kind, hk, ch_part0, hix, w2, w3]
      refine ⟨c, ⟨by omega, by omega, hO2⟩, ?_⟩
      rw [collect_id (by rfl)]
  · rintro c ⟨hc0, hci, hO⟩
    have hc : ¬ (f.goals.length : Int) < (f.goals.length : Int) := by omega
    simp -dsimp -implicitDefEqProofs only [g4, c4r0, c4r1, c4r2, c4k3, c4r4, c4r5, c4r6, c4k7, c4r8, c4r9, c4k10, c4r11, c4r12, c4r13, c4k14, c4r15, c4r16, c4k17, c4r18, c4r19, c4k20, c4k21, c4r22, c4b23, c4k24, c4r25, c4r26, c4r27, c4k28, c4r29, c4r30, c4k31, c4k32, c4r33, c4b34, c4k35, c4r36, c4r37, c4, go_sem, seval, ↓reduceIte, hP4, fl_goals, Gl.pvs_len, hc]
    exact hQ _
theorem perms_loop2 (f : Fl) (v : Int) (A P B : List Int) (hlen : P.length < 100000000) (r0 : Fr) (Q : AExit → St → Prop)
    (hQ : ∀ r : Fr, Q .normal ⟨(1, .pv none (.int .i64 v)) :: (2, .ptr 0 0) :: (5, .ptr 1 0) :: (9, .pv none (.int .i64 (countI v P))) :: r, hP4 f (chPV A P B)⟩) :
    W Z L 0 c4k35 ⟨(1, .pv none (.int .i64 v)) :: (2, .ptr 0 0) :: (5, .ptr 1 0) :: (9, .pv none (.int .i64 0)) :: (10, .pv none (.int .i64 0)) :: r0, hP4 f (chPV A P B)⟩ Q := by
  have hpl := ints_len P
  simp -dsimp -implicitDefEqProofs only [g4, c4r0, c4r1, c4r2, c4k3, c4r4, c4r5, c4r6, c4k7, c4r8, c4r9, c4k10, c4r11, c4r12, c4r13, c4k14, c4r15, c4r16, c4k17, c4r18, c4r19, c4k20, c4k21, c4r22, c4b23, c4k24, c4r25, c4r26, c4r27, c4k28, c4r29, c4r30, c4k31, c4k32, c4r33, c4b34, c4k35, c4r36, c4r37, c4, go_sem, seval, ↓reduceIte]
  refine W_for (α := Unit) P.length (fun i _ => True)
    (fun i _ => ⟨[(1, .pv none (.int .i64 v)), (2, .ptr 0 0), (5, .ptr 1 0), (9, .pv none (.int .i64 (countI v (P.take i)))), (10, .pv none (.int .i64 i))], hP4 f (chPV A P B)⟩) () ⟨trivial, rfl⟩ ?_ ?_
  · rintro i _ h _
    have hc : (i : Int) < (P.length : Int) := by omega
    obtain ⟨x, hx⟩ : ∃ x, P[i]? = some x := ⟨_, List.getElem?_eq_getElem h⟩
    have hle : countI v (P.take i) ≤ P.length := Nat.le_trans List.countP_le_length (by simp; omega)
    have w2 : IntKind.i64.wrap ((i : Int) + 1) = ((i + 1 : Nat) : Int) := by rw [wrap64 (by omega) (by omega)]; omega
    have w3 : IntKind.i64.wrap ((countI v (P.take i) : Int) + 1) = ((countI v (P.take i) + 1 : Nat) : Int) := by rw [wrap64 (by omega) (by omega)]; omega
    have hix := s_iaddr_pv (s := none) (s' := none) (k := .i64) (sh := none) (ints_get hx)
    have hct := countI_take (v := v) hx
    by_cases hk : x = v
    · rw [if_pos hk] at hct
      simp -dsimp -implicitDefEqProofs only [g4, c4r0, c4r1, c4r2, c4k3, c4r4, c4r5, c4r6, c4k7, c4r8, c4r9, c4k10, c4r11, c4r12, c4r13, c4k14, c4r15, c4r16, c4k17, c4r18, c4r19, c4k20, c4k21, c4r22, c4b23, c4k24, c4r25, c4r26, c4r27, c4k28, c4r29, c4r30, c4k31, c4k32, c4r33, c4b34, c4k35, c4r36, c4r37, c4, go_sem, seval, ↓reduceIte, hP4, hc, hk, ch_part1, hpl, hix, w2, w3]
      refine ⟨(), ?_⟩
      rw [collect_id (by rfl), hct]
    · rw [if_neg hk] at hct
      simp -dsimp -implicitDefEqProofs only [g4, c4r0, c4r1, c4r2, c4k3, c4r4, c4r5, c4r6, c4k7, c4r8, c4r9, c4k10, c4r11, c4r12, c4r13, c4k14, c4r15, c4r16, c4k17, c4r18, c4r19, c4k20, c4k21, c4r22, c4b23, c4k24, c4r25, c4r26, c4r27, c4k28, c4r29, c4r30, c4k31, c4k32, c4r33, c4b34, c4k35, c4r36, c4r37, c4, go_sem, seval, ↓reduceIte, hP4, hc, hk, ch_part1, hpl, hix, w2, w3]
      refine ⟨(), ?_⟩
      rw [collect_id (by rfl), hct]
      rfl
  · rintro _ _
    have hc : ¬ (P.length : Int) < (P.length : Int) := by omega
    simp -dsimp -implicitDefEqProofs only [g4, c4r0, c4r1, c4r2, c4k3, c4r4, c4r5, c4r6, c4k7, c4r8, c4r9, c4k10, c4r11, c4r12, c4r13, c4k14, c4r15, c4r16, c4k17, c4r18, c4r19, c4k20, c4k21, c4r22, c4b23, c4k24, c4r25, c4r26, c4r27, c4k28, c4r29, c4r30, c4k31, c4k32, c4r33, c4b34, c4k35, c4r36, c4r37, c4, go_sem, seval, ↓reduceIte, hP4, ch_part1, hpl, hc]
    rw [List.take_length]
    exact hQ _
theorem chunkPerms_sem (f : Fl) (v : Int) (hf : f.pv.sz ≤ 1048576) : S 4 [f.av, .pv none (.int .i64 v)] [] = some (.ret (.pv none (.bool true)), []) := by
  refine sem_pure rfl rfl rfl (freezeAll_pvs [(some 5, f.pv), (none, .int .i64 v)]) rfl ?_
  have b1 := fl_args_sz f
  have b2 := fl_plcs_sz f
  have b3 := fl_len_sz f
  have b4 := fun g hg => fl_goal_sz f (g := g) hg
  have b5 : (placesP f).length ≤ 1048576 := by rw [← placesP_eq, List.length_map] at b2; omega
  have b6 := perm_len f
  have h1 := small_ok f
  have h2 := awake_ok
  have h3 := fun hp => of_ok f hp (by omega) (fun g hg => by have := b4 g hg; omega) (by omega) (by omega)
  have h4 := fun hp => flatValid_ok f hp (by omega) (fun g hg => by have := b4 g hg; omega) (by omega)
  have h5 := fun hp => span_ok f v hp (by omega) (fun g hg => by have := b4 g hg; omega) (by omega)
  have hol := ofsOf_len f.goals 0
  have hgl := ints_len (ofsOf 0 f.goals)
  simp only [Fl.av] at h1 h3 h4 h5
  by_cases hs : Fl.small f = true
  · rw [hs] at h1
    cases hv : f.valid with
    | false =>
      simp only [hv, ofPV, Bool.false_eq_true, if_false] at h3 h4
      simp -dsimp -implicitDefEqProofs only [g4, c4r0, c4r1, c4r2, c4k3, c4r4, c4r5, c4r6, c4k7, c4r8, c4r9, c4k10, c4r11, c4r12, c4r13, c4k14, c4r15, c4r16, c4k17, c4r18, c4r19, c4k20, c4k21, c4r22, c4b23, c4r25, c4r26, c4r27, c4k28, c4r29, c4r30, c4k31, c4k32, c4r33, c4b34, c4r36, c4r37, c4, go_sem, seval, ↓reduceIte, h1, h2, h3, h4, ch_part0, ch_part1, ch_part2, show ints [] = [] from rfl, show (([] : List PV).length : Int) = 0 from rfl, show ((0 : Nat) : Int) = 0 from rfl]
    | true =>
      have hsp := span_perm hv v
      have hcn := countI_nodup (v := v) (perm_nodup _ (sps_nodup (placesP f)))
      have hl1 := fun P B => perms_loop1 f v P B (by omega)
      have hl2 := fun A B => perms_loop2 f v A (permOf (sps (placesP f))) B (by omega)
      simp only [hv, ofPV, if_true] at h3 h4
      generalize permOf (sps (placesP f)) = P at *
      generalize livesOf (sps (placesP f)) P 0 f.goals = B at *
      simp -dsimp -implicitDefEqProofs only [g4, c4r0, c4r1, c4r2, c4k3, c4r4, c4r5, c4r6, c4k7, c4r8, c4r9, c4k10, c4r11, c4r12, c4r13, c4k14, c4r15, c4r16, c4k17, c4r18, c4r19, c4k20, c4k21, c4r22, c4b23, c4r25, c4r26, c4r27, c4k28, c4r29, c4r30, c4k31, c4k32, c4r33, c4b34, c4r36, c4r37, c4, go_sem, seval, ↓reduceIte, h1, h2, h3, h4, ch_part0, fl_goals, Gl.pvs_len, hol, hgl]
      refine hl1 _ _ _ _ (fun r => ?_)
      simp -dsimp -implicitDefEqProofs only [g4, c4r0, c4r1, c4r2, c4k3, c4r4, c4r5, c4r6, c4k7, c4r8, c4r9, c4k10, c4r11, c4r12, c4r13, c4k14, c4r15, c4r16, c4k17, c4r18, c4r19, c4k20, c4k21, c4r22, c4b23, c4r25, c4r26, c4r27, c4k28, c4r29, c4r30, c4k31, c4k32, c4r33, c4b34, c4r36, c4r37, c4, go_sem, seval, ↓reduceIte]
      refine hl2 _ _ _ _ (fun r => ?_)
      by_cases hm : v ∈ P
      · rw [if_pos hm] at hcn
        have hne := hsp.1 hm
        rw [hcn]
        simp -dsimp -implicitDefEqProofs only [g4, c4r0, c4r1, c4r2, c4k3, c4r4, c4r5, c4r6, c4k7, c4r8, c4r9, c4k10, c4r11, c4r12, c4r13, c4k14, c4r15, c4r16, c4k17, c4r18, c4r19, c4k20, c4k21, c4r22, c4b23, c4r25, c4r26, c4r27, c4k28, c4r29, c4r30, c4k31, c4k32, c4r33, c4b34, c4r36, c4r37, c4, go_sem, seval, ↓reduceIte, hP4, ch_part0, h5, h2, hne, show ((1 : Nat) : Int) = 1 from rfl, beq_self_eq_true]
      · rw [if_neg hm] at hcn
        have hne : (spanF v f).1 = (spanF v f).2 := Classical.byContradiction fun h => hm (hsp.2 h)
        rw [hcn]
        simp -dsimp -implicitDefEqProofs only [g4, c4r0, c4r1, c4r2, c4k3, c4r4, c4r5, c4r6, c4k7, c4r8, c4r9, c4k10, c4r11, c4r12, c4r13, c4k14, c4r15, c4r16, c4k17, c4r18, c4r19, c4k20, c4k21, c4r22, c4b23, c4r25, c4r26, c4r27, c4k28, c4r29, c4r30, c4k31, c4k32, c4r33, c4b34, c4r36, c4r37, c4, go_sem, seval, ↓reduceIte, hP4, ch_part0, h5, h2, hne, show ((0 : Nat) : Int) = 0 from rfl, beq_self_eq_true]
  · clear b1 b2 b3 b4 b5 b6
    (repeat' (first | (simp -dsimp -implicitDefEqProofs only [g4, c4r0, c4r1, c4r2, c4k3, c4r4, c4r5, c4r6, c4k7, c4r8, c4r9, c4k10, c4r11, c4r12, c4r13, c4k14, c4r15, c4r16, c4k17, c4r18, c4r19, c4k20, c4k21, c4r22, c4b23, c4r25, c4r26, c4r27, c4k28, c4r29, c4r30, c4k31, c4k32, c4r33, c4b34, c4r36, c4r37, c4, go_sem, seval, ↓reduceIte, hs, *]) | (refine iteK_intro (fun _ => ?_) (fun _ => ?_))))
set_option maxRecDepth 100000 in
theorem chunkPerms_lifted (os : Os) (started : os.Started) (H : Type) (enc : TypeId × Value → H) (F : Stop.Interp) :
    ReturnsInHanded {} Try.checked os 4 .any ((Rows.OpenSpec.upto Rows.chunkPermsSpec).pre6 enc Try.prog Try.f4 Rows.chunkPermsUptoRow.domain false) (((Rows.OpenSpec.upto Rows.chunkPermsSpec).at F).post enc Try.prog Try.f4 false true false false) := by
  refine returnsInHanded_of_cond (C := Try.checked) (s := (Rows.OpenSpec.upto Rows.chunkPermsSpec)) (k := Rows.uptoSmall) rfl Try.own started (by kernel_rfl) Try.func4
    (OpenSpec.witness (enc := enc) (C := Try.checked) (s := (Rows.OpenSpec.upto Rows.chunkPermsSpec)) (k := Rows.uptoSmall) rfl false ⟨#[], #[.agg #[.string ⟨#[]⟩, .int .i64 0, .int .i64 0, .slice none 0 0, .slice none 0 0], .int .i64 0], []⟩ 8 (by kernel_rfl) (by kernel_rfl) (by kernel_rfl)
      (x := ([.agg [.agg [.lit (.string []), .lit (.int .i64 0), .lit (.int .i64 0)], .nil, .nil], .lit (.int .i64 0)], [], [])) (by kernel_rfl) rfl (by kernel_rfl)) ?_
  intro W base args ds gs before hval0 hW _ hk _
  have hval : ∀ (j : Nat) t v, Try.f4.params[j]? = some t → args[j]? = some v → Value.okWide Try.prog W .any base t v := hval0
  have hb := bulk_bound hk
  have hW' := hW
  obtain ⟨p, q, hA0, hV, rfl, hfz, hnd⟩ := hW
  have hA : DataW.TrodAll enc Try.prog W 0 (fun _ => true) true Try.f4.params.toList args.toList ds p := hA0
  rw [Try.params4] at hA hval
  clear hA0 hval0
  obtain ⟨v0, vs0, d0, ds0, p0, q0, e0, rfl, rfl, h0, r0'⟩ := trodAll_cons hA
  obtain ⟨v1, vs1, d1, ds1, p1, q1, e1, rfl, rfl, h1, r1'⟩ := trodAll_cons r0'
  obtain ⟨e2, rfl, rfl⟩ := trodAll_nil r1'
  subst e2
  subst e1
  obtain rfl : args = #[v0, v1] := by cases args; simp_all
  obtain ⟨rfl, rfl⟩ := trodVars_none hV
  obtain ⟨t0, a0, z0⟩ := open_flat h0 (hval 0 _ v0 rfl rfl)
  obtain ⟨t1, a1, r1⟩ := open_i64 h1 (hval 1 _ v1 rfl rfl)
  simp only [Rows.uptoBulkAll, List.append_nil] at hb
  exact law_contract sound Try.func4 (by kernel_rfl) Try.laidOut (s := Rows.chunkPermsSpec) rfl rfl hW' (.cons a0 (.cons a1 (.nil))) (chunkPerms_sem t0 t1 (by omega))
theorem chunkPerms_holds : Rows.ChunkPermsUptoSaid :=
  OpenClaim.holds_of_cond 4 Try.f4 rfl rfl rfl rfl rfl rfl rfl ⟨rfl, rfl, rfl, rfl, rfl⟩ rfl rfl rfl rfl rfl (by kernel_rfl) Try.func4 (by kernel_rfl)
    (of_decide_eq_true (by kernel_rfl)) (by unfold Func.isWrapper; first | (rw [if_pos (by decide +kernel)]; kernel_rfl) | (rw [if_neg (by decide +kernel)]; exact ⟨rfl, rfl⟩))
    (fun os started H enc _ F => chunkPerms_lifted os started H enc F)
end Go.Proofs.Ytmajapjbogmefaa
