/- What is proved: ChunkAlone answers true for every flat clause, where what it reads is of bulk at most 1048576. -/
import Derived.Test.YtmajapjbogmefaaPerms
import Derived.Test.YtmajapjbogmefaaSmall
import Derived.Test.YtmajapjbogmefaaData3
set_option linter.unusedSimpArgs false
set_option linter.unusedVariables false
namespace Go.Proofs.Ytmajapjbogmefaa
open Go.Am Go.ChangeShapes Go.WideShapes Go.ChangeAt Go.RowKit
/-- All calls but a last one left out. -/
def keepL : List Gl → List Gl
  | [] => []
  | [g] => [g]
  | g :: h :: r => if g.kind = 1 then keepL (h :: r) else g :: keepL (h :: r)
theorem keepL_sub : ∀ l : List Gl, (keepL l).Sublist l
  | [] => List.Sublist.slnil
  | [g] => List.Sublist.refl _
  | g :: h :: r => by
    unfold keepL
    split
    · exact (keepL_sub (h :: r)).cons _
    · exact (keepL_sub (h :: r)).cons_cons _
theorem keepL_chunk : ∀ l : List Gl, ∀ p ∈ plcsP 0 (keepL l), p.2 = 0
  | [], p, hp => by cases hp
  | [g], p, hp => by
    simp only [keepL, plcsP, List.append_nil] at hp
    exact hereP_all 0 g p hp
  | g :: h :: r, p, hp => by
    unfold keepL at hp
    split at hp
    · exact keepL_chunk (h :: r) p hp
    · rename_i hk
      rw [plcsP] at hp
      rcases List.mem_append.1 hp with hp | hp
      · exact hereP_all 0 g p hp
      · have : g.next 0 = 0 := by simp [Gl.next, hk]
        rw [this] at hp
        exact keepL_chunk (h :: r) p hp
theorem keepL_drop {l : List Gl} {i : Nat} {g : Gl} (h : l[i]? = some g) : keepL (l.drop i) = if g.kind ≠ 1 ∨ (i : Int) = (l.length : Int) - 1 then g :: keepL (l.drop (i + 1)) else keepL (l.drop (i + 1)) := by
  obtain ⟨h1, rfl⟩ := List.getElem?_eq_some_iff.1 h
  rw [List.drop_eq_getElem_cons h1]
  by_cases hl : (i : Int) = (l.length : Int) - 1
  · rw [if_pos (.inr hl), List.drop_of_length_le (by omega)]
    rfl
  · obtain ⟨y, r, hr⟩ : ∃ y r, l.drop (i + 1) = y :: r := ⟨_, _, List.drop_eq_getElem_cons (by omega)⟩
    rw [hr]
    conv => lhs; unfold keepL
    by_cases hk : l[i].kind = 1
    · rw [if_pos hk, if_neg (by rintro (h | h); exact h hk; exact hl h)]
    · rw [if_neg hk, if_pos (.inl hk)]
def alone (f : Fl) : Fl := ⟨f.pred, f.args, keepL f.goals⟩
theorem alone_perm (f : Fl) : permOf (sps (placesP (alone f))) = [] := by
  have hall : ∀ p ∈ placesP (alone f), p.2 = 0 := by
    intro p hp
    unfold placesP at hp
    rcases List.mem_append.1 hp with hp | hp
    · obtain ⟨_, _, rfl⟩ := List.mem_map.1 hp; rfl
    · exact keepL_chunk _ p hp
  apply List.eq_nil_iff_forall_not_mem.2
  intro v hv
  obtain ⟨hm, hw⟩ := (perm_mem _ _).1 hv
  have := sps_spec _ (placesP (alone f)) rfl (places_mono _) v
  unfold wide firstOf lastOf at hw
  cases hs : spFind v (sps (placesP (alone f))) with
  | none => rw [hs] at hw; simp at hw
  | some x =>
    rw [hs] at this hw
    obtain ⟨_, h2, h3, p, hp, _, h5⟩ := this
    have := hall p hp
    simp at hw
    omega
theorem szs_sub {s l : List Gl} (h : s.Sublist l) : PV.szs (Gl.pvs s) ≤ PV.szs (Gl.pvs l) := by
  induction h with
  | slnil => exact Nat.le_refl _
  | cons a _ ih => simp only [Gl.pvs, List.map_cons, PV.szs] at ih ⊢; omega
  | cons_cons a _ ih => simp only [Gl.pvs, List.map_cons, PV.szs] at ih ⊢; omega
theorem alone_sz (f : Fl) : (alone f).pv.sz ≤ f.pv.sz := by
  have := szs_sub (keepL_sub f.goals)
  simp only [Fl.pv, alone, PV.sz, PV.szc]
  omega
theorem alone_loop (f : Fl) (hlen : f.goals.length < 100000000) (r0 : Fr) (Q : AExit → St → Prop)
    (hQ : ∀ r : Fr, Q .normal ⟨(1, .ptr 0 0) :: (3, .sl (some 6) 1 (keepL f.goals).length 0 (keepL f.goals).length) :: r, [.box (some 5) (.pv (some 5) f.pv), .arr (some 6) (Gl.pvs (keepL f.goals)) false]⟩) :
    W Z L 0 c6k14 ⟨(1, .ptr 0 0) :: (3, .sl (some 6) 1 0 0 0) :: (4, .pv none (.int .i64 0)) :: r0, [.box (some 5) (.pv (some 5) f.pv), .arr (some 6) [] false]⟩ Q := by
  simp -dsimp -implicitDefEqProofs only [g6, c6r0, c6r1, c6r2, c6k3, c6r4, c6r5, c6r6, c6k7, c6r8, c6r9, c6k10, c6k11, c6r12, c6b13, c6k14, c6r15, c6r16, c6r17, c6, go_sem, seval, ↓reduceIte]
  refine W_for (α := List Gl) f.goals.length (fun i A => keepL f.goals = A ++ keepL (f.goals.drop i) ∧ A.length ≤ i)
    (fun i A => ⟨[(1, .ptr 0 0), (3, .sl (some 6) 1 A.length 0 A.length), (4, .pv none (.int .i64 i))], [.box (some 5) (.pv (some 5) f.pv), .arr (some 6) (Gl.pvs A) false]⟩) [] ⟨⟨rfl, Nat.le_refl _⟩, rfl⟩ ?_ ?_
  · rintro i A h ⟨hA, hAl⟩
    have hc : (i : Int) < (f.goals.length : Int) := by omega
    obtain ⟨g, hg⟩ : ∃ g, f.goals[i]? = some g := ⟨_, List.getElem?_eq_getElem h⟩
    have w2 : IntKind.i64.wrap ((i : Int) + 1) = ((i + 1 : Nat) : Int) := by rw [wrap64 (by omega) (by omega)]; omega
    have w5 : IntKind.i64.wrap ((f.goals.length : Int) - 1) = (f.goals.length : Int) - 1 := by rw [wrap64 (by omega) (by omega)]
    rw [keepL_drop hg] at hA
    have hap : ∀ (a0 : AObj) (e : Heap), wAppend (some 6) (a0 :: .arr (some 6) (Gl.pvs A) false :: e) [.sl (some 6) 1 A.length 0 A.length, .tsl (some 6) [g.pv]] = some (.sl (some 6) 1 (A.length + 1) 0 (A.length + 1), a0 :: .arr (some 6) (Gl.pvs A ++ [g.pv]) false :: e) := fun a0 e =>
      w_append_tsl (show okArr (some 6) A.length (some (.arr (some 6) (Gl.pvs A) false)) from ⟨rfl, Gl.pvs_len A⟩) (by simp [lim]; omega)
    have key1 : keepL f.goals = (A ++ [g]) ++ keepL (f.goals.drop (i + 1)) → ∃ a', (keepL f.goals = a' ++ keepL (f.goals.drop (i + 1)) ∧ a'.length ≤ i + 1) ∧ (⟨[(1, .ptr 0 0), (3, .sl (some 6) 1 (A.length + 1) 0 (A.length + 1)), (4, .pv none (.int .i64 ((i + 1 : Nat) : Int)))], collect 2 0 [(1, .ptr 0 0), (3, .sl (some 6) 1 (A.length + 1) 0 (A.length + 1)), (4, .pv none (.int .i64 ((i + 1 : Nat) : Int)))] [.box (some 5) (.pv (some 5) f.pv), .arr (some 6) (Gl.pvs A ++ [g.pv]) false]⟩ : St) = ⟨[(1, .ptr 0 0), (3, .sl (some 6) 1 a'.length 0 a'.length), (4, .pv none (.int .i64 ((i + 1 : Nat) : Int)))], [.box (some 5) (.pv (some 5) f.pv), .arr (some 6) (Gl.pvs a') false]⟩ := fun h1 =>
      ⟨A ++ [g], ⟨h1, by simp; omega⟩, by rw [collect_id (by rfl)]; simp [Gl.pvs]⟩
    by_cases hk : g.kind = 1
    · by_cases hl : (i : Int) = (f.goals.length : Int) - 1
      · have hl2 : ((i : Int) = (f.goals.length : Int) - 1) = True := eq_true hl
        rw [if_pos (.inr hl)] at hA
        simp -dsimp -implicitDefEqProofs only [g6, c6r0, c6r1, c6r2, c6k3, c6r4, c6r5, c6r6, c6k7, c6r8, c6r9, c6k10, c6k11, c6r12, c6b13, c6k14, c6r15, c6r16, c6r17, c6, go_sem, seval, ↓reduceIte, fl_goals, Gl.pvs_len, hc, s_iaddr_pv (Gl.pvs_get hg), gl_kind, hk, hl2, w5, hap, w2]
        exact key1 (by rw [hA]; simp)
      · rw [if_neg (by rintro (h | h); exact h hk; exact hl h)] at hA
        simp -dsimp -implicitDefEqProofs only [g6, c6r0, c6r1, c6r2, c6k3, c6r4, c6r5, c6r6, c6k7, c6r8, c6r9, c6k10, c6k11, c6r12, c6b13, c6k14, c6r15, c6r16, c6r17, c6, go_sem, seval, ↓reduceIte, fl_goals, Gl.pvs_len, hc, s_iaddr_pv (Gl.pvs_get hg), gl_kind, hk, hl, w5, hap, w2]
        exact ⟨A, ⟨hA, by omega⟩, rfl⟩
    · rw [if_pos (.inl hk)] at hA
      simp -dsimp -implicitDefEqProofs only [g6, c6r0, c6r1, c6r2, c6k3, c6r4, c6r5, c6r6, c6k7, c6r8, c6r9, c6k10, c6k11, c6r12, c6b13, c6k14, c6r15, c6r16, c6r17, c6, go_sem, seval, ↓reduceIte, fl_goals, Gl.pvs_len, hc, s_iaddr_pv (Gl.pvs_get hg), gl_kind, hk, w5, hap, w2]
      exact key1 (by rw [hA]; simp)
  · rintro A ⟨hA, hAl⟩
    have hc : ¬ (f.goals.length : Int) < (f.goals.length : Int) := by omega
    simp -dsimp -implicitDefEqProofs only [g6, c6r0, c6r1, c6r2, c6k3, c6r4, c6r5, c6r6, c6k7, c6r8, c6r9, c6k10, c6k11, c6r12, c6b13, c6k14, c6r15, c6r16, c6r17, c6, go_sem, seval, ↓reduceIte, fl_goals, Gl.pvs_len, hc]
    rw [List.drop_length, keepL, List.append_nil] at hA
    rw [← hA]
    exact hQ _
theorem chunkAlone_sem (f : Fl) (hf : f.pv.sz ≤ 1048576) : S 6 [f.av] [] = some (.ret (.pv none (.bool true)), []) := by
  refine sem_pure rfl rfl rfl (freezeAll_pvs [(some 5, f.pv)]) rfl ?_
  have b0 := alone_sz f
  have b1 := fl_args_sz (alone f)
  have b2 := fl_plcs_sz (alone f)
  have b3 := fl_len_sz (alone f)
  have b4 := fun g hg => fl_goal_sz (alone f) (g := g) hg
  have b5 : (placesP (alone f)).length ≤ 1048576 := by rw [← placesP_eq, List.length_map] at b2; omega
  have c3 := fl_len_sz f
  have h1 := small_ok f
  have h2 := awake_ok
  have h3 := of_ok (alone f) [] (by omega) (fun g hg => by have := b4 g hg; omega) (by omega) (by omega)
  have h4 := flatValid_ok (alone f) [] (by omega) (fun g hg => by have := b4 g hg; omega) (by omega)
  have hlp := alone_loop f (by omega)
  have hp := alone_perm f
  simp only [ofPV, hp] at h3
  simp only [Fl.av] at h1
  by_cases hs : Fl.small f = true
  · rw [hs] at h1
    have hnil : wNilsl (some 6) [.box (some 5) (.pv (some 5) f.pv)] = some (.sl (some 6) 1 0 0 0, [.box (some 5) (.pv (some 5) f.pv), .arr (some 6) [] false]) := rfl
    simp -dsimp -implicitDefEqProofs only [g6, c6r0, c6r1, c6r2, c6k3, c6r4, c6r5, c6r6, c6k7, c6r8, c6r9, c6k10, c6k11, c6r12, c6b13, c6r15, c6r16, c6r17, c6, go_sem, seval, ↓reduceIte, h1, h2, hnil]
    refine hlp _ _ (fun r => ?_)
    simp -dsimp -implicitDefEqProofs only [g6, c6r0, c6r1, c6r2, c6k3, c6r4, c6r5, c6r6, c6k7, c6r8, c6r9, c6k10, c6k11, c6r12, c6b13, c6r15, c6r16, c6r17, c6, go_sem, seval, ↓reduceIte, h1, h2]
    have hkl := Gl.pvs_len (keepL f.goals)
    obtain ⟨AG, hAG⟩ : ∃ AG : AV, AG = .agg [(some 3, .pv (some 3) f.pred.pv), (none, .pv none (.sl (some 4) (Tm.pvs f.args))), (none, .sl (some 6) 1 (keepL f.goals).length 0 (keepL f.goals).length)] := ⟨_, rfl⟩
    have hst : ∀ X : AObj, wStore none 0 [.box (some 5) (.pv (some 5) f.pv), X] [.ptr 0 4, .sl (some 6) 1 (keepL f.goals).length 0 (keepL f.goals).length] = some (.undef, [.box (some 5) AG, X]) := fun X => by rw [hAG]; rfl
    have hfz : ∀ (fz : Bool) (e : Heap), freezeAll [AG] (.box (some 5) AG :: .arr (some 6) (Gl.pvs (keepL f.goals)) fz :: e) = some ([(some 5, (alone f).pv)], .box (some 5) AG :: .arr (some 6) (Gl.pvs (keepL f.goals)) true :: e) := fun fz e => by
      rw [hAG]
      simp [freezeAll, deep, AV.freeze, AV.freeze.go, AV.shp, total, Sh.size, hkl, Fl.pv, alone]
    have k3 : ∀ (fz : Bool) (e : Heap), S 12 [AG] (.box (some 5) AG :: .arr (some 6) (Gl.pvs (keepL f.goals)) fz :: e) = _ := fun fz e => sem_any rfl rfl rfl (hfz fz e) h3
    have k4 : ∀ (fz : Bool) (e : Heap), S 15 [AG] (.box (some 5) AG :: .arr (some 6) (Gl.pvs (keepL f.goals)) fz :: e) = _ := fun fz e => sem_any rfl rfl rfl (hfz fz e) h4
    cases hv : (alone f).valid with
    | false =>
      simp only [hv, Bool.false_eq_true, if_false] at k3 k4
      simp -dsimp -implicitDefEqProofs only [g6, c6r0, c6r1, c6r2, c6k3, c6r4, c6r5, c6r6, c6k7, c6r8, c6r9, c6k10, c6k11, c6r12, c6b13, c6r15, c6r16, c6r17, c6, go_sem, seval, ↓reduceIte, h2, hst, k3, k4, ch_part1, show ints [] = [] from rfl, show (([] : List PV).length : Int) = 0 from rfl, show ((0 : Nat) : Int) = 0 from rfl, beq_self_eq_true, show ∀ A P B x, AV.scalar (.tuple [.pv (some 3) (chPV A P B), x]) = false from fun _ _ _ _ => rfl, show ∀ b, AV.scalar (.pv none (.bool b)) = true from fun _ => rfl]
    | true =>
      simp only [hv, if_true] at k3 k4
      simp -dsimp -implicitDefEqProofs only [g6, c6r0, c6r1, c6r2, c6k3, c6r4, c6r5, c6r6, c6k7, c6r8, c6r9, c6k10, c6k11, c6r12, c6b13, c6r15, c6r16, c6r17, c6, go_sem, seval, ↓reduceIte, h2, hst, k3, k4, ch_part1, show ints [] = [] from rfl, show (([] : List PV).length : Int) = 0 from rfl, show ((0 : Nat) : Int) = 0 from rfl, beq_self_eq_true, show ∀ A P B x, AV.scalar (.tuple [.pv (some 3) (chPV A P B), x]) = false from fun _ _ _ _ => rfl, show ∀ b, AV.scalar (.pv none (.bool b)) = true from fun _ => rfl]
  · rw [Bool.not_eq_true] at hs
    rw [hs] at h1
    simp -dsimp -implicitDefEqProofs only [g6, c6r0, c6r1, c6r2, c6k3, c6r4, c6r5, c6r6, c6k7, c6r8, c6r9, c6k10, c6k11, c6r12, c6b13, c6r15, c6r16, c6r17, c6, go_sem, seval, ↓reduceIte, h1, h2]
set_option maxRecDepth 100000 in
theorem chunkAlone_lifted (os : Os) (started : os.Started) (H : Type) (enc : TypeId × Value → H) (F : Stop.Interp) :
    ReturnsInHanded {} Try.checked os 6 .any ((Rows.OpenSpec.upto Rows.chunkAloneSpec).pre6 enc Try.prog Try.f6 Rows.chunkAloneUptoRow.domain false) (((Rows.OpenSpec.upto Rows.chunkAloneSpec).at F).post enc Try.prog Try.f6 false true false false) := by
  refine returnsInHanded_of_cond (C := Try.checked) (s := (Rows.OpenSpec.upto Rows.chunkAloneSpec)) (k := Rows.uptoSmall) rfl Try.own started (by kernel_rfl) Try.func6
    (OpenSpec.witness (enc := enc) (C := Try.checked) (s := (Rows.OpenSpec.upto Rows.chunkAloneSpec)) (k := Rows.uptoSmall) rfl false ⟨#[], #[.agg #[.string ⟨#[]⟩, .int .i64 0, .int .i64 0, .slice none 0 0, .slice none 0 0]], []⟩ 8 (by kernel_rfl) (by kernel_rfl) (by kernel_rfl)
      (x := ([.agg [.agg [.lit (.string []), .lit (.int .i64 0), .lit (.int .i64 0)], .nil, .nil]], [], [])) (by kernel_rfl) rfl (by kernel_rfl)) ?_
  intro W base args ds gs before hval0 hW _ hk _
  have hval : ∀ (j : Nat) t v, Try.f6.params[j]? = some t → args[j]? = some v → Value.okWide Try.prog W .any base t v := hval0
  have hb := bulk_bound hk
  have hW' := hW
  obtain ⟨p, q, hA0, hV, rfl, hfz, hnd⟩ := hW
  have hA : DataW.TrodAll enc Try.prog W 0 (fun _ => true) true Try.f6.params.toList args.toList ds p := hA0
  rw [Try.params6] at hA hval
  clear hA0 hval0
  obtain ⟨v0, vs0, d0, ds0, p0, q0, e0, rfl, rfl, h0, r0'⟩ := trodAll_cons hA
  obtain ⟨e1, rfl, rfl⟩ := trodAll_nil r0'
  subst e1
  obtain rfl : args = #[v0] := by cases args; simp_all
  obtain ⟨rfl, rfl⟩ := trodVars_none hV
  obtain ⟨t0, a0, z0⟩ := open_flat h0 (hval 0 _ v0 rfl rfl)
  simp only [Rows.uptoBulkAll, List.append_nil] at hb
  exact law_contract sound Try.func6 (by kernel_rfl) Try.laidOut (s := Rows.chunkAloneSpec) rfl rfl hW' (.cons a0 (.nil)) (chunkAlone_sem t0 (by omega))
theorem chunkAlone_holds : Rows.ChunkAloneUptoSaid :=
  OpenClaim.holds_of_cond 6 Try.f6 rfl rfl rfl rfl rfl rfl rfl ⟨rfl, rfl, rfl, rfl, rfl⟩ rfl rfl rfl rfl rfl (by kernel_rfl) Try.func6 (by kernel_rfl)
    (of_decide_eq_true (by kernel_rfl)) (by unfold Func.isWrapper; first | (rw [if_pos (by decide +kernel)]; kernel_rfl) | (rw [if_neg (by decide +kernel)]; exact ⟨rfl, rfl⟩))
    (fun os started H enc _ F => chunkAlone_lifted os started H enc F)
end Go.Proofs.Ytmajapjbogmefaa
