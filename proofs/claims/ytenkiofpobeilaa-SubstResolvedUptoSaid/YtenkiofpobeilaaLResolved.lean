/- What is proved: SubstResolved answers true for all bindings, terms and variables, where what it reads is of bulk at most 1048576. -/
import Derived.Test.YtenkiofpobeilaaOc2
import Derived.Test.YtenkiofpobeilaaRun
import Derived.Test.YtenkiofpobeilaaData3
set_option linter.unusedSimpArgs false
set_option linter.unusedVariables false
namespace Go.Proofs.Ytenkiofpobeilaa
open Go.Am Go.ChangeShapes Go.WideShapes Go.ChangeAt Go.RowKit
theorem rs_unbound {l : List B} (hO : OKB l) : ∀ (k : Nat) (t : Tm), mu l t = k → t.fits = true → ∀ w ∈ (rs l t).occ, ¬ fndB l w = true := by
  intro k
  induction k using Nat.strongRecOn with
  | _ k ih =>
    intro t hk hv w hw
    by_cases hk0 : t.kind = 0
    · by_cases hf : fndB l t.n = true
      · rw [rs_var hO.Acyc hk0, if_pos hf] at hw
        have := mu_to hO.Acyc hk0 hf
        exact ih _ (by omega) _ rfl (valid_fits (hO.to hf).1) w hw
      · rw [rs_free hO.Acyc hv hk0 hf, Tm.occ_eq, if_pos hk0, List.mem_singleton] at hw
        rw [hw]
        exact hf
    · rw [rs_str l hk0, Tm.occ_eq, if_neg (by exact hk0)] at hw
      obtain ⟨u, hu, h⟩ := Tm.occs_inv hw
      obtain ⟨x, hx, rfl⟩ := List.mem_map.1 hu
      have := mu_arg l hk0 hx
      exact ih _ (by omega) x rfl (Tm.fits_arg hv hx) w h
theorem substResolved_sem (l : List B) (t : Tm) (v : Int) (hl : l.length ≤ 1048576) (hsz : ∀ b ∈ l, b.2.size ≤ 1048576) (ht : t.size ≤ 1048576) :
    S 8 [.pv none (.sl (some 5) (bds l)), t.av, .pv none (.int .i64 v)] [] = some (.ret (.pv none (.bool true)), []) := by
  refine sem_pure rfl rfl rfl (freezeAll_pvs [(none, .sl (some 5) (bds l)), (some 4, t.pv), (none, .int .i64 v)]) rfl ?_
  obtain ⟨lg, h1, hlg⟩ := long_ok l (by omega) fun b hb => by have := hsz b hb; omega
  have h2 := rvalidB_eq l (by omega) fun b hb => by have := hsz b hb; omega
  have h4 := fun hp0 => rvalid_ok t hp0 (by omega)
  have haw := fun hp0 => awake_all hp0 awake_ok
  simp only [Tm.av] at h4
  cases lg with
  | true => simp -dsimp -implicitDefEqProofs only [g8, c8r0, c8r1, c8r2, c8k3, c8r4, c8r5, c8r6, c8k7, c8r8, c8r9, c8r10, c8r11, c8r12, c8k13, c8r14, c8r15, c8r16, c8k17, c8k18, c8r19, c8b20, c8k21, c8r22, c8, go_sem, seval, ↓reduceIte, h1, haw]
  | false =>
  cases hok : okb l with
  | false =>
    rw [hok] at h2
    simp -dsimp -implicitDefEqProofs only [g8, c8r0, c8r1, c8r2, c8k3, c8r4, c8r5, c8r6, c8k7, c8r8, c8r9, c8r10, c8r11, c8r12, c8k13, c8r14, c8r15, c8r16, c8k17, c8k18, c8r19, c8b20, c8k21, c8r22, c8, go_sem, seval, ↓reduceIte, h1, h2, haw]
  | true =>
  rw [hok] at h2
  by_cases htv : t.valid = true
  rotate_left
  · have htv' : t.valid = false := by simpa using htv
    simp -dsimp -implicitDefEqProofs only [g8, c8r0, c8r1, c8r2, c8k3, c8r4, c8r5, c8r6, c8k7, c8r8, c8r9, c8r10, c8r11, c8r12, c8k13, c8r14, c8r15, c8r16, c8k17, c8k18, c8r19, c8b20, c8k21, c8r22, c8, go_sem, seval, ↓reduceIte, h1, h2, h4, htv', haw]
  have hO := okb_iff.1 hok
  have hts := valid_size htv
  have h5 := presolve_ok l t (by omega) (fun b hb => by have := hsz b hb; omega) (by omega)
  have e5 : rsR l t = if (rs l t).size ≤ 2000 then (rs l t, 0) else (zt, 2) := by unfold rsR; rw [if_pos ⟨hok, htv⟩]
  by_cases hs : (rs l t).size ≤ 2000
  rotate_left
  · rw [e5, if_neg hs] at h5
    simp only [Tm.av, zt] at h5
    simp -dsimp -implicitDefEqProofs only [g8, c8r0, c8r1, c8r2, c8k3, c8r4, c8r5, c8r6, c8k7, c8r8, c8r9, c8r10, c8r11, c8r12, c8k13, c8r14, c8r15, c8r16, c8k17, c8k18, c8r19, c8b20, c8k21, c8r22, c8, go_sem, seval, ↓reduceIte, h1, h2, h4, h5, htv, haw, w_alloc_agg, w_store_agg (Nat.zero_le _)]
  rw [e5, if_pos hs] at h5
  have hRv : (rs l t).valid = true := valid_of (rs_fits hO _ t rfl (valid_fits htv)) hs
  have hun := rs_unbound hO _ t rfl (valid_fits htv)
  have hRR : rs l (rs l t) = rs l t := rs_free_all hO.Acyc (valid_fits hRv) hun
  have e6 : rsR l (rs l t) = (rs l t, 0) := by unfold rsR; rw [if_pos ⟨hok, hRv⟩, hRR, if_pos hs]
  have h6 := presolve_ok l (rs l t) (by omega) (fun b hb => by have := hsz b hb; omega) (by omega)
  rw [e6] at h6
  have h7 := poccurs_ok l v t (by omega) (fun b hb => by have := hsz b hb; omega) (by omega)
  have h8 := fun hp0 => rVars_ok (rs l t) hp0 (by omega)
  rw [if_pos hRv] at h8
  have hfd := fun x => rfind_ok l x hO.good.1 (by omega)
  have hsame := fun hp => rsame_ok (rs l t) (rs l t) hp (by omega) (by omega)
  rw [same_self hRv] at hsame
  have hoc : occB l v t = decide (v ∈ vads [] (rs l t).occ) := by
    have hm : v ∈ vads [] (rs l t).occ ↔ v ∈ (rs l t).occ := by rw [vads_mem]; simp
    by_cases h : v ∈ (rs l t).occ
    · rw [occB_yes ⟨hok, htv, h⟩]; simp [hm, h]
    · rw [occB_no fun e => h e.2.2]; simp [hm, h]
  rw [hoc] at h7
  have hunv : ∀ x ∈ vads [] (rs l t).occ, ¬ fndB l x = true := fun x hx => hun x (by
    have := (vads_mem (rs l t).occ [] x).1 hx
    simpa using this)
  have hvl := vads_len (rs l t).occ []
  have hol := (rs l t).occ_len
  rw [List.length_nil, Nat.zero_add] at hvl
  simp only [Tm.av] at h5 h6 h7 h8 hsame
  generalize hL : vads [] (rs l t).occ = L at *
  generalize rs l t = R at *
  simp -dsimp -implicitDefEqProofs only [g8, c8r0, c8r1, c8r2, c8k3, c8r4, c8r5, c8r6, c8k7, c8r8, c8r9, c8r10, c8r11, c8r12, c8k13, c8r14, c8r15, c8r16, c8k17, c8k18, c8r19, c8k21, c8r22, c8, go_sem, seval, ↓reduceIte, h1, h2, h4, h5, h6, h8, htv, haw, w_alloc_agg, w_store_agg (Nat.zero_le _), ints_len]
  refine W_for (α := Unit) L.length (fun _ _ => True) (fun i _ => ⟨[(0, .pv none (.sl (some 5) (bds l))), (2, .pv none (.int .i64 v)), (4, .ptr 0 0), (7, .ptr 1 0), (9, .ptr 3 0), (10, .pv none (.int .i64 0)), (11, .pv none (.sl none (ints L))), (12, .pv none (.bool (decide (v ∈ L.take i)))), (13, .pv none (.int .i64 i))], [.box (some 4) (.pv (some 4) t.pv), .box (some 4) (.pv (some 4) R.pv), .arr (some 4) [] false, .box (some 4) (.pv (some 4) R.pv), .arr (some 4) [] false]⟩) () ⟨trivial, by simp; rfl⟩ ?_ ?_
  · rintro i - h -
    have hc : (i : Int) < (L.length : Int) := by omega
    obtain ⟨x, hx⟩ : ∃ x, L[i]? = some x := ⟨_, List.getElem?_eq_getElem h⟩
    have w2 : IntKind.i64.wrap ((i : Int) + 1) = ((i + 1 : Nat) : Int) := by rw [wrap64 (by omega) (by omega)]; omega
    have hfx : fdI l x = -1 := by unfold fdI; rw [if_neg (hunv x (List.mem_of_getElem? hx))]
    have hfd1 := hfd x
    rw [hfx] at hfd1
    have htk : v ∈ L.take (i + 1) ↔ v ∈ L.take i ∨ x = v := by
      rw [take_snoc hx, List.mem_append, List.mem_singleton, eq_comm (a := v)]
    have hneg : ¬ (0 : Int) ≤ -1 := by omega
    by_cases hm : v ∈ L.take i
    · have hm1 : decide (v ∈ L.take (i + 1)) = true := by simp [htk, hm]
      have hm2 := eq_true hm
      simp -dsimp -implicitDefEqProofs only [g8, c8r0, c8r1, c8r2, c8k3, c8r4, c8r5, c8r6, c8k7, c8r8, c8r9, c8r10, c8r11, c8r12, c8k13, c8r14, c8r15, c8r16, c8k17, c8k18, c8r19, c8b20, c8k21, c8r22, c8, go_sem, seval, ↓reduceIte, ints_len, hc, s_iaddr_pv (ints_get hx), hm2, hfd1, hneg, w2]
      exact ⟨(), by rw [hm1]; rfl⟩
    · have hm2 := eq_false hm
      by_cases hxv : x = v
      · have hm1 : decide (v ∈ L.take (i + 1)) = true := by simp [htk, hxv]
        have hxv' := eq_true hxv
        simp -dsimp -implicitDefEqProofs only [g8, c8r0, c8r1, c8r2, c8k3, c8r4, c8r5, c8r6, c8k7, c8r8, c8r9, c8r10, c8r11, c8r12, c8k13, c8r14, c8r15, c8r16, c8k17, c8k18, c8r19, c8b20, c8k21, c8r22, c8, go_sem, seval, ↓reduceIte, ints_len, hc, s_iaddr_pv (ints_get hx), hm2, hxv', hfd1, hneg, w2]
        exact ⟨(), by rw [hm1]; rfl⟩
      · have hm1 : decide (v ∈ L.take (i + 1)) = false := by simp [htk, hm, hxv]
        have hxv' := eq_false hxv
        simp -dsimp -implicitDefEqProofs only [g8, c8r0, c8r1, c8r2, c8k3, c8r4, c8r5, c8r6, c8k7, c8r8, c8r9, c8r10, c8r11, c8r12, c8k13, c8r14, c8r15, c8r16, c8k17, c8k18, c8r19, c8b20, c8k21, c8r22, c8, go_sem, seval, ↓reduceIte, ints_len, hc, s_iaddr_pv (ints_get hx), hm2, hxv', hfd1, hneg, w2]
        exact ⟨(), by rw [hm1]; rfl⟩
  · rintro - -
    have hc : ¬ (L.length : Int) < (L.length : Int) := by omega
    have hbb : ∀ b : Bool, (b == b) = true := fun b => by cases b <;> rfl
    rw [List.take_length]
    generalize decide (v ∈ L) = q at h7 ⊢
    simp -dsimp -implicitDefEqProofs only [g8, c8r0, c8r1, c8r2, c8k3, c8r4, c8r5, c8r6, c8k7, c8r8, c8r9, c8r10, c8r11, c8r12, c8k13, c8r14, c8r15, c8r16, c8k17, c8k18, c8r19, c8b20, c8k21, c8r22, c8, go_sem, seval, ↓reduceIte, ints_len, hc, hsame, h7, hbb, haw]
set_option maxRecDepth 100000 in
theorem substResolved_lifted (os : Os) (started : os.Started) (H : Type) (enc : TypeId × Value → H) (F : Stop.Interp) :
    ReturnsInHanded {} Try.checked os 8 .any ((Rows.OpenSpec.upto Rows.substResolvedSpec).pre6 enc Try.prog Try.f8 Rows.substResolvedUptoRow.domain false) (((Rows.OpenSpec.upto Rows.substResolvedSpec).at F).post enc Try.prog Try.f8 false true false false) := by
  refine returnsInHanded_of_cond (C := Try.checked) (s := (Rows.OpenSpec.upto Rows.substResolvedSpec)) (k := Rows.uptoSmall) rfl Try.own started (by kernel_rfl) Try.func8
    (OpenSpec.witness (enc := enc) (C := Try.checked) (s := (Rows.OpenSpec.upto Rows.substResolvedSpec)) (k := Rows.uptoSmall) rfl false ⟨#[], #[.slice none 0 0, .agg #[.int .i64 0, .int .i64 0, .string ⟨#[]⟩, .slice none 0 0], .int .i64 0], []⟩ 8 (by kernel_rfl) (by kernel_rfl) (by kernel_rfl)
      (x := ([.nil, .agg [.lit (.int .i64 0), .lit (.int .i64 0), .lit (.string []), .nil], .lit (.int .i64 0)], [], [])) (by kernel_rfl) rfl (by kernel_rfl)) ?_
  intro W base args ds gs before hval0 hW _ hk _
  have hval : ∀ (j : Nat) t v, Try.f8.params[j]? = some t → args[j]? = some v → Value.okWide Try.prog W .any base t v := hval0
  have hb := bulk_bound hk
  have hW' := hW
  obtain ⟨p, q, hA0, hV, rfl, hfz, hnd⟩ := hW
  have hA : DataW.TrodAll enc Try.prog W 0 (fun _ => true) true Try.f8.params.toList args.toList ds p := hA0
  rw [Try.params8] at hA hval
  clear hA0 hval0
  obtain ⟨v0, vs0, d0, ds0, p0, q0, e0, rfl, rfl, h0, r0'⟩ := trodAll_cons hA
  obtain ⟨v1, vs1, d1, ds1, p1, q1, e1, rfl, rfl, h1, r1'⟩ := trodAll_cons r0'
  obtain ⟨v2, vs2, d2, ds2, p2, q2, e2, rfl, rfl, h2, r2'⟩ := trodAll_cons r1'
  obtain ⟨e3, rfl, rfl⟩ := trodAll_nil r2'
  subst e3
  subst e2
  subst e1
  obtain rfl : args = #[v0, v1, v2] := by cases args; simp_all
  obtain ⟨rfl, rfl⟩ := trodVars_none hV
  obtain ⟨t0, a0, z0⟩ := open_binds h0 (hval 0 _ v0 rfl rfl)
  obtain ⟨t1, a1, z1, r1⟩ := open_term h1 (hval 1 _ v1 rfl rfl)
  obtain ⟨t2, a2, r2⟩ := open_i64 h2 (hval 2 _ v2 rfl rfl)
  simp only [Rows.uptoBulkAll, List.append_nil] at hb
  exact law_contract sound Try.func8 (by kernel_rfl) Try.laidOut (s := Rows.substResolvedSpec) rfl rfl hW' (.cons a0 (.cons a1 (.cons a2 (.nil)))) (substResolved_sem t0 t1 t2 (by have := z0.1; omega) (fun b hb => by have := z0.2 b hb; omega) (by omega))
theorem substResolved_holds : Rows.SubstResolvedUptoSaid :=
  OpenClaim.holds_of_cond 8 Try.f8 rfl rfl rfl rfl rfl rfl rfl ⟨rfl, rfl, rfl, rfl, rfl⟩ rfl rfl rfl rfl rfl (by kernel_rfl) Try.func8 (by kernel_rfl)
    (of_decide_eq_true (by kernel_rfl)) (by unfold Func.isWrapper; first | (rw [if_pos (by decide +kernel)]; kernel_rfl) | (rw [if_neg (by decide +kernel)]; exact ⟨rfl, rfl⟩))
    (fun os started H enc _ F => substResolved_lifted os started H enc F)
end Go.Proofs.Ytenkiofpobeilaa
