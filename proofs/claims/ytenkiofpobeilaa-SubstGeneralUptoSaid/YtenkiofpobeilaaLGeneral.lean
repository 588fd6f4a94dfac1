/- What is proved: SubstGeneral answers true for all bindings and terms, where what it reads is of bulk at most 1048576. -/
import Derived.Test.YtenkiofpobeilaaPUn
import Derived.Test.YtenkiofpobeilaaUniGen
import Derived.Test.YtenkiofpobeilaaRun
import Derived.Test.YtenkiofpobeilaaData3
set_option linter.unusedSimpArgs false
set_option linter.unusedVariables false
namespace Go.Proofs.Ytenkiofpobeilaa
open Go.Am Go.ChangeShapes Go.WideShapes Go.ChangeAt Go.RowKit
theorem rsR_cases {l : List B} {a : Tm} (hO : OKB l) (ha : a.valid = true) : (rsR l a = (rs l a, 0) ∧ (rs l a).valid = true) ∨ rsR l a = (zt, 2) := by
 have h1 : okb l = true ∧ a.valid = true := ⟨okb_iff.2 hO, ha⟩
 unfold rsR
 rw [if_pos h1]
 split
 ·rename_i h; exact .inl ⟨rfl, valid_of (rs_fits hO _ a rfl (valid_fits ha)) h⟩
 ·exact .inr rfl
theorem gen_out {l : List B} (hO : OKB l) {a b : Tm} (ha : a.valid = true) (hb : b.valid = true) (h : rs l a = rs l b) (hs : (rs l a).valid = true) :
  (uni 1048576 [] [(a, b)]).2 = 2 ∨ ((uni 1048576 [] [(a, b)]).2 = 0 ∧ rsR (uni 1048576 [] [(a, b)]).1 a = (rs (uni 1048576 [] [(a, b)]).1 a, 0) ∧ (rs (uni 1048576 [] [(a, b)]).1 a).valid = true ∧ rs l (rs (uni 1048576 [] [(a, b)]).1 a) = rs l a) := by
 have hvs : ∀ p ∈ [(a, b)], p.1.valid = true ∧ p.2.valid = true := fun p hp => by
  rw [List.mem_singleton] at hp
  rw [hp]; exact ⟨ha, hb⟩
 have hRO := (uni_ok 1048576 [] [(a, b)] okb_nil hvs).1
 have hR0 : Resp (rsv l) [] := fun v hv => by cases hv
 rcases uni_gen (σ := rsv l) 1048576 [] [(a, b)] okb_nil hvs hR0 (fun p hp => by
  rw [List.mem_singleton] at hp
  rw [hp]; exact h) with h1 | ⟨h1, h2⟩
 ·exact .inl h1
 ·have h3 := h2.rs hRO _ a rfl (valid_fits ha)
  have h3 : rs l (rs (uni 1048576 [] [(a, b)]).1 a) = rs l a := h3
  have hf := rs_fits hRO _ a rfl (valid_fits ha)
  have h4 : (rs (uni 1048576 [] [(a, b)]).1 a).size ≤ (rs l (rs (uni 1048576 [] [(a, b)]).1 a)).size := sub_size_le _ hf fun v => by
   have := (rsv l v).size_eq
   omega
  rw [h3] at h4
  have h5 := valid_size hs
  have hc : okb (uni 1048576 [] [(a, b)]).1 = true ∧ a.valid = true := ⟨okb_iff.2 hRO, ha⟩
  refine .inr ⟨h1, ?_, valid_of hf (by omega), h3⟩
  unfold rsR
  rw [if_pos hc, if_pos (by omega)]
set_option maxRecDepth 4000 in
theorem substGeneral_sem (l : List B) (a b : Tm) (hl : l.length ≤ 1048576) (hsz : ∀ b ∈ l, b.2.size ≤ 1048576) (ha : a.size ≤ 1048576) (hb : b.size ≤ 1048576) :
  S 6 [.pv none (.sl (some 5) (bds l)), a.av, b.av] [] = some (.ret (.pv none (.bool true)), []) := by
 refine sem_pure rfl rfl rfl (freezeAll_pvs [(none, .sl (some 5) (bds l)), (some 4, a.pv), (some 4, b.pv)]) rfl ?_
 have hsz9 : ∀ b ∈ l, b.2.size < 1000000000 := fun b hb => by have := hsz b hb; omega
 obtain ⟨lg, h1, hlg⟩ := long_ok l (by omega) fun b hb => by have := hsz b hb; omega
 have h2 := rvalidB_eq l (by omega) hsz9
 have h3 := fun hp0 => rvalid_ok a hp0 (by omega)
 have h4 := fun hp0 => rvalid_ok b hp0 (by omega)
 have haw := fun hp0 => awake_all hp0 awake_ok
 simp only [Tm.av] at h3 h4
 cases lg with
 | true => simp -dsimp -implicitDefEqProofs only [g6, c6r0, c6r1, c6r2, c6k3, c6r4, c6r5, c6r6, c6r7, c6k8, c6r9, c6r10, c6r11, c6k12, c6r13, c6r14, c6k15, c6r16, c6r17, c6r18, c6k19, c6r20, c6r21, c6, go_sem, seval, ↓reduceIte, h1, haw]
 | false =>
 cases hok : okb l with
 | false =>
  rw [hok] at h2
  simp -dsimp -implicitDefEqProofs only [g6, c6r0, c6r1, c6r2, c6k3, c6r4, c6r5, c6r6, c6r7, c6k8, c6r9, c6r10, c6r11, c6k12, c6r13, c6r14, c6k15, c6r16, c6r17, c6r18, c6k19, c6r20, c6r21, c6, go_sem, seval, ↓reduceIte, h1, h2, haw]
 | true =>
 rw [hok] at h2
 by_cases va : a.valid = true
 rotate_left
 ·have va' : a.valid = false := by simpa using va
  simp -dsimp -implicitDefEqProofs only [g6, c6r0, c6r1, c6r2, c6k3, c6r4, c6r5, c6r6, c6r7, c6k8, c6r9, c6r10, c6r11, c6k12, c6r13, c6r14, c6k15, c6r16, c6r17, c6r18, c6k19, c6r20, c6r21, c6, go_sem, seval, ↓reduceIte, h1, h2, h3, va', haw]
 by_cases vb : b.valid = true
 rotate_left
 ·have vb' : b.valid = false := by simpa using vb
  simp -dsimp -implicitDefEqProofs only [g6, c6r0, c6r1, c6r2, c6k3, c6r4, c6r5, c6r6, c6r7, c6k8, c6r9, c6r10, c6r11, c6k12, c6r13, c6r14, c6k15, c6r16, c6r17, c6r18, c6k19, c6r20, c6r21, c6, go_sem, seval, ↓reduceIte, h1, h2, h3, h4, va, vb', haw]
 have hO := okb_iff.1 hok
 have h5 := rresolve_ok l a (by omega) hsz9 (by omega)
 have h6 := rresolve_ok l b (by omega) hsz9 (by omega)
 simp only [Tm.av] at h5 h6
 rcases rsR_cases hO va with ⟨ea, hva⟩ | ea
 rotate_left
 ·rw [ea] at h5
  generalize (rsR l b).1 = K at h6
  generalize (rsR l b).2 = k at h6
  simp -dsimp -implicitDefEqProofs only [g6, c6r0, c6r1, c6r2, c6k3, c6r4, c6r5, c6r6, c6r7, c6k8, c6r9, c6r10, c6r11, c6k12, c6r13, c6r14, c6k15, c6r16, c6r17, c6r18, c6k19, c6r20, c6r21, c6, go_sem, seval, ↓reduceIte, h1, h2, h3, h4, va, vb, h5, h6, haw, w_alloc_agg, w_store_agg (Nat.zero_le _)]
  try rfl
 rw [ea] at h5
 rcases rsR_cases hO vb with ⟨eb, hvb⟩ | eb
 rotate_left
 ·rw [eb] at h6
  generalize rs l a = K at h5
  simp -dsimp -implicitDefEqProofs only [g6, c6r0, c6r1, c6r2, c6k3, c6r4, c6r5, c6r6, c6r7, c6k8, c6r9, c6r10, c6r11, c6k12, c6r13, c6r14, c6k15, c6r16, c6r17, c6r18, c6k19, c6r20, c6r21, c6, go_sem, seval, ↓reduceIte, h1, h2, h3, h4, va, vb, h5, h6, haw, w_alloc_agg, w_store_agg (Nat.zero_le _)]
  try rfl
 rw [eb] at h6
 have za := valid_size hva
 have zb := valid_size hvb
 have h7 := fun hp => rsame_ok (rs l a) (rs l b) hp (by omega) (by omega)
 simp only [Tm.av] at h7
 by_cases hsm : same (rs l a) (rs l b) = true
 rotate_left
 ·have hsm' : same (rs l a) (rs l b) = false := by simpa using hsm
  rw [hsm'] at h7
  generalize rs l a = K at *
  generalize rs l b = K2 at *
  simp -dsimp -implicitDefEqProofs only [g6, c6r0, c6r1, c6r2, c6k3, c6r4, c6r5, c6r6, c6r7, c6k8, c6r9, c6r10, c6r11, c6k12, c6r13, c6r14, c6k15, c6r16, c6r17, c6r18, c6k19, c6r20, c6r21, c6, go_sem, seval, ↓reduceIte, h1, h2, h3, h4, va, vb, h5, h6, h7, haw, w_alloc_agg, w_store_agg (Nat.zero_le _)]
  try rfl
 rw [hsm] at h7
 have hab := same_eq hsm
 have h8 := punify_ok [] a b (Nat.zero_le _) (fun b hb => by cases hb) (by omega) (by omega)
 have e8 : unR [] a b = uni 1048576 [] [(a, b)] := by
  have hc : okb [] = true ∧ a.valid = true ∧ b.valid = true := ⟨okb_iff.2 okb_nil, va, vb⟩
  unfold unR
  rw [if_pos hc]
 rw [e8] at h8
 have hz : bds [] = [] := rfl
 rw [hz] at h8
 have h8 : ∀ hp : Heap, S 12 [.tsl (some 5) [], a.av, b.av] hp = some (.ret (.tuple [.pv none (.sl (some 5) (bds (uni 1048576 [] [(a, b)]).1)), .pv none (.int .i64 (uni 1048576 [] [(a, b)]).2)]), hp) := fun hp => by
  have h := sem_any (F := find tab) (prim := prim) (f := 12) (args := [.tsl (some 5) [], a.av, b.av]) (ps := [(none, .sl (some 5) []), (some 4, a.pv), (some 4, b.pv)]) (hp := hp) (hp1 := hp) rfl rfl rfl rfl (h8 [])
  exact h.trans (by cases (AV.scalar _) <;> rfl)
 have hvs : ∀ p ∈ [(a, b)], p.1.valid = true ∧ p.2.valid = true := fun p hp => by
  rw [List.mem_singleton] at hp
  rw [hp]; exact ⟨va, vb⟩
 obtain ⟨hRO, hRl⟩ := uni_ok 1048576 [] [(a, b)] okb_nil hvs
 have hout := gen_out hO va vb hab hva
 generalize uni 1048576 [] [(a, b)] = R at *
 simp only [Tm.av] at h8
 rcases hout with he | ⟨he, e9, hv9, hrr⟩
 ·rw [he] at h8
  generalize rs l a = K at *
  generalize rs l b = K2 at *
  simp -dsimp -implicitDefEqProofs only [g6, c6r0, c6r1, c6r2, c6k3, c6r4, c6r5, c6r6, c6r7, c6k8, c6r9, c6r10, c6r11, c6k12, c6r13, c6r14, c6k15, c6r16, c6r17, c6r18, c6k19, c6r20, c6r21, c6, go_sem, seval, ↓reduceIte, h1, h2, h3, h4, va, vb, h5, h6, h7, h8, haw, w_alloc_agg, w_store_agg (Nat.zero_le _)]
  try rfl
 rw [he] at h8
 have hRs : ∀ b ∈ R.1, b.2.size < 1000000000 := fun b hb => (hRO.good.2 b hb).2
 have h9 := presolve_ok R.1 a (by simp at hRl; omega) hRs (by omega)
 rw [e9] at h9
 have z9 := valid_size hv9
 have h10 := rresolve_ok l (rs R.1 a) (by omega) hsz9 (by omega)
 have e10 : rsR l (rs R.1 a) = (rs l a, 0) := by
  have hc : okb l = true ∧ (rs R.1 a).valid = true := ⟨hok, hv9⟩
  unfold rsR
  rw [if_pos hc, hrr, if_pos za]
 rw [e10] at h10
 have h11 := fun hp => rsame_ok (rs l a) (rs l a) hp (by omega) (by omega)
 rw [same_self hva] at h11
 simp only [Tm.av] at h9 h10 h11
 generalize rs R.1 a = V at *
 generalize rs l a = K at *
 generalize rs l b = K2 at *
 simp -dsimp -implicitDefEqProofs only [g6, c6r0, c6r1, c6r2, c6k3, c6r4, c6r5, c6r6, c6r7, c6k8, c6r9, c6r10, c6r11, c6k12, c6r13, c6r14, c6k15, c6r16, c6r17, c6r18, c6k19, c6r20, c6r21, c6, go_sem, seval, ↓reduceIte, h1, h2, h3, h4, va, vb, h5, h6, h7, h8, h9, h10, h11, haw, w_alloc_agg, w_store_agg (Nat.zero_le _)]
 try rfl
set_option maxRecDepth 100000 in
theorem substGeneral_lifted (os : Os) (started : os.Started) (H : Type) (enc : TypeId × Value → H) (F : Stop.Interp) :
  ReturnsInHanded {} Try.checked os 6 .any ((Rows.OpenSpec.upto Rows.substGeneralSpec).pre6 enc Try.prog Try.f6 Rows.substGeneralUptoRow.domain false) (((Rows.OpenSpec.upto Rows.substGeneralSpec).at F).post enc Try.prog Try.f6 false true false false) := by
 refine returnsInHanded_of_cond (C := Try.checked) (s := (Rows.OpenSpec.upto Rows.substGeneralSpec)) (k := Rows.uptoSmall) rfl Try.own started (by kernel_rfl) Try.func6
  (OpenSpec.witness (enc := enc) (C := Try.checked) (s := (Rows.OpenSpec.upto Rows.substGeneralSpec)) (k := Rows.uptoSmall) rfl false ⟨#[], #[.slice none 0 0, .agg #[.int .i64 0, .int .i64 0, .string ⟨#[]⟩, .slice none 0 0], .agg #[.int .i64 0, .int .i64 0, .string ⟨#[]⟩, .slice none 0 0]], []⟩ 8 (by kernel_rfl) (by kernel_rfl) (by kernel_rfl)
   (x := ([.nil, .agg [.lit (.int .i64 0), .lit (.int .i64 0), .lit (.string []), .nil], .agg [.lit (.int .i64 0), .lit (.int .i64 0), .lit (.string []), .nil]], [], [])) (by kernel_rfl) rfl (by kernel_rfl)) ?_
 intro W base args ds gs before hval0 hW _ hk _
 have hval : ∀ (j : Nat) t v, Try.f6.params[j]? = some t → args[j]? = some v → Value.okWide Try.prog W .any base t v := hval0
 have hb := bulk_bound hk
 have hW' := hW
 obtain ⟨p, q, hA0, hV, rfl, hfz, hnd⟩ := hW
 have hA : DataW.TrodAll enc Try.prog W 0 (fun _ => true) true Try.f6.params.toList args.toList ds p := hA0
 rw [Try.params6] at hA hval
 clear hA0 hval0
 obtain ⟨v0, vs0, d0, ds0, p0, q0, e0, rfl, rfl, h0, r0'⟩ := trodAll_cons hA
 obtain ⟨v1, vs1, d1, ds1, p1, q1, e1, rfl, rfl, h1, r1'⟩ := trodAll_cons r0'
 obtain ⟨v2, vs2, d2, ds2, p2, q2, e2, rfl, rfl, h2, r2'⟩ := trodAll_cons r1'
 obtain ⟨e3, rfl, rfl⟩ := trodAll_nil r2'
 subst e3
 subst e2
 subst e1
 obtain rfl : args = #[v0, v1, v2] := by cases args; simp_all
 obtain ⟨rfl, rfl⟩ := trodVars_none hV
 obtain ⟨t0, a0, z0⟩ := open_binds h0 (hval 0 _ v0 rfl rfl)
 obtain ⟨t1, a1, z1, r1⟩ := open_term h1 (hval 1 _ v1 rfl rfl)
 obtain ⟨t2, a2, z2, r2⟩ := open_term h2 (hval 2 _ v2 rfl rfl)
 simp only [Rows.uptoBulkAll, List.append_nil] at hb
 exact law_contract sound Try.func6 (by kernel_rfl) Try.laidOut (s := Rows.substGeneralSpec) rfl rfl hW' (.cons a0 (.cons a1 (.cons a2 (.nil)))) (substGeneral_sem t0 t1 t2 (by have := z0.1; omega) (fun b hb => by have := z0.2 b hb; omega) (by omega) (by omega))
theorem substGeneral_holds : Rows.SubstGeneralUptoSaid :=
 OpenClaim.holds_of_cond 6 Try.f6 rfl rfl rfl rfl rfl rfl rfl ⟨rfl, rfl, rfl, rfl, rfl⟩ rfl rfl rfl rfl rfl (by kernel_rfl) Try.func6 (by kernel_rfl)
  (of_decide_eq_true (by kernel_rfl)) (by unfold Func.isWrapper; first | (rw [if_pos (by decide +kernel)]; kernel_rfl) | (rw [if_neg (by decide +kernel)]; exact ⟨rfl, rfl⟩))
  (fun os started H enc _ F => substGeneral_lifted os started H enc F)
end Go.Proofs.Ytenkiofpobeilaa
