/- What is proved: SubstUnifier answers true for all bindings and terms, where what it reads is of bulk at most 1048576. -/
import Derived.Test.YtenkiofpobeilaaPUn
import Derived.Test.YtenkiofpobeilaaUniLaw
import Derived.Test.YtenkiofpobeilaaRun
import Derived.Test.YtenkiofpobeilaaData3
set_option linter.unusedSimpArgs false
set_option linter.unusedVariables false
namespace Go.Proofs.Ytenkiofpobeilaa
open Go.Am Go.ChangeShapes Go.WideShapes Go.ChangeAt Go.RowKit
theorem okb_size {l : List B} (h : OKB l) : ∀ b ∈ l, b.2.size < 1000000000 := fun b hb => (h.good.2 b hb).2
theorem rsR_zero {l : List B} {a : Tm} (hO : OKB l) (ha : a.valid = true) : ((rsR l a).2 = 0 ∧ (rsR l a).1 = rs l a ∧ (rs l a).size ≤ 2000) ∨ ((rsR l a).2 = 2 ∧ (rsR l a).1 = zt) := by
 unfold rsR
 rw [if_pos ⟨okb_iff.2 hO, ha⟩]
 split
 ·rename_i h; exact .inl ⟨rfl, rfl, h⟩
 ·exact .inr ⟨rfl, rfl⟩
theorem rsR_same {l : List B} {a b : Tm} (hO : OKB l) (ha : a.valid = true) (hb : b.valid = true) (h : rs l a = rs l b) : rsR l a = rsR l b := by
 have h1 : okb l = true ∧ a.valid = true := ⟨okb_iff.2 hO, ha⟩
 have h2 : okb l = true ∧ b.valid = true := ⟨okb_iff.2 hO, hb⟩
 unfold rsR
 simp only [h1, h2, h, and_self, if_true]
theorem rsR_valid2 {l : List B} {a : Tm} (hO : OKB l) (ha : a.valid = true) : (rsR l a).1.valid = true := by
 rcases rsR_zero hO ha with ⟨_, h1, h2⟩ | ⟨_, h1⟩
 ·rw [h1]; exact valid_of (rs_fits hO _ a rfl (valid_fits ha)) h2
 ·rw [h1]; decide
theorem substUnifier_sem (l : List B) (a b : Tm) (hl : l.length ≤ 1048576) (hsz : ∀ b ∈ l, b.2.size ≤ 1048576) (ha : a.size ≤ 1048576) (hb : b.size ≤ 1048576) :
  S 5 [.pv none (.sl (some 5) (bds l)), a.av, b.av] [] = some (.ret (.pv none (.bool true)), []) := by
 refine sem_pure rfl rfl rfl (freezeAll_pvs [(none, .sl (some 5) (bds l)), (some 4, a.pv), (some 4, b.pv)]) rfl ?_
 have hsz9 : ∀ b ∈ l, b.2.size < 1000000000 := fun b hb => by have := hsz b hb; omega
 obtain ⟨lg, h1, hlg⟩ := long_ok l (by omega) fun b hb => by have := hsz b hb; omega
 have h2 := rvalidB_eq l (by omega) hsz9
 have h3 := fun hp0 => rvalid_ok a hp0 (by omega)
 have h4 := fun hp0 => rvalid_ok b hp0 (by omega)
 have haw := fun hp0 => awake_all hp0 awake_ok
 simp only [Tm.av] at h3 h4
 cases lg with
 | true => simp -dsimp -implicitDefEqProofs only [g5, c5r0, c5r1, c5r2, c5k3, c5r4, c5r5, c5r6, c5r7, c5k8, c5r9, c5r10, c5k11, c5r12, c5r13, c5k14, c5r15, c5r16, c5k17, c5r18, c5r19, c5r20, c5k21, c5k22, c5r23, c5b24, c5k25, c5r26, c5r27, c5r28, c5, go_sem, seval, ↓reduceIte, h1, haw]
 | false =>
 have hl6 : l.length ≤ 10000 := by have := hlg rfl; omega
 cases hok : okb l with
 | false =>
  rw [hok] at h2
  simp -dsimp -implicitDefEqProofs only [g5, c5r0, c5r1, c5r2, c5k3, c5r4, c5r5, c5r6, c5r7, c5k8, c5r9, c5r10, c5k11, c5r12, c5r13, c5k14, c5r15, c5r16, c5k17, c5r18, c5r19, c5r20, c5k21, c5k22, c5r23, c5b24, c5k25, c5r26, c5r27, c5r28, c5, go_sem, seval, ↓reduceIte, h1, h2, haw]
 | true =>
 rw [hok] at h2
 by_cases va : a.valid = true
 rotate_left
 ·have va' : a.valid = false := by simpa using va
  simp -dsimp -implicitDefEqProofs only [g5, c5r0, c5r1, c5r2, c5k3, c5r4, c5r5, c5r6, c5r7, c5k8, c5r9, c5r10, c5k11, c5r12, c5r13, c5k14, c5r15, c5r16, c5k17, c5r18, c5r19, c5r20, c5k21, c5k22, c5r23, c5b24, c5k25, c5r26, c5r27, c5r28, c5, go_sem, seval, ↓reduceIte, h1, h2, h3, va', haw]
 by_cases vb : b.valid = true
 rotate_left
 ·have vb' : b.valid = false := by simpa using vb
  simp -dsimp -implicitDefEqProofs only [g5, c5r0, c5r1, c5r2, c5k3, c5r4, c5r5, c5r6, c5r7, c5k8, c5r9, c5r10, c5k11, c5r12, c5r13, c5k14, c5r15, c5r16, c5k17, c5r18, c5r19, c5r20, c5k21, c5k22, c5r23, c5b24, c5k25, c5r26, c5r27, c5r28, c5, go_sem, seval, ↓reduceIte, h1, h2, h3, h4, va, vb', haw]
 have hO := okb_iff.1 hok
 have h5 := punify_ok l a b hl6 hsz9 (by omega) (by omega)
 have h6 := punify_ok l b a hl6 hsz9 (by omega) (by omega)
 have e5 : unR l a b = uni 1048576 l [(a, b)] := by unfold unR; rw [if_pos ⟨hok, va, vb⟩]
 have e6 : unR l b a = uni 1048576 l [(a, b)] := by unfold unR; rw [if_pos ⟨hok, vb, va⟩]; exact uni_swp 1048576 l [(a, b)]
 rw [e5] at h5
 rw [e6] at h6
 have hvs : ∀ p ∈ [(a, b)], p.1.valid = true ∧ p.2.valid = true := fun p hp => by
  rw [List.mem_singleton] at hp
  rw [hp]; exact ⟨va, vb⟩
 obtain ⟨hRO, hRl⟩ := uni_ok 1048576 l [(a, b)] hO hvs
 have hE := uni_errs 1048576 l [(a, b)]
 have hU := uni_unifier 1048576 l [(a, b)] hO hvs
 generalize uni 1048576 l [(a, b)] = R at *
 have hsm := sameB_ok R.1 hRO.good (by omega)
 simp only [Tm.av] at h5 h6
 by_cases he : R.2 = 0
 rotate_left
 ·obtain ⟨hE, hn⟩ := hE.resolve_left he
  rw [hn] at h5 h6 hsm
  have hz : bds [] = [] := rfl
  have hz0 : (([] : List PV).length : Int) = 0 := rfl
  rw [hz] at h5 h6 hsm
  rcases hE with hE | hE | hE <;> rw [hE] at h5 h6
  ·simp -dsimp -implicitDefEqProofs only [g5, c5r0, c5r1, c5r2, c5k3, c5r4, c5r5, c5r6, c5r7, c5k8, c5r9, c5r10, c5k11, c5r12, c5r13, c5k14, c5r15, c5r16, c5k17, c5r18, c5r19, c5r20, c5k21, c5k22, c5r23, c5r26, c5r27, c5r28, c5, go_sem, seval, ↓reduceIte, h1, h2, h3, h4, va, vb, h5, h6, hsm, haw, hz0]
   try rfl
  ·simp -dsimp -implicitDefEqProofs only [g5, c5r0, c5r1, c5r2, c5k3, c5r4, c5r5, c5r6, c5r7, c5k8, c5r9, c5r10, c5k11, c5r12, c5r13, c5k14, c5r15, c5r16, c5k17, c5r18, c5r19, c5r20, c5k21, c5k22, c5r23, c5r26, c5r27, c5r28, c5, go_sem, seval, ↓reduceIte, h1, h2, h3, h4, va, vb, h5, h6, hsm, haw, hz0]
   try rfl
  ·simp -dsimp -implicitDefEqProofs only [g5, c5r0, c5r1, c5r2, c5k3, c5r4, c5r5, c5r6, c5r7, c5k8, c5r9, c5r10, c5k11, c5r12, c5r13, c5k14, c5r15, c5r16, c5k17, c5r18, c5r19, c5r20, c5k21, c5k22, c5r23, c5r26, c5r27, c5r28, c5, go_sem, seval, ↓reduceIte, h1, h2, h3, h4, va, vb, h5, h6, hsm, haw, hz0]
   try rfl
 obtain ⟨hX, hS⟩ := hU he
 have hS := hS (a, b) List.mem_cons_self
 rw [he] at h5 h6
 have h7 := rvalidB_eq R.1 (by omega) (okb_size hRO)
 rw [okb_iff.2 hRO] at h7
 have h8 := presolve_ok R.1 a (by omega) (okb_size hRO) (by omega)
 have h9 := presolve_ok R.1 b (by omega) (okb_size hRO) (by omega)
 rw [← rsR_same hRO va vb hS] at h9
 have hv1 := rsR_valid2 hRO va
 have hz1 := valid_size hv1
 have hs1 := fun hp => rsame_ok (rsR R.1 a).1 (rsR R.1 a).1 hp (by omega) (by omega)
 rw [same_self hv1] at hs1
 have hfd := fun x => rfind_ok R.1 x hRO.good.1 (by omega)
 simp only [Tm.av] at h8 h9 hs1
 simp -dsimp -implicitDefEqProofs only [g5, c5r0, c5r1, c5r2, c5k3, c5r4, c5r5, c5r6, c5r7, c5k8, c5r9, c5r10, c5k11, c5r12, c5r13, c5k14, c5r15, c5r16, c5k17, c5r18, c5r19, c5r20, c5k21, c5k22, c5r23, c5k25, c5r26, c5r27, c5r28, c5, go_sem, seval, ↓reduceIte, h1, h2, h3, h4, va, vb, h5, h6, hsm, h7]
 refine W_for (α := Unit) l.length (fun _ _ => True) (fun i _ => ⟨[(0, .pv none (.sl (some 5) (bds l))), (4, .ptr 0 0), (5, .ptr 1 0), (7, .pv none (.sl (some 5) (bds R.1))), (11, .pv none (.int .i64 i))], [.box (some 4) (.pv (some 4) a.pv), .box (some 4) (.pv (some 4) b.pv)]⟩) () ⟨trivial, rfl⟩ ?_ ?_
 ·rintro i - h -
  have hc : (i : Int) < (l.length : Int) := by omega
  obtain ⟨x, hx⟩ : ∃ x, l[i]? = some x := ⟨_, List.getElem?_eq_getElem h⟩
  have w2 : IntKind.i64.wrap ((i : Int) + 1) = ((i + 1 : Nat) : Int) := by rw [wrap64 (by omega) (by omega)]; omega
  obtain ⟨hf0, ht0⟩ := to_of hO.good.1 (List.mem_of_getElem? hx)
  obtain ⟨hf1, ht1⟩ := hX x.1 hf0
  have hfx : fdI R.1 x.1 = (lbB R.1 x.1 : Int) := by unfold fdI; rw [if_pos hf1]
  have hfd1 := hfd x.1
  rw [hfx] at hfd1
  have hnn : ¬ ((lbB R.1 x.1 : Nat) : Int) < 0 := by omega
  have hgt := fnd_get hf1
  rw [ht1, ht0] at hgt
  have hxv := hO.good.2 x (List.mem_of_getElem? hx)
  have hsx := fun hp => rsame_ok x.2 x.2 hp hxv.2 hxv.2
  rw [same_self hxv.1] at hsx
  simp only [Tm.av] at hsx
  simp -dsimp -implicitDefEqProofs only [g5, c5r0, c5r1, c5r2, c5k3, c5r4, c5r5, c5r6, c5r7, c5k8, c5r9, c5r10, c5k11, c5r12, c5r13, c5k14, c5r15, c5r16, c5k17, c5r18, c5r19, c5r20, c5k21, c5k22, c5r23, c5b24, c5k25, c5r26, c5r27, c5r28, c5, go_sem, seval, ↓reduceIte, bds_len, hc, s_iaddr_pv (bds_get hx), s_iaddr_pv (bds_get hgt), part_var, part_to, hfd1, hnn, hsx, w2]
  exact ⟨(), trivial⟩
 ·rintro - -
  have hc : ¬ (l.length : Int) < (l.length : Int) := by omega
  rcases rsR_zero hRO va with ⟨k1, _, _⟩ | ⟨k1, _⟩
  ·rw [k1] at h8 h9
   generalize (rsR R.1 a).1 = K at *
   simp -dsimp -implicitDefEqProofs only [g5, c5r0, c5r1, c5r2, c5k3, c5r4, c5r5, c5r6, c5r7, c5k8, c5r9, c5r10, c5k11, c5r12, c5r13, c5k14, c5r15, c5r16, c5k17, c5r18, c5r19, c5r20, c5k21, c5k22, c5r23, c5b24, c5k25, c5r26, c5r27, c5r28, c5, go_sem, seval, ↓reduceIte, bds_len, hc, h8, h9, hs1, haw, w_alloc_agg, w_store_agg (Nat.zero_le _)]
   try rfl
  ·rw [k1] at h8 h9
   generalize (rsR R.1 a).1 = K at *
   simp -dsimp -implicitDefEqProofs only [g5, c5r0, c5r1, c5r2, c5k3, c5r4, c5r5, c5r6, c5r7, c5k8, c5r9, c5r10, c5k11, c5r12, c5r13, c5k14, c5r15, c5r16, c5k17, c5r18, c5r19, c5r20, c5k21, c5k22, c5r23, c5b24, c5k25, c5r26, c5r27, c5r28, c5, go_sem, seval, ↓reduceIte, bds_len, hc, h8, h9, hs1, haw, w_alloc_agg, w_store_agg (Nat.zero_le _)]
   try rfl
set_option maxRecDepth 100000 in
theorem substUnifier_lifted (os : Os) (started : os.Started) (H : Type) (enc : TypeId × Value → H) (F : Stop.Interp) :
  ReturnsInHanded {} Try.checked os 5 .any ((Rows.OpenSpec.upto Rows.substUnifierSpec).pre6 enc Try.prog Try.f5 Rows.substUnifierUptoRow.domain false) (((Rows.OpenSpec.upto Rows.substUnifierSpec).at F).post enc Try.prog Try.f5 false true false false) := by
 refine returnsInHanded_of_cond (C := Try.checked) (s := (Rows.OpenSpec.upto Rows.substUnifierSpec)) (k := Rows.uptoSmall) rfl Try.own started (by kernel_rfl) Try.func5
  (OpenSpec.witness (enc := enc) (C := Try.checked) (s := (Rows.OpenSpec.upto Rows.substUnifierSpec)) (k := Rows.uptoSmall) rfl false ⟨#[], #[.slice none 0 0, .agg #[.int .i64 0, .int .i64 0, .string ⟨#[]⟩, .slice none 0 0], .agg #[.int .i64 0, .int .i64 0, .string ⟨#[]⟩, .slice none 0 0]], []⟩ 8 (by kernel_rfl) (by kernel_rfl) (by kernel_rfl)
   (x := ([.nil, .agg [.lit (.int .i64 0), .lit (.int .i64 0), .lit (.string []), .nil], .agg [.lit (.int .i64 0), .lit (.int .i64 0), .lit (.string []), .nil]], [], [])) (by kernel_rfl) rfl (by kernel_rfl)) ?_
 intro W base args ds gs before hval0 hW _ hk _
 have hval : ∀ (j : Nat) t v, Try.f5.params[j]? = some t → args[j]? = some v → Value.okWide Try.prog W .any base t v := hval0
 have hb := bulk_bound hk
 have hW' := hW
 obtain ⟨p, q, hA0, hV, rfl, hfz, hnd⟩ := hW
 have hA : DataW.TrodAll enc Try.prog W 0 (fun _ => true) true Try.f5.params.toList args.toList ds p := hA0
 rw [Try.params5] at hA hval
 clear hA0 hval0
 obtain ⟨v0, vs0, d0, ds0, p0, q0, e0, rfl, rfl, h0, r0'⟩ := trodAll_cons hA
 obtain ⟨v1, vs1, d1, ds1, p1, q1, e1, rfl, rfl, h1, r1'⟩ := trodAll_cons r0'
 obtain ⟨v2, vs2, d2, ds2, p2, q2, e2, rfl, rfl, h2, r2'⟩ := trodAll_cons r1'
 obtain ⟨e3, rfl, rfl⟩ := trodAll_nil r2'
 subst e3
 subst e2
 subst e1
 obtain rfl : args = #[v0, v1, v2] := by cases args; simp_all
 obtain ⟨rfl, rfl⟩ := trodVars_none hV
 obtain ⟨t0, a0, z0⟩ := open_binds h0 (hval 0 _ v0 rfl rfl)
 obtain ⟨t1, a1, z1, r1⟩ := open_term h1 (hval 1 _ v1 rfl rfl)
 obtain ⟨t2, a2, z2, r2⟩ := open_term h2 (hval 2 _ v2 rfl rfl)
 simp only [Rows.uptoBulkAll, List.append_nil] at hb
 exact law_contract sound Try.func5 (by kernel_rfl) Try.laidOut (s := Rows.substUnifierSpec) rfl rfl hW' (.cons a0 (.cons a1 (.cons a2 (.nil)))) (substUnifier_sem t0 t1 t2 (by have := z0.1; omega) (fun b hb => by have := z0.2 b hb; omega) (by omega) (by omega))
theorem substUnifier_holds : Rows.SubstUnifierUptoSaid :=
 OpenClaim.holds_of_cond 5 Try.f5 rfl rfl rfl rfl rfl rfl rfl ⟨rfl, rfl, rfl, rfl, rfl⟩ rfl rfl rfl rfl rfl (by kernel_rfl) Try.func5 (by kernel_rfl)
  (of_decide_eq_true (by kernel_rfl)) (by unfold Func.isWrapper; first | (rw [if_pos (by decide +kernel)]; kernel_rfl) | (rw [if_neg (by decide +kernel)]; exact ⟨rfl, rfl⟩))
  (fun os started H enc _ F => substUnifier_lifted os started H enc F)
end Go.Proofs.Ytenkiofpobeilaa
