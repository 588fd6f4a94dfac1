/- What is proved: SubstUnifies answers true for all bindings and terms, where what it reads is of bulk at most 1048576. -/
import Derived.Test.YtenkiofpobeilaaPUn
import Derived.Test.YtenkiofpobeilaaRun
import Derived.Test.YtenkiofpobeilaaData3
set_option linter.unusedSimpArgs false
set_option linter.unusedVariables false
namespace Go.Proofs.Ytenkiofpobeilaa
open Go.Am Go.ChangeShapes Go.WideShapes Go.ChangeAt Go.RowKit
theorem unR_ok (l : List B) (a b : Tm) : OKB (unR l a b).1 ∧ (unR l a b).1.length ≤ l.length + 1048576 := by
 unfold unR
 split
 ·rename_i h
  exact uni_ok 1048576 l [(a, b)] (okb_iff.1 h.1) fun p hp => by
   rw [List.mem_singleton] at hp
   rw [hp]; exact h.2
 ·exact ⟨okb_nil, Nat.zero_le _⟩
theorem substUnifies_sem (l : List B) (a b : Tm) (hl : l.length ≤ 1048576) (hsz : ∀ b ∈ l, b.2.size ≤ 1048576) (ha : a.size ≤ 1048576) (hb : b.size ≤ 1048576) :
  S 3 [.pv none (.sl (some 5) (bds l)), a.av, b.av] [] = some (.ret (.pv none (.bool true)), []) := by
 refine sem_pure rfl rfl rfl (freezeAll_pvs [(none, .sl (some 5) (bds l)), (some 4, a.pv), (some 4, b.pv)]) rfl ?_
 have hsz9 : ∀ b ∈ l, b.2.size < 1000000000 := fun b hb => by have := hsz b hb; omega
 obtain ⟨lg, h1, hlg⟩ := long_ok l (by omega) fun b hb => by have := hsz b hb; omega
 have haw := fun hp0 => awake_all hp0 awake_ok
 cases lg with
 | true => simp -dsimp -implicitDefEqProofs only [g3, c3r0, c3r1, c3r2, c3k3, c3r4, c3r5, c3r6, c3, go_sem, seval, ↓reduceIte, h1, haw]
 | false =>
 have hl6 : l.length ≤ 10000 := by have := hlg rfl; omega
 have h2 := punify_ok l a b hl6 hsz9 (by omega) (by omega)
 have h3 := runify_ok l a b (by omega) hsz9 (by omega) (by omega)
 obtain ⟨hO, hlen⟩ := unR_ok l a b
 have h4 := sameB_ok (unR l a b).1 hO.good (by omega)
 simp only [Tm.av] at h2 h3
 generalize (unR l a b).1 = R at *
 generalize (unR l a b).2 = e at *
 simp -dsimp -implicitDefEqProofs only [g3, c3r0, c3r1, c3r2, c3k3, c3r4, c3r5, c3r6, c3, go_sem, seval, ↓reduceIte, h1, h2, h3, h4, haw]
set_option maxRecDepth 100000 in
theorem substUnifies_lifted (os : Os) (started : os.Started) (H : Type) (enc : TypeId × Value → H) (F : Stop.Interp) :
  ReturnsInHanded {} Try.checked os 3 .any ((Rows.OpenSpec.upto Rows.substUnifiesSpec).pre6 enc Try.prog Try.f3 Rows.substUnifiesUptoRow.domain false) (((Rows.OpenSpec.upto Rows.substUnifiesSpec).at F).post enc Try.prog Try.f3 false true false false) := by
 refine returnsInHanded_of_cond (C := Try.checked) (s := (Rows.OpenSpec.upto Rows.substUnifiesSpec)) (k := Rows.uptoSmall) rfl Try.own started (by kernel_rfl) Try.func3
  (OpenSpec.witness (enc := enc) (C := Try.checked) (s := (Rows.OpenSpec.upto Rows.substUnifiesSpec)) (k := Rows.uptoSmall) rfl false ⟨#[], #[.slice none 0 0, .agg #[.int .i64 0, .int .i64 0, .string ⟨#[]⟩, .slice none 0 0], .agg #[.int .i64 0, .int .i64 0, .string ⟨#[]⟩, .slice none 0 0]], []⟩ 8 (by kernel_rfl) (by kernel_rfl) (by kernel_rfl)
   (x := ([.nil, .agg [.lit (.int .i64 0), .lit (.int .i64 0), .lit (.string []), .nil], .agg [.lit (.int .i64 0), .lit (.int .i64 0), .lit (.string []), .nil]], [], [])) (by kernel_rfl) rfl (by kernel_rfl)) ?_
 intro W base args ds gs before hval0 hW _ hk _
 have hval : ∀ (j : Nat) t v, Try.f3.params[j]? = some t → args[j]? = some v → Value.okWide Try.prog W .any base t v := hval0
 have hb := bulk_bound hk
 have hW' := hW
 obtain ⟨p, q, hA0, hV, rfl, hfz, hnd⟩ := hW
 have hA : DataW.TrodAll enc Try.prog W 0 (fun _ => true) true Try.f3.params.toList args.toList ds p := hA0
 rw [Try.params3] at hA hval
 clear hA0 hval0
 obtain ⟨v0, vs0, d0, ds0, p0, q0, e0, rfl, rfl, h0, r0'⟩ := trodAll_cons hA
 obtain ⟨v1, vs1, d1, ds1, p1, q1, e1, rfl, rfl, h1, r1'⟩ := trodAll_cons r0'
 obtain ⟨v2, vs2, d2, ds2, p2, q2, e2, rfl, rfl, h2, r2'⟩ := trodAll_cons r1'
 obtain ⟨e3, rfl, rfl⟩ := trodAll_nil r2'
 subst e3
 subst e2
 subst e1
 obtain rfl : args = #[v0, v1, v2] := by cases args; simp_all
 obtain ⟨rfl, rfl⟩ := trodVars_none hV
 obtain ⟨t0, a0, z0⟩ := open_binds h0 (hval 0 _ v0 rfl rfl)
 obtain ⟨t1, a1, z1, r1⟩ := open_term h1 (hval 1 _ v1 rfl rfl)
 obtain ⟨t2, a2, z2, r2⟩ := open_term h2 (hval 2 _ v2 rfl rfl)
 simp only [Rows.uptoBulkAll, List.append_nil] at hb
 exact law_contract sound Try.func3 (by kernel_rfl) Try.laidOut (s := Rows.substUnifiesSpec) rfl rfl hW' (.cons a0 (.cons a1 (.cons a2 (.nil)))) (substUnifies_sem t0 t1 t2 (by have := z0.1; omega) (fun b hb => by have := z0.2 b hb; omega) (by omega) (by omega))
theorem substUnifies_holds : Rows.SubstUnifiesUptoSaid :=
 OpenClaim.holds_of_cond 3 Try.f3 rfl rfl rfl rfl rfl rfl rfl ⟨rfl, rfl, rfl, rfl, rfl⟩ rfl rfl rfl rfl rfl (by kernel_rfl) Try.func3 (by kernel_rfl)
  (of_decide_eq_true (by kernel_rfl)) (by unfold Func.isWrapper; first | (rw [if_pos (by decide +kernel)]; kernel_rfl) | (rw [if_neg (by decide +kernel)]; exact ⟨rfl, rfl⟩))
  (fun os started H enc _ F => substUnifies_lifted os started H enc F)
end Go.Proofs.Ytenkiofpobeilaa
