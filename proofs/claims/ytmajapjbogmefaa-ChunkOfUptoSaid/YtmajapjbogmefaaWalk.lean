/- What is proved: chunk.walk calls back for the variables of a term, from left to right. -/
import Derived.Test.YtmajapjbogmefaaPlcP
import Derived.Test.YtmajapjbogmefaaAm4
set_option linter.unusedSimpArgs false
set_option linter.unusedVariables false
namespace Go.Proofs.Ytmajapjbogmefaa
open Go.Am
def LIM : Nat := 500000000
structure Back (H : List (Int × Int) → Heap) (n0 : Nat) (c : Int) (y : AV) : Prop where
  len : ∀ s, (H s).length = n0
  refs : ∀ q ∈ y.refsIn, q < n0
  call : ∀ (s : List (Int × Int)) (v : Int) (ext : Heap), s.length < LIM → ∃ g first captured, calleeOf y = some (g, first, captured) ∧ S g (first ++ [.pv none (.int .i64 v)] ++ captured) (H s ++ ext) = some (.ret (.pv none (.bool true)), H (s ++ [(v, c)]) ++ ext)
theorem collect_drop1 {n b : Nat} {fr : Fr} {base ext : Heap} {o : AObj} (hb : base.length = b) (hn : n = b + 1) (ho : o.refs = []) (hf : fr.all (fun x => x.2.refsIn.all (· < n)) = true) : collect n b fr (base ++ [o] ++ ext) = base ++ [o] := by
  have h1 : (base ++ [o] ++ ext).take n = base ++ [o] := by rw [show n = (base ++ [o]).length by simp [hb, hn]]; exact List.take_left
  have h2 : ((base ++ [o] ++ ext).take n).drop b = [o] := by rw [h1, ← hb]; exact List.drop_left
  have h3 : (((base ++ [o] ++ ext).take n).drop b).all (fun o => o.refs.all (fun q => decide (q < n))) = true := by rw [h2]; simp [ho]
  unfold collect
  rw [if_pos (by rw [hf, h3]; rfl), h1]
theorem walk_ok {H : List (Int × Int) → Heap} {n0 : Nat} {c : Int} {y : AV} (B : Back H n0 c y) : ∀ (t : Tm) (s : List (Int × Int)) (ext : Heap), t.size < 1000000000 → s.length + t.occ.length ≤ LIM →
    S 41 [t.av, y] (H s ++ ext) = some (.ret (.pv none (.bool true)), H (s ++ t.occ.map (fun v => (v, c))) ++ ext) := by
  intro t
  induction t using Tm.induct with
  | h t ih =>
    intro s ext hsz hlim
    have hts := t.size_eq
    have hlen := Tm.sizes_len t.args
    have hoe := t.occ_eq
    have hL : ∀ s', (H s' ++ ext).length = n0 + ext.length := fun s' => by simp [B.len]
    refine sem_heap rfl rfl rfl rfl ?_
    by_cases hk : t.kind = 0
    · rw [if_pos hk] at hoe
      rw [hoe] at hlim ⊢
      obtain ⟨g, first, captured, hcal, hcall⟩ := B.call s t.n (ext ++ [.box (some 4) (.pv (some 4) t.pv)]) (by simp at hlim; omega)
      have e1 : ∀ s' x, (H s' ++ ext ++ [x])[(H s ++ ext).length]? = some x := fun s' x => by rw [hL s, ← hL s']; simp
      rw [← List.append_assoc, ← List.append_assoc] at hcall
      have hc2 := hcall
      simp -dsimp -implicitDefEqProofs only [g41, c41r0, c41r1, c41r2, c41k3, c41r4, c41r5, c41k6, c41r7, c41r8, c41r9, c41k10, c41k11, c41r12, c41b13, c41k14, c41r15, c41, go_sem, seval, ↓reduceIte, Tm.av, part_kind, part_n, hk, get_last, op_callee hcal, hc2]
      simp [AV.refsIn, B.len]
      rw [← List.append_assoc, ← hL (s ++ [(t.n, c)])]
      exact List.take_left
    · rw [if_neg hk] at hoe
      rw [hoe] at hlim ⊢
      simp -dsimp -implicitDefEqProofs only [g41, c41r0, c41r1, c41r2, c41k3, c41r4, c41r5, c41k6, c41r7, c41r8, c41r9, c41k10, c41k11, c41r12, c41b13, c41k14, c41r15, c41, go_sem, seval, ↓reduceIte, Tm.av, part_kind, part_args, hk, get_last, Tm.pvs_len]
      have yr : y.refsIn.all (fun q => decide (q < n0 + ext.length + 1)) = true := by
        rw [List.all_eq_true]
        intro q hq
        have := B.refs q hq
        simp only [decide_eq_true_eq]
        omega
      refine W_loop (fun n st => ∃ i : Nat, n = t.args.length - i ∧ i ≤ t.args.length ∧ st = ⟨[(1, y), (15, .pv none (.sl (some 4) (Tm.pvs t.args))), (16, .pv none (.int .i64 t.args.length)), (17, .pv none (.int .i64 i))], H (s ++ (Tm.occs (t.args.take i)).map (fun v => (v, c))) ++ ext ++ [.box (some 4) (.pv (some 4) t.pv)]⟩) (n := t.args.length) ⟨0, rfl, Nat.zero_le _, ?_⟩ ?_
      · simp only [List.take_zero, Tm.occs, List.map_nil, List.append_nil]
        rfl
      · rintro n st ⟨i, hn, hi, rfl⟩
        by_cases h : i < t.args.length
        · have hc : (i : Int) < (t.args.length : Int) := by omega
          obtain ⟨u, hu⟩ : ∃ u, t.args[i]? = some u := ⟨_, List.getElem?_eq_getElem h⟩
          have hum := List.mem_of_getElem? hu
          have husz := Tm.sizes_mem hum
          have hot := Tm.occs_take hu
          have hol : (Tm.occs (t.args.take (i + 1))).length ≤ (Tm.occs t.args).length := by
            have h5 : Tm.occs t.args = Tm.occs (t.args.take (i + 1)) ++ Tm.occs (t.args.drop (i + 1)) := by rw [← Tm.occs_append, List.take_append_drop]
            rw [h5, List.length_append]
            omega
          have hcall := ih u hum (s ++ (Tm.occs (t.args.take i)).map (fun v => (v, c))) (ext ++ [.box (some 4) (.pv (some 4) t.pv)] ++ [.box (some 4) (.pv (some 4) u.pv)] ++ [.arr (some 4) [] false]) (by omega) (by rw [hot] at hol; simp at hol ⊢; omega)
          simp only [← List.append_assoc, Tm.av] at hcall
          rw [List.append_assoc s, ← List.map_append, ← hot] at hcall
          have w2 : IntKind.i64.wrap ((i : Int) + 1) = ((i + 1 : Nat) : Int) := by rw [wrap64 (by omega) (by omega)]; omega
          simp -dsimp -implicitDefEqProofs only [g41, c41r0, c41r1, c41r2, c41k3, c41r4, c41r5, c41k6, c41r7, c41r8, c41r9, c41k10, c41k11, c41r12, c41b13, c41k14, c41r15, c41, go_sem, seval, ↓reduceIte, hc, s_iaddr_pv (Tm.pvs_get hu), set_two, get_two, hcall, w2]
          refine ⟨t.args.length - (i + 1), by omega, i + 1, rfl, by omega, ?_⟩
          rw [List.append_assoc (_ ++ _ ++ _), collect_drop1]
          · simp [B.len]
          · simp [B.len, Nat.add_assoc]
          · rfl
          · simp [AV.refsIn, B.len] at yr ⊢
            exact yr
        · have hc : ¬ (i : Int) < (t.args.length : Int) := by omega
          obtain rfl : i = t.args.length := by omega
          simp -dsimp -implicitDefEqProofs only [g41, c41r0, c41r1, c41r2, c41k3, c41r4, c41r5, c41k6, c41r7, c41r8, c41r9, c41k10, c41k11, c41r12, c41b13, c41k14, c41r15, c41, go_sem, seval, ↓reduceIte, hc]
          rw [List.take_length]
          simp [AV.refsIn, B.len]
          rw [← List.append_assoc, ← hL (s ++ (Tm.occs t.args).map (fun v => (v, c)))]
          exact List.take_left
end Go.Proofs.Ytmajapjbogmefaa
