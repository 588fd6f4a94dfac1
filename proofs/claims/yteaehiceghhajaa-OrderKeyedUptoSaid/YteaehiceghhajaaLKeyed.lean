/- What is proved: OrderKeyed answers true for all terms, where what it reads is of bulk at most 1048576. -/
import Derived.Test.YteaehiceghhajaaKeyed
set_option linter.unusedSimpArgs false
set_option linter.unusedVariables false
namespace Go.Proofs.Yteaehiceghhajaa
open Go.Am Go.ChangeShapes Go.WideShapes Go.ChangeAt Go.RowKit
theorem sizes_perm {l r : List Tm} (h : l.Perm r) : Tm.sizes l = Tm.sizes r := by
  induction h with
  | nil => rfl
  | cons x _ ih => simp only [Tm.sizes, ih]
  | swap x y l => simp only [Tm.sizes]; omega
  | trans _ _ h1 h2 => rw [h1, h2]
theorem pr_valid {k : Tm} {i : Nat} (h : (pr k i).valid = true) : k.valid = true := by
  have h2 := Tm.fits_arg (Tm.valid_fits h) (show k ∈ (pr k i).args by simp [pr, Tm.args])
  unfold Tm.valid at h ⊢
  rw [pr_size] at h
  simp only [Bool.and_eq_true, decide_eq_true_eq] at h ⊢
  exact ⟨by omega, h2⟩
theorem frz3 (a b : AObj) (es : List PV) (n : Nat) (h : es.length = n) (fz : Bool) : freezeAll [.sl (some 4) 2 n 0 n] [a, b, .arr (some 4) es fz] = some ([(none, .sl (some 4) es)], [a, b, .arr (some 4) es true]) := by
  rw [freezeAll_sl (show okArrF n ([a, b, AObj.arr (some 4) es fz][2]?) from h)]
  rfl
theorem frz3p (a b : AObj) (es : List PV) (n : Nat) (h : es.length = n) (fz : Bool) (p : PV) : freezeAll [.sl (some 4) 2 n 0 n, .pv (some 4) p] [a, b, .arr (some 4) es fz] = some ([(none, .sl (some 4) es), (some 4, p)], [a, b, .arr (some 4) es true]) := by
  rw [freezeAll_sl (show okArrF n ([a, b, AObj.arr (some 4) es fz][2]?) from h)]
  rfl
theorem orderKeyed_sem (l : List Tm) (hl : Tm.sizes l < 10000000) : S 9 [.pv none (.sl (some 4) (Tm.pvs l))] [] = some (.ret (.pv none (.bool true)), []) := by
  refine sem_pure rfl rfl rfl (freezeAll_pvs [(none, .sl (some 4) (Tm.pvs l))]) rfl ?_
  have hfew := few_ok l (by omega) []
  have hK : (l.take 40).length ≤ 40 := by rw [List.length_take]; omega
  have hKs : Tm.sizes (l.take 40) < 10000000 := by have := Tm.sizes_take_le l 40; omega
  simp only [List.nil_append, List.length_nil, Nat.zero_add] at hfew
  generalize l.take 40 = K at hfew hK hKs
  simp -dsimp -implicitDefEqProofs only [g9, c9r0, c9r1, c9r2, c9r3, c9r4, c9k5, c9r6, c9k7, c9r8, c9b9, c9k10, c9r11, c9r12, c9r13, c9k14, c9r15, c9r16, c9r17, c9k18, c9r19, c9r20, c9k21, c9r22, c9r23, c9k24, c9r25, c9k26, c9r27, c9r28, c9r29, c9k30, c9k31, c9r32, c9b33, c9k34, c9r35, c9, go_sem, collect_lit0, collect_lit1, collect_lit2, collect_lit3, if_true, if_false, true_and, and_true, false_and, and_false, and_self, Nat.zero_add, Nat.add_zero, eq_self, Bool.true_eq_false, Bool.false_eq_true, cond_true, cond_false, decide_eq_true_eq, Bool.not_eq_true', Bool.not_eq_false', decide_eq_false_iff_not, not_true_eq_false, not_false_eq_true, Bool.true_and, Bool.false_and, Bool.and_true, Bool.and_false, Bool.not_true, Bool.not_false, Option.some.injEq, decide_true, decide_false, List.getElem?_cons_zero, List.getElem?_cons_succ, List.length_cons, List.length_nil, List.nil_append, List.cons_append, List.set_cons_zero, List.set_cons_succ, List.take_zero, List.drop_zero, Nat.reduceEqDiff, Nat.reduceAdd, Nat.reduceSub, Nat.reduceLT, Nat.reduceLeDiff, Nat.reduceMul, Int.reduceEq, Int.reduceLT, Int.reduceLE, Int.reduceAdd, Int.reduceSub, Int.reduceNeg, Int.reduceToNat, reduceCtorEq, ↓reduceIte, hfew, w_nilsl (sh := some 4) (by decide)]
  refine W_loop (fun n st => ∃ i : Nat, n = K.length - i ∧ i ≤ K.length ∧ st = ⟨[(0, .sl (some 4) 1 K.length 0 K.length), (3, .sl (some 4) 2 i 0 i), (4, .pv none (.int .i64 i))], [.arr (some 4) [] false, .arr (some 4) (Tm.pvs K) false, .arr (some 4) (Tm.pvs (prs (K.take i))) false]⟩) (n := K.length) ⟨0, rfl, Nat.zero_le _, ?_⟩ ?_
  · simp -dsimp -implicitDefEqProofs only [go_sem, collect_lit0, collect_lit1, collect_lit2, collect_lit3, if_true, if_false, true_and, and_true, false_and, and_false, and_self, Nat.zero_add, Nat.add_zero, eq_self, Bool.true_eq_false, Bool.false_eq_true, cond_true, cond_false, decide_eq_true_eq, Bool.not_eq_true', Bool.not_eq_false', decide_eq_false_iff_not, not_true_eq_false, not_false_eq_true, Bool.true_and, Bool.false_and, Bool.and_true, Bool.and_false, Bool.not_true, Bool.not_false, Option.some.injEq, decide_true, decide_false, List.getElem?_cons_zero, List.getElem?_cons_succ, List.length_cons, List.length_nil, List.nil_append, List.cons_append, List.set_cons_zero, List.set_cons_succ, List.take_zero, List.drop_zero, Nat.reduceEqDiff, Nat.reduceAdd, Nat.reduceSub, Nat.reduceLT, Nat.reduceLeDiff, Nat.reduceMul, Int.reduceEq, Int.reduceLT, Int.reduceLE, Int.reduceAdd, Int.reduceSub, Int.reduceNeg, Int.reduceToNat, reduceCtorEq, ↓reduceIte]
    rfl
  · rintro n st ⟨i, hn, hi, rfl⟩
    by_cases hlt : i < K.length
    · have hc : (i : Int) < (K.length : Int) := by omega
      obtain ⟨u, hu⟩ : ∃ u, K[i]? = some u := ⟨_, List.getElem?_eq_getElem hlt⟩
      have w2 : IntKind.i64.wrap ((i : Int) + 1) = ((i + 1 : Nat) : Int) := by rw [wrap64 (by omega) (by omega)]; omega
      have h1 := fun hp => num_ok i hp
      have h2 : ∀ hp, S 33 [.pv none (.str [45]), .pv none (.sl (some 4) [u.pv, (Tm.mk 1 i [] []).pv])] hp = some (.ret (.pv (some 4) (pr u i).pv), hp) := fun hp => fun_ok [45] [u, Tm.mk 1 i [] []] hp
      simp only [Tm.av] at h1
      have hll : (Tm.pvs (prs (K.take i))).length = i := by rw [Tm.pvs_len, prs_len, List.length_take]; omega
      have hlK : (Tm.pvs K).length = K.length := Tm.pvs_len K
      have hlim : i + 1 ≤ lim := by unfold lim; omega
      have hap : Tm.pvs (prs (K.take i)) ++ [(pr u i).pv] = Tm.pvs (prs (K.take (i + 1))) := by rw [prs_take hu, Tm.pvs_append]; rfl
      have hg := Tm.pvs_get hu
      simp -dsimp -implicitDefEqProofs only [g9, c9r0, c9r1, c9r2, c9r3, c9r4, c9k5, c9r6, c9k7, c9r8, c9b9, c9k10, c9r11, c9r12, c9r13, c9k14, c9r15, c9r16, c9r17, c9k18, c9r19, c9r20, c9k21, c9r22, c9r23, c9k24, c9r25, c9k26, c9r27, c9r28, c9r29, c9k30, c9k31, c9r32, c9b33, c9k34, c9r35, c9, go_sem, collect_lit0, collect_lit1, collect_lit2, collect_lit3, if_true, if_false, true_and, and_true, false_and, and_false, and_self, Nat.zero_add, Nat.add_zero, eq_self, Bool.true_eq_false, Bool.false_eq_true, cond_true, cond_false, decide_eq_true_eq, Bool.not_eq_true', Bool.not_eq_false', decide_eq_false_iff_not, not_true_eq_false, not_false_eq_true, Bool.true_and, Bool.false_and, Bool.and_true, Bool.and_false, Bool.not_true, Bool.not_false, Option.some.injEq, decide_true, decide_false, List.getElem?_cons_zero, List.getElem?_cons_succ, List.length_cons, List.length_nil, List.nil_append, List.cons_append, List.set_cons_zero, List.set_cons_succ, List.take_zero, List.drop_zero, Nat.reduceEqDiff, Nat.reduceAdd, Nat.reduceSub, Nat.reduceLT, Nat.reduceLeDiff, Nat.reduceMul, Int.reduceEq, Int.reduceLT, Int.reduceLE, Int.reduceAdd, Int.reduceSub, Int.reduceNeg, Int.reduceToNat, reduceCtorEq, ↓reduceIte, hc, s_iaddr_sl hlt, aload_eptr, hg, h1, h2, w2, hll, hlK, hlim, hap, List.length_cons, List.length_nil, Nat.zero_add]
      exact ⟨K.length - (i + 1), by omega, i + 1, rfl, by omega, rfl⟩
    · have hc : ¬ (i : Int) < (K.length : Int) := by omega
      obtain rfl : i = K.length := by omega
      rw [List.take_length]
      clear hi hn hlt
      have hpn := prs_nodup K
      have hpp := prs_pair K
      have hpa := (prs_asc K K.length (Nat.le_refl _)).1
      have hps := prs_sizes K
      have hpl := prs_len K
      have hpm := fun t => prs_mem (K := K) (t := t)
      rw [List.take_length] at hpa
      generalize prs K = L at hpn hpp hpa hps hpl hpm ⊢
      have hle : (Tm.pvs L).length = K.length := by rw [Tm.pvs_len, hpl]
      have hv := fun fz => sem_any (v := .pv none (.bool (validAll L))) rfl rfl rfl (frz3 (.arr (some 4) [] false) (.arr (some 4) (Tm.pvs K) false) (Tm.pvs L) K.length hle fz) (lvalid_ok L (by omega))
      have hk := fun fz => sem_any rfl rfl rfl (frz3 (.arr (some 4) [] false) (.arr (some 4) (Tm.pvs K) false) (Tm.pvs L) K.length hle fz) (keys_ok L (by omega) [])
      have ha := awake_ok
      rw [hpp] at hk
      by_cases hva : validAll L = true
      · rw [hva] at hv hk
        simp only [if_true] at hk
        have hsl : (isort keyCmp L).length = K.length := by rw [isort_length, hpl]
        have hca : ∀ x, x ∈ L → cnt L x = 1 := fun x hx => cnt_one hva ((isort_perm L).nodup_iff.1 hpn) hx
        have hcb : ∀ x, x ∈ L → cnt (isort keyCmp L) x = 1 := fun x hx => cnt_one (List.all_eq_true.2 fun y hy => validAll_mem hva ((isort_perm L).mem_iff.1 hy)) hpn ((isort_perm L).mem_iff.2 hx)
        have hcm : ∀ x, x ∈ isort keyCmp L → x ∈ L := fun x hx => (isort_perm L).mem_iff.1 hx
        have hss : Tm.sizes (isort keyCmp L) < 1000000000 := by rw [sizes_perm (isort_perm L)]; omega
        generalize isort keyCmp L = s at hk hsl hcb hcm hpa hss
        have hsL : (Tm.pvs s).length = K.length := by rw [Tm.pvs_len, hsl]
        have hct := fun x (hx : x ∈ L) => count_pure s x hss (by have := Tm.sizes_mem hx; omega)
        have hcs := fun x (hx : x ∈ L) => sem_any rfl rfl rfl (frz3p (.arr (some 4) [] false) (.arr (some 4) (Tm.pvs K) false) (Tm.pvs L) K.length hle true x.pv) (count_pure L x (by omega) (by have := Tm.sizes_mem hx; omega) [])
        simp -dsimp -implicitDefEqProofs only [g9, c9r0, c9r1, c9r2, c9r3, c9r4, c9k5, c9r6, c9k7, c9r8, c9b9, c9k10, c9r11, c9r12, c9r13, c9k14, c9r15, c9r16, c9r17, c9k18, c9r19, c9r20, c9k21, c9r22, c9r23, c9k24, c9r25, c9k26, c9r27, c9r28, c9r29, c9k30, c9k31, c9r32, c9b33, c9k34, c9r35, c9, go_sem, collect_lit0, collect_lit1, collect_lit2, collect_lit3, if_true, if_false, true_and, and_true, false_and, and_false, and_self, Nat.zero_add, Nat.add_zero, eq_self, Bool.true_eq_false, Bool.false_eq_true, cond_true, cond_false, decide_eq_true_eq, Bool.not_eq_true', Bool.not_eq_false', decide_eq_false_iff_not, not_true_eq_false, not_false_eq_true, Bool.true_and, Bool.false_and, Bool.and_true, Bool.and_false, Bool.not_true, Bool.not_false, Option.some.injEq, decide_true, decide_false, List.getElem?_cons_zero, List.getElem?_cons_succ, List.length_cons, List.length_nil, List.nil_append, List.cons_append, List.set_cons_zero, List.set_cons_succ, List.take_zero, List.drop_zero, Nat.reduceEqDiff, Nat.reduceAdd, Nat.reduceSub, Nat.reduceLT, Nat.reduceLeDiff, Nat.reduceMul, Int.reduceEq, Int.reduceLT, Int.reduceLE, Int.reduceAdd, Int.reduceSub, Int.reduceNeg, Int.reduceToNat, reduceCtorEq, ↓reduceIte, hv, hk, hsL, hc]
        refine W_loop (fun n st => ∃ i : Nat, n = K.length - i ∧ i ≤ K.length ∧ st = ⟨[(3, .sl (some 4) 2 K.length 0 K.length), (7, .pv none (.sl (some 4) (Tm.pvs s))), (9, .pv none (.int .i64 i))], [.arr (some 4) [] false, .arr (some 4) (Tm.pvs K) false, .arr (some 4) (Tm.pvs L) true]⟩) (n := K.length) ⟨0, rfl, Nat.zero_le _, ?_⟩ ?_
        · simp -dsimp -implicitDefEqProofs only [go_sem, collect_lit0, collect_lit1, collect_lit2, collect_lit3, if_true, if_false, true_and, and_true, false_and, and_false, and_self, Nat.zero_add, Nat.add_zero, eq_self, Bool.true_eq_false, Bool.false_eq_true, cond_true, cond_false, decide_eq_true_eq, Bool.not_eq_true', Bool.not_eq_false', decide_eq_false_iff_not, not_true_eq_false, not_false_eq_true, Bool.true_and, Bool.false_and, Bool.and_true, Bool.and_false, Bool.not_true, Bool.not_false, Option.some.injEq, decide_true, decide_false, List.getElem?_cons_zero, List.getElem?_cons_succ, List.length_cons, List.length_nil, List.nil_append, List.cons_append, List.set_cons_zero, List.set_cons_succ, List.take_zero, List.drop_zero, Nat.reduceEqDiff, Nat.reduceAdd, Nat.reduceSub, Nat.reduceLT, Nat.reduceLeDiff, Nat.reduceMul, Int.reduceEq, Int.reduceLT, Int.reduceLE, Int.reduceAdd, Int.reduceSub, Int.reduceNeg, Int.reduceToNat, reduceCtorEq, ↓reduceIte]
          rfl
        · rintro n1 st ⟨i, hn, hi, rfl⟩
          clear hv hk hfew
          by_cases hlt : i < K.length
          · have hc : (i : Int) < (K.length : Int) := by omega
            obtain ⟨x, hx⟩ : ∃ x, s[i]? = some x := ⟨_, List.getElem?_eq_getElem (by omega)⟩
            have hxm := hcm x (List.mem_of_getElem? hx)
            obtain ⟨k, j, rfl, hkj⟩ := hpm x hxm
            have w2 : IntKind.i64.wrap ((i : Int) + 1) = ((i + 1 : Nat) : Int) := by rw [wrap64 (by omega) (by omega)]; omega
            have c1 := hct _ hxm
            have c2 := hcs _ hxm
            rw [hca _ hxm] at c2
            rw [hcb _ hxm] at c1
            simp only [Tm.av, show ((1 : Nat) : Int) = 1 from rfl] at c1 c2
            have hal : (pr k j).args.length = 2 := rfl
            have hal' : (((pr k j).args.length : Nat) : Int) = 2 := rfl
            have hg := Tm.pvs_get hx
            have e0 : (Tm.pvs (pr k j).args)[0]? = some k.pv := rfl
            have e1 : (Tm.pvs (pr k j).args)[1]? = some (Tm.mk 1 j [] []).pv := rfl
            cases i with
            | zero =>
              have w1 : IntKind.i64.wrap 1 = ((0 + 1 : Nat) : Int) := rfl
              have z : ((0 : Nat) : Int) = 0 := rfl
              rw [z] at hc ⊢
              simp -dsimp -implicitDefEqProofs only [g9, c9r0, c9r1, c9r2, c9r3, c9r4, c9k5, c9r6, c9k7, c9r8, c9b9, c9k10, c9r11, c9r12, c9r13, c9k14, c9r15, c9r16, c9r17, c9k18, c9r19, c9r20, c9k21, c9r22, c9r23, c9k24, c9r25, c9k26, c9r27, c9r28, c9r29, c9k30, c9k31, c9r32, c9b33, c9k34, c9r35, c9, go_sem, collect_lit0, collect_lit1, collect_lit2, collect_lit3, if_true, if_false, true_and, and_true, false_and, and_false, and_self, Nat.zero_add, Nat.add_zero, eq_self, Bool.true_eq_false, Bool.false_eq_true, cond_true, cond_false, decide_eq_true_eq, Bool.not_eq_true', Bool.not_eq_false', decide_eq_false_iff_not, not_true_eq_false, not_false_eq_true, Bool.true_and, Bool.false_and, Bool.and_true, Bool.and_false, Bool.not_true, Bool.not_false, Option.some.injEq, decide_true, decide_false, List.getElem?_cons_zero, List.getElem?_cons_succ, List.length_cons, List.length_nil, List.nil_append, List.cons_append, List.set_cons_zero, List.set_cons_succ, List.take_zero, List.drop_zero, Nat.reduceEqDiff, Nat.reduceAdd, Nat.reduceSub, Nat.reduceLT, Nat.reduceLeDiff, Nat.reduceMul, Int.reduceEq, Int.reduceLT, Int.reduceLE, Int.reduceAdd, Int.reduceSub, Int.reduceNeg, Int.reduceToNat, reduceCtorEq, ↓reduceIte, hsL, hc, c1, c2, hal', hg, part_args, s_iaddr_pv0 hg, w1, Tm.pvs_len]
              exact ⟨K.length - 1, by omega, 1, rfl, by omega, rfl⟩
            | succ i =>
              obtain ⟨y, hy⟩ : ∃ y, s[i]? = some y := ⟨_, List.getElem?_eq_getElem (by omega)⟩
              have hym := hcm y (List.mem_of_getElem? hy)
              obtain ⟨k', j', rfl, hkj'⟩ := hpm y hym
              have hasc : Asc (pr k' j') (pr k j) := by
                obtain ⟨h1, h1'⟩ := List.getElem?_eq_some_iff.1 hy
                obtain ⟨h2, h2'⟩ := List.getElem?_eq_some_iff.1 hx
                have := List.pairwise_iff_getElem.1 hpa i (i + 1) h1 h2 (by omega)
                rwa [h1', h2'] at this
              have vk : k.valid = true := pr_valid (validAll_mem hva hxm)
              have vk' : k'.valid = true := pr_valid (validAll_mem hva hym)
              have sk := Tm.sizes_mem hxm
              have sk' := Tm.sizes_mem hym
              rw [pr_size] at sk sk'
              have c3 := fun hp => oCmp_ok k' k hp (by omega) (by omega)
              simp only [Tm.av, cmpV, vk, vk', if_true] at c3
              have hasc' : k'.cmp k < 0 ∨ (k'.cmp k = 0 ∧ (j' : Int) < (j : Int)) := hasc
              have w1 : IntKind.i64.wrap (((i + 1 : Nat) : Int) - 1) = (i : Int) := by rw [wrap64 (by omega) (by omega)]; omega
              have hi0 : ¬ ((i + 1 : Nat) : Int) = 0 := by omega
              have hgt : ¬ 0 < k'.cmp k := by omega
              have hg' := Tm.pvs_get hy
              have f0 : (Tm.pvs (pr k' j').args)[0]? = some k'.pv := rfl
              have f1 : (Tm.pvs (pr k' j').args)[1]? = some (Tm.mk 1 j' [] []).pv := rfl
              have n1 : (Tm.mk 1 j [] []).n = (j : Int) := rfl
              have n2 : (Tm.mk 1 j' [] []).n = (j' : Int) := rfl
              have q1 := s_iaddr_pv (sh := some 4) (s := none) (s' := none) (k := .i64) e1
              have q2 := s_iaddr_pv (sh := some 4) (s := none) (s' := none) (k := .i64) f1
              simp only [show ((1 : Nat) : Int) = 1 from rfl] at q1 q2
              have fin : ∃ m, m < K.length - (i + 1) ∧ ∃ i', m = K.length - i' ∧ i' ≤ K.length ∧ i' = i + 1 + 1 := ⟨K.length - (i + 1 + 1), by omega, i + 1 + 1, rfl, by omega, rfl⟩
              rcases hasc' with h | ⟨h, h'⟩
              · have h0 : ¬ k'.cmp k = 0 := by omega
                simp -dsimp -implicitDefEqProofs only [g9, c9r0, c9r1, c9r2, c9r3, c9r4, c9k5, c9r6, c9k7, c9r8, c9b9, c9k10, c9r11, c9r12, c9r13, c9k14, c9r15, c9r16, c9r17, c9k18, c9r19, c9r20, c9k21, c9r22, c9r23, c9k24, c9r25, c9k26, c9r27, c9r28, c9r29, c9k30, c9k31, c9r32, c9b33, c9k34, c9r35, c9, go_sem, collect_lit0, collect_lit1, collect_lit2, collect_lit3, if_true, if_false, true_and, and_true, false_and, and_false, and_self, Nat.zero_add, Nat.add_zero, eq_self, Bool.true_eq_false, Bool.false_eq_true, cond_true, cond_false, decide_eq_true_eq, Bool.not_eq_true', Bool.not_eq_false', decide_eq_false_iff_not, not_true_eq_false, not_false_eq_true, Bool.true_and, Bool.false_and, Bool.and_true, Bool.and_false, Bool.not_true, Bool.not_false, Option.some.injEq, decide_true, decide_false, List.getElem?_cons_zero, List.getElem?_cons_succ, List.length_cons, List.length_nil, List.nil_append, List.cons_append, List.set_cons_zero, List.set_cons_succ, List.take_zero, List.drop_zero, Nat.reduceEqDiff, Nat.reduceAdd, Nat.reduceSub, Nat.reduceLT, Nat.reduceLeDiff, Nat.reduceMul, Int.reduceEq, Int.reduceLT, Int.reduceLE, Int.reduceAdd, Int.reduceSub, Int.reduceNeg, Int.reduceToNat, reduceCtorEq, ↓reduceIte, hsL, hc, c1, c2, c3, hal', hg, part_args, part_n, Tm.pvs_len, s_iaddr_pv hg, s_iaddr_pv hg', s_iaddr_pv0 e0, s_iaddr_pv0 f0, q1, q2, w1, w2, hi0, hgt, h0, n1, n2]
                exact ⟨K.length - (i + 1 + 1), by omega, i + 1 + 1, rfl, by omega, rfl⟩
              · have hle' : ¬ (j : Int) ≤ (j' : Int) := by omega
                simp -dsimp -implicitDefEqProofs only [g9, c9r0, c9r1, c9r2, c9r3, c9r4, c9k5, c9r6, c9k7, c9r8, c9b9, c9k10, c9r11, c9r12, c9r13, c9k14, c9r15, c9r16, c9r17, c9k18, c9r19, c9r20, c9k21, c9r22, c9r23, c9k24, c9r25, c9k26, c9r27, c9r28, c9r29, c9k30, c9k31, c9r32, c9b33, c9k34, c9r35, c9, go_sem, collect_lit0, collect_lit1, collect_lit2, collect_lit3, if_true, if_false, true_and, and_true, false_and, and_false, and_self, Nat.zero_add, Nat.add_zero, eq_self, Bool.true_eq_false, Bool.false_eq_true, cond_true, cond_false, decide_eq_true_eq, Bool.not_eq_true', Bool.not_eq_false', decide_eq_false_iff_not, not_true_eq_false, not_false_eq_true, Bool.true_and, Bool.false_and, Bool.and_true, Bool.and_false, Bool.not_true, Bool.not_false, Option.some.injEq, decide_true, decide_false, List.getElem?_cons_zero, List.getElem?_cons_succ, List.length_cons, List.length_nil, List.nil_append, List.cons_append, List.set_cons_zero, List.set_cons_succ, List.take_zero, List.drop_zero, Nat.reduceEqDiff, Nat.reduceAdd, Nat.reduceSub, Nat.reduceLT, Nat.reduceLeDiff, Nat.reduceMul, Int.reduceEq, Int.reduceLT, Int.reduceLE, Int.reduceAdd, Int.reduceSub, Int.reduceNeg, Int.reduceToNat, reduceCtorEq, ↓reduceIte, hsL, hc, c1, c2, c3, hal', hg, part_args, part_n, Tm.pvs_len, s_iaddr_pv hg, s_iaddr_pv hg', s_iaddr_pv0 e0, s_iaddr_pv0 f0, q1, q2, w1, w2, hi0, hgt, h, hle', n1, n2]
                exact ⟨K.length - (i + 1 + 1), by omega, i + 1 + 1, rfl, by omega, rfl⟩
          · have hc : ¬ (i : Int) < (K.length : Int) := by omega
            simp -dsimp -implicitDefEqProofs only [g9, c9r0, c9r1, c9r2, c9r3, c9r4, c9k5, c9r6, c9k7, c9r8, c9b9, c9k10, c9r11, c9r12, c9r13, c9k14, c9r15, c9r16, c9r17, c9k18, c9r19, c9r20, c9k21, c9r22, c9r23, c9k24, c9r25, c9k26, c9r27, c9r28, c9r29, c9k30, c9k31, c9r32, c9b33, c9k34, c9r35, c9, go_sem, collect_lit0, collect_lit1, collect_lit2, collect_lit3, if_true, if_false, true_and, and_true, false_and, and_false, and_self, Nat.zero_add, Nat.add_zero, eq_self, Bool.true_eq_false, Bool.false_eq_true, cond_true, cond_false, decide_eq_true_eq, Bool.not_eq_true', Bool.not_eq_false', decide_eq_false_iff_not, not_true_eq_false, not_false_eq_true, Bool.true_and, Bool.false_and, Bool.and_true, Bool.and_false, Bool.not_true, Bool.not_false, Option.some.injEq, decide_true, decide_false, List.getElem?_cons_zero, List.getElem?_cons_succ, List.length_cons, List.length_nil, List.nil_append, List.cons_append, List.set_cons_zero, List.set_cons_succ, List.take_zero, List.drop_zero, Nat.reduceEqDiff, Nat.reduceAdd, Nat.reduceSub, Nat.reduceLT, Nat.reduceLeDiff, Nat.reduceMul, Int.reduceEq, Int.reduceLT, Int.reduceLE, Int.reduceAdd, Int.reduceSub, Int.reduceNeg, Int.reduceToNat, reduceCtorEq, ↓reduceIte, hsL, hc, ha]
      · rw [Bool.not_eq_true] at hva
        rw [hva] at hv hk
        (repeat' (first | (simp -dsimp -implicitDefEqProofs only [g9, c9r0, c9r1, c9r2, c9r3, c9r4, c9k5, c9r6, c9k7, c9r8, c9b9, c9k10, c9r11, c9r12, c9r13, c9k14, c9r15, c9r16, c9r17, c9k18, c9r19, c9r20, c9k21, c9r22, c9r23, c9k24, c9r25, c9k26, c9r27, c9r28, c9r29, c9k30, c9k31, c9r32, c9b33, c9k34, c9r35, c9, go_sem, collect_lit0, collect_lit1, collect_lit2, collect_lit3, if_true, if_false, true_and, and_true, false_and, and_false, and_self, Nat.zero_add, Nat.add_zero, eq_self, Bool.true_eq_false, Bool.false_eq_true, cond_true, cond_false, decide_eq_true_eq, Bool.not_eq_true', Bool.not_eq_false', decide_eq_false_iff_not, not_true_eq_false, not_false_eq_true, Bool.true_and, Bool.false_and, Bool.and_true, Bool.and_false, Bool.not_true, Bool.not_false, Option.some.injEq, decide_true, decide_false, List.getElem?_cons_zero, List.getElem?_cons_succ, List.length_cons, List.length_nil, List.nil_append, List.cons_append, List.set_cons_zero, List.set_cons_succ, List.take_zero, List.drop_zero, Nat.reduceEqDiff, Nat.reduceAdd, Nat.reduceSub, Nat.reduceLT, Nat.reduceLeDiff, Nat.reduceMul, Int.reduceEq, Int.reduceLT, Int.reduceLE, Int.reduceAdd, Int.reduceSub, Int.reduceNeg, Int.reduceToNat, reduceCtorEq, ↓reduceIte, *]) | (refine iteK_intro (fun _ => ?_) (fun _ => ?_))))
set_option maxRecDepth 100000 in
theorem orderKeyed_lifted (os : Os) (started : os.Started) (H : Type) (enc : TypeId × Value → H) (F : Stop.Interp) :
    ReturnsInHanded {} Try.checked os 9 .any ((Rows.OpenSpec.upto Rows.orderKeyedSpec).pre6 enc Try.prog Try.f9 Rows.orderKeyedUptoRow.domain false) (((Rows.OpenSpec.upto Rows.orderKeyedSpec).at F).post enc Try.prog Try.f9 false true false false) := by
  refine returnsInHanded_of_cond (C := Try.checked) (s := (Rows.OpenSpec.upto Rows.orderKeyedSpec)) (k := Rows.uptoSmall) rfl Try.own started (by kernel_rfl) Try.func9
    (OpenSpec.witness (enc := enc) (C := Try.checked) (s := (Rows.OpenSpec.upto Rows.orderKeyedSpec)) (k := Rows.uptoSmall) rfl false ⟨#[], #[.slice none 0 0], []⟩ 8 (by kernel_rfl) (by kernel_rfl) (by kernel_rfl)
      (x := ([.nil], [], [])) (by kernel_rfl) rfl (by kernel_rfl)) ?_
  intro W base args ds gs before hval0 hW _ hk _
  have hval : ∀ (j : Nat) t v, Try.f9.params[j]? = some t → args[j]? = some v → Value.okWide Try.prog W .any base t v := hval0
  have hb := bulk_bound hk
  have hW' := hW
  obtain ⟨p, q, hA0, hV, rfl, hfz, hnd⟩ := hW
  have hA : DataW.TrodAll enc Try.prog W 0 (fun _ => true) true Try.f9.params.toList args.toList ds p := hA0
  rw [Try.params9] at hA hval
  clear hA0 hval0
  obtain ⟨v0, vs0, d0, ds0, p0, q0, e0, rfl, rfl, h0, r0'⟩ := trodAll_cons hA
  obtain ⟨e1, rfl, rfl⟩ := trodAll_nil r0'
  subst e1
  obtain rfl : args = #[v0] := by cases args; simp_all
  obtain ⟨rfl, rfl⟩ := trodVars_none hV
  obtain ⟨t0, a0, z0, r0⟩ := open_terms h0 (hval 0 _ v0 rfl rfl)
  simp only [Rows.uptoBulkAll, List.append_nil] at hb
  exact law_contract sound Try.func9 (by kernel_rfl) Try.laidOut (s := Rows.orderKeyedSpec) rfl rfl hW' (.cons a0 (.nil)) (orderKeyed_sem t0 (by omega))
theorem orderKeyed_holds : Rows.OrderKeyedUptoSaid :=
  OpenClaim.holds_of_cond 9 Try.f9 rfl rfl rfl rfl rfl rfl rfl ⟨rfl, rfl, rfl, rfl, rfl⟩ rfl rfl rfl rfl rfl (by kernel_rfl) Try.func9 (by kernel_rfl)
    (of_decide_eq_true (by kernel_rfl)) (by unfold Func.isWrapper; first | (rw [if_pos (by decide +kernel)]; kernel_rfl) | (rw [if_neg (by decide +kernel)]; exact ⟨rfl, rfl⟩))
    (fun os started H enc _ F => orderKeyed_lifted os started H enc F)
end Go.Proofs.Yteaehiceghhajaa
