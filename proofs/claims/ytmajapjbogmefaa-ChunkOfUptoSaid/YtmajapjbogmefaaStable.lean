/- What is proved: the library's stable sorting sorts as insertion does. -/
import Derived.Test.YtmajapjbogmefaaSym
set_option linter.unusedSimpArgs false
set_option linter.unusedVariables false
namespace Go.Proofs.Ytmajapjbogmefaa
open Go.Am
section
variable (c : PV → PV → Int) (hC : Cmp c) (fv : AV) (D : PV → Prop) (hp : Heap) (r : Nat) (hg : CmpF c fv D hp r) (hr : r < hp.length) (N : Nat) (hN' : N < 100000000)
include hC hg hr hN'
theorem stable_ok (xs : List PV) (hN : N = xs.length) (hD : ∀ x ∈ xs, D x) :
    S 44 [.sl none r N 0 N, .pv none (.int .i64 N), fv] (hp.set r (.arr none xs false)) = some (.ret (.tuple []), hp.set r (.arr none (isort c xs) false)) := by
  have hsl : (hp.set r (.arr none xs false)).length = hp.length := by simp
  refine sem_heap rfl rfl rfl rfl ?_
  rw [hsl]
  simp -dsimp -implicitDefEqProofs only [g44, c44r0, c44r1, c44r2, c44k3, c44r4, c44r5, c44r6, c44k7, c44b8, c44k9, c44r10, c44r11, c44k12, c44r13, c44r14, c44k15, c44r16, c44r17, c44r18, c44k19, c44b20, c44k21, c44r22, c44r23, c44r24, c44k25, c44r26, c44k27, c44b28, c44k29, c44, go_sem, seval, ↓reduceIte]
  /- the blocks -/
  refine W_loop (fun n st => ∃ (a : Nat) (Z : List PV), n = N - a ∧ a ≤ N ∧ Full c 20 (xs.take a) Z ∧ st = ⟨[(0, .sl none r N 0 N), (1, .pv none (.int .i64 N)), (2, fv), (6, .pv none (.int .i64 20)), (7, .pv none (.int .i64 a)), (8, .pv none (.int .i64 ((a + 20 : Nat) : Int)))], hp.set r (.arr none (Z ++ xs.drop a) false)⟩) (n := N) ⟨0, [], rfl, Nat.zero_le _, .nil, ?_⟩ ?_
  · simp -dsimp -implicitDefEqProofs only [go_sem, seval, ↓reduceIte]
    try simp
  · rintro n st ⟨a, Z, hn, ha, hF, rfl⟩
    have hZ : Z.length = a := by rw [hF.length]; simp; omega
    have hD' : ∀ x ∈ xs.drop a, D x := fun x hx => hD x (List.mem_of_mem_drop hx)
    by_cases hb : a + 20 ≤ N
    · have hc : ((a + 20 : Nat) : Int) ≤ (N : Int) := by omega
      have w1 : IntKind.i64.wrap (((a + 20 : Nat) : Int) + 20) = ((a + 20 + 20 : Nat) : Int) := by rw [wrap64 (by omega) (by omega)]; omega
      have hx : (xs.drop a).take 20 ++ (xs.drop a).drop 20 = xs.drop a := List.take_append_drop _ _
      have hl : ((xs.drop a).take 20).length = 20 := by simp; omega
      have hcall := insertion_ok c hC fv D hp r hg hr a (a + 20) N Z ((xs.drop a).take 20) ((xs.drop a).drop 20) hZ (by omega) (by simp [hZ]; omega) (by omega) (fun x h => hD' x (List.mem_of_mem_take h))
      rw [show Z ++ (xs.drop a).take 20 ++ (xs.drop a).drop 20 = Z ++ xs.drop a by rw [List.append_assoc, hx]] at hcall
      simp -dsimp -implicitDefEqProofs only [g44, c44r0, c44r1, c44r2, c44k3, c44r4, c44r5, c44r6, c44k7, c44b8, c44k9, c44r10, c44r11, c44k12, c44r13, c44r14, c44k15, c44r16, c44r17, c44r18, c44k19, c44b20, c44k21, c44r22, c44r23, c44r24, c44k25, c44r26, c44k27, c44b28, c44k29, c44, go_sem, seval, ↓reduceIte, hc, w1, hcall]
      refine ⟨N - (a + 20), by omega, a + 20, Z ++ isort c ((xs.drop a).take 20), rfl, by omega, ?_, ?_⟩
      · have := Full.snoc (c := c) (n := 20) _ _ _ hl hF
        rwa [← List.take_add] at this
      · rw [collect_id (by simp), List.drop_drop]
    · have hc : ¬ ((a + 20 : Nat) : Int) ≤ (N : Int) := by omega
      have hcall := insertion_ok c hC fv D hp r hg hr a N N Z (xs.drop a) [] hZ (by simp; omega) (by simp [hZ]; omega) (by omega) hD'
      simp only [List.append_nil] at hcall
      have hB : Blk c 20 xs (Z ++ isort c (xs.drop a)) := by
        have := hF.blk (.last (xs.drop a) (by simp; omega))
        rwa [List.take_append_drop] at this
      simp -dsimp -implicitDefEqProofs only [g44, c44r0, c44r1, c44r2, c44k3, c44r4, c44r5, c44r6, c44k7, c44b8, c44k9, c44r10, c44r11, c44k12, c44r13, c44r14, c44k15, c44r16, c44r17, c44r18, c44k19, c44b20, c44k21, c44r22, c44r23, c44r24, c44k25, c44r26, c44k27, c44b28, c44k29, c44, go_sem, seval, ↓reduceIte, hc, hcall]
      generalize Z ++ isort c (xs.drop a) = d0 at hB
      clear hcall hF hZ hD' ha hn hc hb Z a
      /- the merging -/
      refine W_loop (fun n st => ∃ (bs : Nat) (d : List PV), n = N - bs ∧ 20 ≤ bs ∧ Blk c bs xs d ∧ st = ⟨[(0, .sl none r N 0 N), (1, .pv none (.int .i64 N)), (2, fv), (6, .pv none (.int .i64 bs))], hp.set r (.arr none d false)⟩) (n := N - 20) ⟨20, d0, rfl, Nat.le_refl _, hB, ?_⟩ ?_
      · simp -dsimp -implicitDefEqProofs only [go_sem, seval, ↓reduceIte]
        try rfl
      · rintro n1 st ⟨bs, d, hn1, hbs, hB, rfl⟩
        by_cases hlt : bs < N
        · have hc : (bs : Int) < (N : Int) := by omega
          have w1 : IntKind.i64.wrap (2 * (bs : Int)) = ((0 + 2 * bs : Nat) : Int) := by rw [wrap64 (by omega) (by omega)]; omega
          have w2 : IntKind.i64.wrap ((bs : Int) * 2) = ((2 * bs : Nat) : Int) := by rw [wrap64 (by omega) (by omega)]; omega
          simp -dsimp -implicitDefEqProofs only [g44, c44r0, c44r1, c44r2, c44k3, c44r4, c44r5, c44r6, c44k7, c44b8, c44k9, c44r10, c44r11, c44k12, c44r13, c44r14, c44k15, c44r16, c44r17, c44r18, c44k19, c44b20, c44k21, c44r22, c44r23, c44r24, c44k25, c44r26, c44k27, c44b28, c44k29, c44, go_sem, seval, ↓reduceIte, hc, w1]
          refine W_loop (fun n st => ∃ (a : Nat) (Z d r0 r1 : List PV), n = N - a ∧ a ≤ N ∧ xs = r0 ++ r1 ∧ r0.length = a ∧ Full c (2 * bs) r0 Z ∧ Blk c bs r1 d ∧ st = ⟨[(0, .sl none r N 0 N), (1, .pv none (.int .i64 N)), (2, fv), (6, .pv none (.int .i64 bs)), (7, .pv none (.int .i64 a)), (8, .pv none (.int .i64 ((a + 2 * bs : Nat) : Int)))], hp.set r (.arr none (Z ++ d) false)⟩) (n := N) ⟨0, [], d, [], xs, rfl, Nat.zero_le _, rfl, rfl, .nil, hB, ?_⟩ ?_
          · simp -dsimp -implicitDefEqProofs only [go_sem, seval, ↓reduceIte]
            try rfl
          · rintro n2 st ⟨a, Z, d, r0, r1, hn2, ha, hxs, hr0, hF, hB1, rfl⟩
            have hZ : Z.length = a := by rw [hF.length, hr0]
            have hl1 : a + r1.length = N := by rw [hN, hxs]; simp [hr0]
            have hDZ : ∀ x ∈ Z ++ d, D x := fun x hx => hD x (by
              rw [hxs]
              rcases List.mem_append.1 hx with h | h
              · exact List.mem_append.2 (.inl (hF.mem.1 h))
              · exact List.mem_append.2 (.inr (hB1.mem.1 h)))
            have w3 : IntKind.i64.wrap ((a : Int) + (bs : Int)) = ((a + bs : Nat) : Int) := by rw [wrap64 (by omega) (by omega)]; omega
            by_cases hb : a + 2 * bs ≤ N
            · have hc2 : ((a + 2 * bs : Nat) : Int) ≤ (N : Int) := by omega
              obtain ⟨x, y, r2, d2, e1, e2, lx, ly, ly0, hB2, hy⟩ := hB1.two (by omega) (by omega)
              have ly' : y.length = bs := by
                rcases Nat.lt_or_ge y.length bs with h | h
                · have := hy h; rw [e1, this] at hl1; simp at hl1; omega
                · omega
              have w4 : IntKind.i64.wrap (2 * (bs : Int)) = ((2 * bs : Nat) : Int) := by rw [wrap64 (by omega) (by omega)]; omega
              have w5 : IntKind.i64.wrap (((a + 2 * bs : Nat) : Int) + ((2 * bs : Nat) : Int)) = ((a + 2 * bs + 2 * bs : Nat) : Int) := by rw [wrap64 (by omega) (by omega)]; omega
              have hld := hB1.length
              have hcall := sym_ok c hC fv D hp r hg hr N hN' (2 * bs) a (a + bs) (a + 2 * bs) Z (isort c x) (isort c y) d2 (by omega) hZ (by rw [isort_length, lx]) (by rw [isort_length, ly']; omega) (by rw [e2] at hld; simp [isort_length] at hld ⊢; omega) (by rw [isort_length]; omega) (by rw [isort_length]; omega) (isort_srt hC x) (isort_srt hC y) (fun z hz => hDZ z (by rw [e2]; simpa using hz))
              rw [show Z ++ isort c x ++ isort c y ++ d2 = Z ++ d by rw [e2]; simp, ← isort_append hC] at hcall
              simp -dsimp -implicitDefEqProofs only [g44, c44r0, c44r1, c44r2, c44k3, c44r4, c44r5, c44r6, c44k7, c44b8, c44k9, c44r10, c44r11, c44k12, c44r13, c44r14, c44k15, c44r16, c44r17, c44r18, c44k19, c44b20, c44k21, c44r22, c44r23, c44r24, c44k25, c44r26, c44k27, c44b28, c44k29, c44, go_sem, seval, ↓reduceIte, hc2, w3, w4, w5, hcall]
              refine ⟨N - (a + 2 * bs), by omega, a + 2 * bs, Z ++ isort c (x ++ y), d2, r0 ++ (x ++ y), r2, rfl, hb, by rw [hxs, e1]; simp, by simp [hr0, lx, ly']; omega, .snoc _ _ _ (by simp [lx, ly']; omega) hF, hB2, ?_⟩
              rw [collect_id (by simp)]
            · have hc2 : ¬ ((a + 2 * bs : Nat) : Int) ≤ (N : Int) := by omega
              by_cases hm : a + bs < N
              · have hc3 : ((a + bs : Nat) : Int) < (N : Int) := by omega
                obtain ⟨x, y, r2, d2, e1, e2, lx, ly, ly0, hB2, hy⟩ := hB1.two (by omega) (by omega)
                have ly' : y.length < bs := by rw [e1] at hl1; simp at hl1; omega
                have hr2 := hy ly'
                subst hr2
                have hd2 : d2 = [] := List.length_eq_zero_iff.1 hB2.length
                subst hd2
                have hld := hB1.length
                have hcall := sym_ok c hC fv D hp r hg hr N hN' (2 * bs) a (a + bs) N Z (isort c x) (isort c y) [] (by omega) hZ (by rw [isort_length, lx]) (by rw [isort_length]; rw [e1] at hl1; simp at hl1; omega) (by rw [e2] at hld; simp [isort_length] at hld ⊢; omega) (by rw [isort_length]; omega) (by rw [isort_length]; omega) (isort_srt hC x) (isort_srt hC y) (fun z hz => hDZ z (by rw [e2]; simpa using hz))
                rw [show Z ++ isort c x ++ isort c y ++ [] = Z ++ d by rw [e2]; simp, ← isort_append hC] at hcall
                simp -dsimp -implicitDefEqProofs only [g44, c44r0, c44r1, c44r2, c44k3, c44r4, c44r5, c44r6, c44k7, c44b8, c44k9, c44r10, c44r11, c44k12, c44r13, c44r14, c44k15, c44r16, c44r17, c44r18, c44k19, c44b20, c44k21, c44r22, c44r23, c44r24, c44k25, c44r26, c44k27, c44b28, c44k29, c44, go_sem, seval, ↓reduceIte, hc2, hc3, w2, w3, hcall]
                have hres := hF.blk (.last r1 (by omega : r1.length ≤ 2 * bs))
                rw [← hxs] at hres
                refine ⟨N - 2 * bs, by omega, 2 * bs, Z ++ isort c r1, rfl, by omega, hres, ?_⟩
                rw [collect_id (by simp), e1]
                simp
              · have hc3 : ¬ ((a + bs : Nat) : Int) < (N : Int) := by omega
                have hd := hB1.whole (by omega)
                simp -dsimp -implicitDefEqProofs only [g44, c44r0, c44r1, c44r2, c44k3, c44r4, c44r5, c44r6, c44k7, c44b8, c44k9, c44r10, c44r11, c44k12, c44r13, c44r14, c44k15, c44r16, c44r17, c44r18, c44k19, c44b20, c44k21, c44r22, c44r23, c44r24, c44k25, c44r26, c44k27, c44b28, c44k29, c44, go_sem, seval, ↓reduceIte, hc2, hc3, w2, w3]
                have hres := hF.blk (.last r1 (by omega : r1.length ≤ 2 * bs))
                rw [← hxs] at hres
                refine ⟨N - 2 * bs, by omega, 2 * bs, Z ++ isort c r1, rfl, by omega, hres, ?_⟩
                rw [collect_id (by simp), hd]
        · have hc : ¬ (bs : Int) < (N : Int) := by omega
          have hd := hB.whole (by omega)
          simp -dsimp -implicitDefEqProofs only [g44, c44r0, c44r1, c44r2, c44k3, c44r4, c44r5, c44r6, c44k7, c44b8, c44k9, c44r10, c44r11, c44k12, c44r13, c44r14, c44k15, c44r16, c44r17, c44r18, c44k19, c44b20, c44k21, c44r22, c44r23, c44r24, c44k25, c44r26, c44k27, c44b28, c44k29, c44, go_sem, seval, ↓reduceIte, hc]
          rw [List.take_of_length_le (by simp), hd]
end
end Go.Proofs.Ytmajapjbogmefaa
