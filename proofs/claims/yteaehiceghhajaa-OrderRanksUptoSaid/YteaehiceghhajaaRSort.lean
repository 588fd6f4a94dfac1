/- What is proved: the reference's sorting, as a plain function. -/
import Derived.Test.YteaehiceghhajaaRank2
set_option linter.unusedSimpArgs false
set_option linter.unusedVariables false
namespace Go.Proofs.Yteaehiceghhajaa
open Go.Am
theorem rkey_ok (t : Tm) (hp : Heap) : S 61 [.pv (some 4) t.pv, .pv none (.bool false)] hp = some (.ret (.pv (some 4) t.pv), hp) := by
  refine sem_pure rfl rfl rfl (freezeAll_pvs [(some 4, t.pv), (none, .bool false)]) rfl ?_
  simp -dsimp -implicitDefEqProofs only [g61, c61r0, c61r1, c61r2, c61k3, c61r4, c61, go_sem, collect_lit0, collect_lit1, collect_lit2, collect_lit3, if_true, if_false, true_and, and_true, false_and, and_false, and_self, Nat.zero_add, Nat.add_zero, eq_self, Bool.true_eq_false, Bool.false_eq_true, cond_true, cond_false, decide_eq_true_eq, Bool.not_eq_true', Bool.not_eq_false', decide_eq_false_iff_not, not_true_eq_false, not_false_eq_true, Bool.true_and, Bool.false_and, Bool.and_true, Bool.and_false, Bool.not_true, Bool.not_false, Option.some.injEq, decide_true, decide_false, List.getElem?_cons_zero, List.getElem?_cons_succ, List.length_cons, List.length_nil, List.nil_append, List.cons_append, List.set_cons_zero, List.set_cons_succ, List.take_zero, List.drop_zero, Nat.reduceEqDiff, Nat.reduceAdd, Nat.reduceSub, Nat.reduceLT, Nat.reduceLeDiff, Nat.reduceMul, Int.reduceEq, Int.reduceLT, Int.reduceLE, Int.reduceAdd, Int.reduceSub, Int.reduceNeg, Int.reduceToNat, reduceCtorEq, ↓reduceIte, result_cell]
/-- Where a term goes among the first so many. -/
def insPos (l : List Tm) (t : Tm) : Nat → Nat
  | 0 => 0
  | n + 1 => match l[n]? with
    | some x => if 0 < x.cmp t then insPos l t n else n + 1
    | none => n + 1
def ins (l : List Tm) (t : Tm) : List Tm := l.take (insPos l t l.length) ++ t :: l.drop (insPos l t l.length)
theorem insPos_le (l : List Tm) (t : Tm) : ∀ n, insPos l t n ≤ n
  | 0 => Nat.le_refl _
  | n + 1 => by
    unfold insPos
    split
    · split
      · have := insPos_le l t n; omega
      · omega
    · omega
theorem mem_ins {l : List Tm} {t x : Tm} : x ∈ ins l t ↔ x ∈ l ∨ x = t := by
  unfold ins
  rw [List.mem_append, List.mem_cons]
  have h : x ∈ l ↔ x ∈ l.take (insPos l t l.length) ∨ x ∈ l.drop (insPos l t l.length) := by rw [← List.mem_append, List.take_append_drop]
  rw [h]
  constructor
  · rintro (h | h | h) <;> simp [h]
  · rintro ((h | h) | h) <;> simp [h]
theorem sizes_ins (l : List Tm) (t : Tm) : Tm.sizes (ins l t) = Tm.sizes l + t.size := by
  unfold ins
  have h := Tm.sizes_append (l.take (insPos l t l.length)) (l.drop (insPos l t l.length))
  rw [List.take_append_drop] at h
  rw [Tm.sizes_append, h]
  simp only [Tm.sizes]
  omega
theorem length_ins (l : List Tm) (t : Tm) : (ins l t).length = l.length + 1 := by
  unfold ins
  have := insPos_le l t l.length
  simp
  omega
theorem rinsert_ok (l : List Tm) (t : Tm) (args : List AV) (hp hp1 : Heap) (hz : freezeAll args hp = some ([(none, .sl (some 4) (Tm.pvs l)), (some 4, t.pv), (none, .bool false)], hp1)) (hl : Tm.sizes l + t.size < 1000000000) (hv : validAll l = true) (ht : t.valid = true) :
    S 45 args hp = some (.ret (.pv none (.sl (some 4) (Tm.pvs (ins l t)))), hp1) := by
  refine sem_pure rfl rfl rfl hz rfl ?_
  have hlen := Tm.sizes_len l
  have hkey := rkey_ok
  simp -dsimp -implicitDefEqProofs only [g45, c45r0, c45r1, c45r2, c45k3, c45r4, c45k5, c45b6, c45k7, c45r8, c45r9, c45r10, c45r11, c45, go_sem, collect_lit0, collect_lit1, collect_lit2, collect_lit3, if_true, if_false, true_and, and_true, false_and, and_false, and_self, Nat.zero_add, Nat.add_zero, eq_self, Bool.true_eq_false, Bool.false_eq_true, cond_true, cond_false, decide_eq_true_eq, Bool.not_eq_true', Bool.not_eq_false', decide_eq_false_iff_not, not_true_eq_false, not_false_eq_true, Bool.true_and, Bool.false_and, Bool.and_true, Bool.and_false, Bool.not_true, Bool.not_false, Option.some.injEq, decide_true, decide_false, List.getElem?_cons_zero, List.getElem?_cons_succ, List.length_cons, List.length_nil, List.nil_append, List.cons_append, List.set_cons_zero, List.set_cons_succ, List.take_zero, List.drop_zero, Nat.reduceEqDiff, Nat.reduceAdd, Nat.reduceSub, Nat.reduceLT, Nat.reduceLeDiff, Nat.reduceMul, Int.reduceEq, Int.reduceLT, Int.reduceLE, Int.reduceAdd, Int.reduceSub, Int.reduceNeg, Int.reduceToNat, reduceCtorEq, ↓reduceIte, Tm.pvs_len, w_nilsl (show 0 < Sh.size (some 4) by decide)]
  refine W_loop (fun n st => ∃ i : Nat, n = i ∧ i ≤ l.length ∧ insPos l t l.length = insPos l t i ∧ st = ⟨[(0, .pv none (.sl (some 4) (Tm.pvs l))), (2, .pv none (.bool false)), (4, .ptr 0 0), (7, .pv none (.int .i64 i))], [.box (some 4) (.pv (some 4) t.pv), .arr (some 4) [] false]⟩) (n := l.length) ⟨l.length, rfl, Nat.le_refl _, rfl, ?_⟩ ?_
  · simp -dsimp -implicitDefEqProofs only [go_sem, collect_lit0, collect_lit1, collect_lit2, collect_lit3, if_true, if_false, true_and, and_true, false_and, and_false, and_self, Nat.zero_add, Nat.add_zero, eq_self, Bool.true_eq_false, Bool.false_eq_true, cond_true, cond_false, decide_eq_true_eq, Bool.not_eq_true', Bool.not_eq_false', decide_eq_false_iff_not, not_true_eq_false, not_false_eq_true, Bool.true_and, Bool.false_and, Bool.and_true, Bool.and_false, Bool.not_true, Bool.not_false, Option.some.injEq, decide_true, decide_false, List.getElem?_cons_zero, List.getElem?_cons_succ, List.length_cons, List.length_nil, List.nil_append, List.cons_append, List.set_cons_zero, List.set_cons_succ, List.take_zero, List.drop_zero, Nat.reduceEqDiff, Nat.reduceAdd, Nat.reduceSub, Nat.reduceLT, Nat.reduceLeDiff, Nat.reduceMul, Int.reduceEq, Int.reduceLT, Int.reduceLE, Int.reduceAdd, Int.reduceSub, Int.reduceNeg, Int.reduceToNat, reduceCtorEq, ↓reduceIte]
  · rintro n st ⟨i, hn, hi, he, rfl⟩
    have hti : (l.take i).length = i := by simp; omega
    have htd : (l.drop i).length = l.length - i := by simp
    have hl1 : i ≤ lim := by unfold lim; omega
    have hl2 : i + 1 ≤ lim := by unfold lim; omega
    have hl3 : i + 1 + (l.length - i) ≤ lim := by unfold lim; omega
    have hpl : i ≤ (Tm.pvs l).length := by rw [Tm.pvs_len]; exact hi
    have hln : (Tm.pvs (l.take i) ++ [t.pv]).length = i + 1 := by simp [Tm.pvs_len, hti]
    have hln3 : (Tm.pvs (l.take i) ++ [t.pv] ++ Tm.pvs (l.drop i)).length = i + 1 + (l.length - i) := by simp [Tm.pvs_len, hti, htd]; omega
    have fin : i = insPos l t l.length → Tm.pvs (ins l t) = Tm.pvs (l.take i) ++ [t.pv] ++ Tm.pvs (l.drop i) := by
      intro hk
      unfold ins
      rw [← hk, Tm.pvs_append, List.append_assoc]
      rfl
    by_cases h0 : i = 0
    · have hc : ¬ (0 : Int) < (i : Int) := by omega
      have hf := fin (by rw [he, h0]; rfl)
      simp -dsimp -implicitDefEqProofs only [g45, c45r0, c45r1, c45r2, c45k3, c45r4, c45k5, c45b6, c45k7, c45r8, c45r9, c45r10, c45r11, c45, go_sem, collect_lit0, collect_lit1, collect_lit2, collect_lit3, if_true, if_false, true_and, and_true, false_and, and_false, and_self, Nat.zero_add, Nat.add_zero, eq_self, Bool.true_eq_false, Bool.false_eq_true, cond_true, cond_false, decide_eq_true_eq, Bool.not_eq_true', Bool.not_eq_false', decide_eq_false_iff_not, not_true_eq_false, not_false_eq_true, Bool.true_and, Bool.false_and, Bool.and_true, Bool.and_false, Bool.not_true, Bool.not_false, Option.some.injEq, decide_true, decide_false, List.getElem?_cons_zero, List.getElem?_cons_succ, List.length_cons, List.length_nil, List.nil_append, List.cons_append, List.set_cons_zero, List.set_cons_succ, List.take_zero, List.drop_zero, Nat.reduceEqDiff, Nat.reduceAdd, Nat.reduceSub, Nat.reduceLT, Nat.reduceLeDiff, Nat.reduceMul, Int.reduceEq, Int.reduceLT, Int.reduceLE, Int.reduceAdd, Int.reduceSub, Int.reduceNeg, Int.reduceToNat, reduceCtorEq, ↓reduceIte, Tm.pvs_len, hc, w_nilsl (show 0 < Sh.size (some 4) by decide), s_slice_hi hpl, s_slice_lo hpl, Tm.pvs_take, Tm.pvs_drop, hti, htd, hl1, hl2, hl3, hln, hln3, hf]
    · have hc : (0 : Int) < (i : Int) := by omega
      obtain ⟨j, rfl⟩ : ∃ j, i = j + 1 := ⟨i - 1, by omega⟩
      obtain ⟨x, hx⟩ : ∃ x, l[j]? = some x := ⟨_, List.getElem?_eq_getElem (by omega)⟩
      have hm := List.mem_of_getElem? hx
      have hsx := Tm.sizes_mem hm
      have w1 : IntKind.i64.wrap (((j + 1 : Nat) : Int) - 1) = ((j : Nat) : Int) := by rw [wrap64 (by omega) (by omega)]; omega
      have hcall := fun hp => rcompare_ok x t hp (by omega) (valid_fits (validAll_mem hv hm)) (valid_fits ht)
      simp only [Tm.av] at hcall
      by_cases hgt : 0 < x.cmp t
      · simp -dsimp -implicitDefEqProofs only [g45, c45r0, c45r1, c45r2, c45k3, c45r4, c45k5, c45b6, c45k7, c45r8, c45r9, c45r10, c45r11, c45, go_sem, collect_lit0, collect_lit1, collect_lit2, collect_lit3, if_true, if_false, true_and, and_true, false_and, and_false, and_self, Nat.zero_add, Nat.add_zero, eq_self, Bool.true_eq_false, Bool.false_eq_true, cond_true, cond_false, decide_eq_true_eq, Bool.not_eq_true', Bool.not_eq_false', decide_eq_false_iff_not, not_true_eq_false, not_false_eq_true, Bool.true_and, Bool.false_and, Bool.and_true, Bool.and_false, Bool.not_true, Bool.not_false, Option.some.injEq, decide_true, decide_false, List.getElem?_cons_zero, List.getElem?_cons_succ, List.length_cons, List.length_nil, List.nil_append, List.cons_append, List.set_cons_zero, List.set_cons_succ, List.take_zero, List.drop_zero, Nat.reduceEqDiff, Nat.reduceAdd, Nat.reduceSub, Nat.reduceLT, Nat.reduceLeDiff, Nat.reduceMul, Int.reduceEq, Int.reduceLT, Int.reduceLE, Int.reduceAdd, Int.reduceSub, Int.reduceNeg, Int.reduceToNat, reduceCtorEq, ↓reduceIte, Tm.pvs_len, hc, w1, s_iaddr_pv (Tm.pvs_get hx), hkey, hcall, hgt]
        exact ⟨j, by omega, j, rfl, by omega, by rw [he]; simp [insPos, hx, hgt], rfl⟩
      · have hf := fin (by rw [he]; simp [insPos, hx, hgt])
        simp -dsimp -implicitDefEqProofs only [g45, c45r0, c45r1, c45r2, c45k3, c45r4, c45k5, c45b6, c45k7, c45r8, c45r9, c45r10, c45r11, c45, go_sem, collect_lit0, collect_lit1, collect_lit2, collect_lit3, if_true, if_false, true_and, and_true, false_and, and_false, and_self, Nat.zero_add, Nat.add_zero, eq_self, Bool.true_eq_false, Bool.false_eq_true, cond_true, cond_false, decide_eq_true_eq, Bool.not_eq_true', Bool.not_eq_false', decide_eq_false_iff_not, not_true_eq_false, not_false_eq_true, Bool.true_and, Bool.false_and, Bool.and_true, Bool.and_false, Bool.not_true, Bool.not_false, Option.some.injEq, decide_true, decide_false, List.getElem?_cons_zero, List.getElem?_cons_succ, List.length_cons, List.length_nil, List.nil_append, List.cons_append, List.set_cons_zero, List.set_cons_succ, List.take_zero, List.drop_zero, Nat.reduceEqDiff, Nat.reduceAdd, Nat.reduceSub, Nat.reduceLT, Nat.reduceLeDiff, Nat.reduceMul, Int.reduceEq, Int.reduceLT, Int.reduceLE, Int.reduceAdd, Int.reduceSub, Int.reduceNeg, Int.reduceToNat, reduceCtorEq, ↓reduceIte, Tm.pvs_len, hc, w1, s_iaddr_pv (Tm.pvs_get hx), hkey, hcall, hgt, w_nilsl (show 0 < Sh.size (some 4) by decide), s_slice_hi hpl, s_slice_lo hpl, Tm.pvs_take, Tm.pvs_drop, hti, htd, hl1, hl2, hl3, hln, hln3, hf]

def insAll (l : List Tm) : List Tm := l.foldl ins []
theorem insAll_snoc (l : List Tm) (t : Tm) : insAll (l ++ [t]) = ins (insAll l) t := by simp [insAll]
theorem insFold_facts : ∀ (l acc : List Tm), (∀ x, x ∈ l.foldl ins acc ↔ x ∈ acc ∨ x ∈ l) ∧ Tm.sizes (l.foldl ins acc) = Tm.sizes acc + Tm.sizes l ∧ (l.foldl ins acc).length = acc.length + l.length
  | [], acc => ⟨fun x => by simp, by simp [Tm.sizes], by simp⟩
  | t :: l, acc => by
    obtain ⟨h1, h2, h3⟩ := insFold_facts l (ins acc t)
    simp only [List.foldl_cons]
    refine ⟨fun x => ?_, ?_, ?_⟩
    · rw [h1, mem_ins, List.mem_cons, or_assoc]
    · rw [h2, sizes_ins]; simp only [Tm.sizes]; omega
    · rw [h3, length_ins, List.length_cons]; omega
theorem insAll_facts (l : List Tm) : (∀ x, x ∈ insAll l ↔ x ∈ l) ∧ Tm.sizes (insAll l) = Tm.sizes l ∧ (insAll l).length = l.length := by
  obtain ⟨h1, h2, h3⟩ := insFold_facts l []
  exact ⟨fun x => by unfold insAll; rw [h1]; simp, by unfold insAll; rw [h2]; simp [Tm.sizes], by unfold insAll; rw [h3]; simp⟩
theorem validAll_insAll {l : List Tm} (h : validAll l = true) : validAll (insAll l) = true :=
  List.all_eq_true.2 fun x hx => List.all_eq_true.1 h x (((insAll_facts l).1 x).1 hx)
def stableE (l : List Tm) : Int := if validAll l = true then 0 else 1
def stableT (l : List Tm) : List Tm := if validAll l = true then insAll l else []
theorem rstable_ok (l : List Tm) (hl : Tm.sizes l < 100000000) (hp : Heap) : S 20 [.pv none (.sl (some 4) (Tm.pvs l))] hp = some (.ret (.tuple [.pv none (.sl (some 4) (Tm.pvs (stableT l))), .pv none (.int .i64 (stableE l))]), hp) := by
  refine sem_pure rfl rfl rfl (freezeAll_pvs [(none, .sl (some 4) (Tm.pvs l))]) rfl ?_
  have hlen := Tm.sizes_len l
  have h2 := fun hp => rvalidAll_any l (by omega) hp
  by_cases hv : validAll l = true
  · have e1 : stableT l = insAll l := if_pos hv
    have e2 : stableE l = 0 := if_pos hv
    simp -dsimp -implicitDefEqProofs only [g20, c20r0, c20r1, c20r2, c20k3, c20r4, c20r5, c20r6, c20k7, c20r8, c20k9, c20r10, c20b11, c20k12, c20r13, c20, go_sem, collect_lit0, collect_lit1, collect_lit2, collect_lit3, if_true, if_false, true_and, and_true, false_and, and_false, and_self, Nat.zero_add, Nat.add_zero, eq_self, Bool.true_eq_false, Bool.false_eq_true, cond_true, cond_false, decide_eq_true_eq, Bool.not_eq_true', Bool.not_eq_false', decide_eq_false_iff_not, not_true_eq_false, not_false_eq_true, Bool.true_and, Bool.false_and, Bool.and_true, Bool.and_false, Bool.not_true, Bool.not_false, Option.some.injEq, decide_true, decide_false, List.getElem?_cons_zero, List.getElem?_cons_succ, List.length_cons, List.length_nil, List.nil_append, List.cons_append, List.set_cons_zero, List.set_cons_succ, List.take_zero, List.drop_zero, Nat.reduceEqDiff, Nat.reduceAdd, Nat.reduceSub, Nat.reduceLT, Nat.reduceLeDiff, Nat.reduceMul, Int.reduceEq, Int.reduceLT, Int.reduceLE, Int.reduceAdd, Int.reduceSub, Int.reduceNeg, Int.reduceToNat, reduceCtorEq, ↓reduceIte, h2, hv, w_nilsl (show 0 < Sh.size (some 4) by decide)]
    refine W_loop (fun n st => ∃ i : Nat, n = l.length - i ∧ i ≤ l.length ∧ ((i = 0 ∧ st = ⟨[(0, .pv none (.sl (some 4) (Tm.pvs l))), (4, .sl (some 4) 1 0 0 0), (5, .pv none (.int .i64 0))], [.arr (some 4) [] false, .arr (some 4) [] false]⟩) ∨
      ∃ fz, st = ⟨[(0, .pv none (.sl (some 4) (Tm.pvs l))), (4, .pv none (.sl (some 4) (Tm.pvs (insAll (l.take i))))), (5, .pv none (.int .i64 i))], [.arr (some 4) [] false, .arr (some 4) [] fz]⟩)) (n := l.length) ⟨0, rfl, Nat.zero_le _, .inl ⟨rfl, ?_⟩⟩ ?_
    · simp -dsimp -implicitDefEqProofs only [go_sem, collect_lit0, collect_lit1, collect_lit2, collect_lit3, if_true, if_false, true_and, and_true, false_and, and_false, and_self, Nat.zero_add, Nat.add_zero, eq_self, Bool.true_eq_false, Bool.false_eq_true, cond_true, cond_false, decide_eq_true_eq, Bool.not_eq_true', Bool.not_eq_false', decide_eq_false_iff_not, not_true_eq_false, not_false_eq_true, Bool.true_and, Bool.false_and, Bool.and_true, Bool.and_false, Bool.not_true, Bool.not_false, Option.some.injEq, decide_true, decide_false, List.getElem?_cons_zero, List.getElem?_cons_succ, List.length_cons, List.length_nil, List.nil_append, List.cons_append, List.set_cons_zero, List.set_cons_succ, List.take_zero, List.drop_zero, Nat.reduceEqDiff, Nat.reduceAdd, Nat.reduceSub, Nat.reduceLT, Nat.reduceLeDiff, Nat.reduceMul, Int.reduceEq, Int.reduceLT, Int.reduceLE, Int.reduceAdd, Int.reduceSub, Int.reduceNeg, Int.reduceToNat, reduceCtorEq, ↓reduceIte]
    · rintro n st ⟨i, hn, hi, hst⟩
      by_cases h : i < l.length
      · have hc : (i : Int) < (l.length : Int) := by omega
        obtain ⟨x, hx⟩ : ∃ x, l[i]? = some x := ⟨_, List.getElem?_eq_getElem h⟩
        have hm := List.mem_of_getElem? hx
        have hsx := Tm.sizes_mem hm
        have hst' := Tm.sizes_take_le l i
        have w2 : IntKind.i64.wrap ((i : Int) + 1) = ((i + 1 : Nat) : Int) := by rw [wrap64 (by omega) (by omega)]; omega
        have nx : ins (insAll (l.take i)) x = insAll (l.take (i + 1)) := by rw [List.take_add_one, hx, ← insAll_snoc]; rfl
        have hva : validAll (insAll (l.take i)) = true := validAll_insAll (List.all_eq_true.2 fun y hy => List.all_eq_true.1 hv y (List.mem_of_mem_take hy))
        rcases hst with ⟨rfl, rfl⟩ | ⟨fz, rfl⟩
        · have hcall := rinsert_ok [] x [.sl (some 4) 1 0 0 0, .pv (some 4) x.pv, .pv none (.bool false)] [.arr (some 4) [] false, .arr (some 4) [] false] [.arr (some 4) [] false, .arr (some 4) [] true] rfl (by simp [Tm.sizes]; omega) rfl (validAll_mem hv hm)
          have hc : (0 : Int) < (l.length : Int) := by omega
          have w1 : IntKind.i64.wrap ((0 : Int) + 1) = ((1 : Nat) : Int) := by rw [wrap64 (by omega) (by omega)]; rfl
          have nx' : ins [] x = insAll (l.take 1) := nx
          simp -dsimp -implicitDefEqProofs only [g20, c20r0, c20r1, c20r2, c20k3, c20r4, c20r5, c20r6, c20k7, c20r8, c20k9, c20r10, c20b11, c20k12, c20r13, c20, go_sem, collect_lit0, collect_lit1, collect_lit2, collect_lit3, if_true, if_false, true_and, and_true, false_and, and_false, and_self, Nat.zero_add, Nat.add_zero, eq_self, Bool.true_eq_false, Bool.false_eq_true, cond_true, cond_false, decide_eq_true_eq, Bool.not_eq_true', Bool.not_eq_false', decide_eq_false_iff_not, not_true_eq_false, not_false_eq_true, Bool.true_and, Bool.false_and, Bool.and_true, Bool.and_false, Bool.not_true, Bool.not_false, Option.some.injEq, decide_true, decide_false, List.getElem?_cons_zero, List.getElem?_cons_succ, List.length_cons, List.length_nil, List.nil_append, List.cons_append, List.set_cons_zero, List.set_cons_succ, List.take_zero, List.drop_zero, Nat.reduceEqDiff, Nat.reduceAdd, Nat.reduceSub, Nat.reduceLT, Nat.reduceLeDiff, Nat.reduceMul, Int.reduceEq, Int.reduceLT, Int.reduceLE, Int.reduceAdd, Int.reduceSub, Int.reduceNeg, Int.reduceToNat, reduceCtorEq, ↓reduceIte, Tm.pvs_len, hc, s_iaddr_pv0 (Tm.pvs_get hx), hcall, w1, nx']
          exact ⟨l.length - 1, by omega, 1, rfl, by omega, .inr ⟨true, rfl⟩⟩
        · have hcall := fun hp => rinsert_ok (insAll (l.take i)) x [.pv none (.sl (some 4) (Tm.pvs (insAll (l.take i)))), .pv (some 4) x.pv, .pv none (.bool false)] hp hp (freezeAll_pvs [(none, .sl (some 4) (Tm.pvs (insAll (l.take i)))), (some 4, x.pv), (none, .bool false)]) (by rw [(insAll_facts _).2.1]; omega) hva (validAll_mem hv hm)
          simp -dsimp -implicitDefEqProofs only [g20, c20r0, c20r1, c20r2, c20k3, c20r4, c20r5, c20r6, c20k7, c20r8, c20k9, c20r10, c20b11, c20k12, c20r13, c20, go_sem, collect_lit0, collect_lit1, collect_lit2, collect_lit3, if_true, if_false, true_and, and_true, false_and, and_false, and_self, Nat.zero_add, Nat.add_zero, eq_self, Bool.true_eq_false, Bool.false_eq_true, cond_true, cond_false, decide_eq_true_eq, Bool.not_eq_true', Bool.not_eq_false', decide_eq_false_iff_not, not_true_eq_false, not_false_eq_true, Bool.true_and, Bool.false_and, Bool.and_true, Bool.and_false, Bool.not_true, Bool.not_false, Option.some.injEq, decide_true, decide_false, List.getElem?_cons_zero, List.getElem?_cons_succ, List.length_cons, List.length_nil, List.nil_append, List.cons_append, List.set_cons_zero, List.set_cons_succ, List.take_zero, List.drop_zero, Nat.reduceEqDiff, Nat.reduceAdd, Nat.reduceSub, Nat.reduceLT, Nat.reduceLeDiff, Nat.reduceMul, Int.reduceEq, Int.reduceLT, Int.reduceLE, Int.reduceAdd, Int.reduceSub, Int.reduceNeg, Int.reduceToNat, reduceCtorEq, ↓reduceIte, Tm.pvs_len, hc, s_iaddr_pv (Tm.pvs_get hx), hcall, w2, nx]
          exact ⟨l.length - (i + 1), by omega, i + 1, rfl, by omega, .inr ⟨fz, rfl⟩⟩
      · have hc : ¬ (i : Int) < (l.length : Int) := by omega
        obtain rfl : i = l.length := by omega
        rcases hst with ⟨h0, rfl⟩ | ⟨fz, rfl⟩
        · have hnil : l = [] := List.length_eq_zero_iff.1 h0
          subst hnil
          have hz : ¬ (0 : Int) < ((0 : Nat) : Int) := by decide
          simp -dsimp -implicitDefEqProofs only [g20, c20r0, c20r1, c20r2, c20k3, c20r4, c20r5, c20r6, c20k7, c20r8, c20k9, c20r10, c20b11, c20k12, c20r13, c20, go_sem, collect_lit0, collect_lit1, collect_lit2, collect_lit3, if_true, if_false, true_and, and_true, false_and, and_false, and_self, Nat.zero_add, Nat.add_zero, eq_self, Bool.true_eq_false, Bool.false_eq_true, cond_true, cond_false, decide_eq_true_eq, Bool.not_eq_true', Bool.not_eq_false', decide_eq_false_iff_not, not_true_eq_false, not_false_eq_true, Bool.true_and, Bool.false_and, Bool.and_true, Bool.and_false, Bool.not_true, Bool.not_false, Option.some.injEq, decide_true, decide_false, List.getElem?_cons_zero, List.getElem?_cons_succ, List.length_cons, List.length_nil, List.nil_append, List.cons_append, List.set_cons_zero, List.set_cons_succ, List.take_zero, List.drop_zero, Nat.reduceEqDiff, Nat.reduceAdd, Nat.reduceSub, Nat.reduceLT, Nat.reduceLeDiff, Nat.reduceMul, Int.reduceEq, Int.reduceLT, Int.reduceLE, Int.reduceAdd, Int.reduceSub, Int.reduceNeg, Int.reduceToNat, reduceCtorEq, ↓reduceIte, Tm.pvs, hz, e1, e2]
          rfl
        · rw [List.take_length]
          simp -dsimp -implicitDefEqProofs only [g20, c20r0, c20r1, c20r2, c20k3, c20r4, c20r5, c20r6, c20k7, c20r8, c20k9, c20r10, c20b11, c20k12, c20r13, c20, go_sem, collect_lit0, collect_lit1, collect_lit2, collect_lit3, if_true, if_false, true_and, and_true, false_and, and_false, and_self, Nat.zero_add, Nat.add_zero, eq_self, Bool.true_eq_false, Bool.false_eq_true, cond_true, cond_false, decide_eq_true_eq, Bool.not_eq_true', Bool.not_eq_false', decide_eq_false_iff_not, not_true_eq_false, not_false_eq_true, Bool.true_and, Bool.false_and, Bool.and_true, Bool.and_false, Bool.not_true, Bool.not_false, Option.some.injEq, decide_true, decide_false, List.getElem?_cons_zero, List.getElem?_cons_succ, List.length_cons, List.length_nil, List.nil_append, List.cons_append, List.set_cons_zero, List.set_cons_succ, List.take_zero, List.drop_zero, Nat.reduceEqDiff, Nat.reduceAdd, Nat.reduceSub, Nat.reduceLT, Nat.reduceLeDiff, Nat.reduceMul, Int.reduceEq, Int.reduceLT, Int.reduceLE, Int.reduceAdd, Int.reduceSub, Int.reduceNeg, Int.reduceToNat, reduceCtorEq, ↓reduceIte, Tm.pvs_len, hc, e1, e2]
  · have e1 : stableT l = [] := if_neg hv
    have e2 : stableE l = 1 := if_neg hv
    simp -dsimp -implicitDefEqProofs only [g20, c20r0, c20r1, c20r2, c20k3, c20r4, c20r5, c20r6, c20k7, c20r8, c20k9, c20r10, c20b11, c20k12, c20r13, c20, go_sem, collect_lit0, collect_lit1, collect_lit2, collect_lit3, if_true, if_false, true_and, and_true, false_and, and_false, and_self, Nat.zero_add, Nat.add_zero, eq_self, Bool.true_eq_false, Bool.false_eq_true, cond_true, cond_false, decide_eq_true_eq, Bool.not_eq_true', Bool.not_eq_false', decide_eq_false_iff_not, not_true_eq_false, not_false_eq_true, Bool.true_and, Bool.false_and, Bool.and_true, Bool.and_false, Bool.not_true, Bool.not_false, Option.some.injEq, decide_true, decide_false, List.getElem?_cons_zero, List.getElem?_cons_succ, List.length_cons, List.length_nil, List.nil_append, List.cons_append, List.set_cons_zero, List.set_cons_succ, List.take_zero, List.drop_zero, Nat.reduceEqDiff, Nat.reduceAdd, Nat.reduceSub, Nat.reduceLT, Nat.reduceLeDiff, Nat.reduceMul, Int.reduceEq, Int.reduceLT, Int.reduceLE, Int.reduceAdd, Int.reduceSub, Int.reduceNeg, Int.reduceToNat, reduceCtorEq, ↓reduceIte, h2, hv, w_nilsl (show 0 < Sh.size (some 4) by decide), e1, e2]
    rfl

/-- Without what is the same as the one before it: of the first so many. -/
def dedup (l : List Tm) : Nat → List Tm
  | 0 => []
  | n + 1 => match l[n]? with
    | none => dedup l n
    | some y => if n = 0 then dedup l n ++ [y] else match l[n - 1]? with
      | none => dedup l n
      | some x => if x.cmp y = 0 then dedup l n else dedup l n ++ [y]
theorem dedup_sizes (l : List Tm) : ∀ n, Tm.sizes (dedup l n) ≤ Tm.sizes (l.take n)
  | 0 => by simp [dedup, Tm.sizes]
  | n + 1 => by
    have ih := dedup_sizes l n
    unfold dedup
    cases hy : l[n]? with
    | none => simp only [List.take_add_one, hy, Tm.sizes_append]; omega
    | some y =>
      have e := Tm.sizes_take hy
      simp only []
      split
      · rw [Tm.sizes_append, e]; simp only [Tm.sizes]; omega
      · split
        · omega
        · split
          · omega
          · rw [Tm.sizes_append, e]; simp only [Tm.sizes]; omega
def sortT (l : List Tm) : List Tm := dedup (stableT l) (stableT l).length
theorem stableT_facts (l : List Tm) : Tm.sizes (stableT l) ≤ Tm.sizes l ∧ validAll (stableT l) = true := by
  unfold stableT
  split
  · rename_i h; exact ⟨by rw [(insAll_facts l).2.1]; omega, validAll_insAll h⟩
  · exact ⟨by simp [Tm.sizes], rfl⟩
theorem sortT_sizes (l : List Tm) : Tm.sizes (sortT l) ≤ Tm.sizes l := by
  have h1 := dedup_sizes (stableT l) (stableT l).length
  rw [List.take_length] at h1
  have h2 := (stableT_facts l).1
  unfold sortT
  omega
theorem rsort_ok (l : List Tm) (hl : Tm.sizes l < 100000000) (hp : Heap) : S 19 [.pv none (.sl (some 4) (Tm.pvs l))] hp = some (.ret (.tuple [.pv none (.sl (some 4) (Tm.pvs (sortT l))), .pv none (.int .i64 (stableE l))]), hp) := by
  refine sem_pure rfl rfl rfl (freezeAll_pvs [(none, .sl (some 4) (Tm.pvs l))]) rfl ?_
  have h2 := fun hp => rstable_ok l hl hp
  obtain ⟨hsz, hv⟩ := stableT_facts l
  unfold sortT
  generalize stableT l = s at h2 hsz hv ⊢
  generalize stableE l = e at h2 ⊢
  have hlen := Tm.sizes_len s
  simp -dsimp -implicitDefEqProofs only [g19, c19r0, c19r1, c19r2, c19r3, c19r4, c19k5, c19r6, c19r7, c19k8, c19k9, c19r10, c19b11, c19k12, c19r13, c19, go_sem, collect_lit0, collect_lit1, collect_lit2, collect_lit3, if_true, if_false, true_and, and_true, false_and, and_false, and_self, Nat.zero_add, Nat.add_zero, eq_self, Bool.true_eq_false, Bool.false_eq_true, cond_true, cond_false, decide_eq_true_eq, Bool.not_eq_true', Bool.not_eq_false', decide_eq_false_iff_not, not_true_eq_false, not_false_eq_true, Bool.true_and, Bool.false_and, Bool.and_true, Bool.and_false, Bool.not_true, Bool.not_false, Option.some.injEq, decide_true, decide_false, List.getElem?_cons_zero, List.getElem?_cons_succ, List.length_cons, List.length_nil, List.nil_append, List.cons_append, List.set_cons_zero, List.set_cons_succ, List.take_zero, List.drop_zero, Nat.reduceEqDiff, Nat.reduceAdd, Nat.reduceSub, Nat.reduceLT, Nat.reduceLeDiff, Nat.reduceMul, Int.reduceEq, Int.reduceLT, Int.reduceLE, Int.reduceAdd, Int.reduceSub, Int.reduceNeg, Int.reduceToNat, reduceCtorEq, ↓reduceIte, h2, w_nilsl (show 0 < Sh.size (some 4) by decide)]
  refine W_loop (fun n st => ∃ i : Nat, n = s.length - i ∧ i ≤ s.length ∧ st = ⟨[(4, .pv none (.sl (some 4) (Tm.pvs s))), (5, .pv none (.int .i64 e)), (6, .sl (some 4) 1 (dedup s i).length 0 (dedup s i).length), (7, .pv none (.int .i64 i))], [.arr (some 4) [] false, .arr (some 4) (Tm.pvs (dedup s i)) false]⟩) (n := s.length) ⟨0, rfl, Nat.zero_le _, ?_⟩ ?_
  · simp -dsimp -implicitDefEqProofs only [go_sem, collect_lit0, collect_lit1, collect_lit2, collect_lit3, if_true, if_false, true_and, and_true, false_and, and_false, and_self, Nat.zero_add, Nat.add_zero, eq_self, Bool.true_eq_false, Bool.false_eq_true, cond_true, cond_false, decide_eq_true_eq, Bool.not_eq_true', Bool.not_eq_false', decide_eq_false_iff_not, not_true_eq_false, not_false_eq_true, Bool.true_and, Bool.false_and, Bool.and_true, Bool.and_false, Bool.not_true, Bool.not_false, Option.some.injEq, decide_true, decide_false, List.getElem?_cons_zero, List.getElem?_cons_succ, List.length_cons, List.length_nil, List.nil_append, List.cons_append, List.set_cons_zero, List.set_cons_succ, List.take_zero, List.drop_zero, Nat.reduceEqDiff, Nat.reduceAdd, Nat.reduceSub, Nat.reduceLT, Nat.reduceLeDiff, Nat.reduceMul, Int.reduceEq, Int.reduceLT, Int.reduceLE, Int.reduceAdd, Int.reduceSub, Int.reduceNeg, Int.reduceToNat, reduceCtorEq, ↓reduceIte]
    rfl
  · rintro n st ⟨i, hn, hi, rfl⟩
    by_cases h : i < s.length
    · have hc : (i : Int) < (s.length : Int) := by omega
      obtain ⟨y, hy⟩ : ∃ y, s[i]? = some y := ⟨_, List.getElem?_eq_getElem h⟩
      have hmy := List.mem_of_getElem? hy
      have hd := dedup_sizes s i
      have hd2 := Tm.sizes_take_le s i
      have hd3 := Tm.sizes_len (dedup s i)
      have hlm : (dedup s i).length + 1 ≤ lim := by unfold lim; omega
      have w2 : IntKind.i64.wrap ((i : Int) + 1) = ((i + 1 : Nat) : Int) := by rw [wrap64 (by omega) (by omega)]; omega
      have ap : Tm.pvs (dedup s i) ++ [y.pv] = Tm.pvs (dedup s i ++ [y]) := by rw [Tm.pvs_append]; rfl
      have al : (dedup s i).length + 1 = (dedup s i ++ [y]).length := by simp
      by_cases h0 : i = 0
      · have hc0 : (i : Int) = 0 := by omega
        have hdd : dedup s (i + 1) = dedup s i ++ [y] := by
          conv => lhs; unfold dedup
          rw [hy]
          exact if_pos h0
        simp -dsimp -implicitDefEqProofs only [g19, c19r0, c19r1, c19r2, c19r3, c19r4, c19k5, c19r6, c19r7, c19k8, c19k9, c19r10, c19b11, c19k12, c19r13, c19, go_sem, collect_lit0, collect_lit1, collect_lit2, collect_lit3, if_true, if_false, true_and, and_true, false_and, and_false, and_self, Nat.zero_add, Nat.add_zero, eq_self, Bool.true_eq_false, Bool.false_eq_true, cond_true, cond_false, decide_eq_true_eq, Bool.not_eq_true', Bool.not_eq_false', decide_eq_false_iff_not, not_true_eq_false, not_false_eq_true, Bool.true_and, Bool.false_and, Bool.and_true, Bool.and_false, Bool.not_true, Bool.not_false, Option.some.injEq, decide_true, decide_false, List.getElem?_cons_zero, List.getElem?_cons_succ, List.length_cons, List.length_nil, List.nil_append, List.cons_append, List.set_cons_zero, List.set_cons_succ, List.take_zero, List.drop_zero, Nat.reduceEqDiff, Nat.reduceAdd, Nat.reduceSub, Nat.reduceLT, Nat.reduceLeDiff, Nat.reduceMul, Int.reduceEq, Int.reduceLT, Int.reduceLE, Int.reduceAdd, Int.reduceSub, Int.reduceNeg, Int.reduceToNat, reduceCtorEq, ↓reduceIte, Tm.pvs_len, hc, eq_true hc0, s_iaddr_pv (Tm.pvs_get hy), w2, hlm, ap]
        exact ⟨s.length - (i + 1), by omega, i + 1, rfl, by omega, by rw [hdd, al]⟩
      · obtain ⟨j, rfl⟩ : ∃ j, i = j + 1 := ⟨i - 1, by omega⟩
        have hc0 : ¬ (((j + 1 : Nat) : Int)) = 0 := by omega
        obtain ⟨x, hx⟩ : ∃ x, s[j]? = some x := ⟨_, List.getElem?_eq_getElem (by omega)⟩
        have hmx := List.mem_of_getElem? hx
        have hsx := Tm.sizes_mem hmx
        have hcall := fun hp => rcompare_ok x y hp (by omega) (valid_fits (validAll_mem hv hmx)) (valid_fits (validAll_mem hv hmy))
        simp only [Tm.av] at hcall
        have w1 : IntKind.i64.wrap (((j + 1 : Nat) : Int) - 1) = ((j : Nat) : Int) := by rw [wrap64 (by omega) (by omega)]; omega
        by_cases hz : x.cmp y = 0
        · have hdd : dedup s (j + 1 + 1) = dedup s (j + 1) := by
            conv => lhs; unfold dedup
            simp [hy, hx, hz]
          simp -dsimp -implicitDefEqProofs only [g19, c19r0, c19r1, c19r2, c19r3, c19r4, c19k5, c19r6, c19r7, c19k8, c19k9, c19r10, c19b11, c19k12, c19r13, c19, go_sem, collect_lit0, collect_lit1, collect_lit2, collect_lit3, if_true, if_false, true_and, and_true, false_and, and_false, and_self, Nat.zero_add, Nat.add_zero, eq_self, Bool.true_eq_false, Bool.false_eq_true, cond_true, cond_false, decide_eq_true_eq, Bool.not_eq_true', Bool.not_eq_false', decide_eq_false_iff_not, not_true_eq_false, not_false_eq_true, Bool.true_and, Bool.false_and, Bool.and_true, Bool.and_false, Bool.not_true, Bool.not_false, Option.some.injEq, decide_true, decide_false, List.getElem?_cons_zero, List.getElem?_cons_succ, List.length_cons, List.length_nil, List.nil_append, List.cons_append, List.set_cons_zero, List.set_cons_succ, List.take_zero, List.drop_zero, Nat.reduceEqDiff, Nat.reduceAdd, Nat.reduceSub, Nat.reduceLT, Nat.reduceLeDiff, Nat.reduceMul, Int.reduceEq, Int.reduceLT, Int.reduceLE, Int.reduceAdd, Int.reduceSub, Int.reduceNeg, Int.reduceToNat, reduceCtorEq, ↓reduceIte, Tm.pvs_len, hc, hc0, s_iaddr_pv (Tm.pvs_get hy), s_iaddr_pv (Tm.pvs_get hx), w1, w2, hcall, hz]
          exact ⟨s.length - (j + 1 + 1), by omega, j + 1 + 1, rfl, by omega, by rw [hdd]⟩
        · have hdd : dedup s (j + 1 + 1) = dedup s (j + 1) ++ [y] := by
            conv => lhs; unfold dedup
            simp [hy, hx, hz]
          simp -dsimp -implicitDefEqProofs only [g19, c19r0, c19r1, c19r2, c19r3, c19r4, c19k5, c19r6, c19r7, c19k8, c19k9, c19r10, c19b11, c19k12, c19r13, c19, go_sem, collect_lit0, collect_lit1, collect_lit2, collect_lit3, if_true, if_false, true_and, and_true, false_and, and_false, and_self, Nat.zero_add, Nat.add_zero, eq_self, Bool.true_eq_false, Bool.false_eq_true, cond_true, cond_false, decide_eq_true_eq, Bool.not_eq_true', Bool.not_eq_false', decide_eq_false_iff_not, not_true_eq_false, not_false_eq_true, Bool.true_and, Bool.false_and, Bool.and_true, Bool.and_false, Bool.not_true, Bool.not_false, Option.some.injEq, decide_true, decide_false, List.getElem?_cons_zero, List.getElem?_cons_succ, List.length_cons, List.length_nil, List.nil_append, List.cons_append, List.set_cons_zero, List.set_cons_succ, List.take_zero, List.drop_zero, Nat.reduceEqDiff, Nat.reduceAdd, Nat.reduceSub, Nat.reduceLT, Nat.reduceLeDiff, Nat.reduceMul, Int.reduceEq, Int.reduceLT, Int.reduceLE, Int.reduceAdd, Int.reduceSub, Int.reduceNeg, Int.reduceToNat, reduceCtorEq, ↓reduceIte, Tm.pvs_len, hc, hc0, s_iaddr_pv (Tm.pvs_get hy), s_iaddr_pv (Tm.pvs_get hx), w1, w2, hcall, hz, hlm, ap]
          exact ⟨s.length - (j + 1 + 1), by omega, j + 1 + 1, rfl, by omega, by rw [hdd, al]⟩
    · have hc : ¬ (i : Int) < (s.length : Int) := by omega
      obtain rfl : i = s.length := by omega
      simp -dsimp -implicitDefEqProofs only [g19, c19r0, c19r1, c19r2, c19r3, c19r4, c19k5, c19r6, c19r7, c19k8, c19k9, c19r10, c19b11, c19k12, c19r13, c19, go_sem, collect_lit0, collect_lit1, collect_lit2, collect_lit3, if_true, if_false, true_and, and_true, false_and, and_false, and_self, Nat.zero_add, Nat.add_zero, eq_self, Bool.true_eq_false, Bool.false_eq_true, cond_true, cond_false, decide_eq_true_eq, Bool.not_eq_true', Bool.not_eq_false', decide_eq_false_iff_not, not_true_eq_false, not_false_eq_true, Bool.true_and, Bool.false_and, Bool.and_true, Bool.and_false, Bool.not_true, Bool.not_false, Option.some.injEq, decide_true, decide_false, List.getElem?_cons_zero, List.getElem?_cons_succ, List.length_cons, List.length_nil, List.nil_append, List.cons_append, List.set_cons_zero, List.set_cons_succ, List.take_zero, List.drop_zero, Nat.reduceEqDiff, Nat.reduceAdd, Nat.reduceSub, Nat.reduceLT, Nat.reduceLeDiff, Nat.reduceMul, Int.reduceEq, Int.reduceLT, Int.reduceLE, Int.reduceAdd, Int.reduceSub, Int.reduceNeg, Int.reduceToNat, reduceCtorEq, ↓reduceIte, Tm.pvs_len, hc]

theorem sizes_take_lt {l : List Tm} {n k : Nat} (h : Tm.sizes l < n) : Tm.sizes (l.take k) < n := Nat.lt_of_le_of_lt (Tm.sizes_take_le l k) h
theorem orderRanks_sem (l : List Tm) (t : Tm) (hl : Tm.sizes l < 100000000) (hs : t.size < 1000000000) : S 5 [.pv none (.sl (some 4) (Tm.pvs l)), t.av] [] = some (.ret (.pv none (.bool true)), []) := by
  refine sem_pure rfl rfl rfl (freezeAll_pvs [(none, .sl (some 4) (Tm.pvs l)), (some 4, t.pv)]) rfl ?_
  have h1 := fun hp => few_ok l (by omega) hp
  have hf : Tm.sizes (l.take 40) < 100000000 := sizes_take_lt hl
  have hss := sortT_sizes (l.take 40)
  have h2 := fun hp => oRank_ok (l.take 40) t (by omega) hs hp
  have h3 := fun hp => rRank_ok (l.take 40) t (by omega) hs hp
  have h4 := fun hp => rsort_ok (l.take 40) hf hp
  have h5 := fun hp => oRank_ok (sortT (l.take 40)) t (by omega) hs hp
  have h6 := fun hp => rRank_ok (sortT (l.take 40)) t (by omega) hs hp
  have h7 := awake_ok
  clear hf hss
  (repeat' (first | (simp -dsimp -implicitDefEqProofs only [g5, c5r0, c5r1, c5r2, c5r3, c5r4, c5r5, c5r6, c5r7, c5, go_sem, collect_lit0, collect_lit1, collect_lit2, collect_lit3, if_true, if_false, true_and, and_true, false_and, and_false, and_self, Nat.zero_add, Nat.add_zero, eq_self, Bool.true_eq_false, Bool.false_eq_true, cond_true, cond_false, decide_eq_true_eq, Bool.not_eq_true', Bool.not_eq_false', decide_eq_false_iff_not, not_true_eq_false, not_false_eq_true, Bool.true_and, Bool.false_and, Bool.and_true, Bool.and_false, Bool.not_true, Bool.not_false, Option.some.injEq, decide_true, decide_false, List.getElem?_cons_zero, List.getElem?_cons_succ, List.length_cons, List.length_nil, List.nil_append, List.cons_append, List.set_cons_zero, List.set_cons_succ, List.take_zero, List.drop_zero, Nat.reduceEqDiff, Nat.reduceAdd, Nat.reduceSub, Nat.reduceLT, Nat.reduceLeDiff, Nat.reduceMul, Int.reduceEq, Int.reduceLT, Int.reduceLE, Int.reduceAdd, Int.reduceSub, Int.reduceNeg, Int.reduceToNat, reduceCtorEq, ↓reduceIte, beq_self_eq_true, *]) | (refine iteK_intro (fun _ => ?_) (fun _ => ?_))))
end Go.Proofs.Yteaehiceghhajaa
