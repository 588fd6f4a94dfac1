/- What is proved: the program's pair. -/
import Derived.Test.YtenkiofpobeilaaPBd
set_option linter.unusedSimpArgs false
set_option linter.unusedVariables false
namespace Go.Proofs.Ytenkiofpobeilaa
open Go.Am
def PairP (hp : Heap) (q r : Nat) (l : List B) (x y : Tm) (res : ARes) (hp' : Heap) : Prop :=
 match ustep l x y with
 | .err e => res = .panic (stopP e) ∧ hp' = US hp q r l
 | .bind v t => res = .ret (.pv none (.bool false)) ∧ hp' = US hp q r (insB l v t)
 | .args xs => hp' = US hp q r l ∧ ((res = .ret (.pv none (.bool false)) ∧ xs = []) ∨ (res = .ret (.pv none (.bool true)) ∧ xs = x.args.zip y.args ∧ x.args.length = y.args.length))
theorem ppair_ok (l : List B) (hO : OKB l) (hl : l.length < 90000000) (x y : Tm) (hx : Flwd l x) (hy : Flwd l y) (hp : Heap) (q r : Nat) (hq : q < hp.length) (hr : r < hp.length) (hn : q ≠ r) :
  ∃ res hp', S 59 [.ptr q 0, x.av, y.av] (US hp q r l) = some (res, hp') ∧ PairP hp q r l x y res hp' := by
 have hlen := fun l => US_len hp q r l
 have hg0 : ∀ (l : List B) (e : Heap), (US hp q r l ++ e)[hp.length]? = e[0]? := fun l e => getN0 (hlen l)
 have hg1 : ∀ (l : List B) (e : Heap) (j : Nat), (US hp q r l ++ e)[hp.length + j]? = e[j]? := fun l e j => getN (hlen l) j
 have hsb : ∀ x : Int, sBuild [(none, .pv none (.int .i64 0))] [0] [.pv none (.int .i64 x)] = some (.pv (some 1) (.agg [(none, .int .i64 x)])) := fun _ => rfl
 have hmi : ∀ (s : Sh) (p : PV), sMkiface 53 [.pv s p] = some (.pv none (.iface 53 s p)) := fun _ _ => rfl
 have hpan : ∀ A : Prop, panK true A = A := fun _ => rfl
 have htk : ∀ (l : List B) (e : Heap), List.take hp.length (US hp q r l ++ e) = US hp q r l := fun l e => List.take_left' (hlen l)
 have hif : ∀ (b : Bool) (A B : Heap), (if ((AV.pv none (PV.bool b)).refsIn.all fun q => decide (q < hp.length)) = true then A else B) = A := fun b A B => if_pos (by simp [AV.refsIn])
 refine sem_heap_any (PairP hp q r l x y) rfl rfl rfl rfl ?_
 have hbu : ∀ v : Int, sBuild [(none, .pv none (.int .i64 0)), (none, .pv none (.int .i64 0)), (none, .pv none (.str [])), (none, .tsl (some 4) [])] [1] [.pv none (.int .i64 v)] = some (.agg [(none, .pv none (.int .i64 0)), (none, .pv none (.int .i64 v)), (none, .pv none (.str [])), (none, .tsl (some 4) [])]) := fun _ => rfl
 by_cases hxk : x.kind = 0
 ·have hx2 := hx.2 hxk
  have hxk' := eq_true hxk
  by_cases hyk : y.kind = 0
  ·have hy2 := hy.2 hyk
   have hyk' := eq_true hyk
   by_cases hlt : y.n < x.n
   ·have hu : ustep l x y = .bind x.n y := by unfold ustep; rw [if_pos ⟨hxk, hyk⟩, if_pos hlt]
    have hcall := pbindv_ok l hO hl x.n y.n hy2.2.2 hy2.1 (by omega) (hp ++ [.box (some 4) (.pv (some 4) x.pv), .box (some 4) (.pv (some 4) y.pv)]) q r (by simp; omega) (by simp; omega) hn
    rw [US_more hq hr, US_more hq hr, ← hy2.2.1] at hcall
    simp only [vagg] at hcall
    have hne : ¬ x.n = y.n := by omega
    have h1 := eq_true hlt
    have h2 := eq_false (show ¬ x.n < y.n by omega)
    simp -dsimp -implicitDefEqProofs only [g59, c59r0, c59r1, c59r2, c59r3, c59k4, c59r5, c59r6, c59r7, c59r8, c59r9, c59r10, c59r11, c59k12, c59k13, c59k14, c59k15, c59k16, c59r17, c59, go_sem, seval, ↓reduceIte, Tm.av, hxk', hyk', hne, h1, h2, hbu, hcall, hsb, hmi, hpan, part_kind, part_n, hlen, hg0, hg1, endA_panic, endA_ret, endA_normal, List.append_assoc, List.cons_append, List.nil_append, get_pre, get_pre0, set_pre, set_pre0, Nat.add_assoc, List.length_append, List.length_cons, List.length_nil, Nat.zero_add]
    unfold PairP
    rw [hu]
    exact ⟨rfl, by rw [hif]; exact htk _ _⟩
   ·by_cases hgt : x.n < y.n
    ·have hu : ustep l x y = .bind y.n x := by unfold ustep; rw [if_pos ⟨hxk, hyk⟩, if_neg hlt, if_pos hgt]
     have hcall := pbindv_ok l hO hl y.n x.n hx2.2.2 hx2.1 (by omega) (hp ++ [.box (some 4) (.pv (some 4) x.pv), .box (some 4) (.pv (some 4) y.pv)]) q r (by simp; omega) (by simp; omega) hn
     rw [US_more hq hr, US_more hq hr, ← hx2.2.1] at hcall
     simp only [vagg] at hcall
     have hne : ¬ x.n = y.n := by omega
     have h1 := eq_true hgt
     have h2 := eq_false (show ¬ y.n < x.n by omega)
     simp -dsimp -implicitDefEqProofs only [g59, c59r0, c59r1, c59r2, c59r3, c59k4, c59r5, c59r6, c59r7, c59r8, c59r9, c59r10, c59r11, c59k12, c59k13, c59k14, c59k15, c59k16, c59r17, c59, go_sem, seval, ↓reduceIte, Tm.av, hxk', hyk', hne, h1, h2, hbu, hcall, hsb, hmi, hpan, part_kind, part_n, hlen, hg0, hg1, endA_panic, endA_ret, endA_normal, List.append_assoc, List.cons_append, List.nil_append, get_pre, get_pre0, set_pre, set_pre0, Nat.add_assoc, List.length_append, List.length_cons, List.length_nil, Nat.zero_add]
     unfold PairP
     rw [hu]
     exact ⟨rfl, by rw [hif]; exact htk _ _⟩
    ·have hu : ustep l x y = .args [] := by unfold ustep; rw [if_pos ⟨hxk, hyk⟩, if_neg hlt, if_neg hgt]
     have hne := eq_true (show x.n = y.n by omega)
     simp -dsimp -implicitDefEqProofs only [g59, c59r0, c59r1, c59r2, c59r3, c59k4, c59r5, c59r6, c59r7, c59r8, c59r9, c59r10, c59r11, c59k12, c59k13, c59k14, c59k15, c59k16, c59r17, c59, go_sem, seval, ↓reduceIte, Tm.av, hxk', hyk', hne, hsb, hmi, hpan, part_kind, part_n, hlen, hg0, hg1, endA_panic, endA_ret, endA_normal, List.append_assoc, List.cons_append, List.nil_append, get_pre, get_pre0, set_pre, set_pre0, Nat.add_assoc, List.length_append, List.length_cons, List.length_nil, Nat.zero_add]
     unfold PairP
     rw [hu]
     exact ⟨by rw [hif]; exact htk _ _, .inl ⟨rfl, rfl⟩⟩
  ·have hyk' := eq_false hyk
   obtain ⟨res, hp', hcall, hin, hout⟩ := pbind_ok l hO hl x.n y hy.1 (hp ++ [.box (some 4) (.pv (some 4) x.pv), .box (some 4) (.pv (some 4) y.pv)]) q r (by simp; omega) (by simp; omega) hn
   rw [US_more hq hr] at hcall hin
   rw [US_more hq hr] at hout
   simp only [Tm.av] at hcall
   by_cases hi : inR l x.n y
   ·have hu : ustep l x y = .err 9 := by unfold ustep; rw [if_neg (fun h => hyk h.2), if_pos hxk, if_pos hi]
    obtain ⟨rfl, rfl⟩ := hin hi
    simp -dsimp -implicitDefEqProofs only [g59, c59r0, c59r1, c59r2, c59r3, c59k4, c59r5, c59r6, c59r7, c59r8, c59r9, c59r10, c59r11, c59k12, c59k13, c59k14, c59k15, c59k16, c59r17, c59, go_sem, seval, ↓reduceIte, Tm.av, hxk', hyk', hcall, hsb, hmi, hpan, part_kind, part_n, hlen, hg0, hg1, endA_panic, endA_ret, endA_normal, List.append_assoc, List.cons_append, List.nil_append, get_pre, get_pre0, set_pre, set_pre0, Nat.add_assoc, List.length_append, List.length_cons, List.length_nil, Nat.zero_add]
    unfold PairP
    rw [hu]
    exact ⟨rfl, htk _ _⟩
   ·have hu : ustep l x y = .bind x.n y := by unfold ustep; rw [if_neg (fun h => hyk h.2), if_pos hxk, if_neg hi]
    obtain ⟨rfl, rfl⟩ := hout hi
    simp -dsimp -implicitDefEqProofs only [g59, c59r0, c59r1, c59r2, c59r3, c59k4, c59r5, c59r6, c59r7, c59r8, c59r9, c59r10, c59r11, c59k12, c59k13, c59k14, c59k15, c59k16, c59r17, c59, go_sem, seval, ↓reduceIte, Tm.av, hxk', hyk', hcall, hsb, hmi, hpan, part_kind, part_n, hlen, hg0, hg1, endA_panic, endA_ret, endA_normal, List.append_assoc, List.cons_append, List.nil_append, get_pre, get_pre0, set_pre, set_pre0, Nat.add_assoc, List.length_append, List.length_cons, List.length_nil, Nat.zero_add]
    unfold PairP
    rw [hu]
    exact ⟨rfl, by rw [hif]; exact htk _ _⟩
 ·have hxk' := eq_false hxk
  by_cases hyk : y.kind = 0
  ·have hy2 := hy.2 hyk
   have hyk' := eq_true hyk
   obtain ⟨res, hp', hcall, hin, hout⟩ := pbind_ok l hO hl y.n x hx.1 (hp ++ [.box (some 4) (.pv (some 4) x.pv), .box (some 4) (.pv (some 4) y.pv)]) q r (by simp; omega) (by simp; omega) hn
   rw [US_more hq hr] at hcall hin
   rw [US_more hq hr] at hout
   simp only [Tm.av] at hcall
   by_cases hi : inR l y.n x
   ·have hu : ustep l x y = .err 9 := by unfold ustep; rw [if_neg (fun h => hxk h.1), if_neg hxk, if_pos hyk, if_pos hi]
    obtain ⟨rfl, rfl⟩ := hin hi
    simp -dsimp -implicitDefEqProofs only [g59, c59r0, c59r1, c59r2, c59r3, c59k4, c59r5, c59r6, c59r7, c59r8, c59r9, c59r10, c59r11, c59k12, c59k13, c59k14, c59k15, c59k16, c59r17, c59, go_sem, seval, ↓reduceIte, Tm.av, hxk', hyk', hcall, hsb, hmi, hpan, part_kind, part_n, hlen, hg0, hg1, endA_panic, endA_ret, endA_normal, List.append_assoc, List.cons_append, List.nil_append, get_pre, get_pre0, set_pre, set_pre0, Nat.add_assoc, List.length_append, List.length_cons, List.length_nil, Nat.zero_add]
    unfold PairP
    rw [hu]
    exact ⟨rfl, htk _ _⟩
   ·have hu : ustep l x y = .bind y.n x := by unfold ustep; rw [if_neg (fun h => hxk h.1), if_neg hxk, if_pos hyk, if_neg hi]
    obtain ⟨rfl, rfl⟩ := hout hi
    simp -dsimp -implicitDefEqProofs only [g59, c59r0, c59r1, c59r2, c59r3, c59k4, c59r5, c59r6, c59r7, c59r8, c59r9, c59r10, c59r11, c59k12, c59k13, c59k14, c59k15, c59k16, c59r17, c59, go_sem, seval, ↓reduceIte, Tm.av, hxk', hyk', hcall, hsb, hmi, hpan, part_kind, part_n, hlen, hg0, hg1, endA_panic, endA_ret, endA_normal, List.append_assoc, List.cons_append, List.nil_append, get_pre, get_pre0, set_pre, set_pre0, Nat.add_assoc, List.length_append, List.length_cons, List.length_nil, Nat.zero_add]
    unfold PairP
    rw [hu]
    exact ⟨rfl, by rw [hif]; exact htk _ _⟩
  ·have hyk' := eq_false hyk
   by_cases hm : x.kind = y.kind ∧ x.n = y.n ∧ x.name = y.name ∧ x.args.length = y.args.length
   ·have hu : ustep l x y = .args (x.args.zip y.args) := by unfold ustep; rw [if_neg (fun h => hxk h.1), if_neg hxk, if_neg hyk, if_pos hm]
    obtain ⟨m1, m2, m3, m4⟩ := hm
    have m1' := eq_true m1
    have m2' := eq_true m2
    have m3' := eq_true m3
    have m4' := eq_true (show (x.args.length : Int) = (y.args.length : Int) by omega)
    simp -dsimp -implicitDefEqProofs only [g59, c59r0, c59r1, c59r2, c59r3, c59k4, c59r5, c59r6, c59r7, c59r8, c59r9, c59r10, c59r11, c59k12, c59k13, c59k14, c59k15, c59k16, c59r17, c59, go_sem, seval, ↓reduceIte, Tm.av, hxk', hyk', m1', m2', m3', m4', part_name, part_args, Tm.pvs_len, hsb, hmi, hpan, part_kind, part_n, hlen, hg0, hg1, endA_panic, endA_ret, endA_normal, List.append_assoc, List.cons_append, List.nil_append, get_pre, get_pre0, set_pre, set_pre0, Nat.add_assoc, List.length_append, List.length_cons, List.length_nil, Nat.zero_add]
    unfold PairP
    rw [hu]
    exact ⟨by rw [hif]; exact htk _ _, .inr ⟨rfl, rfl, m4⟩⟩
   ·have hu : ustep l x y = .err 4 := by unfold ustep; rw [if_neg (fun h => hxk h.1), if_neg hxk, if_neg hyk, if_neg hm]
    by_cases m1 : x.kind = y.kind
    ·by_cases m2 : x.n = y.n
     ·by_cases m3 : x.name = y.name
      ·have m4 : ¬ x.args.length = y.args.length := fun e => hm ⟨m1, m2, m3, e⟩
       have m4 : ¬ (x.args.length : Int) = (y.args.length : Int) := by omega
       have m1' := eq_true m1
       have m2' := eq_true m2
       have m3' := eq_true m3
       simp -dsimp -implicitDefEqProofs only [g59, c59r0, c59r1, c59r2, c59r3, c59k4, c59r5, c59r6, c59r7, c59r8, c59r9, c59r10, c59r11, c59k12, c59k13, c59k14, c59k15, c59k16, c59r17, c59, go_sem, seval, ↓reduceIte, Tm.av, hxk', hyk', m1', m2', m3', m4, part_name, part_args, Tm.pvs_len, hsb, hmi, hpan, part_kind, part_n, hlen, hg0, hg1, endA_panic, endA_ret, endA_normal, List.append_assoc, List.cons_append, List.nil_append, get_pre, get_pre0, set_pre, set_pre0, Nat.add_assoc, List.length_append, List.length_cons, List.length_nil, Nat.zero_add]
       unfold PairP
       rw [hu]
       exact ⟨rfl, htk _ _⟩
      ·have m1' := eq_true m1
       have m2' := eq_true m2
       simp -dsimp -implicitDefEqProofs only [g59, c59r0, c59r1, c59r2, c59r3, c59k4, c59r5, c59r6, c59r7, c59r8, c59r9, c59r10, c59r11, c59k12, c59k13, c59k14, c59k15, c59k16, c59r17, c59, go_sem, seval, ↓reduceIte, Tm.av, hxk', hyk', m1', m2', m3, part_name, part_args, Tm.pvs_len, hsb, hmi, hpan, part_kind, part_n, hlen, hg0, hg1, endA_panic, endA_ret, endA_normal, List.append_assoc, List.cons_append, List.nil_append, get_pre, get_pre0, set_pre, set_pre0, Nat.add_assoc, List.length_append, List.length_cons, List.length_nil, Nat.zero_add]
       unfold PairP
       rw [hu]
       exact ⟨rfl, htk _ _⟩
     ·have m1' := eq_true m1
      simp -dsimp -implicitDefEqProofs only [g59, c59r0, c59r1, c59r2, c59r3, c59k4, c59r5, c59r6, c59r7, c59r8, c59r9, c59r10, c59r11, c59k12, c59k13, c59k14, c59k15, c59k16, c59r17, c59, go_sem, seval, ↓reduceIte, Tm.av, hxk', hyk', m1', m2, part_name, part_args, Tm.pvs_len, hsb, hmi, hpan, part_kind, part_n, hlen, hg0, hg1, endA_panic, endA_ret, endA_normal, List.append_assoc, List.cons_append, List.nil_append, get_pre, get_pre0, set_pre, set_pre0, Nat.add_assoc, List.length_append, List.length_cons, List.length_nil, Nat.zero_add]
      unfold PairP
      rw [hu]
      exact ⟨rfl, htk _ _⟩
    ·simp -dsimp -implicitDefEqProofs only [g59, c59r0, c59r1, c59r2, c59r3, c59k4, c59r5, c59r6, c59r7, c59r8, c59r9, c59r10, c59r11, c59k12, c59k13, c59k14, c59k15, c59k16, c59r17, c59, go_sem, seval, ↓reduceIte, Tm.av, hxk', hyk', m1, part_name, part_args, Tm.pvs_len, hsb, hmi, hpan, part_kind, part_n, hlen, hg0, hg1, endA_panic, endA_ret, endA_normal, List.append_assoc, List.cons_append, List.nil_append, get_pre, get_pre0, set_pre, set_pre0, Nat.add_assoc, List.length_append, List.length_cons, List.length_nil, Nat.zero_add]
     unfold PairP
     rw [hu]
     exact ⟨rfl, htk _ _⟩
end Go.Proofs.Ytenkiofpobeilaa
