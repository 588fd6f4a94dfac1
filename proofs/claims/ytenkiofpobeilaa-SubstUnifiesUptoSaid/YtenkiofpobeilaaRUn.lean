/- What is proved: the reference's pair, Unified and Unify. -/
import Derived.Test.YtenkiofpobeilaaUni
set_option linter.unusedSimpArgs false
set_option linter.unusedVariables false
namespace Go.Proofs.Ytenkiofpobeilaa
open Go.Am
def KS (hp : Heap) (q : Nat) (l : List B) (k : Int) : Heap := hp.set q (.box (some 2) (.pv (some 2) (.agg [(none, .sl (some 5) (bds l)), (none, .int .i64 k)])))
theorem KS_len (hp : Heap) (q : Nat) (l : List B) (k : Int) : (KS hp q l k).length = hp.length := by simp [KS]
theorem KS_more {hp : Heap} {q : Nat} (hq : q < hp.length) (l : List B) (k : Int) (e : Heap) : KS (hp ++ e) q l k = KS hp q l k ++ e := by
 unfold KS
 rw [List.set_append_left _ _ hq]
theorem KS_q {hp : Heap} {q : Nat} (hq : q < hp.length) (l : List B) (k : Int) (e : Heap) : (KS hp q l k ++ e)[q]? = some (.box (some 2) (.pv (some 2) (.agg [(none, .sl (some 5) (bds l)), (none, .int .i64 k)]))) := by
 rw [List.getElem?_append_left (by rw [KS_len]; exact hq)]
 unfold KS
 rw [List.getElem?_set_self hq]
theorem KS_set {hp : Heap} {q : Nat} (hq : q < hp.length) (l : List B) (k : Int) (l' : List B) (k' : Int) (e : Heap) : (KS hp q l k ++ e).set q (.box (some 2) (.pv (some 2) (.agg [(none, .sl (some 5) (bds l')), (none, .int .i64 k')]))) = KS hp q l' k' ++ e := by
 rw [List.set_append_left _ _ (by rw [KS_len]; exact hq)]
 unfold KS
 rw [List.set_set]
theorem KS_ld0 {hp : Heap} {q : Nat} (hq : q < hp.length) (l : List B) (k : Int) (e : Heap) : aload none (KS hp q l k ++ e) (.ptr q 0) = some (.pv none (.sl (some 5) (bds l))) := by
 simp [aload, KS_q hq]
 rfl
theorem KS_ld1 {hp : Heap} {q : Nat} (hq : q < hp.length) (l : List B) (k : Int) (e : Heap) : aload none (KS hp q l k ++ e) (.ptr q 1) = some (.pv none (.int .i64 k)) := by
 simp [aload, KS_q hq]
 rfl
theorem KS_st0 {hp : Heap} {q : Nat} (hq : q < hp.length) (l : List B) (k : Int) (l' : List B) (b : Nat) (e : Heap) : wStore none b (KS hp q l k ++ e) [.ptr q 0, .pv none (.sl (some 5) (bds l'))] = some (.undef, KS hp q l' k ++ e) := by
 have h : AV.upd deep (.pv (some 2) (.agg [(none, .sl (some 5) (bds l)), (none, .int .i64 k)])) 0 none (.pv none (.sl (some 5) (bds l'))) = some (.pv (some 2) (.agg [(none, .sl (some 5) (bds l')), (none, .int .i64 k)])) := rfl
 rw [← KS_set hq l k l' k e]
 have ho : ∀ (x : PV) (H : Heap), AV.own (.pv none x) H = (.pv none x, H) := fun _ _ => rfl
 by_cases hb : b ≤ q <;> simp [wStore, astore, KS_q hq, h, hb, ho, AV.plain, AV.shp, AV.refsIn]
theorem KS_st1 {hp : Heap} {q : Nat} (hq : q < hp.length) (l : List B) (k k' : Int) (b : Nat) (e : Heap) : wStore none b (KS hp q l k ++ e) [.ptr q 1, .pv none (.int .i64 k')] = some (.undef, KS hp q l k' ++ e) := by
 have h : AV.upd deep (.pv (some 2) (.agg [(none, .sl (some 5) (bds l)), (none, .int .i64 k)])) 1 none (.pv none (.int .i64 k')) = some (.pv (some 2) (.agg [(none, .sl (some 5) (bds l)), (none, .int .i64 k')])) := rfl
 rw [← KS_set hq l k l k' e]
 have ho : ∀ (x : PV) (H : Heap), AV.own (.pv none x) H = (.pv none x, H) := fun _ _ => rfl
 by_cases hb : b ≤ q <;> simp [wStore, astore, KS_q hq, h, hb, ho, AV.plain, AV.shp, AV.refsIn]
structure PairR (n : Nat) (l : List B) (p : Tm × Tm) (e : Int) (l' : List B) (n' : Nat) : Prop where
 okb : OKB l'
 le : n' ≤ n
 len : l'.length + n' ≤ l.length + n
 bad : e ≠ 0 → ∀ r, uni n l (p :: r) = ([], e)
 good : e = 0 → ∀ r, uni n l (p :: r) = uni n' l' r
theorem PairR.of_err {n : Nat} {l : List B} {p : Tm × Tm} {e : Int} (hO : OKB l) (he : e ≠ 0) (h : ustep l (flw l p.1) (flw l p.2) = .err e) : PairR (n + 1) l p e l n :=
 ⟨hO, by omega, by omega, fun _ r => uni_err r h, fun h => absurd h he⟩
theorem PairR.of_bind {n : Nat} {l : List B} {p : Tm × Tm} {v : Int} {t : Tm} (hO : OKB l) (hb : UBind l v t) (h : ustep l (flw l p.1) (flw l p.2) = .bind v t) : PairR (n + 1) l p 0 (insB l v t) n :=
 ⟨okb_ins hO hb.unb hb.rng hb.val hb.out, by omega, by rw [insB_len]; omega, fun h => absurd rfl h, fun _ r => uni_bind r h⟩
theorem rpair_ok : ∀ (n : Nat) (l : List B) (a b : Tm) (hp : Heap) (q : Nat), n ≤ 1048576 → OKB l → l.length + n < 90000000 → a.valid = true → b.valid = true → q < hp.length →
  ∃ (e : Int) (l' : List B) (n' : Nat), S 60 [.ptr q 0, a.av, b.av] (KS hp q l (1048576 - (n : Int))) = some (.ret (.pv none (.int .i64 e)), KS hp q l' (1048576 - (n' : Int))) ∧ PairR n l (a, b) e l' n' := by
 intro n
 induction n using Nat.strongRecOn with
 | _ n ih =>
  intro l a b hp q hn hO hl ha hb hq
  have hlen := fun l k => KS_len hp q l k
  have hg0 : ∀ (l : List B) (k : Int) (e : Heap), (KS hp q l k ++ e)[hp.length]? = e[0]? := fun l k e => getN0 (hlen l k)
  have hg1 : ∀ (l : List B) (k : Int) (e : Heap) (j : Nat), (KS hp q l k ++ e)[hp.length + j]? = e[j]? := fun l k e j => getN (hlen l k) j
  have hs0 : ∀ (l : List B) (k : Int) (Y : AObj) (e : Heap), (KS hp q l k ++ e).set hp.length Y = KS hp q l k ++ e.set 0 Y := fun l k Y e => setN0 (hlen l k) Y
  have hs1 : ∀ (l : List B) (k : Int) (Y : AObj) (e : Heap) (j : Nat), (KS hp q l k ++ e).set (hp.length + j) Y = KS hp q l k ++ e.set j Y := fun l k Y e j => setN (hlen l k) j Y
  have hl0 := fun l k e => KS_ld0 hq l k e
  have hl1 := fun l k e => KS_ld1 hq l k e
  have ht0 := fun l k l' b e => KS_st0 hq l k l' b e
  have ht1 := fun l k k' b e => KS_st1 hq l k k' b e
  suffices hP : ∃ v' hp', S 60 [.ptr q 0, a.av, b.av] (KS hp q l (1048576 - (n : Int))) = some (.ret v', hp') ∧ ∃ (e : Int) (l' : List B) (n' : Nat), v' = .pv none (.int .i64 e) ∧ hp' = KS hp q l' (1048576 - (n' : Int)) ∧ PairR n l (a, b) e l' n' by
   obtain ⟨v', hp', h1, e, l', n', rfl, rfl, h2⟩ := hP
   exact ⟨e, l', n', h1, h2⟩
  refine sem_heap_ex _ rfl rfl rfl rfl ?_
  cases n with
  | zero =>
   have hc : (1048576 : Int) ≤ 1048576 - ((0 : Nat) : Int) := by omega
   simp -dsimp -implicitDefEqProofs only [g60, c60r0, c60r1, c60r2, c60k3, c60r4, c60r5, c60r6, c60r7, c60r8, c60r9, c60r10, c60r11, c60k12, c60k13, c60k14, c60r15, c60k16, c60r17, c60r18, c60k19, c60r20, c60r21, c60r22, c60k23, c60r24, c60r25, c60k26, c60r27, c60r28, c60k29, c60r30, c60r31, c60k32, c60r33, c60r34, c60r35, c60k36, c60k37, c60r38, c60b39, c60k40, c60r41, c60, go_sem, seval, ↓reduceIte, Tm.av, hc, hlen, hg0, hg1, hs0, hs1, hl0, hl1, ht0, ht1, s_nilcheck_ptr, List.append_assoc, List.cons_append, List.nil_append, get_pre, get_pre0, set_pre, set_pre0, Nat.add_assoc, List.length_append, List.length_cons, List.length_nil, Nat.zero_add]
   refine ⟨2, l, 0, rfl, ?_, ⟨hO, by omega, by omega, fun _ r => uni_zero _ _ _, fun e => by cases e⟩⟩
   rw [if_pos (by simp [AV.refsIn])]
   exact List.take_left' (hlen _ _)
  | succ n =>
   have hc : ¬ (1048576 : Int) ≤ 1048576 - ((n + 1 : Nat) : Int) := by omega
   have w1 : IntKind.i64.wrap (1048576 - ((n + 1 : Nat) : Int) + 1) = 1048576 - (n : Int) := by rw [wrap64 (by omega) (by omega)]; omega
   have hf1 := rfollow_ok l a hO (by omega) ha
   have hf2 := rfollow_ok l b hO (by omega) hb
   have hx := flw_flwd hO ha
   have hy := flw_flwd hO hb
   have herr := fun (e : Int) (he : e ≠ 0) (h : ustep l (flw l a) (flw l b) = .err e) => PairR.of_err (n := n) (p := (a, b)) hO he h
   have hbnd := fun (v : Int) (t : Tm) (hb : UBind l v t) (h : ustep l (flw l a) (flw l b) = .bind v t) => PairR.of_bind (n := n) (p := (a, b)) hO hb h
   simp only [Tm.av] at hf1 hf2
   have hub := @ustep_bind l hO (flw l a) (flw l b) hx hy
   generalize hX : flw l a = x at *
   generalize hY : flw l b = y at *
   have fin : ∀ (e : Int) (l' : List B) (n' : Nat) (X : Heap), PairR (n + 1) l (a, b) e l' n' → ∃ (e' : Int) (l'' : List B) (n'' : Nat), (AV.pv none (.int .i64 e)) = .pv none (.int .i64 e') ∧ (if ((AV.pv none (PV.int IntKind.i64 e)).refsIn.all fun q => decide (q < hp.length)) = true then List.take hp.length (KS hp q l' (1048576 - (n' : Int)) ++ X) else KS hp q l' (1048576 - (n' : Int)) ++ X) = KS hp q l'' (1048576 - (n'' : Int)) ∧ PairR (n + 1) l (a, b) e' l'' n'' := fun e l' n' X h => by
    refine ⟨e, l', n', rfl, ?_, h⟩
    rw [if_pos (by simp [AV.refsIn])]
    exact List.take_left' (hlen _ _)
   by_cases hxk : x.kind = 0
   ·have hx2 := hx.2 hxk
    have hxk' := eq_true hxk
    by_cases hyk : y.kind = 0
    ·have hy2 := hy.2 hyk
     have hyk' := eq_true hyk
     by_cases hlt : y.n < x.n
     ·have hrb := rbound_ok l x.n y hO.good.1 hx2.1 (by omega)
      have hu : ustep l x y = .bind x.n y := by unfold ustep; rw [if_pos ⟨hxk, hyk⟩, if_pos hlt]
      simp -dsimp -implicitDefEqProofs only [g60, c60r0, c60r1, c60r2, c60k3, c60r4, c60r5, c60r6, c60r7, c60r8, c60r9, c60r10, c60r11, c60k12, c60k13, c60k14, c60r15, c60k16, c60r17, c60r18, c60k19, c60r20, c60r21, c60r22, c60k23, c60r24, c60r25, c60k26, c60r27, c60r28, c60k29, c60r30, c60r31, c60k32, c60r33, c60r34, c60r35, c60k36, c60k37, c60r38, c60b39, c60k40, c60r41, c60, go_sem, seval, ↓reduceIte, Tm.av, hc, w1, hf1, hf2, hxk', hyk', hlt, hrb, part_kind, part_n, hlen, hg0, hg1, hs0, hs1, hl0, hl1, ht0, ht1, s_nilcheck_ptr, List.append_assoc, List.cons_append, List.nil_append, get_pre, get_pre0, set_pre, set_pre0, Nat.add_assoc, List.length_append, List.length_cons, List.length_nil, Nat.zero_add]
      exact fin 0 _ n _ (hbnd _ _ (hub hu) hu)
     ·by_cases hgt : x.n < y.n
      ·have hrb := rbound_ok l y.n x hO.good.1 hy2.1 (by omega)
       have hu : ustep l x y = .bind y.n x := by unfold ustep; rw [if_pos ⟨hxk, hyk⟩, if_neg hlt, if_pos hgt]
       simp -dsimp -implicitDefEqProofs only [g60, c60r0, c60r1, c60r2, c60k3, c60r4, c60r5, c60r6, c60r7, c60r8, c60r9, c60r10, c60r11, c60k12, c60k13, c60k14, c60r15, c60k16, c60r17, c60r18, c60k19, c60r20, c60r21, c60r22, c60k23, c60r24, c60r25, c60k26, c60r27, c60r28, c60k29, c60r30, c60r31, c60k32, c60r33, c60r34, c60r35, c60k36, c60k37, c60r38, c60b39, c60k40, c60r41, c60, go_sem, seval, ↓reduceIte, Tm.av, hc, w1, hf1, hf2, hxk', hyk', hlt, hgt, hrb, part_kind, part_n, hlen, hg0, hg1, hs0, hs1, hl0, hl1, ht0, ht1, s_nilcheck_ptr, List.append_assoc, List.cons_append, List.nil_append, get_pre, get_pre0, set_pre, set_pre0, Nat.add_assoc, List.length_append, List.length_cons, List.length_nil, Nat.zero_add]
       exact fin 0 _ n _ (hbnd _ _ (hub hu) hu)
      ·have hu : ustep l x y = .args [] := by unfold ustep; rw [if_pos ⟨hxk, hyk⟩, if_neg hlt, if_neg hgt]
       simp -dsimp -implicitDefEqProofs only [g60, c60r0, c60r1, c60r2, c60k3, c60r4, c60r5, c60r6, c60r7, c60r8, c60r9, c60r10, c60r11, c60k12, c60k13, c60k14, c60r15, c60k16, c60r17, c60r18, c60k19, c60r20, c60r21, c60r22, c60k23, c60r24, c60r25, c60k26, c60r27, c60r28, c60k29, c60r30, c60r31, c60k32, c60r33, c60r34, c60r35, c60k36, c60k37, c60r38, c60b39, c60k40, c60r41, c60, go_sem, seval, ↓reduceIte, Tm.av, hc, w1, hf1, hf2, hxk', hyk', hlt, hgt, part_kind, part_n, hlen, hg0, hg1, hs0, hs1, hl0, hl1, ht0, ht1, s_nilcheck_ptr, List.append_assoc, List.cons_append, List.nil_append, get_pre, get_pre0, set_pre, set_pre0, Nat.add_assoc, List.length_append, List.length_cons, List.length_nil, Nat.zero_add]
       exact fin 0 l n _ ⟨hO, by omega, by omega, fun h => absurd rfl h, fun _ r => uni_args (p := (a, b)) r (by show ustep l (flw l a) (flw l b) = _; rw [hX, hY]; exact hu)⟩
    ·have hyk' := eq_false hyk
     by_cases hin : inR l x.n y
     ·have hw := rwithin_ok l hO (by omega) x.n y hy.1 true (by simp [hin])
      have hu : ustep l x y = .err 9 := by unfold ustep; rw [if_neg (fun h => hyk h.2), if_pos hxk, if_pos hin]
      simp only [Tm.av] at hw
      simp -dsimp -implicitDefEqProofs only [g60, c60r0, c60r1, c60r2, c60k3, c60r4, c60r5, c60r6, c60r7, c60r8, c60r9, c60r10, c60r11, c60k12, c60k13, c60k14, c60r15, c60k16, c60r17, c60r18, c60k19, c60r20, c60r21, c60r22, c60k23, c60r24, c60r25, c60k26, c60r27, c60r28, c60k29, c60r30, c60r31, c60k32, c60r33, c60r34, c60r35, c60k36, c60k37, c60r38, c60b39, c60k40, c60r41, c60, go_sem, seval, ↓reduceIte, Tm.av, hc, w1, hf1, hf2, hxk', hyk', hw, part_kind, part_n, hlen, hg0, hg1, hs0, hs1, hl0, hl1, ht0, ht1, s_nilcheck_ptr, List.append_assoc, List.cons_append, List.nil_append, get_pre, get_pre0, set_pre, set_pre0, Nat.add_assoc, List.length_append, List.length_cons, List.length_nil, Nat.zero_add]
      exact fin 9 l n _ (herr 9 (by decide) hu)
     ·have hw := rwithin_ok l hO (by omega) x.n y hy.1 false (by simp [hin])
      have hrb := rbound_ok l x.n y hO.good.1 hx2.1 (by omega)
      have hu : ustep l x y = .bind x.n y := by unfold ustep; rw [if_neg (fun h => hyk h.2), if_pos hxk, if_neg hin]
      simp only [Tm.av] at hw
      simp -dsimp -implicitDefEqProofs only [g60, c60r0, c60r1, c60r2, c60k3, c60r4, c60r5, c60r6, c60r7, c60r8, c60r9, c60r10, c60r11, c60k12, c60k13, c60k14, c60r15, c60k16, c60r17, c60r18, c60k19, c60r20, c60r21, c60r22, c60k23, c60r24, c60r25, c60k26, c60r27, c60r28, c60k29, c60r30, c60r31, c60k32, c60r33, c60r34, c60r35, c60k36, c60k37, c60r38, c60b39, c60k40, c60r41, c60, go_sem, seval, ↓reduceIte, Tm.av, hc, w1, hf1, hf2, hxk', hyk', hw, hrb, part_kind, part_n, hlen, hg0, hg1, hs0, hs1, hl0, hl1, ht0, ht1, s_nilcheck_ptr, List.append_assoc, List.cons_append, List.nil_append, get_pre, get_pre0, set_pre, set_pre0, Nat.add_assoc, List.length_append, List.length_cons, List.length_nil, Nat.zero_add]
      exact fin 0 _ n _ (hbnd _ _ (hub hu) hu)
   ·have hxk' := eq_false hxk
    by_cases hyk : y.kind = 0
    ·have hy2 := hy.2 hyk
     have hyk' := eq_true hyk
     by_cases hin : inR l y.n x
     ·have hw := rwithin_ok l hO (by omega) y.n x hx.1 true (by simp [hin])
      have hu : ustep l x y = .err 9 := by unfold ustep; rw [if_neg (fun h => hxk h.1), if_neg hxk, if_pos hyk, if_pos hin]
      simp only [Tm.av] at hw
      simp -dsimp -implicitDefEqProofs only [g60, c60r0, c60r1, c60r2, c60k3, c60r4, c60r5, c60r6, c60r7, c60r8, c60r9, c60r10, c60r11, c60k12, c60k13, c60k14, c60r15, c60k16, c60r17, c60r18, c60k19, c60r20, c60r21, c60r22, c60k23, c60r24, c60r25, c60k26, c60r27, c60r28, c60k29, c60r30, c60r31, c60k32, c60r33, c60r34, c60r35, c60k36, c60k37, c60r38, c60b39, c60k40, c60r41, c60, go_sem, seval, ↓reduceIte, Tm.av, hc, w1, hf1, hf2, hxk', hyk', hw, part_kind, part_n, hlen, hg0, hg1, hs0, hs1, hl0, hl1, ht0, ht1, s_nilcheck_ptr, List.append_assoc, List.cons_append, List.nil_append, get_pre, get_pre0, set_pre, set_pre0, Nat.add_assoc, List.length_append, List.length_cons, List.length_nil, Nat.zero_add]
      exact fin 9 l n _ (herr 9 (by decide) hu)
     ·have hw := rwithin_ok l hO (by omega) y.n x hx.1 false (by simp [hin])
      have hrb := rbound_ok l y.n x hO.good.1 hy2.1 (by omega)
      have hu : ustep l x y = .bind y.n x := by unfold ustep; rw [if_neg (fun h => hxk h.1), if_neg hxk, if_pos hyk, if_neg hin]
      simp only [Tm.av] at hw
      simp -dsimp -implicitDefEqProofs only [g60, c60r0, c60r1, c60r2, c60k3, c60r4, c60r5, c60r6, c60r7, c60r8, c60r9, c60r10, c60r11, c60k12, c60k13, c60k14, c60r15, c60k16, c60r17, c60r18, c60k19, c60r20, c60r21, c60r22, c60k23, c60r24, c60r25, c60k26, c60r27, c60r28, c60k29, c60r30, c60r31, c60k32, c60r33, c60r34, c60r35, c60k36, c60k37, c60r38, c60b39, c60k40, c60r41, c60, go_sem, seval, ↓reduceIte, Tm.av, hc, w1, hf1, hf2, hxk', hyk', hw, hrb, part_kind, part_n, hlen, hg0, hg1, hs0, hs1, hl0, hl1, ht0, ht1, s_nilcheck_ptr, List.append_assoc, List.cons_append, List.nil_append, get_pre, get_pre0, set_pre, set_pre0, Nat.add_assoc, List.length_append, List.length_cons, List.length_nil, Nat.zero_add]
      exact fin 0 _ n _ (hbnd _ _ (hub hu) hu)
    ·have hyk' := eq_false hyk
     by_cases hm : x.kind = y.kind ∧ x.n = y.n ∧ x.name = y.name ∧ x.args.length = y.args.length
     rotate_left
     ·have hu : ustep l x y = .err 4 := by unfold ustep; rw [if_neg (fun h => hxk h.1), if_neg hxk, if_neg hyk, if_neg hm]
      have hz := fin 4 l n [AObj.box (some 4) (AV.pv (some 4) x.pv), AObj.box (some 4) (AV.pv (some 4) y.pv)] (herr 4 (by decide) hu)
      by_cases m1 : x.kind = y.kind
      ·by_cases m2 : x.n = y.n
       ·by_cases m3 : x.name = y.name
        ·have m4 : ¬ x.args.length = y.args.length := fun e => hm ⟨m1, m2, m3, e⟩
         have m4 : ¬ (x.args.length : Int) = (y.args.length : Int) := by omega
         have m1' := eq_true m1
         have m2' := eq_true m2
         have m3' := eq_true m3
         simp -dsimp -implicitDefEqProofs only [g60, c60r0, c60r1, c60r2, c60k3, c60r4, c60r5, c60r6, c60r7, c60r8, c60r9, c60r10, c60r11, c60k12, c60k13, c60k14, c60r15, c60k16, c60r17, c60r18, c60k19, c60r20, c60r21, c60r22, c60k23, c60r24, c60r25, c60k26, c60r27, c60r28, c60k29, c60r30, c60r31, c60k32, c60r33, c60r34, c60r35, c60k36, c60k37, c60r38, c60b39, c60k40, c60r41, c60, go_sem, seval, ↓reduceIte, Tm.av, hc, w1, hf1, hf2, hxk', hyk', m1', m2', m3', m4, part_name, part_args, Tm.pvs_len, part_kind, part_n, hlen, hg0, hg1, hs0, hs1, hl0, hl1, ht0, ht1, s_nilcheck_ptr, List.append_assoc, List.cons_append, List.nil_append, get_pre, get_pre0, set_pre, set_pre0, Nat.add_assoc, List.length_append, List.length_cons, List.length_nil, Nat.zero_add]
         exact hz
        ·have m1' := eq_true m1
         have m2' := eq_true m2
         simp -dsimp -implicitDefEqProofs only [g60, c60r0, c60r1, c60r2, c60k3, c60r4, c60r5, c60r6, c60r7, c60r8, c60r9, c60r10, c60r11, c60k12, c60k13, c60k14, c60r15, c60k16, c60r17, c60r18, c60k19, c60r20, c60r21, c60r22, c60k23, c60r24, c60r25, c60k26, c60r27, c60r28, c60k29, c60r30, c60r31, c60k32, c60r33, c60r34, c60r35, c60k36, c60k37, c60r38, c60b39, c60k40, c60r41, c60, go_sem, seval, ↓reduceIte, Tm.av, hc, w1, hf1, hf2, hxk', hyk', m1', m2', m3, part_name, part_args, Tm.pvs_len, part_kind, part_n, hlen, hg0, hg1, hs0, hs1, hl0, hl1, ht0, ht1, s_nilcheck_ptr, List.append_assoc, List.cons_append, List.nil_append, get_pre, get_pre0, set_pre, set_pre0, Nat.add_assoc, List.length_append, List.length_cons, List.length_nil, Nat.zero_add]
         exact hz
       ·have m1' := eq_true m1
        simp -dsimp -implicitDefEqProofs only [g60, c60r0, c60r1, c60r2, c60k3, c60r4, c60r5, c60r6, c60r7, c60r8, c60r9, c60r10, c60r11, c60k12, c60k13, c60k14, c60r15, c60k16, c60r17, c60r18, c60k19, c60r20, c60r21, c60r22, c60k23, c60r24, c60r25, c60k26, c60r27, c60r28, c60k29, c60r30, c60r31, c60k32, c60r33, c60r34, c60r35, c60k36, c60k37, c60r38, c60b39, c60k40, c60r41, c60, go_sem, seval, ↓reduceIte, Tm.av, hc, w1, hf1, hf2, hxk', hyk', m1', m2, part_name, part_args, Tm.pvs_len, part_kind, part_n, hlen, hg0, hg1, hs0, hs1, hl0, hl1, ht0, ht1, s_nilcheck_ptr, List.append_assoc, List.cons_append, List.nil_append, get_pre, get_pre0, set_pre, set_pre0, Nat.add_assoc, List.length_append, List.length_cons, List.length_nil, Nat.zero_add]
        exact hz
      ·simp -dsimp -implicitDefEqProofs only [g60, c60r0, c60r1, c60r2, c60k3, c60r4, c60r5, c60r6, c60r7, c60r8, c60r9, c60r10, c60r11, c60k12, c60k13, c60k14, c60r15, c60k16, c60r17, c60r18, c60k19, c60r20, c60r21, c60r22, c60k23, c60r24, c60r25, c60k26, c60r27, c60r28, c60k29, c60r30, c60r31, c60k32, c60r33, c60r34, c60r35, c60k36, c60k37, c60r38, c60b39, c60k40, c60r41, c60, go_sem, seval, ↓reduceIte, Tm.av, hc, w1, hf1, hf2, hxk', hyk', m1, part_name, part_args, Tm.pvs_len, part_kind, part_n, hlen, hg0, hg1, hs0, hs1, hl0, hl1, ht0, ht1, s_nilcheck_ptr, List.append_assoc, List.cons_append, List.nil_append, get_pre, get_pre0, set_pre, set_pre0, Nat.add_assoc, List.length_append, List.length_cons, List.length_nil, Nat.zero_add]
       exact hz
     ·have hu : ustep l x y = .args (x.args.zip y.args) := by unfold ustep; rw [if_neg (fun h => hxk h.1), if_neg hxk, if_neg hyk, if_pos hm]
      obtain ⟨m1, m2, m3, m4⟩ := hm
      have m1' := eq_true m1
      have m2' := eq_true m2
      have m3' := eq_true m3
      have m4' := eq_true (show (x.args.length : Int) = (y.args.length : Int) by omega)
      simp -dsimp -implicitDefEqProofs only [g60, c60r0, c60r1, c60r2, c60k3, c60r4, c60r5, c60r6, c60r7, c60r8, c60r9, c60r10, c60r11, c60k12, c60k13, c60k14, c60r15, c60k16, c60r17, c60r18, c60k19, c60r20, c60r21, c60r22, c60k23, c60r24, c60r25, c60k26, c60r27, c60r28, c60k29, c60r30, c60r31, c60k32, c60r33, c60r34, c60r35, c60k36, c60k37, c60r38, c60b39, c60k40, c60r41, c60, go_sem, seval, ↓reduceIte, Tm.av, hc, w1, hf1, hf2, hxk', hyk', m1', m2', m3', m4', part_name, part_args, Tm.pvs_len, part_kind, part_n, hlen, hg0, hg1, hs0, hs1, hl0, hl1, ht0, ht1, s_nilcheck_ptr, List.append_assoc, List.cons_append, List.nil_append, get_pre, get_pre0, set_pre, set_pre0, Nat.add_assoc, List.length_append, List.length_cons, List.length_nil, Nat.zero_add]
      have hua : ∀ r, uni (n + 1) l ((a, b) :: r) = uni n l (x.args.zip y.args ++ r) := fun r => uni_args (p := (a, b)) r (by show ustep l (flw l a) (flw l b) = _; rw [hX, hY]; exact hu)
      have hxs := valid_size hx.1
      have hxe := x.size_eq
      have hxl := Tm.sizes_len x.args
      have hzl : (x.args.zip y.args).length = x.args.length := by rw [List.length_zip]; omega
      refine W_for (α := List B × Nat) x.args.length (fun i m => OKB m.1 ∧ m.2 ≤ n ∧ m.1.length + m.2 ≤ l.length + n ∧ ∀ r, uni n l (x.args.zip y.args ++ r) = uni m.2 m.1 ((x.args.zip y.args).drop i ++ r))
       (fun i m => ⟨[(0, .ptr q 0), (4, .ptr hp.length 0), (5, .ptr (hp.length + 1) 0), (7, .pv none (.int .i64 i))], KS hp q m.1 (1048576 - (m.2 : Int)) ++ [.box (some 4) (.pv (some 4) x.pv), .box (some 4) (.pv (some 4) y.pv)]⟩) (l, n) ⟨⟨hO, Nat.le_refl _, Nat.le_refl _, fun r => rfl⟩, rfl⟩ ?_ ?_
      ·rintro i ⟨l1, n1⟩ h ⟨q1, q2, q3, q4⟩
       dsimp only at q1 q2 q3 q4
       have hc : (i : Int) < (x.args.length : Int) := by omega
       obtain ⟨u, hu⟩ : ∃ u, x.args[i]? = some u := ⟨_, List.getElem?_eq_getElem h⟩
       obtain ⟨w, hw⟩ : ∃ w, y.args[i]? = some w := ⟨_, List.getElem?_eq_getElem (by omega)⟩
       have hdr : (x.args.zip y.args).drop i = (u, w) :: (x.args.zip y.args).drop (i + 1) := by
        obtain ⟨k1, e1⟩ := List.getElem?_eq_some_iff.1 hu
        obtain ⟨k2, e2⟩ := List.getElem?_eq_some_iff.1 hw
        rw [List.drop_eq_getElem_cons (by omega), List.getElem_zip, e1, e2]
       obtain ⟨e, l2, n2, hcall, hR⟩ := ih n1 (by omega) l1 u w (hp ++ [.box (some 4) (.pv (some 4) x.pv), .box (some 4) (.pv (some 4) y.pv)]) q (by omega) q1 (by omega) (valid_arg hx.1 (List.mem_of_getElem? hu)) (valid_arg hy.1 (List.mem_of_getElem? hw)) (by simp; omega)
       rw [KS_more hq, KS_more hq] at hcall
       simp only [Tm.av] at hcall
       have w2 : IntKind.i64.wrap ((i : Int) + 1) = ((i + 1 : Nat) : Int) := by rw [wrap64 (by omega) (by omega)]; omega
       have hle := hR.le
       have hle2 := hR.len
       by_cases he : e = 0
       ·have he' := eq_true he
        simp -dsimp -implicitDefEqProofs only [g60, c60r0, c60r1, c60r2, c60k3, c60r4, c60r5, c60r6, c60r7, c60r8, c60r9, c60r10, c60r11, c60k12, c60k13, c60k14, c60r15, c60k16, c60r17, c60r18, c60k19, c60r20, c60r21, c60r22, c60k23, c60r24, c60r25, c60k26, c60r27, c60r28, c60k29, c60r30, c60r31, c60k32, c60r33, c60r34, c60r35, c60k36, c60k37, c60r38, c60b39, c60k40, c60r41, c60, go_sem, seval, ↓reduceIte, part_args, Tm.pvs_len, hc, s_iaddr_pv (Tm.pvs_get hu), s_iaddr_pv (Tm.pvs_get hw), hcall, he', w2, part_kind, part_n, hlen, hg0, hg1, hs0, hs1, hl0, hl1, ht0, ht1, s_nilcheck_ptr, List.append_assoc, List.cons_append, List.nil_append, get_pre, get_pre0, set_pre, set_pre0, Nat.add_assoc, List.length_append, List.length_cons, List.length_nil, Nat.zero_add]
        refine ⟨(l2, n2), ⟨hR.okb, by dsimp only; omega, by dsimp only; omega, fun r => ?_⟩, ?_⟩
        ·rw [q4, hdr, List.cons_append, hR.good he]
        ·rw [collect_pre 2 (hlen _ _) rfl (by simp [AObj.refs, AV.refsIn]) (by simp [AV.refsIn]; omega)]
         rfl
       ·simp -dsimp -implicitDefEqProofs only [g60, c60r0, c60r1, c60r2, c60k3, c60r4, c60r5, c60r6, c60r7, c60r8, c60r9, c60r10, c60r11, c60k12, c60k13, c60k14, c60r15, c60k16, c60r17, c60r18, c60k19, c60r20, c60r21, c60r22, c60k23, c60r24, c60r25, c60k26, c60r27, c60r28, c60k29, c60r30, c60r31, c60k32, c60r33, c60r34, c60r35, c60k36, c60k37, c60r38, c60b39, c60k40, c60r41, c60, go_sem, seval, ↓reduceIte, part_args, Tm.pvs_len, hc, s_iaddr_pv (Tm.pvs_get hu), s_iaddr_pv (Tm.pvs_get hw), hcall, he, part_kind, part_n, hlen, hg0, hg1, hs0, hs1, hl0, hl1, ht0, ht1, s_nilcheck_ptr, List.append_assoc, List.cons_append, List.nil_append, get_pre, get_pre0, set_pre, set_pre0, Nat.add_assoc, List.length_append, List.length_cons, List.length_nil, Nat.zero_add]
        refine fin e l2 n2 _ ⟨hR.okb, by omega, by omega, fun _ r => ?_, fun h => absurd h he⟩
        rw [hua, q4, hdr, List.cons_append, hR.bad he]
      ·rintro ⟨l1, n1⟩ ⟨q1, q2, q3, q4⟩
       dsimp only at q1 q2 q3 q4
       have hc : ¬ (x.args.length : Int) < (x.args.length : Int) := by omega
       simp -dsimp -implicitDefEqProofs only [g60, c60r0, c60r1, c60r2, c60k3, c60r4, c60r5, c60r6, c60r7, c60r8, c60r9, c60r10, c60r11, c60k12, c60k13, c60k14, c60r15, c60k16, c60r17, c60r18, c60k19, c60r20, c60r21, c60r22, c60k23, c60r24, c60r25, c60k26, c60r27, c60r28, c60k29, c60r30, c60r31, c60k32, c60r33, c60r34, c60r35, c60k36, c60k37, c60r38, c60b39, c60k40, c60r41, c60, go_sem, seval, ↓reduceIte, part_args, Tm.pvs_len, hc, part_kind, part_n, hlen, hg0, hg1, hs0, hs1, hl0, hl1, ht0, ht1, s_nilcheck_ptr, List.append_assoc, List.cons_append, List.nil_append, get_pre, get_pre0, set_pre, set_pre0, Nat.add_assoc, List.length_append, List.length_cons, List.length_nil, Nat.zero_add]
       refine fin 0 l1 n1 _ ⟨q1, by omega, by omega, fun h => absurd rfl h, fun _ r => ?_⟩
       rw [hua, q4, ← hzl, List.drop_length, List.nil_append]
theorem runified_ok (l : List B) (a b : Tm) (hO : OKB l) (hl : l.length < 80000000) (ha : a.valid = true) (hb : b.valid = true) :
  ∃ k : Int, ∀ hp, S 38 [.pv none (.sl (some 5) (bds l)), a.av, b.av] hp = some (.ret (.tuple [.pv none (.sl (some 5) (bds (uni 1048576 l [(a, b)]).1)), .pv none (.int .i64 k), .pv none (.int .i64 (uni 1048576 l [(a, b)]).2)]), hp) := by
 have hn0 : ∀ H : Heap, wNilsl (some 5) H = some (.sl (some 5) H.length 0 0 0, H ++ [.arr (some 5) [] false]) := fun H => w_nilsl (sh := some 5) (by decide)
 obtain ⟨e, l', n', hcall, hR⟩ := rpair_ok 1048576 l a b [.box (some 4) (.pv (some 4) a.pv), .box (some 4) (.pv (some 4) b.pv), .arr (some 5) [] false, .box none .undef] 3 (by omega) hO (by omega) ha hb (by simp)
 refine ⟨1048576 - (n' : Int), fun hp => sem_pure rfl rfl rfl (freezeAll_pvs [(none, .sl (some 5) (bds l)), (some 4, a.pv), (some 4, b.pv)]) rfl ?_⟩
 have e1 : KS [.box (some 4) (.pv (some 4) a.pv), .box (some 4) (.pv (some 4) b.pv), .arr (some 5) [] false, .box none .undef] 3 l (1048576 - ((1048576 : Nat) : Int)) = [.box (some 4) (.pv (some 4) a.pv), .box (some 4) (.pv (some 4) b.pv), .arr (some 5) [] false, .box (some 2) (.pv (some 2) (.agg [(none, .sl (some 5) (bds l)), (none, .int .i64 0)]))] := rfl
 have e2 : KS [.box (some 4) (.pv (some 4) a.pv), .box (some 4) (.pv (some 4) b.pv), .arr (some 5) [] false, .box none .undef] 3 l' (1048576 - (n' : Int)) = [.box (some 4) (.pv (some 4) a.pv), .box (some 4) (.pv (some 4) b.pv), .arr (some 5) [] false, .box (some 2) (.pv (some 2) (.agg [(none, .sl (some 5) (bds l')), (none, .int .i64 (1048576 - (n' : Int)))]))] := rfl
 rw [e1, e2] at hcall
 simp only [Tm.av] at hcall
 have hbd : sBuild [(none, .tsl (some 5) []), (none, .pv none (.int .i64 0))] [0] [.pv none (.sl (some 5) (bds l))] = some (.pv (some 2) (.agg [(none, .sl (some 5) (bds l)), (none, .int .i64 0)])) := rfl
 have p0 : ∀ k : Int, PV.part deep (.agg [(none, .sl (some 5) (bds l')), (none, .int .i64 k)]) 0 none = some (.sl (some 5) (bds l')) := fun _ => rfl
 have p1 : ∀ k : Int, PV.part deep (.agg [(none, .sl (some 5) (bds l')), (none, .int .i64 k)]) 1 none = some (.int .i64 k) := fun _ => rfl
 by_cases he : e = 0
 ·have he' := eq_true he
  have hu := hR.good he []
  rw [uni_nil] at hu
  rw [hu]
  simp -dsimp -implicitDefEqProofs only [g38, c38r0, c38r1, c38r2, c38r3, c38r4, c38k5, c38r6, c38, go_sem, seval, ↓reduceIte, Tm.av, hn0, hbd, hcall, he', p0, p1, s_nilcheck_ptr, List.append_assoc, List.cons_append, List.nil_append, get_pre, get_pre0, set_pre, set_pre0, Nat.add_assoc, List.length_append, List.length_cons, List.length_nil, Nat.zero_add]
 ·have hu := hR.bad he []
  rw [hu]
  simp -dsimp -implicitDefEqProofs only [g38, c38r0, c38r1, c38r2, c38r3, c38r4, c38k5, c38r6, c38, go_sem, seval, ↓reduceIte, Tm.av, hn0, hbd, hcall, he, p0, p1, s_nilcheck_ptr, List.append_assoc, List.cons_append, List.nil_append, get_pre, get_pre0, set_pre, set_pre0, Nat.add_assoc, List.length_append, List.length_cons, List.length_nil, Nat.zero_add]
  rfl
noncomputable def unR (l : List B) (a b : Tm) : List B × Int := if okb l = true ∧ a.valid = true ∧ b.valid = true then uni 1048576 l [(a, b)] else ([], 1)
theorem runify_ok (l : List B) (a b : Tm) (hl : l.length < 80000000) (hsz : ∀ b ∈ l, b.2.size < 1000000000) (ha : a.size < 1000000000) (hb : b.size < 1000000000) (hp : Heap) :
  S 13 [.pv none (.sl (some 5) (bds l)), a.av, b.av] hp = some (.ret (.tuple [.pv none (.sl (some 5) (bds (unR l a b).1)), .pv none (.int .i64 (unR l a b).2)]), hp) := by
 have hn0 : ∀ H : Heap, wNilsl (some 5) H = some (.sl (some 5) H.length 0 0 0, H ++ [.arr (some 5) [] false]) := fun H => w_nilsl (sh := some 5) (by decide)
 refine sem_pure rfl rfl rfl (freezeAll_pvs [(none, .sl (some 5) (bds l)), (some 4, a.pv), (some 4, b.pv)]) rfl ?_
 have h1 := rvalidB_eq l (by omega) hsz
 have h2 := fun hp => rvalid_ok a hp ha
 have h3 := fun hp => rvalid_ok b hp hb
 simp only [Tm.av] at h2 h3
 cases hok : okb l with
 | false =>
  rw [hok] at h1
  have e : unR l a b = ([], 1) := by unfold unR; rw [if_neg (by simp [hok])]
  rw [e]
  simp -dsimp -implicitDefEqProofs only [g13, c13r0, c13r1, c13r2, c13k3, c13r4, c13r5, c13, go_sem, seval, ↓reduceIte, Tm.av, hn0, h1, h2, h3, List.append_assoc, List.cons_append, List.nil_append, get_pre, get_pre0, set_pre, set_pre0, Nat.add_assoc, List.length_append, List.length_cons, List.length_nil, Nat.zero_add]
  try rfl
 | true =>
  rw [hok] at h1
  by_cases va : a.valid = true
  ·by_cases vb : b.valid = true
   ·have e : unR l a b = uni 1048576 l [(a, b)] := by unfold unR; rw [if_pos ⟨hok, va, vb⟩]
    rw [e]
    obtain ⟨k, h4⟩ := runified_ok l a b (okb_iff.1 hok) hl va vb
    simp only [Tm.av] at h4
    generalize uni 1048576 l [(a, b)] = R at h4 ⊢
    simp -dsimp -implicitDefEqProofs only [g13, c13r0, c13r1, c13r2, c13k3, c13r4, c13r5, c13, go_sem, seval, ↓reduceIte, Tm.av, hn0, h1, h2, h3, va, vb, h4, List.append_assoc, List.cons_append, List.nil_append, get_pre, get_pre0, set_pre, set_pre0, Nat.add_assoc, List.length_append, List.length_cons, List.length_nil, Nat.zero_add]
    try rfl
   ·have vb' : b.valid = false := by simpa using vb
    have e : unR l a b = ([], 1) := by unfold unR; rw [if_neg (by simp [vb'])]
    rw [e]
    simp -dsimp -implicitDefEqProofs only [g13, c13r0, c13r1, c13r2, c13k3, c13r4, c13r5, c13, go_sem, seval, ↓reduceIte, Tm.av, hn0, h1, h2, h3, va, vb', List.append_assoc, List.cons_append, List.nil_append, get_pre, get_pre0, set_pre, set_pre0, Nat.add_assoc, List.length_append, List.length_cons, List.length_nil, Nat.zero_add]
    try rfl
  ·have va' : a.valid = false := by simpa using va
   have e : unR l a b = ([], 1) := by unfold unR; rw [if_neg (by simp [va'])]
   rw [e]
   simp -dsimp -implicitDefEqProofs only [g13, c13r0, c13r1, c13r2, c13k3, c13r4, c13r5, c13, go_sem, seval, ↓reduceIte, Tm.av, hn0, h1, h2, h3, va', List.append_assoc, List.cons_append, List.nil_append, get_pre, get_pre0, set_pre, set_pre0, Nat.add_assoc, List.length_append, List.length_cons, List.length_nil, Nat.zero_add]
   try rfl
end Go.Proofs.Ytenkiofpobeilaa
