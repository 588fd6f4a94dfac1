/- What is proved: the program's run of a unification. -/
import Derived.Test.YtenkiofpobeilaaPCn
set_option linter.unusedSimpArgs false
set_option linter.unusedVariables false
namespace Go.Proofs.Ytenkiofpobeilaa
open Go.Am
def prP (p : Tm × Tm) : PV := .agg [(some 4, p.1.pv), (some 4, p.2.pv)]
def prs (r : List (Tm × Tm)) : List PV := r.map prP
theorem beq_prP (p : Tm × Tm) : PV.beq (prP p) (prP p) = true := by simp [prP, PV.beq, PV.beqc, beq_self]
theorem part_p0 (p : Tm × Tm) : PV.part deep (prP p) 0 (some 4) = some p.1.pv := rfl
theorem part_p1 (p : Tm × Tm) : PV.part deep (prP p) 4 (some 4) = some p.2.pv := rfl
theorem bq_arr8 {es : List PV} (h : ∀ x ∈ es, PV.beq x x = true) : AObj.beq (.arr (some 8) es false) (.arr (some 8) es false) = true := by
 simp [AObj.beq, beqs_all h]
theorem US_bq {hp : Heap} (hb : Bq hp) (q r : Nat) (l : List B) : Bq (US hp q r l) := by
 unfold US
 exact (hb.set q (by simp [AObj.beq, AV.beq, AV.beqc])).set r (bq_bds l false)
structure RunI (l0 : List B) (p0 : Tm × Tm) (n : Nat) (l : List B) (r : List (Tm × Tm)) : Prop where
 okb : OKB l
 val : ∀ p ∈ r, p.1.valid = true ∧ p.2.valid = true
 eq : uni 1048576 l0 [p0] = uni n l r
 le : n ≤ 1048576
 stk : StkI l r
 cnt : r.length + 2000 * l.length + 2000 * n ≤ 1 + 2000 * 1048576 + 2000 * l0.length
theorem RunI.lim {l0 : List B} {p0 : Tm × Tm} {n : Nat} {l : List B} {r : List (Tm × Tm)} (h : RunI l0 p0 n l r) (h0 : l0.length ≤ 10000) : r.length + 1 ≤ Am.lim := by
 have h1 := h.stk.len
 have h2 := h.cnt
 unfold Am.lim
 omega
theorem RunI.short {l0 : List B} {p0 : Tm × Tm} {n : Nat} {l : List B} {r : List (Tm × Tm)} (h : RunI l0 p0 n l r) (h0 : l0.length ≤ 10000) : l.length < 80000000 := by
 have h2 := h.cnt
 omega
theorem RunI.bind {l0 : List B} {p0 : Tm × Tm} {n : Nat} {l : List B} {p : Tm × Tm} {r : List (Tm × Tm)} (h : RunI l0 p0 (n + 1) l (p :: r)) {v : Int} {t : Tm} (hu : ustep l (flw l p.1) (flw l p.2) = .bind v t) : RunI l0 p0 n (insB l v t) r := by
 obtain ⟨hO, hv, he, hle, hs, hc⟩ := h
 have hp := hv p List.mem_cons_self
 have hb := ustep_bind hO (flw_flwd hO hp.1) (flw_flwd hO hp.2) hu
 refine ⟨okb_ins hO hb.unb hb.rng hb.val hb.out, fun q hq => hv q (List.mem_cons_of_mem _ hq), by rw [he, uni_bind r hu], by omega, StkI.ins hO.good hb.unb hs.2, ?_⟩
 rw [insB_len]
 simp only [List.length_cons] at hc
 omega
theorem RunI.none {l0 : List B} {p0 : Tm × Tm} {n : Nat} {l : List B} {p : Tm × Tm} {r : List (Tm × Tm)} (h : RunI l0 p0 (n + 1) l (p :: r)) (hu : ustep l (flw l p.1) (flw l p.2) = .args []) : RunI l0 p0 n l r := by
 obtain ⟨hO, hv, he, hle, hs, hc⟩ := h
 refine ⟨hO, fun q hq => hv q (List.mem_cons_of_mem _ hq), by rw [he, uni_args r hu]; rfl, by omega, hs.2, ?_⟩
 simp only [List.length_cons] at hc
 omega
theorem RunI.args {l0 : List B} {p0 : Tm × Tm} {n : Nat} {l : List B} {p : Tm × Tm} {r : List (Tm × Tm)} (h : RunI l0 p0 (n + 1) l (p :: r)) (hk : ¬ (flw l p.1).kind = 0) (hl : (flw l p.1).args.length = (flw l p.2).args.length) (hu : ustep l (flw l p.1) (flw l p.2) = .args ((flw l p.1).args.zip (flw l p.2).args)) : RunI l0 p0 n l ((flw l p.1).args.zip (flw l p.2).args ++ r) := by
 obtain ⟨hO, hv, he, hle, hs, hc⟩ := h
 have hp := hv p List.mem_cons_self
 have ha := ustep_args (flw_flwd hO hp.1) (flw_flwd hO hp.2) hu
 refine ⟨hO, fun q hq => (List.mem_append.1 hq).elim (ha.1 q) fun hq => hv q (List.mem_cons_of_mem _ hq), by rw [he, uni_args r hu], by omega, hs.push hO hp.1 _ hk hl, ?_⟩
 have := ha.2
 rw [List.length_append]
 simp only [List.length_cons] at hc
 omega
def RunP (hp : Heap) (q r : Nat) (R : List B × Int) (res : ARes) (hp' : Heap) : Prop :=
 (∃ l', R = (l', 0) ∧ res = .ret (.tuple []) ∧ hp' = US hp q r l') ∨ ∃ e l', R = ([], e) ∧ res = .panic (stopP e) ∧ hp' = US hp q r l'
theorem prun_ok (l0 : List B) (a b : Tm) (hO : OKB l0) (hl : l0.length ≤ 10000) (ha : a.valid = true) (hb : b.valid = true) (hp : Heap) (hbq : Bq hp) (q r : Nat) (hq : q < hp.length) (hr : r < hp.length) (hn : q ≠ r) :
  ∃ res hp', S 37 [.ptr q 0, a.av, b.av] (US hp q r l0) = some (res, hp') ∧ RunP hp q r (uni 1048576 l0 [(a, b)]) res hp' := by
 have hlen := fun l => US_len hp q r l
 have hg0 : ∀ (l : List B) (e : Heap), (US hp q r l ++ e)[hp.length]? = e[0]? := fun l e => getN0 (hlen l)
 have hg1 : ∀ (l : List B) (e : Heap) (j : Nat), (US hp q r l ++ e)[hp.length + j]? = e[j]? := fun l e j => getN (hlen l) j
 have hs1 : ∀ (l : List B) (Y : AObj) (e : Heap) (j : Nat), (US hp q r l ++ e).set (hp.length + j) Y = US hp q r l ++ e.set j Y := fun l Y e j => setN (hlen l) j Y
 have hld := fun l e => US_ld (r := r) hq hn l e
 have hsb : ∀ x : Int, sBuild [(none, .pv none (.int .i64 0))] [0] [.pv none (.int .i64 x)] = some (.pv (some 1) (.agg [(none, .int .i64 x)])) := fun _ => rfl
 have hmi : ∀ (s : Sh) (p : PV), sMkiface 53 [.pv s p] = some (.pv none (.iface 53 s p)) := fun _ _ => rfl
 have hpan : ∀ A : Prop, panK true A = A := fun _ => rfl
 have htk : ∀ (l : List B) (e : Heap), List.take hp.length (US hp q r l ++ e) = US hp q r l := fun l e => List.take_left' (hlen l)
 refine sem_heap_any (RunP hp q r (uni 1048576 l0 [(a, b)])) rfl rfl rfl rfl ?_
 have hbp : ∀ u w : Tm, sBuild [(some 4, .agg [(none, .pv none (.int .i64 0)), (none, .pv none (.int .i64 0)), (none, .pv none (.str [])), (none, .tsl (some 4) [])]), (some 4, .agg [(none, .pv none (.int .i64 0)), (none, .pv none (.int .i64 0)), (none, .pv none (.str [])), (none, .tsl (some 4) [])])] [0, 1] [.pv (some 4) u.pv, .pv (some 4) w.pv] = some (.pv (some 8) (prP (u, w))) := fun _ _ => rfl
 have hbs : ∀ (e : Heap), wBslo (some 8) (US hp q r l0 ++ e) [.pv (some 8) (prP (a, b))] = some (.sl (some 8) (US hp q r l0 ++ e).length 1 0 1, US hp q r l0 ++ e ++ [.arr (some 8) [prP (a, b)] false]) := fun e => by
  simp [wBslo, freezeAll, AV.freeze, deep, AV.shp, ofShape, Sh.size]
 simp -dsimp -implicitDefEqProofs only [g37, c37r0, c37r1, c37r2, c37r3, c37k4, c37r5, c37r6, c37k7, c37r8, c37r9, c37r10, c37r11, c37r12, c37r13, c37k14, c37r15, c37k16, c37r17, c37b18, c37k19, c37k20, c37k21, c37r22, c37b23, c37k24, c37, go_sem, seval, ↓reduceIte, Tm.av, hbp, hbs, hsb, hmi, hpan, hlen, hg0, hg1, hs1, hld, w_alloc_agg, s_nilcheck_ptr, endA_panic, endA_ret, endA_normal, List.append_assoc, List.cons_append, List.nil_append, get_pre, get_pre0, set_pre, set_pre0, Nat.add_assoc, List.length_append, List.length_cons, List.length_nil, Nat.zero_add]
 refine W_loop (fun n st => ∃ (l : List B) (rs : List (Tm × Tm)) (es : List PV), RunI l0 (a, b) n l rs ∧ es.take rs.length = prs rs.reverse ∧ rs.length ≤ es.length ∧ (∀ x ∈ es, PV.beq x x = true) ∧
  st = ⟨[(0, .ptr q 0), (6, .sl (some 8) (hp.length + 2) es.length 0 rs.length), (7, .pv none (.int .i64 (1048576 - (n : Int))))], US hp q r l ++ [.box (some 4) (.pv (some 4) a.pv), .box (some 4) (.pv (some 4) b.pv), .arr (some 8) es false]⟩) (n := 1048576) ?_ ?_
 ·refine ⟨l0, [(a, b)], [prP (a, b)], ⟨hO, fun p hp => ?_, rfl, Nat.le_refl _, ⟨⟨[], List.nodup_nil, (fun w hw => by cases hw), ?_⟩, trivial⟩, ?_⟩, rfl, Nat.le_refl _, fun x hx => ?_, ?_⟩
  ·rw [List.mem_singleton] at hp
   rw [hp]; exact ⟨ha, hb⟩
  ·have := valid_size ha
   show 0 + a.size ≤ 2000 * (0 + 1)
   omega
  ·show 0 + 1 + 2000 * l0.length + 2000 * 1048576 ≤ _
   omega
  ·rw [List.mem_singleton] at hx
   rw [hx]; exact beq_prP _
  ·rfl
 ·rintro n st ⟨l, rs, es, hI, ht, hle, hbe, rfl⟩
  cases rs with
  | nil =>
   have hc : ¬ (0 : Int) < ((0 : Nat) : Int) := by omega
   simp -dsimp -implicitDefEqProofs only [g37, c37r0, c37r1, c37r2, c37r3, c37k4, c37r5, c37r6, c37k7, c37r8, c37r9, c37r10, c37r11, c37r12, c37r13, c37k14, c37r15, c37k16, c37r17, c37b18, c37k19, c37k20, c37k21, c37r22, c37b23, c37k24, c37, go_sem, seval, ↓reduceIte, hc, hsb, hmi, hpan, hlen, hg0, hg1, hs1, hld, w_alloc_agg, s_nilcheck_ptr, endA_panic, endA_ret, endA_normal, List.append_assoc, List.cons_append, List.nil_append, get_pre, get_pre0, set_pre, set_pre0, Nat.add_assoc, List.length_append, List.length_cons, List.length_nil, Nat.zero_add]
   have he := hI.eq
   rw [uni_nil] at he
   refine .inl ⟨l, he, rfl, ?_⟩
   exact htk _ _
  | cons p rs =>
  have hc : (0 : Int) < ((rs.length + 1 : Nat) : Int) := by omega
  have hpv := hI.val p List.mem_cons_self
  have hn1 := hI.le
  cases n with
  | zero =>
   have hc2 := eq_true (show (1048576 : Int) - ((0 : Nat) : Int) = 1048576 by omega)
   simp -dsimp -implicitDefEqProofs only [g37, c37r0, c37r1, c37r2, c37r3, c37k4, c37r5, c37r6, c37k7, c37r8, c37r9, c37r10, c37r11, c37r12, c37r13, c37k14, c37r15, c37k16, c37r17, c37b18, c37k19, c37k20, c37k21, c37r22, c37b23, c37k24, c37, go_sem, seval, ↓reduceIte, hc, hc2, hsb, hmi, hpan, hlen, hg0, hg1, hs1, hld, w_alloc_agg, s_nilcheck_ptr, endA_panic, endA_ret, endA_normal, List.append_assoc, List.cons_append, List.nil_append, get_pre, get_pre0, set_pre, set_pre0, Nat.add_assoc, List.length_append, List.length_cons, List.length_nil, Nat.zero_add]
   have he := hI.eq
   rw [uni_zero] at he
   exact .inr ⟨2, l, he, rfl, htk _ _⟩
  | succ n =>
  have hc2 : ¬ (1048576 : Int) - ((n + 1 : Nat) : Int) = 1048576 := by omega
  have hlim := hI.lim hl
  simp only [List.length_cons] at hlim
  have hlim2 : rs.length + 2 ≤ 1073741824 := by unfold Am.lim at hlim; omega
  have w1 : IntKind.i64.wrap (((rs.length + 1 : Nat) : Int) - 1) = (rs.length : Int) := by rw [wrap64 (by omega) (by omega)]; omega
  have w2 : IntKind.i64.wrap (1048576 - ((n + 1 : Nat) : Int) + 1) = 1048576 - (n : Int) := by rw [wrap64 (by omega) (by omega)]; omega
  have htop : es[rs.length]? = some (prP p) := by
   have h1 : (es.take (rs.length + 1))[rs.length]? = es[rs.length]? := by rw [List.getElem?_take, if_pos (by omega)]
   rw [← h1]
   rw [List.length_cons] at ht
   rw [ht]
   simp [prs]
  have ht2 : es.take rs.length = prs rs.reverse := by
   have h1 : es.take rs.length = (es.take (rs.length + 1)).take rs.length := by rw [List.take_take, Nat.min_eq_left (Nat.le_succ _)]
   rw [h1]
   rw [List.length_cons] at ht
   rw [ht]
   simp [prs]
  have hle2 : rs.length + 1 ≤ es.length := hle
  have hias : sIaddr (some 8) [.sl (some 8) (hp.length + 2) es.length 0 (rs.length + 1), .pv none (.int .i64 (rs.length : Int))] = some (.eptr (some 8) (hp.length + 2) es.length rs.length 0) := by
   have := s_iaddr_sl (sh := some 8) (r := hp.length + 2) (v := es.length) (o := 0) (n := rs.length + 1) (i := rs.length) (s' := none) (k := .i64) (by omega)
   rw [Nat.zero_add] at this
   exact this
  have hsl : sSlice (some 8) false true [.sl (some 8) (hp.length + 2) es.length 0 (rs.length + 1), .pv none (.int .i64 (rs.length : Int))] = some (.sl (some 8) (hp.length + 2) es.length 0 rs.length) := by
   have h1 : (rs.length : Int) ≤ (rs.length : Int) + 1 := by omega
   simp [sSlice, aslice, h1]
  have hae : ∀ e : Heap, aload (some 8) (US hp q r l ++ .box (some 4) (.pv (some 4) a.pv) :: .box (some 4) (.pv (some 4) b.pv) :: .arr (some 8) es false :: e) (.eptr (some 8) (hp.length + 2) es.length rs.length 0) = some (.pv (some 8) (prP p)) := fun e => by
   simp [aload, hg1, htop, toAV]
  have hO1 := hI.okb
  have hx := flw_flwd hO1 hpv.1
  have hy := flw_flwd hO1 hpv.2
  have hl1 : l.length < 80000000 := hI.short hl
  have hf1 := fun e => follow_ok (.inr (US_B (q := q) hr l e)) hO1 (by omega) p.1 hpv.1
  have hf2 := fun e => follow_ok (.inr (US_B (q := q) hr l e)) hO1 (by omega) p.2 hpv.2
  have hia0 : ∀ ρ : Nat, sIaddrA (some 4) 2 [.ptr ρ 0, .pv none (.int .i64 0)] = some (.ptr ρ 0) := fun _ => rfl
  have hia1 : ∀ ρ : Nat, sIaddrA (some 4) 2 [.ptr ρ 0, .pv none (.int .i64 1)] = some (.ptr ρ 4) := fun _ => rfl
  have hsame : sameHeap (US hp q r l ++ [.box (some 4) (.pv (some 4) a.pv), .box (some 4) (.pv (some 4) b.pv), .arr (some 8) es false, .box (some 8) (.pv (some 8) (prP p))]) (US hp q r l ++ [.box (some 4) (.pv (some 4) a.pv), .box (some 4) (.pv (some 4) b.pv), .arr (some 8) es false, .box (some 8) (.pv (some 8) (prP p))]) = true :=
   ((US_bq hbq q r l).app (Bq.cons (bq_tm a) (Bq.cons (bq_tm b) (Bq.cons (bq_arr8 hbe) (Bq.cons (by simp [AObj.beq, AV.beq, beq_prP]) Bq.nil))))).same
  obtain ⟨res, hp', hcall, hP⟩ := ppair_ok l hO1 (by omega) (flw l p.1) (flw l p.2) hx hy (hp ++ [.box (some 4) (.pv (some 4) a.pv), .box (some 4) (.pv (some 4) b.pv), .arr (some 8) es false, .box (some 8) (.pv (some 8) (prP p)), .box (some 4) (.pv (some 4) (flw l p.1).pv), .arr (some 4) [] false, .box (some 4) (.pv (some 4) (flw l p.2).pv), .arr (some 4) [] false]) q r (by simp; omega) (by simp; omega) hn
  rw [US_more hq hr] at hcall
  unfold PairP at hP
  simp only [Tm.av] at hf1 hf2 hcall
  have hcg := fun K Kp => op_callg_ret (b := hp.length) (s := none) (K := K) (Kp := Kp) (hf1 [.box (some 4) (.pv (some 4) a.pv), .box (some 4) (.pv (some 4) b.pv), .arr (some 8) es false, .box (some 8) (.pv (some 8) (prP p))]) hsame
  cases hu : ustep l (flw l p.1) (flw l p.2) with
  | err e =>
   rw [hu] at hP
   obtain ⟨rfl, rfl⟩ := hP
   rw [US_more hq hr] at hcall
   simp -dsimp -implicitDefEqProofs only [g37, c37r0, c37r1, c37r2, c37r3, c37k4, c37r5, c37r6, c37k7, c37r8, c37r9, c37r10, c37r11, c37r12, c37r13, c37k14, c37r15, c37k16, c37r17, c37b18, c37k19, c37k20, c37k21, c37r22, c37b23, c37k24, c37, go_sem, seval, ↓reduceIte, hc, hc2, w1, hias, hae, hsl, hia0, hia1, part_p0, part_p1, hcg, hf2, hcall, hsb, hmi, hpan, hlen, hg0, hg1, hs1, hld, w_alloc_agg, s_nilcheck_ptr, endA_panic, endA_ret, endA_normal, List.append_assoc, List.cons_append, List.nil_append, get_pre, get_pre0, set_pre, set_pre0, Nat.add_assoc, List.length_append, List.length_cons, List.length_nil, Nat.zero_add]
   have he := hI.eq
   rw [uni_err rs hu] at he
   exact .inr ⟨e, l, he, rfl, htk _ _⟩
  | bind v t =>
   rw [hu] at hP
   obtain ⟨rfl, rfl⟩ := hP
   rw [US_more hq hr] at hcall
   simp -dsimp -implicitDefEqProofs only [g37, c37r0, c37r1, c37r2, c37r3, c37k4, c37r5, c37r6, c37k7, c37r8, c37r9, c37r10, c37r11, c37r12, c37r13, c37k14, c37r15, c37k16, c37r17, c37b18, c37k19, c37k20, c37k21, c37r22, c37b23, c37k24, c37, go_sem, seval, ↓reduceIte, hc, hc2, w1, w2, hias, hae, hsl, hia0, hia1, part_p0, part_p1, hcg, hf2, hcall, hsb, hmi, hpan, hlen, hg0, hg1, hs1, hld, w_alloc_agg, s_nilcheck_ptr, endA_panic, endA_ret, endA_normal, List.append_assoc, List.cons_append, List.nil_append, get_pre, get_pre0, set_pre, set_pre0, Nat.add_assoc, List.length_append, List.length_cons, List.length_nil, Nat.zero_add]
   refine ⟨n, Nat.lt_succ_self _, insB l v t, rs, es, hI.bind hu, ht2, Nat.le_of_succ_le hle2, hbe, ?_⟩
   rw [collect_pre 3 (hlen _) rfl (by simp [AObj.refs, AV.refsIn]) (by simp [AV.refsIn]; omega)]
   rfl
  | args xs =>
   rw [hu] at hP
   obtain ⟨rfl, ⟨rfl, rfl⟩ | ⟨rfl, rfl, hll⟩⟩ := hP
   ·rw [US_more hq hr] at hcall
    simp -dsimp -implicitDefEqProofs only [g37, c37r0, c37r1, c37r2, c37r3, c37k4, c37r5, c37r6, c37k7, c37r8, c37r9, c37r10, c37r11, c37r12, c37r13, c37k14, c37r15, c37k16, c37r17, c37b18, c37k19, c37k20, c37k21, c37r22, c37b23, c37k24, c37, go_sem, seval, ↓reduceIte, hc, hc2, w1, w2, hias, hae, hsl, hia0, hia1, part_p0, part_p1, hcg, hf2, hcall, hsb, hmi, hpan, hlen, hg0, hg1, hs1, hld, w_alloc_agg, s_nilcheck_ptr, endA_panic, endA_ret, endA_normal, List.append_assoc, List.cons_append, List.nil_append, get_pre, get_pre0, set_pre, set_pre0, Nat.add_assoc, List.length_append, List.length_cons, List.length_nil, Nat.zero_add]
    refine ⟨n, Nat.lt_succ_self _, l, rs, es, hI.none hu, ht2, Nat.le_of_succ_le hle2, hbe, ?_⟩
    rw [collect_pre 3 (hlen _) rfl (by simp [AObj.refs, AV.refsIn]) (by simp [AV.refsIn]; omega)]
    rfl
   ·rw [US_more hq hr] at hcall
    have hRI : RunI l0 (a, b) n l ((flw l p.1).args.zip (flw l p.2).args ++ rs) := by
     by_cases hk : (flw l p.1).kind = 0
     ·have e : (flw l p.1).args = [] := (congrArg Tm.args (hx.2 hk).2.1).trans rfl
      have e2 : (flw l p.1).args.zip (flw l p.2).args = [] := by rw [e]; rfl
      rw [e2] at hu ⊢
      exact hI.none hu
     ·exact hI.args hk hll hu
    have hxz := valid_size hx.1
    have hxz2 := (flw l p.1).size_eq
    have hxz3 := Tm.sizes_len (flw l p.1).args
    have w0 : IntKind.i64.wrap (((flw l p.1).args.length : Int) - 1) = ((flw l p.1).args.length : Int) - 1 := wrap64 (by omega) (by omega)
    simp -dsimp -implicitDefEqProofs only [g37, c37r0, c37r1, c37r2, c37r3, c37k4, c37r5, c37r6, c37k7, c37r8, c37r9, c37r10, c37r11, c37r12, c37r13, c37k14, c37r15, c37k16, c37r17, c37b18, c37k19, c37k20, c37k21, c37r22, c37b23, c37k24, c37, go_sem, seval, ↓reduceIte, hc, hc2, w1, w2, hias, hae, hsl, hia0, hia1, part_p0, part_p1, hcg, hf2, hcall, part_args, Tm.pvs_len, w0, hsb, hmi, hpan, hlen, hg0, hg1, hs1, hld, w_alloc_agg, s_nilcheck_ptr, endA_panic, endA_ret, endA_normal, List.append_assoc, List.cons_append, List.nil_append, get_pre, get_pre0, set_pre, set_pre0, Nat.add_assoc, List.length_append, List.length_cons, List.length_nil, Nat.zero_add]
    generalize hX : flw l p.1 = x at *
    generalize hY : flw l p.2 = y at *
    have hzl : (x.args.zip y.args).length = x.args.length := by rw [List.length_zip]; omega
    have hlm := hRI.lim hl
    rw [List.length_append, hzl] at hlm
    refine W_for (α := List PV) x.args.length (fun i es1 => es1.take (rs.length + i) = prs (rs.reverse ++ ((x.args.zip y.args).drop (x.args.length - i)).reverse) ∧ rs.length + i ≤ es1.length ∧ ∀ z ∈ es1, PV.beq z z = true)
     (fun i es1 => ⟨[(0, .ptr q 0), (6, .sl (some 8) (hp.length + 2) es1.length 0 (rs.length + i)), (7, .pv none (.int .i64 (1048576 - ((n + 1 : Nat) : Int)))), (9, .ptr (hp.length + 4) 0), (10, .ptr (hp.length + 6) 0), (11, .pv none (.int .i64 ((x.args.length : Int) - 1 - (i : Int))))], US hp q r l ++ [.box (some 4) (.pv (some 4) a.pv), .box (some 4) (.pv (some 4) b.pv), .arr (some 8) es1 false, .box (some 8) (.pv (some 8) (prP p)), .box (some 4) (.pv (some 4) x.pv), .arr (some 4) [] false, .box (some 4) (.pv (some 4) y.pv), .arr (some 4) [] false]⟩) es ⟨⟨?_, Nat.le_of_succ_le hle2, hbe⟩, ?_⟩ ?_ ?_
    ·rw [Nat.sub_zero, List.drop_of_length_le (by omega)]
     simpa using ht2
    ·rw [show (x.args.length : Int) - 1 - ((0 : Nat) : Int) = (x.args.length : Int) - 1 by omega]
     rfl
    ·rintro i es1 h ⟨k1, k2, k3⟩
     obtain ⟨j, hj⟩ : ∃ j, j = x.args.length - 1 - i := ⟨_, rfl⟩
     have ej : (x.args.length : Int) - 1 - (i : Int) = (j : Int) := by omega
     have hc5 : (0 : Int) ≤ (j : Int) := by omega
     obtain ⟨u, hu1⟩ : ∃ u, x.args[j]? = some u := ⟨_, List.getElem?_eq_getElem (by omega)⟩
     obtain ⟨w, hw1⟩ : ∃ w, y.args[j]? = some w := ⟨_, List.getElem?_eq_getElem (by omega)⟩
     have hdr : (x.args.zip y.args).drop (x.args.length - (i + 1)) = (u, w) :: (x.args.zip y.args).drop (x.args.length - i) := by
      obtain ⟨q1, e1⟩ := List.getElem?_eq_some_iff.1 hu1
      obtain ⟨q2, e2⟩ := List.getElem?_eq_some_iff.1 hw1
      have ea : x.args.length - (i + 1) = j := by omega
      have eb : x.args.length - i = j + 1 := by omega
      rw [ea, eb, List.drop_eq_getElem_cons (by omega), List.getElem_zip, e1, e2]
     have w5 : IntKind.i64.wrap ((j : Int) - 1) = (x.args.length : Int) - 1 - ((i + 1 : Nat) : Int) := by rw [wrap64 (by omega) (by unfold Am.lim at hlm; omega)]; omega
     obtain ⟨es2, hpu, g1, g2, g3⟩ := push_ok (hp := US hp q r l ++ [.box (some 4) (.pv (some 4) a.pv), .box (some 4) (.pv (some 4) b.pv), .arr (some 8) es1 false, .box (some 8) (.pv (some 8) (prP p)), .box (some 4) (.pv (some 4) x.pv), .arr (some 4) [] false, .box (some 4) (.pv (some 4) y.pv), .arr (some 4) [] false]) (r := hp.length + 2) (es := es1) (len := rs.length + i) (x := prP (u, w)) (by rw [hg1]; rfl) k2 (by omega)
     rw [hs1] at hpu
     simp only [List.set_cons_succ, List.set_cons_zero] at hpu
     simp -dsimp -implicitDefEqProofs only [g37, c37r0, c37r1, c37r2, c37r3, c37k4, c37r5, c37r6, c37k7, c37r8, c37r9, c37r10, c37r11, c37r12, c37r13, c37k14, c37r15, c37k16, c37r17, c37b18, c37k19, c37k20, c37k21, c37r22, c37b23, c37k24, c37, go_sem, seval, ↓reduceIte, ej, hc5, w5, s_iaddr_pv (Tm.pvs_get hu1), s_iaddr_pv (Tm.pvs_get hw1), part_args, Tm.pvs_len, hbp, hpu, hsb, hmi, hpan, hlen, hg0, hg1, hs1, hld, w_alloc_agg, s_nilcheck_ptr, endA_panic, endA_ret, endA_normal, List.append_assoc, List.cons_append, List.nil_append, get_pre, get_pre0, set_pre, set_pre0, Nat.add_assoc, List.length_append, List.length_cons, List.length_nil, Nat.zero_add]
     refine ⟨es2, ⟨?_, g2, fun z hz => ?_⟩, ?_⟩
     ·rw [hdr, List.reverse_cons, ← List.append_assoc]
      show es2.take (rs.length + i + 1) = _
      rw [g1, k1]
      simp [prs]
     ·rcases g3 z hz with h | rfl
      ·exact k3 z h
      ·exact beq_prP _
     ·rw [collect_pre 8 (hlen _) rfl (by simp [AObj.refs, AV.refsIn]) (by simp [AV.refsIn]; omega)]
      rfl
    ·rintro es1 ⟨k1, k2, k3⟩
     have hc5 : ¬ (0 : Int) ≤ (x.args.length : Int) - 1 - (x.args.length : Int) := by omega
     simp -dsimp -implicitDefEqProofs only [g37, c37r0, c37r1, c37r2, c37r3, c37k4, c37r5, c37r6, c37k7, c37r8, c37r9, c37r10, c37r11, c37r12, c37r13, c37k14, c37r15, c37k16, c37r17, c37b18, c37k19, c37k20, c37k21, c37r22, c37b23, c37k24, c37, go_sem, seval, ↓reduceIte, hc5, w2, hsb, hmi, hpan, hlen, hg0, hg1, hs1, hld, w_alloc_agg, s_nilcheck_ptr, endA_panic, endA_ret, endA_normal, List.append_assoc, List.cons_append, List.nil_append, get_pre, get_pre0, set_pre, set_pre0, Nat.add_assoc, List.length_append, List.length_cons, List.length_nil, Nat.zero_add]
     rw [Nat.sub_self, List.drop_zero, ← List.reverse_append] at k1
     have hal : (x.args.zip y.args ++ rs).length = rs.length + x.args.length := by rw [List.length_append, hzl]; omega
     refine ⟨n, Nat.lt_succ_self _, l, x.args.zip y.args ++ rs, es1, hRI, by rw [hal]; exact k1, by rw [hal]; exact k2, k3, ?_⟩
     rw [collect_pre 3 (hlen _) rfl (by simp [AObj.refs, AV.refsIn]) (by simp [AV.refsIn]; omega), hal]
     rfl
end Go.Proofs.Ytenkiofpobeilaa
