/- What is proved: Occurs, by the reference. -/
import Derived.Test.YtenkiofpobeilaaOc2
set_option linter.unusedSimpArgs false
set_option linter.unusedVariables false
namespace Go.Proofs.Ytenkiofpobeilaa
open Go.Am
theorem nodup_len : ∀ (a b : List Int), a.Nodup → (∀ x ∈ a, x ∈ b) → a.length ≤ b.length
 | [], _, _, _ => Nat.zero_le _
 | x :: a, b, h, hs => by
  have hx := hs x List.mem_cons_self
  have h1 := List.nodup_cons.1 h
  have ih := nodup_len a (b.erase x) h1.2 fun y hy => (List.mem_erase_of_ne (fun e => h1.1 (by rw [← e]; exact hy))).2 (hs y (List.mem_cons_of_mem _ hy))
  have h2 := List.length_erase_of_mem hx
  have h3 := List.length_pos_of_mem hx
  simp only [List.length_cons]
  omega
theorem fnd_len {l : List B} {σ : List Int} (h1 : σ.Nodup) (h2 : ∀ w ∈ σ, fndB l w = true) : σ.length ≤ l.length := by
 have := nodup_len σ (l.map (·.1)) h1 fun w hw => by
  exact List.mem_map.2 ⟨_, find_mem (h2 w hw), rfl⟩
 simpa using this
def HS (hp : Heap) (q r : Nat) (σ : List Int) : Heap := (hp.set q (.box none (.sl none r σ.length 0 σ.length))).set r (.arr none (ints σ) false)
def HA (hp : Heap) (q r : Nat) (σ : List Int) (x : Int) : Heap := (HS hp q r σ).set r (.arr none (ints (σ ++ [x])) false)
theorem HS_len (hp : Heap) (q r : Nat) (σ : List Int) : (HS hp q r σ).length = hp.length := by simp [HS]
theorem HS_more {hp : Heap} {q r : Nat} (hq : q < hp.length) (hr : r < hp.length) (σ : List Int) (e : Heap) : HS (hp ++ e) q r σ = HS hp q r σ ++ e := by
 unfold HS
 rw [List.set_append_left _ _ hq, List.set_append_left _ _ (by simpa using hr)]
theorem HS_q {hp : Heap} {q r : Nat} (hq : q < hp.length) (hn : q ≠ r) (σ : List Int) (e : Heap) : (HS hp q r σ ++ e)[q]? = some (.box none (.sl none r σ.length 0 σ.length)) := by
 rw [List.getElem?_append_left (by rw [HS_len]; exact hq)]
 unfold HS
 rw [List.getElem?_set_ne (Ne.symm hn), List.getElem?_set_self hq]
theorem HS_r {hp : Heap} {q r : Nat} (hr : r < hp.length) (σ : List Int) (e : Heap) : (HS hp q r σ ++ e)[r]? = some (.arr none (ints σ) false) := by
 rw [List.getElem?_append_left (by rw [HS_len]; exact hr)]
 unfold HS
 rw [List.getElem?_set_self (by simpa using hr)]
theorem HS_app {hp : Heap} {q r : Nat} (hr : r < hp.length) {σ : List Int} (hl : σ.length < 1000000000) (x : Int) (e : Heap) :
  wAppend none (HS hp q r σ ++ e) [.sl none r σ.length 0 σ.length, .tsl none [.int .i64 x]] = some (.sl none r (σ.length + 1) 0 (σ.length + 1), HA hp q r σ x ++ e) := by
 have hlim : σ.length + 1 ≤ lim := by unfold lim; omega
 simp [wAppend, aappend, elems, HS_r hr σ e, ints_len, hlim]
 rw [List.set_append_left _ _ (by rw [HS_len]; exact hr)]
 simp [ints, HA]
theorem HS_st {hp : Heap} {q r : Nat} (hq : q < hp.length) (hn : q ≠ r) (σ : List Int) (x : Int) (e : Heap) {b : Nat} (hb : q < b) :
  wStore none b (HA hp q r σ x ++ e) [.ptr q 0, .sl none r (σ.length + 1) 0 (σ.length + 1)] = some (.undef, HS hp q r (σ ++ [x]) ++ e) := by
 have h1 : (HA hp q r σ x ++ e)[q]? = some (.box none (.sl none r σ.length 0 σ.length)) := by
  rw [List.getElem?_append_left (by unfold HA; rw [List.length_set, HS_len]; exact hq)]
  unfold HA
  rw [List.getElem?_set_ne (Ne.symm hn)]
  have := HS_q (r := r) hq hn σ []
  rw [List.append_nil] at this
  exact this
 rw [w_store_sl_out hb h1, List.set_append_left _ _ (by unfold HA; rw [List.length_set, HS_len]; exact hq)]
 have : (HA hp q r σ x).set q (.box none (.sl none r (σ.length + 1) 0 (σ.length + 1))) = HS hp q r (σ ++ [x]) := by
  unfold HA HS
  rw [List.set_set, List.set_comm _ _ hn, List.set_set]
  simp
  exact List.set_comm _ _ (Ne.symm hn)
 rw [this]
theorem rocc_ok (l : List B) (hO : OKB l) (hl : l.length < 100000000) (v : Int) : ∀ (k : Nat) (t : Tm) (hp : Heap) (q r : Nat) (σ : List Int), mu l t = k → t.valid = true → q < hp.length → r < hp.length → q ≠ r → SeenPre l v (· ∈ σ) t → σ.Nodup →
  ∃ (σ' : List Int) (b : Bool), S 73 [.pv none (.sl (some 5) (bds l)), .pv none (.int .i64 v), t.av, .ptr q 0] (HS hp q r σ) = some (.ret (.pv none (.bool b)), HS hp q r σ') ∧ (∀ w ∈ σ, w ∈ σ') ∧ σ'.Nodup ∧ (∀ w ∈ σ', fndB l w = true) ∧ SeenPost l v (· ∈ σ) (· ∈ σ') t b := by
 intro k
 induction k using Nat.strongRecOn with
 | _ k ih =>
  intro t hp q r σ hk hv hq hr hn hpre hnd
  have htz := valid_size hv
  have hfn : ∀ w ∈ σ, fndB l w = true := fun w hw => (hpre w hw).1
  have hsl := fnd_len hnd hfn
  have hlen := HS_len hp q r
  have hg0 : ∀ (σ : List Int) (e : Heap), (HS hp q r σ ++ e)[hp.length]? = e[0]? := fun σ e => getN0 (hlen σ)
  have hg1 : ∀ (σ : List Int) (e : Heap) (k : Nat), (HS hp q r σ ++ e)[hp.length + k]? = e[k]? := fun σ e k => getN (hlen σ) k
  have hs1 : ∀ (σ : List Int) (Y : AObj) (e : Heap) (k : Nat), (HS hp q r σ ++ e).set (hp.length + k) Y = HS hp q r σ ++ e.set k Y := fun σ Y e k => setN (hlen σ) k Y
  have hgq := fun σ e => HS_q (r := r) hq hn σ e
  have hgr := fun σ e => HS_r (q := q) hr σ e
  have ha0 : ∀ (x : Int) (e : Heap), (HA hp q r σ x ++ e)[hp.length]? = e[0]? := fun x e => getN0 (by unfold HA; rw [List.length_set]; exact hlen σ)
  have hap := fun x e => HS_app (q := q) hr (σ := σ) (by omega) x e
  have hst := fun x e => HS_st (r := r) hq hn σ x e hq
  have hsp : ∀ e : Heap, samePtr (HS hp q r σ ++ e) (HS hp q r σ ++ e) (.ptr q 0) = true := fun e => by
   simp [samePtr, hgq, AObj.beq, AV.beq]
  suffices hP : ∃ v' hp', S 73 [.pv none (.sl (some 5) (bds l)), .pv none (.int .i64 v), t.av, .ptr q 0] (HS hp q r σ) = some (.ret v', hp') ∧ ∃ (σ' : List Int) (b : Bool), v' = .pv none (.bool b) ∧ hp' = HS hp q r σ' ∧ (∀ w ∈ σ, w ∈ σ') ∧ σ'.Nodup ∧ (∀ w ∈ σ', fndB l w = true) ∧ SeenPost l v (· ∈ σ) (· ∈ σ') t b by
   obtain ⟨v', hp', h1, σ', b, rfl, rfl, h2⟩ := hP
   exact ⟨σ', b, h1, h2⟩
  refine sem_heap_ex _ rfl rfl rfl rfl ?_
  by_cases hk0 : t.kind = 0
  ·have hk' := eq_true hk0
   have hfd := rfind_ok l t.n hO.good.1 (by omega)
   by_cases hf : fndB l t.n = true
   ·have hfi : fdI l t.n = (lbB l t.n : Int) := by unfold fdI; rw [if_pos hf]
    have hnn : ¬ ((lbB l t.n : Nat) : Int) < 0 := by omega
    rw [hfi] at hfd
    obtain ⟨hto, _⟩ := hO.to hf
    have hlt2 := mu_to hO.Acyc hk0 hf
    simp -dsimp -implicitDefEqProofs only [g73, c73r0, c73r1, c73r2, c73r3, c73r4, c73k5, c73r6, c73r7, c73k8, c73r9, c73r10, c73k11, c73k12, c73r13, c73b14, c73k15, c73r16, c73r17, c73k18, c73r19, c73r20, c73k21, c73r22, c73r23, c73k24, c73k25, c73r26, c73b27, c73k28, c73r29, c73, go_sem, seval, ↓reduceIte, Tm.av, part_kind, part_n, hk', hfd, hnn, hlen, hg0, hg1, List.append_assoc, List.cons_append, List.nil_append, get_pre, get_pre0, set_pre, set_pre0, Nat.add_assoc, List.length_append, List.length_cons, List.length_nil, Nat.zero_add]
    refine W_for (α := Unit) σ.length (fun i _ => ∀ j, j < i → σ[j]? ≠ some t.n) (fun i _ => ⟨[(0, .pv none (.sl (some 5) (bds l))), (1, .pv none (.int .i64 v)), (3, .ptr q 0), (6, .ptr hp.length 0), (9, .pv none (.int .i64 (lbB l t.n))), (10, .pv none (.int .i64 i))], HS hp q r σ ++ [.box (some 4) (.pv (some 4) t.pv)]⟩) () ⟨fun j hj => by omega, rfl⟩ ?_ ?_
    ·rintro i - h hinv
     have hc : (i : Int) < (σ.length : Int) := by omega
     obtain ⟨b, hb⟩ : ∃ b, σ[i]? = some b := ⟨_, List.getElem?_eq_getElem h⟩
     have w2 : IntKind.i64.wrap ((i : Int) + 1) = ((i + 1 : Nat) : Int) := by rw [wrap64 (by omega) (by omega)]; omega
     have hld : ∀ e : Heap, aload none (HS hp q r σ ++ e) (.eptr none r σ.length i 0) = some (.pv none (.int .i64 b)) := fun e => by
      simp [aload, hgr, ints_len, ints_get hb, toAV]
     by_cases hbx : b = t.n
     ·simp -dsimp -implicitDefEqProofs only [g73, c73r0, c73r1, c73r2, c73r3, c73r4, c73k5, c73r6, c73r7, c73k8, c73r9, c73r10, c73k11, c73k12, c73r13, c73b14, c73k15, c73r16, c73r17, c73k18, c73r19, c73r20, c73k21, c73r22, c73r23, c73k24, c73k25, c73r26, c73b27, c73k28, c73r29, c73, go_sem, seval, ↓reduceIte, part_n, hc, s_iaddr_sl h, Nat.zero_add, hld, hbx, hlen, hg0, hg1, hgq, hgr, s_nilcheck_ptr, List.append_assoc, List.cons_append, List.nil_append, get_pre, get_pre0, set_pre, set_pre0, Nat.add_assoc, List.length_append, List.length_cons, List.length_nil, Nat.zero_add]
      refine ⟨σ, false, rfl, ?_, fun _ h => h, hnd, hfn, ⟨(fun e => by cases e), fun _ => ⟨hpre.old (valid_fits hv) hk0 (by rw [← hbx]; exact List.mem_of_getElem? hb), fun w hw => .inl hw⟩⟩⟩
      rw [if_pos (by simp [AV.refsIn])]
      exact List.take_left' (hlen _)
     ·simp -dsimp -implicitDefEqProofs only [g73, c73r0, c73r1, c73r2, c73r3, c73r4, c73k5, c73r6, c73r7, c73k8, c73r9, c73r10, c73k11, c73k12, c73r13, c73b14, c73k15, c73r16, c73r17, c73k18, c73r19, c73r20, c73k21, c73r22, c73r23, c73k24, c73k25, c73r26, c73b27, c73k28, c73r29, c73, go_sem, seval, ↓reduceIte, part_n, hc, s_iaddr_sl h, Nat.zero_add, hld, hbx, w2, hlen, hg0, hg1, hgq, hgr, s_nilcheck_ptr, List.append_assoc, List.cons_append, List.nil_append, get_pre, get_pre0, set_pre, set_pre0, Nat.add_assoc, List.length_append, List.length_cons, List.length_nil, Nat.zero_add]
      refine ⟨(), ?_, ?_⟩
      ·intro j hj
       rcases Nat.lt_or_ge j i with h | h
       ·exact hinv j h
       ·have : j = i := by omega
        subst this
        rw [hb]
        intro e
        cases e
        exact hbx rfl
      ·rw [collect_pre 1 (hlen _) rfl (by simp [AObj.refs, AV.refsIn]) (by simp [AV.refsIn]; omega)]
       rfl
    ·rintro - hinv
     have hc : ¬ (σ.length : Int) < (σ.length : Int) := by omega
     have hmem : t.n ∉ σ := fun hm => by
      obtain ⟨j, hj, e⟩ := List.getElem_of_mem hm
      exact hinv j hj (by rw [List.getElem?_eq_getElem hj, e])
     have hpre1 : SeenPre l v (· ∈ σ ++ [t.n]) (toB l t.n) := fun w hw => hpre.new hO.Acyc (valid_fits hv) hk0 hf w (by
      rcases List.mem_append.1 hw with h | h
      ·exact .inr h
      ·exact .inl (List.mem_singleton.1 h))
     have hnd1 : (σ ++ [t.n]).Nodup := List.nodup_append.2 ⟨hnd, by simp, fun a ha b hb e => by
      rw [List.mem_singleton] at hb
      exact hmem (by rw [← hb, ← e]; exact ha)⟩
     obtain ⟨σ2, bb, hcall, hR⟩ := ih _ (by omega) (toB l t.n) (hp ++ [.box (some 4) (.pv (some 4) t.pv)]) q r (σ ++ [t.n]) rfl hto (by simp; omega) (by simp; omega) hn hpre1 hnd1
     rw [HS_more hq hr, HS_more hq hr] at hcall
     simp only [Tm.av] at hcall
     simp -dsimp -implicitDefEqProofs only [g73, c73r0, c73r1, c73r2, c73r3, c73r4, c73k5, c73r6, c73r7, c73k8, c73r9, c73r10, c73k11, c73k12, c73r13, c73b14, c73k15, c73r16, c73r17, c73k18, c73r19, c73r20, c73k21, c73r22, c73r23, c73k24, c73k25, c73r26, c73b27, c73k28, c73r29, c73, go_sem, seval, ↓reduceIte, part_n, part_to, hc, s_iaddr_pv (bds_get (fnd_get hf)), hcall, hap, hst, ha0, hsp, op_bslicen, List.take_succ_cons, List.drop_succ_cons, List.all_cons, List.all_nil, hlen, hg0, hg1, hgq, hgr, s_nilcheck_ptr, List.append_assoc, List.cons_append, List.nil_append, get_pre, get_pre0, set_pre, set_pre0, Nat.add_assoc, List.length_append, List.length_cons, List.length_nil, Nat.zero_add]
     obtain ⟨p1, p2, p3, hR⟩ := hR
     have hq : SeenPost l v (fun w => w = t.n ∨ w ∈ σ) (· ∈ σ2) (toB l t.n) bb := ⟨hR.yes, fun hb => ⟨(hR.no hb).1, fun w hw => ((hR.no hb).2 w hw).imp (fun h => by
      rcases List.mem_append.1 h with h | h
      ·exact .inr h
      ·exact .inl (List.mem_singleton.1 h)) id⟩⟩
     refine ⟨σ2, bb, rfl, ?_, fun w hw => p1 w (List.mem_append_left _ hw), p2, p3, hq.new hO.Acyc (valid_fits hv) hk0 hf⟩
     rw [if_pos (by simp [AV.refsIn])]
     exact List.take_left' (hlen _)
   ·have hfi : fdI l t.n = -1 := by unfold fdI; rw [if_neg hf]
    have hnn : (-1 : Int) < 0 := by omega
    rw [hfi] at hfd
    simp -dsimp -implicitDefEqProofs only [g73, c73r0, c73r1, c73r2, c73r3, c73r4, c73k5, c73r6, c73r7, c73k8, c73r9, c73r10, c73k11, c73k12, c73r13, c73b14, c73k15, c73r16, c73r17, c73k18, c73r19, c73r20, c73k21, c73r22, c73r23, c73k24, c73k25, c73r26, c73b27, c73k28, c73r29, c73, go_sem, seval, ↓reduceIte, Tm.av, part_kind, part_n, hk', hfd, hnn, hlen, hg0, hg1, List.append_assoc, List.cons_append, List.nil_append, get_pre, get_pre0, set_pre, set_pre0, Nat.add_assoc, List.length_append, List.length_cons, List.length_nil, Nat.zero_add]
    refine ⟨σ, decide (t.n = v), rfl, ?_, fun _ h => h, hnd, hfn, ⟨fun h => ?_, fun h => ⟨fun e => ?_, fun w hw => .inl hw⟩⟩⟩
    ·rw [if_pos (by simp [AV.refsIn])]
     exact List.take_left' (hlen _)
    ·exact (inR_free hO.Acyc (valid_fits hv) hk0 hf).2 (of_decide_eq_true h).symm
    ·exact of_decide_eq_false h ((inR_free hO.Acyc (valid_fits hv) hk0 hf).1 e).symm
  ·have hk' := eq_false hk0
   simp -dsimp -implicitDefEqProofs only [g73, c73r0, c73r1, c73r2, c73r3, c73r4, c73k5, c73r6, c73r7, c73k8, c73r9, c73r10, c73k11, c73k12, c73r13, c73b14, c73k15, c73r16, c73r17, c73k18, c73r19, c73r20, c73k21, c73r22, c73r23, c73k24, c73k25, c73r26, c73b27, c73k28, c73r29, c73, go_sem, seval, ↓reduceIte, Tm.av, part_kind, hk', hlen, hg0, hg1, List.append_assoc, List.cons_append, List.nil_append, get_pre, get_pre0, set_pre, set_pre0, Nat.add_assoc, List.length_append, List.length_cons, List.length_nil, Nat.zero_add]
   refine W_for (α := List Int) t.args.length (fun i σ2 => (∀ w ∈ σ, w ∈ σ2) ∧ σ2.Nodup ∧ (∀ w ∈ σ2, fndB l w = true) ∧ (∀ j, j < i → ∀ u, t.args[j]? = some u → ¬ inR l v u) ∧ (∀ w ∈ σ2, w ∈ σ ∨ (fndB l w = true ∧ ¬ inR l v (tvar w))))
    (fun i σ2 => ⟨[(0, .pv none (.sl (some 5) (bds l))), (1, .pv none (.int .i64 v)), (3, .ptr q 0), (6, .ptr hp.length 0), (11, .pv none (.int .i64 i))], HS hp q r σ2 ++ [.box (some 4) (.pv (some 4) t.pv)]⟩) σ ⟨⟨fun _ h => h, hnd, hfn, fun j hj => by omega, fun w hw => .inl hw⟩, rfl⟩ ?_ ?_
   ·rintro i σ2 h ⟨q1, q2, q3, q4, q5⟩
    have hc : (i : Int) < (t.args.length : Int) := by omega
    obtain ⟨u, hu⟩ : ∃ u, t.args[i]? = some u := ⟨_, List.getElem?_eq_getElem h⟩
    have hum := List.mem_of_getElem? hu
    have hmu := mu_arg l hk0 hum
    have hts := t.size_eq
    have hlen2 := Tm.sizes_len t.args
    have hpre2 : SeenPre l v (· ∈ σ2) u := fun w hw => by
     rcases q5 w hw with h | ⟨h1, h2⟩
     ·exact hpre.arg hmu w h
     ·exact ⟨h1, .inl h2⟩
    obtain ⟨σ3, bb, hcall, p1, p2, p3, hR⟩ := ih _ (by omega) u (hp ++ [.box (some 4) (.pv (some 4) t.pv)]) q r σ2 rfl (valid_arg hv hum) (by simp; omega) (by simp; omega) hn hpre2 q2
    rw [HS_more hq hr, HS_more hq hr] at hcall
    simp only [Tm.av] at hcall
    have w2 : IntKind.i64.wrap ((i : Int) + 1) = ((i + 1 : Nat) : Int) := by rw [wrap64 (by omega) (by omega)]; omega
    cases bb with
    | true =>
     simp -dsimp -implicitDefEqProofs only [g73, c73r0, c73r1, c73r2, c73r3, c73r4, c73k5, c73r6, c73r7, c73k8, c73r9, c73r10, c73k11, c73k12, c73r13, c73b14, c73k15, c73r16, c73r17, c73k18, c73r19, c73r20, c73k21, c73r22, c73r23, c73k24, c73k25, c73r26, c73b27, c73k28, c73r29, c73, go_sem, seval, ↓reduceIte, part_args, Tm.pvs_len, hc, s_iaddr_pv (Tm.pvs_get hu), hcall, hlen, hg0, hg1, List.append_assoc, List.cons_append, List.nil_append, get_pre, get_pre0, set_pre, set_pre0, Nat.add_assoc, List.length_append, List.length_cons, List.length_nil, Nat.zero_add]
     refine ⟨σ3, true, rfl, ?_, fun w hw => p1 w (q1 w hw), p2, p3, ⟨fun _ => (inR_str hk0).2 ⟨u, hum, hR.yes rfl⟩, fun e => by cases e⟩⟩
     rw [if_pos (by simp [AV.refsIn])]
     exact List.take_left' (hlen _)
    | false =>
     obtain ⟨n1, n2⟩ := hR.no rfl
     simp -dsimp -implicitDefEqProofs only [g73, c73r0, c73r1, c73r2, c73r3, c73r4, c73k5, c73r6, c73r7, c73k8, c73r9, c73r10, c73k11, c73k12, c73r13, c73b14, c73k15, c73r16, c73r17, c73k18, c73r19, c73r20, c73k21, c73r22, c73r23, c73k24, c73k25, c73r26, c73b27, c73k28, c73r29, c73, go_sem, seval, ↓reduceIte, part_args, Tm.pvs_len, hc, s_iaddr_pv (Tm.pvs_get hu), hcall, w2, hlen, hg0, hg1, List.append_assoc, List.cons_append, List.nil_append, get_pre, get_pre0, set_pre, set_pre0, Nat.add_assoc, List.length_append, List.length_cons, List.length_nil, Nat.zero_add]
     refine ⟨σ3, ⟨fun w hw => p1 w (q1 w hw), p2, p3, fun j hj x hx => ?_, fun w hw => ?_⟩, ?_⟩
     ·rcases Nat.lt_or_ge j i with h | h
      ·exact q4 j h x hx
      ·have : j = i := by omega
       subst this
       rw [hu] at hx
       cases hx
       exact n1
     ·rcases n2 w hw with h | h
      ·exact q5 w h
      ·exact .inr h
     ·rw [collect_pre 1 (hlen _) rfl (by simp [AObj.refs, AV.refsIn]) (by simp [AV.refsIn]; omega)]
      rfl
   ·rintro σ2 ⟨q1, q2, q3, q4, q5⟩
    have hc : ¬ (t.args.length : Int) < (t.args.length : Int) := by omega
    simp -dsimp -implicitDefEqProofs only [g73, c73r0, c73r1, c73r2, c73r3, c73r4, c73k5, c73r6, c73r7, c73k8, c73r9, c73r10, c73k11, c73k12, c73r13, c73b14, c73k15, c73r16, c73r17, c73k18, c73r19, c73r20, c73k21, c73r22, c73r23, c73k24, c73k25, c73r26, c73b27, c73k28, c73r29, c73, go_sem, seval, ↓reduceIte, part_args, Tm.pvs_len, hc, hlen, hg0, hg1, List.append_assoc, List.cons_append, List.nil_append, get_pre, get_pre0, set_pre, set_pre0, Nat.add_assoc, List.length_append, List.length_cons, List.length_nil, Nat.zero_add]
    refine ⟨σ2, false, rfl, ?_, q1, q2, q3, ⟨(fun e => by cases e), fun _ => ⟨fun e => ?_, q5⟩⟩⟩
    ·rw [if_pos (by simp [AV.refsIn])]
     exact List.take_left' (hlen _)
    ·obtain ⟨u, hu, h⟩ := (inR_str hk0).1 e
     obtain ⟨j, hj, rfl⟩ := List.getElem_of_mem hu
     exact q4 j hj _ (List.getElem?_eq_getElem hj) h
theorem rwithin_ok (l : List B) (hO : OKB l) (hl : l.length < 100000000) (v : Int) (t : Tm) (hv : t.valid = true) (b : Bool) (hb : b = true ↔ inR l v t) (hp : Heap) :
  S 55 [.pv none (.sl (some 5) (bds l)), .pv none (.int .i64 v), t.av] hp = some (.ret (.pv none (.bool b)), hp) := by
 refine sem_pure rfl rfl rfl (freezeAll_pvs [(none, .sl (some 5) (bds l)), (none, .int .i64 v), (some 4, t.pv)]) rfl ?_
 obtain ⟨σ, bb, hcall, _, _, _, hR⟩ := rocc_ok l hO hl v _ t [.box (some 4) (.pv (some 4) t.pv), .box none (.sl none 2 0 0 0), .arr none [] false] 1 2 [] rfl hv (by simp) (by simp) (by decide) (fun w hw => by cases hw) List.nodup_nil
 have e : bb = b := by
  rw [Bool.eq_iff_iff, hb]
  constructor
  ·exact hR.yes
  ·intro h
   cases bb with
   | true => rfl
   | false => exact absurd h (hR.no rfl).1
 rw [e] at hcall
 have e2 : HS [.box (some 4) (.pv (some 4) t.pv), .box none (.sl none 2 0 0 0), .arr none [] false] 1 2 [] = [.box (some 4) (.pv (some 4) t.pv), .box none (.sl none 2 0 0 0), .arr none [] false] := rfl
 rw [e2] at hcall
 simp only [Tm.av] at hcall
 have hal : ∀ a0 : AObj, wAlloc none (.tsl none []) [a0] [] = some (.ptr 1 0, [a0, .box none (.sl none 2 0 0 0), .arr none [] false]) := fun _ => rfl
 simp -dsimp -implicitDefEqProofs only [g55, c55r0, c55r1, c55r2, c55, go_sem, seval, ↓reduceIte, Tm.av, hal, hcall]
end Go.Proofs.Ytenkiofpobeilaa
