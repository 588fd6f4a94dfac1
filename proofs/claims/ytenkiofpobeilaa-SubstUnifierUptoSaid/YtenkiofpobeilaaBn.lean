/- What is proved: the program's bound and follow. -/
import Derived.Test.YtenkiofpobeilaaVarsP
import Derived.Test.YtenkiofpobeilaaRRz
set_option linter.unusedSimpArgs false
set_option linter.unusedVariables false
namespace Go.Proofs.Ytenkiofpobeilaa
open Go.Am
def IsS (s : AV) (hp : Heap) (l : List B) : Prop := s = .pv none (.sl (some 5) (bds l)) ∨ IsB s hp l
theorem IsS.more {s : AV} {hp : Heap} {l : List B} (h : IsS s hp l) (e : Heap) : IsS s (hp ++ e) l := h.elim .inl fun h => .inr (h.more e)
theorem IsS.place {s : AV} {hp : Heap} {l : List B} (h : IsS s hp l) (v : Int) (hs : Srt' l) (hl : l.length < 1000000000) (e : Heap) :
  S 61 [s, .pv none (.int .i64 v)] (hp ++ e) = some (.ret (.tuple [.pv none (.int .i64 (lbB l v : Int)), .pv none (.bool (fndB l v))]), hp ++ e) := by
 rcases h.more e with rfl | h
 ·exact place_ok l v hs hl _
 ·exact place_own h v hs hl
theorem IsS.elem {s : AV} {hp : Heap} {l : List B} (h : IsS s hp l) {i : Nat} {b : B} (hb : l[i]? = some b) :
  ∃ p q, sIaddr (some 5) [s, .pv none (.int .i64 i)] = some p ∧ sFaddr 1 [p] = some q ∧ ∀ e, aload (some 4) (hp ++ e) q = some (.pv (some 4) b.2.pv) := by
 have hlt := (List.getElem?_eq_some_iff.1 hb).1
 rcases h with rfl | h
 ·refine ⟨_, _, s_iaddr_pv (bds_get hb), rfl, fun e => ?_⟩
  simp [aload, part_to]
 ·rcases h with ⟨rfl, rfl⟩ | ⟨r, rfl, hr⟩
  ·simp at hb
  ·refine ⟨_, _, s_iaddr_sl hlt, rfl, fun e => ?_⟩
   have h1 : (hp ++ e)[r]? = some (.arr (some 5) (bds l) false) := by rw [List.getElem?_append_left (get_lt hr)]; exact hr
   simp [aload, h1, bds_len, bds_get hb, part_to]
def zagg (q : Nat) : AV := .agg [(none, .pv none (.int .i64 0)), (none, .pv none (.int .i64 0)), (none, .pv none (.str [])), (none, .sl (some 4) q 0 0 0)]
theorem IsS.low {s : AV} {hp : Heap} {l : List B} (h : IsS s hp l) (k : Nat) : s.refsIn.all (fun q => decide (q < hp.length + k)) = true := by
 rw [List.all_eq_true]
 intro q hq
 rcases h with rfl | h
 ·cases hq
 ·have := h.low q hq
  simp; omega
def bndX (n : Nat) (t : Tm) : Heap := [.box (some 4) (.pv (some 4) t.pv), .box (some 4) (zagg (n + 3)), .arr (some 4) [] false, .arr (some 4) [] false]
theorem bound_yes {s : AV} {hp : Heap} {l : List B} (h : IsS s hp l) (hs : Srt' l) (hl : l.length < 1000000000) (t : Tm) (hk : t.kind = 0) (hf : fndB l t.n = true) :
  S 66 [s, t.av] hp = some (.ret (.tuple [(toB l t.n).av, .pv none (.bool true)]), hp) := by
 refine sem_heap rfl rfl rfl rfl ?_
 have hpl := fun e => h.place t.n hs hl e
 obtain ⟨p, q, h1, h2, h3⟩ := h.elem (fnd_get hf)
 rw [hf] at hpl
 simp only at h3
 simp -dsimp -implicitDefEqProofs only [g66, c66r0, c66r1, c66r2, c66k3, c66r4, c66r5, c66r6, c66k7, c66r8, c66, go_sem, seval, ↓reduceIte, Tm.av, part_kind, part_n, hk, hpl, h1, h2, h3, w_alloc_agg, List.append_assoc, List.cons_append, List.nil_append, get_pre, get_pre0, set_pre, set_pre0, Nat.add_assoc, List.length_append, List.length_cons, List.length_nil, Nat.zero_add]
 rw [res_two rfl ((get_pre hp _ 1).trans rfl)]
 refine ⟨rfl, ?_⟩
 rw [if_pos (by simp [AV.refsIn, AV.refsIn.gol, Tm.av])]
 exact List.take_left
theorem bound_no {s : AV} {hp : Heap} {l : List B} (h : IsS s hp l) (hs : Srt' l) (hl : l.length < 1000000000) (t : Tm) (hf : ¬ (t.kind = 0 ∧ fndB l t.n = true)) :
  S 66 [s, t.av] hp = some (.ret (.tuple [zagg (hp.length + 3), .pv none (.bool false)]), hp ++ bndX hp.length t) := by
 refine sem_heap rfl rfl rfl rfl ?_
 have hpl := fun e => h.place t.n hs hl e
 by_cases hk : t.kind = 0
 ·have hf' : fndB l t.n = false := by
   cases e : fndB l t.n with
   | true => exact absurd ⟨hk, e⟩ hf
   | false => rfl
  rw [hf'] at hpl
  have hk' := eq_true hk
  simp -dsimp -implicitDefEqProofs only [g66, c66r0, c66r1, c66r2, c66k3, c66r4, c66r5, c66r6, c66k7, c66r8, c66, go_sem, seval, ↓reduceIte, Tm.av, part_kind, part_n, hk', hpl, hb0, w_alloc_agg, w_store_agg (Nat.le_add_right _ _), List.append_assoc, List.cons_append, List.nil_append, get_pre, get_pre0, set_pre, set_pre0, Nat.add_assoc, List.length_append, List.length_cons, List.length_nil, Nat.zero_add]
  rw [res_two rfl ((get_pre hp _ 1).trans rfl)]
  refine ⟨rfl, ?_⟩
  rw [if_neg (by simp [AV.refsIn, AV.refsIn.gol, AV.refsIn.go, zagg])]
  rfl
 ·have hk' := eq_false hk
  simp -dsimp -implicitDefEqProofs only [g66, c66r0, c66r1, c66r2, c66k3, c66r4, c66r5, c66r6, c66k7, c66r8, c66, go_sem, seval, ↓reduceIte, Tm.av, part_kind, part_n, hk', hb0, w_alloc_agg, w_store_agg (Nat.le_add_right _ _), List.append_assoc, List.cons_append, List.nil_append, get_pre, get_pre0, set_pre, set_pre0, Nat.add_assoc, List.length_append, List.length_cons, List.length_nil, Nat.zero_add]
  rw [res_two rfl ((get_pre hp _ 1).trans rfl)]
  refine ⟨rfl, ?_⟩
  rw [if_neg (by simp [AV.refsIn, AV.refsIn.gol, AV.refsIn.go, zagg])]
  rfl
theorem follow_ok {s : AV} {hp : Heap} {l : List B} (h : IsS s hp l) (hO : OKB l) (hl : l.length < 1000000000) (t : Tm) (hv : t.valid = true) :
  S 52 [s, t.av] hp = some (.ret (flw l t).av, hp) := by
 refine sem_heap rfl rfl rfl rfl ?_
 simp -dsimp -implicitDefEqProofs only [g52, c52r0, c52r1, c52r2, c52r3, c52k4, c52r5, c52k6, c52b7, c52k8, c52, go_sem, seval, ↓reduceIte, Tm.av, w_alloc_agg, List.append_assoc, List.cons_append, List.nil_append, get_pre, get_pre0, set_pre, set_pre0, Nat.add_assoc, List.length_append, List.length_cons, List.length_nil, Nat.zero_add]
 refine W_loop (fun n st => ∃ t1 : Tm, n = mu l t1 ∧ t1.valid = true ∧ flw l t1 = flw l t ∧ st = ⟨[(0, s), (3, .ptr hp.length 0), (4, .ptr (hp.length + 1) 0)], hp ++ [.box (some 4) (.pv (some 4) t1.pv), .box (some 4) (zagg (hp.length + 2)), .arr (some 4) [] false]⟩) (n := mu l t) ⟨t, rfl, hv, rfl, ?_⟩ ?_
 ·simp -dsimp -implicitDefEqProofs only [go_sem, seval, ↓reduceIte]
  try rfl
 ·rintro n st ⟨t1, rfl, hv1, he, rfl⟩
  by_cases hc : t1.kind = 0 ∧ fndB l t1.n = true
  ·obtain ⟨hk, hf⟩ := hc
   have hb := fun e => bound_yes (h.more e) hO.good.1 hl t1 hk hf
   simp only [Tm.av] at hb
   have hlt := mu_to hO.Acyc hk hf
   simp -dsimp -implicitDefEqProofs only [g52, c52r0, c52r1, c52r2, c52r3, c52k4, c52r5, c52k6, c52b7, c52k8, c52, go_sem, seval, ↓reduceIte, hb, w_alloc_agg, List.append_assoc, List.cons_append, List.nil_append, get_pre, get_pre0, set_pre, set_pre0, Nat.add_assoc, List.length_append, List.length_cons, List.length_nil, Nat.zero_add]
   refine ⟨mu l (toB l t1.n), hlt, toB l t1.n, rfl, (hO.to hf).1, by rw [← he, flw_to hO.Acyc hk hf], ?_⟩
   rw [collect_pre 3 rfl rfl (by simp [AObj.refs, AV.ofComps, pures, AV.refsIn, AV.refsIn.go, zagg]) (by simp [AV.refsIn, AV.refsIn.gol, h.low])]
   rfl
  ·have hb := fun e => bound_no (h.more e) hO.good.1 hl t1 hc
   have he2 : flw l t1 = t1 := by
    by_cases hk : t1.kind = 0
    ·exact flw_free hO.Acyc (valid_fits hv1) hk fun e => hc ⟨hk, e⟩
    ·exact flw_str l hk
   rw [he2] at he
   rw [← he]
   simp only [Tm.av] at hb
   simp -dsimp -implicitDefEqProofs only [g52, c52r0, c52r1, c52r2, c52r3, c52k4, c52r5, c52k6, c52b7, c52k8, c52, go_sem, seval, ↓reduceIte, hb, bndX, zagg, own_cons_sl, w_alloc_agg, w_store_agg (Nat.le_add_right _ _), List.append_assoc, List.cons_append, List.nil_append, get_pre, get_pre0, set_pre, set_pre0, Nat.add_assoc, List.length_append, List.length_cons, List.length_nil, Nat.zero_add]
   refine ⟨rfl, ?_⟩
   rw [if_pos (by simp [AV.refsIn, Tm.av])]
   exact List.take_left
end Go.Proofs.Ytenkiofpobeilaa
