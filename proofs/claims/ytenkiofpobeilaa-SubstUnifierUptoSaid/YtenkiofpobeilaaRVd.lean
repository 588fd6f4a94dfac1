/- What is proved: the reference's Valid; valid bindings are in order, their terms are valid, and they have ranks. -/
import Derived.Test.YtenkiofpobeilaaRMt
set_option linter.unusedSimpArgs false
set_option linter.unusedVariables false
namespace Go.Proofs.Ytenkiofpobeilaa
open Go.Am
def bools (D : List Bool) : List PV := D.map .bool
theorem bools_len (D : List Bool) : (bools D).length = D.length := by simp [bools]
theorem bools_get {D : List Bool} {i : Nat} {b : Bool} (h : D[i]? = some b) : (bools D)[i]? = some (.bool b) := by simp [bools, h]
def mk1 (l : List B) (D : List Bool) (w : Int) : Bool := !fndB l w || D.getD (lbB l w) false
def sttl (l : List B) (D : List Bool) (os : List Int) : Bool := os.all (mk1 l D)
theorem sttl_app (l : List B) (D : List Bool) (x y : List Int) : sttl l D (x ++ y) = (sttl l D x && sttl l D y) := by simp [sttl]
theorem fnd_lt {l : List B} {v : Int} (h : fndB l v = true) : lbB l v < l.length := by
 unfold fndB at h
 split at h
 ·rename_i b hb; exact (List.getElem?_eq_some_iff.1 hb).1
 ·cases h
theorem settled_pure : ∀ (t : Tm) (l : List B) (D : List Bool), Srt' l → l.length < 1000000000 → D.length = l.length → t.size < 1000000000 → ∀ hp, S 41 [.pv none (.sl (some 5) (bds l)), .pv none (.sl none (bools D)), t.av] hp = some (.ret (.pv none (.bool (sttl l D t.occ))), hp) := by
 intro t
 induction t using Tm.induct with
 | h t ih =>
  intro l D hs hl hD ht hp
  have hts := t.size_eq
  have hlen := Tm.sizes_len t.args
  have hfd := rfind_ok l t.n hs hl
  refine sem_pure rfl rfl rfl (freezeAll_pvs [(none, .sl (some 5) (bds l)), (none, .sl none (bools D)), (some 4, t.pv)]) rfl ?_
  rw [Tm.occ_eq]
  by_cases hk : t.kind = 0
  ·rw [if_pos hk]
   by_cases hf : fndB l t.n = true
   ·have hlt := fnd_lt hf
    obtain ⟨d, hd⟩ : ∃ d, D[lbB l t.n]? = some d := ⟨_, List.getElem?_eq_getElem (by omega)⟩
    have hfi : fdI l t.n = (lbB l t.n : Int) := by unfold fdI; rw [if_pos hf]
    have hnn : ¬ ((lbB l t.n : Nat) : Int) < 0 := by omega
    have e : sttl l D [t.n] = d := by simp [sttl, mk1, hf, List.getD_eq_getElem?_getD, hd]
    rw [hfi] at hfd
    rw [e]
    simp -dsimp -implicitDefEqProofs only [g41, c41r0, c41r1, c41r2, c41r3, c41k4, c41r5, c41r6, c41k7, c41r8, c41r9, c41k10, c41k11, c41r12, c41b13, c41k14, c41r15, c41, go_sem, seval, ↓reduceIte, part_kind, part_n, hk, hfd, hnn, s_iaddr_pv (bools_get hd)]
   ·have hf' : fndB l t.n = false := by simpa using hf
    have hfi : fdI l t.n = -1 := by unfold fdI; rw [if_neg hf]
    have hnn : (-1 : Int) < 0 := by omega
    have e : sttl l D [t.n] = true := by simp [sttl, mk1, hf']
    rw [hfi] at hfd
    rw [e]
    simp -dsimp -implicitDefEqProofs only [g41, c41r0, c41r1, c41r2, c41r3, c41k4, c41r5, c41r6, c41k7, c41r8, c41r9, c41k10, c41k11, c41r12, c41b13, c41k14, c41r15, c41, go_sem, seval, ↓reduceIte, part_kind, part_n, hk, hfd, hnn]
  ·rw [if_neg hk]
   simp -dsimp -implicitDefEqProofs only [g41, c41r0, c41r1, c41r2, c41r3, c41k4, c41r5, c41r6, c41k7, c41r8, c41r9, c41k10, c41k11, c41r12, c41b13, c41k14, c41r15, c41, go_sem, seval, ↓reduceIte, part_kind, part_n, hk]
   refine W_for (α := Unit) t.args.length (fun i _ => sttl l D (Tm.occs (t.args.take i)) = true) (fun i _ => ⟨[(0, .pv none (.sl (some 5) (bds l))), (1, .pv none (.sl none (bools D))), (5, .ptr 0 0), (8, .pv none (.int .i64 i))], [.box (some 4) (.pv (some 4) t.pv)]⟩) () ⟨rfl, rfl⟩ ?_ ?_
   ·rintro i - h hinv
    have hc : (i : Int) < (t.args.length : Int) := by omega
    obtain ⟨u, hu⟩ : ∃ u, t.args[i]? = some u := ⟨_, List.getElem?_eq_getElem h⟩
    have hum := List.mem_of_getElem? hu
    have husz := Tm.arg_lt hum
    have hcall := ih u hum l D hs hl hD (by omega)
    simp only [Tm.av] at hcall
    have w2 : IntKind.i64.wrap ((i : Int) + 1) = ((i + 1 : Nat) : Int) := by rw [wrap64 (by omega) (by omega)]; omega
    by_cases h0 : sttl l D u.occ = true
    ·simp -dsimp -implicitDefEqProofs only [g41, c41r0, c41r1, c41r2, c41r3, c41k4, c41r5, c41r6, c41k7, c41r8, c41r9, c41k10, c41k11, c41r12, c41b13, c41k14, c41r15, c41, go_sem, seval, ↓reduceIte, part_args, Tm.pvs_len, hc, s_iaddr_pv (Tm.pvs_get hu), hcall, h0, w2]
     exact ⟨(), by rw [Tm.occs_take hu, sttl_app, hinv, h0]; rfl⟩
    ·have h0' : sttl l D u.occ = false := by simpa using h0
     have e : sttl l D (Tm.occs t.args) = false := by
      have e1 : Tm.occs t.args = Tm.occs (t.args.take (i + 1)) ++ Tm.occs (t.args.drop (i + 1)) := by rw [← Tm.occs_append, List.take_append_drop]
      rw [e1, Tm.occs_take hu, sttl_app, sttl_app, h0']
      simp
     rw [e]
     simp -dsimp -implicitDefEqProofs only [g41, c41r0, c41r1, c41r2, c41r3, c41k4, c41r5, c41r6, c41k7, c41r8, c41r9, c41k10, c41k11, c41r12, c41b13, c41k14, c41r15, c41, go_sem, seval, ↓reduceIte, part_args, Tm.pvs_len, hc, s_iaddr_pv (Tm.pvs_get hu), hcall, h0']
   ·rintro - hinv
    have hc : ¬ (t.args.length : Int) < (t.args.length : Int) := by omega
    rw [List.take_length] at hinv
    simp -dsimp -implicitDefEqProofs only [g41, c41r0, c41r1, c41r2, c41r3, c41k4, c41r5, c41r6, c41k7, c41r8, c41r9, c41k10, c41k11, c41r12, c41b13, c41k14, c41r15, c41, go_sem, seval, ↓reduceIte, part_args, Tm.pvs_len, hc, hinv]
theorem settled_ok (t : Tm) (l : List B) (D : List Bool) (hs : Srt' l) (hl : l.length < 1000000000) (hD : D.length = l.length) (ht : t.size < 1000000000) {hp : Heap} {r : Nat} (hr : hp[r]? = some (.arr none (bools D) false)) :
  S 41 [.pv none (.sl (some 5) (bds l)), .sl none r l.length 0 l.length, t.av] hp = some (.ret (.pv none (.bool (sttl l D t.occ))), hp) := by
 have h1 : AV.freeze deep (.sl none r l.length 0 l.length) hp = some (.sl none (bools D), hp.set r (.arr none (bools D) true)) := by simp [AV.freeze, deep, hr, bools_len, hD]
 have e1 : ∀ H : Heap, AV.freeze deep (.pv none (.sl (some 5) (bds l))) H = some (.sl (some 5) (bds l), H) := fun _ => rfl
 have e2 : ∀ H : Heap, AV.freeze deep t.av H = some (t.pv, H) := fun _ => rfl
 exact sem_any (F := find tab) (prim := prim) (f := 41) (args := [.pv none (.sl (some 5) (bds l)), .sl none r l.length 0 l.length, t.av]) (ps := [(none, .sl (some 5) (bds l)), (none, .sl none (bools D)), (some 4, t.pv)]) (hp := hp) (hp1 := hp.set r (.arr none (bools D) true)) rfl rfl rfl (by simp only [freezeAll, e1, h1, e2]; rfl) (settled_pure t l D hs hl hD ht [])
structure OKB (l : List B) : Prop where
 good : Good l
 rng : ∀ b ∈ l, 0 ≤ b.1 ∧ b.1 ≤ 1099511627776
 acyc : ∃ rk : Nat → Nat, ∀ (i : Nat) (b : B), l[i]? = some b → ∀ w ∈ b.2.occ, fndB l w = true → rk (lbB l w) < rk i
structure InvD (l : List B) (D : List Bool) (left : Nat) : Prop where
 len : D.length = l.length
 cnt : D.count false = left
 rk : ∃ (rk : Nat → Nat) (c : Nat), ∀ (i : Nat) (b : B), D[i]? = some true → l[i]? = some b → rk i < c ∧ ∀ w ∈ b.2.occ, fndB l w = true → D[lbB l w]? = some true ∧ rk (lbB l w) < rk i
theorem InvD.start (l : List B) : InvD l (List.replicate l.length false) l.length :=
 ⟨by simp, by simp, fun _ => 0, 0, fun i b h => by
  rw [List.getElem?_replicate] at h
  split at h <;> cases h⟩
theorem count_set {D : List Bool} {i : Nat} (h : D[i]? = some false) : (D.set i true).count false + 1 = D.count false := by
 induction D generalizing i with
 | nil => simp at h
 | cons x r ih =>
  cases i with
  | zero => simp at h; subst h; simp
  | succ i =>
   have := ih (i := i) (by simpa using h)
   simp only [List.set_cons_succ, List.count_cons]
   omega
theorem InvD.mark {l : List B} {D : List Bool} {left i : Nat} {b : B} (h : InvD l D left) (hi : D[i]? = some false) (hb : l[i]? = some b) (hs : sttl l D b.2.occ = true) : InvD l (D.set i true) (left - 1) := by
 obtain ⟨h1, h2, rk, c, h3⟩ := h
 have hlt := (List.getElem?_eq_some_iff.1 hi).1
 refine ⟨by simp [h1], by have := count_set hi; omega, fun j => if j = i then c else rk j, c + 1, fun j b' hj hb' => ?_⟩
 by_cases e : j = i
 ·subst e
  rw [hb] at hb'
  cases hb'
  refine ⟨by simp, fun w hw hf => ?_⟩
  have hm := List.all_eq_true.1 hs w hw
  have hd : D[lbB l w]? = some true := by
   simp only [mk1, hf, Bool.not_true, Bool.false_or, List.getD_eq_getElem?_getD] at hm
   cases hx : D[lbB l w]? with
   | none => rw [hx] at hm; cases hm
   | some d => rw [hx] at hm; simp at hm; rw [hm]
  have hne : lbB l w ≠ j := by intro e; rw [e, hi] at hd; cases hd
  obtain ⟨x, hx⟩ : ∃ x, l[lbB l w]? = some x := ⟨_, List.getElem?_eq_getElem (fnd_lt hf)⟩
  obtain ⟨k1, _⟩ := h3 _ x hd hx
  refine ⟨by rw [List.getElem?_set_ne (Ne.symm hne)]; exact hd, ?_⟩
  simp only [if_neg hne, if_true]
  exact k1
 ·rw [List.getElem?_set_ne (Ne.symm e)] at hj
  obtain ⟨k1, k2⟩ := h3 j b' hj hb'
  refine ⟨by simp only [if_neg e]; omega, fun w hw hf => ?_⟩
  obtain ⟨m1, m2⟩ := k2 w hw hf
  have hne : lbB l w ≠ i := by intro e; rw [e, hi] at m1; cases m1
  refine ⟨by rw [List.getElem?_set_ne (Ne.symm hne)]; exact m1, ?_⟩
  simp only [if_neg hne, if_neg e]
  exact m2
theorem InvD.done {l : List B} {D : List Bool} (h : InvD l D 0) : ∃ rk : Nat → Nat, ∀ (i : Nat) (b : B), l[i]? = some b → ∀ w ∈ b.2.occ, fndB l w = true → rk (lbB l w) < rk i := by
 obtain ⟨h1, h2, rk, c, h3⟩ := h
 refine ⟨rk, fun i b hb w hw hf => ?_⟩
 have hlt := (List.getElem?_eq_some_iff.1 hb).1
 have hd : D[i]? = some true := by
  rw [List.getElem?_eq_getElem (by omega)]
  cases hx : D[i] with
  | true => rfl
  | false =>
   have : false ∈ D := by rw [← hx]; exact List.getElem_mem _
   have := List.count_pos_iff.2 this
   omega
 exact ((h3 i b hd hb).2 w hw hf).2
def WfAt (l : List B) (i : Nat) : Prop := ∀ b, l[i]? = some b → 0 ≤ b.1 ∧ b.1 ≤ 1099511627776 ∧ b.2.valid = true ∧ (0 < i → ∀ c, l[i - 1]? = some c → c.1 < b.1)
theorem srt_of {l : List B} (h : ∀ i, i < l.length → WfAt l i) : Srt' l := by
 have key : ∀ (n i : Nat) (a b : B), l[i]? = some a → l[i + n + 1]? = some b → a.1 < b.1 := by
  intro n
  induction n with
  | zero =>
   intro i a b ha hb
   have hlt := (List.getElem?_eq_some_iff.1 hb).1
   exact (h (i + 0 + 1) hlt b hb).2.2.2 (by omega) a (by simpa using ha)
  | succ n ih =>
   intro i a b ha hb
   have hlt := (List.getElem?_eq_some_iff.1 hb).1
   obtain ⟨c, hc⟩ : ∃ c, l[i + n + 1]? = some c := ⟨_, List.getElem?_eq_getElem (by omega)⟩
   have h1 := ih i a c ha hc
   have h2 := (h (i + (n + 1) + 1) hlt b hb).2.2.2 (by omega) c (by rw [show i + (n + 1) + 1 - 1 = i + n + 1 by omega]; exact hc)
   omega
 refine List.pairwise_iff_getElem.2 fun i j hi hj hij => ?_
 exact key (j - i - 1) i _ _ (List.getElem?_eq_getElem hi) (by rw [show i + (j - i - 1) + 1 = j by omega]; exact List.getElem?_eq_getElem hj)
theorem OKB.wf {l : List B} (h : OKB l) (i : Nat) : WfAt l i := fun b hb => by
 have hm := List.mem_of_getElem? hb
 obtain ⟨h1, h2⟩ := h.rng b hm
 refine ⟨h1, h2, (h.good.2 b hm).1, fun hi c hc => ?_⟩
 obtain ⟨hlt, hb'⟩ := List.getElem?_eq_some_iff.1 hb
 obtain ⟨hlt2, hc'⟩ := List.getElem?_eq_some_iff.1 hc
 have := List.pairwise_iff_getElem.1 h.good.1 (i - 1) i hlt2 hlt (by omega)
 rw [hb', hc'] at this
 exact this
theorem count_le {l : List B} {D : List Bool} {n : Nat} (h : InvD l D n) : n ≤ l.length := by
 have h1 := h.len
 have h2 := h.cnt
 have := List.count_le_length (a := false) (l := D)
 omega
theorem InvD.stuck {l : List B} {D : List Bool} {n : Nat} (h : InvD l D n) (hn : 0 < n) (hs : ∀ (j : Nat) (b : B), l[j]? = some b → D[j]? = some false → sttl l D b.2.occ = false) : ¬ OKB l := by
 rintro ⟨_, _, rk, ha⟩
 have key : ∀ (m j : Nat), rk j = m → D[j]? = some false → False := by
  intro m
  induction m using Nat.strongRecOn with
  | _ m ih =>
   intro j hm hj
   have hlt := (List.getElem?_eq_some_iff.1 hj).1
   have hl := h.len
   obtain ⟨b, hb⟩ : ∃ b, l[j]? = some b := ⟨_, List.getElem?_eq_getElem (by omega)⟩
   have := hs j b hb hj
   obtain ⟨w, hw, hm1⟩ := List.all_eq_false.1 this
   have hf : fndB l w = true := by
    cases e : fndB l w with
    | true => rfl
    | false => simp [mk1, e] at hm1
   have hd : D.getD (lbB l w) false = false := by
    cases e : D.getD (lbB l w) false with
    | false => rfl
    | true => simp [mk1, e] at hm1; rw [List.getD_eq_getElem?_getD, hm1.2] at e; cases e
   have hlt2 := fnd_lt hf
   have hd2 : D[lbB l w]? = some false := by
    rw [List.getD_eq_getElem?_getD, List.getElem?_eq_getElem (by omega)] at hd
    rw [List.getElem?_eq_getElem (by omega)]
    simpa using hd
   exact ih (rk (lbB l w)) (by have := ha j b hb w hw hf; omega) _ rfl hd2
 have : 0 < D.count false := by have := h.cnt; omega
 obtain ⟨j, hlt, hj⟩ := List.getElem_of_mem (List.count_pos_iff.1 this)
 exact key _ j rfl (by rw [List.getElem?_eq_getElem hlt, hj])
def VP (l : List B) (v : AV) : Prop := ∃ b : Bool, v = .pv none (.bool b) ∧ (b = true ↔ OKB l)
theorem vp_no {l : List B} (h : ¬ OKB l) : ∃ v', AV.pv none (.bool false) = v' ∧ VP l v' := ⟨_, rfl, false, rfl, (fun e => by cases e), fun e => absurd e h⟩
theorem vp_yes {l : List B} (h : OKB l) : ∃ v', AV.pv none (.bool true) = v' ∧ VP l v' := ⟨_, rfl, true, rfl, (fun _ => h), fun _ => rfl⟩
theorem rvalidB_ok (l : List B) (hl : l.length < 100000000) (hsz : ∀ b ∈ l, b.2.size < 1000000000) : ∃ v, (∀ hp, S 17 [.pv none (.sl (some 5) (bds l))] hp = some (.ret v, hp)) ∧ VP l v := by
 refine sem_pure_ex (ps := [(none, .sl (some 5) (bds l))]) (VP l) rfl rfl rfl (fun hp => rfl) rfl ?_
 have hgood : (∀ i, i < l.length → WfAt l i) → Good l ∧ ∀ b ∈ l, 0 ≤ b.1 ∧ b.1 ≤ 1099511627776 := fun h => by
  refine ⟨⟨srt_of h, fun b hb => ?_⟩, fun b hb => ?_⟩
  ·obtain ⟨i, hlt, rfl⟩ := List.getElem_of_mem hb
   exact ⟨(h i hlt _ (List.getElem?_eq_getElem hlt)).2.2.1, hsz _ hb⟩
  ·obtain ⟨i, hlt, rfl⟩ := List.getElem_of_mem hb
   exact ⟨(h i hlt _ (List.getElem?_eq_getElem hlt)).1, (h i hlt _ (List.getElem?_eq_getElem hlt)).2.1⟩
 simp -dsimp -implicitDefEqProofs only [g17, c17r0, c17r1, c17r2, c17k3, c17r4, c17r5, c17k6, c17k7, c17r8, c17b9, c17k10, c17r11, c17r12, c17r13, c17k14, c17r15, c17r16, c17r17, c17k18, c17r19, c17r20, c17r21, c17k22, c17k23, c17r24, c17b25, c17k26, c17r27, c17r28, c17k29, c17k30, c17r33, c17, go_sem, seval, ↓reduceIte, bds_len]
 refine W_for (α := Unit) l.length (fun i _ => ∀ j, j < i → WfAt l j) (fun i _ => ⟨[(0, .pv none (.sl (some 5) (bds l))), (3, .pv none (.int .i64 i))], []⟩) () ⟨fun j hj => by omega, rfl⟩ ?_ ?_
 ·rintro i - h hinv
  have hc : (i : Int) < (l.length : Int) := by omega
  obtain ⟨b, hb⟩ : ∃ b, l[i]? = some b := ⟨_, List.getElem?_eq_getElem h⟩
  have hbs := hsz b (List.mem_of_getElem? hb)
  have hv := fun hp => rvalid_ok b.2 hp hbs
  simp only [Tm.av] at hv
  have w2 : IntKind.i64.wrap ((i : Int) + 1) = ((i + 1 : Nat) : Int) := by rw [wrap64 (by omega) (by omega)]; omega
  have next : WfAt l i → ∀ j, j < i + 1 → WfAt l j := fun hw j hj => by
   rcases Nat.lt_or_ge j i with h | h
   ·exact hinv j h
   ·have : j = i := by omega
    subst this; exact hw
  by_cases h1 : b.1 < 0
  ·simp -dsimp -implicitDefEqProofs only [g17, c17r0, c17r1, c17r2, c17k3, c17r4, c17r5, c17k6, c17k7, c17r8, c17b9, c17k10, c17r11, c17r12, c17r13, c17k14, c17r15, c17r16, c17r17, c17k18, c17r19, c17r20, c17r21, c17k22, c17k23, c17r24, c17b25, c17k26, c17r27, c17r28, c17k29, c17k30, c17r33, c17, go_sem, seval, ↓reduceIte, bds_len, hc, s_iaddr_pv (bds_get hb), part_var, h1]
   exact vp_no fun h => by have := (h.wf i b hb).1; omega
  ·by_cases h2 : 1099511627776 < b.1
   ·simp -dsimp -implicitDefEqProofs only [g17, c17r0, c17r1, c17r2, c17k3, c17r4, c17r5, c17k6, c17k7, c17r8, c17b9, c17k10, c17r11, c17r12, c17r13, c17k14, c17r15, c17r16, c17r17, c17k18, c17r19, c17r20, c17r21, c17k22, c17k23, c17r24, c17b25, c17k26, c17r27, c17r28, c17k29, c17k30, c17r33, c17, go_sem, seval, ↓reduceIte, bds_len, hc, s_iaddr_pv (bds_get hb), part_var, h1, h2]
    exact vp_no fun h => by have := (h.wf i b hb).2.1; omega
   ·by_cases h3 : 0 < i
    ·have h3' : (0 : Int) < (i : Int) := by omega
     obtain ⟨c, hcc⟩ : ∃ c, l[i - 1]? = some c := ⟨_, List.getElem?_eq_getElem (by omega)⟩
     have w3 : IntKind.i64.wrap ((i : Int) - 1) = ((i - 1 : Nat) : Int) := by rw [wrap64 (by omega) (by omega)]; omega
     by_cases h4 : b.1 ≤ c.1
     ·simp -dsimp -implicitDefEqProofs only [g17, c17r0, c17r1, c17r2, c17k3, c17r4, c17r5, c17k6, c17k7, c17r8, c17b9, c17k10, c17r11, c17r12, c17r13, c17k14, c17r15, c17r16, c17r17, c17k18, c17r19, c17r20, c17r21, c17k22, c17k23, c17r24, c17b25, c17k26, c17r27, c17r28, c17k29, c17k30, c17r33, c17, go_sem, seval, ↓reduceIte, bds_len, hc, s_iaddr_pv (bds_get hb), s_iaddr_pv (bds_get hcc), part_var, h1, h2, h3', h4, w3]
      exact vp_no fun h => by have := (h.wf i b hb).2.2.2 h3 c hcc; omega
     ·by_cases h5 : b.2.valid = true
      ·simp -dsimp -implicitDefEqProofs only [g17, c17r0, c17r1, c17r2, c17k3, c17r4, c17r5, c17k6, c17k7, c17r8, c17b9, c17k10, c17r11, c17r12, c17r13, c17k14, c17r15, c17r16, c17r17, c17k18, c17r19, c17r20, c17r21, c17k22, c17k23, c17r24, c17b25, c17k26, c17r27, c17r28, c17k29, c17k30, c17r33, c17, go_sem, seval, ↓reduceIte, bds_len, hc, s_iaddr_pv (bds_get hb), s_iaddr_pv (bds_get hcc), part_var, part_to, h1, h2, h3', h4, w3, hv, h5, w2]
       exact ⟨(), next fun b' hb' => by rw [hb] at hb'; cases hb'; exact ⟨by omega, by omega, h5, fun _ c' hc' => by rw [hcc] at hc'; cases hc'; omega⟩⟩
      ·have h5' : b.2.valid = false := by simpa using h5
       simp -dsimp -implicitDefEqProofs only [g17, c17r0, c17r1, c17r2, c17k3, c17r4, c17r5, c17k6, c17k7, c17r8, c17b9, c17k10, c17r11, c17r12, c17r13, c17k14, c17r15, c17r16, c17r17, c17k18, c17r19, c17r20, c17r21, c17k22, c17k23, c17r24, c17b25, c17k26, c17r27, c17r28, c17k29, c17k30, c17r33, c17, go_sem, seval, ↓reduceIte, bds_len, hc, s_iaddr_pv (bds_get hb), s_iaddr_pv (bds_get hcc), part_var, part_to, h1, h2, h3', h4, w3, hv, h5']
       exact vp_no fun h => by have := (h.wf i b hb).2.2.1; rw [h5'] at this; cases this
    ·have h3' : ¬ (0 : Int) < (i : Int) := by omega
     by_cases h5 : b.2.valid = true
     ·simp -dsimp -implicitDefEqProofs only [g17, c17r0, c17r1, c17r2, c17k3, c17r4, c17r5, c17k6, c17k7, c17r8, c17b9, c17k10, c17r11, c17r12, c17r13, c17k14, c17r15, c17r16, c17r17, c17k18, c17r19, c17r20, c17r21, c17k22, c17k23, c17r24, c17b25, c17k26, c17r27, c17r28, c17k29, c17k30, c17r33, c17, go_sem, seval, ↓reduceIte, bds_len, hc, s_iaddr_pv (bds_get hb), part_var, part_to, h1, h2, h3', hv, h5, w2]
      exact ⟨(), next fun b' hb' => by rw [hb] at hb'; cases hb'; exact ⟨by omega, by omega, h5, fun h => absurd h h3⟩⟩
     ·have h5' : b.2.valid = false := by simpa using h5
      simp -dsimp -implicitDefEqProofs only [g17, c17r0, c17r1, c17r2, c17k3, c17r4, c17r5, c17k6, c17k7, c17r8, c17b9, c17k10, c17r11, c17r12, c17r13, c17k14, c17r15, c17r16, c17r17, c17k18, c17r19, c17r20, c17r21, c17k22, c17k23, c17r24, c17b25, c17k26, c17r27, c17r28, c17k29, c17k30, c17r33, c17, go_sem, seval, ↓reduceIte, bds_len, hc, s_iaddr_pv (bds_get hb), part_var, part_to, h1, h2, h3', hv, h5']
      exact vp_no fun h => by have := (h.wf i b hb).2.2.1; rw [h5'] at this; cases this
 ·rintro - hinv
  have hc : ¬ (l.length : Int) < (l.length : Int) := by omega
  have hs := srt_of hinv
  have hmk : wMkslice none (.bool false) [] [.pv none (.int .i64 l.length), .pv none (.int .i64 l.length)] = some (.sl none 0 l.length 0 l.length, [.arr none (bools (List.replicate l.length false)) false]) := by
   have : (l.length : Int) ≤ (lim : Nat) := by unfold lim; omega
   simp [wMkslice, this, bools, Sh.size]
  simp -dsimp -implicitDefEqProofs only [g17, c17r0, c17r1, c17r2, c17k3, c17r4, c17r5, c17k6, c17k7, c17r8, c17b9, c17k10, c17r11, c17r12, c17r13, c17k14, c17r15, c17r16, c17r17, c17k18, c17r19, c17r20, c17r21, c17k22, c17k23, c17r24, c17b25, c17k26, c17r27, c17r28, c17k29, c17k30, c17r33, c17, go_sem, seval, ↓reduceIte, bds_len, hc, hmk]
  simp -dsimp -implicitDefEqProofs only [g17, c17r0, c17r1, c17r2, c17k3, c17r4, c17r5, c17k6, c17k7, c17r8, c17b9, c17k10, c17r11, c17r12, c17r13, c17k14, c17r15, c17r16, c17r17, c17k18, c17r19, c17r20, c17r21, c17k22, c17k23, c17r24, c17b25, c17k26, c17r27, c17r28, c17k29, c17k30, c17k32, c17r33, c17, go_sem, seval, ↓reduceIte]
  refine W_loop (fun n st => ∃ (left : Nat) (D : List Bool), n = left ∧ InvD l D left ∧ st = ⟨[(0, .pv none (.sl (some 5) (bds l))), (4, .sl none 0 l.length 0 l.length), (5, .pv none (.int .i64 left))], [.arr none (bools D) false]⟩) (n := l.length) ⟨l.length, _, rfl, InvD.start l, ?_⟩ ?_
  ·simp -dsimp -implicitDefEqProofs only [go_sem, seval, ↓reduceIte]
   try rfl
  rintro n st ⟨left, D, rfl, hD, rfl⟩
  by_cases h0 : 0 < n
  ·have h0' : (0 : Int) < (n : Int) := by omega
   simp -dsimp -implicitDefEqProofs only [g17, c17r0, c17r1, c17r2, c17k3, c17r4, c17r5, c17k6, c17k7, c17r8, c17b9, c17k10, c17r11, c17r12, c17r13, c17k14, c17r15, c17r16, c17r17, c17k18, c17r19, c17r20, c17r21, c17k22, c17k23, c17r24, c17b25, c17k26, c17r27, c17r28, c17k29, c17k30, c17b31, c17k32, c17r33, c17, go_sem, seval, ↓reduceIte, bds_len, h0']
   refine W_for (α := Nat × List Bool) l.length (fun i a => InvD l a.2 a.1 ∧ a.1 ≤ n ∧ (a.1 = n → a.2 = D ∧ ∀ j, j < i → ∀ b, l[j]? = some b → D[j]? = some false → sttl l D b.2.occ = false))
    (fun i a => ⟨[(0, .pv none (.sl (some 5) (bds l))), (4, .sl none 0 l.length 0 l.length), (5, .pv none (.int .i64 a.1)), (6, .pv none (.int .i64 n)), (7, .pv none (.int .i64 i))], [.arr none (bools a.2) false]⟩) (n, D) ⟨⟨hD, Nat.le_refl _, fun _ => ⟨rfl, fun j hj => by omega⟩⟩, rfl⟩ ?_ ?_
   ·rintro i ⟨left, D1⟩ h ⟨hI, hle, hq⟩
    simp only at hI hle hq
    have hc : (i : Int) < (l.length : Int) := by omega
    obtain ⟨b, hb⟩ : ∃ b, l[i]? = some b := ⟨_, List.getElem?_eq_getElem h⟩
    have hlen := hI.len
    obtain ⟨d, hd⟩ : ∃ d, D1[i]? = some d := ⟨_, List.getElem?_eq_getElem (by omega)⟩
    have hld : aload none [.arr none (bools D1) false] (.eptr none 0 l.length i 0) = some (.pv none (.bool d)) := by
     simp [aload, bools_len, hlen, bools_get hd]
    have hst : wStore none 0 [.arr none (bools D1) false] [.eptr none 0 l.length i 0, .pv none (.bool true)] = some (.undef, [.arr none (bools (D1.set i true)) false]) := by
     have e : AV.freeze deep (.pv none (.bool true)) [.arr none (bools D1) false] = some (.bool true, [.arr none (bools D1) false]) := rfl
     simp [wStore, astore, bools_len, hlen, bools_get hd, AV.shp, e]
     simp [bools]
    have hset := settled_ok b.2 l D1 hs (by omega) hlen (hsz b (List.mem_of_getElem? hb)) (hp := [.arr none (bools D1) false]) (r := 0) rfl
    simp only [Tm.av] at hset
    have w2 : IntKind.i64.wrap ((i : Int) + 1) = ((i + 1 : Nat) : Int) := by rw [wrap64 (by omega) (by omega)]; omega
    have hcl := count_le hI
    cases d with
    | true =>
     simp -dsimp -implicitDefEqProofs only [g17, c17r0, c17r1, c17r2, c17k3, c17r4, c17r5, c17k6, c17k7, c17r8, c17b9, c17k10, c17r11, c17r12, c17r13, c17k14, c17r15, c17r16, c17r17, c17k18, c17r19, c17r20, c17r21, c17k22, c17k23, c17r24, c17b25, c17k26, c17r27, c17r28, c17k29, c17k30, c17b31, c17k32, c17r33, c17, go_sem, seval, ↓reduceIte, bds_len, hc, s_iaddr_sl h, hld, w2]
     refine ⟨(left, D1), ⟨hI, hle, fun e => ?_⟩, rfl⟩
     obtain ⟨rfl, hq2⟩ := hq e
     refine ⟨rfl, fun j hj b' hb' hf => ?_⟩
     rcases Nat.lt_or_ge j i with h | h
     ·exact hq2 j h b' hb' hf
     ·have : j = i := by omega
      subst this
      rw [hd] at hf; cases hf
    | false =>
     by_cases hsb : sttl l D1 b.2.occ = true
     ·have hlp : 0 < left := by
       have : false ∈ D1 := List.mem_of_getElem? hd
       have := List.count_pos_iff.2 this
       have := hI.cnt
       omega
      have w4 : IntKind.i64.wrap ((left : Int) - 1) = ((left - 1 : Nat) : Int) := by rw [wrap64 (by omega) (by omega)]; omega
      simp -dsimp -implicitDefEqProofs only [g17, c17r0, c17r1, c17r2, c17k3, c17r4, c17r5, c17k6, c17k7, c17r8, c17b9, c17k10, c17r11, c17r12, c17r13, c17k14, c17r15, c17r16, c17r17, c17k18, c17r19, c17r20, c17r21, c17k22, c17k23, c17r24, c17b25, c17k26, c17r27, c17r28, c17k29, c17k30, c17b31, c17k32, c17r33, c17, go_sem, seval, ↓reduceIte, bds_len, hc, s_iaddr_sl h, hld, w2, s_iaddr_pv (bds_get hb), part_to, hset, hsb, hst, w4]
      exact ⟨(left - 1, D1.set i true), ⟨hI.mark hd hb hsb, by omega, fun e => by omega⟩, rfl⟩
     ·have hsb' : sttl l D1 b.2.occ = false := by simpa using hsb
      simp -dsimp -implicitDefEqProofs only [g17, c17r0, c17r1, c17r2, c17k3, c17r4, c17r5, c17k6, c17k7, c17r8, c17b9, c17k10, c17r11, c17r12, c17r13, c17k14, c17r15, c17r16, c17r17, c17k18, c17r19, c17r20, c17r21, c17k22, c17k23, c17r24, c17b25, c17k26, c17r27, c17r28, c17k29, c17k30, c17b31, c17k32, c17r33, c17, go_sem, seval, ↓reduceIte, bds_len, hc, s_iaddr_sl h, hld, w2, s_iaddr_pv (bds_get hb), part_to, hset, hsb']
      refine ⟨(left, D1), ⟨hI, hle, fun e => ?_⟩, rfl⟩
      obtain ⟨rfl, hq2⟩ := hq e
      refine ⟨rfl, fun j hj b' hb' hf => ?_⟩
      rcases Nat.lt_or_ge j i with h | h
      ·exact hq2 j h b' hb' hf
      ·have : j = i := by omega
       subst this
       rw [hb] at hb'; cases hb'
       exact hsb'
   ·rintro ⟨left, D1⟩ ⟨hI, hle, hq⟩
    simp only at hI hle hq
    have hc : ¬ (l.length : Int) < (l.length : Int) := by omega
    by_cases e : left = n
    ·obtain ⟨rfl, hq2⟩ := hq e
     subst e
     simp -dsimp -implicitDefEqProofs only [g17, c17r0, c17r1, c17r2, c17k3, c17r4, c17r5, c17k6, c17k7, c17r8, c17b9, c17k10, c17r11, c17r12, c17r13, c17k14, c17r15, c17r16, c17r17, c17k18, c17r19, c17r20, c17r21, c17k22, c17k23, c17r24, c17b25, c17k26, c17r27, c17r28, c17k29, c17k30, c17b31, c17k32, c17r33, c17, go_sem, seval, ↓reduceIte, bds_len, hc]
     exact vp_no (hI.stuck h0 fun j b hb hf => hq2 j (List.getElem?_eq_some_iff.1 hb).1 b hb hf)
    ·have e' : ¬ (left : Int) = (n : Int) := by omega
     simp -dsimp -implicitDefEqProofs only [g17, c17r0, c17r1, c17r2, c17k3, c17r4, c17r5, c17k6, c17k7, c17r8, c17b9, c17k10, c17r11, c17r12, c17r13, c17k14, c17r15, c17r16, c17r17, c17k18, c17r19, c17r20, c17r21, c17k22, c17k23, c17r24, c17b25, c17k26, c17r27, c17r28, c17k29, c17k30, c17b31, c17k32, c17r33, c17, go_sem, seval, ↓reduceIte, bds_len, hc, e']
     exact ⟨left, by omega, left, D1, rfl, hI, rfl⟩
  ·have h0' : ¬ (0 : Int) < (n : Int) := by omega
   obtain rfl : n = 0 := by omega
   simp -dsimp -implicitDefEqProofs only [g17, c17r0, c17r1, c17r2, c17k3, c17r4, c17r5, c17k6, c17k7, c17r8, c17b9, c17k10, c17r11, c17r12, c17r13, c17k14, c17r15, c17r16, c17r17, c17k18, c17r19, c17r20, c17r21, c17k22, c17k23, c17r24, c17b25, c17k26, c17r27, c17r28, c17k29, c17k30, c17b31, c17k32, c17r33, c17, go_sem, seval, ↓reduceIte, bds_len, h0']
   exact vp_yes ⟨(hgood hinv).1, (hgood hinv).2, hD.done⟩
end Go.Proofs.Ytenkiofpobeilaa
