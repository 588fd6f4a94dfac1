/- What is proved: the reference's Vars and Rename. -/
import Derived.Test.YtffecaafklpmhaaGreatSml
set_option linter.unusedSimpArgs false
set_option linter.unusedVariables false
namespace Go.Proofs.YtffecaafklpmhaaGreat
open Go.Am
def ints (l : List Int) : List PV := l.map (.int .i64)
theorem ints_len (l : List Int) : (ints l).length = l.length := by simp [ints]
theorem ints_get {l : List Int} {i : Nat} {x : Int} (h : l[i]? = some x) : (ints l)[i]? = some (.int .i64 x) := by simp [ints, h]
theorem ints_snoc (l : List Int) (x : Int) : ints l ++ [.int .i64 x] = ints (l ++ [x]) := by simp [ints]
def posI (l : List Int) (x : Int) : Int := if x ∈ l then (l.idxOf x : Int) else -1
theorem position_ok (l : List Int) (x : Int) (hl : l.length < 1000000000) (hp : Heap) : ∃ y : Int, (∀ hp, S 137 [.pv none (.sl none (ints l)), .pv none (.int .i64 x)] hp = some (.ret (.pv none (.int .i64 y)), hp)) ∧ (y < 0 ↔ x ∉ l) := by
 obtain ⟨v, h1, y, rfl, h2⟩ := sem_pure_ex (F := find tab) (prim := prim) (f := 137) (ps := [(none, .sl none (ints l)), (none, .int .i64 x)]) (args := [.pv none (.sl none (ints l)), .pv none (.int .i64 x)]) (fun v => ∃ y : Int, v = .pv none (.int .i64 y) ∧ (y < 0 ↔ x ∉ l)) rfl rfl rfl (fun hp => rfl) rfl (by
  simp -dsimp -implicitDefEqProofs only [g137, c137r0, c137r1, c137r2, c137k3, c137r4, c137r5, c137k6, c137k7, c137r8, c137b9, c137k10, c137r11, c137, go_sem, seval, ↓reduceIte, ints_len]
  refine W_for (α := Unit) l.length (fun i _ => ∀ j, j < i → l[j]? ≠ some x) (fun i _ => ⟨[(0, .pv none (.sl none (ints l))), (1, .pv none (.int .i64 x)), (5, .pv none (.int .i64 i))], []⟩) () ⟨fun j hj => by omega, rfl⟩ ?_ ?_
  ·rintro i - h hinv
   have hc : (i : Int) < (l.length : Int) := by omega
   obtain ⟨b, hb⟩ : ∃ b, l[i]? = some b := ⟨_, List.getElem?_eq_getElem h⟩
   have w2 : IntKind.i64.wrap ((i : Int) + 1) = ((i + 1 : Nat) : Int) := by rw [wrap64 (by omega) (by omega)]; omega
   by_cases hbx : b = x
   ·simp -dsimp -implicitDefEqProofs only [g137, c137r0, c137r1, c137r2, c137k3, c137r4, c137r5, c137k6, c137k7, c137r8, c137b9, c137k10, c137r11, c137, go_sem, seval, ↓reduceIte, ints_len, hc, s_iaddr_pv (ints_get hb), hbx]
    refine ⟨_, rfl, i, rfl, ?_⟩
    have : x ∈ l := by rw [← hbx]; exact List.mem_of_getElem? hb
    constructor
    ·intro h; omega
    ·intro h; exact absurd this h
   ·simp -dsimp -implicitDefEqProofs only [g137, c137r0, c137r1, c137r2, c137k3, c137r4, c137r5, c137k6, c137k7, c137r8, c137b9, c137k10, c137r11, c137, go_sem, seval, ↓reduceIte, ints_len, hc, s_iaddr_pv (ints_get hb), hbx, w2]
    refine ⟨(), fun j hj => ?_⟩
    rcases Nat.lt_or_ge j i with h | h
    ·exact hinv j h
    ·have : j = i := by omega
     subst this
     rw [hb]
     intro e
     cases e
     exact hbx rfl
  ·rintro - hinv
   have hc : ¬ (l.length : Int) < (l.length : Int) := by omega
   simp -dsimp -implicitDefEqProofs only [g137, c137r0, c137r1, c137r2, c137k3, c137r4, c137r5, c137k6, c137k7, c137r8, c137b9, c137k10, c137r11, c137, go_sem, seval, ↓reduceIte, ints_len, hc]
   refine ⟨_, rfl, -1, rfl, ?_⟩
   constructor
   ·intro _ hm
    obtain ⟨j, hlt, hj⟩ := List.getElem_of_mem hm
    exact hinv j hlt (by rw [List.getElem?_eq_getElem hlt, hj])
   ·intro _; omega)
 exact ⟨y, h1, h2⟩
def vadd (s : List Int) (w : Int) : List Int := if w ∈ s then s else s ++ [w]
def vads (s : List Int) (ws : List Int) : List Int := ws.foldl vadd s
theorem vads_app (s a b : List Int) : vads s (a ++ b) = vads (vads s a) b := by simp [vads]
theorem vads_len (ws : List Int) : ∀ s : List Int, (vads s ws).length ≤ s.length + ws.length := by
 induction ws with
 | nil => intro s; simp [vads]
 | cons w r ih =>
  intro s
  have := ih (vadd s w)
  have h2 : (vadd s w).length ≤ s.length + 1 := by unfold vadd; split <;> simp
  simp only [vads, List.foldl_cons, List.length_cons] at this ⊢
  omega
theorem vads_mem (ws : List Int) : ∀ (s : List Int) (x : Int), x ∈ vads s ws ↔ x ∈ s ∨ x ∈ ws := by
 induction ws with
 | nil => intro s x; simp [vads]
 | cons w r ih =>
  intro s x
  have := ih (vadd s w) x
  simp only [vads, List.foldl_cons] at this ⊢
  rw [this]
  unfold vadd
  split
  ·rename_i h
   simp only [List.mem_cons]
   constructor
   ·rintro (h1 | h1) <;> simp [h1]
   ·rintro (h1 | rfl | h1)
    ·exact .inl h1
    ·exact .inl h
    ·exact .inr h1
  ·simp only [List.mem_append, List.mem_cons, List.not_mem_nil, or_false]
   constructor
   ·rintro ((h1 | h1) | h1) <;> simp [h1]
   ·rintro (h1 | h1 | h1) <;> simp [h1]
def IsV (s : AV) (hp : Heap) (l : List Int) : Prop := (s = .tsl none [] ∧ l = []) ∨ ∃ r, s = .sl none r l.length 0 l.length ∧ hp[r]? = some (.arr none (ints l) false)
def PresV (s : AV) (hp hp' : Heap) : Prop := hp.length ≤ hp'.length ∧ ∀ (i : Nat) (x : AObj), hp[i]? = some x → (∀ v o n, s ≠ .sl none i v o n) → hp'[i]? = some x
def OwnV (s : AV) (hp : Heap) (s' : AV) : Prop := ∀ r v o n, s' = .sl none r v o n → (∃ v o n, s = .sl none r v o n) ∨ hp.length ≤ r
theorem PresV.refl (s : AV) (hp : Heap) : PresV s hp hp := ⟨Nat.le_refl _, fun _ _ h _ => h⟩
theorem OwnV.refl (s : AV) (hp : Heap) : OwnV s hp s := fun r v o n h => .inl ⟨v, o, n, h⟩
theorem IsV.more {s : AV} {hp : Heap} {l : List Int} (h : IsV s hp l) (e : Heap) : IsV s (hp ++ e) l := by
 rcases h with h | ⟨r, h1, h2⟩
 ·exact .inl h
 ·exact .inr ⟨r, h1, by rw [List.getElem?_append_left (get_lt h2)]; exact h2⟩
theorem IsV.not_box {s : AV} {hp : Heap} {l : List Int} (h : IsV s hp l) {i : Nat} {sh : Sh} {v : AV} (hi : hp[i]? = some (.box sh v)) : ∀ v o n, s ≠ .sl none i v o n := by
 rcases h with ⟨rfl, _⟩ | ⟨r, rfl, h2⟩
 ·intro v o n e; cases e
 ·intro v o n e; cases e; rw [hi] at h2; cases h2
theorem OwnV.trans {s s1 s2 : AV} {hp hp1 : Heap} (h1 : OwnV s hp s1) (hl : hp.length ≤ hp1.length) (h2 : OwnV s1 hp1 s2) : OwnV s hp s2 := fun r v o n e => by
 rcases h2 r v o n e with ⟨v', o', n', e'⟩ | h
 ·exact h1 r v' o' n' e'
 ·exact .inr (by omega)
theorem PresV.trans {s s1 : AV} {hp hp1 hp2 : Heap} (h1 : PresV s hp hp1) (ho : OwnV s hp s1) (h2 : PresV s1 hp1 hp2) : PresV s hp hp2 :=
 ⟨Nat.le_trans h1.1 h2.1, fun i x hx hne => h2.2 i x (h1.2 i x hx hne) fun v o n e => by
  rcases ho i v o n e with ⟨v', o', n', e'⟩ | h
  ·exact hne v' o' n' e'
  ·have := get_lt hx; omega⟩
theorem PresV.take {s : AV} {hp hp1 : Heap} {n : Nat} (h : PresV s hp hp1) (hn : hp.length ≤ n) : PresV s hp (hp1.take n) :=
 ⟨by rw [List.length_take]; have := h.1; omega, fun i x hx hne => by
  have := get_lt hx
  rw [List.getElem?_take, if_pos (by omega)]
  exact h.2 i x hx hne⟩
theorem PresV.less {s : AV} {hp e hp1 : Heap} (h : PresV s (hp ++ e) hp1) : PresV s hp hp1 :=
 ⟨by have := h.1; simp at this; omega, fun i x hx hne => h.2 i x (by rw [List.getElem?_append_left (get_lt hx)]; exact hx) hne⟩
theorem OwnV.less {s s' : AV} {hp e : Heap} (h : OwnV s (hp ++ e) s') : OwnV s hp s' := fun r v o n h1 => by
 rcases h r v o n h1 with h | h
 ·exact .inl h
 ·exact .inr (by simp at h; omega)
theorem IsV.take {s : AV} {hp : Heap} {l : List Int} {n : Nat} (h : IsV s hp l) (hr : ∀ q ∈ s.refsIn, q < n) : IsV s (hp.take n) l := by
 rcases h with h | ⟨r, rfl, h2⟩
 ·exact .inl h
 ·have : r < n := hr r (by simp [AV.refsIn])
  exact .inr ⟨r, rfl, by rw [List.getElem?_take, if_pos this]; exact h2⟩
theorem IsV.freeze {s : AV} {hp : Heap} {l : List Int} (h : IsV s hp l) : ∃ hp1, AV.freeze deep s hp = some (.sl none (ints l), hp1) ∧ s.shp = none ∧ s.plain = true := by
 rcases h with ⟨rfl, rfl⟩ | ⟨r, rfl, h⟩
 ·exact ⟨hp, rfl, rfl, rfl⟩
 ·exact ⟨hp.set r (.arr none (ints l) true), by simp [AV.freeze, deep, h, ints_len], rfl, rfl⟩
theorem isV_app {s : AV} {hp : Heap} {l : List Int} (h : IsV s hp l) (x : Int) (hl : l.length < 1000000000) : ∃ s' H', wAppend none hp [s, .tsl none [.int .i64 x]] = some (s', H') ∧ IsV s' H' (l ++ [x]) ∧ PresV s hp H' ∧ OwnV s hp s' := by
 have hlim : l.length + 1 ≤ lim := by unfold lim; omega
 rcases h with ⟨rfl, rfl⟩ | ⟨r, rfl, h⟩
 ·refine ⟨_, _, rfl, .inr ⟨hp.length, rfl, ?_⟩, ⟨by simp, fun i x hx _ => by rw [List.getElem?_append_left (get_lt hx)]; exact hx⟩, fun r v o n e => by cases e; exact .inr (Nat.le_refl _)⟩
  rw [List.getElem?_append_right (Nat.le_refl _), Nat.sub_self]
  rfl
 ·have hlt := get_lt h
  refine ⟨.sl none r (l.length + 1) 0 (l.length + 1), hp.set r (.arr none (ints (l ++ [x])) false), ?_, .inr ⟨r, by simp, by rw [List.getElem?_set_self hlt]⟩, ⟨by simp, fun i x hx hne => ?_⟩, fun r v o n e => by cases e; exact .inl ⟨_, _, _, rfl⟩⟩
  ·simp [wAppend, aappend, elems, h, ints_len, hlim]
   simp [ints]
  ·have : i ≠ r := fun e => hne _ _ _ (by rw [e])
   rw [List.getElem?_set_ne (Ne.symm this)]
   exact hx
theorem position_v {s : AV} {hp : Heap} {l : List Int} (h : IsV s hp l) (x : Int) (hl : l.length < 1000000000) : ∃ y : Int, S 137 [s, .pv none (.int .i64 x)] hp = some (.ret (.pv none (.int .i64 y)), hp) ∧ (y < 0 ↔ x ∉ l) := by
 obtain ⟨y, h1, h2⟩ := position_ok l x hl hp
 obtain ⟨hp1, z1, z2, _⟩ := h.freeze
 refine ⟨y, ?_, h2⟩
 have := sem_any (F := find tab) (prim := prim) (f := 137) (args := [s, .pv none (.int .i64 x)]) (ps := [(none, .sl none (ints l)), (none, .int .i64 x)]) (hp := hp) (hp1 := hp1) rfl rfl rfl (by
  have e : ∀ H : Heap, AV.freeze deep (.pv none (.int .i64 x)) H = some (.int .i64 x, H) := fun _ => rfl
  simp only [freezeAll, z1, e, z2]; rfl) (h1 [])
 exact this
theorem vars_fin {s s1 : AV} {hp e H : Heap} {l : List Int} (h1 : IsV s1 H l) (h2 : PresV s (hp ++ e) H) (h3 : OwnV s (hp ++ e) s1) :
  IsV s1 (if s1.refsIn.all (fun q => decide (q < hp.length)) = true then H.take hp.length else H) l ∧ PresV s hp (if s1.refsIn.all (fun q => decide (q < hp.length)) = true then H.take hp.length else H) ∧ OwnV s hp s1 := by
 refine ⟨?_, ?_, h3.less⟩
 ·split
  ·rename_i hr
   exact h1.take fun q hq => by simpa using List.all_eq_true.1 hr q hq
  ·exact h1
 ·split
  ·exact h2.less.take (Nat.le_refl _)
  ·exact h2.less
theorem vars_loop (t : Tm) (ih : ∀ u ∈ t.args, ∀ (s : AV) (hp : Heap) (l : List Int), IsV s hp l → u.fits = true → l.length + u.size < 100000000 → ∃ s' hp', S 113 [s, u.av] hp = some (.ret s', hp') ∧ IsV s' hp' (vads l u.occ) ∧ PresV s hp hp' ∧ OwnV s hp s')
  (s : AV) (H0 : Heap) (n0 b : Nat) (l : List Int) (hB : IsV s H0 l) (h1 : H0[n0]? = some (.box (some 4) (.pv (some 4) t.pv))) (hf : t.fits = true) (hl : l.length + Tm.sizes t.args < 100000000) (Q : AExit → St → Prop)
  (hQ : ∀ (s1 : AV) (H : Heap) (r : Fr), IsV s1 H (vads l (Tm.occs t.args)) → PresV s H0 H → OwnV s H0 s1 → Q .normal ⟨(0, s1) :: r, H⟩) :
  W Z L b c113k11 ⟨[(0, s), (3, .ptr n0 0), (5, .pv none (.int .i64 0))], H0⟩ Q := by
 have hts := t.size_eq
 have hlen := Tm.sizes_len t.args
 have nb1 := hB.not_box h1
 simp -dsimp -implicitDefEqProofs only [g113, c113r0, c113r1, c113r2, c113k3, c113r4, c113r5, c113k6, c113r7, c113k8, c113r9, c113b10, c113k11, c113r12, c113, go_sem, seval, ↓reduceIte]
 refine W_for (α := AV × Heap) t.args.length (fun i a => IsV a.1 a.2 (vads l (Tm.occs (t.args.take i))) ∧ PresV s H0 a.2 ∧ OwnV s H0 a.1)
  (fun i a => ⟨[(0, a.1), (3, .ptr n0 0), (5, .pv none (.int .i64 i))], a.2⟩) (s, H0) ⟨⟨hB, PresV.refl _ _, OwnV.refl _ _⟩, rfl⟩ ?_ ?_
 ·rintro i ⟨s1, H⟩ h ⟨k1, k2, k3⟩
  dsimp only at k1 k2 k3
  have hc : (i : Int) < (t.args.length : Int) := by omega
  have b1 := k2.2 n0 _ h1 nb1
  obtain ⟨u, hu⟩ : ∃ u, t.args[i]? = some u := ⟨_, List.getElem?_eq_getElem h⟩
  have hum := List.mem_of_getElem? hu
  have hst := Tm.sizes_take hu
  have hle := Tm.sizes_take_le t.args (i + 1)
  have hvl := vads_len (Tm.occs (t.args.take i)) l
  have hol := Tm.occs_len (t.args.take i)
  obtain ⟨s2, H2, hcall, p1, p2, p3⟩ := ih u hum s1 H _ k1 (Tm.fits_arg hf hum) (by omega)
  simp only [Tm.av] at hcall
  have w2 : IntKind.i64.wrap ((i : Int) + 1) = ((i + 1 : Nat) : Int) := by rw [wrap64 (by omega) (by omega)]; omega
  simp -dsimp -implicitDefEqProofs only [g113, c113r0, c113r1, c113r2, c113k3, c113r4, c113r5, c113k6, c113r7, c113k8, c113r9, c113b10, c113k11, c113r12, c113, go_sem, seval, ↓reduceIte, part_args, Tm.pvs_len, hc, b1, s_iaddr_pv (Tm.pvs_get hu), hcall, w2]
  have hcc := collect_cases H0.length b [(0, s2), (3, .ptr n0 0), (5, .pv none (.int .i64 ((i + 1 : Nat) : Int)))] H2
  refine ⟨(s2, collect H0.length b [(0, s2), (3, .ptr n0 0), (5, .pv none (.int .i64 ((i + 1 : Nat) : Int)))] H2), ?_, rfl⟩
  generalize collect H0.length b [(0, s2), (3, .ptr n0 0), (5, .pv none (.int .i64 ((i + 1 : Nat) : Int)))] H2 = HC at hcc
  have q1 := k2.trans k3 p2
  have q2 := k3.trans k2.1 p3
  rw [Tm.occs_take hu, vads_app]
  rcases hcc with rfl | ⟨rfl, hr⟩
  ·exact ⟨p1, q1, q2⟩
  ·exact ⟨p1.take (hr (0, s2) (by simp)), q1.take (Nat.le_refl _), q2⟩
 ·rintro ⟨s1, H⟩ ⟨k1, k2, k3⟩
  dsimp only at k1 k2 k3
  have hc : ¬ (t.args.length : Int) < (t.args.length : Int) := by omega
  have b1 := k2.2 n0 _ h1 nb1
  rw [List.take_length] at k1
  simp -dsimp -implicitDefEqProofs only [g113, c113r0, c113r1, c113r2, c113k3, c113r4, c113r5, c113k6, c113r7, c113k8, c113r9, c113b10, c113k11, c113r12, c113, go_sem, seval, ↓reduceIte, part_args, Tm.pvs_len, hc, b1]
  exact hQ s1 H _ k1 k2 k3
theorem rvars_ok : ∀ (t : Tm) (s : AV) (hp : Heap) (l : List Int), IsV s hp l → t.fits = true → l.length + t.size < 100000000 → ∃ s' hp', S 113 [s, t.av] hp = some (.ret s', hp') ∧ IsV s' hp' (vads l t.occ) ∧ PresV s hp hp' ∧ OwnV s hp s' := by
 intro t
 induction t using Tm.induct with
 | h t ih =>
  intro s hp l hB hf ht
  have hts := t.size_eq
  have hn0 : ∀ H : Heap, wNilsl none H = some (.sl none H.length 0 0 0, H ++ [.arr none [] false]) := fun H => w_nilsl (sh := none) (by decide)
  have hB1 := hB.more [.box (some 4) (.pv (some 4) t.pv), .arr none [] false]
  obtain ⟨y, hpos, hy⟩ := position_v hB1 t.n (by omega)
  refine sem_heap_ex (fun v hp' => IsV v hp' (vads l t.occ) ∧ PresV s hp hp' ∧ OwnV s hp v) rfl rfl rfl rfl ?_
  have hbox : (hp ++ ([.box (some 4) (.pv (some 4) t.pv), .arr none [] false] : Heap))[hp.length]? = some (.box (some 4) (.pv (some 4) t.pv)) := by rw [get_pre0]; rfl
  rw [Tm.occ_eq]
  by_cases hk : t.kind = 0
  ·rw [if_pos hk]
   have ha : t.args = [] := by rw [node_var hf hk]; rfl
   by_cases hm : t.n ∈ l
   ·have e : vads l [t.n] = l := by simp [vads, vadd, hm]
    have hy' : ¬ y < 0 := fun h => hy.1 h hm
    rw [e]
    simp -dsimp -implicitDefEqProofs only [g113, c113r0, c113r1, c113r2, c113k3, c113r4, c113r5, c113k6, c113r7, c113k8, c113r9, c113r12, c113, go_sem, seval, ↓reduceIte, Tm.av, part_kind, part_n, part_args, hk, hn0, hpos, hy', List.append_assoc, List.cons_append, List.nil_append, get_pre, get_pre0, set_pre, set_pre0, Nat.add_assoc, List.length_append, List.length_cons, List.length_nil, Nat.zero_add]
    refine vars_loop t ih s _ hp.length hp.length l hB1 hbox hf (by omega) _ fun s1 H r k1 k2 k3 => ?_
    rw [ha] at k1
    simp -dsimp -implicitDefEqProofs only [g113, c113r0, c113r1, c113r2, c113k3, c113r4, c113r5, c113k6, c113r7, c113k8, c113r9, c113r12, c113, go_sem, seval, ↓reduceIte]
    exact vars_fin k1 k2 k3
   ·have e : vads l [t.n] = l ++ [t.n] := by simp [vads, vadd, hm]
    have hy' : y < 0 := hy.2 hm
    rw [e]
    obtain ⟨s1, H1, happ, k1, k2, k3⟩ := isV_app hB1 t.n (by omega)
    have b1 := k2.2 hp.length _ hbox (hB1.not_box hbox)
    simp -dsimp -implicitDefEqProofs only [g113, c113r0, c113r1, c113r2, c113k3, c113r4, c113r5, c113k6, c113r7, c113k8, c113r9, c113r12, c113, go_sem, seval, ↓reduceIte, Tm.av, part_kind, part_n, part_args, hk, hn0, hpos, hy', happ, List.append_assoc, List.cons_append, List.nil_append, get_pre, get_pre0, set_pre, set_pre0, Nat.add_assoc, List.length_append, List.length_cons, List.length_nil, Nat.zero_add]
    refine vars_loop t ih s1 _ hp.length hp.length _ k1 b1 hf (by rw [List.length_append, List.length_singleton]; omega) _ fun s2 H r j1 j2 j3 => ?_
    rw [ha] at j1
    simp -dsimp -implicitDefEqProofs only [g113, c113r0, c113r1, c113r2, c113k3, c113r4, c113r5, c113k6, c113r7, c113k8, c113r9, c113r12, c113, go_sem, seval, ↓reduceIte]
    exact vars_fin j1 (k2.trans k3 j2) (k3.trans k2.1 j3)
  ·rw [if_neg hk]
   simp -dsimp -implicitDefEqProofs only [g113, c113r0, c113r1, c113r2, c113k3, c113r4, c113r5, c113k6, c113r7, c113k8, c113r9, c113r12, c113, go_sem, seval, ↓reduceIte, Tm.av, part_kind, part_n, part_args, hk, hn0, List.append_assoc, List.cons_append, List.nil_append, get_pre, get_pre0, set_pre, set_pre0, Nat.add_assoc, List.length_append, List.length_cons, List.length_nil, Nat.zero_add]
   refine vars_loop t ih s _ hp.length hp.length l hB1 hbox hf (by omega) _ fun s1 H r k1 k2 k3 => ?_
   simp -dsimp -implicitDefEqProofs only [g113, c113r0, c113r1, c113r2, c113k3, c113r4, c113r5, c113k6, c113r7, c113k8, c113r9, c113r12, c113, go_sem, seval, ↓reduceIte]
   exact vars_fin k1 k2 k3
theorem isV_frozen {s : AV} {H : Heap} {l : List Int} (h : IsV s H l) : Am.frozen (.pv none (.sl none (ints l))) s H := by
 rcases h with ⟨rfl, rfl⟩ | ⟨r, rfl, h⟩
 ·exact ⟨H, rfl⟩
 ·exact ⟨H.set r (.arr none (ints l) true), by simp [AV.freezeRes, AV.freeze, deep, h, ints_len, AV.shp]⟩
theorem rVars_h (t : Tm) (hv : t.valid = true) (hp : Heap) : ∃ s' hp', S 73 [t.av] hp = some (.ret s', hp') ∧ IsV s' hp' (vads [] t.occ) ∧ PresV (.tsl none []) hp hp' ∧ OwnV (.tsl none []) hp s' := by
 refine sem_heap_ex (fun v hp' => IsV v hp' (vads [] t.occ) ∧ PresV (.tsl none []) hp hp' ∧ OwnV (.tsl none []) hp v) rfl rfl rfl rfl ?_
 have hsz := valid_size hv
 have h1 := fun hp => rvalid_ok t hp (by omega)
 simp only [Tm.av] at h1
 have hn0 : ∀ H : Heap, wNilsl none H = some (.sl none H.length 0 0 0, H ++ [.arr none [] false]) := fun H => w_nilsl (sh := none) (by decide)
 obtain ⟨s', H', hm, hB, hP, hW⟩ := rvars_ok t (.tsl none []) (hp ++ [.box (some 4) (.pv (some 4) t.pv), .arr none [] false]) [] (.inl ⟨rfl, rfl⟩) (valid_fits hv) (by simp; omega)
 simp only [Tm.av] at hm
 simp -dsimp -implicitDefEqProofs only [g73, c73r0, c73r1, c73r2, c73k3, c73r4, c73, go_sem, seval, ↓reduceIte, Tm.av, h1, hv, hn0, hm, List.append_assoc, List.cons_append, List.nil_append, get_pre, get_pre0, set_pre, set_pre0, Nat.add_assoc, List.length_append, List.length_cons, List.length_nil, Nat.zero_add]
 exact vars_fin hB hP hW
theorem node_n {t : Tm} (h : t.fits = true) (hk : t.kind = 0) : 0 ≤ t.n ∧ t.n ≤ 1099511627776 := by
 rw [Tm.fits_eq] at h
 have h1 : t.node = true := by simp at h; exact h.1
 cases t with
 | mk k n s ts =>
  simp only [Tm.kind] at hk
  subst hk
  simp [Tm.node, Tm.kind, Tm.n, Tm.name, Tm.args] at h1
  obtain ⟨⟨⟨h2, h3⟩, _⟩, _⟩ := h1
  exact ⟨of_decide_eq_true h2, of_decide_eq_true h3⟩
theorem occ_rng : ∀ {t : Tm}, t.fits = true → ∀ w ∈ t.occ, 0 ≤ w ∧ w ≤ 1099511627776 := by
 intro t
 induction t using Tm.induct with
 | h t ih =>
  intro hf w hw
  rw [Tm.occ_eq] at hw
  by_cases hk : t.kind = 0
  ·rw [if_pos hk, List.mem_singleton] at hw
   rw [hw]
   exact node_n hf hk
  ·rw [if_neg hk] at hw
   obtain ⟨u, hu, h⟩ := Tm.occs_inv hw
   exact ih u hu (Tm.fits_arg hf hu) w h
end Go.Proofs.YtffecaafklpmhaaGreat
