/- What is proved: the program's occurs. -/
import Derived.Test.YtenkiofpobeilaaRv
set_option linter.unusedSimpArgs false
set_option linter.unusedVariables false
namespace Go.Proofs.Ytenkiofpobeilaa
open Go.Am
def inR (l : List B) (v : Int) (t : Tm) : Prop := v ∈ (rs l t).occ
theorem inR_free {l : List B} (h : Acyc l) {v : Int} {t : Tm} (hv : t.fits = true) (hk : t.kind = 0) (hf : ¬ fndB l t.n = true) : inR l v t ↔ v = t.n := by
 unfold inR
 rw [rs_free h hv hk hf, Tm.occ_eq, if_pos hk]
 simp
theorem inR_to {l : List B} (h : Acyc l) {v : Int} {t : Tm} (hk : t.kind = 0) (hf : fndB l t.n = true) : inR l v t ↔ inR l v (toB l t.n) := by
 unfold inR
 rw [rs_var h hk, if_pos hf]
theorem inR_str {l : List B} {v : Int} {t : Tm} (hk : ¬ t.kind = 0) : inR l v t ↔ ∃ u ∈ t.args, inR l v u := by
 unfold inR
 rw [rs_str l hk, Tm.occ_eq, if_neg (by exact hk)]
 constructor
 ·intro h
  obtain ⟨u, hu, h⟩ := Tm.occs_inv h
  obtain ⟨x, hx, rfl⟩ := List.mem_map.1 hu
  exact ⟨x, hx, h⟩
 ·rintro ⟨u, hu, h⟩
  exact Tm.occs_mem (List.mem_map.2 ⟨u, hu, rfl⟩) h
def SeenPre (l : List B) (v : Int) (sn : Int → Prop) (t : Tm) : Prop := ∀ w, sn w → fndB l w = true ∧ (¬ inR l v (tvar w) ∨ mu l t < mu l (tvar w))
structure SeenPost (l : List B) (v : Int) (sn sn' : Int → Prop) (t : Tm) (b : Bool) : Prop where
 yes : b = true → inR l v t
 no : b = false → ¬ inR l v t ∧ ∀ w, sn' w → sn w ∨ (fndB l w = true ∧ ¬ inR l v (tvar w))
theorem SeenPre.arg {l : List B} {v : Int} {sn : Int → Prop} {t u : Tm} (h : SeenPre l v sn t) (hm : mu l u < mu l t) : SeenPre l v sn u := fun w hw => by
 obtain ⟨h1, h2 | h2⟩ := h w hw
 ·exact ⟨h1, .inl h2⟩
 ·exact ⟨h1, .inr (by omega)⟩
theorem mu_tv {l : List B} {t : Tm} (hv : t.fits = true) (hk : t.kind = 0) : mu l (tvar t.n) = mu l t := by rw [← node_var hv hk]
theorem SeenPre.old {l : List B} {v : Int} {sn : Int → Prop} {t : Tm} (h : SeenPre l v sn t) (hv : t.fits = true) (hk : t.kind = 0) (hs : sn t.n) : ¬ inR l v t := by
 obtain ⟨_, h2 | h2⟩ := h t.n hs
 ·rw [← node_var hv hk] at h2; exact h2
 ·rw [mu_tv hv hk] at h2; exact absurd h2 (Nat.lt_irrefl _)
theorem SeenPre.new {l : List B} {v : Int} {sn : Int → Prop} {t : Tm} (h : SeenPre l v sn t) (ha : Acyc l) (hv : t.fits = true) (hk : t.kind = 0) (hf : fndB l t.n = true) : SeenPre l v (fun w => w = t.n ∨ sn w) (toB l t.n) := fun w hw => by
 have hlt := mu_to ha hk hf
 rcases hw with rfl | hw
 ·exact ⟨hf, .inr (by rw [mu_tv hv hk]; exact hlt)⟩
 ·exact h.arg hlt w hw
theorem SeenPost.new {l : List B} {v : Int} {sn sn' : Int → Prop} {t : Tm} {b : Bool} (h : SeenPost l v (fun w => w = t.n ∨ sn w) sn' (toB l t.n) b) (ha : Acyc l) (hv : t.fits = true) (hk : t.kind = 0) (hf : fndB l t.n = true) : SeenPost l v sn sn' t b :=
 ⟨fun hb => (inR_to ha hk hf).2 (h.yes hb), fun hb => by
  obtain ⟨h1, h2⟩ := h.no hb
  refine ⟨fun e => h1 ((inR_to ha hk hf).1 e), fun w hw => ?_⟩
  rcases h2 w hw with (rfl | h3) | h3
  ·exact .inr ⟨hf, fun e => h1 ((inR_to ha hk hf).1 (by rw [node_var hv hk]; exact e))⟩
  ·exact .inl h3
  ·exact .inr h3⟩
def unS (f : Int → Int) : List B → Nat
 | [] => 0
 | b :: r => (if f b.1 = 0 then b.2.size else 0) + unS f r
theorem unS_le {f g : Int → Int} (h : ∀ w, f w ≠ 0 → g w ≠ 0) : ∀ l : List B, unS g l ≤ unS f l
 | [] => Nat.le_refl _
 | b :: r => by
  have ih := unS_le h r
  unfold unS
  by_cases h1 : g b.1 = 0
  ·have h2 : f b.1 = 0 := by
    rcases Int.lt_trichotomy (f b.1) 0 with h3 | h3 | h3
    ·exact absurd h1 (h _ (by omega))
    ·exact h3
    ·exact absurd h1 (h _ (by omega))
   rw [if_pos h1, if_pos h2]; omega
  ·rw [if_neg h1]; omega
theorem unS_lt {f g : Int → Int} (h : ∀ w, f w ≠ 0 → g w ≠ 0) {v : Int} (h0 : f v = 0) (h1 : g v ≠ 0) {t : Tm} : ∀ {l : List B}, (v, t) ∈ l → unS g l + t.size ≤ unS f l
 | [], hm => by cases hm
 | b :: r, hm => by
  have hle := unS_le h r
  rcases List.mem_cons.1 hm with rfl | hm
  ·simp only [unS]
   rw [if_neg h1, if_pos h0]; omega
  ·have ih := unS_lt h h0 h1 hm
   simp only [unS]
   by_cases h2 : g b.1 = 0
   ·have h2 : f b.1 = 0 := by
     rcases Int.lt_trichotomy (f b.1) 0 with h3 | h3 | h3
     ·exact absurd h2 (h _ (by omega))
     ·exact h3
     ·exact absurd h2 (h _ (by omega))
    split <;> omega
   ·rw [if_neg h2]; omega
theorem IsS.setm {s : AV} {hp : Heap} {l : List B} (h : IsS s hp l) {r : Nat} {sh : Sh} {es : List (PV × PV)} (hr : hp[r]? = some (.map sh es)) (X : AObj) : IsS s (hp.set r X) l := by
 rcases h with h | h | ⟨q, h1, h2⟩
 ·exact .inl h
 ·exact .inr (.inl h)
 ·refine .inr (.inr ⟨q, h1, ?_⟩)
  have : r ≠ q := fun e => by rw [e, h2] at hr; cases hr
  rw [List.getElem?_set_ne this]
  exact h2
structure OcR (l : List B) (v : Int) (t : Tm) (f : Int → Int) (m' : List (Int × PV)) (b : Bool) (f' : Int → Int) : Prop where
 map : MapI m' f'
 pos : ∀ w, 0 ≤ f' w
 mono : ∀ w, f w ≠ 0 → f' w ≠ 0
 post : SeenPost l v (fun w => f w ≠ 0) (fun w => f' w ≠ 0) t b
 cost : ∀ w, f' w + (unS f' l : Int) ≤ f w + t.size + unS f l
theorem pocc_ok (l : List B) (hO : OKB l) (hl : l.length < 1000000000) (v : Int) (s : AV) : ∀ (k : Nat) (t : Tm) (hp : Heap) (r : Nat) (m : List (Int × PV)) (f : Int → Int), mu l t = k → t.valid = true → hp[r]? = some (.map none (kEnts m)) → IsS s hp l → MapI m f → (∀ w, 0 ≤ f w) → SeenPre l v (fun w => f w ≠ 0) t → (∀ w, f w + t.size + unS f l ≤ 1000000000000000) →
  ∃ (m' : List (Int × PV)) (b : Bool) (f' : Int → Int), S 49 [s, .pv none (.int .i64 v), t.av, .map r] hp = some (.ret (.pv none (.bool b)), hp.set r (.map none (kEnts m'))) ∧ OcR l v t f m' b f' := by
 intro k
 induction k using Nat.strongRecOn with
 | _ k ih =>
  intro t hp r m f hk hv hr hS hM hpos hpre hbig
  have hlt := get_lt hr
  have htz := valid_size hv
  have hself : hp.set r (.map none (kEnts m)) = hp := by
   obtain ⟨_, h⟩ := List.getElem?_eq_some_iff.1 hr
   rw [← h]; exact List.set_getElem_self _
  have hg0 : ∀ (X : AObj) (e : Heap), (hp.set r X ++ e)[hp.length]? = e[0]? := fun X e => getN0 (by simp)
  have hg1 : ∀ (X : AObj) (e : Heap) (k : Nat), (hp.set r X ++ e)[hp.length + k]? = e[k]? := fun X e k => getN (by simp) k
  have hlen : ∀ (X : AObj), (hp.set r X).length = hp.length := fun X => by simp
  have hs1 : ∀ (X Y : AObj) (e : Heap) (k : Nat), (hp.set r X ++ e).set (hp.length + k) Y = hp.set r X ++ e.set k Y := fun X Y e k => setN (by simp) k Y
  have hrr : ∀ (X : AObj) (e : Heap), (hp.set r X ++ e)[r]? = some X := fun X e => by rw [List.getElem?_append_left (by simpa using hlt), List.getElem?_set_self hlt]
  have hss : ∀ (X Y : AObj) (e : Heap), (hp.set r X ++ e).set r Y = hp.set r Y ++ e := fun X Y e => by rw [List.set_append_left _ _ (by simpa using hlt), List.set_set]
  suffices hP : ∃ v' hp', S 49 [s, .pv none (.int .i64 v), t.av, .map r] hp = some (.ret v', hp') ∧ ∃ (m' : List (Int × PV)) (b : Bool) (f' : Int → Int), v' = .pv none (.bool b) ∧ hp' = hp.set r (.map none (kEnts m')) ∧ OcR l v t f m' b f' by
   obtain ⟨v', hp', h1, m', b, f', rfl, rfl, h2⟩ := hP
   exact ⟨m', b, f', h1, h2⟩
  refine sem_heap_ex _ rfl rfl rfl rfl ?_
  by_cases hk0 : t.kind = 0
  ·have hk' := eq_true hk0
   by_cases hf : fndB l t.n = true
   ·have hb := fun e => bound_yes (hS.more e) hO.good.1 hl t hk0 hf
    obtain ⟨hto, _⟩ := hO.to hf
    have hlt2 := mu_to hO.Acyc hk0 hf
    have hts1 : t.size = 1 := by rw [node_var (valid_fits hv) hk0]; rfl
    have hlk : ∀ e : Heap, rLookup false none (.pv none (.int .i64 0)) false (hp ++ e) [.map r, .pv none (.int .i64 t.n)] = some (.pv none (.int .i64 (f t.n))) := fun e => by
     rw [look_m (m := m) (by rw [List.getElem?_append_left hlt]; exact hr), hM]
    have hms : ∀ (x : Int) (e : Heap), wMapset false none (hp ++ e) [.map r, .pv none (.int .i64 t.n), .pv none (.int .i64 x)] = some (.undef, hp.set r (.map none (kEnts (mPut t.n (.int .i64 x) m))) ++ e) := fun x e => by
     have := w_mapset_pv (str := false) (sh := none) (s := none) (hp := hp.set r (.map none (kEnts m)) ++ e) (r := r) (k := .int .i64 t.n) (p := .int .i64 x) (es := kEnts m) (hrr _ _) (kEnts_put _ _ _)
     rw [hss, hself] at this
     exact this
    have hlk2 : ∀ (x : Int) (e : Heap), rLookup false none (.pv none (.int .i64 0)) false (hp.set r (.map none (kEnts (mPut t.n (.int .i64 x) m))) ++ e) [.map r, .pv none (.int .i64 t.n)] = some (.pv none (.int .i64 x)) := fun x e => by
     rw [look_m (m := mPut t.n (.int .i64 x) m) (hrr _ _), mFind_put, if_pos rfl]
     rfl
    have hb1 := hbig t.n
    have hb2 := hpos t.n
    have w1 : IntKind.i64.wrap (f t.n + 1) = f t.n + 1 := wrap64 (by omega) (by omega)
    have hM1 := hM.put t.n (f t.n + 1)
    have hmono1 : ∀ w, f w ≠ 0 → (fun w => if w = t.n then f t.n + 1 else f w) w ≠ 0 := fun w hw => by
     by_cases e : w = t.n
     ·simp only [if_pos e]; omega
     ·simp only [if_neg e]; exact hw
    have hpos1 : ∀ w, 0 ≤ (fun w => if w = t.n then f t.n + 1 else f w) w := fun w => by
     by_cases e : w = t.n
     ·simp only [if_pos e]; omega
     ·simp only [if_neg e]; exact hpos w
    simp only [Tm.av] at hb
    by_cases h0 : f t.n = 0
    ·rw [h0] at hM1 hmono1 hpos1
     simp only [Int.zero_add] at hM1 hmono1 hpos1
     have hun := unS_lt hmono1 h0 (by simp) (find_mem hf)
     have hbig1 : ∀ w, (fun w => if w = t.n then (1 : Int) else f w) w + (toB l t.n).size + unS (fun w => if w = t.n then (1 : Int) else f w) l ≤ 1000000000000000 := fun w => by
      have h3 := hbig w
      have h4 := hpos w
      by_cases e : w = t.n
      ·simp only [if_pos e]; omega
      ·simp only [if_neg e]; omega
     have hpre1 : SeenPre l v (fun w => (fun w => if w = t.n then (1 : Int) else f w) w ≠ 0) (toB l t.n) := fun w hw => by
      refine hpre.new hO.Acyc (valid_fits hv) hk0 hf w ?_
      by_cases e : w = t.n
      ·exact .inl e
      ·simp only [if_neg e] at hw; exact .inr hw
     obtain ⟨m2, bb, f2, hcall, hR⟩ := ih _ (by omega) (toB l t.n) (hp.set r (.map none (kEnts (mPut t.n (.int .i64 1) m))) ++ [.box (some 4) (.pv (some 4) t.pv), .box (some 4) (.pv (some 4) (toB l t.n).pv), .arr (some 4) [] false]) r _ _ rfl hto (hrr _ _) ((hS.setm hr _).more _) hM1 hpos1 hpre1 hbig1
     rw [hss] at hcall
     simp only [Tm.av] at hcall
     rw [h0] at w1
     simp only [Int.zero_add] at w1
     simp -dsimp -implicitDefEqProofs only [g49, c49r0, c49r1, c49r2, c49r3, c49r4, c49k5, c49r6, c49r7, c49k8, c49r9, c49r10, c49k11, c49r12, c49r13, c49r14, c49k15, c49k16, c49r17, c49k19, c49r20, c49, go_sem, seval, ↓reduceIte, Tm.av, part_kind, part_n, hk', hb, hlk, h0, w1, hms, hlk2, hcall, hg0, hg1, Int.zero_add, w_alloc_agg, w_store_agg (Nat.le_add_right _ _), List.append_assoc, List.cons_append, List.nil_append, get_pre, get_pre0, set_pre, set_pre0, Nat.add_assoc, List.length_append, List.length_cons, List.length_nil, Nat.zero_add]
     refine ⟨m2, bb, f2, rfl, ?_, hR.map, hR.pos, fun w hw => hR.mono w (hmono1 w hw), ?_, fun w => ?_⟩
     ·rw [if_pos (by simp [AV.refsIn])]
      exact List.take_left' (by simp)
     ·have hq : SeenPost l v (fun w => w = t.n ∨ f w ≠ 0) (fun w => f2 w ≠ 0) (toB l t.n) bb := ⟨hR.post.yes, fun hb => ⟨(hR.post.no hb).1, fun w hw => ((hR.post.no hb).2 w hw).imp (fun h => by
       by_cases e : w = t.n
       ·exact .inl e
       ·simp only [if_neg e] at h; exact .inr h) id⟩⟩
      exact hq.new hO.Acyc (valid_fits hv) hk0 hf
     ·have h3 := hR.cost w
      have h4 := hpos w
      by_cases e : w = t.n
      ·simp only [if_pos e] at h3; omega
      ·simp only [if_neg e] at h3; omega
    ·have h1 : ¬ f t.n + 1 = 1 := by omega
     simp -dsimp -implicitDefEqProofs only [g49, c49r0, c49r1, c49r2, c49r3, c49r4, c49k5, c49r6, c49r7, c49k8, c49r9, c49r10, c49k11, c49r12, c49r13, c49r14, c49k15, c49k16, c49r17, c49k19, c49r20, c49, go_sem, seval, ↓reduceIte, Tm.av, part_kind, part_n, hk', hb, hlk, h1, w1, hms, hlk2, hg0, hg1, w_alloc_agg, w_store_agg (Nat.le_add_right _ _), List.append_assoc, List.cons_append, List.nil_append, get_pre, get_pre0, set_pre, set_pre0, Nat.add_assoc, List.length_append, List.length_cons, List.length_nil, Nat.zero_add]
     refine ⟨_, false, _, rfl, ?_, hM1, hpos1, hmono1, ⟨(fun e => by cases e), fun _ => ⟨hpre.old (valid_fits hv) hk0 h0, fun w hw => ?_⟩⟩, fun w => ?_⟩
     ·rw [if_pos (by simp [AV.refsIn])]
      exact List.take_left' (by simp)
     ·by_cases e : w = t.n
      ·rw [e]; exact .inl h0
      ·simp only [if_neg e] at hw; exact .inl hw
     ·have h3 := unS_le hmono1 l
      by_cases e : w = t.n
      ·simp only [if_pos e]; rw [e]; omega
      ·simp only [if_neg e]; omega
   ·have hb := fun e => bound_no (hS.more e) hO.good.1 hl t fun h => hf h.2
    simp only [Tm.av] at hb
    simp -dsimp -implicitDefEqProofs only [g49, c49r0, c49r1, c49r2, c49r3, c49r4, c49k5, c49r6, c49r7, c49k8, c49r9, c49r10, c49k11, c49r12, c49r13, c49r14, c49k15, c49k16, c49r17, c49k19, c49r20, c49, go_sem, seval, ↓reduceIte, Tm.av, part_kind, part_n, hk', hb, bndX, zagg, own_cons_sl, w_alloc_agg, w_store_agg (Nat.le_add_right _ _), List.append_assoc, List.cons_append, List.nil_append, get_pre, get_pre0, set_pre, set_pre0, Nat.add_assoc, List.length_append, List.length_cons, List.length_nil, Nat.zero_add]
    refine ⟨m, decide (t.n = v), f, rfl, ?_, hM, hpos, fun _ h => h, ⟨fun h => ?_, fun h => ⟨fun e => ?_, fun w hw => .inl hw⟩⟩, fun w => by omega⟩
    ·rw [if_pos (by simp [AV.refsIn]), hself]
     exact List.take_left
    ·exact (inR_free hO.Acyc (valid_fits hv) hk0 hf).2 (of_decide_eq_true h).symm
    ·exact of_decide_eq_false h ((inR_free hO.Acyc (valid_fits hv) hk0 hf).1 e).symm
  ·have hk' := eq_false hk0
   simp -dsimp -implicitDefEqProofs only [g49, c49r0, c49r1, c49r2, c49r3, c49r4, c49k5, c49r6, c49r7, c49k8, c49r9, c49r10, c49k11, c49r12, c49r13, c49r14, c49k15, c49k16, c49r17, c49k19, c49r20, c49, go_sem, seval, ↓reduceIte, Tm.av, part_kind, part_args, Tm.pvs_len, hk', List.append_assoc, List.cons_append, List.nil_append, get_pre, get_pre0, set_pre, set_pre0, Nat.add_assoc, List.length_append, List.length_cons, List.length_nil, Nat.zero_add]
   refine W_for (α := List (Int × PV)) t.args.length (fun i m2 => ∃ f2 : Int → Int, MapI m2 f2 ∧ (∀ w, 0 ≤ f2 w) ∧ (∀ w, f w ≠ 0 → f2 w ≠ 0) ∧ (∀ j, j < i → ∀ u, t.args[j]? = some u → ¬ inR l v u) ∧ (∀ w, f2 w ≠ 0 → f w ≠ 0 ∨ (fndB l w = true ∧ ¬ inR l v (tvar w))) ∧ ∀ w, f2 w + (unS f2 l : Int) ≤ f w + Tm.sizes (t.args.take i) + unS f l)
    (fun i m2 => ⟨[(0, s), (1, .pv none (.int .i64 v)), (3, .map r), (46, .pv none (.sl (some 4) (Tm.pvs t.args))), (47, .pv none (.int .i64 t.args.length)), (48, .pv none (.int .i64 i))], hp.set r (.map none (kEnts m2)) ++ [.box (some 4) (.pv (some 4) t.pv)]⟩) m ⟨⟨f, hM, hpos, fun _ h => h, fun j hj => by omega, fun w hw => .inl hw, fun w => by simp [Tm.sizes]⟩, ?_⟩ ?_ ?_
   ·rw [hself]
    rfl
   ·rintro i m2 h ⟨f2, q1, q2, q3, q4, q5, q6⟩
    have hc : (i : Int) < (t.args.length : Int) := by omega
    obtain ⟨u, hu⟩ : ∃ u, t.args[i]? = some u := ⟨_, List.getElem?_eq_getElem h⟩
    have hum := List.mem_of_getElem? hu
    have hmu := mu_arg l hk0 hum
    have hst := Tm.sizes_take hu
    have hle := Tm.sizes_take_le t.args (i + 1)
    have hts := t.size_eq
    have hlen2 := Tm.sizes_len t.args
    have hpre2 : SeenPre l v (fun w => f2 w ≠ 0) u := fun w hw => by
     rcases q5 w hw with h | ⟨h1, h2⟩
     ·exact hpre.arg hmu w h
     ·exact ⟨h1, .inl h2⟩
    obtain ⟨m3, bb, f3, hcall, hR⟩ := ih _ (by omega) u (hp.set r (.map none (kEnts m2)) ++ [.box (some 4) (.pv (some 4) t.pv), .box (some 4) (.pv (some 4) u.pv), .arr (some 4) [] false]) r m2 f2 rfl (valid_arg hv hum) (hrr _ _) ((hS.setm hr _).more _) q1 q2 hpre2 (fun w => by have := q6 w; have := hbig w; omega)
    rw [hss] at hcall
    simp only [Tm.av] at hcall
    have w2 : IntKind.i64.wrap ((i : Int) + 1) = ((i + 1 : Nat) : Int) := by rw [wrap64 (by omega) (by omega)]; omega
    cases bb with
    | true =>
     simp -dsimp -implicitDefEqProofs only [g49, c49r0, c49r1, c49r2, c49r3, c49r4, c49k5, c49r6, c49r7, c49k8, c49r9, c49r10, c49k11, c49r12, c49r13, c49r14, c49k15, c49k16, c49r17, c49b18, c49k19, c49r20, c49, go_sem, seval, ↓reduceIte, hc, s_iaddr_pv (Tm.pvs_get hu), hcall, hlen, hg0, hg1, hs1, w_alloc_agg, List.append_assoc, List.cons_append, List.nil_append, get_pre, get_pre0, set_pre, set_pre0, Nat.add_assoc, List.length_append, List.length_cons, List.length_nil, Nat.zero_add]
     refine ⟨m3, true, f3, rfl, ?_, hR.map, hR.pos, fun w hw => hR.mono w (q3 w hw), ⟨fun _ => (inR_str hk0).2 ⟨u, hum, hR.post.yes rfl⟩, fun e => by cases e⟩, fun w => ?_⟩
     ·rw [if_pos (by simp [AV.refsIn])]
      exact List.take_left' (by simp)
     ·have := hR.cost w; have := q6 w; omega
    | false =>
     obtain ⟨n1, n2⟩ := hR.post.no rfl
     simp -dsimp -implicitDefEqProofs only [g49, c49r0, c49r1, c49r2, c49r3, c49r4, c49k5, c49r6, c49r7, c49k8, c49r9, c49r10, c49k11, c49r12, c49r13, c49r14, c49k15, c49k16, c49r17, c49b18, c49k19, c49r20, c49, go_sem, seval, ↓reduceIte, hc, s_iaddr_pv (Tm.pvs_get hu), hcall, w2, hlen, hg0, hg1, hs1, w_alloc_agg, List.append_assoc, List.cons_append, List.nil_append, get_pre, get_pre0, set_pre, set_pre0, Nat.add_assoc, List.length_append, List.length_cons, List.length_nil, Nat.zero_add]
     refine ⟨m3, ⟨f3, hR.map, hR.pos, fun w hw => hR.mono w (q3 w hw), fun j hj x hx => ?_, fun w hw => ?_, fun w => ?_⟩, ?_⟩
     ·rcases Nat.lt_or_ge j i with h | h
      ·exact q4 j h x hx
      ·have : j = i := by omega
       subst this
       rw [hu] at hx
       cases hx
       exact n1
     ·rcases n2 w hw with h | h
      ·exact q5 w h
      ·exact .inr h
     ·have := hR.cost w; have := q6 w; omega
     ·rw [collect_pre 1 (by simp) rfl (by simp [AObj.refs, AV.refsIn]) (by simp [AV.refsIn, AV.refsIn.gol, hS.low]; omega)]
      rfl
   ·rintro m2 ⟨f2, q1, q2, q3, q4, q5, q6⟩
    have hc : ¬ (t.args.length : Int) < (t.args.length : Int) := by omega
    have hts := t.size_eq
    simp -dsimp -implicitDefEqProofs only [g49, c49r0, c49r1, c49r2, c49r3, c49r4, c49k5, c49r6, c49r7, c49k8, c49r9, c49r10, c49k11, c49r12, c49r13, c49r14, c49k15, c49k16, c49r17, c49b18, c49k19, c49r20, c49, go_sem, seval, ↓reduceIte, hc]
    refine ⟨m2, false, f2, rfl, ?_, q1, q2, q3, ⟨(fun e => by cases e), fun _ => ⟨fun e => ?_, q5⟩⟩, fun w => ?_⟩
    ·rw [if_pos (by simp [AV.refsIn])]
     exact List.take_left' (by simp)
    ·obtain ⟨u, hu, h⟩ := (inR_str hk0).1 e
     obtain ⟨j, hj, rfl⟩ := List.getElem_of_mem hu
     exact q4 j hj _ (List.getElem?_eq_getElem hj) h
    ·have := q6 w
     rw [List.take_length] at this
     omega
end Go.Proofs.Ytenkiofpobeilaa
