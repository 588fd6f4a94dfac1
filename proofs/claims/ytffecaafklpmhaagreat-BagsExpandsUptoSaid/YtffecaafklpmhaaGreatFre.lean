/- What is proved: the reference's free variables. -/
import Derived.Test.YtffecaafklpmhaaGreatLst
set_option linter.unusedSimpArgs false
set_option linter.unusedVariables false
namespace Go.Proofs.YtffecaafklpmhaaGreat
open Go.Am
theorem among_ok (l : List Int) (x : Int) (hl : l.length < 1000000000) (hp : Heap) : S 110 [.pv none (.sl none (ints l)), .pv none (.int .i64 x)] hp = some (.ret (.pv none (.bool (decide (x ∈ l)))), hp) := by
 refine sem_pure rfl rfl rfl (freezeAll_pvs [(none, .sl none (ints l)), (none, .int .i64 x)]) rfl ?_
 simp -dsimp -implicitDefEqProofs only [g110, c110r0, c110r1, c110r2, c110k3, c110r4, c110r5, c110k6, c110k7, c110r8, c110b9, c110k10, c110r11, c110, go_sem, seval, ↓reduceIte, ints_len]
 refine W_for (α := Unit) l.length (fun i _ => ∀ j, j < i → l[j]? ≠ some x) (fun i _ => ⟨[(0, .pv none (.sl none (ints l))), (1, .pv none (.int .i64 x)), (5, .pv none (.int .i64 i))], []⟩) () ⟨fun j hj => by omega, rfl⟩ ?_ ?_
 ·rintro i - h hinv
  have hc : (i : Int) < (l.length : Int) := by omega
  obtain ⟨b, hb⟩ : ∃ b, l[i]? = some b := ⟨_, List.getElem?_eq_getElem h⟩
  have w2 : IntKind.i64.wrap ((i : Int) + 1) = ((i + 1 : Nat) : Int) := by rw [wrap64 (by omega) (by omega)]; omega
  by_cases hbx : b = x
  ·have e : decide (x ∈ l) = true := by simp [← hbx, List.mem_of_getElem? hb]
   rw [e]
   have hbx' := eq_true hbx
   simp -dsimp -implicitDefEqProofs only [g110, c110r0, c110r1, c110r2, c110k3, c110r4, c110r5, c110k6, c110k7, c110r8, c110b9, c110k10, c110r11, c110, go_sem, seval, ↓reduceIte, ints_len, hc, s_iaddr_pv (ints_get hb), hbx']
   try rfl
  ·simp -dsimp -implicitDefEqProofs only [g110, c110r0, c110r1, c110r2, c110k3, c110r4, c110r5, c110k6, c110k7, c110r8, c110b9, c110k10, c110r11, c110, go_sem, seval, ↓reduceIte, ints_len, hc, s_iaddr_pv (ints_get hb), hbx, w2]
   refine ⟨(), fun j hj => ?_⟩
   rcases Nat.lt_or_ge j i with h | h
   ·exact hinv j h
   ·have : j = i := by omega
    subst this
    rw [hb]
    intro e
    cases e
    exact hbx rfl
 ·rintro - hinv
  have hc : ¬ (l.length : Int) < (l.length : Int) := by omega
  have e : decide (x ∈ l) = false := by
   rw [decide_eq_false_iff_not]
   intro hm
   obtain ⟨j, hlt, hj⟩ := List.getElem_of_mem hm
   exact hinv j hlt (by rw [List.getElem?_eq_getElem hlt, hj])
  rw [e]
  simp -dsimp -implicitDefEqProofs only [g110, c110r0, c110r1, c110r2, c110k3, c110r4, c110r5, c110k6, c110k7, c110r8, c110b9, c110k10, c110r11, c110, go_sem, seval, ↓reduceIte, ints_len, hc]
  try rfl
theorem among_v {s : AV} {hp : Heap} {l : List Int} (h : IsV s hp l) (x : Int) (hl : l.length < 1000000000) : S 110 [s, .pv none (.int .i64 x)] hp = some (.ret (.pv none (.bool (decide (x ∈ l)))), hp) := by
 obtain ⟨hp1, z1, z2, _⟩ := h.freeze
 have := sem_any (F := find tab) (prim := prim) (f := 110) (args := [s, .pv none (.int .i64 x)]) (ps := [(none, .sl none (ints l)), (none, .int .i64 x)]) (hp := hp) (hp1 := hp1) rfl rfl rfl (by
  have e : ∀ H : Heap, AV.freeze deep (.pv none (.int .i64 x)) H = some (.int .i64 x, H) := fun _ => rfl
  simp only [freezeAll, z1, e, z2]; rfl) (among_ok l x hl [])
 exact this
theorem IsV.elems {s : AV} {hp : Heap} {l : List Int} (h : IsV s hp l) : Am.elems hp s = some (none, ints l) := by
 rcases h with ⟨rfl, rfl⟩ | ⟨r, rfl, h⟩
 ·rfl
 ·simp [Am.elems, h, ints_len]
theorem isV_appl {s x : AV} {hp : Heap} {l m : List Int} (h : IsV s hp l) (hx : Am.elems hp x = some (none, ints m)) (hl : l.length + m.length < 1000000000) : ∃ s' H', wAppend none hp [s, x] = some (s', H') ∧ IsV s' H' (l ++ m) ∧ PresV s hp H' ∧ OwnV s hp s' := by
 have hlim : l.length + m.length ≤ lim := by unfold lim; omega
 rcases h with ⟨rfl, rfl⟩ | ⟨r, rfl, h⟩
 ·cases m with
  | nil => exact ⟨.tsl none [], hp, by simp [wAppend, aappend, hx, ints], .inl ⟨rfl, rfl⟩, PresV.refl _ _, OwnV.refl _ _⟩
  | cons y m =>
   refine ⟨.sl none hp.length (m.length + 1) 0 (m.length + 1), hp ++ [.arr none (ints (y :: m)) false], ?_, .inr ⟨hp.length, by simp, ?_⟩, ⟨by simp, fun i x hx _ => by rw [List.getElem?_append_left (get_lt hx)]; exact hx⟩, fun r v o n e => by cases e; exact .inr (Nat.le_refl _)⟩
   ·simp only [List.length_nil, List.length_cons, Nat.zero_add] at hlim
    simp [wAppend, aappend, hx, ints, hlim]
   ·rw [List.getElem?_append_right (Nat.le_refl _), Nat.sub_self]
    rfl
 ·have hlt := get_lt h
  refine ⟨.sl none r (l.length + m.length) 0 (l.length + m.length), hp.set r (.arr none (ints (l ++ m)) false), ?_, .inr ⟨r, by simp, by rw [List.getElem?_set_self hlt]⟩, ⟨by simp, fun i x hx hne => ?_⟩, fun r v o n e => by cases e; exact .inl ⟨_, _, _, rfl⟩⟩
  ·simp [wAppend, aappend, hx, h, ints_len, hlim]
   simp [ints]
  ·have : i ≠ r := fun e => hne _ _ _ (by rw [e])
   rw [List.getElem?_set_ne (Ne.symm this)]
   exact hx
def flatQ (g : Tm) : List Int := (quants g).flatMap fun q => vads [] q.occ
def hl (p g : Tm) : List Int := vads [] p.occ ++ flatQ g
theorem flatQ_q {g : Tm} (h : qd g) : flatQ g = vads [] (arg0 g).occ ++ flatQ (arg1 g) := by unfold flatQ; rw [quants_q h]; rfl
theorem flatQ_n {g : Tm} (h : ¬ qd g) : flatQ g = [] := by unfold flatQ; rw [quants_n h]; rfl
theorem flatQ_len : ∀ (n : Nat) (g : Tm), g.size = n → (flatQ g).length ≤ g.size := by
 intro n
 induction n using Nat.strongRecOn with
 | _ n ih =>
  intro g hn
  by_cases h : qd g
  ·rw [flatQ_q h, List.length_append]
   have h1 := vads_len (arg0 g).occ []
   have h2 := (arg0 g).occ_len
   have h3 := Tm.arg_lt (mem_arg1 h.2.2)
   have h4 := ih _ (by omega) (arg1 g) rfl
   have h5 : g.size = 1 + ((arg0 g).size + ((arg1 g).size + 0)) := by rw [g.size_eq, args_two h.2.2]; rfl
   rw [List.length_nil, Nat.zero_add] at h1
   omega
  ·rw [flatQ_n h]; exact Nat.zero_le _
theorem hl_len (p g : Tm) : (hl p g).length ≤ p.size + g.size := by
 have h1 := vads_len p.occ []
 have h2 := p.occ_len
 have h3 := flatQ_len _ g rfl
 unfold hl
 rw [List.length_append]
 rw [List.length_nil, Nat.zero_add] at h1
 omega
theorem IsV.keep {s : AV} {hp hp' : Heap} {l : List Int} (h : IsV s hp l) (hP : PresV (.tsl none []) hp hp') : IsV s hp' l := by
 rcases h with h | ⟨r, h1, h2⟩
 ·exact .inl h
 ·exact .inr ⟨r, h1, hP.2 r _ h2 (fun v o n e => by cases e)⟩
theorem IsV.len {s : AV} {hp : Heap} {l : List Int} (h : IsV s hp l) : sLen [s] = some (.pv none (.int .i64 l.length)) := by
 rcases h with ⟨rfl, rfl⟩ | ⟨r, rfl, _⟩ <;> rfl
theorem IsV.get {s : AV} {hp : Heap} {l : List Int} (h : IsV s hp l) {i : Nat} {x : Int} (hx : l[i]? = some x) : ∃ a, sIaddr none [s, .pv none (.int .i64 i)] = some a ∧ aload none hp a = some (.pv none (.int .i64 x)) := by
 rcases h with ⟨rfl, rfl⟩ | ⟨r, rfl, h⟩
 ·simp at hx
 ·have hlt := (List.getElem?_eq_some_iff.1 hx).1
  refine ⟨_, s_iaddr_sl hlt, ?_⟩
  simp [aload, h, ints_len, ints_get hx, toAV]
theorem IsV.other {s : AV} {hp : Heap} {l : List Int} (h : IsV s hp l) {r : Nat} {es es' : List PV} {z z' : Bool} (hr : hp[r]? = some (.arr (some 4) es z)) : IsV s (hp.set r (.arr (some 4) es' z')) l := by
 rcases h with h | ⟨q, h1, h2⟩
 ·exact .inl h
 ·refine .inr ⟨q, h1, ?_⟩
  have : r ≠ q := fun e => by rw [e, h2] at hr; cases hr
  rw [List.getElem?_set_ne this]
  exact h2
theorem free_loop (s5 s8 : AV) (H : Heap) (r : Nat) (h a : List Int) (h5 : IsV s5 H h) (h8 : IsV s8 H a) (hr : H[r]? = some (.arr (some 4) [] false)) (hh : h.length < 1000000000) (ha : a.length < 1000000000) (Q : AExit → St → Prop)
  (hQ : ∀ fr : Fr, Q .normal ⟨(5, s5) :: (7, .sl (some 4) r (a.filter (fun v => decide (v ∉ h))).length 0 (a.filter (fun v => decide (v ∉ h))).length) :: fr, H.set r (.arr (some 4) (Tm.pvs (tvs (a.filter (fun v => decide (v ∉ h))))) false)⟩) :
  W Z L 0 c66k23 ⟨[(5, s5), (7, .sl (some 4) r 0 0 0), (8, s8), (9, .pv none (.int .i64 0))], H⟩ Q := by
 have hlt := get_lt hr
 have hself : H.set r (.arr (some 4) [] false) = H := by
  obtain ⟨_, e⟩ := List.getElem?_eq_some_iff.1 hr
  rw [← e]; exact List.set_getElem_self _
 obtain ⟨F, hF⟩ : ∃ F : Nat → List Int, F = fun i => (a.take i).filter (fun v => decide (v ∉ h)) := ⟨_, rfl⟩
 have hFi : ∀ i, (a.take i).filter (fun v => decide (v ∉ h)) = F i := fun i => by rw [hF]
 have hFa : a.filter (fun v => decide (v ∉ h)) = F a.length := by rw [hF]; simp only [List.take_length]
 have hFl : ∀ i, (F i).length ≤ a.length := fun i => by
  rw [hF]
  exact Nat.le_trans (List.length_filter_le _ _) (by rw [List.length_take]; omega)
 have hF0 : F 0 = [] := by rw [hF]; rfl
 rw [hFa] at hQ
 simp -dsimp -implicitDefEqProofs only [g66, c66r0, c66r1, c66r2, c66r3, c66k4, c66r5, c66k6, c66r7, c66r8, c66r9, c66b10, c66k11, c66r12, c66r13, c66r14, c66r15, c66k16, c66r17, c66r18, c66k19, c66k20, c66r21, c66b22, c66k23, c66r24, c66, go_sem, seval, ↓reduceIte]
 refine W_for (α := Unit) a.length (fun _ _ => True) (fun i _ => ⟨[(5, s5), (7, .sl (some 4) r (F i).length 0 (F i).length), (8, s8), (9, .pv none (.int .i64 i))], H.set r (.arr (some 4) (Tm.pvs (tvs (F i))) false)⟩) () ⟨trivial, ?_⟩ ?_ ?_
 ·rw [hF0]
  show _ = (⟨_, H.set r (.arr (some 4) [] false)⟩ : St)
  rw [hself]
  rfl
 ·rintro i - hi -
  have hc : (i : Int) < (a.length : Int) := by omega
  obtain ⟨x, hx⟩ : ∃ x, a[i]? = some x := ⟨_, List.getElem?_eq_getElem hi⟩
  have w2 : IntKind.i64.wrap ((i : Int) + 1) = ((i + 1 : Nat) : Int) := by rw [wrap64 (by omega) (by omega)]; omega
  have g5 := h5.other (es' := Tm.pvs (tvs (F i))) (z' := false) hr
  have g8 := h8.other (es' := Tm.pvs (tvs (F i))) (z' := false) hr
  have e8 := g8.len
  obtain ⟨p, p1, p2⟩ := g8.get hx
  have ham := among_v g5 x hh
  have hsz : (H.set r (.arr (some 4) (Tm.pvs (tvs (F i))) false)).length = H.length := by simp
  have htk : F (i + 1) = F i ++ (if x ∈ h then [] else [x]) := by
   rw [hF]
   simp only
   rw [take_snoc hx, List.filter_append]
   congr 1
   by_cases e : x ∈ h <;> simp [e]
  have hl5 : s5.refsIn.all (fun q => decide (q < H.length)) = true := by
   rcases h5 with ⟨rfl, _⟩ | ⟨q, rfl, hq⟩
   ·rfl
   ·simp [AV.refsIn, get_lt hq]
  have hl8 : s8.refsIn.all (fun q => decide (q < H.length)) = true := by
   rcases h8 with ⟨rfl, _⟩ | ⟨q, rfl, hq⟩
   ·rfl
   ·simp [AV.refsIn, get_lt hq]
  by_cases hm : x ∈ h
  ·have hd : decide (x ∈ h) = true := by simp [hm]
   rw [hd] at ham
   rw [if_pos hm, List.append_nil] at htk
   simp -dsimp -implicitDefEqProofs only [g66, c66r0, c66r1, c66r2, c66r3, c66k4, c66r5, c66k6, c66r7, c66r8, c66r9, c66b10, c66k11, c66r12, c66r13, c66r14, c66r15, c66k16, c66r17, c66r18, c66k19, c66k20, c66r21, c66b22, c66k23, c66r24, c66, go_sem, seval, ↓reduceIte, e8, hc, p1, p2, ham, w2]
   refine ⟨(), ?_⟩
   rw [htk, collect_mid hsz]
  ·have hd : decide (x ∈ h) = false := by simp [hm]
   rw [hd] at ham
   rw [if_neg hm] at htk
   have hb : sBuild [(none, .pv none (.int .i64 0)), (none, .pv none (.int .i64 0)), (none, .pv none (.str [])), (none, .tsl (some 4) [])] [0, 1] [.pv none (.int .i64 0), .pv none (.int .i64 x)] = some (.agg [(none, .pv none (.int .i64 0)), (none, .pv none (.int .i64 x)), (none, .pv none (.str [])), (none, .tsl (some 4) [])]) := rfl
   have hbs : ∀ X : Heap, wBslice (some 4) X [.agg [(none, .pv none (.int .i64 0)), (none, .pv none (.int .i64 x)), (none, .pv none (.str [])), (none, .tsl (some 4) [])]] = some (.tsl (some 4) [(tvar x).pv], X) := fun _ => rfl
   have hlen : (Tm.pvs (tvs (F i))).length = (F i).length := by rw [Tm.pvs_len]; simp [tvs]
   have hap : wAppend (some 4) (H.set r (.arr (some 4) (Tm.pvs (tvs (F i))) false)) [.sl (some 4) r (F i).length 0 (F i).length, .tsl (some 4) [(tvar x).pv]] = some (.sl (some 4) r (F (i + 1)).length 0 (F (i + 1)).length, H.set r (.arr (some 4) (Tm.pvs (tvs (F (i + 1)))) false)) := by
    have h1 := hFl i
    rw [w_append_tsl (by rw [List.getElem?_set_self hlt]; exact ⟨rfl, hlen⟩) (by simp [lim]; omega), htk]
    simp [arrOf, List.getElem?_set_self hlt, tvs, Tm.pvs_append]
    rfl
   simp -dsimp -implicitDefEqProofs only [g66, c66r0, c66r1, c66r2, c66r3, c66k4, c66r5, c66k6, c66r7, c66r8, c66r9, c66b10, c66k11, c66r12, c66r13, c66r14, c66r15, c66k16, c66r17, c66r18, c66k19, c66k20, c66r21, c66b22, c66k23, c66r24, c66, go_sem, seval, ↓reduceIte, e8, hc, p1, p2, ham, hb, hbs, hap, w2]
   refine ⟨(), ?_⟩
   rw [collect_mid (by simp)]
 ·rintro - -
  have hc : ¬ (a.length : Int) < (a.length : Int) := by omega
  have e8 := (h8.other (es' := Tm.pvs (tvs (F a.length))) (z' := false) hr).len
  simp -dsimp -implicitDefEqProofs only [g66, c66r0, c66r1, c66r2, c66r3, c66k4, c66r5, c66k6, c66r7, c66r8, c66r9, c66b10, c66k11, c66r12, c66r13, c66r14, c66r15, c66k16, c66r17, c66r18, c66k19, c66k20, c66r21, c66b22, c66k23, c66r24, c66, go_sem, seval, ↓reduceIte, e8, hc]
  exact hQ _
theorem frozen_own4 {H : Heap} {r n : Nat} {es : List PV} (h : H[r]? = some (.arr (some 4) es false)) (hn : n = es.length) : Am.frozen (.pv none (.sl (some 4) es)) (.sl (some 4) r n 0 n) H := by
 subst hn
 exact ⟨H.set r (.arr (some 4) es true), by simp [AV.freezeRes, AV.freeze, deep, h, AV.shp]⟩
theorem rfree_ok (p g : Tm) (hp1 : p.valid = true) (hg1 : g.valid = true) (hp : Heap) :
  S 66 [p.av, g.av] hp = some (.ret (.pv none (.sl (some 4) (Tm.pvs (tvs ((vads [] g.occ).filter (fun v => decide (v ∉ hl p g))))))), hp) := by
 refine sem_pure rfl rfl rfl (freezeAll_pvs [(some 4, p.pv), (some 4, g.pv)]) rfl ?_
 have hn0 : ∀ H : Heap, wNilsl (some 4) H = some (.sl (some 4) H.length 0 0 0, H ++ [.arr (some 4) [] false]) := fun H => w_nilsl (sh := some 4) (by decide)
 have hpz := valid_size hp1
 have hgz := valid_size hg1
 have hhl := hl_len p g
 obtain ⟨s0, H0, hv0, b0, P0, W0⟩ := rVars_h p hp1 [.box (some 4) (.pv (some 4) p.pv), .box (some 4) (.pv (some 4) g.pv), .arr (some 4) [] false]
 have hb1 := P0.2 1 _ rfl (fun v o n e => by cases e)
 simp only [Tm.av] at hv0
 simp -dsimp -implicitDefEqProofs only [g66, c66r0, c66r1, c66r2, c66r3, c66k4, c66r5, c66k6, c66r7, c66r8, c66r9, c66b10, c66k11, c66r12, c66r13, c66r14, c66r15, c66k16, c66r17, c66r18, c66k19, c66k20, c66r21, c66b22, c66r24, c66, go_sem, seval, ↓reduceIte, Tm.av, hn0, hv0, w_alloc_agg, hb1, List.append_assoc, List.cons_append, List.nil_append, get_pre, get_pre0, set_pre, set_pre0, Nat.add_assoc, List.length_append, List.length_cons, List.length_nil, Nat.zero_add]
 refine W_loop (fun n st => ∃ (q : Tm) (s1 : AV) (l1 : List Int) (k : Nat) (H : Heap), n = q.size ∧ q.valid = true ∧ IsV s1 H l1 ∧ l1 ++ flatQ q = hl p g ∧ H[1]? = some (.box (some 4) (.pv (some 4) g.pv)) ∧ H[k]? = some (.box (some 4) (.pv (some 4) q.pv)) ∧ H0.length + 2 ≤ H.length ∧ st = ⟨[(3, .ptr 1 0), (5, s1), (6, .ptr k 0)], H⟩) (n := g.size) ?_ ?_
 ·refine ⟨g, s0, _, _, _, rfl, hg1, (b0.more _), rfl, ?_, ?_, ?_, rfl⟩
  ·rw [List.getElem?_append_left (get_lt hb1)]; exact hb1
  ·rw [get_pre0]; rfl
  ·simp
 ·rintro n st ⟨q, s1, l1, k, H, rfl, hv, hB, hfl, e1, ek, hHl, rfl⟩
  have hq := quantified_ok q
  simp only [Tm.av] at hq
  by_cases h : qd q
  ·have hd : decide (qd q) = true := by simp [h]
   rw [hd] at hq
   have hlt := Tm.arg_lt (mem_arg1 h.2.2)
   have v0 := valid_arg hv (mem_arg0 h.2.2)
   have v1 := valid_arg hv (mem_arg1 h.2.2)
   obtain ⟨s2, H2, hv2, b2, P2, W2⟩ := rVars_h (arg0 q) v0 H
   rw [flatQ_q h, ← List.append_assoc] at hfl
   have hll := congrArg List.length hfl
   rw [List.length_append] at hll
   have b1 := hB.keep P2
   rw [List.length_append] at hll
   obtain ⟨s3, H3, hap, b3, P3, W3⟩ := isV_appl b1 b2.elems (by omega)
   have e1b := P3.2 1 _ (P2.2 1 _ e1 (fun v o n e => by cases e)) (b1.not_box (P2.2 1 _ e1 (fun v o n e => by cases e)))
   have ek2 := P2.2 k _ ek (fun v o n e => by cases e)
   have ekb := P3.2 k _ ek2 (b1.not_box ek2)
   have gx : ∀ {i : Nat} {x : AObj} (e : Heap), H3[i]? = some x → (H3 ++ e)[i]? = some x := fun {i x} e hx => by rw [List.getElem?_append_left (get_lt hx)]; exact hx
   simp only [Tm.av] at hv2
   simp -dsimp -implicitDefEqProofs only [g66, c66r0, c66r1, c66r2, c66r3, c66k4, c66r5, c66k6, c66r7, c66r8, c66r9, c66b10, c66k11, c66r12, c66r13, c66r14, c66r15, c66k16, c66r17, c66r18, c66k19, c66k20, c66r21, c66b22, c66r24, c66, go_sem, seval, ↓reduceIte, hq, ek, ek2, ekb, e1b, hv2, hap, part_args, ia0 (Tm.pvs_get (get_arg0 h.2.2)), ia1 (Tm.pvs_get (get_arg1 h.2.2)), w_alloc_agg, List.append_assoc, List.cons_append, List.nil_append, get_pre, get_pre0, set_pre, set_pre0, Nat.add_assoc, List.length_append, List.length_cons, List.length_nil, Nat.zero_add]
   have hlen : H.length ≤ H3.length := Nat.le_trans P2.1 P3.1
   have hcc := collect_cases (H0.length + 2) 0 [(3, .ptr 1 0), (5, s3), (6, .ptr H3.length 0)] (H3 ++ [.box (some 4) (.pv (some 4) (arg1 q).pv), .arr (some 4) [] false])
   have hcc : collect (H0.length + 2) 0 [(3, .ptr 1 0), (5, s3), (6, .ptr H3.length 0)] (H3 ++ [.box (some 4) (.pv (some 4) (arg1 q).pv), .arr (some 4) [] false]) = H3 ++ [.box (some 4) (.pv (some 4) (arg1 q).pv), .arr (some 4) [] false] := by
    rcases hcc with hcc | ⟨_, hr⟩
    ·exact hcc
    ·have := hr (6, .ptr H3.length 0) (by simp) H3.length (by simp [AV.refsIn])
     omega
   rw [hcc]
   exact ⟨_, hlt, arg1 q, s3, _, H3.length, H3 ++ [.box (some 4) (.pv (some 4) (arg1 q).pv), .arr (some 4) [] false], rfl, v1, b3.more _, hfl, gx _ e1b, by rw [get_pre0]; rfl, by rw [List.length_append]; omega, rfl⟩
  ·have hd : decide (qd q) = false := by simp [h]
   rw [hd] at hq
   rw [flatQ_n h, List.append_nil] at hfl
   obtain ⟨s8, H8, hv8, b8, P8, W8⟩ := rVars_h g hg1 (H ++ [.arr (some 4) [] false])
   have e1c : (H ++ [.arr (some 4) [] false])[1]? = some (.box (some 4) (.pv (some 4) g.pv)) := by rw [List.getElem?_append_left (get_lt e1)]; exact e1
   have hr8 := P8.2 H.length (.arr (some 4) [] false) (by rw [get_pre0]; rfl) (fun v o n e => by cases e)
   have b5 := (hB.more [.arr (some 4) [] false]).keep P8
   rw [hfl] at b5
   have hal := vads_len g.occ []
   have hol := g.occ_len
   rw [List.length_nil, Nat.zero_add] at hal
   simp only [Tm.av] at hv8
   simp -dsimp -implicitDefEqProofs only [g66, c66r0, c66r1, c66r2, c66r3, c66k4, c66r5, c66k6, c66r7, c66r8, c66r9, c66b10, c66k11, c66r12, c66r13, c66r14, c66r15, c66k16, c66r17, c66r18, c66k19, c66k20, c66r21, c66b22, c66r24, c66, go_sem, seval, ↓reduceIte, hq, ek, e1c, hn0, hv8, List.append_assoc, List.cons_append, List.nil_append, get_pre, get_pre0, set_pre, set_pre0, Nat.add_assoc, List.length_append, List.length_cons, List.length_nil, Nat.zero_add]
   refine free_loop s1 s8 H8 H.length (hl p g) (vads [] g.occ) b5 b8 hr8 (by omega) (by omega) _ fun fr => ?_
   simp -dsimp -implicitDefEqProofs only [g66, c66r0, c66r1, c66r2, c66r3, c66k4, c66r5, c66k6, c66r7, c66r8, c66r9, c66b10, c66k11, c66r12, c66r13, c66r14, c66r15, c66k16, c66r17, c66r18, c66k19, c66k20, c66r21, c66b22, c66r24, c66, go_sem, seval, ↓reduceIte]
   exact frozen_own4 (List.getElem?_set_self (get_lt hr8)) (by rw [Tm.pvs_len]; simp [tvs])
theorem mem_flatQ (w : Int) : ∀ (n : Nat) (g : Tm), g.size = n → (w ∈ flatQ g ↔ w ∈ Tm.occs (quants g)) := by
 intro n
 induction n using Nat.strongRecOn with
 | _ n ih =>
  intro g hn
  by_cases h : qd g
  ·have h3 := Tm.arg_lt (mem_arg1 h.2.2)
   rw [flatQ_q h, quants_q h, Tm.occs, List.mem_append, List.mem_append, vads_mem, ih _ (by omega) (arg1 g) rfl]
   simp
  ·rw [flatQ_n h, quants_n h]
   simp [Tm.occs]
theorem free_eq (p g : Tm) : (vads [] g.occ).filter (fun v => decide (v ∉ hl p g)) = free p g := by
 unfold free
 congr 1
 funext v
 have : v ∈ hl p g ↔ v ∈ hid p g := by
  unfold hl hid
  rw [List.mem_append, List.mem_append, vads_mem, mem_flatQ v _ g rfl]
  simp
 simp [this]
theorem free_len (p g : Tm) : (free p g).length ≤ g.size := by
 have h1 := List.length_filter_le (fun v => decide (v ∉ hid p g)) (vads [] g.occ)
 have h2 := vads_len g.occ []
 have h3 := g.occ_len
 unfold free
 rw [List.length_nil, Nat.zero_add] at h2
 omega
def frR (p g : Tm) : Tm := if p.valid = true ∧ g.valid = true then (if (lst (tvs (free p g))).valid = true then lst (tvs (free p g)) else zt) else zt
end Go.Proofs.YtffecaafklpmhaaGreat
