/- What is proved: the program's cyclic. -/
import Derived.Test.YtenkiofpobeilaaCy
set_option linter.unusedSimpArgs false
set_option linter.unusedVariables false
namespace Go.Proofs.Ytenkiofpobeilaa
open Go.Am
theorem w_box_agg {sh : Sh} {hp : Heap} (l : List (Sh × AV)) : wBox sh hp [.agg l] = if some (total l) = sh then allocO sh hp.length (ownComps l (hp ++ [.box sh (.agg l)])) else none := by
 simp only [wBox, AV.plain, AV.shp, true_and, AV.own]
 rfl
def vagg (v : Int) : AV := .agg [(none, .pv none (.int .i64 0)), (none, .pv none (.int .i64 v)), (none, .pv none (.str [])), (none, .tsl (some 4) [])]
theorem bound_ayes (l : List B) (hs : Srt' l) (hl : l.length < 1000000000) (v : Int) (hf : fndB l v = true) (hp : Heap) :
  S 66 [.pv none (.sl (some 5) (bds l)), vagg v] hp = some (.ret (.tuple [(toB l v).av, .pv none (.bool true)]), hp) := by
 refine sem_heap rfl rfl rfl rfl ?_
 have hpl := place_ok l v hs hl
 rw [hf] at hpl
 simp -dsimp -implicitDefEqProofs only [g66, c66r0, c66r1, c66r2, c66k3, c66r4, c66r5, c66r6, c66k7, c66r8, c66, go_sem, seval, ↓reduceIte, vagg, Tm.av, hpl, s_iaddr_pv (bds_get (fnd_get hf)), part_to, w_alloc_agg, w_box_agg, List.append_assoc, List.cons_append, List.nil_append, get_pre, get_pre0, set_pre, set_pre0, Nat.add_assoc, List.length_append, List.length_cons, List.length_nil, Nat.zero_add]
 rw [res_two rfl ((get_pre hp _ 2).trans rfl)]
 refine ⟨rfl, ?_⟩
 rw [if_pos (by simp [AV.refsIn, AV.refsIn.gol, Tm.av])]
 exact List.take_left
theorem bound_ano (l : List B) (hs : Srt' l) (hl : l.length < 1000000000) (v : Int) (hf : fndB l v = false) (hp : Heap) :
  ∃ v' hp', S 66 [.pv none (.sl (some 5) (bds l)), vagg v] hp = some (.ret v', hp') ∧ ∃ e q, v' = .tuple [zagg q, .pv none (.bool false)] ∧ hp' = hp ++ e ∧ q < (hp ++ e).length ∧ 0 < e.length := by
 refine sem_heap_ex _ rfl rfl rfl rfl ?_
 have hpl := place_ok l v hs hl
 rw [hf] at hpl
 simp -dsimp -implicitDefEqProofs only [g66, c66r0, c66r1, c66r2, c66k3, c66r4, c66r5, c66r6, c66k7, c66r8, c66, go_sem, seval, ↓reduceIte, vagg, Tm.av, hpl, hb0, w_alloc_agg, w_box_agg, w_store_agg (Nat.le_add_right _ _), List.append_assoc, List.cons_append, List.nil_append, get_pre, get_pre0, set_pre, set_pre0, Nat.add_assoc, List.length_append, List.length_cons, List.length_nil, Nat.zero_add]
 rw [res_two rfl ((get_pre hp _ 2).trans rfl)]
 rw [if_neg (by simp [AV.refsIn, AV.refsIn.gol, AV.refsIn.go])]
 exact ⟨_, _, rfl, rfl, by simp, by simp⟩
theorem cyc_ok (l : List B) (hG : Good l) (hl : l.length < 1000000000) : ∀ (n : Nat) (st : Int → Int) (m : List (Int × PV)) (v : Int) (hp : Heap) (r : Nat), cnt l st = n → hp[r]? = some (.map none (kEnts m)) → MapI m st → CInv l st → (∀ o, st o = 1 → Relation.TransGen (Dep l) o v) →
  ∃ (b : Bool) (m' : List (Int × PV)), S 50 [.pv none (.sl (some 5) (bds l)), .pv none (.int .i64 v), .map r] hp = some (.ret (.pv none (.bool b)), hp.set r (.map none (kEnts m'))) ∧ (b = true → ¬ Acyc l) ∧ (b = false → ∃ st', MapI m' st' ∧ CPost l st st' v) := by
 intro n
 induction n using Nat.strongRecOn with
 | _ n ih =>
  intro st m v hp r hn hr hM hI hpre
  have hlt := get_lt hr
  have hself : hp.set r (.map none (kEnts m)) = hp := by
   have := List.getElem?_eq_some_iff.1 hr
   obtain ⟨_, h⟩ := this
   rw [← h]; exact List.set_getElem_self _
  have hlk0 : ∀ e : Heap, rLookup false none (.pv none (.int .i64 0)) false (hp ++ e) [.map r, .pv none (.int .i64 v)] = some (.pv none (.int .i64 (st v))) := fun e => by
   rw [look_m (m := m) (by rw [List.getElem?_append_left hlt]; exact hr), hM v]
  by_cases h0 : st v = 0
  rotate_left
  ·have hw : S 50 [.pv none (.sl (some 5) (bds l)), .pv none (.int .i64 v), .map r] hp = some (.ret (.pv none (.bool (decide (st v = 1)))), hp) := by
    refine sem_heap rfl rfl rfl rfl ?_
    have hlk := hlk0 []
    rw [List.append_nil] at hlk
    simp -dsimp -implicitDefEqProofs only [g50, c50r0, c50r1, c50r2, c50k3, c50r4, c50r5, c50r6, c50k7, c50r8, c50r9, c50r10, c50k11, c50r12, c50r13, c50r14, c50k15, c50k16, c50r17, c50b18, c50k19, c50r20, c50r21, c50, go_sem, seval, ↓reduceIte, hlk, h0]
    rw [if_pos (by simp [AV.refsIn]), List.take_length]
   refine ⟨decide (st v = 1), m, by rw [hself]; exact hw, fun hb => ?_, fun hb => ⟨st, hM, hI, fun _ => Iff.rfl, fun _ h => h, fun hf => ?_⟩⟩
   ·have h1 : st v = 1 := of_decide_eq_true hb
    exact no_cycle (hpre v h1) (hI.bnd v h0)
   ·have h1 : ¬ st v = 1 := of_decide_eq_false hb
    rcases hI.val v with h | h | h
    ·exact absurd h h0
    ·exact absurd h h1
    ·exact h
  ·by_cases hf : fndB l v = true
   ·suffices hP : ∃ v' hp', S 50 [.pv none (.sl (some 5) (bds l)), .pv none (.int .i64 v), .map r] hp = some (.ret v', hp') ∧ ∃ (b : Bool) (m' : List (Int × PV)), v' = .pv none (.bool b) ∧ hp' = hp.set r (.map none (kEnts m')) ∧ (b = true → ¬ Acyc l) ∧ (b = false → ∃ st', MapI m' st' ∧ CPost l st st' v) by
     obtain ⟨v', hp', h1, b, m', rfl, rfl, h2⟩ := hP
     exact ⟨b, m', h1, h2⟩
    obtain ⟨htv, hts⟩ := hG.2 _ (List.mem_of_getElem? (fnd_get hf))
    simp only at htv hts
    have htz := valid_size htv
    have hb := bound_ayes l hG.1 hl v hf
    have hV := fun hp => pVars_ok (toB l v) htv hp
    have hLm : ∀ x, x ∈ vads [] (toB l v).occ ↔ x ∈ (toB l v).occ := fun x => by rw [vads_mem]; simp
    have hvl := vads_len (toB l v).occ []
    have hol := (toB l v).occ_len
    rw [List.length_nil, Nat.zero_add] at hvl
    generalize hL : vads [] (toB l v).occ = L at hV hLm hvl
    simp only [Tm.av, vagg] at hb hV
    have hbu : sBuild [(none, .pv none (.int .i64 0)), (none, .pv none (.int .i64 0)), (none, .pv none (.str [])), (none, .tsl (some 4) [])] [1] [.pv none (.int .i64 v)] = some (.agg [(none, .pv none (.int .i64 0)), (none, .pv none (.int .i64 v)), (none, .pv none (.str [])), (none, .tsl (some 4) [])]) := rfl
    have hms : ∀ (x : Int) (m : List (Int × PV)) (e : Heap), wMapset false none (hp.set r (.map none (kEnts m)) ++ e) [.map r, .pv none (.int .i64 v), .pv none (.int .i64 x)] = some (.undef, hp.set r (.map none (kEnts (mPut v (.int .i64 x) m))) ++ e) := fun x m e => by
     rw [w_mapset_pv (es := kEnts m) (by rw [List.getElem?_append_left (by simpa using hlt), List.getElem?_set_self hlt]) (kEnts_put _ _ _), List.set_append_left _ _ (by simpa using hlt), List.set_set]
    have hms1 := fun e => hms 1 m e
    rw [hself] at hms1
    refine sem_heap_ex _ rfl rfl rfl rfl ?_
    have hlk := hlk0 []
    rw [List.append_nil] at hlk
    have hg0 : ∀ (X : AObj) (e : Heap), (hp.set r X ++ e)[hp.length]? = e[0]? := fun X e => getN0 (by simp)
    simp -dsimp -implicitDefEqProofs only [g50, c50r0, c50r1, c50r2, c50k3, c50r4, c50r5, c50r6, c50k7, c50r8, c50r9, c50r10, c50k11, c50r12, c50r13, c50r14, c50k15, c50k16, c50r17, c50k19, c50r20, c50r21, c50, go_sem, seval, ↓reduceIte, hlk, h0, hbu, hb, hms1, hg0, hV, ints_len, own_cons_sl, w_alloc_agg, w_store_agg (Nat.le_add_right _ _), List.append_assoc, List.cons_append, List.nil_append, get_pre, get_pre0, set_pre, set_pre0, Nat.add_assoc, List.length_append, List.length_cons, List.length_nil, Nat.zero_add]
    have hI1 := hI.open_ hf h0
    have hM1 := hM.put v 1
    refine W_for (α := List (Int × PV)) L.length (fun i m => ∃ st' : Int → Int, MapI m st' ∧ CInv l st' ∧ (∀ o, st' o = 1 ↔ (o = v ∨ st o = 1)) ∧ (∀ o, st o = 2 → st' o = 2) ∧ ∀ j, j < i → ∀ x, L[j]? = some x → fndB l x = true → st' x = 2)
     (fun i m => ⟨[(0, .pv none (.sl (some 5) (bds l))), (1, .pv none (.int .i64 v)), (2, .map r), (31, .pv none (.sl none (ints L))), (32, .pv none (.int .i64 L.length)), (33, .pv none (.int .i64 i))], hp.set r (.map none (kEnts m)) ++ [.box (some 4) (.pv (some 4) (toB l v).pv), .arr (some 4) [] false]⟩) _ ⟨⟨_, hM1, hI1, fun o => ?_, fun o ho => ?_, fun j hj => by omega⟩, ?_⟩ ?_ ?_
    ·by_cases e : o = v
     ·simp [e]
     ·simp [e]
    ·have : o ≠ v := fun e => by rw [e, h0] at ho; cases ho
     simp only [if_neg this]; exact ho
    ·rfl
    ·rintro i m2 h ⟨st2, k1, k2, k3, k4, k5⟩
     have hc : (i : Int) < (L.length : Int) := by omega
     obtain ⟨x, hx⟩ : ∃ x, L[i]? = some x := ⟨_, List.getElem?_eq_getElem h⟩
     have hxo := (hLm x).1 (List.mem_of_getElem? hx)
     have hnz : ∀ o, st o ≠ 0 → st2 o ≠ 0 := fun o ho => by
      rcases hI.val o with e | e | e
      ·exact absurd e ho
      ·rw [(k3 o).2 (.inr e)]; decide
      ·rw [k4 o e]; decide
     have hcl : cnt l st2 < n := by
      rw [← hn]
      exact cnt_lt hnz h0 (by rw [(k3 v).2 (.inl rfl)]; decide) (find_mem hf)
     obtain ⟨b, m3, hcall, q1, q2⟩ := ih _ hcl st2 m2 x (hp.set r (.map none (kEnts m2)) ++ [.box (some 4) (.pv (some 4) (toB l v).pv), .arr (some 4) [] false]) r rfl (by rw [List.getElem?_append_left (by simpa using hlt), List.getElem?_set_self hlt]) k1 k2 (fun o ho => by
      rcases (k3 o).1 ho with rfl | ho
      ·exact .single ⟨hf, hxo⟩
      ·exact .tail (hpre o ho) ⟨hf, hxo⟩)
     rw [List.set_append_left _ _ (by simpa using hlt), List.set_set] at hcall
     have w2 : IntKind.i64.wrap ((i : Int) + 1) = ((i + 1 : Nat) : Int) := by rw [wrap64 (by omega) (by omega)]; omega
     cases b with
     | true =>
      simp -dsimp -implicitDefEqProofs only [g50, c50r0, c50r1, c50r2, c50k3, c50r4, c50r5, c50r6, c50k7, c50r8, c50r9, c50r10, c50k11, c50r12, c50r13, c50r14, c50k15, c50k16, c50r17, c50b18, c50k19, c50r20, c50r21, c50, go_sem, seval, ↓reduceIte, ints_len, hc, s_iaddr_pv (ints_get hx), hcall]
      refine ⟨true, m3, rfl, ?_, q1, fun e => by cases e⟩
      rw [if_pos (by simp [AV.refsIn])]
      exact List.take_left' (by simp)
     | false =>
      obtain ⟨st3, r1, r2⟩ := q2 rfl
      simp -dsimp -implicitDefEqProofs only [g50, c50r0, c50r1, c50r2, c50k3, c50r4, c50r5, c50r6, c50k7, c50r8, c50r9, c50r10, c50k11, c50r12, c50r13, c50r14, c50k15, c50k16, c50r17, c50b18, c50k19, c50r20, c50r21, c50, go_sem, seval, ↓reduceIte, ints_len, hc, s_iaddr_pv (ints_get hx), hcall, w2]
      refine ⟨m3, ⟨st3, r1, r2.inv, fun o => by rw [r2.opn, k3], fun o ho => r2.dn o (k4 o ho), fun j hj y hy hfy => ?_⟩, ?_⟩
      ·rcases Nat.lt_or_ge j i with h | h
       ·exact r2.dn y (k5 j h y hy hfy)
       ·have : j = i := by omega
        subst this
        rw [hx] at hy
        cases hy
        exact r2.me hfy
      ·rw [collect_id (by simp)]
    ·rintro m2 ⟨st2, k1, k2, k3, k4, k5⟩
     have hc : ¬ (L.length : Int) < (L.length : Int) := by omega
     have hms2 := fun e => hms 2 m2 e
     simp -dsimp -implicitDefEqProofs only [g50, c50r0, c50r1, c50r2, c50k3, c50r4, c50r5, c50r6, c50k7, c50r8, c50r9, c50r10, c50k11, c50r12, c50r13, c50r14, c50k15, c50k16, c50r17, c50b18, c50k19, c50r20, c50r21, c50, go_sem, seval, ↓reduceIte, ints_len, hc, hms2]
     refine ⟨false, mPut v (.int .i64 2) m2, rfl, ?_, (fun e => by cases e), fun _ => ⟨_, k1.put v 2, ?_⟩⟩
     ·rw [if_pos (by simp [AV.refsIn])]
      exact List.take_left' (by simp)
     ·have hall : ∀ w ∈ (toB l v).occ, fndB l w = true → st2 w = 2 := fun w hw hfw => by
       obtain ⟨j, hj, rfl⟩ := List.getElem_of_mem ((hLm w).2 hw)
       exact k5 j hj _ (List.getElem?_eq_getElem hj) hfw
      refine ⟨k2.close_ hf ((k3 v).2 (.inl rfl)) hall, fun o => ?_, fun o ho => ?_, fun _ => by simp⟩
      ·by_cases e : o = v
       ·simp [e, h0]
       ·simp only [if_neg e]
        rw [k3]
        simp [e]
      ·by_cases e : o = v
       ·simp [e]
       ·simp only [if_neg e]; exact k4 o ho
   ·have hf' : fndB l v = false := by simpa using hf
    obtain ⟨v', hp', hb, e, q, rfl, rfl, hq, he⟩ := bound_ano l hG.1 hl v hf' hp
    have hw : S 50 [.pv none (.sl (some 5) (bds l)), .pv none (.int .i64 v), .map r] hp = some (.ret (.pv none (.bool false)), hp) := by
     refine sem_heap rfl rfl rfl rfl ?_
     have hlk := hlk0 []
     rw [List.append_nil] at hlk
     simp only [vagg] at hb
     have hbu : sBuild [(none, .pv none (.int .i64 0)), (none, .pv none (.int .i64 0)), (none, .pv none (.str [])), (none, .tsl (some 4) [])] [1] [.pv none (.int .i64 v)] = some (.agg [(none, .pv none (.int .i64 0)), (none, .pv none (.int .i64 v)), (none, .pv none (.str [])), (none, .tsl (some 4) [])]) := rfl
     simp -dsimp -implicitDefEqProofs only [g50, c50r0, c50r1, c50r2, c50k3, c50r4, c50r5, c50r6, c50k7, c50r8, c50r9, c50r10, c50k11, c50r12, c50r13, c50r14, c50k15, c50k16, c50r17, c50b18, c50k19, c50r20, c50r21, c50, go_sem, seval, ↓reduceIte, hlk, h0, hbu, hb, zagg, own_cons_sl, w_alloc_agg, w_store_agg (Nat.le_add_right _ _), List.append_assoc, List.cons_append, List.nil_append, get_pre, get_pre0, set_pre, set_pre0, Nat.add_assoc, List.length_append, List.length_cons, List.length_nil, Nat.zero_add]
     rw [if_pos (by simp [AV.refsIn])]
     exact List.take_left
    exact ⟨false, m, by rw [hself]; exact hw, (fun h => by cases h), fun _ => ⟨st, hM, hI, fun _ => Iff.rfl, fun _ h => h, fun h => absurd h hf⟩⟩
theorem pvalidB_ok (l : List B) (hl : l.length < 100000000) (hsz : ∀ b ∈ l, b.2.size < 1000000000) (hp : Heap) : S 26 [.pv none (.sl (some 5) (bds l))] hp = some (.ret (.pv none (.bool (okb l))), hp) := by
 suffices hV : ∃ v, (∀ hp, S 26 [.pv none (.sl (some 5) (bds l))] hp = some (.ret v, hp)) ∧ VP l v by
  obtain ⟨v, h1, b, rfl, h2⟩ := hV
  have : b = okb l := by rw [Bool.eq_iff_iff, h2, okb_iff]
  rw [h1, this]
 refine sem_pure_ex (ps := [(none, .sl (some 5) (bds l))]) (VP l) rfl rfl rfl (fun hp => rfl) rfl ?_
 simp -dsimp -implicitDefEqProofs only [g26, c26r0, c26r1, c26r2, c26k3, c26r4, c26r5, c26r6, c26k7, c26k8, c26r9, c26k11, c26r12, c26r13, c26r14, c26k15, c26r16, c26r17, c26r18, c26k19, c26k20, c26r21, c26k23, c26r24, c26, go_sem, seval, ↓reduceIte, bds_len]
 refine W_for (α := Unit) l.length (fun i _ => ∀ j, j < i → WfAt l j) (fun i _ => ⟨[(0, .pv none (.sl (some 5) (bds l))), (8, .pv none (.sl (some 5) (bds l))), (9, .pv none (.int .i64 l.length)), (10, .pv none (.int .i64 i))], []⟩) () ⟨fun j hj => by omega, rfl⟩ ?_ ?_
 ·rintro i - h hinv
  have hc : (i : Int) < (l.length : Int) := by omega
  obtain ⟨b, hb⟩ : ∃ b, l[i]? = some b := ⟨_, List.getElem?_eq_getElem h⟩
  have hbs := hsz b (List.mem_of_getElem? hb)
  have hv := fun hp => valid_ok b.2 hp hbs
  simp only [Tm.av] at hv
  have w2 : IntKind.i64.wrap ((i : Int) + 1) = ((i + 1 : Nat) : Int) := by rw [wrap64 (by omega) (by omega)]; omega
  have next : WfAt l i → ∀ j, j < i + 1 → WfAt l j := fun hw j hj => by
   rcases Nat.lt_or_ge j i with h | h
   ·exact hinv j h
   ·have : j = i := by omega
    subst this; exact hw
  by_cases h1 : b.1 < 0
  ·simp -dsimp -implicitDefEqProofs only [g26, c26r0, c26r1, c26r2, c26k3, c26r4, c26r5, c26r6, c26k7, c26k8, c26r9, c26b10, c26k11, c26r12, c26r13, c26r14, c26k15, c26r16, c26r17, c26r18, c26k19, c26k20, c26r21, c26r24, c26, go_sem, seval, ↓reduceIte, bds_len, hc, s_iaddr_pv (bds_get hb), part_var, h1, w_alloc_agg]
   exact vp_no fun h => by have := (h.wf i b hb).1; omega
  ·by_cases h2 : 1099511627776 < b.1
   ·simp -dsimp -implicitDefEqProofs only [g26, c26r0, c26r1, c26r2, c26k3, c26r4, c26r5, c26r6, c26k7, c26k8, c26r9, c26b10, c26k11, c26r12, c26r13, c26r14, c26k15, c26r16, c26r17, c26r18, c26k19, c26k20, c26r21, c26r24, c26, go_sem, seval, ↓reduceIte, bds_len, hc, s_iaddr_pv (bds_get hb), part_var, h1, h2, w_alloc_agg]
    exact vp_no fun h => by have := (h.wf i b hb).2.1; omega
   ·by_cases h3 : 0 < i
    ·have h3' : (0 : Int) < (i : Int) := by omega
     obtain ⟨c, hcc⟩ : ∃ c, l[i - 1]? = some c := ⟨_, List.getElem?_eq_getElem (by omega)⟩
     have w3 : IntKind.i64.wrap ((i : Int) - 1) = ((i - 1 : Nat) : Int) := by rw [wrap64 (by omega) (by omega)]; omega
     by_cases h4 : b.1 ≤ c.1
     ·simp -dsimp -implicitDefEqProofs only [g26, c26r0, c26r1, c26r2, c26k3, c26r4, c26r5, c26r6, c26k7, c26k8, c26r9, c26b10, c26k11, c26r12, c26r13, c26r14, c26k15, c26r16, c26r17, c26r18, c26k19, c26k20, c26r21, c26r24, c26, go_sem, seval, ↓reduceIte, bds_len, hc, s_iaddr_pv (bds_get hb), s_iaddr_pv (bds_get hcc), part_var, h1, h2, h3', h4, w3, w_alloc_agg]
      exact vp_no fun h => by have := (h.wf i b hb).2.2.2 h3 c hcc; omega
     ·by_cases h5 : b.2.valid = true
      ·simp -dsimp -implicitDefEqProofs only [g26, c26r0, c26r1, c26r2, c26k3, c26r4, c26r5, c26r6, c26k7, c26k8, c26r9, c26b10, c26k11, c26r12, c26r13, c26r14, c26k15, c26r16, c26r17, c26r18, c26k19, c26k20, c26r21, c26r24, c26, go_sem, seval, ↓reduceIte, bds_len, hc, s_iaddr_pv (bds_get hb), s_iaddr_pv (bds_get hcc), part_var, part_to, h1, h2, h3', h4, w3, hv, h5, w2, w_alloc_agg]
       exact ⟨(), next fun b' hb' => by rw [hb] at hb'; cases hb'; exact ⟨by omega, by omega, h5, fun _ c' hc' => by rw [hcc] at hc'; cases hc'; omega⟩, by rfl⟩
      ·have h5' : b.2.valid = false := by simpa using h5
       simp -dsimp -implicitDefEqProofs only [g26, c26r0, c26r1, c26r2, c26k3, c26r4, c26r5, c26r6, c26k7, c26k8, c26r9, c26b10, c26k11, c26r12, c26r13, c26r14, c26k15, c26r16, c26r17, c26r18, c26k19, c26k20, c26r21, c26r24, c26, go_sem, seval, ↓reduceIte, bds_len, hc, s_iaddr_pv (bds_get hb), s_iaddr_pv (bds_get hcc), part_var, part_to, h1, h2, h3', h4, w3, hv, h5', w_alloc_agg]
       exact vp_no fun h => by have := (h.wf i b hb).2.2.1; rw [h5'] at this; cases this
    ·have h3' : ¬ (0 : Int) < (i : Int) := by omega
     by_cases h5 : b.2.valid = true
     ·simp -dsimp -implicitDefEqProofs only [g26, c26r0, c26r1, c26r2, c26k3, c26r4, c26r5, c26r6, c26k7, c26k8, c26r9, c26b10, c26k11, c26r12, c26r13, c26r14, c26k15, c26r16, c26r17, c26r18, c26k19, c26k20, c26r21, c26r24, c26, go_sem, seval, ↓reduceIte, bds_len, hc, s_iaddr_pv (bds_get hb), part_var, part_to, h1, h2, h3', hv, h5, w2, w_alloc_agg]
      exact ⟨(), next fun b' hb' => by rw [hb] at hb'; cases hb'; exact ⟨by omega, by omega, h5, fun h => absurd h h3⟩, by rfl⟩
     ·have h5' : b.2.valid = false := by simpa using h5
      simp -dsimp -implicitDefEqProofs only [g26, c26r0, c26r1, c26r2, c26k3, c26r4, c26r5, c26r6, c26k7, c26k8, c26r9, c26b10, c26k11, c26r12, c26r13, c26r14, c26k15, c26r16, c26r17, c26r18, c26k19, c26k20, c26r21, c26r24, c26, go_sem, seval, ↓reduceIte, bds_len, hc, s_iaddr_pv (bds_get hb), part_var, part_to, h1, h2, h3', hv, h5', w_alloc_agg]
      exact vp_no fun h => by have := (h.wf i b hb).2.2.1; rw [h5'] at this; cases this
 ·rintro - hinv
  have hc : ¬ (l.length : Int) < (l.length : Int) := by omega
  have hG : Good l := ⟨srt_of hinv, fun b hb => by
   obtain ⟨i, hlt, rfl⟩ := List.getElem_of_mem hb
   exact ⟨(hinv i hlt _ (List.getElem?_eq_getElem hlt)).2.2.1, hsz _ hb⟩⟩
  have hrg : ∀ b ∈ l, 0 ≤ b.1 ∧ b.1 ≤ 1099511627776 := fun b hb => by
   obtain ⟨i, hlt, rfl⟩ := List.getElem_of_mem hb
   exact ⟨(hinv i hlt _ (List.getElem?_eq_getElem hlt)).1, (hinv i hlt _ (List.getElem?_eq_getElem hlt)).2.1⟩
  simp -dsimp -implicitDefEqProofs only [g26, c26r0, c26r1, c26r2, c26k3, c26r4, c26r5, c26r6, c26k7, c26k8, c26r9, c26b10, c26k11, c26r12, c26r13, c26r14, c26k15, c26r16, c26r17, c26r18, c26k19, c26k20, c26r21, c26k23, c26r24, c26, go_sem, seval, ↓reduceIte, bds_len, hc]
  refine W_for (α := List (Int × PV)) l.length (fun i m => ∃ st : Int → Int, MapI m st ∧ CInv l st ∧ (∀ o, st o ≠ 1) ∧ ∀ j, j < i → ∀ b, l[j]? = some b → st b.1 = 2) (fun i m => ⟨[(0, .pv none (.sl (some 5) (bds l))), (5, .map 0), (46, .pv none (.sl (some 5) (bds l))), (47, .pv none (.int .i64 l.length)), (48, .pv none (.int .i64 i))], [.map none (kEnts m)]⟩) [] ⟨⟨fun _ => 0, fun v => rfl, ⟨fun _ => .inl rfl, fun o h => absurd rfl h, fun _ => 0, 0, (fun v h => (by cases h))⟩, (fun o h => (by cases h)), fun j hj => by omega⟩, rfl⟩ ?_ ?_
  ·rintro i m h ⟨st, k1, k2, k3, k4⟩
   have hc : (i : Int) < (l.length : Int) := by omega
   obtain ⟨b, hb⟩ : ∃ b, l[i]? = some b := ⟨_, List.getElem?_eq_getElem h⟩
   have w2 : IntKind.i64.wrap ((i : Int) + 1) = ((i + 1 : Nat) : Int) := by rw [wrap64 (by omega) (by omega)]; omega
   obtain ⟨bb, m3, hcall, q1, q2⟩ := cyc_ok l hG (by omega) _ st m b.1 [.map none (kEnts m), .box (some 5) (.pv (some 5) (bdp b))] 0 rfl rfl k1 k2 (fun o ho => absurd ho (k3 o))
   simp only [List.set_cons_zero] at hcall
   cases bb with
   | true =>
    simp -dsimp -implicitDefEqProofs only [g26, c26r0, c26r1, c26r2, c26k3, c26r4, c26r5, c26r6, c26k7, c26k8, c26r9, c26b10, c26k11, c26r12, c26r13, c26r14, c26k15, c26r16, c26r17, c26r18, c26k19, c26k20, c26r21, c26b22, c26k23, c26r24, c26, go_sem, seval, ↓reduceIte, bds_len, hc, s_iaddr_pv (bds_get hb), part_var, hcall, w_alloc_agg]
    exact vp_no fun h => q1 rfl h.Acyc
   | false =>
    obtain ⟨st3, r1, r2⟩ := q2 rfl
    simp -dsimp -implicitDefEqProofs only [g26, c26r0, c26r1, c26r2, c26k3, c26r4, c26r5, c26r6, c26k7, c26k8, c26r9, c26b10, c26k11, c26r12, c26r13, c26r14, c26k15, c26r16, c26r17, c26r18, c26k19, c26k20, c26r21, c26b22, c26k23, c26r24, c26, go_sem, seval, ↓reduceIte, bds_len, hc, s_iaddr_pv (bds_get hb), part_var, hcall, w2, w_alloc_agg]
    refine ⟨m3, ⟨st3, r1, r2.inv, fun o ho => k3 o ((r2.opn o).1 ho), fun j hj y hy => ?_⟩, by rfl⟩
    rcases Nat.lt_or_ge j i with h | h
    ·exact r2.dn _ (k4 j h y hy)
    ·have : j = i := by omega
     subst this
     rw [hb] at hy
     cases hy
     exact r2.me (fnd_of hG.1 hb).1
  ·rintro m ⟨st, k1, k2, k3, k4⟩
   have hc : ¬ (l.length : Int) < (l.length : Int) := by omega
   simp -dsimp -implicitDefEqProofs only [g26, c26r0, c26r1, c26r2, c26k3, c26r4, c26r5, c26r6, c26k7, c26k8, c26r9, c26b10, c26k11, c26r12, c26r13, c26r14, c26k15, c26r16, c26r17, c26r18, c26k19, c26k20, c26r21, c26b22, c26k23, c26r24, c26, go_sem, seval, ↓reduceIte, bds_len, hc]
   refine vp_yes (okb_of hG hrg (k2.acyc fun v hv => ?_))
   have := fnd_get hv
   exact k4 _ (List.getElem?_eq_some_iff.1 this).1 _ this
end Go.Proofs.Ytenkiofpobeilaa
