/- What is proved: the program's match of a pattern. -/
import Derived.Test.YtenkiofpobeilaaBd
set_option linter.unusedSimpArgs false
set_option linter.unusedVariables false
namespace Go.Proofs.Ytenkiofpobeilaa
open Go.Am
def insB (l : List B) (v : Int) (t : Tm) : List B := l.take (lbB l v) ++ [(v, t)] ++ l.drop (lbB l v)
theorem insB_len (l : List B) (v : Int) (t : Tm) : (insB l v t).length = l.length + 1 := by
  have := lbB_le l v
  simp [insB]
  omega
theorem bds_ins (l : List B) (v : Int) (t : Tm) : bds (insB l v t) = (bds l).take (lbB l v) ++ [bdp (v, t)] ++ (bds l).drop (lbB l v) := by
  simp [bds, insB, List.map_take, List.map_drop]
mutual
def pmt : Tm → Tm → List B → Option (List B)
  | .mk k n s ps, t, l =>
    if k = 0 then
      if fndB l n = true then match l[lbB l n]? with
        | some b => if same b.2 t = true then some l else none
        | none => none
      else some (insB l n t)
    else if k = t.kind ∧ n = t.n ∧ s = t.name ∧ ps.length = t.args.length then pmts ps t.args l else none
def pmts : List Tm → List Tm → List B → Option (List B)
  | p :: ps, t :: ts, l => match pmt p t l with
    | some l' => pmts ps ts l'
    | none => none
  | _, _, l => some l
end
theorem pmt_eq (p t : Tm) (l : List B) : pmt p t l = if p.kind = 0 then
      if fndB l p.n = true then match l[lbB l p.n]? with
        | some b => if same b.2 t = true then some l else none
        | none => none
      else some (insB l p.n t)
    else if p.kind = t.kind ∧ p.n = t.n ∧ p.name = t.name ∧ p.args.length = t.args.length then pmts p.args t.args l else none := by
  cases p; rw [pmt]; rfl
def Pres (s : AV) (hp hp' : Heap) : Prop := hp.length ≤ hp'.length ∧ ∀ (i : Nat) (x : AObj), hp[i]? = some x → (∀ v o n, s ≠ .sl (some 5) i v o n) → hp'[i]? = some x
theorem Pres.refl (s : AV) (hp : Heap) : Pres s hp hp := ⟨Nat.le_refl _, fun _ _ h _ => h⟩
theorem ins_ok {s : AV} {H : Heap} {l : List B} (h : IsB s H l) (v : Int) (t : Tm) (hl : l.length + 1 < 1000000000) :
    ∃ s' H', S 63 [s, .pv none (.int .i64 (lbB l v : Int)), .tsl (some 5) [bdp (v, t)]] H = some (.ret s', H') ∧ IsB s' H' (insB l v t) ∧ Pres s H H' ∧ ((∃ r n, s = .sl (some 5) r n 0 n ∧ s' = .sl (some 5) r (l.length + 1) 0 (l.length + 1) ∧ H' = H.set r (.arr (some 5) (bds (insB l v t)) false)) ∨ (s = .tsl (some 5) [] ∧ s' = .sl (some 5) H.length 1 0 1 ∧ H' = H ++ [.arr (some 5) (bds (insB l v t)) false])) := by
  have hlb := lbB_le l v
  have hlen := insB_len l v t
  rcases h with ⟨rfl, rfl⟩ | ⟨r, rfl, hr⟩
  · refine ⟨.sl (some 5) H.length 1 0 1, H ++ [.arr (some 5) [bdp (v, t)] false], ?_, .inr ⟨H.length, rfl, by simp [bds, insB, lbB]⟩, ⟨by simp, fun i x hx _ => by rw [List.getElem?_append_left (get_lt hx)]; exact hx⟩, .inr ⟨rfl, rfl, by simp [bds, insB, lbB]⟩⟩
    rw [S, sem_prim (F := find tab) (prim := prim) (p := primIns (some 5)) rfl]
    simp [primIns, lbB, wAppend, aappend, elems, lim]
  · refine ⟨.sl (some 5) r (l.length + 1) 0 (l.length + 1), H.set r (.arr (some 5) (bds (insB l v t)) false), ?_, .inr ⟨r, by rw [hlen], by rw [List.getElem?_set_self (get_lt hr)]⟩, ⟨by simp, fun i x hx hne => ?_⟩, .inl ⟨r, _, rfl, rfl, rfl⟩⟩
    · rw [S, sem_prim (F := find tab) (prim := prim) (p := primIns (some 5)) rfl, bds_ins]
      by_cases he : lbB l v = l.length
      · have e1 : (bds l).take (lbB l v) = bds l := by rw [he, ← bds_len l, List.take_length]
        have e2 : (bds l).drop (lbB l v) = [] := by rw [he, ← bds_len l, List.drop_length]
        have h3 : l.length ≤ lim := by unfold lim; omega
        have h4 : l.length + 1 ≤ lim := by unfold lim; omega
        rw [e1, e2]
        simp [primIns, he, h3, wAppend, aappend, elems, hr, h4, bds_len]
      · have h3 : ((lbB l v : Nat) : Int) ≠ (l.length : Int) := by omega
        have h4 : lbB l v < l.length := by omega
        have h5 : l.length + 1 ≤ lim := by unfold lim; omega
        simp [primIns, he, hr, bds_len, h4, h5]
        intro e
        exact absurd e h3
    · have : i ≠ r := fun e => hne _ _ _ (by rw [e])
      rw [List.getElem?_set_ne (Ne.symm this)]
      exact hx
theorem IsB.more {s : AV} {hp : Heap} {l : List B} (h : IsB s hp l) (e : Heap) : IsB s (hp ++ e) l := by
  rcases h with h | ⟨r, h1, h2⟩
  · exact .inl h
  · exact .inr ⟨r, h1, by rw [List.getElem?_append_left (get_lt h2)]; exact h2⟩
theorem IsB.low {s : AV} {hp : Heap} {l : List B} (h : IsB s hp l) : ∀ q ∈ s.refsIn, q < hp.length := by
  rcases h with ⟨rfl, _⟩ | ⟨r, rfl, h2⟩
  · intro q hq; cases hq
  · intro q hq; simp [AV.refsIn] at hq; subst hq; exact get_lt h2
theorem IsB.not_box {s : AV} {hp : Heap} {l : List B} (h : IsB s hp l) {i : Nat} {sh : Sh} {v : AV} (hi : hp[i]? = some (.box sh v)) : ∀ v o n, s ≠ .sl (some 5) i v o n := by
  rcases h with ⟨rfl, _⟩ | ⟨r, rfl, h2⟩
  · intro v o n e; cases e
  · intro v o n e; cases e; rw [hi] at h2; cases h2
def Own (s : AV) (hp : Heap) (s' : AV) : Prop := ∀ r v o n, s' = .sl (some 5) r v o n → (∃ v o n, s = .sl (some 5) r v o n) ∨ hp.length ≤ r
theorem Own.refl (s : AV) (hp : Heap) : Own s hp s := fun r v o n h => .inl ⟨v, o, n, h⟩
theorem Own.trans {s s1 s2 : AV} {hp hp1 : Heap} (h1 : Own s hp s1) (hl : hp.length ≤ hp1.length) (h2 : Own s1 hp1 s2) : Own s hp s2 := fun r v o n e => by
  rcases h2 r v o n e with ⟨v', o', n', e'⟩ | h
  · exact h1 r v' o' n' e'
  · exact .inr (by omega)
theorem Pres.trans {s s1 : AV} {hp hp1 hp2 : Heap} (h1 : Pres s hp hp1) (ho : Own s hp s1) (h2 : Pres s1 hp1 hp2) : Pres s hp hp2 :=
  ⟨Nat.le_trans h1.1 h2.1, fun i x hx hne => h2.2 i x (h1.2 i x hx hne) fun v o n e => by
    rcases ho i v o n e with ⟨v', o', n', e'⟩ | h
    · exact hne v' o' n' e'
    · have := get_lt hx; omega⟩
theorem Pres.take {s : AV} {hp hp1 : Heap} {n : Nat} (h : Pres s hp hp1) (hn : hp.length ≤ n) : Pres s hp (hp1.take n) :=
  ⟨by rw [List.length_take]; have := h.1; omega, fun i x hx hne => by
    have := get_lt hx
    rw [List.getElem?_take, if_pos (by omega)]
    exact h.2 i x hx hne⟩
theorem IsB.take {s : AV} {hp : Heap} {l : List B} {n : Nat} (h : IsB s hp l) (hr : ∀ q ∈ s.refsIn, q < n) : IsB s (hp.take n) l := by
  rcases h with h | ⟨r, rfl, h2⟩
  · exact .inl h
  · have : r < n := hr r (by simp [AV.refsIn])
    exact .inr ⟨r, rfl, by rw [List.getElem?_take, if_pos this]; exact h2⟩
theorem collect_cases (n b : Nat) (fr : Fr) (hp : Heap) : collect n b fr hp = hp ∨ (collect n b fr hp = hp.take n ∧ ∀ x ∈ fr, ∀ q ∈ x.2.refsIn, q < n) := by
  unfold collect
  split
  · rename_i h
    rw [Bool.and_eq_true, List.all_eq_true] at h
    exact .inr ⟨rfl, fun x hx q hq => by simpa using List.all_eq_true.1 (h.1 x hx) q hq⟩
  · exact .inl rfl
def Good (l : List B) : Prop := Srt' l ∧ ∀ b ∈ l, b.2.valid = true ∧ b.2.size < 1000000000
theorem beq_self : ∀ t : Tm, PV.beq t.pv t.pv = true := by
  intro t
  induction t using Tm.induct with
  | h t ih =>
    cases t with
    | mk k n s ts =>
      have : ∀ l : List Tm, (∀ u ∈ l, PV.beq u.pv u.pv = true) → PV.beqs (Tm.pvs l) (Tm.pvs l) = true := by
        intro l
        induction l with
        | nil => intro _; rfl
        | cons x r ihr => intro h; simp only [Tm.pvs, PV.beqs, h x (by simp), ihr (fun u hu => h u (by simp [hu])), Bool.and_self]
      simp [Tm.pv, PV.beq, PV.beqc, this ts ih]
theorem samePtr_self {hp : Heap} {p : Tm} {r o : Nat} (h : hp[r]? = some (.box (some 4) (.pv (some 4) p.pv))) : samePtr hp hp (.ptr r o) = true := by
  simp [samePtr, h, AObj.beq, AV.beq, beq_self]
theorem match_var (p t : Tm) (hk : p.kind = 0) (s : AV) (hp : Heap) (l : List B) (hB : IsB s hp l) (hG : Good l) (hv : t.valid = true) (ht : t.size < 1000000000) (hl : l.length + 1 < 1000000000) :
    ∃ s' hp', S 39 [s, p.av, t.av] hp = some (.ret (.tuple [s', .pv none (.bool (pmt p t l).isSome)]), hp') ∧ Pres s hp hp' ∧ Own s hp s' ∧ ∀ l', pmt p t l = some l' → IsB s' hp' l' := by
  obtain ⟨hs, hall⟩ := hG
  have hpl := place_own (hB.more [.box (some 4) (.pv (some 4) p.pv), .box (some 4) (.pv (some 4) t.pv), .arr (some 5) [] false]) p.n hs (by omega)
  rw [pmt_eq, if_pos hk]
  have hlow := hB.low
  have hn0 : ∀ H : Heap, wNilsl (some 5) H = some (.sl (some 5) H.length 0 0 0, H ++ [.arr (some 5) [] false]) := fun H => w_nilsl (sh := some 5) (by decide)
  by_cases hf : fndB l p.n = true
  · obtain ⟨b, hb⟩ : ∃ b, l[lbB l p.n]? = some b := by
      unfold fndB at hf
      split at hf
      · exact ⟨_, ‹_›⟩
      · cases hf
    obtain ⟨hbv, hbs⟩ := hall b (List.mem_of_getElem? hb)
    have hlt := (List.getElem?_eq_some_iff.1 hb).1
    rcases hB with ⟨rfl, rfl⟩ | ⟨r, rfl, hr⟩
    · simp at hb
    · have hsame := fun hp => psame_ok b.2 t hp hbs ht
      simp only [Tm.av] at hsame
      refine ⟨.sl (some 5) r l.length 0 l.length, hp, ?_, Pres.refl _ _, Own.refl _ _, fun l' h => ?_⟩
      · have hres : (if fndB l p.n = true then match l[lbB l p.n]? with | some b => if same b.2 t = true then some l else none | none => none else some (insB l p.n t)).isSome = same b.2 t := by
          rw [if_pos hf, hb]
          simp only []
          cases same b.2 t <;> rfl
        rw [hres]
        have hrl := get_lt hr
        have hia : sIaddr (some 5) [.sl (some 5) r l.length 0 l.length, .pv none (.int .i64 (lbB l p.n : Int))] = some (.eptr (some 5) r l.length (lbB l p.n) 0) := by
          have : ((lbB l p.n : Nat) : Int) < (l.length : Int) := by omega
          simp [sIaddr, aindex, this]
        have hld : ∀ e : Heap, rLoad (some 4) (hp ++ e) [.eptr (some 5) r l.length (lbB l p.n) 1] = some (.pv (some 4) b.2.pv) := fun e => by
          have h1 : (hp ++ e)[r]? = some (.arr (some 5) (bds l) false) := by rw [List.getElem?_append_left hrl]; exact hr
          simp [rLoad, aload, h1, bds_len, bds_get hb, part_to]
        refine sem_heap rfl rfl rfl rfl ?_
        simp -dsimp -implicitDefEqProofs only [g39, c39r0, c39r1, c39r2, c39r3, c39r4, c39k5, c39r6, c39k7, c39r8, c39r9, c39r10, c39k11, c39r12, c39k13, c39r14, c39b15, c39k16, c39r17, c39, go_sem, seval, ↓reduceIte, Tm.av, part_kind, part_n, hk, hpl, hf, hia, hld, hsame, hn0, List.append_assoc, List.cons_append, List.nil_append, get_pre, get_pre0, set_pre, set_pre0, Nat.add_assoc, List.length_append, List.length_cons, List.length_nil, Nat.zero_add]
        rw [if_pos (by simp [AV.refsIn, AV.refsIn.gol, hrl])]
        exact List.take_left
      · rw [if_pos hf, hb] at h
        simp only [] at h
        split at h
        · cases h; exact .inr ⟨r, rfl, hr⟩
        · cases h
  · have hf' : fndB l p.n = false := by simpa using hf
    rw [if_neg hf]
    obtain ⟨s', H', hins, hB', hP, hcase⟩ := ins_ok (hB.more [.box (some 4) (.pv (some 4) p.pv), .box (some 4) (.pv (some 4) t.pv), .arr (some 5) [] false]) p.n t hl
    have hcl := fun hp => clone_ok t hp hv ht
    simp only [Tm.av] at hcl
    have hbd : sBuild [(none, .pv none (.int .i64 0)), (some 4, .agg [(none, .pv none (.int .i64 0)), (none, .pv none (.int .i64 0)), (none, .pv none (.str [])), (none, .tsl (some 4) [])])] [0, 1] [.pv none (.int .i64 p.n), .pv (some 4) t.pv] = some (.pv (some 5) (bdp (p.n, t))) := rfl
    have hsp : samePtr (hp ++ [.box (some 4) (.pv (some 4) p.pv), .box (some 4) (.pv (some 4) t.pv), .arr (some 5) [] false]) (hp ++ [.box (some 4) (.pv (some 4) p.pv), .box (some 4) (.pv (some 4) t.pv), .arr (some 5) [] false]) (.ptr hp.length 1) = true := samePtr_self (p := p) (by rw [get_pre0]; rfl)
    have fin : S 39 [s, p.av, t.av] hp = some (.ret (.tuple [s', .pv none (.bool true)]), if (AV.tuple [s', .pv none (.bool true)]).refsIn.all (fun q => decide (q < hp.length)) = true then H'.take hp.length else H') := by
      refine sem_heap rfl rfl rfl rfl ?_
      simp -dsimp -implicitDefEqProofs only [g39, c39r0, c39r1, c39r2, c39r3, c39r4, c39k5, c39r6, c39k7, c39r8, c39r9, c39r10, c39k11, c39r12, c39k13, c39r14, c39b15, c39k16, c39r17, c39, go_sem, seval, ↓reduceIte, Tm.av, part_kind, part_n, hk, hpl, hf', hcl, hbd, hsp, hins, op_bslicen, List.take_succ_cons, List.drop_succ_cons, List.all_cons, List.all_nil, hn0, List.append_assoc, List.cons_append, List.nil_append, get_pre, get_pre0, set_pre, set_pre0, Nat.add_assoc, List.length_append, List.length_cons, List.length_nil, Nat.zero_add]
      done
    rcases hcase with ⟨r, n, rfl, rfl, rfl⟩ | ⟨rfl, rfl, rfl⟩
    · have hr : r < hp.length := hlow r (by simp [AV.refsIn])
      rw [if_pos (by simp [AV.refsIn, AV.refsIn.gol, hr])] at fin
      have e : ((hp ++ ([.box (some 4) (.pv (some 4) p.pv), .box (some 4) (.pv (some 4) t.pv), .arr (some 5) [] false] : Heap)).set r (.arr (some 5) (bds (insB l p.n t)) false)).take hp.length = hp.set r (.arr (some 5) (bds (insB l p.n t)) false) := by
        rw [List.set_append_left _ _ hr]
        have : hp.length = (hp.set r (.arr (some 5) (bds (insB l p.n t)) false)).length := by simp
        rw [this]
        exact List.take_left
      rw [e] at fin
      refine ⟨_, _, fin, ⟨by simp, fun i x hx hne => ?_⟩, (fun r v o n e => by cases e; exact .inl ⟨_, _, _, rfl⟩), fun l' h => ?_⟩
      · have : i ≠ r := fun e => hne _ _ _ (by rw [e])
        rw [List.getElem?_set_ne (Ne.symm this)]
        exact hx
      · cases h
        exact .inr ⟨r, by rw [insB_len], by rw [List.getElem?_set_self hr]⟩
    · rw [if_neg (by simp [AV.refsIn, AV.refsIn.gol])] at fin
      refine ⟨_, _, fin, ⟨by simp, fun i x hx _ => ?_⟩, (fun r v o n e => by cases e; exact .inr (by simp)), fun l' h => ?_⟩
      · rw [List.append_assoc, List.getElem?_append_left (get_lt hx)]; exact hx
      · cases h
        exact hB'
theorem pmts_drop {ps ts : List Tm} {i : Nat} {u w : Tm} (hu : ps[i]? = some u) (hw : ts[i]? = some w) (l : List B) : pmts (ps.drop i) (ts.drop i) l = match pmt u w l with | some l' => pmts (ps.drop (i + 1)) (ts.drop (i + 1)) l' | none => none := by
  have e : ∀ {q : List Tm} {x : Tm}, q[i]? = some x → q.drop i = x :: q.drop (i + 1) := fun {q x} h => by
    have hlt := (List.getElem?_eq_some_iff.1 h).1
    rw [List.drop_eq_getElem_cons hlt]
    congr 1
    exact (List.getElem?_eq_some_iff.1 h).2
  rw [e hu, e hw, pmts]
theorem valid_arg {t u : Tm} (h : t.valid = true) (hu : u ∈ t.args) : u.valid = true := by
  unfold Tm.valid at h ⊢
  simp only [Bool.and_eq_true, decide_eq_true_eq] at h ⊢
  have := Tm.arg_lt hu
  exact ⟨by omega, Tm.fits_arg h.2 hu⟩
theorem lbB_cons (b : B) (r : List B) (v : Int) : lbB (b :: r) v = if b.1 < v then lbB r v + 1 else 0 := by
  unfold lbB
  split
  · rename_i h; rw [List.takeWhile_cons_of_pos (by simpa using h)]; rfl
  · rename_i h; rw [List.takeWhile_cons_of_neg (by simpa using h)]; rfl
theorem fndB_cons (b : B) (r : List B) (v : Int) : fndB (b :: r) v = if b.1 < v then fndB r v else decide (b.1 = v) := by
  by_cases h : b.1 < v
  · simp only [fndB, lbB_cons, h, if_true, List.getElem?_cons_succ]
  · simp only [fndB, lbB_cons, h, if_false, List.getElem?_cons_zero]
theorem insB_cons (b : B) (r : List B) (v : Int) (t : Tm) : insB (b :: r) v t = if b.1 < v then b :: insB r v t else (v, t) :: b :: r := by
  unfold insB
  rw [lbB_cons]
  split
  · rw [List.take_succ_cons, List.drop_succ_cons]; rfl
  · rfl
theorem mem_insB {l : List B} {v : Int} {t : Tm} {x : B} (h : x ∈ insB l v t) : x = (v, t) ∨ x ∈ l := by
  unfold insB at h
  simp only [List.mem_append, List.mem_singleton] at h
  rcases h with (h | h) | h
  · exact .inr (List.mem_of_mem_take h)
  · exact .inl h
  · exact .inr (List.mem_of_mem_drop h)
theorem insB_srt : ∀ {l : List B} {v : Int} {t : Tm}, Srt' l → fndB l v = false → Srt' (insB l v t)
  | [], v, t, _, _ => by simp [insB, Srt']
  | b :: r, v, t, hs, hf => by
    obtain ⟨h1, h2⟩ := List.pairwise_cons.1 hs
    rw [insB_cons]
    rw [fndB_cons] at hf
    split
    · rename_i hb
      rw [if_pos hb] at hf
      refine List.pairwise_cons.2 ⟨fun x hx => ?_, insB_srt h2 hf⟩
      rcases mem_insB hx with rfl | hx
      · exact hb
      · exact h1 x hx
    · rename_i hb
      rw [if_neg hb] at hf
      have hne : b.1 ≠ v := by simpa using hf
      refine List.pairwise_cons.2 ⟨fun x hx => ?_, hs⟩
      rcases List.mem_cons.1 hx with rfl | hx
      · show v < x.1; omega
      · have := h1 x hx
        show v < x.1
        omega
theorem insB_good {l : List B} {v : Int} {t : Tm} (h : Good l) (hf : fndB l v = false) (hv : t.valid = true) (ht : t.size < 1000000000) : Good (insB l v t) :=
  ⟨insB_srt h.1 hf, fun b hb => by
    rcases mem_insB hb with rfl | hb
    · exact ⟨hv, ht⟩
    · exact h.2 b hb⟩
theorem pmts_good : ∀ (ps ts : List Tm) (l l' : List B), (∀ p ∈ ps, ∀ (t : Tm) (l l' : List B), Good l → t.valid = true → t.size < 1000000000 → pmt p t l = some l' → Good l' ∧ l'.length ≤ l.length + p.size) → Good l → (∀ t ∈ ts, t.valid = true ∧ t.size < 1000000000) → pmts ps ts l = some l' → Good l' ∧ l'.length ≤ l.length + Tm.sizes ps
  | [], ts, l, l', _, hG, _, h => by
    rw [pmts] at h
    · cases h; exact ⟨hG, by omega⟩
    · simp
  | p :: ps, [], l, l', _, hG, _, h => by
    rw [pmts] at h
    · cases h; exact ⟨hG, by omega⟩
    · simp
  | p :: ps, t :: ts, l, l', ih, hG, hv, h => by
    rw [pmts] at h
    cases hm : pmt p t l with
    | none => rw [hm] at h; cases h
    | some l1 =>
      rw [hm] at h
      obtain ⟨a1, a2⟩ := hv t (by simp)
      obtain ⟨b1, b2⟩ := ih p (by simp) t l l1 hG a1 a2 hm
      obtain ⟨c1, c2⟩ := pmts_good ps ts l1 l' (fun q hq => ih q (by simp [hq])) b1 (fun q hq => hv q (by simp [hq])) h
      exact ⟨c1, by simp only [Tm.sizes]; omega⟩
theorem pmt_good : ∀ (p t : Tm) (l l' : List B), Good l → t.valid = true → t.size < 1000000000 → pmt p t l = some l' → Good l' ∧ l'.length ≤ l.length + p.size := by
  intro p
  induction p using Tm.induct with
  | h p ih =>
    intro t l l' hG hv ht h
    have hps := p.size_eq
    rw [pmt_eq] at h
    split at h
    · split at h
      · split at h
        · split at h
          · cases h; exact ⟨hG, by omega⟩
          · cases h
        · cases h
      · rename_i hf
        cases h
        exact ⟨insB_good hG (by simpa using hf) hv ht, by rw [insB_len]; omega⟩
    · split at h
      · obtain ⟨h1, h2⟩ := pmts_good p.args t.args l l' ih hG (fun u hu => ⟨valid_arg hv hu, by have := Tm.arg_lt hu; omega⟩) h
        exact ⟨h1, by omega⟩
      · cases h
theorem sem_heap_ex {F : FuncId → Option AFn} {prim : FuncId → Option PrimO} {f : FuncId} {fn : AFn} {args : List AV} {hp : Heap} (P : AV → Heap → Prop) (hp0 : prim f = none) (hf : F f = some fn) (hm : fn.heapMode = true) (hn : args.length = fn.nparams)
    (h : W (sem F prim) (sloop F prim) hp.length fn.code ⟨params 0 args, hp⟩ (endK fn.results (fun v' h' => P v' (if v'.refsIn.all (fun q => decide (q < hp.length)) = true then h'.take hp.length else h')))) (hr : fn.rcv = none := by rfl) (hmo : fn.more = [] := by rfl) : ∃ v hp', sem F prim .fn f args hp = some (.ret v, hp') ∧ P v hp' := by
  rw [sem_eq]
  unfold acallFn
  rw [hp0, hf]
  simp only [hr, hmo, Option.isSome_none, Bool.false_eq_true, if_false, hm, if_true, abody, hn, ne_eq, not_true_eq_false, if_false]
  unfold W at h
  split at h
  · rename_i e st' he
    rw [he]
    cases e with
    | normal =>
      rw [endK_normal] at h
      cases hr : resultOf st' fn.results with
      | none => rw [hr] at h; exact h.elim
      | some u => rw [hr] at h; exact ⟨_, _, by simp only [hr], h⟩
    | ret =>
      rw [endK_ret] at h
      cases hr : resultOf st' fn.results with
      | none => rw [hr] at h; exact h.elim
      | some u => rw [hr] at h; exact ⟨_, _, by simp only [hr], h⟩
    | exit i => exact h.elim
    | panic v => exact h.elim
  · exact h.elim
structure MInv (p t : Tm) (s : AV) (H0 : Heap) (l : List B) (R : Option (List B)) (i : Nat) (s1 : AV) (H : Heap) (ok : Bool) (l1 : List B) : Prop where
  pres : Pres s H0 H
  own : Own s H0 s1
  no : ok = false → R = none
  yes : ok = true → R = pmts (p.args.drop i) (t.args.drop i) l1 ∧ p.args.length = t.args.length ∧ IsB s1 H l1 ∧ Good l1 ∧ l1.length ≤ l.length + Tm.sizes (p.args.take i)
theorem match_loop (p t : Tm) (ih : ∀ u ∈ p.args, ∀ (t : Tm) (s : AV) (hp : Heap) (l : List B), IsB s hp l → Good l → t.valid = true → t.size < 1000000000 → l.length + u.size < 1000000000 →
    ∃ s' hp', S 39 [s, u.av, t.av] hp = some (.ret (.tuple [s', .pv none (.bool (pmt u t l).isSome)]), hp') ∧ Pres s hp hp' ∧ Own s hp s' ∧ ∀ l', pmt u t l = some l' → IsB s' hp' l')
    (s : AV) (H0 : Heap) (n0 b : Nat) (l : List B) (R : Option (List B)) (ok : Bool) (hB : IsB s H0 l) (hI : MInv p t s H0 l R 0 s H0 ok l) (h1 : H0[n0]? = some (.box (some 4) (.pv (some 4) p.pv))) (h2 : H0[n0 + 1]? = some (.box (some 4) (.pv (some 4) t.pv))) (hv : t.valid = true) (ht : t.size < 1000000000) (hl : l.length + p.size < 1000000000) (r0 : Fr) (Q : AExit → St → Prop)
    (hQ : ∀ (s1 : AV) (H : Heap) (ok : Bool) (l1 : List B) (i : Nat) (r : Fr), MInv p t s H0 l R i s1 H ok l1 → (ok = true → i = p.args.length) → Q .normal ⟨(0, s1) :: (4, .ptr n0 0) :: (5, .ptr (n0 + 1) 0) :: (10, .pv none (.bool ok)) :: r, H⟩) :
    W Z L b c39k16 ⟨(0, s) :: (4, .ptr n0 0) :: (5, .ptr (n0 + 1) 0) :: (10, .pv none (.bool ok)) :: (11, .pv none (.int .i64 0)) :: r0, H0⟩ Q := by
  have hps := p.size_eq
  have hlen := Tm.sizes_len p.args
  have nb1 := hB.not_box h1
  have nb2 := hB.not_box h2
  simp -dsimp -implicitDefEqProofs only [g39, c39r0, c39r1, c39r2, c39r3, c39r4, c39k5, c39r6, c39k7, c39r8, c39r9, c39r10, c39k11, c39r12, c39k13, c39r14, c39b15, c39k16, c39r17, c39, go_sem, seval, ↓reduceIte]
  refine W_for (α := AV × Heap × Bool × List B) p.args.length (fun i a => MInv p t s H0 l R i a.1 a.2.1 a.2.2.1 a.2.2.2)
    (fun i a => ⟨[(0, a.1), (4, .ptr n0 0), (5, .ptr (n0 + 1) 0), (10, .pv none (.bool a.2.2.1)), (11, .pv none (.int .i64 i))], a.2.1⟩) (s, H0, ok, l) ⟨hI, rfl⟩ ?_ ?_
  · rintro i ⟨s1, H, ok, l1⟩ h hinv
    dsimp only at hinv
    have hc : (i : Int) < (p.args.length : Int) := by omega
    have b1 := hinv.pres.2 n0 _ h1 nb1
    have b2 := hinv.pres.2 (n0 + 1) _ h2 nb2
    cases ok with
    | false =>
      simp -dsimp -implicitDefEqProofs only [g39, c39r0, c39r1, c39r2, c39r3, c39r4, c39k5, c39r6, c39k7, c39r8, c39r9, c39r10, c39k11, c39r12, c39k13, c39r14, c39b15, c39k16, c39r17, c39, go_sem, seval, ↓reduceIte, part_args, Tm.pvs_len, hc, b1, b2]
      exact hQ s1 H false l1 i _ hinv (fun e => by cases e)
    | true =>
      obtain ⟨y1, y2, y3, y4, y5⟩ := hinv.yes rfl
      obtain ⟨u, hu⟩ : ∃ u, p.args[i]? = some u := ⟨_, List.getElem?_eq_getElem h⟩
      obtain ⟨w, hw⟩ : ∃ w, t.args[i]? = some w := ⟨_, List.getElem?_eq_getElem (by omega)⟩
      have hum := List.mem_of_getElem? hu
      have hwm := List.mem_of_getElem? hw
      have hst := Tm.sizes_take hu
      have hle := Tm.sizes_take_le p.args (i + 1)
      have hws := Tm.arg_lt hwm
      obtain ⟨s2, H2, hcall, p1, p2, p3⟩ := ih u hum w s1 H l1 y3 y4 (valid_arg hv hwm) (by omega) (by omega)
      simp only [Tm.av] at hcall
      have w2 : IntKind.i64.wrap ((i : Int) + 1) = ((i + 1 : Nat) : Int) := by rw [wrap64 (by omega) (by omega)]; omega
      rw [pmts_drop hu hw] at y1
      have hq1 := hinv.pres.trans hinv.own p1
      have hq2 := hinv.own.trans hinv.pres.1 p2
      simp -dsimp -implicitDefEqProofs only [g39, c39r0, c39r1, c39r2, c39r3, c39r4, c39k5, c39r6, c39k7, c39r8, c39r9, c39r10, c39k11, c39r12, c39k13, c39r14, c39b15, c39k16, c39r17, c39, go_sem, seval, ↓reduceIte, part_args, Tm.pvs_len, hc, b1, b2, s_iaddr_pv (Tm.pvs_get hu), s_iaddr_pv (Tm.pvs_get hw), hcall, w2]
      refine ⟨(s2, collect H0.length b [(0, s2), (4, .ptr n0 0), (5, .ptr (n0 + 1) 0), (10, .pv none (.bool (pmt u w l1).isSome)), (11, .pv none (.int .i64 ((i + 1 : Nat) : Int)))] H2, (pmt u w l1).isSome, (pmt u w l1).getD []), ?_, rfl⟩
      have hcc := collect_cases H0.length b [(0, s2), (4, .ptr n0 0), (5, .ptr (n0 + 1) 0), (10, .pv none (.bool (pmt u w l1).isSome)), (11, .pv none (.int .i64 ((i + 1 : Nat) : Int)))] H2
      generalize collect H0.length b [(0, s2), (4, .ptr n0 0), (5, .ptr (n0 + 1) 0), (10, .pv none (.bool (pmt u w l1).isSome)), (11, .pv none (.int .i64 ((i + 1 : Nat) : Int)))] H2 = HC at hcc
      refine ⟨?_, hq2, fun e => ?_, fun e => ?_⟩
      · rcases hcc with rfl | ⟨rfl, _⟩
        · exact hq1
        · exact hq1.take (Nat.le_refl _)
      · cases hm : pmt u w l1 with
        | none => rw [hm] at y1; exact y1
        | some l' => rw [hm] at e; cases e
      · cases hm : pmt u w l1 with
        | none => rw [hm] at e; cases e
        | some l' =>
          rw [hm] at y1
          obtain ⟨g1, g2⟩ := pmt_good u w l1 l' y4 (valid_arg hv hwm) (by omega) hm
          refine ⟨y1, y2, ?_, g1, by simp only [Option.getD_some]; omega⟩
          have := p3 l' hm
          rcases hcc with rfl | ⟨rfl, hr⟩
          · exact this
          · exact this.take (hr (0, s2) (by simp))
  · rintro ⟨s1, H, ok, l1⟩ hinv
    dsimp only at hinv
    have hc : ¬ (p.args.length : Int) < (p.args.length : Int) := by omega
    have b1 := hinv.pres.2 n0 _ h1 nb1
    have b2 := hinv.pres.2 (n0 + 1) _ h2 nb2
    simp -dsimp -implicitDefEqProofs only [g39, c39r0, c39r1, c39r2, c39r3, c39r4, c39k5, c39r6, c39k7, c39r8, c39r9, c39r10, c39k11, c39r12, c39k13, c39r14, c39b15, c39k16, c39r17, c39, go_sem, seval, ↓reduceIte, part_args, Tm.pvs_len, hc, b1, b2]
    exact hQ s1 H ok l1 _ _ hinv (fun _ => rfl)
theorem match_fin {p t : Tm} {s s1 : AV} {hp e H : Heap} {l l1 : List B} {R : Option (List B)} {i : Nat} {ok : Bool} (hI : MInv p t s (hp ++ e) l R i s1 H ok l1) (hi : ok = true → i = p.args.length) :
    ∃ s', AV.tuple [s1, .pv none (.bool ok)] = .tuple [s', .pv none (.bool R.isSome)] ∧ Pres s hp (if (AV.tuple [s1, .pv none (.bool ok)]).refsIn.all (fun q => decide (q < hp.length)) = true then H.take hp.length else H) ∧ Own s hp s' ∧
      ∀ l', R = some l' → IsB s' (if (AV.tuple [s1, .pv none (.bool ok)]).refsIn.all (fun q => decide (q < hp.length)) = true then H.take hp.length else H) l' := by
  have hP : Pres s hp H := ⟨by have := hI.pres.1; simp at this; omega, fun i x hx hne => hI.pres.2 i x (by rw [List.getElem?_append_left (get_lt hx)]; exact hx) hne⟩
  have hrefs : (AV.tuple [s1, .pv none (.bool ok)]).refsIn = s1.refsIn := by simp [AV.refsIn, AV.refsIn.gol]
  have hsome : R.isSome = ok ∧ (ok = true → R = some l1 ∧ IsB s1 H l1) := by
    cases ok with
    | false => rw [hI.no rfl]; exact ⟨rfl, fun e => by cases e⟩
    | true =>
      obtain ⟨y1, y2, y3, _⟩ := hI.yes rfl
      rw [hi rfl, List.drop_length] at y1
      have : pmts [] (t.args.drop p.args.length) l1 = some l1 := by rw [pmts]; intros; simp_all
      rw [this] at y1
      rw [y1]
      exact ⟨rfl, fun _ => ⟨rfl, y3⟩⟩
  refine ⟨s1, by rw [hsome.1], ?_, fun r v o n h => ?_, fun l' h => ?_⟩
  · split
    · exact hP.take (Nat.le_refl _)
    · exact hP
  · rcases hI.own r v o n h with h | h
    · exact .inl h
    · exact .inr (by simp at h; omega)
  · have hok : ok = true := by rw [← hsome.1, h]; rfl
    obtain ⟨z1, z2⟩ := hsome.2 hok
    rw [h] at z1
    cases z1
    rw [hrefs]
    split
    · rename_i hr
      exact z2.take fun q hq => by simpa using List.all_eq_true.1 hr q hq
    · exact z2
theorem match_ok : ∀ (p t : Tm) (s : AV) (hp : Heap) (l : List B), IsB s hp l → Good l → t.valid = true → t.size < 1000000000 → l.length + p.size < 1000000000 →
    ∃ s' hp', S 39 [s, p.av, t.av] hp = some (.ret (.tuple [s', .pv none (.bool (pmt p t l).isSome)]), hp') ∧ Pres s hp hp' ∧ Own s hp s' ∧ ∀ l', pmt p t l = some l' → IsB s' hp' l' := by
  intro p
  induction p using Tm.induct with
  | h p ih =>
    intro t s hp l hB hG hv ht hl
    by_cases hk : p.kind = 0
    · have := p.size_eq
      exact match_var p t hk s hp l hB hG hv ht (by omega)
    · have hpe := pmt_eq p t l
      rw [if_neg hk] at hpe
      have hn0 : ∀ H : Heap, wNilsl (some 5) H = some (.sl (some 5) H.length 0 0 0, H ++ [.arr (some 5) [] false]) := fun H => w_nilsl (sh := some 5) (by decide)
      generalize hR : pmt p t l = R at hpe
      suffices hP : ∃ v hp', S 39 [s, p.av, t.av] hp = some (.ret v, hp') ∧ ∃ s', v = .tuple [s', .pv none (.bool R.isSome)] ∧ Pres s hp hp' ∧ Own s hp s' ∧ ∀ l', R = some l' → IsB s' hp' l' by
        obtain ⟨v, hp', h1, s', rfl, h2⟩ := hP
        exact ⟨s', hp', h1, h2⟩
      have hlow := hB.low
      have loop := fun (ok : Bool) (hI : MInv p t s (hp ++ [.box (some 4) (.pv (some 4) p.pv), .box (some 4) (.pv (some 4) t.pv), .arr (some 5) [] false]) l R 0 s (hp ++ [.box (some 4) (.pv (some 4) p.pv), .box (some 4) (.pv (some 4) t.pv), .arr (some 5) [] false]) ok l) (r0 : Fr) (Q : AExit → St → Prop) => match_loop p t ih s _ hp.length hp.length l R ok (hB.more _) hI (by rw [get_pre0]; rfl) (by rw [get_pre]; rfl) hv ht hl r0 Q
      refine sem_heap_ex (fun v hp' => ∃ s', v = .tuple [s', .pv none (.bool R.isSome)] ∧ Pres s hp hp' ∧ Own s hp s' ∧ ∀ l', R = some l' → IsB s' hp' l') rfl rfl rfl rfl ?_
      by_cases hall : p.kind = t.kind ∧ p.n = t.n ∧ p.name = t.name ∧ p.args.length = t.args.length
      · rw [if_pos hall] at hpe
        obtain ⟨a1, a2, a3, a4⟩ := hall
        have hkt : ¬ t.kind = 0 := by rw [← a1]; exact hk
        simp -dsimp -implicitDefEqProofs only [g39, c39r0, c39r1, c39r2, c39r3, c39r4, c39k5, c39r6, c39k7, c39r8, c39r9, c39r10, c39k11, c39r12, c39k13, c39r14, c39r17, c39, go_sem, seval, ↓reduceIte, Tm.av, part_kind, part_n, part_name, part_args, Tm.pvs_len, hk, hkt, a1, a2, a3, a4, hn0, List.append_assoc, List.cons_append, List.nil_append, get_pre, get_pre0, set_pre, set_pre0, Nat.add_assoc, List.length_append, List.length_cons, List.length_nil, Nat.zero_add]
        refine loop true ?_ _ _ ?_
        · exact ⟨Pres.refl _ _, Own.refl _ _, fun e => (by cases e), fun _ => ⟨hpe, a4, hB.more _, hG, by simp⟩⟩
        · intro s1 H ok l1 i r hI hi
          simp -dsimp -implicitDefEqProofs only [g39, c39r0, c39r1, c39r2, c39r3, c39r4, c39k5, c39r6, c39k7, c39r8, c39r9, c39r10, c39k11, c39r12, c39k13, c39r14, c39b15, c39k16, c39r17, c39, go_sem, seval, ↓reduceIte]
          exact match_fin hI hi
      · rw [if_neg hall] at hpe
        by_cases c1 : p.kind = t.kind
        · have hkt : ¬ t.kind = 0 := by rw [← c1]; exact hk
          by_cases c2 : p.n = t.n
          · by_cases c3 : p.name = t.name
            · have c4 : ¬ (p.args.length : Int) = (t.args.length : Int) := fun e => hall ⟨c1, c2, c3, by omega⟩
              simp -dsimp -implicitDefEqProofs only [g39, c39r0, c39r1, c39r2, c39r3, c39r4, c39k5, c39r6, c39k7, c39r8, c39r9, c39r10, c39k11, c39r12, c39k13, c39r14, c39r17, c39, go_sem, seval, ↓reduceIte, Tm.av, part_kind, part_n, part_name, part_args, Tm.pvs_len, hk, hn0, hkt, c1, c2, c3, c4, List.append_assoc, List.cons_append, List.nil_append, get_pre, get_pre0, set_pre, set_pre0, Nat.add_assoc, List.length_append, List.length_cons, List.length_nil, Nat.zero_add]
              refine loop false ⟨Pres.refl _ _, Own.refl _ _, fun _ => hpe, fun e => (by cases e)⟩ _ _ ?_
              intro s1 H ok l1 i r hI hi
              simp -dsimp -implicitDefEqProofs only [g39, c39r0, c39r1, c39r2, c39r3, c39r4, c39k5, c39r6, c39k7, c39r8, c39r9, c39r10, c39k11, c39r12, c39k13, c39r14, c39b15, c39k16, c39r17, c39, go_sem, seval, ↓reduceIte]
              exact match_fin hI hi
            · simp -dsimp -implicitDefEqProofs only [g39, c39r0, c39r1, c39r2, c39r3, c39r4, c39k5, c39r6, c39k7, c39r8, c39r9, c39r10, c39k11, c39r12, c39k13, c39r14, c39r17, c39, go_sem, seval, ↓reduceIte, Tm.av, part_kind, part_n, part_name, part_args, Tm.pvs_len, hk, hn0, hkt, c1, c2, c3, List.append_assoc, List.cons_append, List.nil_append, get_pre, get_pre0, set_pre, set_pre0, Nat.add_assoc, List.length_append, List.length_cons, List.length_nil, Nat.zero_add]
              refine loop false ⟨Pres.refl _ _, Own.refl _ _, fun _ => hpe, fun e => (by cases e)⟩ _ _ ?_
              intro s1 H ok l1 i r hI hi
              simp -dsimp -implicitDefEqProofs only [g39, c39r0, c39r1, c39r2, c39r3, c39r4, c39k5, c39r6, c39k7, c39r8, c39r9, c39r10, c39k11, c39r12, c39k13, c39r14, c39b15, c39k16, c39r17, c39, go_sem, seval, ↓reduceIte]
              exact match_fin hI hi
          · simp -dsimp -implicitDefEqProofs only [g39, c39r0, c39r1, c39r2, c39r3, c39r4, c39k5, c39r6, c39k7, c39r8, c39r9, c39r10, c39k11, c39r12, c39k13, c39r14, c39r17, c39, go_sem, seval, ↓reduceIte, Tm.av, part_kind, part_n, part_name, part_args, Tm.pvs_len, hk, hn0, hkt, c1, c2, List.append_assoc, List.cons_append, List.nil_append, get_pre, get_pre0, set_pre, set_pre0, Nat.add_assoc, List.length_append, List.length_cons, List.length_nil, Nat.zero_add]
            refine loop false ⟨Pres.refl _ _, Own.refl _ _, fun _ => hpe, fun e => (by cases e)⟩ _ _ ?_
            intro s1 H ok l1 i r hI hi
            simp -dsimp -implicitDefEqProofs only [g39, c39r0, c39r1, c39r2, c39r3, c39r4, c39k5, c39r6, c39k7, c39r8, c39r9, c39r10, c39k11, c39r12, c39k13, c39r14, c39b15, c39k16, c39r17, c39, go_sem, seval, ↓reduceIte]
            exact match_fin hI hi
        · simp -dsimp -implicitDefEqProofs only [g39, c39r0, c39r1, c39r2, c39r3, c39r4, c39k5, c39r6, c39k7, c39r8, c39r9, c39r10, c39k11, c39r12, c39k13, c39r14, c39r17, c39, go_sem, seval, ↓reduceIte, Tm.av, part_kind, part_n, part_name, part_args, Tm.pvs_len, hk, hn0, c1, List.append_assoc, List.cons_append, List.nil_append, get_pre, get_pre0, set_pre, set_pre0, Nat.add_assoc, List.length_append, List.length_cons, List.length_nil, Nat.zero_add]
          refine loop false ⟨Pres.refl _ _, Own.refl _ _, fun _ => hpe, fun e => (by cases e)⟩ _ _ ?_
          intro s1 H ok l1 i r hI hi
          simp -dsimp -implicitDefEqProofs only [g39, c39r0, c39r1, c39r2, c39r3, c39r4, c39k5, c39r6, c39k7, c39r8, c39r9, c39r10, c39k11, c39r12, c39k13, c39r14, c39b15, c39k16, c39r17, c39, go_sem, seval, ↓reduceIte]
          exact match_fin hI hi
def mtR (p t : Tm) : Option (List B) := if p.valid = true ∧ t.valid = true then pmt p t [] else none
theorem pmatch_ok (p t : Tm) (hp : Heap) (hps : p.size < 999999999) (ht : t.size < 1000000000) : S 15 [p.av, t.av] hp = some (.ret (.tuple [.pv none (.sl (some 5) (bds ((mtR p t).getD []))), .pv none (.bool (mtR p t).isSome)]), hp) := by
  refine sem_pure rfl rfl rfl (freezeAll_pvs [(some 4, p.pv), (some 4, t.pv)]) rfl ?_
  have h1 := fun hp => valid_ok p hp (by omega)
  have h2 := fun hp => valid_ok t hp ht
  simp only [Tm.av] at h1 h2
  have hn0 : ∀ H : Heap, wNilsl (some 5) H = some (.sl (some 5) H.length 0 0 0, H ++ [.arr (some 5) [] false]) := fun H => w_nilsl (sh := some 5) (by decide)
  unfold mtR
  by_cases vp : p.valid = true
  · by_cases vt : t.valid = true
    · rw [if_pos ⟨vp, vt⟩]
      obtain ⟨s', H', hm, _, _, hB⟩ := match_ok p t (.tsl (some 5) []) [.box (some 4) (.pv (some 4) p.pv), .box (some 4) (.pv (some 4) t.pv), .arr (some 5) [] false] [] (.inl ⟨rfl, rfl⟩) ⟨by simp [Srt'], by simp⟩ vt ht (by simp; omega)
      simp only [Tm.av] at hm
      cases hR : pmt p t [] with
      | none =>
        rw [hR] at hm
        simp only [Option.isSome_none] at hm
        simp -dsimp -implicitDefEqProofs only [g15, c15r0, c15r1, c15r2, c15k3, c15r4, c15r5, c15r6, c15k7, c15r8, c15, go_sem, seval, ↓reduceIte, h1, h2, vp, vt, hn0, hm]
        simp [frzT, freezeAll, AV.freeze, deep, AV.shp, Am.pvs, bds]
      | some l' =>
        rw [hR] at hm
        simp only [Option.isSome_some] at hm
        obtain ⟨hp1, z1, z2, z3⟩ := (hB l' hR).freeze
        simp -dsimp -implicitDefEqProofs only [g15, c15r0, c15r1, c15r2, c15k3, c15r4, c15r5, c15r6, c15k7, c15r8, c15, go_sem, seval, ↓reduceIte, h1, h2, vp, vt, hn0, hm]
        have e : ∀ (b : Bool) (H : Heap), AV.freeze deep (.pv none (.bool b)) H = some (.bool b, H) := fun _ _ => rfl
        simp [frzT, freezeAll, z1, z2, e, shp_pv, Am.pvs]
    · rw [if_neg (by simp [vt])]
      simp -dsimp -implicitDefEqProofs only [g15, c15r0, c15r1, c15r2, c15k3, c15r4, c15r5, c15r6, c15k7, c15r8, c15, go_sem, seval, ↓reduceIte, h1, h2, vp, vt, hn0]
      rfl
  · rw [if_neg (by simp [vp])]
    simp -dsimp -implicitDefEqProofs only [g15, c15r0, c15r1, c15r2, c15k3, c15r4, c15r5, c15r6, c15k7, c15r8, c15, go_sem, seval, ↓reduceIte, h1, h2, vp, hn0]
    rfl
end Go.Proofs.Ytenkiofpobeilaa
