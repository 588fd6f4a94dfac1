/- What is proved: the program's match of a pattern. -/
import Derived.Test.YtenkiofpobeilaaBd
set_option linter.unusedSimpArgs false
set_option linter.unusedVariables false
namespace Go.Proofs.Ytenkiofpobeilaa
open Go.Am
def insB (l : List B) (v : Int) (t : Tm) : List B := l.take (lbB l v) ++ [(v, t)] ++ l.drop (lbB l v)
theorem insB_len (l : List B) (v : Int) (t : Tm) : (insB l v t).length = l.length + 1 := by
 have := lbB_le l v
 simp [insB]
 omega
theorem bds_ins (l : List B) (v : Int) (t : Tm) : bds (insB l v t) = (bds l).take (lbB l v) ++ [bdp (v, t)] ++ (bds l).drop (lbB l v) := by
 simp [bds, insB, List.map_take, List.map_drop]
mutual
def pmt : Tm → Tm → List B → Option (List B)
 | .mk k n s ps, t, l =>
  if k = 0 then
   if fndB l n = true then match l[lbB l n]? with
    | some b => if same b.2 t = true then some l else none
    | none => none
   else some (insB l n t)
  else if k = t.kind ∧ n = t.n ∧ s = t.name ∧ ps.length = t.args.length then pmts ps t.args l else none
def pmts : List Tm → List Tm → List B → Option (List B)
 | p :: ps, t :: ts, l => match pmt p t l with
  | some l' => pmts ps ts l'
  | none => none
 | _, _, l => some l
end
def Pres (s : AV) (hp hp' : Heap) : Prop := hp.length ≤ hp'.length ∧ ∀ (i : Nat) (x : AObj), hp[i]? = some x → (∀ v o n, s ≠ .sl (some 5) i v o n) → hp'[i]? = some x
theorem Pres.refl (s : AV) (hp : Heap) : Pres s hp hp := ⟨Nat.le_refl _, fun _ _ h _ => h⟩
theorem ins_ok {s : AV} {H : Heap} {l : List B} (h : IsB s H l) (v : Int) (t : Tm) (hl : l.length + 1 < 1000000000) :
  ∃ s' H', S 63 [s, .pv none (.int .i64 (lbB l v : Int)), .tsl (some 5) [bdp (v, t)]] H = some (.ret s', H') ∧ IsB s' H' (insB l v t) ∧ Pres s H H' ∧ ((∃ r n, s = .sl (some 5) r n 0 n ∧ s' = .sl (some 5) r (l.length + 1) 0 (l.length + 1) ∧ H' = H.set r (.arr (some 5) (bds (insB l v t)) false)) ∨ (s = .tsl (some 5) [] ∧ s' = .sl (some 5) H.length 1 0 1 ∧ H' = H ++ [.arr (some 5) (bds (insB l v t)) false])) := by
 have hlb := lbB_le l v
 have hlen := insB_len l v t
 rcases h with ⟨rfl, rfl⟩ | ⟨r, rfl, hr⟩
 ·refine ⟨.sl (some 5) H.length 1 0 1, H ++ [.arr (some 5) [bdp (v, t)] false], ?_, .inr ⟨H.length, rfl, by simp [bds, insB, lbB]⟩, ⟨by simp, fun i x hx _ => by rw [List.getElem?_append_left (get_lt hx)]; exact hx⟩, .inr ⟨rfl, rfl, by simp [bds, insB, lbB]⟩⟩
  rw [S, sem_prim (F := find tab) (prim := prim) (p := primIns (some 5)) rfl]
  simp [primIns, lbB, wAppend, aappend, elems, lim]
 ·refine ⟨.sl (some 5) r (l.length + 1) 0 (l.length + 1), H.set r (.arr (some 5) (bds (insB l v t)) false), ?_, .inr ⟨r, by rw [hlen], by rw [List.getElem?_set_self (get_lt hr)]⟩, ⟨by simp, fun i x hx hne => ?_⟩, .inl ⟨r, _, rfl, rfl, rfl⟩⟩
  ·rw [S, sem_prim (F := find tab) (prim := prim) (p := primIns (some 5)) rfl, bds_ins]
   by_cases he : lbB l v = l.length
   ·have e1 : (bds l).take (lbB l v) = bds l := by rw [he, ← bds_len l, List.take_length]
    have e2 : (bds l).drop (lbB l v) = [] := by rw [he, ← bds_len l, List.drop_length]
    have h3 : l.length ≤ lim := by unfold lim; omega
    have h4 : l.length + 1 ≤ lim := by unfold lim; omega
    rw [e1, e2]
    simp [primIns, he, h3, wAppend, aappend, elems, hr, h4, bds_len]
   ·have h3 : ((lbB l v : Nat) : Int) ≠ (l.length : Int) := by omega
    have h4 : lbB l v < l.length := by omega
    have h5 : l.length + 1 ≤ lim := by unfold lim; omega
    simp [primIns, he, hr, bds_len, h4, h5]
    intro e
    exact absurd e h3
  ·have : i ≠ r := fun e => hne _ _ _ (by rw [e])
   rw [List.getElem?_set_ne (Ne.symm this)]
   exact hx
theorem IsB.more {s : AV} {hp : Heap} {l : List B} (h : IsB s hp l) (e : Heap) : IsB s (hp ++ e) l := by
 rcases h with h | ⟨r, h1, h2⟩
 ·exact .inl h
 ·exact .inr ⟨r, h1, by rw [List.getElem?_append_left (get_lt h2)]; exact h2⟩
theorem IsB.low {s : AV} {hp : Heap} {l : List B} (h : IsB s hp l) : ∀ q ∈ s.refsIn, q < hp.length := by
 rcases h with ⟨rfl, _⟩ | ⟨r, rfl, h2⟩
 ·intro q hq; cases hq
 ·intro q hq; simp [AV.refsIn] at hq; subst hq; exact get_lt h2
def Own (s : AV) (hp : Heap) (s' : AV) : Prop := ∀ r v o n, s' = .sl (some 5) r v o n → (∃ v o n, s = .sl (some 5) r v o n) ∨ hp.length ≤ r
theorem Own.refl (s : AV) (hp : Heap) : Own s hp s := fun r v o n h => .inl ⟨v, o, n, h⟩
theorem Own.trans {s s1 s2 : AV} {hp hp1 : Heap} (h1 : Own s hp s1) (hl : hp.length ≤ hp1.length) (h2 : Own s1 hp1 s2) : Own s hp s2 := fun r v o n e => by
 rcases h2 r v o n e with ⟨v', o', n', e'⟩ | h
 ·exact h1 r v' o' n' e'
 ·exact .inr (by omega)
theorem Pres.trans {s s1 : AV} {hp hp1 hp2 : Heap} (h1 : Pres s hp hp1) (ho : Own s hp s1) (h2 : Pres s1 hp1 hp2) : Pres s hp hp2 :=
 ⟨Nat.le_trans h1.1 h2.1, fun i x hx hne => h2.2 i x (h1.2 i x hx hne) fun v o n e => by
  rcases ho i v o n e with ⟨v', o', n', e'⟩ | h
  ·exact hne v' o' n' e'
  ·have := get_lt hx; omega⟩
theorem Pres.take {s : AV} {hp hp1 : Heap} {n : Nat} (h : Pres s hp hp1) (hn : hp.length ≤ n) : Pres s hp (hp1.take n) :=
 ⟨by rw [List.length_take]; have := h.1; omega, fun i x hx hne => by
  have := get_lt hx
  rw [List.getElem?_take, if_pos (by omega)]
  exact h.2 i x hx hne⟩
theorem IsB.take {s : AV} {hp : Heap} {l : List B} {n : Nat} (h : IsB s hp l) (hr : ∀ q ∈ s.refsIn, q < n) : IsB s (hp.take n) l := by
 rcases h with h | ⟨r, rfl, h2⟩
 ·exact .inl h
 ·have : r < n := hr r (by simp [AV.refsIn])
  exact .inr ⟨r, rfl, by rw [List.getElem?_take, if_pos this]; exact h2⟩
def Good (l : List B) : Prop := Srt' l ∧ ∀ b ∈ l, b.2.valid = true ∧ b.2.size < 1000000000
theorem beq_self : ∀ t : Tm, PV.beq t.pv t.pv = true := by
 intro t
 induction t using Tm.induct with
 | h t ih =>
  cases t with
  | mk k n s ts =>
   have : ∀ l : List Tm, (∀ u ∈ l, PV.beq u.pv u.pv = true) → PV.beqs (Tm.pvs l) (Tm.pvs l) = true := by
    intro l
    induction l with
    | nil => intro _; rfl
    | cons x r ihr => intro h; simp only [Tm.pvs, PV.beqs, h x (by simp), ihr (fun u hu => h u (by simp [hu])), Bool.and_self]
   simp [Tm.pv, PV.beq, PV.beqc, this ts ih]
theorem valid_arg {t u : Tm} (h : t.valid = true) (hu : u ∈ t.args) : u.valid = true := by
 unfold Tm.valid at h ⊢
 simp only [Bool.and_eq_true, decide_eq_true_eq] at h ⊢
 have := Tm.arg_lt hu
 exact ⟨by omega, Tm.fits_arg h.2 hu⟩
theorem lbB_cons (b : B) (r : List B) (v : Int) : lbB (b :: r) v = if b.1 < v then lbB r v + 1 else 0 := by
 unfold lbB
 split
 ·rename_i h; rw [List.takeWhile_cons_of_pos (by simpa using h)]; rfl
 ·rename_i h; rw [List.takeWhile_cons_of_neg (by simpa using h)]; rfl
theorem fndB_cons (b : B) (r : List B) (v : Int) : fndB (b :: r) v = if b.1 < v then fndB r v else decide (b.1 = v) := by
 by_cases h : b.1 < v
 ·simp only [fndB, lbB_cons, h, if_true, List.getElem?_cons_succ]
 ·simp only [fndB, lbB_cons, h, if_false, List.getElem?_cons_zero]
theorem insB_cons (b : B) (r : List B) (v : Int) (t : Tm) : insB (b :: r) v t = if b.1 < v then b :: insB r v t else (v, t) :: b :: r := by
 unfold insB
 rw [lbB_cons]
 split
 ·rw [List.take_succ_cons, List.drop_succ_cons]; rfl
 ·rfl
theorem mem_insB {l : List B} {v : Int} {t : Tm} {x : B} (h : x ∈ insB l v t) : x = (v, t) ∨ x ∈ l := by
 unfold insB at h
 simp only [List.mem_append, List.mem_singleton] at h
 rcases h with (h | h) | h
 ·exact .inr (List.mem_of_mem_take h)
 ·exact .inl h
 ·exact .inr (List.mem_of_mem_drop h)
theorem insB_srt : ∀ {l : List B} {v : Int} {t : Tm}, Srt' l → fndB l v = false → Srt' (insB l v t)
 | [], v, t, _, _ => by simp [insB, Srt']
 | b :: r, v, t, hs, hf => by
  obtain ⟨h1, h2⟩ := List.pairwise_cons.1 hs
  rw [insB_cons]
  rw [fndB_cons] at hf
  split
  ·rename_i hb
   rw [if_pos hb] at hf
   refine List.pairwise_cons.2 ⟨fun x hx => ?_, insB_srt h2 hf⟩
   rcases mem_insB hx with rfl | hx
   ·exact hb
   ·exact h1 x hx
  ·rename_i hb
   rw [if_neg hb] at hf
   have hne : b.1 ≠ v := by simpa using hf
   refine List.pairwise_cons.2 ⟨fun x hx => ?_, hs⟩
   rcases List.mem_cons.1 hx with rfl | hx
   ·show v < x.1; omega
   ·have := h1 x hx
    show v < x.1
    omega
theorem insB_good {l : List B} {v : Int} {t : Tm} (h : Good l) (hf : fndB l v = false) (hv : t.valid = true) (ht : t.size < 1000000000) : Good (insB l v t) :=
 ⟨insB_srt h.1 hf, fun b hb => by
  rcases mem_insB hb with rfl | hb
  ·exact ⟨hv, ht⟩
  ·exact h.2 b hb⟩
theorem sem_heap_ex {F : FuncId → Option AFn} {prim : FuncId → Option PrimO} {f : FuncId} {fn : AFn} {args : List AV} {hp : Heap} (P : AV → Heap → Prop) (hp0 : prim f = none) (hf : F f = some fn) (hm : fn.heapMode = true) (hn : args.length = fn.nparams)
  (h : W (sem F prim) (sloop F prim) hp.length fn.code ⟨params 0 args, hp⟩ (endK fn.results (fun v' h' => P v' (if v'.refsIn.all (fun q => decide (q < hp.length)) = true then h'.take hp.length else h')))) (hr : fn.rcv = none := by rfl) (hmo : fn.more = [] := by rfl) : ∃ v hp', sem F prim .fn f args hp = some (.ret v, hp') ∧ P v hp' := by
 rw [sem_eq]
 unfold acallFn
 rw [hp0, hf]
 simp only [hr, hmo, Option.isSome_none, Bool.false_eq_true, if_false, hm, if_true, abody, hn, ne_eq, not_true_eq_false, if_false]
 unfold W at h
 split at h
 ·rename_i e st' he
  rw [he]
  cases e with
  | normal =>
   rw [endK_normal] at h
   cases hr : resultOf st' fn.results with
   | none => rw [hr] at h; exact h.elim
   | some u => rw [hr] at h; exact ⟨_, _, by simp only [hr], h⟩
  | ret =>
   rw [endK_ret] at h
   cases hr : resultOf st' fn.results with
   | none => rw [hr] at h; exact h.elim
   | some u => rw [hr] at h; exact ⟨_, _, by simp only [hr], h⟩
  | exit i => exact h.elim
  | panic v => exact h.elim
 ·exact h.elim
structure MInv (p t : Tm) (s : AV) (H0 : Heap) (l : List B) (R : Option (List B)) (i : Nat) (s1 : AV) (H : Heap) (ok : Bool) (l1 : List B) : Prop where
 pres : Pres s H0 H
 own : Own s H0 s1
 no : ok = false → R = none
 yes : ok = true → R = pmts (p.args.drop i) (t.args.drop i) l1 ∧ p.args.length = t.args.length ∧ IsB s1 H l1 ∧ Good l1 ∧ l1.length ≤ l.length + Tm.sizes (p.args.take i)
def mtR (p t : Tm) : Option (List B) := if p.valid = true ∧ t.valid = true then pmt p t [] else none
end Go.Proofs.Ytenkiofpobeilaa
