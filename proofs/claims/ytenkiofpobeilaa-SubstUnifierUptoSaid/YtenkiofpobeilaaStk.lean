/- How long the stack of a unification is at most. -/
import Derived.Test.YtenkiofpobeilaaPPr
set_option linter.unusedSimpArgs false
set_option linter.unusedVariables false
namespace Go.Proofs.Ytenkiofpobeilaa
open Go.Am
inductive Vis (l : List B) (w : Int) : Tm → Prop
 | to : fndB l w = true → Vis l w (toB l w)
 | arg {x u : Tm} : Vis l w x → ¬ x.kind = 0 → u ∈ x.args → Vis l w u
 | jump {x : Tm} : Vis l w x → x.kind = 0 → fndB l x.n = true → Vis l w (toB l x.n)
theorem Vis.lt {l : List B} (hA : Acyc l) {w : Int} {x : Tm} (h : Vis l w x) : mu l x < mu l (tvar w) := by
 induction h with
 | to hf => exact mu_to (t := tvar w) hA rfl hf
 | arg _ hk hu ih => have := mu_arg l hk hu; omega
 | jump _ hk hf ih => have := mu_to hA hk hf; omega
theorem Vis.ins {l : List B} (hG : Good l) {v : Int} {t : Tm} (hf : fndB l v = false) {w : Int} {x : Tm} (h : Vis l w x) : Vis (insB l v t) w x := by
 induction h with
 | to h1 =>
  have := Vis.to (l := insB l v t) (w := w) ((fnd_ins hG hf w).2 (.inr h1))
  rw [to_ins_ne hG hf h1] at this
  exact this
 | arg _ hk hu ih => exact ih.arg hk hu
 | jump _ hk h1 ih =>
  have := ih.jump hk ((fnd_ins hG hf _).2 (.inr h1))
  rw [to_ins_ne hG hf h1] at this
  exact this
theorem Vis.flw {l : List B} (hO : OKB l) {w : Int} : ∀ (k : Nat) (u : Tm), mu l u = k → u.valid = true → Vis l w u → Vis l w (flw l u) := by
 intro k
 induction k using Nat.strongRecOn with
 | _ k ih =>
  intro u hk hv h
  by_cases hk0 : u.kind = 0
  ·by_cases hf : fndB l u.n = true
   ·rw [flw_to hO.Acyc hk0 hf]
    have := mu_to hO.Acyc hk0 hf
    exact ih _ (by omega) _ rfl (hO.to hf).1 (h.jump hk0 hf)
   ·rw [flw_free hO.Acyc (valid_fits hv) hk0 hf]; exact h
  ·rw [flw_str l hk0]; exact h
def PosI (l : List B) (u : Tm) (i : Nat) : Prop := ∃ D : List Int, D.Nodup ∧ (∀ w ∈ D, fndB l w = true ∧ Vis l w u) ∧ i + u.size ≤ 2000 * (D.length + 1)
def StkI (l : List B) : List (Tm × Tm) → Prop
 | [] => True
 | p :: r => PosI l p.1 r.length ∧ StkI l r
theorem PosI.ins {l : List B} (hG : Good l) {v : Int} {t : Tm} (hf : fndB l v = false) {u : Tm} {i : Nat} (h : PosI l u i) : PosI (insB l v t) u i := by
 obtain ⟨D, h1, h2, h3⟩ := h
 exact ⟨D, h1, fun w hw => ⟨(fnd_ins hG hf w).2 (.inr (h2 w hw).1), (h2 w hw).2.ins hG hf⟩, h3⟩
theorem StkI.ins {l : List B} (hG : Good l) {v : Int} {t : Tm} (hf : fndB l v = false) : ∀ {r : List (Tm × Tm)}, StkI l r → StkI (insB l v t) r
 | [], _ => trivial
 | _ :: _, h => ⟨h.1.ins hG hf, StkI.ins hG hf h.2⟩
theorem StkI.len {l : List B} {r : List (Tm × Tm)} (h : StkI l r) : r.length ≤ 2000 * (l.length + 1) := by
 cases r with
 | nil => exact Nat.zero_le _
 | cons p r =>
  obtain ⟨D, h1, h2, h3⟩ := h.1
  have := fnd_len h1 fun w hw => (h2 w hw).1
  have h4 := p.1.size_eq
  simp only [List.length_cons]
  omega
theorem stk_push {l : List B} {D : List Int} (h1 : D.Nodup) : ∀ (us vs : List Tm) (r : List (Tm × Tm)), us.length = vs.length → (∀ u ∈ us, ∀ w ∈ D, fndB l w = true ∧ Vis l w u) → r.length + Tm.sizes us ≤ 2000 * (D.length + 1) → StkI l r → StkI l (us.zip vs ++ r)
 | [], _, r, _, _, _, hr => hr
 | u :: us, [], r, hl, _, _, _ => by cases hl
 | u :: us, v :: vs, r, hl, hD, hs, hr => by
  have hl' : us.length = vs.length := by simpa using hl
  have hs' : r.length + (u.size + Tm.sizes us) ≤ 2000 * (D.length + 1) := hs
  have hz := Tm.sizes_len us
  refine ⟨⟨D, h1, hD u List.mem_cons_self, ?_⟩, stk_push h1 us vs r hl' (fun x hx => hD x (List.mem_cons_of_mem _ hx)) (by omega) hr⟩
  show (us.zip vs ++ r).length + u.size ≤ _
  rw [List.length_append, List.length_zip]
  omega
theorem StkI.push {l : List B} (hO : OKB l) {p : Tm × Tm} {r : List (Tm × Tm)} (hp : p.1.valid = true) (h : StkI l (p :: r)) (vs : List Tm) (hk : ¬ (Go.Proofs.Ytenkiofpobeilaa.flw l p.1).kind = 0) (hl : (Go.Proofs.Ytenkiofpobeilaa.flw l p.1).args.length = vs.length) : StkI l ((Go.Proofs.Ytenkiofpobeilaa.flw l p.1).args.zip vs ++ r) := by
 obtain ⟨⟨D, h1, h2, h3⟩, hr⟩ := h
 have hx := flw_flwd hO hp
 have hxs := valid_size hx.1
 have hxe := (Go.Proofs.Ytenkiofpobeilaa.flw l p.1).size_eq
 by_cases hk0 : p.1.kind = 0
 ·have hps : p.1.size = 1 := by rw [node_var (valid_fits hp) hk0]; rfl
  have hf : fndB l p.1.n = true := by
   cases e : fndB l p.1.n with
   | true => rfl
   | false => exact absurd (by rw [flw_free hO.Acyc (valid_fits hp) hk0 (by simp [e])]; exact hk0) hk
  have hv : Vis l p.1.n (Go.Proofs.Ytenkiofpobeilaa.flw l p.1) := by
   rw [flw_to hO.Acyc hk0 hf]
   exact Vis.flw hO _ _ rfl (hO.to hf).1 (.to hf)
  have hnm : p.1.n ∉ D := fun hm => by
   have := (h2 _ hm).2.lt hO.Acyc
   rw [mu_tv (valid_fits hp) hk0] at this
   omega
  refine stk_push (D := p.1.n :: D) (List.nodup_cons.2 ⟨hnm, h1⟩) _ vs r hl (fun u hu w hw => ?_) (by simp only [List.length_cons]; omega) hr
  rcases List.mem_cons.1 hw with rfl | hw
  ·exact ⟨hf, hv.arg hk hu⟩
  ·exact ⟨(h2 w hw).1, (Vis.flw hO _ _ rfl hp (h2 w hw).2).arg hk hu⟩
 ·rw [flw_str l hk0] at hxe hk hl ⊢
  exact stk_push h1 _ vs r hl (fun u hu w hw => ⟨(h2 w hw).1, (h2 w hw).2.arg hk0 hu⟩) (by omega) hr
theorem push_ok {hp : Heap} {r len : Nat} {es : List PV} {x : PV} (h : hp[r]? = some (.arr (some 8) es false)) (hlen : len ≤ es.length) (hlim : len + 1 ≤ lim) :
  ∃ es', wAppend (some 8) hp [.sl (some 8) r es.length 0 len, .tsl (some 8) [x]] = some (.sl (some 8) r es'.length 0 (len + 1), hp.set r (.arr (some 8) es' false)) ∧ es'.take (len + 1) = es.take len ++ [x] ∧ len + 1 ≤ es'.length ∧ ∀ y ∈ es', y ∈ es ∨ y = x := by
 by_cases h1 : len = es.length
 ·subst h1
  refine ⟨es ++ [x], by simp [wAppend, aappend, elems, h, hlim], by rw [List.take_of_length_le (by simp)]; simp, by simp, fun y hy => by simpa using hy⟩
 ·have h2 : len + 1 ≤ es.length := by omega
  refine ⟨es.take len ++ [x] ++ es.drop (len + 1), ?_, ?_, ?_, fun y hy => ?_⟩
  ·have e : (es.take len ++ [x] ++ es.drop (len + 1)).length = es.length := by simp; omega
   rw [e]
   simp [wAppend, aappend, elems, h, hlim, h1, h2]
  ·rw [List.take_append_of_le_length (by simp; omega), List.take_of_length_le (by simp; omega)]
  ·simp; omega
  ·rcases List.mem_append.1 hy with hy | hy
   ·rcases List.mem_append.1 hy with hy | hy
    ·exact .inl (List.mem_of_mem_take hy)
    ·exact .inr (List.mem_singleton.1 hy)
   ·exact .inl (List.mem_of_mem_drop hy)
end Go.Proofs.Ytenkiofpobeilaa
