/- What is proved: Occurs, by the program; the reference's search. -/
import Derived.Test.YtenkiofpobeilaaOc
set_option linter.unusedSimpArgs false
set_option linter.unusedVariables false
namespace Go.Proofs.Ytenkiofpobeilaa
open Go.Am
open Classical in
noncomputable def occB (l : List B) (v : Int) (t : Tm) : Bool := decide (okb l = true ∧ t.valid = true ∧ inR l v t)
theorem occB_no {l : List B} {v : Int} {t : Tm} (h : ¬ (okb l = true ∧ t.valid = true ∧ inR l v t)) : occB l v t = false := by unfold occB; simp [h]
theorem occB_yes {l : List B} {v : Int} {t : Tm} (h : okb l = true ∧ t.valid = true ∧ inR l v t) : occB l v t = true := by unfold occB; simp [h]
theorem unS_bound (f : Int → Int) : ∀ l : List B, (∀ b ∈ l, b.2.size ≤ 1000000) → unS f l ≤ 1000000 * l.length
  | [], _ => Nat.zero_le _
  | b :: r, h => by
    have ih := unS_bound f r fun c hc => h c (List.mem_cons_of_mem _ hc)
    have h1 := h b List.mem_cons_self
    simp only [unS, List.length_cons]
    split <;> omega
theorem poccurs_ok (l : List B) (v : Int) (t : Tm) (hl : l.length < 100000000) (hsz : ∀ b ∈ l, b.2.size < 1000000000) (ht : t.size < 1000000000) (hp : Heap) :
    S 25 [.pv none (.sl (some 5) (bds l)), .pv none (.int .i64 v), t.av] hp = some (.ret (.pv none (.bool (occB l v t))), hp) := by
  refine sem_pure rfl rfl rfl (freezeAll_pvs [(none, .sl (some 5) (bds l)), (none, .int .i64 v), (some 4, t.pv)]) rfl ?_
  have h1 := pvalidB_ok l hl hsz
  have h2 := fun hp => valid_ok t hp ht
  simp only [Tm.av] at h2
  cases hb : okb l with
  | false =>
    rw [hb] at h1
    rw [occB_no (by simp [hb])]
    simp -dsimp -implicitDefEqProofs only [g25, c25r0, c25r1, c25, go_sem, seval, ↓reduceIte, Tm.av, h1, h2]
  | true =>
    rw [hb] at h1
    have hO := okb_iff.1 hb
    by_cases hv : t.valid = true
    · have hu := unS_bound (fun _ => 0) l fun b hb => by have := valid_size (hO.good.2 b hb).1; omega
      have htz := valid_size hv
      obtain ⟨m', bb, f', hcall, hR⟩ := pocc_ok l hO (by omega) v (.pv none (.sl (some 5) (bds l))) _ t [.box (some 4) (.pv (some 4) t.pv), .map none []] 1 [] (fun _ => 0) rfl hv rfl (.inl rfl) (fun _ => rfl) (fun _ => Int.le_refl _) (fun w hw => absurd rfl hw) (fun w => by omega)
      simp only [Tm.av, List.set_cons_zero, List.set_cons_succ] at hcall
      have e : occB l v t = bb := by
        cases bb with
        | true => exact occB_yes ⟨hb, hv, hR.post.yes rfl⟩
        | false => exact occB_no fun h => (hR.post.no rfl).1 h.2.2
      rw [e]
      simp -dsimp -implicitDefEqProofs only [g25, c25r0, c25r1, c25, go_sem, seval, ↓reduceIte, Tm.av, h1, h2, hv, hcall]
    · have hv' : t.valid = false := by simpa using hv
      rw [occB_no (by simp [hv'])]
      simp -dsimp -implicitDefEqProofs only [g25, c25r0, c25r1, c25, go_sem, seval, ↓reduceIte, Tm.av, h1, h2, hv']
end Go.Proofs.Ytenkiofpobeilaa
