/- What is proved: the reference's Resolve, and which bindings a statement looks at. -/
import Derived.Test.YtenkiofpobeilaaMp
set_option linter.unusedSimpArgs false
set_option linter.unusedVariables false
namespace Go.Proofs.Ytenkiofpobeilaa
open Go.Am
open Classical in
noncomputable def okb (l : List B) : Bool := decide (OKB l)
theorem okb_iff {l : List B} : okb l = true ↔ OKB l := by unfold okb; simp
theorem rvalidB_eq (l : List B) (hl : l.length < 100000000) (hsz : ∀ b ∈ l, b.2.size < 1000000000) (hp : Heap) : S 17 [.pv none (.sl (some 5) (bds l))] hp = some (.ret (.pv none (.bool (okb l))), hp) := by
 obtain ⟨v, h1, b, rfl, h2⟩ := rvalidB_ok l hl hsz
 have : b = okb l := by
  rw [Bool.eq_iff_iff, h2, okb_iff]
 rw [h1, this]
noncomputable def rsR (l : List B) (t : Tm) : Tm × Int := if okb l = true ∧ t.valid = true then (if (rs l t).size ≤ 2000 then (rs l t, 0) else (zt, 2)) else (zt, 1)
theorem rresolve_ok (l : List B) (t : Tm) (hl : l.length < 100000000) (hsz : ∀ b ∈ l, b.2.size < 1000000000) (ht : t.size < 1000000000) (hp : Heap) :
  S 22 [.pv none (.sl (some 5) (bds l)), t.av] hp = some (.ret (.tuple [(rsR l t).1.av, .pv none (.int .i64 (rsR l t).2)]), hp) := by
 refine sem_pure rfl rfl rfl (freezeAll_pvs [(none, .sl (some 5) (bds l)), (some 4, t.pv)]) rfl ?_
 have h1 := rvalidB_eq l hl hsz
 have h2 := fun hp => rvalid_ok t hp ht
 simp only [Tm.av] at h2
 unfold rsR
 cases hb : okb l with
 | false =>
  rw [hb] at h1
  rw [if_neg (by simp)]; dsimp only
  simp -dsimp -implicitDefEqProofs only [g22, c22r0, c22r1, c22r2, c22k3, c22r4, c22r5, c22r6, c22k7, c22r8, c22, go_sem, seval, ↓reduceIte, Tm.av, h1, h2, w_alloc_agg, w_store_agg (Nat.zero_le _), hb0]
  exact frozen_zt2 _ _ _ rfl
 | true =>
  rw [hb] at h1
  have hO := okb_iff.1 hb
  by_cases hv : t.valid = true
  ·rw [if_pos ⟨rfl, hv⟩]
   have h3 := rres1_ok l hO (by omega) t hv
   unfold rsd at h3
   by_cases hs : (rs l t).size ≤ 2000
   ·rw [if_pos hs]; dsimp only
    rw [if_pos hs] at h3
    simp only [Tm.av] at h3
    simp -dsimp -implicitDefEqProofs only [g22, c22r0, c22r1, c22r2, c22k3, c22r4, c22r5, c22r6, c22k7, c22r8, c22, go_sem, seval, ↓reduceIte, Tm.av, h1, h2, hv, h3, w_alloc_agg, w_store_agg (Nat.zero_le _), hb0]
    exact frozen_two _ _ _ _ _
   ·rw [if_neg hs]; dsimp only
    rw [if_neg hs] at h3
    simp only [Tm.av] at h3
    simp -dsimp -implicitDefEqProofs only [g22, c22r0, c22r1, c22r2, c22k3, c22r4, c22r5, c22r6, c22k7, c22r8, c22, go_sem, seval, ↓reduceIte, Tm.av, h1, h2, hv, h3, w_alloc_agg, w_store_agg (Nat.zero_le _), hb0]
    exact frozen_zt2 _ _ _ rfl
  ·rw [if_neg fun h => hv h.2]; dsimp only
   have hv' : t.valid = false := by simpa using hv
   simp -dsimp -implicitDefEqProofs only [g22, c22r0, c22r1, c22r2, c22k3, c22r4, c22r5, c22r6, c22k7, c22r8, c22, go_sem, seval, ↓reduceIte, Tm.av, h1, h2, hv', w_alloc_agg, w_store_agg (Nat.zero_le _), hb0]
   exact frozen_zt2 _ _ _ rfl
theorem long_ok (l : List B) (hl : l.length < 100000000) (hsz : ∀ b ∈ l, b.2.size < 1000000000) : ∃ b : Bool, (∀ hp, S 10 [.pv none (.sl (some 5) (bds l))] hp = some (.ret (.pv none (.bool b)), hp)) ∧ (b = false → l.length ≤ 60) := by
 obtain ⟨v, h1, b, rfl, h2⟩ := sem_pure_ex (F := find tab) (prim := prim) (f := 10) (ps := [(none, .sl (some 5) (bds l))]) (args := [.pv none (.sl (some 5) (bds l))]) (fun v => ∃ b : Bool, v = .pv none (.bool b) ∧ (b = false → l.length ≤ 60)) rfl rfl rfl (fun hp => rfl) rfl (by
  by_cases h60 : (60 : Int) < (l.length : Int)
  ·simp -dsimp -implicitDefEqProofs only [g10, c10r0, c10r1, c10r2, c10k3, c10r4, c10r5, c10r6, c10k7, c10r8, c10k9, c10r10, c10r13, c10, go_sem, seval, ↓reduceIte, bds_len, h60]
   exact ⟨_, rfl, true, rfl, fun e => by cases e⟩
  ·simp -dsimp -implicitDefEqProofs only [g10, c10r0, c10r1, c10r2, c10k3, c10r4, c10r5, c10r6, c10k7, c10r8, c10k9, c10r10, c10k12, c10r13, c10, go_sem, seval, ↓reduceIte, bds_len, h60]
   refine W_for (α := Nat) l.length (fun i n => n ≤ 2001 * i) (fun i n => ⟨[(0, .pv none (.sl (some 5) (bds l))), (3, .pv none (.int .i64 n)), (4, .pv none (.int .i64 i))], []⟩) 0 ⟨by omega, rfl⟩ ?_ ?_
   ·rintro i n h hinv
    have hc : (i : Int) < (l.length : Int) := by omega
    obtain ⟨b, hb⟩ : ∃ b, l[i]? = some b := ⟨_, List.getElem?_eq_getElem h⟩
    have hs := fun hp => rsize_ok b.2 hp (hsz b (List.mem_of_getElem? hb))
    simp only [Tm.av] at hs
    have w2 : IntKind.i64.wrap ((i : Int) + 1) = ((i + 1 : Nat) : Int) := by rw [wrap64 (by omega) (by omega)]; omega
    have w3 : IntKind.i64.wrap ((n : Int) + ((min b.2.size 2001 : Nat) : Int)) = ((n + min b.2.size 2001 : Nat) : Int) := by rw [wrap64 (by omega) (by omega)]; omega
    simp -dsimp -implicitDefEqProofs only [g10, c10r0, c10r1, c10r2, c10k3, c10r4, c10r5, c10r6, c10k7, c10r8, c10k9, c10r10, c10b11, c10k12, c10r13, c10, go_sem, seval, ↓reduceIte, bds_len, hc, s_iaddr_pv (bds_get hb), part_to, hs, w2, w3]
    exact ⟨_, by show n + min b.2.size 2001 ≤ _; omega, rfl⟩
   ·rintro n hinv
    have hc : ¬ (l.length : Int) < (l.length : Int) := by omega
    simp -dsimp -implicitDefEqProofs only [g10, c10r0, c10r1, c10r2, c10k3, c10r4, c10r5, c10r6, c10k7, c10r8, c10k9, c10r10, c10b11, c10k12, c10r13, c10, go_sem, seval, ↓reduceIte, bds_len, hc]
    exact ⟨_, rfl, _, rfl, fun _ => by omega⟩)
 exact ⟨b, h1, h2⟩
theorem awake_all (hp : Heap) (h : S 11 [] [] = some (.ret (.pv none (.bool true)), [])) : S 11 [] hp = some (.ret (.pv none (.bool true)), hp) := sem_any (ps := []) rfl rfl rfl rfl h
end Go.Proofs.Ytenkiofpobeilaa
