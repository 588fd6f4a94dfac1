/- What matching means, without the program. -/
import Derived.Test.YtenkiofpobeilaaVr
set_option linter.unusedSimpArgs false
set_option linter.unusedVariables false
namespace Go.Proofs.Ytenkiofpobeilaa
open Go.Am
def Fits (f : Int → Tm) (l : List B) : Prop := ∀ b ∈ l, f b.1 = b.2
theorem find_mem {l : List B} {v : Int} (h : fndB l v = true) : (v, toB l v) ∈ l := List.mem_of_getElem? (fnd_get h)
theorem mem_ins_of {l : List B} {v : Int} {t : Tm} {x : B} (h : x = (v, t) ∨ x ∈ l) : x ∈ insB l v t := by
  unfold insB
  simp only [List.mem_append, List.mem_singleton]
  rcases h with h | h
  · exact .inl (.inr h)
  · rw [← List.take_append_drop (lbB l v) l] at h
    rcases List.mem_append.1 h with h | h
    · exact .inl (.inl h)
    · exact .inr h
theorem same_eq {a b : Tm} (h : same a b = true) : a = b := by
  unfold same at h
  simp only [Bool.and_eq_true, decide_eq_true_eq] at h
  exact Tm.cmp_zero.1 h.2.2
structure MT (p t : Tm) (l l' : List B) : Prop where
  sub : ∀ b ∈ l, b ∈ l'
  keys : ∀ v, v ∈ l'.map (·.1) ↔ v ∈ l.map (·.1) ∨ v ∈ p.occ
  inst : ∀ f, Fits f l' → Tm.sub f p = t
theorem pmts_mt : ∀ (ps ts : List Tm) (l l' : List B), (∀ p ∈ ps, ∀ (t : Tm) (l l' : List B), Good l → t.valid = true → t.size < 1000000000 → pmt p t l = some l' → MT p t l l') → Good l → (∀ t ∈ ts, t.valid = true ∧ t.size < 1000000000) → ps.length = ts.length → pmts ps ts l = some l' →
    (∀ b ∈ l, b ∈ l') ∧ (∀ v, v ∈ l'.map (·.1) ↔ v ∈ l.map (·.1) ∨ v ∈ Tm.occs ps) ∧ ∀ f, Fits f l' → ps.map (Tm.sub f) = ts
  | [], [], l, l', _, _, _, _, h => by
    have : pmts [] [] l = some l := by rw [pmts]; simp
    rw [this] at h
    cases h
    exact ⟨fun b hb => hb, fun v => by simp [Tm.occs], fun f _ => rfl⟩
  | [], t :: ts, l, l', _, _, _, hl, _ => by simp at hl
  | p :: ps, [], l, l', _, _, _, hl, _ => by simp at hl
  | p :: ps, t :: ts, l, l', ih, hG, hv, hl, h => by
    rw [pmts] at h
    cases hm : pmt p t l with
    | none => rw [hm] at h; cases h
    | some l1 =>
      rw [hm] at h
      obtain ⟨a1, a2⟩ := hv t (by simp)
      obtain ⟨b1, b2⟩ := pmt_good p t l l1 hG a1 a2 hm
      obtain ⟨c1, c2, c3⟩ := ih p (by simp) t l l1 hG a1 a2 hm
      obtain ⟨d1, d2, d3⟩ := pmts_mt ps ts l1 l' (fun q hq => ih q (by simp [hq])) b1 (fun q hq => hv q (by simp [hq])) (by simpa using hl) h
      refine ⟨fun b hb => d1 b (c1 b hb), fun v => ?_, fun f hf => ?_⟩
      · rw [d2, c2, Tm.occs, List.mem_append, or_assoc]
      · rw [List.map_cons, d3 f hf, c3 f fun b hb => hf b (d1 b hb)]
theorem pmt_mt : ∀ (p : Tm), p.fits = true → ∀ (t : Tm) (l l' : List B), Good l → t.valid = true → t.size < 1000000000 → pmt p t l = some l' → MT p t l l' := by
  intro p
  induction p using Tm.induct with
  | h p ih =>
    intro hpf t l l' hG hv ht h
    rw [pmt_eq] at h
    by_cases hk : p.kind = 0
    · rw [if_pos hk] at h
      have ho : p.occ = [p.n] := by rw [Tm.occ_eq, if_pos hk]
      have hs : ∀ f, Tm.sub f p = f p.n := fun f => by rw [Tm.sub_eq, if_pos hk]
      by_cases hf : fndB l p.n = true
      · rw [if_pos hf, fnd_get hf] at h
        simp only [] at h
        split at h
        · rename_i hsm
          cases h
          have hm := find_mem hf
          refine ⟨fun b hb => hb, fun v => ?_, fun f hfit => ?_⟩
          · rw [ho]
            simp only [List.mem_singleton]
            constructor
            · exact .inl
            · rintro (h | rfl)
              · exact h
              · exact List.mem_map.2 ⟨_, hm, rfl⟩
          · rw [hs, hfit _ hm]
            exact same_eq hsm
        · cases h
      · rw [if_neg hf] at h
        cases h
        refine ⟨fun b hb => mem_ins_of (.inr hb), fun v => ?_, fun f hfit => ?_⟩
        · rw [ho]
          simp only [List.mem_singleton, List.mem_map]
          constructor
          · rintro ⟨b, hb, rfl⟩
            rcases mem_insB hb with rfl | hb
            · exact .inr rfl
            · exact .inl ⟨b, hb, rfl⟩
          · rintro (⟨b, hb, rfl⟩ | rfl)
            · exact ⟨b, mem_ins_of (.inr hb), rfl⟩
            · exact ⟨_, mem_ins_of (.inl rfl), rfl⟩
        · rw [hs]
          exact hfit _ (mem_ins_of (.inl rfl))
    · rw [if_neg hk] at h
      split at h
      · rename_i hall
        obtain ⟨h1, h2, h3, h4⟩ := hall
        obtain ⟨d1, d2, d3⟩ := pmts_mt p.args t.args l l' (fun q hq => ih q hq (Tm.fits_arg hpf hq)) hG (fun u hu => ⟨valid_arg hv hu, by have := Tm.arg_lt hu; omega⟩) h4 h
        refine ⟨d1, fun v => by rw [d2, Tm.occ_eq, if_neg hk], fun f hf => ?_⟩
        rw [Tm.sub_eq, if_neg hk, d3 f hf, h1, h2, h3]
        cases t; rfl
      · cases h
theorem pmts_inst (f : Int → Tm) : ∀ (ps : List Tm) (l : List B), (∀ p ∈ ps, ∀ l, Good l → Fits f l → p.fits = true → (Tm.sub f p).valid = true → ∃ l', pmt p (Tm.sub f p) l = some l' ∧ Fits f l' ∧ Good l') → Good l → Fits f l → (∀ p ∈ ps, p.fits = true ∧ (Tm.sub f p).valid = true) → ∃ l', pmts ps (ps.map (Tm.sub f)) l = some l' ∧ Fits f l' ∧ Good l'
  | [], l, _, hG, hf, _ => ⟨l, by rw [List.map_nil, pmts]; simp, hf, hG⟩
  | p :: ps, l, ih, hG, hf, hv => by
    obtain ⟨a1, a2⟩ := hv p (by simp)
    obtain ⟨l1, h1, h2, h3⟩ := ih p (by simp) l hG hf a1 a2
    obtain ⟨l2, h4, h5, h6⟩ := pmts_inst f ps l1 (fun q hq => ih q (by simp [hq])) h3 h2 (fun q hq => hv q (by simp [hq]))
    exact ⟨l2, by rw [List.map_cons, pmts, h1]; exact h4, h5, h6⟩
theorem pmt_inst (f : Int → Tm) : ∀ (p : Tm) (l : List B), Good l → Fits f l → p.fits = true → (Tm.sub f p).valid = true → ∃ l', pmt p (Tm.sub f p) l = some l' ∧ Fits f l' ∧ Good l' := by
  intro p
  induction p using Tm.induct with
  | h p ih =>
    intro l hG hf hp hv
    have hsz := valid_size hv
    have hgood := fun l' h => (pmt_good p (Tm.sub f p) l l' hG hv (by omega) h).1
    rw [pmt_eq] at hgood ⊢
    by_cases hk : p.kind = 0
    · rw [if_pos hk] at hgood ⊢
      have hs : Tm.sub f p = f p.n := by rw [Tm.sub_eq, if_pos hk]
      by_cases hfd : fndB l p.n = true
      · rw [if_pos hfd, fnd_get hfd] at hgood ⊢
        have he := hf _ (find_mem hfd)
        simp only at he
        have hsm : same (toB l p.n) (Tm.sub f p) = true := by
          rw [hs, ← he]
          exact same_self (by rw [← hs]; exact hv)
        simp only [hsm, if_true] at hgood ⊢
        exact ⟨l, rfl, hf, hG⟩
      · rw [if_neg hfd] at hgood ⊢
        refine ⟨_, rfl, fun b hb => ?_, hgood _ rfl⟩
        rcases mem_insB hb with rfl | hb
        · exact hs.symm
        · exact hf b hb
    · rw [if_neg hk] at hgood ⊢
      have hs : Tm.sub f p = .mk p.kind p.n p.name (p.args.map (Tm.sub f)) := by rw [Tm.sub_eq, if_neg hk]
      have hc : p.kind = (Tm.sub f p).kind ∧ p.n = (Tm.sub f p).n ∧ p.name = (Tm.sub f p).name ∧ p.args.length = (Tm.sub f p).args.length := by
        rw [hs]; simp [Tm.kind, Tm.n, Tm.name, Tm.args]
      rw [if_pos hc]
      have ha : (Tm.sub f p).args = p.args.map (Tm.sub f) := by rw [hs]; rfl
      rw [ha]
      refine pmts_inst f p.args l ih hG hf fun q hq => ⟨Tm.fits_arg hp hq, ?_⟩
      exact valid_arg hv (by rw [ha]; exact List.mem_map.2 ⟨q, hq, rfl⟩)
theorem to_of {l : List B} (hs : Srt' l) {b : B} (hb : b ∈ l) : fndB l b.1 = true ∧ toB l b.1 = b.2 := by
  obtain ⟨i, hlt, rfl⟩ := List.getElem_of_mem hb
  have hg := List.getElem?_eq_getElem hlt
  obtain ⟨h1, h2⟩ := fnd_of hs hg
  refine ⟨h1, ?_⟩
  unfold toB
  rw [h2, hg]
theorem fnd_iff {l : List B} (hs : Srt' l) (v : Int) : fndB l v = true ↔ v ∈ l.map (·.1) := by
  constructor
  · intro h; exact List.mem_map.2 ⟨_, find_mem h, rfl⟩
  · intro h
    obtain ⟨b, hb, rfl⟩ := List.mem_map.1 h
    exact (to_of hs hb).1
theorem occ_sub {f : Int → Tm} {w : Int} : ∀ p : Tm, w ∈ (Tm.sub f p).occ ↔ ∃ v ∈ p.occ, w ∈ (f v).occ := by
  intro p
  induction p using Tm.induct with
  | h p ih =>
    rw [Tm.sub_eq]
    by_cases hk : p.kind = 0
    · rw [if_pos hk, Tm.occ_eq p, if_pos hk]
      simp
    · rw [if_neg hk, Tm.occ_eq p, if_neg hk, Tm.occ_eq, if_neg (by exact hk)]
      constructor
      · intro h
        obtain ⟨u, hu, h⟩ := Tm.occs_inv h
        obtain ⟨x, hx, rfl⟩ := List.mem_map.1 hu
        obtain ⟨v, hv, h⟩ := (ih x hx).1 h
        exact ⟨v, Tm.occs_mem hx hv, h⟩
      · rintro ⟨v, hv, h⟩
        obtain ⟨x, hx, hv⟩ := Tm.occs_inv hv
        exact Tm.occs_mem (List.mem_map.2 ⟨x, hx, rfl⟩) ((ih x hx).2 ⟨v, hv, h⟩)
theorem sub_tvar : ∀ t : Tm, t.fits = true → Tm.sub tvar t = t := by
  intro t
  induction t using Tm.induct with
  | h t ih =>
    intro hf
    rw [Tm.sub_eq]
    by_cases hk : t.kind = 0
    · rw [if_pos hk, ← node_var hf hk]
    · rw [if_neg hk]
      have : t.args.map (Tm.sub tvar) = t.args := by
        have h := List.map_congr_left (l := t.args) (f := Tm.sub tvar) (g := id) fun u hu => ih u hu (Tm.fits_arg hf hu)
        rw [h, List.map_id]
      rw [this]
      cases t; rfl
theorem sub_shf (f : Int → Tm) (d : Int) : ∀ t : Tm, Tm.sub f (shf d t) = Tm.sub (fun v => f (v + d)) t := by
  intro t
  induction t using Tm.induct with
  | h t ih =>
    rw [Tm.sub_eq _ t]
    by_cases hk : t.kind = 0
    · rw [if_pos hk, shf_var d hk]
      rfl
    · rw [if_neg hk, shf_str d hk, Tm.sub_eq, if_neg (by exact hk)]
      simp only [Tm.kind, Tm.n, Tm.name, Tm.args, List.map_map]
      congr 1
      exact List.map_congr_left fun u hu => ih u hu
theorem shf_size (d : Int) : ∀ t : Tm, t.fits = true → (shf d t).size = t.size := by
  intro t
  induction t using Tm.induct with
  | h t ih =>
    intro hf
    by_cases hk : t.kind = 0
    · have e := node_var hf hk
      rw [shf_var d hk, e]
      rfl
    · rw [shf_str d hk, Tm.size_eq, Tm.size_eq t]
      have key : ∀ l : List Tm, (∀ u ∈ l, (shf d u).size = u.size) → Tm.sizes (l.map (shf d)) = Tm.sizes l := by
        intro l
        induction l with
        | nil => intro _; rfl
        | cons x r ih2 => intro h; simp only [List.map_cons, Tm.sizes, h x (by simp), ih2 fun u hu => h u (by simp [hu])]
      rw [show (Tm.mk t.kind t.n t.name (t.args.map (shf d))).args = t.args.map (shf d) from rfl, key t.args fun u hu => ih u hu (Tm.fits_arg hf hu)]
theorem tvar_fits {n : Int} (h : 0 ≤ n ∧ n ≤ 1099511627776) : (tvar n).fits = true := by
  simp [tvar, Tm.fits, Tm.fitsAll, Tm.node, Tm.kind, Tm.n, Tm.name, Tm.args, h.1, h.2]
theorem shf_fits {d : Int} (hd : 0 ≤ d) : ∀ t : Tm, t.fits = true → (∀ w ∈ t.occ, w + d ≤ 1099511627776) → (shf d t).fits = true := by
  intro t
  induction t using Tm.induct with
  | h t ih =>
    intro hf hw
    by_cases hk : t.kind = 0
    · rw [shf_var d hk]
      have := node_n hf hk
      have := hw t.n (by rw [Tm.occ_eq, if_pos hk]; simp)
      exact tvar_fits ⟨by omega, by omega⟩
    · rw [shf_str d hk, Tm.fits_eq]
      have h1 := hf
      rw [Tm.fits_eq] at h1
      simp only [Bool.and_eq_true] at h1 ⊢
      refine ⟨?_, Tm.fitsAll_iff.2 fun u hu => ?_⟩
      · have := h1.1
        cases t
        simp only [Tm.node, Tm.kind, Tm.n, Tm.name, Tm.args, List.length_map] at this ⊢
        exact this
      · obtain ⟨x, hx, rfl⟩ := List.mem_map.1 hu
        exact ih x hx (Tm.fits_arg hf hx) fun w hw' => hw w (Tm.occ_arg hk hx hw')
def mvd (d : Int) (m : List B) : List B := m.map fun b => (b.1 + d, b.2)
theorem rs_free_all {l : List B} (h : Acyc l) {t : Tm} (hf : t.fits = true) (hw : ∀ w ∈ t.occ, ¬ fndB l w = true) : rs l t = t := by
  have e : Tm.sub (rsv l) t = Tm.sub tvar t := Tm.sub_congr t fun w hw' => by rw [rsv_eq h, if_neg (hw w hw')]
  unfold rs
  rw [e]
  exact sub_tvar t hf
theorem matched_law {p t : Tm} {m : List B} {d : Int} (hd : 0 ≤ d) (hp : p.valid = true) (ht : t.valid = true) (h : pmt p t [] = some m) (hpd : ∀ w ∈ p.occ, w + d ≤ 1099511627776) (htd : ∀ w ∈ t.occ, w < d) :
    m.length = (vads [] p.occ).length ∧ OKB (mvd d m) ∧ (shf d p).valid = true ∧ rs (mvd d m) (shf d p) = t := by
  have hsz := valid_size ht
  have hG0 : Good [] := ⟨by simp [Srt'], by simp⟩
  obtain ⟨hG, _⟩ := pmt_good p t [] m hG0 ht (by omega) h
  have hM := pmt_mt p (valid_fits hp) t [] m hG0 ht (by omega) h
  have hkey : ∀ v, v ∈ m.map (·.1) ↔ v ∈ p.occ := fun v => by rw [hM.keys]; simp
  have hnd : (m.map (·.1)).Nodup := by
    have h1 : m.Pairwise (fun a b => a.1 < b.1) := hG.1
    refine List.pairwise_map.2 (h1.imp fun h => ?_)
    omega
  have hocc : ∀ b ∈ m, ∀ w ∈ b.2.occ, w < d := fun b hb w hw => by
    refine htd w ?_
    have e := hM.inst (toB m) fun c hc => (to_of hG.1 hc).2
    rw [← e]
    exact (occ_sub p).2 ⟨b.1, (hkey b.1).1 (List.mem_map.2 ⟨b, hb, rfl⟩), by rw [(to_of hG.1 hb).2]; exact hw⟩
  have hGm : Good (mvd d m) := by
    refine ⟨?_, fun b hb => ?_⟩
    · have h1 : m.Pairwise (fun a b => a.1 < b.1) := hG.1
      exact List.pairwise_map.2 (h1.imp fun h => by show _ + d < _ + d; omega)
    · obtain ⟨c, hc, rfl⟩ := List.mem_map.1 hb
      exact hG.2 c hc
  have hno : ∀ b ∈ m, ∀ w ∈ b.2.occ, ¬ fndB (mvd d m) w = true := fun b hb w hw hf => by
    obtain ⟨c, hc, hcw⟩ := List.mem_map.1 ((fnd_iff hGm.1 w).1 hf)
    obtain ⟨e, he, rfl⟩ := List.mem_map.1 hc
    have h1 := hocc b hb w hw
    have h2 := (occ_rng (valid_fits hp) e.1 ((hkey e.1).1 (List.mem_map.2 ⟨e, he, rfl⟩))).1
    simp only at hcw
    omega
  have hAc : Acyc (mvd d m) := by
    refine ⟨fun _ => 0, fun v hv w hw hf => ?_⟩
    obtain ⟨c, hc, hcv⟩ := List.mem_map.1 (find_mem hv)
    injection hcv with h1 h2
    exact absurd hf (hno c hc w (by rw [h2]; exact hw))
  refine ⟨?_, okb_of hGm (fun b hb => ?_) hAc, ?_, ?_⟩
  · have hp := (List.perm_ext_iff_of_nodup hnd (vads_nodup p.occ [] List.nodup_nil)).2 fun v => by rw [hkey, vads_mem]; simp
    have := hp.length_eq
    rw [List.length_map] at this
    exact this
  · obtain ⟨c, hc, rfl⟩ := List.mem_map.1 hb
    have h1 := (hkey c.1).1 (List.mem_map.2 ⟨c, hc, rfl⟩)
    have h2 := hpd c.1 h1
    have h3 := (occ_rng (valid_fits hp) c.1 h1).1
    exact ⟨by show 0 ≤ c.1 + d; omega, h2⟩
  · exact valid_of (shf_fits hd p (valid_fits hp) hpd) (by rw [shf_size d p (valid_fits hp)]; exact valid_size hp)
  · unfold rs
    rw [sub_shf]
    refine hM.inst _ fun b hb => ?_
    obtain ⟨h1, h2⟩ := to_of hGm.1 (List.mem_map.2 ⟨b, hb, rfl⟩ : (b.1 + d, b.2) ∈ mvd d m)
    show rsv (mvd d m) (b.1 + d) = b.2
    rw [rsv_eq hAc, if_pos h1, h2]
    exact rs_free_all hAc (valid_fits (hG.2 b hb).1) (hno b hb)
end Go.Proofs.Ytenkiofpobeilaa
