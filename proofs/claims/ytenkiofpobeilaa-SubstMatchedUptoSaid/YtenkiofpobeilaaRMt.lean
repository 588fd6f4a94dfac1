/- What is proved: the reference's match of a pattern, and whether bindings are the same. -/
import Derived.Test.YtenkiofpobeilaaRFd
set_option linter.unusedSimpArgs false
set_option linter.unusedVariables false
namespace Go.Proofs.Ytenkiofpobeilaa
open Go.Am
theorem sem_pure_ex {F : FuncId → Option AFn} {prim : FuncId → Option PrimO} {f : FuncId} {fn : AFn} {args : List AV} {ps : List (Sh × PV)} (P : AV → Prop) (hp0 : prim f = none) (hf : F f = some fn) (hm : fn.heapMode = false) (hz : ∀ hp, freezeAll args hp = some (ps, hp)) (hn : (pvs ps).length = fn.nparams)
    (h : W (sem F prim) (sloop F prim) 0 fn.code ⟨params 0 (pvs ps), []⟩ (endK fn.results (fun v hp => ∃ v', Am.frozen v' v hp ∧ P v'))) (hr : fn.rcv = none := by rfl) (hmo : fn.more = [] := by rfl) : ∃ v, (∀ hp, sem F prim .fn f args hp = some (.ret v, hp)) ∧ P v := by
  have key : ∃ v, P v ∧ W (sem F prim) (sloop F prim) 0 fn.code ⟨params 0 (pvs ps), []⟩ (endK fn.results (Am.frozen v)) := by
    unfold W at h ⊢
    split at h
    · rename_i e st' he
      cases e with
      | normal =>
        rw [endK_normal] at h
        cases hr : resultOf st' fn.results with
        | none => rw [hr] at h; exact h.elim
        | some u => rw [hr] at h; obtain ⟨v', h1, h2⟩ := h; exact ⟨v', h2, by simp only [he, endK_normal, hr]; exact h1⟩
      | ret =>
        rw [endK_ret] at h
        cases hr : resultOf st' fn.results with
        | none => rw [hr] at h; exact h.elim
        | some u => rw [hr] at h; obtain ⟨v', h1, h2⟩ := h; exact ⟨v', h2, by simp only [he, endK_ret, hr]; exact h1⟩
      | exit i => exact h.elim
      | panic v => exact h.elim
    · exact h.elim
  obtain ⟨v, h1, h2⟩ := key
  exact ⟨v, fun hp => sem_pure hp0 hf hm (hz hp) hn h2 hr hmo, h1⟩
def RP (R : Option (List B)) (v : AV) : Prop := ∃ l', v = .tuple [.pv none (.sl (some 5) (bds l')), .pv none (.bool R.isSome)] ∧ ∀ l1, R = some l1 → l' = l1
theorem rp_end {R : Option (List B)} {b : Bool} {l' : List B} (hb : R.isSome = b) (h : ∀ l1, R = some l1 → l' = l1) : ∃ v', AV.tuple [.pv none (.sl (some 5) (bds l')), .pv none (.bool b)] = v' ∧ RP R v' :=
  ⟨.tuple [.pv none (.sl (some 5) (bds l')), .pv none (.bool b)], rfl, l', by rw [hb], h⟩
theorem rmatched_ok : ∀ (p t : Tm) (l : List B), Good l → t.valid = true → t.size < 1000000000 → l.length + p.size < 100000000 → ∃ v, (∀ hp, S 40 [.pv none (.sl (some 5) (bds l)), p.av, t.av] hp = some (.ret v, hp)) ∧ RP (pmt p t l) v := by
  intro p
  induction p using Tm.induct with
  | h p ih =>
    intro t l hG hv ht hl
    have hps := p.size_eq
    have hlen := Tm.sizes_len p.args
    have hpe := pmt_eq p t l
    generalize hR : pmt p t l = R at hpe
    have hn0 : ∀ H : Heap, wNilsl (some 5) H = some (.sl (some 5) H.length 0 0 0, H ++ [.arr (some 5) [] false]) := fun H => w_nilsl (sh := some 5) (by decide)
    have hfd := rfind_ok l p.n hG.1 (by omega)
    have hcl := fun hp => rclone_ok t hp hv ht
    simp only [Tm.av] at hcl
    refine sem_pure_ex (ps := [(none, .sl (some 5) (bds l)), (some 4, p.pv), (some 4, t.pv)]) (RP R) rfl rfl rfl (fun hp => rfl) rfl ?_
    by_cases hk : p.kind = 0
    · rw [if_pos hk] at hpe
      by_cases hf : fndB l p.n = true
      · rw [if_pos hf] at hpe
        obtain ⟨b, hb⟩ : ∃ b, l[lbB l p.n]? = some b := by
          unfold fndB at hf
          split at hf
          · exact ⟨_, ‹_›⟩
          · cases hf
        rw [hb] at hpe
        obtain ⟨hbv, hbs⟩ := hG.2 b (List.mem_of_getElem? hb)
        have hfi : fdI l p.n = (lbB l p.n : Int) := by unfold fdI; rw [if_pos hf]
        have hnn : ¬ ((lbB l p.n : Nat) : Int) < 0 := by omega
        have hsame := fun hp => rsame_ok b.2 t hp hbs ht
        simp only [Tm.av] at hsame
        rw [hfi] at hfd
        simp -dsimp -implicitDefEqProofs only [g40, c40r0, c40r1, c40r2, c40r3, c40r4, c40k5, c40r6, c40k7, c40r8, c40r9, c40k10, c40r11, c40r12, c40k13, c40r14, c40r15, c40r16, c40k17, c40r18, c40k19, c40r20, c40b21, c40k22, c40r23, c40, go_sem, seval, ↓reduceIte, Tm.av, part_kind, part_n, hk, hfd, hnn, s_iaddr_pv (bds_get hb), part_to, hsame, hn0]
        refine rp_end ?_ ?_
        · rw [hpe]; simp only []; cases same b.2 t <;> rfl
        · intro l1 h; rw [hpe] at h; simp only [] at h; split at h
          · cases h; rfl
          · cases h
      · have hf' : fndB l p.n = false := by simpa using hf
        rw [if_neg hf] at hpe
        have hfi : fdI l p.n = -1 := by unfold fdI; rw [if_neg hf]
        rw [hfi] at hfd
        have hnn : (-1 : Int) < 0 := by omega
        have hbo := rbound_ok l p.n t hG.1 hf' (by omega)
        simp -dsimp -implicitDefEqProofs only [g40, c40r0, c40r1, c40r2, c40r3, c40r4, c40k5, c40r6, c40k7, c40r8, c40r9, c40k10, c40r11, c40r12, c40k13, c40r14, c40r15, c40r16, c40k17, c40r18, c40k19, c40r20, c40b21, c40k22, c40r23, c40, go_sem, seval, ↓reduceIte, Tm.av, part_kind, part_n, hk, hfd, hnn, hcl, hbo, hn0]
        refine rp_end ?_ ?_
        · rw [hpe]; rfl
        · intro l1 h; rw [hpe] at h; cases h; rfl
    · rw [if_neg hk] at hpe
      by_cases hall : p.kind = t.kind ∧ p.n = t.n ∧ p.name = t.name ∧ p.args.length = t.args.length
      · rw [if_pos hall] at hpe
        obtain ⟨c1, c2, c3, c4⟩ := hall
        have hkt : ¬ t.kind = 0 := by rw [← c1]; exact hk
        simp -dsimp -implicitDefEqProofs only [g40, c40r0, c40r1, c40r2, c40r3, c40r4, c40k5, c40r6, c40k7, c40r8, c40r9, c40k10, c40r11, c40r12, c40k13, c40r14, c40r15, c40r16, c40k17, c40r18, c40k19, c40r20, c40r23, c40, go_sem, seval, ↓reduceIte, Tm.av, part_kind, part_n, part_name, part_args, Tm.pvs_len, hk, hn0, hkt, c1, c2, c3, c4]
        simp -dsimp -implicitDefEqProofs only [g40, c40r0, c40r1, c40r2, c40r3, c40r4, c40k5, c40r6, c40k7, c40r8, c40r9, c40k10, c40r11, c40r12, c40k13, c40r14, c40r15, c40r16, c40k17, c40r18, c40k19, c40r20, c40b21, c40k22, c40r23, c40, go_sem, seval, ↓reduceIte]
        refine W_for (α := List B) p.args.length (fun i l1 => R = pmts (p.args.drop i) (t.args.drop i) l1 ∧ Good l1 ∧ l1.length ≤ l.length + Tm.sizes (p.args.take i))
          (fun i l1 => ⟨[(0, .pv none (.sl (some 5) (bds l1))), (4, .ptr 0 0), (5, .ptr 1 0), (9, .pv none (.int .i64 i))], [.box (some 4) (.pv (some 4) p.pv), .box (some 4) (.pv (some 4) t.pv), .arr (some 5) [] false]⟩) l ⟨⟨hpe, hG, by omega⟩, rfl⟩ ?_ ?_
        · rintro i l1 h ⟨y1, y4, y5⟩
          have hc : (i : Int) < (p.args.length : Int) := by omega
          obtain ⟨u, hu⟩ : ∃ u, p.args[i]? = some u := ⟨_, List.getElem?_eq_getElem h⟩
          obtain ⟨w, hw⟩ : ∃ w, t.args[i]? = some w := ⟨_, List.getElem?_eq_getElem (by omega)⟩
          have hum := List.mem_of_getElem? hu
          have hwm := List.mem_of_getElem? hw
          have hst := Tm.sizes_take hu
          have hle := Tm.sizes_take_le p.args (i + 1)
          have hws := Tm.arg_lt hwm
          obtain ⟨v, hcall, l2, rfl, hv2⟩ := ih u hum w l1 y4 (valid_arg hv hwm) (by omega) (by omega)
          simp only [Tm.av] at hcall
          have w2 : IntKind.i64.wrap ((i : Int) + 1) = ((i + 1 : Nat) : Int) := by rw [wrap64 (by omega) (by omega)]; omega
          rw [pmts_drop hu hw] at y1
          cases hm : pmt u w l1 with
          | none =>
            rw [hm] at y1 hcall
            simp only [Option.isSome_none] at hcall
            have hend : ∃ v', AV.tuple [.pv none (.sl (some 5) []), .pv none (.bool false)] = v' ∧ RP R v' := rp_end (l' := []) (by rw [y1]; rfl) (fun l1 h => by rw [y1] at h; cases h)
            simp -dsimp -implicitDefEqProofs only [g40, c40r0, c40r1, c40r2, c40r3, c40r4, c40k5, c40r6, c40k7, c40r8, c40r9, c40k10, c40r11, c40r12, c40k13, c40r14, c40r15, c40r16, c40k17, c40r18, c40k19, c40r20, c40b21, c40k22, c40r23, c40, go_sem, seval, ↓reduceIte, part_args, Tm.pvs_len, hc, s_iaddr_pv (Tm.pvs_get hu), s_iaddr_pv (Tm.pvs_get hw), hcall, hn0]
            exact hend
          | some l3 =>
            rw [hm] at y1 hcall
            simp only [Option.isSome_some] at hcall
            obtain rfl := hv2 l3 hm
            obtain ⟨g1, g2⟩ := pmt_good u w l1 l2 y4 (valid_arg hv hwm) (by omega) hm
            simp -dsimp -implicitDefEqProofs only [g40, c40r0, c40r1, c40r2, c40r3, c40r4, c40k5, c40r6, c40k7, c40r8, c40r9, c40k10, c40r11, c40r12, c40k13, c40r14, c40r15, c40r16, c40k17, c40r18, c40k19, c40r20, c40b21, c40k22, c40r23, c40, go_sem, seval, ↓reduceIte, part_args, Tm.pvs_len, hc, s_iaddr_pv (Tm.pvs_get hu), s_iaddr_pv (Tm.pvs_get hw), hcall, hn0, w2]
            exact ⟨l2, ⟨y1, g1, by omega⟩, rfl⟩
        · rintro l1 ⟨y1, y4, y5⟩
          have hc : ¬ (p.args.length : Int) < (p.args.length : Int) := by omega
          have y2 : R = some l1 := by
            rw [y1, List.drop_length]
            have : t.args.drop p.args.length = [] := by rw [c4, List.drop_length]
            rw [this, pmts]
            simp
          simp -dsimp -implicitDefEqProofs only [g40, c40r0, c40r1, c40r2, c40r3, c40r4, c40k5, c40r6, c40k7, c40r8, c40r9, c40k10, c40r11, c40r12, c40k13, c40r14, c40r15, c40r16, c40k17, c40r18, c40k19, c40r20, c40b21, c40k22, c40r23, c40, go_sem, seval, ↓reduceIte, part_args, Tm.pvs_len, hc]
          exact rp_end (by rw [y2]; rfl) (fun l4 h => by rw [y2] at h; cases h; rfl)
      · rw [if_neg hall] at hpe
        have hend : ∃ v', AV.tuple [.pv none (.sl (some 5) []), .pv none (.bool false)] = v' ∧ RP R v' := rp_end (l' := []) (by rw [hpe]; rfl) (fun l1 h => by rw [hpe] at h; cases h)
        by_cases c1 : p.kind = t.kind
        · have hkt : ¬ t.kind = 0 := by rw [← c1]; exact hk
          by_cases c2 : p.n = t.n
          · by_cases c3 : p.name = t.name
            · have c4 : ¬ (p.args.length : Int) = (t.args.length : Int) := fun e => hall ⟨c1, c2, c3, by omega⟩
              simp -dsimp -implicitDefEqProofs only [g40, c40r0, c40r1, c40r2, c40r3, c40r4, c40k5, c40r6, c40k7, c40r8, c40r9, c40k10, c40r11, c40r12, c40k13, c40r14, c40r15, c40r16, c40k17, c40r18, c40k19, c40r20, c40r23, c40, go_sem, seval, ↓reduceIte, Tm.av, part_kind, part_n, part_name, part_args, Tm.pvs_len, hk, hn0, hkt, c1, c2, c3, c4]
              exact hend
            · simp -dsimp -implicitDefEqProofs only [g40, c40r0, c40r1, c40r2, c40r3, c40r4, c40k5, c40r6, c40k7, c40r8, c40r9, c40k10, c40r11, c40r12, c40k13, c40r14, c40r15, c40r16, c40k17, c40r18, c40k19, c40r20, c40r23, c40, go_sem, seval, ↓reduceIte, Tm.av, part_kind, part_n, part_name, part_args, Tm.pvs_len, hk, hn0, hkt, c1, c2, c3]
              exact hend
          · simp -dsimp -implicitDefEqProofs only [g40, c40r0, c40r1, c40r2, c40r3, c40r4, c40k5, c40r6, c40k7, c40r8, c40r9, c40k10, c40r11, c40r12, c40k13, c40r14, c40r15, c40r16, c40k17, c40r18, c40k19, c40r20, c40r23, c40, go_sem, seval, ↓reduceIte, Tm.av, part_kind, part_n, part_name, part_args, Tm.pvs_len, hk, hn0, hkt, c1, c2]
            exact hend
        · simp -dsimp -implicitDefEqProofs only [g40, c40r0, c40r1, c40r2, c40r3, c40r4, c40k5, c40r6, c40k7, c40r8, c40r9, c40k10, c40r11, c40r12, c40k13, c40r14, c40r15, c40r16, c40k17, c40r18, c40k19, c40r20, c40r23, c40, go_sem, seval, ↓reduceIte, Tm.av, part_kind, part_n, part_name, part_args, Tm.pvs_len, hk, hn0, c1]
          exact hend
theorem rmatch_ok (p t : Tm) (hp : Heap) (hps : p.size < 99999999) (ht : t.size < 1000000000) : S 16 [p.av, t.av] hp = some (.ret (.tuple [.pv none (.sl (some 5) (bds ((mtR p t).getD []))), .pv none (.bool (mtR p t).isSome)]), hp) := by
  refine sem_pure rfl rfl rfl (freezeAll_pvs [(some 4, p.pv), (some 4, t.pv)]) rfl ?_
  have h1 := fun hp => rvalid_ok p hp (by omega)
  have h2 := fun hp => rvalid_ok t hp ht
  simp only [Tm.av] at h1 h2
  have hn0 : ∀ H : Heap, wNilsl (some 5) H = some (.sl (some 5) H.length 0 0 0, H ++ [.arr (some 5) [] false]) := fun H => w_nilsl (sh := some 5) (by decide)
  unfold mtR
  by_cases vp : p.valid = true
  · by_cases vt : t.valid = true
    · rw [if_pos ⟨vp, vt⟩]
      obtain ⟨v, hm, l2, rfl, hv2⟩ := rmatched_ok p t [] ⟨by simp [Srt'], by simp⟩ vt ht (by simp; omega)
      have hm' : ∀ hp, S 40 [.tsl (some 5) [], p.av, t.av] hp = some (.ret (.tuple [.pv none (.sl (some 5) (bds l2)), .pv none (.bool (pmt p t []).isSome)]), hp) := fun hp => by
        have := sem_any (F := find tab) (prim := prim) (f := 40) (args := [.tsl (some 5) [], p.av, t.av]) (ps := [(none, .sl (some 5) []), (some 4, p.pv), (some 4, t.pv)]) (hp := hp) (hp1 := hp) rfl rfl rfl rfl (hm [])
        refine this.trans ?_
        simp only [Bool.cond_self]
      simp only [Tm.av] at hm'
      cases hR : pmt p t [] with
      | none =>
        rw [hR] at hm'
        simp only [Option.isSome_none] at hm'
        simp -dsimp -implicitDefEqProofs only [g16, c16r0, c16r1, c16r2, c16k3, c16r4, c16r5, c16r6, c16k7, c16r8, c16, go_sem, seval, ↓reduceIte, h1, h2, vp, vt, hn0, hm']
        rfl
      | some l' =>
        rw [hR] at hm'
        simp only [Option.isSome_some] at hm'
        obtain rfl := hv2 l' hR
        simp -dsimp -implicitDefEqProofs only [g16, c16r0, c16r1, c16r2, c16k3, c16r4, c16r5, c16r6, c16k7, c16r8, c16, go_sem, seval, ↓reduceIte, h1, h2, vp, vt, hn0, hm']
        rfl
    · rw [if_neg (by simp [vt])]
      simp -dsimp -implicitDefEqProofs only [g16, c16r0, c16r1, c16r2, c16k3, c16r4, c16r5, c16r6, c16k7, c16r8, c16, go_sem, seval, ↓reduceIte, h1, h2, vp, vt, hn0]
      rfl
  · rw [if_neg (by simp [vp])]
    simp -dsimp -implicitDefEqProofs only [g16, c16r0, c16r1, c16r2, c16k3, c16r4, c16r5, c16r6, c16k7, c16r8, c16, go_sem, seval, ↓reduceIte, h1, h2, vp, hn0]
    rfl
theorem same_self {t : Tm} (h : t.valid = true) : same t t = true := by
  unfold same
  rw [h]
  simp [Tm.cmp_zero.2 rfl]
theorem sameB_ok (l : List B) (hG : Good l) (hl : l.length < 1000000000) (hp : Heap) : S 14 [.pv none (.sl (some 5) (bds l)), .pv none (.sl (some 5) (bds l))] hp = some (.ret (.pv none (.bool true)), hp) := by
  refine sem_pure rfl rfl rfl (freezeAll_pvs [(none, .sl (some 5) (bds l)), (none, .sl (some 5) (bds l))]) rfl ?_
  simp -dsimp -implicitDefEqProofs only [g14, c14r0, c14r1, c14r2, c14k3, c14r4, c14r5, c14k6, c14r7, c14r8, c14k9, c14k10, c14r11, c14b12, c14k13, c14r14, c14, go_sem, seval, ↓reduceIte, bds_len]
  refine W_for (α := Unit) l.length (fun _ _ => True) (fun i _ => ⟨[(0, .pv none (.sl (some 5) (bds l))), (1, .pv none (.sl (some 5) (bds l))), (5, .pv none (.int .i64 i))], []⟩) () ⟨trivial, rfl⟩ ?_ ?_
  · rintro i - h -
    have hc : (i : Int) < (l.length : Int) := by omega
    obtain ⟨b, hb⟩ : ∃ b, l[i]? = some b := ⟨_, List.getElem?_eq_getElem h⟩
    obtain ⟨g1, g2⟩ := hG.2 b (List.mem_of_getElem? hb)
    have hs := fun hp => rsame_ok b.2 b.2 hp g2 g2
    rw [same_self g1] at hs
    simp only [Tm.av] at hs
    have w2 : IntKind.i64.wrap ((i : Int) + 1) = ((i + 1 : Nat) : Int) := by rw [wrap64 (by omega) (by omega)]; omega
    simp -dsimp -implicitDefEqProofs only [g14, c14r0, c14r1, c14r2, c14k3, c14r4, c14r5, c14k6, c14r7, c14r8, c14k9, c14k10, c14r11, c14b12, c14k13, c14r14, c14, go_sem, seval, ↓reduceIte, bds_len, hc, s_iaddr_pv (bds_get hb), part_var, part_to, hs, w2]
    exact ⟨(), trivial⟩
  · rintro - -
    have hc : ¬ (l.length : Int) < (l.length : Int) := by omega
    simp -dsimp -implicitDefEqProofs only [g14, c14r0, c14r1, c14r2, c14k3, c14r4, c14r5, c14k6, c14r7, c14r8, c14k9, c14k10, c14r11, c14b12, c14k13, c14r14, c14, go_sem, seval, ↓reduceIte, bds_len, hc]
end Go.Proofs.Ytenkiofpobeilaa
