/- What is proved: the reference's Follow, Resolved and Resolve. -/
import Derived.Test.YtenkiofpobeilaaRs
set_option linter.unusedSimpArgs false
set_option linter.unusedVariables false
namespace Go.Proofs.Ytenkiofpobeilaa
open Go.Am
theorem rfollow_ok (l : List B) (t : Tm) (h : OKB l) (hl : l.length < 1000000000) (hv : t.valid = true) (hp : Heap) :
  S 54 [.pv none (.sl (some 5) (bds l)), t.av] hp = some (.ret (flw l t).av, hp) := by
 refine sem_pure rfl rfl rfl (freezeAll_pvs [(none, .sl (some 5) (bds l)), (some 4, t.pv)]) rfl ?_
 simp -dsimp -implicitDefEqProofs only [g54, c54r0, c54r1, c54k2, c54r3, c54r4, c54r5, c54k6, c54r7, c54k8, c54b9, c54k10, c54r11, c54, go_sem, seval, ↓reduceIte, Tm.av, w_alloc_agg]
 refine W_loop (fun n st => ∃ t1 : Tm, n = mu l t1 ∧ t1.valid = true ∧ flw l t1 = flw l t ∧ st = ⟨[(0, .pv none (.sl (some 5) (bds l))), (3, .ptr 0 0), (4, .ptr 1 0)], [.box (some 4) (.pv (some 4) t1.pv), .box (some 4) (.agg [(none, .pv none (.int .i64 0)), (none, .pv none (.int .i64 0)), (none, .pv none (.str [])), (none, .sl (some 4) 2 0 0 0)]), .arr (some 4) [] false]⟩) (n := mu l t) ⟨t, rfl, hv, rfl, ?_⟩ ?_
 ·simp -dsimp -implicitDefEqProofs only [go_sem, seval, ↓reduceIte]
  try rfl
 ·rintro n st ⟨t1, rfl, hv1, he, rfl⟩
  by_cases hk : t1.kind = 0
  ·have hfd := rfind_ok l t1.n h.good.1 hl
   by_cases hf : fndB l t1.n = true
   ·have hfi : fdI l t1.n = (lbB l t1.n : Int) := by unfold fdI; rw [if_pos hf]
    have hnn : ¬ ((lbB l t1.n : Nat) : Int) < 0 := by omega
    rw [hfi] at hfd
    have hlt := mu_to h.Acyc hk hf
    simp -dsimp -implicitDefEqProofs only [g54, c54r0, c54r1, c54k2, c54r3, c54r4, c54r5, c54k6, c54r7, c54k8, c54b9, c54k10, c54r11, c54, go_sem, seval, ↓reduceIte, part_kind, part_n, hk, hfd, hnn, s_iaddr_pv (bds_get (fnd_get hf)), part_to]
    refine ⟨mu l (toB l t1.n), hlt, toB l t1.n, rfl, (h.to hf).1, by rw [← he, flw_to h.Acyc hk hf], rfl⟩
   ·have hfi : fdI l t1.n = -1 := by unfold fdI; rw [if_neg hf]
    have hnn : (-1 : Int) < 0 := by omega
    rw [hfi] at hfd
    rw [flw_free h.Acyc (valid_fits hv1) hk hf] at he
    rw [← he]
    simp -dsimp -implicitDefEqProofs only [g54, c54r0, c54r1, c54k2, c54r3, c54r4, c54r5, c54k6, c54r7, c54k8, c54b9, c54k10, c54r11, c54, go_sem, seval, ↓reduceIte, part_kind, part_n, hk, hfd, hnn]
    rfl
  ·rw [flw_str l hk] at he
   rw [← he]
   simp -dsimp -implicitDefEqProofs only [g54, c54r0, c54r1, c54k2, c54r3, c54r4, c54r5, c54k6, c54r7, c54k8, c54b9, c54k10, c54r11, c54, go_sem, seval, ↓reduceIte, part_kind, part_n, hk]
   rfl
theorem rs_flw {l : List B} (h : OKB l) {t : Tm} (hv : t.valid = true) : rs l t = .mk (flw l t).kind (flw l t).n (flw l t).name ((flw l t).args.map (rs l)) := by
 obtain ⟨h1, h2, h3, h4⟩ := flw_ok h _ t rfl hv
 rw [← h2]
 by_cases hk : (flw l t).kind = 0
 ·have e := node_var (valid_fits h1) hk
  rw [rs_free h.Acyc (valid_fits h1) hk fun e => h4 ⟨hk, e⟩]
  rw [e]
  rfl
 ·exact rs_str l hk
theorem flw_arg {l : List B} (h : OKB l) {t u : Tm} (hv : t.valid = true) (hu : u ∈ (flw l t).args) : mu l u < mu l t ∧ u.valid = true := by
 obtain ⟨h1, h2, h3, h4⟩ := flw_ok h _ t rfl hv
 have hk : ¬ (flw l t).kind = 0 := fun hk => by
  rw [node_var (valid_fits h1) hk] at hu
  cases hu
 have := mu_arg l hk hu
 exact ⟨by omega, valid_arg h1 hu⟩
def rawP (k n : Int) (s : List UInt8) (es : List PV) : PV := .agg [(none, .int .i64 k), (none, .int .i64 n), (none, .str s), (none, .sl (some 4) es)]
theorem frozen_raw {hp : Heap} {r : Nat} (k n : Int) (s : List UInt8) (es : List PV) (m : Nat) (hm : m = es.length) (h : hp[r]? = some (.arr (some 4) es false)) : Am.frozen (.pv (some 4) (rawP k n s es)) (.agg [(none, .pv none (.int .i64 k)), (none, .pv none (.int .i64 n)), (none, .pv none (.str s)), (none, .sl (some 4) r m 0 m)]) hp := by
 subst hm
 refine ⟨hp.set r (.arr (some 4) es true), ?_⟩
 show (match AV.freeze (7 + 1) (.agg _) hp with | some (p, hp') => some (AV.pv _ p, hp') | none => none) = _
 have e : ∀ l hp, AV.freeze (7 + 1) (.agg l) hp = match AV.freeze.go 7 l hp with | some (ps, hp') => some (.agg ps, hp') | none => none := fun _ _ => rfl
 simp [e, AV.freeze.go, AV.freeze, h, rawP]
 rfl
def appG (t : Tm) (es : List PV) : Heap := [.box (some 4) (.pv (some 4) t.pv), .box (some 4) (.agg [(none, .pv none (.int .i64 0)), (none, .pv none (.int .i64 0)), (none, .pv none (.str [])), (none, .sl (some 4) 2 0 0 0)]), .arr (some 4) [] false, .box (some 4) (.agg [(none, .pv none (.int .i64 t.kind)), (none, .pv none (.int .i64 t.n)), (none, .pv none (.str t.name)), (none, .sl (some 4) 5 es.length 0 es.length)]), .arr (some 4) [] false, .arr (some 4) es false]
def RV (R : Tm) (left : Nat) (v : AV) : Prop := ∃ (p : PV) (e : Int), v = .tuple [.pv (some 4) p, .pv none (.int .i64 e)] ∧ (R.size ≤ left → p = R.pv ∧ e = (left : Int) - R.size) ∧ (left < R.size → e = -1)
theorem rresolved_ok (l : List B) (h : OKB l) (hl : l.length < 1000000000) : ∀ (m : Nat) (t : Tm) (left : Nat), mu l t = m → t.valid = true → left ≤ 2000 →
  ∃ v, (∀ hp, S 67 [.pv none (.sl (some 5) (bds l)), t.av, .pv none (.int .i64 left)] hp = some (.ret v, hp)) ∧ RV (rs l t) left v := by
 intro m
 induction m using Nat.strongRecOn with
 | _ m ih =>
  intro t left hm hv hleft
  have hfo := rfollow_ok l t h hl hv
  have hR := rs_flw h hv
  have hA := fun u => flw_arg (u := u) h hv
  obtain ⟨hv1, _, _, _⟩ := flw_ok h _ t rfl hv
  generalize ht' : flw l t = t' at hfo hR hA hv1
  have hs1 := valid_size hv1
  have hlen := Tm.sizes_len t'.args
  have hse := t'.size_eq
  have hRs : (rs l t).size = 1 + Tm.sizes (t'.args.map (rs l)) := by rw [hR, Tm.size_eq]; rfl
  refine sem_pure_ex (ps := [(none, .sl (some 5) (bds l)), (some 4, t.pv), (none, .int .i64 left)]) (RV (rs l t) left) rfl rfl rfl (fun hp => rfl) rfl ?_
  have hb : sBuild [(none, .pv none (.int .i64 0)), (none, .pv none (.int .i64 0)), (none, .pv none (.str [])), (none, .tsl (some 4) [])] [0, 1, 2] [.pv none (.int .i64 t'.kind), .pv none (.int .i64 t'.n), .pv none (.str t'.name)] = some (.agg [(none, .pv none (.int .i64 t'.kind)), (none, .pv none (.int .i64 t'.n)), (none, .pv none (.str t'.name)), (none, .tsl (some 4) [])]) := rfl
  simp only [Tm.av] at hfo
  have w1 : IntKind.i64.wrap ((left : Int) - 1) = (left : Int) - 1 := wrap64 (by omega) (by omega)
  simp -dsimp -implicitDefEqProofs only [g67, c67r0, c67r1, c67r2, c67r3, c67r4, c67r5, c67k6, c67r7, c67r8, c67r9, c67k10, c67r11, c67b12, c67k13, c67r14, c67, go_sem, seval, ↓reduceIte, Tm.av, hfo, part_kind, part_n, part_name, part_args, Tm.pvs_len, hb, w_alloc_agg, w_store_agg (Nat.zero_le _), w1]
  refine W_loop (fun n st => ∃ (i : Nat) (es : List PV) (e : Int), n = t'.args.length - i ∧ i ≤ t'.args.length ∧ es.length = i ∧ -1 ≤ e ∧ e < 2000 ∧
   (1 + Tm.sizes ((t'.args.map (rs l)).take i) ≤ left → es = Tm.pvs ((t'.args.map (rs l)).take i) ∧ e = (left : Int) - 1 - Tm.sizes ((t'.args.map (rs l)).take i)) ∧ (left < 1 + Tm.sizes ((t'.args.map (rs l)).take i) → e = -1) ∧
   st = ⟨[(0, .pv none (.sl (some 5) (bds l))), (2, .pv none (.int .i64 e)), (4, .ptr 0 0), (6, .ptr 1 0), (8, .ptr 3 0), (9, .pv none (.int .i64 i))], appG t' es⟩) (n := t'.args.length) ⟨0, [], (left : Int) - 1, rfl, Nat.zero_le _, rfl, by omega, by omega, fun _ => ⟨rfl, by simp [Tm.sizes]⟩, fun hx => by simp [Tm.sizes] at hx; omega, ?_⟩ ?_
  ·simp -dsimp -implicitDefEqProofs only [go_sem, seval, ↓reduceIte]
   try rfl
  ·rintro n st ⟨i, es, e, rfl, hi, hel, he1, he2, hg, hbad, rfl⟩
   by_cases hc0 : i < t'.args.length ∧ 0 ≤ e
   ·obtain ⟨hc1, hc2⟩ := hc0
    have hc : (i : Int) < (t'.args.length : Int) := by omega
    have hgood : 1 + Tm.sizes ((t'.args.map (rs l)).take i) ≤ left := by
     rcases Nat.lt_or_ge left (1 + Tm.sizes ((t'.args.map (rs l)).take i)) with hx | hx
     ·have := hbad hx; omega
     ·exact hx
    obtain ⟨rfl, he⟩ := hg hgood
    obtain ⟨u, hu⟩ : ∃ u, t'.args[i]? = some u := ⟨_, List.getElem?_eq_getElem hc1⟩
    have hum := List.mem_of_getElem? hu
    have hrt := Tm.sizes_take (l := t'.args.map (rs l)) (i := i) (t := rs l u) (by simp [hu])
    have hpt := Tm.pvs_take_succ (l := t'.args.map (rs l)) (i := i) (t := rs l u) (by simp [hu])
    obtain ⟨ha1, ha2⟩ := hA u hum
    obtain ⟨e0, rfl⟩ : ∃ e0 : Nat, e = (e0 : Int) := ⟨e.toNat, by omega⟩
    obtain ⟨v, hcall, p, e1, rfl, hy, hn⟩ := ih _ (by omega) u e0 rfl ha2 (by omega)
    simp only [Tm.av] at hcall
    have w2 : IntKind.i64.wrap ((i : Int) + 1) = ((i + 1 : Nat) : Int) := by rw [wrap64 (by omega) (by omega)]; omega
    have hlim : i + 1 ≤ lim := by unfold lim; omega
    have hge : (0 : Int) ≤ (e0 : Int) := by omega
    simp -dsimp -implicitDefEqProofs only [g67, c67r0, c67r1, c67r2, c67r3, c67r4, c67r5, c67k6, c67r7, c67r8, c67r9, c67k10, c67r11, c67b12, c67k13, c67r14, c67, go_sem, seval, ↓reduceIte, appG, part_args, Tm.pvs_len, hc, hge, s_iaddr_pv (Tm.pvs_get hu), hcall, w2, hel, hlim, upd_agg, w_alloc_agg, w_store_agg (Nat.zero_le _), w_store_sl (Nat.zero_le _)]
    refine ⟨t'.args.length - (i + 1), by omega, i + 1, Tm.pvs ((t'.args.map (rs l)).take i) ++ [p], e1, rfl, by omega, by rw [List.length_append, hel]; rfl, ?_, ?_, ?_, ?_, ?_⟩
    ·rcases Nat.lt_or_ge e0 (rs l u).size with hx | hx
     ·have := hn hx; omega
     ·have := (hy hx).2; omega
    ·rcases Nat.lt_or_ge e0 (rs l u).size with hx | hx
     ·have := hn hx; omega
     ·have := (hy hx).2; omega
    ·intro hx
     rw [hrt] at hx ⊢
     obtain ⟨y1, y2⟩ := hy (by omega)
     exact ⟨by rw [y1, hpt], by omega⟩
    ·intro hx
     rw [hrt] at hx
     exact hn (by omega)
    ·rw [List.length_append, hel]
     rfl
   ·have hz : e = -1 ∨ (rs l t).size ≤ left := by
     rcases Nat.lt_or_ge left (1 + Tm.sizes ((t'.args.map (rs l)).take i)) with hx | hx
     ·exact .inl (hbad hx)
     ·have hy := (hg hx).2
      have hi2 : i = t'.args.length := by omega
      have : (t'.args.map (rs l)).take i = t'.args.map (rs l) := List.take_of_length_le (by rw [List.length_map]; omega)
      rw [this] at hx
      exact .inr (by omega)
    have hRV : ∃ p, p = rawP t'.kind t'.n t'.name es ∧ RV (rs l t) left (.tuple [.pv (some 4) p, .pv none (.int .i64 e)]) := by
     refine ⟨_, rfl, _, e, rfl, fun hx => ?_, fun hx => ?_⟩
     ·have h2 := Tm.sizes_take_le (t'.args.map (rs l)) i
      obtain ⟨y1, y2⟩ := hg (by omega)
      have hi2 : i = t'.args.length := by omega
      have : (t'.args.map (rs l)).take i = t'.args.map (rs l) := List.take_of_length_le (by rw [List.length_map]; omega)
      rw [this] at y1 y2
      refine ⟨?_, by omega⟩
      rw [y1, hR]
      rfl
     ·rcases hz with hz | hz
      ·exact hz
      ·omega
    obtain ⟨p, rfl, hRV⟩ := hRV
    have hfz : ∀ a0 a1 a2 a3 a4, Am.frozen (.tuple [.pv (some 4) (rawP t'.kind t'.n t'.name es), .pv none (.int .i64 e)]) (.tuple [.agg [(none, .pv none (.int .i64 t'.kind)), (none, .pv none (.int .i64 t'.n)), (none, .pv none (.str t'.name)), (none, .sl (some 4) 5 es.length 0 es.length)], .pv none (.int .i64 e)]) [a0, a1, a2, a3, a4, .arr (some 4) es false] := fun a0 a1 a2 a3 a4 => by
     refine ⟨[a0, a1, a2, a3, a4, .arr (some 4) es true], ?_⟩
     have e : ∀ l hp, AV.freeze (7 + 1) (.agg l) hp = match AV.freeze.go 7 l hp with | some (ps, hp') => some (.agg ps, hp') | none => none := fun _ _ => rfl
     have e2 : ∀ p hp, AV.freeze (7 + 1) (.pv none p) hp = some (p, hp) := fun _ _ => rfl
     simp [AV.freezeRes, freezeAll, deep, e, e2, AV.freeze.go, AV.freeze, rawP, pvs, AV.shp]
     try rfl
    by_cases hc1 : i < t'.args.length
    ·have hc : (i : Int) < (t'.args.length : Int) := by omega
     have hge : ¬ (0 : Int) ≤ e := fun hx => hc0 ⟨hc1, hx⟩
     simp -dsimp -implicitDefEqProofs only [g67, c67r0, c67r1, c67r2, c67r3, c67r4, c67r5, c67k6, c67r7, c67r8, c67r9, c67k10, c67r11, c67b12, c67k13, c67r14, c67, go_sem, seval, ↓reduceIte, appG, part_args, Tm.pvs_len, hc, hge, upd_agg, w_alloc_agg, w_store_agg (Nat.zero_le _), w_store_sl (Nat.zero_le _), own_cons_sl]
     exact ⟨_, hfz _ _ _ _ _, hRV⟩
    ·have hc : ¬ (i : Int) < (t'.args.length : Int) := by omega
     simp -dsimp -implicitDefEqProofs only [g67, c67r0, c67r1, c67r2, c67r3, c67r4, c67r5, c67k6, c67r7, c67r8, c67r9, c67k10, c67r11, c67b12, c67k13, c67r14, c67, go_sem, seval, ↓reduceIte, appG, part_args, Tm.pvs_len, hc, upd_agg, w_alloc_agg, w_store_agg (Nat.zero_le _), w_store_sl (Nat.zero_le _), own_cons_sl]
     exact ⟨_, hfz _ _ _ _ _, hRV⟩
def zt : Tm := .mk 0 0 [] []
noncomputable def rsd (l : List B) (t : Tm) : Tm × Bool := if (rs l t).size ≤ 2000 then (rs l t, true) else (zt, false)
theorem frozen_two (p q : PV) (s s' : Sh) (hp : Heap) : Am.frozen (.tuple [.pv s p, .pv s' q]) (.tuple [.pv s p, .pv s' q]) hp := by
 refine ⟨hp, ?_⟩
 have := freezeAll_pvs (hp := hp) [(s, p), (s', q)]
 simp only [pvs, List.map_cons, List.map_nil] at this
 simp only [AV.freezeRes, this]
 rfl
theorem frozen_zt2 (q : PV) (hp : Heap) (r : Nat) (h : hp[r]? = some (.arr (some 4) [] false)) : Am.frozen (.tuple [zt.av, .pv none q]) (.tuple [.agg [(none, .pv none (.int .i64 0)), (none, .pv none (.int .i64 0)), (none, .pv none (.str [])), (none, .sl (some 4) r 0 0 0)], .pv none q]) hp := by
 refine ⟨hp.set r (.arr (some 4) [] true), ?_⟩
 have e : ∀ l hp, AV.freeze (7 + 1) (.agg l) hp = match AV.freeze.go 7 l hp with | some (ps, hp') => some (.agg ps, hp') | none => none := fun _ _ => rfl
 have e2 : ∀ p hp, AV.freeze (7 + 1) (.pv none p) hp = some (p, hp) := fun _ _ => rfl
 simp [AV.freezeRes, freezeAll, deep, e, e2, AV.freeze.go, AV.freeze, h, pvs, AV.shp]
 rfl
theorem hb0 : sBuild [(none, .pv none (.int .i64 0)), (none, .pv none (.int .i64 0)), (none, .pv none (.str [])), (none, .tsl (some 4) [])] [] [] = some (.agg [(none, .pv none (.int .i64 0)), (none, .pv none (.int .i64 0)), (none, .pv none (.str [])), (none, .tsl (some 4) [])]) := rfl
theorem rres1_ok (l : List B) (h : OKB l) (hl : l.length < 1000000000) (t : Tm) (hv : t.valid = true) (hp : Heap) :
  S 46 [.pv none (.sl (some 5) (bds l)), t.av] hp = some (.ret (.tuple [(rsd l t).1.av, .pv none (.bool (rsd l t).2)]), hp) := by
 refine sem_pure rfl rfl rfl (freezeAll_pvs [(none, .sl (some 5) (bds l)), (some 4, t.pv)]) rfl ?_
 obtain ⟨v, hcall, p, e, rfl, hy, hn⟩ := rresolved_ok l h hl _ t 2000 rfl hv (Nat.le_refl _)
 have e2 : ((2000 : Nat) : Int) = 2000 := rfl
 simp only [Tm.av, e2] at hcall hy
 unfold rsd
 by_cases hs : (rs l t).size ≤ 2000
 ·obtain ⟨rfl, rfl⟩ := hy hs
  have hc : ¬ (2000 : Int) - ((rs l t).size : Int) < 0 := by omega
  rw [if_pos hs]; dsimp only
  simp -dsimp -implicitDefEqProofs only [g46, c46r0, c46r1, c46r2, c46r3, c46k4, c46r5, c46, go_sem, seval, ↓reduceIte, Tm.av, hcall, hc, w_alloc_agg, w_store_agg (Nat.zero_le _)]
  exact frozen_two _ _ _ _ _
 ·obtain rfl := hn (by omega)
  rw [if_neg hs]; dsimp only
  simp -dsimp -implicitDefEqProofs only [g46, c46r0, c46r1, c46r2, c46r3, c46k4, c46r5, c46, go_sem, seval, ↓reduceIte, Tm.av, hcall, w_alloc_agg, w_store_agg (Nat.zero_le _), hb0]
  exact frozen_zt2 _ _ _ rfl
end Go.Proofs.Ytenkiofpobeilaa
