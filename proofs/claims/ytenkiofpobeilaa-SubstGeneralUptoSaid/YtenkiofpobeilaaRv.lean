/- What is proved: the program's resolve, Resolve and Look. -/
import Derived.Test.YtenkiofpobeilaaMs
set_option linter.unusedSimpArgs false
set_option linter.unusedVariables false
namespace Go.Proofs.Ytenkiofpobeilaa
open Go.Am
def appP (t : Tm) (es : List PV) : Heap := [.box (some 4) (.pv (some 4) t.pv), .box (some 4) (zagg 2), .arr (some 4) [] false, .box (some 4) (.pv (some 4) t.pv), .box (some 4) (zagg 6), .arr (some 4) [] false, .arr (some 4) [] false, .box (some 4) (zagg 6), .arr (some 4) [] false, .box (some 4) (.agg [(none, .pv none (.int .i64 t.kind)), (none, .pv none (.int .i64 t.n)), (none, .pv none (.str t.name)), (none, .sl (some 4) 11 es.length 0 es.length)]), .arr (some 4) [] false, .arr (some 4) es false]
theorem resolve_ok (l : List B) (hO : OKB l) (hl : l.length < 1000000000) : ∀ (k : Nat) (t : Tm), mu l t = k → t.valid = true → ∀ hp : Heap, S 45 [.pv none (.sl (some 5) (bds l)), t.av] hp = some (.ret (rs l t).av, hp) := by
 intro k
 induction k using Nat.strongRecOn with
 | _ k ih =>
  intro t hk hv hp
  have htz := valid_size hv
  have hlen2 := Tm.sizes_len t.args
  have hts := t.size_eq
  refine sem_pure rfl rfl rfl (freezeAll_pvs [(none, .sl (some 5) (bds l)), (some 4, t.pv)]) rfl ?_
  have hb4 : sBuild [(none, .pv none (.int .i64 0)), (none, .pv none (.int .i64 0)), (none, .pv none (.str [])), (none, .tsl (some 4) [])] [0, 1, 2] [.pv none (.int .i64 t.kind), .pv none (.int .i64 t.n), .pv none (.str t.name)] = some (.agg [(none, .pv none (.int .i64 t.kind)), (none, .pv none (.int .i64 t.n)), (none, .pv none (.str t.name)), (none, .tsl (some 4) [])]) := rfl
  by_cases hc : t.kind = 0 ∧ fndB l t.n = true
  ·obtain ⟨hk0, hf⟩ := hc
   have hb := fun hp => bound_yes (s := .pv none (.sl (some 5) (bds l))) (hp := hp) (l := l) (.inl rfl) hO.good.1 hl t hk0 hf
   obtain ⟨hto, _⟩ := hO.to hf
   have hlt2 := mu_to hO.Acyc hk0 hf
   have hrs : rs l t = rs l (toB l t.n) := by rw [rs_var hO.Acyc hk0, if_pos hf]
   have hcall := ih _ (by omega) (toB l t.n) rfl hto
   rw [hrs]
   simp only [Tm.av] at hb hcall
   simp -dsimp -implicitDefEqProofs only [g45, c45r0, c45r1, c45r2, c45r3, c45k4, c45r5, c45r6, c45r7, c45k8, c45r9, c45r10, c45k11, c45r12, c45k14, c45r15, c45, go_sem, seval, ↓reduceIte, Tm.av, hb, hcall, w_alloc_agg, w_store_agg (Nat.zero_le _)]
  ·have hb := fun hp => bound_no (s := .pv none (.sl (some 5) (bds l))) (hp := hp) (l := l) (.inl rfl) hO.good.1 hl t hc
   simp only [Tm.av] at hb
   have hrs : rs l t = .mk t.kind t.n t.name (t.args.map (rs l)) := by
    by_cases hk0 : t.kind = 0
    ·have hf : ¬ fndB l t.n = true := fun e => hc ⟨hk0, e⟩
     rw [rs_free hO.Acyc (valid_fits hv) hk0 hf, node_var (valid_fits hv) hk0]
     rfl
    ·exact rs_str l hk0
   have harg : ∀ u ∈ t.args, mu l u < k ∧ u.valid = true := fun u hu => by
    have hk0 : ¬ t.kind = 0 := fun hk0 => by
     rw [node_var (valid_fits hv) hk0] at hu
     cases hu
    exact ⟨by rw [← hk]; exact mu_arg l hk0 hu, valid_arg hv hu⟩
   rw [hrs]
   generalize hts' : t.args.map (rs l) = ts'
   have htl : ts'.length = t.args.length := by rw [← hts', List.length_map]
   simp -dsimp -implicitDefEqProofs only [g45, c45r0, c45r1, c45r2, c45r3, c45k4, c45r5, c45r6, c45r7, c45k8, c45r9, c45r10, c45k11, c45r12, c45k14, c45r15, c45, go_sem, seval, ↓reduceIte, Tm.av, hb, bndX, zagg, hb4, part_kind, part_n, part_name, part_args, Tm.pvs_len, own_cons_sl, w_alloc_agg, w_store_agg (Nat.zero_le _)]
   refine W_for (α := Unit) t.args.length (fun _ _ => True) (fun i _ => ⟨[(0, .pv none (.sl (some 5) (bds l))), (4, .ptr 1 0), (7, .ptr 9 0), (28, .pv none (.sl (some 4) (Tm.pvs t.args))), (29, .pv none (.int .i64 t.args.length)), (30, .pv none (.int .i64 i))], appP t (Tm.pvs (ts'.take i))⟩) () ⟨trivial, rfl⟩ ?_ ?_
   ·rintro i - h -
    have hc : (i : Int) < (t.args.length : Int) := by omega
    obtain ⟨u, hu⟩ : ∃ u, t.args[i]? = some u := ⟨_, List.getElem?_eq_getElem h⟩
    have hum := List.mem_of_getElem? hu
    obtain ⟨ha1, ha2⟩ := harg u hum
    have hcall := ih _ ha1 u rfl ha2
    simp only [Tm.av] at hcall
    have hpt := Tm.pvs_take_succ (l := ts') (i := i) (t := rs l u) (by rw [← hts']; simp [hu])
    have w2 : IntKind.i64.wrap ((i : Int) + 1) = ((i + 1 : Nat) : Int) := by rw [wrap64 (by omega) (by omega)]; omega
    have hl1 : (Tm.pvs (ts'.take i)).length = i := by rw [Tm.pvs_len, List.length_take]; omega
    have hl2 : (ts'.take (i + 1)).length = i + 1 := by rw [List.length_take]; omega
    have hlim : i + 1 ≤ lim := by unfold lim; omega
    simp -dsimp -implicitDefEqProofs only [g45, c45r0, c45r1, c45r2, c45r3, c45k4, c45r5, c45r6, c45r7, c45k8, c45r9, c45r10, c45k11, c45r12, c45b13, c45k14, c45r15, c45, go_sem, seval, ↓reduceIte, appP, zagg, part_args, Tm.pvs_len, hc, s_iaddr_pv (Tm.pvs_get hu), hcall, w2, hl1, hlim, hpt, upd_agg, w_alloc_agg, w_store_agg (Nat.zero_le _), w_store_sl (Nat.zero_le _)]
    exact ⟨(), by rw [hl2]; rfl⟩
   ·rintro - -
    have hc : ¬ (t.args.length : Int) < (t.args.length : Int) := by omega
    have htk : ts'.take t.args.length = ts' := List.take_of_length_le (by omega)
    simp -dsimp -implicitDefEqProofs only [g45, c45r0, c45r1, c45r2, c45r3, c45k4, c45r5, c45r6, c45r7, c45k8, c45r9, c45r10, c45k11, c45r12, c45b13, c45k14, c45r15, c45, go_sem, seval, ↓reduceIte, appP, zagg, part_args, Tm.pvs_len, hc, htk, own_cons_sl, w_alloc_agg, w_store_agg (Nat.zero_le _), w_store_sl (Nat.zero_le _)]
    exact frozen_raw _ _ _ (Tm.pvs ts') _ (Tm.pvs_len ts').symm rfl
theorem presolve_ok (l : List B) (t : Tm) (hl : l.length < 100000000) (hsz : ∀ b ∈ l, b.2.size < 1000000000) (ht : t.size < 1000000000) (hp : Heap) :
  S 21 [.pv none (.sl (some 5) (bds l)), t.av] hp = some (.ret (.tuple [(rsR l t).1.av, .pv none (.int .i64 (rsR l t).2)]), hp) := by
 refine sem_pure rfl rfl rfl (freezeAll_pvs [(none, .sl (some 5) (bds l)), (some 4, t.pv)]) rfl ?_
 have h1 := pvalidB_ok l hl hsz
 have h2 := fun hp => valid_ok t hp ht
 simp only [Tm.av] at h2
 unfold rsR
 cases hb : okb l with
 | false =>
  rw [hb] at h1
  rw [if_neg (by simp)]; dsimp only
  simp -dsimp -implicitDefEqProofs only [g21, c21r0, c21r1, c21r2, c21k3, c21r4, c21r5, c21k6, c21r7, c21, go_sem, seval, ↓reduceIte, Tm.av, h1, h2, w_alloc_agg, w_store_agg (Nat.zero_le _), hb0]
  exact frozen_zt2 _ _ _ rfl
 | true =>
  rw [hb] at h1
  have hO := okb_iff.1 hb
  by_cases hv : t.valid = true
  ·rw [if_pos ⟨rfl, hv⟩]
   have h3 := resolve_ok l hO (by omega) _ t rfl hv
   obtain ⟨m', h4, _⟩ := measure_ok l hO (by omega) _ t [.box (some 4) (.pv (some 4) t.pv), .box (some 4) (zagg 2), .arr (some 4) [] false, .map none []] 3 [] rfl hv rfl ⟨fun _ => 0, fun _ => rfl, fun v h => absurd rfl h⟩
   simp only [Tm.av, zagg, List.set_cons_zero, List.set_cons_succ] at h3 h4
   by_cases hs : (rs l t).size ≤ 2000
   ·rw [if_pos hs]; dsimp only
    have hm : ¬ (2000 : Int) < ((min (rs l t).size 2001 : Nat) : Int) := by omega
    simp -dsimp -implicitDefEqProofs only [g21, c21r0, c21r1, c21r2, c21k3, c21r4, c21r5, c21k6, c21r7, c21, go_sem, seval, ↓reduceIte, Tm.av, h1, h2, hv, h3, h4, hm, w_alloc_agg, w_store_agg (Nat.zero_le _), hb0]
    exact frozen_two _ _ _ _ _
   ·rw [if_neg hs]; dsimp only
    have hm : (2000 : Int) < ((min (rs l t).size 2001 : Nat) : Int) := by omega
    simp -dsimp -implicitDefEqProofs only [g21, c21r0, c21r1, c21r2, c21k3, c21r4, c21r5, c21k6, c21r7, c21, go_sem, seval, ↓reduceIte, Tm.av, h1, h2, hv, h3, h4, hm, w_alloc_agg, w_store_agg (Nat.zero_le _), hb0]
    exact frozen_zt2 _ _ _ rfl
  ·rw [if_neg fun h => hv h.2]; dsimp only
   have hv' : t.valid = false := by simpa using hv
   simp -dsimp -implicitDefEqProofs only [g21, c21r0, c21r1, c21r2, c21k3, c21r4, c21r5, c21k6, c21r7, c21, go_sem, seval, ↓reduceIte, Tm.av, h1, h2, hv', w_alloc_agg, w_store_agg (Nat.zero_le _), hb0]
   exact frozen_zt2 _ _ _ rfl
noncomputable def lkR (l : List B) (t : Tm) : Tm := if okb l = true ∧ t.valid = true then flw l t else zt
end Go.Proofs.Ytenkiofpobeilaa
