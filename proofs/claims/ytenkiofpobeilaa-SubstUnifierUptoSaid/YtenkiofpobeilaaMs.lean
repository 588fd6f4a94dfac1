/- What is proved: the program's measure. -/
import Derived.Test.YtenkiofpobeilaaCyc
set_option linter.unusedSimpArgs false
set_option linter.unusedVariables false
namespace Go.Proofs.Ytenkiofpobeilaa
open Go.Am
theorem samePtr_tm {hp hp' : Heap} {t : Tm} {r o : Nat} (h : hp[r]? = some (.box (some 4) (.pv (some 4) t.pv))) (h' : hp'[r]? = some (.box (some 4) (.pv (some 4) t.pv))) : samePtr hp hp' (.ptr r o) = true := by
 simp [samePtr, h, h', AObj.beq, AV.beq, beq_self]
def SzI (l : List B) (m : List (Int × PV)) : Prop := ∃ f : Int → Int, MapI m f ∧ ∀ v, f v ≠ 0 → fndB l v = true ∧ f v = ((min (rs l (toB l v)).size 2001 : Nat) : Int)
theorem SzI.put {l : List B} {m : List (Int × PV)} (h : SzI l m) {v : Int} (hf : fndB l v = true) : SzI l (mPut v (.int .i64 ((min (rs l (toB l v)).size 2001 : Nat) : Int)) m) := by
 obtain ⟨f, h1, h2⟩ := h
 refine ⟨_, h1.put v _, fun w hw => ?_⟩
 by_cases e : w = v
 ·subst e; simp [hf]
 ·simp only [if_neg e] at hw ⊢; exact h2 w hw
def XL (n : Nat) (t : Tm) : Heap := [.box (some 4) (.pv (some 4) t.pv), .box (some 4) (.pv (some 4) t.pv), .box (some 4) (zagg (n + 4)), .arr (some 4) [] false, .arr (some 4) [] false, .box (some 4) (zagg (n + 4)), .arr (some 4) [] false]
theorem measure_ok (l : List B) (hO : OKB l) (hl : l.length < 1000000000) : ∀ (k : Nat) (t : Tm) (hp : Heap) (r : Nat) (m : List (Int × PV)), mu l t = k → t.valid = true → hp[r]? = some (.map none (kEnts m)) → SzI l m →
  ∃ m', S 44 [.pv none (.sl (some 5) (bds l)), t.av, .map r] hp = some (.ret (.pv none (.int .i64 ((min (rs l t).size 2001 : Nat) : Int))), hp.set r (.map none (kEnts m'))) ∧ SzI l m' := by
 intro k
 induction k using Nat.strongRecOn with
 | _ k ih =>
  intro t hp r m hk hv hr hS
  have hlt := get_lt hr
  have htz := valid_size hv
  have hself : hp.set r (.map none (kEnts m)) = hp := by
   obtain ⟨_, h⟩ := List.getElem?_eq_some_iff.1 hr
   rw [← h]; exact List.set_getElem_self _
  have hg0 : ∀ (X : AObj) (e : Heap), (hp.set r X ++ e)[hp.length]? = e[0]? := fun X e => getN0 (by simp)
  have hg1 : ∀ (X : AObj) (e : Heap) (k : Nat), (hp.set r X ++ e)[hp.length + k]? = e[k]? := fun X e k => getN (by simp) k
  have hlen : ∀ (X : AObj), (hp.set r X).length = hp.length := fun X => by simp
  have hs1 : ∀ (X Y : AObj) (e : Heap) (k : Nat), (hp.set r X ++ e).set (hp.length + k) Y = hp.set r X ++ e.set k Y := fun X Y e k => setN (by simp) k Y
  have hrr : ∀ (X : AObj) (e : Heap), (hp.set r X ++ e)[r]? = some X := fun X e => by rw [List.getElem?_append_left (by simpa using hlt), List.getElem?_set_self hlt]
  have hss : ∀ (X Y : AObj) (e : Heap), (hp.set r X ++ e).set r Y = hp.set r Y ++ e := fun X Y e => by rw [List.set_append_left _ _ (by simpa using hlt), List.set_set]
  suffices hP : ∃ v' hp', S 44 [.pv none (.sl (some 5) (bds l)), t.av, .map r] hp = some (.ret v', hp') ∧ ∃ m', v' = .pv none (.int .i64 ((min (rs l t).size 2001 : Nat) : Int)) ∧ hp' = hp.set r (.map none (kEnts m')) ∧ SzI l m' by
   obtain ⟨v', hp', h1, m', rfl, rfl, h2⟩ := hP
   exact ⟨m', h1, h2⟩
  by_cases hc : t.kind = 0 ∧ fndB l t.n = true
  ·obtain ⟨hk0, hf⟩ := hc
   have hb := fun hp => bound_yes (s := .pv none (.sl (some 5) (bds l))) (hp := hp) (l := l) (.inl rfl) hO.good.1 hl t hk0 hf
   simp only [Tm.av] at hb
   obtain ⟨hto, _⟩ := hO.to hf
   have hlt2 := mu_to hO.Acyc hk0 hf
   have hrs : rs l t = rs l (toB l t.n) := by rw [rs_var hO.Acyc hk0, if_pos hf]
   rw [hrs]
   obtain ⟨f, hM, hfv⟩ := id hS
   have hlk : ∀ e : Heap, rLookup false none (.pv none (.int .i64 0)) false (hp ++ e) [.map r, .pv none (.int .i64 t.n)] = some (.pv none (.int .i64 (f t.n))) := fun e => by
    rw [look_m (m := m) (by rw [List.getElem?_append_left hlt]; exact hr), hM]
   refine sem_heap_ex _ rfl rfl rfl rfl ?_
   have hpos := Tm.size_pos (rs l (toB l t.n))
   by_cases h0 : f t.n = 0
   ·obtain ⟨m2, hcall, hS2⟩ := ih _ (by omega) (toB l t.n) (hp ++ [.box (some 4) (.pv (some 4) t.pv), .box (some 4) (.pv (some 4) (toB l t.n).pv), .arr (some 4) [] false]) r m rfl hto (by rw [List.getElem?_append_left hlt]; exact hr) hS
    rw [List.set_append_left _ _ hlt] at hcall
    simp only [Tm.av] at hcall
    have hsp : ∀ (X : AObj) (e e' : Heap), samePtr (hp ++ .box (some 4) (.pv (some 4) t.pv) :: e) (hp.set r X ++ .box (some 4) (.pv (some 4) t.pv) :: e') (.ptr hp.length 1) = true := fun X e e' => samePtr_tm (t := t) (by rw [get_pre0]; rfl) (by rw [hg0]; rfl)
    have hms : ∀ (x : Int) (m : List (Int × PV)) (e : Heap), wMapset false none (hp.set r (.map none (kEnts m)) ++ e) [.map r, .pv none (.int .i64 t.n), .pv none (.int .i64 x)] = some (.undef, hp.set r (.map none (kEnts (mPut t.n (.int .i64 x) m))) ++ e) := fun x m e => by
     rw [w_mapset_pv (es := kEnts m) (hrr _ _) (kEnts_put _ _ _), hss]
    have hlk2 : ∀ (x : Int) (m : List (Int × PV)) (e : Heap), rLookup false none (.pv none (.int .i64 0)) false (hp.set r (.map none (kEnts (mPut t.n (.int .i64 x) m))) ++ e) [.map r, .pv none (.int .i64 t.n)] = some (.pv none (.int .i64 x)) := fun x m e => by
     rw [look_m (m := mPut t.n (.int .i64 x) m) (hrr _ _), mFind_put, if_pos rfl]
     rfl
    simp -dsimp -implicitDefEqProofs only [g44, c44r0, c44r1, c44r2, c44r3, c44r4, c44k5, c44r6, c44k7, c44r8, c44r9, c44r10, c44k11, c44r12, c44r13, c44k14, c44r15, c44k17, c44r18, c44, go_sem, seval, ↓reduceIte, Tm.av, hb, part_n, hlk, h0, hcall, hsp, hms, hlk2, hg0, List.take_succ_cons, List.drop_succ_cons, List.all_cons, List.all_nil, w_alloc_agg, w_store_agg (Nat.le_add_right _ _), List.append_assoc, List.cons_append, List.nil_append, get_pre, get_pre0, set_pre, set_pre0, Nat.add_assoc, List.length_append, List.length_cons, List.length_nil, Nat.zero_add]
    exact ⟨_, by rw [if_pos (by simp [AV.refsIn])]; exact List.take_left' (by simp), hS2.put hf⟩
   ·have hfe := (hfv _ h0).2
    simp -dsimp -implicitDefEqProofs only [g44, c44r0, c44r1, c44r2, c44r3, c44r4, c44k5, c44r6, c44k7, c44r8, c44r9, c44r10, c44k11, c44r12, c44r13, c44k14, c44r15, c44k17, c44r18, c44, go_sem, seval, ↓reduceIte, Tm.av, hb, part_n, hlk, h0, w_alloc_agg, w_store_agg (Nat.le_add_right _ _), List.append_assoc, List.cons_append, List.nil_append, get_pre, get_pre0, set_pre, set_pre0, Nat.add_assoc, List.length_append, List.length_cons, List.length_nil, Nat.zero_add]
    exact ⟨m, by rw [hfe], by rw [if_pos (by simp [AV.refsIn]), hself]; exact List.take_left, hS⟩
  ·have hb := fun hp => bound_no (s := .pv none (.sl (some 5) (bds l))) (hp := hp) (l := l) (.inl rfl) hO.good.1 hl t hc
   simp only [Tm.av] at hb
   have hrs : (rs l t).size = 1 + Tm.sizes (t.args.map (rs l)) := by
    by_cases hk0 : t.kind = 0
    ·have hf : ¬ fndB l t.n = true := fun e => hc ⟨hk0, e⟩
     rw [rs_free hO.Acyc (valid_fits hv) hk0 hf, node_var (valid_fits hv) hk0]
     rfl
    ·rw [rs_str l hk0, Tm.size_eq]
     rfl
   have harg : ∀ u ∈ t.args, mu l u < k ∧ u.valid = true := fun u hu => by
    have hk0 : ¬ t.kind = 0 := fun hk0 => by
     rw [node_var (valid_fits hv) hk0] at hu
     cases hu
    exact ⟨by rw [← hk]; exact mu_arg l hk0 hu, valid_arg hv hu⟩
   refine sem_heap_ex _ rfl rfl rfl rfl ?_
   simp -dsimp -implicitDefEqProofs only [g44, c44r0, c44r1, c44r2, c44r3, c44r4, c44k5, c44r6, c44k7, c44r8, c44r9, c44r10, c44k11, c44r12, c44r13, c44k14, c44r15, c44k17, c44r18, c44, go_sem, seval, ↓reduceIte, Tm.av, hb, bndX, zagg, part_args, Tm.pvs_len, own_cons_sl, w_alloc_agg, w_store_agg (Nat.le_add_right _ _), List.append_assoc, List.cons_append, List.nil_append, get_pre, get_pre0, set_pre, set_pre0, Nat.add_assoc, List.length_append, List.length_cons, List.length_nil, Nat.zero_add]
   refine W_for (α := List (Int × PV)) t.args.length (fun _ m => SzI l m) (fun i m => ⟨[(0, .pv none (.sl (some 5) (bds l))), (2, .map r), (9, .pv none (.int .i64 ((min (1 + Tm.sizes ((t.args.map (rs l)).take i)) 2001 : Nat) : Int))), (36, .pv none (.sl (some 4) (Tm.pvs t.args))), (37, .pv none (.int .i64 t.args.length)), (38, .pv none (.int .i64 i))], hp.set r (.map none (kEnts m)) ++ XL hp.length t⟩) m ⟨hS, ?_⟩ ?_ ?_
   ·rw [hself]
    rfl
   ·rintro i m2 h hS2
    have hc : (i : Int) < (t.args.length : Int) := by omega
    obtain ⟨u, hu⟩ : ∃ u, t.args[i]? = some u := ⟨_, List.getElem?_eq_getElem h⟩
    have hum := List.mem_of_getElem? hu
    obtain ⟨ha1, ha2⟩ := harg u hum
    have hrt := Tm.sizes_take (l := t.args.map (rs l)) (i := i) (t := rs l u) (by simp [hu])
    have hlen2 := Tm.sizes_len t.args
    have hts := t.size_eq
    obtain ⟨m3, hcall, hS3⟩ := ih _ ha1 u (hp.set r (.map none (kEnts m2)) ++ (XL hp.length t ++ [.box (some 4) (.pv (some 4) u.pv), .arr (some 4) [] false])) r m2 rfl ha2 (hrr _ _) hS2
    rw [hss] at hcall
    simp only [Tm.av, XL, zagg, List.cons_append, List.nil_append] at hcall
    have w2 : IntKind.i64.wrap ((i : Int) + 1) = ((i + 1 : Nat) : Int) := by rw [wrap64 (by omega) (by omega)]; omega
    have w3 : IntKind.i64.wrap (((min (1 + Tm.sizes ((t.args.map (rs l)).take i)) 2001 : Nat) : Int) + ((min (rs l u).size 2001 : Nat) : Int)) = ((min (1 + Tm.sizes ((t.args.map (rs l)).take i)) 2001 + min (rs l u).size 2001 : Nat) : Int) := by rw [wrap64 (by omega) (by omega)]; omega
    have w4 : (if (2001 : Int) < ((min (1 + Tm.sizes ((t.args.map (rs l)).take i)) 2001 + min (rs l u).size 2001 : Nat) : Int) then 2001 else ((min (1 + Tm.sizes ((t.args.map (rs l)).take i)) 2001 + min (rs l u).size 2001 : Nat) : Int)) = ((min (1 + Tm.sizes ((t.args.map (rs l)).take (i + 1))) 2001 : Nat) : Int) := by
     rw [hrt]
     split <;> omega
    simp -dsimp -implicitDefEqProofs only [g44, c44r0, c44r1, c44r2, c44r3, c44r4, c44k5, c44r6, c44k7, c44r8, c44r9, c44r10, c44k11, c44r12, c44r13, c44k14, c44r15, c44b16, c44k17, c44r18, c44, go_sem, seval, ↓reduceIte, XL, zagg, hc, s_iaddr_pv (Tm.pvs_get hu), hcall, w2, w3, w4, hlen, hg0, hg1, hs1, own_cons_sl, w_alloc_agg, w_store_agg (Nat.le_add_right _ _), List.append_assoc, List.cons_append, List.nil_append, get_pre, get_pre0, set_pre, set_pre0, Nat.add_assoc, List.length_append, List.length_cons, List.length_nil, Nat.zero_add]
    refine ⟨m3, hS3, ?_⟩
    rw [collect_pre 7 (by simp) rfl (by simp [AObj.refs, AV.ofComps, pures, AV.refsIn, AV.refsIn.go]) (by simp [AV.refsIn, AV.refsIn.gol]; omega)]
    rfl
   ·rintro m2 hS2
    have hc : ¬ (t.args.length : Int) < (t.args.length : Int) := by omega
    simp -dsimp -implicitDefEqProofs only [g44, c44r0, c44r1, c44r2, c44r3, c44r4, c44k5, c44r6, c44k7, c44r8, c44r9, c44r10, c44k11, c44r12, c44r13, c44k14, c44r15, c44b16, c44k17, c44r18, c44, go_sem, seval, ↓reduceIte, hc]
    refine ⟨m2, ?_, ?_, hS2⟩
    ·rw [hrs, List.take_of_length_le (by rw [List.length_map]; exact Nat.le_refl _)]
    ·rw [if_pos (by simp [AV.refsIn])]
     exact List.take_left' (by simp)
end Go.Proofs.Ytenkiofpobeilaa
