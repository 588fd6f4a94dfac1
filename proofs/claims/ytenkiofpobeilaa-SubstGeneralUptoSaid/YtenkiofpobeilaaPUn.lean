/- What is proved: the program's Unify. -/
import Derived.Test.YtenkiofpobeilaaPRn
set_option linter.unusedSimpArgs false
set_option linter.unusedVariables false
namespace Go.Proofs.Ytenkiofpobeilaa
open Go.Am
def outD (F : FuncId → Option AFn) (prim : FuncId → Option PrimO) (rs : List RSlot) (s : Nat) (v : AV) (st : St) (p : PV) (st2 : St) : Prop :=
 ∃ g fs cs, st.fr.look s = some (.func (.func g) fs cs) ∧ ∃ r hp' v', sem F prim .dfr g (.pv none p :: (fs ++ cs)) st2.hp = some (.ret r, hp') ∧ resultOf ⟨st2.fr, hp'⟩ rs = some v' ∧ Am.frozen v v' hp'
def outK (F : FuncId → Option AFn) (prim : FuncId → Option PrimO) (rs : List RSlot) (s : Nat) (v : AV) (st : St) : AExit → St → Prop
 | .normal, st2 => outD F prim rs s v st .niliface st2
 | .ret, st2 => outD F prim rs s v st .niliface st2
 | .panic w, st2 => outD F prim rs s v st w st2
 | .exit _, _ => False
def dfrK (F : FuncId → Option AFn) (prim : FuncId → Option PrimO) (rs : List RSlot) (s : Nat) (c2 : ACode) (v : AV) : AExit → St → Prop
 | .normal, st => (st.fr.look s).isSome = true ∧ W (sem F prim) (sloop F prim) 0 c2 st (outK F prim rs s v st)
 | .ret, st => endK rs (Am.frozen v) .ret st
 | _, _ => False
theorem dfrK_normal {F : FuncId → Option AFn} {prim : FuncId → Option PrimO} {rs : List RSlot} {s : Nat} {c2 : ACode} {v : AV} {st : St} : dfrK F prim rs s c2 v .normal st = ((st.fr.look s).isSome = true ∧ W (sem F prim) (sloop F prim) 0 c2 st (outK F prim rs s v st)) := rfl
theorem dfrK_ret {F : FuncId → Option AFn} {prim : FuncId → Option PrimO} {rs : List RSlot} {s : Nat} {c2 : ACode} {v : AV} {st : St} : dfrK F prim rs s c2 v .ret st = endK rs (Am.frozen v) .ret st := rfl
theorem outK_ret {F : FuncId → Option AFn} {prim : FuncId → Option PrimO} {rs : List RSlot} {s : Nat} {v : AV} {st st2 : St} : outK F prim rs s v st .ret st2 = outD F prim rs s v st .niliface st2 := rfl
theorem outK_panic {F : FuncId → Option AFn} {prim : FuncId → Option PrimO} {rs : List RSlot} {s : Nat} {v : AV} {st st2 : St} {w : PV} : outK F prim rs s v st (.panic w) st2 = outD F prim rs s v st w st2 := rfl
theorem sem_pure_dfr {F : FuncId → Option AFn} {prim : FuncId → Option PrimO} {f : FuncId} {fn : AFn} {args : List AV} {ps : List (Sh × PV)} {hp : Heap} {v : AV} {s : Nat} {c2 : ACode} (hp0 : prim f = none) (hf : F f = some fn) (hm : fn.heapMode = false) (hz : freezeAll args hp = some (ps, hp)) (hn : (pvs ps).length = fn.nparams) (hmo : fn.more = [(.dfr s, c2)])
  (h : W (sem F prim) (sloop F prim) 0 fn.code ⟨params 0 (pvs ps), []⟩ (dfrK F prim fn.results s c2 v)) (hr : fn.rcv = none := by rfl) : sem F prim .fn f args hp = some (.ret v, hp) := by
 rw [sem_eq]
 unfold acallFn
 rw [hp0, hf]
 have hl : ([] : Heap).length = 0 := rfl
 suffices hB : ∃ v' hp2, abody (sem F prim) (sloop F prim) fn (pvs ps) [] = some (.ret v', hp2) ∧ Am.frozen v v' hp2 by
  obtain ⟨v', hp2, h1, hp3, h2⟩ := hB
  simp only [hr, Option.isSome_none, hm, Bool.false_eq_true, if_false, hz, h1, h2]
  cases v.scalar <;> rfl
 unfold abody
 rw [if_neg (by simpa using hn), hmo]
 simp only [hl]
 unfold W at h
 split at h
 ·rename_i e st1 he
  cases e with
  | normal =>
   obtain ⟨-, hW⟩ := h
   unfold W at hW
   split at hW
   ·rename_i e2 st2 he2
    have fin : ∀ p : Option PV, outD F prim fn.results s v st1 (p.getD .niliface) st2 → ∀ e : AExit, (e = .normal ∨ e = .ret → p = none) → (∀ w, e = .panic w → p = some w) → (∀ i, e ≠ .exit i) → e = e2 → ∃ v' hp2, aleave (sem F prim) fn (apieces (sem F prim) (sloop F prim) 0 [(.dfr s, c2)] fn.code ⟨params 0 (pvs ps), []⟩ []) = some (.ret v', hp2) ∧ Am.frozen v v' hp2 := by
     rintro p ⟨g, fs, cs, k1, r, hp', v', k2, k3, k4⟩ e n1 n2 n3 rfl
     refine ⟨v', hp', ?_, k4⟩
     have k5 : atop (sem F prim) (.dfr s) st1 [] = some (.normal, st1, [.func (.func g) fs cs]) := by simp [atop, k1]
     have ka : apieces (sem F prim) (sloop F prim) 0 [(.dfr s, c2)] fn.code ⟨params 0 (pvs ps), []⟩ [] = some (e, st2, [.func (.func g) fs cs]) := by
      simp only [apieces, he, k5, he2]
     have ku : ∀ p' : Option PV, p' = p → aunwind (sem F prim) [.func (.func g) fs cs] p' st2.hp = some (none, hp') := by
      rintro p' rfl
      simp only [aunwind, calleeOf, k2]
     rw [ka]
     cases e with
     | normal => simp only [aleave, ku none (n1 (.inl rfl)).symm, aresult, k3]
     | ret => simp only [aleave, ku none (n1 (.inr rfl)).symm, aresult, k3]
     | panic w => simp only [aleave, ku (some w) (n2 w rfl).symm, aresult, k3]
     | exit i => exact absurd rfl (n3 i)
    cases e2 with
    | normal => exact fin none hW .normal (fun _ => rfl) (fun w e => by cases e) (fun i e => by cases e) rfl
    | ret => exact fin none hW .ret (fun _ => rfl) (fun w e => by cases e) (fun i e => by cases e) rfl
    | panic w => exact fin (some w) hW (.panic w) (fun e => by rcases e with e | e <;> cases e) (fun w e => by cases e; rfl) (fun i e => by cases e) rfl
    | exit i => exact hW.elim
   ·exact hW.elim
  | ret =>
   rw [dfrK_ret, endK_ret] at h
   cases hr : resultOf st1 fn.results with
   | none => rw [hr] at h; exact h.elim
   | some u =>
    rw [hr] at h
    exact ⟨u, st1.hp, by simp only [aleave, apieces, he, aunwind, aresult, hr], h⟩
  | exit i => exact h.elim
  | panic v => exact h.elim
 ·exact h.elim
def dendK (n : Nat) (H : Heap) : AExit → St → Prop
 | .normal, st => st.hp.take n = H
 | .ret, st => st.hp.take n = H
 | _, _ => False
theorem dendK_normal {n : Nat} {H : Heap} {st : St} : dendK n H .normal st = (st.hp.take n = H) := rfl
theorem sem_dfr1 {F : FuncId → Option AFn} {prim : FuncId → Option PrimO} {g : FuncId} {fn : AFn} {ws : List AV} {hp H : Heap} {s : Sh} {p : PV} {t : Nat} (hf : F g = some fn) (hr : fn.rcv = some t) (hmo : fn.more = []) (hn : ws.length = fn.nparams)
  (h : W (sem F prim) (sloop F prim) hp.length fn.code ⟨(t, .pv s p) :: params 0 ws, hp⟩ (dendK hp.length H)) : sem F prim .dfr g (.pv s p :: ws) hp = some (.ret (.tuple []), H) := by
 rw [sem_dfr]
 unfold adefer
 simp only [hf, hr, hmo, hn, ne_eq, not_true_eq_false, if_false]
 unfold W at h
 split at h
 ·rename_i e st he
  rw [he]
  cases e with
  | normal => rw [← h]
  | ret => rw [← h]
  | exit i => exact h.elim
  | panic v => exact h.elim
 ·exact h.elim
theorem dfr_nil (x0 x1 x3 : AObj) (s : AV) (k : AV) (e : Heap) : sem (find tab) prim .dfr 35 [.pv none .niliface, .ptr 2 0, .ptr 4 0] (x0 :: x1 :: .box none s :: x3 :: .box none k :: e) = some (.ret (.tuple []), x0 :: x1 :: .box none s :: x3 :: .box none k :: e) := by
 refine sem_dfr1 (t := 5) rfl rfl rfl rfl ?_
 have has : sAssert 53 (some 1) (.pv (some 1) (.agg [(none, .int .i64 0)])) true [.pv none .niliface] = some (.tuple [.pv (some 1) (.agg [(none, .int .i64 0)]), .pv none (.bool false)]) := rfl
 have hin : sIsnil true [.pv none .niliface] = some (.pv none (.bool false)) := rfl
 simp -dsimp -implicitDefEqProofs only [g35, c35r0, c35r1, c35r2, c35r3, c35r4, c35r5, c35k6, c35k7, c35, go_sem, seval, ↓reduceIte, has, hin, dendK_normal, List.append_assoc, List.cons_append, List.nil_append, get_pre, get_pre0, set_pre, set_pre0, Nat.add_assoc, List.length_append, List.length_cons, List.length_nil, Nat.zero_add]
 simp
theorem dfr_stop (x0 x1 x3 : AObj) (s : AV) (k y : Int) (e : Heap) : sem (find tab) prim .dfr 35 [.pv none (stopP y), .ptr 2 0, .ptr 4 0] (x0 :: x1 :: .box none s :: x3 :: .box none (.pv none (.int .i64 k)) :: e) = some (.ret (.tuple []), x0 :: x1 :: .box none (.tsl (some 5) []) :: x3 :: .box none (.pv none (.int .i64 y)) :: e) := by
 refine sem_dfr1 (t := 5) rfl rfl rfl rfl ?_
 have has : sAssert 53 (some 1) (.pv (some 1) (.agg [(none, .int .i64 0)])) true [.pv none (stopP y)] = some (.tuple [.pv (some 1) (.agg [(none, .int .i64 y)]), .pv none (.bool true)]) := rfl
 have hst : ∀ E : Heap, wStoren none (e.length + 5) (x0 :: x1 :: .box none s :: x3 :: .box none (.pv none (.int .i64 k)) :: E) [.ptr 2 0, .tsl (some 5) [], .ptr (e.length + 5) 0] = some (.undef, x0 :: x1 :: .box none (.tsl (some 5) []) :: x3 :: .box none (.pv none (.int .i64 k)) :: E) := fun E => by
  have h1 : ¬ e.length + 5 ≤ 2 := by omega
  simp [wStoren, astore, offPtr, AV.plain, AV.shp, AV.refsIn, h1]
 simp -dsimp -implicitDefEqProofs only [g35, c35r0, c35r1, c35r2, c35r3, c35r4, c35r5, c35k6, c35k7, c35, go_sem, seval, ↓reduceIte, has, hst, dendK_normal, List.append_assoc, List.cons_append, List.nil_append, get_pre, get_pre0, set_pre, set_pre0, Nat.add_assoc, List.length_append, List.length_cons, List.length_nil, Nat.zero_add]
 simp
theorem punify_ok (l : List B) (a b : Tm) (hl : l.length ≤ 10000) (hsz : ∀ b ∈ l, b.2.size < 1000000000) (ha : a.size < 1000000000) (hb : b.size < 1000000000) (hp : Heap) :
  S 12 [.pv none (.sl (some 5) (bds l)), a.av, b.av] hp = some (.ret (.tuple [.pv none (.sl (some 5) (bds (unR l a b).1)), .pv none (.int .i64 (unR l a b).2)]), hp) := by
 refine sem_pure_dfr rfl rfl rfl (freezeAll_pvs [(none, .sl (some 5) (bds l)), (some 4, a.pv), (some 4, b.pv)]) rfl rfl ?_
 have h1 := pvalidB_ok l (by omega) hsz
 have h2 := fun hp => valid_ok a hp ha
 have h3 := fun hp => valid_ok b hp hb
 simp only [Tm.av] at h2 h3
 have hal : ∀ a0 a1 : AObj, wAlloc none (.tsl (some 5) []) [a0, a1] [] = some (.ptr 2 0, [a0, a1, .box none (.sl (some 5) 3 0 0 0), .arr (some 5) [] false]) := fun _ _ => rfl
 by_cases hg : okb l = true ∧ a.valid = true ∧ b.valid = true
 rotate_left
 ·have e : unR l a b = ([], 1) := by unfold unR; rw [if_neg hg]
  rw [e]
  have hst : ∀ (x0 x1 x3 x4 : AObj), wStore none 0 [x0, x1, .box none (.sl (some 5) 3 0 0 0), x3, x4] [.ptr 2 0, .tsl (some 5) []] = some (.undef, [x0, x1, .box none (.sl (some 5) 5 0 0 0), x3, x4, .arr (some 5) [] false]) := fun _ _ _ _ => rfl
  cases hok : okb l with
  | false =>
   rw [hok] at h1
   simp -dsimp -implicitDefEqProofs only [g12, c12r0, c12r1, c12r2, c12k3, c12r4, c12r5, c12r6, c12r7, c12p8, c12, go_sem, seval, ↓reduceIte, Tm.av, hal, hst, h1, h2, h3, dfrK_ret, List.append_assoc, List.cons_append, List.nil_append, get_pre, get_pre0, set_pre, set_pre0, Nat.add_assoc, List.length_append, List.length_cons, List.length_nil, Nat.zero_add]
   exact ⟨_, rfl⟩
  | true =>
   rw [hok] at h1
   by_cases va : a.valid = true
   ·have vb : b.valid = false := by
     cases e : b.valid with
     | false => rfl
     | true => exact absurd ⟨hok, va, e⟩ hg
    simp -dsimp -implicitDefEqProofs only [g12, c12r0, c12r1, c12r2, c12k3, c12r4, c12r5, c12r6, c12r7, c12p8, c12, go_sem, seval, ↓reduceIte, Tm.av, hal, hst, h1, h2, h3, va, vb, dfrK_ret, List.append_assoc, List.cons_append, List.nil_append, get_pre, get_pre0, set_pre, set_pre0, Nat.add_assoc, List.length_append, List.length_cons, List.length_nil, Nat.zero_add]
    exact ⟨_, rfl⟩
   ·have va' : a.valid = false := by simpa using va
    simp -dsimp -implicitDefEqProofs only [g12, c12r0, c12r1, c12r2, c12k3, c12r4, c12r5, c12r6, c12r7, c12p8, c12, go_sem, seval, ↓reduceIte, Tm.av, hal, hst, h1, h2, h3, va', dfrK_ret, List.append_assoc, List.cons_append, List.nil_append, get_pre, get_pre0, set_pre, set_pre0, Nat.add_assoc, List.length_append, List.length_cons, List.length_nil, Nat.zero_add]
    exact ⟨_, rfl⟩
 ·have e : unR l a b = uni 1048576 l [(a, b)] := by unfold unR; rw [if_pos hg]
  rw [e]
  obtain ⟨hok, va, vb⟩ := hg
  have hO := okb_iff.1 hok
  rw [hok] at h1
  obtain ⟨H5, hH5⟩ : ∃ H5 : Heap, H5 = [.box (some 4) (.pv (some 4) a.pv), .box (some 4) (.pv (some 4) b.pv), .box none (.sl (some 5) 3 0 0 0), .arr (some 5) [] false, .box none (.pv none (.int .i64 0))] := ⟨_, rfl⟩
  have hb5 : Bq H5 := by
   rw [hH5]
   exact Bq.cons (bq_tm a) (Bq.cons (bq_tm b) (Bq.cons rfl (Bq.cons rfl (Bq.cons rfl Bq.nil))))
  have hcn := pclone_ok l hO.good (by omega) H5 hb5
  obtain ⟨res, hp', hrun, hP⟩ := prun_ok l a b hO hl va vb (H5 ++ [.arr (some 5) [] false, .arr (some 5) [] false, .box (some 1) .undef]) (hb5.app (Bq.cons rfl (Bq.cons rfl (Bq.cons rfl Bq.nil)))) 7 6 (by rw [hH5]; simp) (by rw [hH5]; simp) (by decide)
  have hU : ∀ l, US (H5 ++ [.arr (some 5) [] false, .arr (some 5) [] false, .box (some 1) .undef]) 7 6 l = [.box (some 4) (.pv (some 4) a.pv), .box (some 4) (.pv (some 4) b.pv), .box none (.sl (some 5) 3 0 0 0), .arr (some 5) [] false, .box none (.pv none (.int .i64 0)), .arr (some 5) [] false, .arr (some 5) (bds l) false, .box (some 1) (.agg [(none, .sl (some 5) 6 l.length 0 l.length)])] := fun l => by rw [hH5]; rfl
  rw [hH5] at hcn
  rw [hU] at hrun
  simp only [Tm.av, List.cons_append, List.nil_append, List.length_cons, List.length_nil] at hrun hcn
  have hbu : sBuild [(none, .tsl (some 5) [])] [0] [.sl (some 5) 6 l.length 0 l.length] = some (.agg [(none, .sl (some 5) 6 l.length 0 l.length)]) := rfl
  have hpan : ∀ A : Prop, panK true A = A := fun _ => rfl
  rcases hP with ⟨l', he, rfl, rfl⟩ | ⟨e, l', he, rfl, rfl⟩
  ·rw [hU] at hrun
   rw [he]
   simp -dsimp -implicitDefEqProofs only [g12, c12r0, c12r1, c12r2, c12k3, c12r4, c12r5, c12r6, c12r7, c12p8, c12, go_sem, seval, ↓reduceIte, Tm.av, hal, h1, h2, h3, va, vb, hcn, hbu, hrun, own_cons_sl, w_box_agg, w_store_sl (Nat.zero_le _), s_nilcheck_ptr, dfrK_ret, dfrK_normal, outK_ret, outK_panic, hpan, List.append_assoc, List.cons_append, List.nil_append, get_pre, get_pre0, set_pre, set_pre0, Nat.add_assoc, List.length_append, List.length_cons, List.length_nil, Nat.zero_add]
   refine ⟨rfl, 35, [], [.ptr 2 0, .ptr 4 0], rfl, _, _, _, dfr_nil _ _ _ _ _ _, rfl, ?_⟩
   refine ⟨[.box (some 4) (.pv (some 4) a.pv), .box (some 4) (.pv (some 4) b.pv), .box none (.sl (some 5) 6 l'.length 0 l'.length), .arr (some 5) [] false, .box none (.pv none (.int .i64 0)), .arr (some 5) [] false, .arr (some 5) (bds l') true, .box (some 1) (.agg [(none, .sl (some 5) 6 l'.length 0 l'.length)])], ?_⟩
   simp [AV.freezeRes, freezeAll, AV.freeze, deep, bds_len, pvs, AV.shp]
  ·rw [hU] at hrun
   rw [he]
   simp -dsimp -implicitDefEqProofs only [g12, c12r0, c12r1, c12r2, c12k3, c12r4, c12r5, c12r6, c12r7, c12p8, c12, go_sem, seval, ↓reduceIte, Tm.av, hal, h1, h2, h3, va, vb, hcn, hbu, hrun, own_cons_sl, w_box_agg, w_store_sl (Nat.zero_le _), s_nilcheck_ptr, dfrK_ret, dfrK_normal, outK_ret, outK_panic, hpan, List.append_assoc, List.cons_append, List.nil_append, get_pre, get_pre0, set_pre, set_pre0, Nat.add_assoc, List.length_append, List.length_cons, List.length_nil, Nat.zero_add]
   refine ⟨rfl, 35, [], [.ptr 2 0, .ptr 4 0], rfl, _, _, _, dfr_stop _ _ _ _ _ _ _, rfl, ?_⟩
   exact ⟨_, rfl⟩
end Go.Proofs.Ytenkiofpobeilaa
