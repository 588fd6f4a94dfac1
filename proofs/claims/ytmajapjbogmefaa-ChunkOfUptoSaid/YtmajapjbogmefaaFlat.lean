/- What is proved: flat.Valid and the reference for it give what plain functions give. -/
import Derived.Test.YtmajapjbogmefaaTerm
import Derived.Test.YtmajapjbogmefaaAm4
set_option linter.unusedSimpArgs false
set_option linter.unusedVariables false
namespace Go.Proofs.Ytmajapjbogmefaa
open Go.Am
theorem room_ok (l : List Tm) (hp : Heap) (r : Nat) (left : Int) (hl : Tm.sizes l < 1000000000) (h0 : 0 ≤ left) (h1 : left ≤ 131072) (hr : hp[r]? = some (.box none (.pv none (.int .i64 left)))) :
    S 33 [.ptr r 0, .pv none (.sl (some 4) (Tm.pvs l))] hp = some (.ret (.pv none (.bool (roomF left l).1)), hp.set r (.box none (.pv none (.int .i64 (roomF left l).2)))) := by
  have hrl := get_lt hr
  have hlen := Tm.sizes_len l
  refine sem_heap rfl rfl rfl rfl ?_
  simp -dsimp -implicitDefEqProofs only [g33, c33r0, c33r1, c33r2, c33k3, c33r4, c33r5, c33r6, c33k7, c33r8, c33r9, c33r10, c33k11, c33k12, c33r13, c33b14, c33k15, c33r16, c33, go_sem, seval, ↓reduceIte, Tm.pvs_len]
  refine W_loop (fun n st => ∃ (i : Nat) (b : Int), n = l.length - i ∧ i ≤ l.length ∧ 0 ≤ b ∧ b ≤ 131072 ∧ roomF left l = roomF b (l.drop i) ∧ st = ⟨[(0, .ptr r 0), (7, .pv none (.sl (some 4) (Tm.pvs l))), (8, .pv none (.int .i64 l.length)), (9, .pv none (.int .i64 i))], hp.set r (.box none (.pv none (.int .i64 b)))⟩) (n := l.length) ⟨0, left, rfl, Nat.zero_le _, h0, h1, rfl, ?_⟩ ?_
  · rw [set_self hr]
    rfl
  · rintro n st ⟨i, b, hn, hi, hb0, hb1, hrf, rfl⟩
    by_cases h : i < l.length
    · have hc : (i : Int) < (l.length : Int) := by omega
      obtain ⟨u, hu⟩ : ∃ u, l[i]? = some u := ⟨_, List.getElem?_eq_getElem h⟩
      have hum := List.mem_of_getElem? hu
      have husz : u.size < 1000000000 := Nat.lt_of_le_of_lt (Tm.sizes_mem hum) hl
      have hv := fun hp => valid_ok u hp husz
      have hs := fun hp => size_ok u hp husz
      simp only [Tm.av] at hv hs
      obtain ⟨H, hH⟩ : ∃ H : Heap, H = hp.set r (.box none (.pv none (.int .i64 b))) := ⟨_, rfl⟩
      have hHl : H.length = hp.length := by rw [hH]; simp
      have hHr : H[r]? = some (.box none (.pv none (.int .i64 b))) := by rw [hH]; simp [hrl]
      have hHs : ∀ z, H.set r z = hp.set r z := fun z => by rw [hH]; simp
      have hrH : r < H.length := by omega
      have e5 : ∀ y x c : AObj, (hp.set r y ++ [x] ++ [c])[r]? = some y := fun y x c => by rw [get_low (by simpa using hrl)]; simp [hrl]
      rw [← hH]
      have w2 : IntKind.i64.wrap ((i : Int) + 1) = ((i + 1 : Nat) : Int) := by rw [wrap64 (by omega) (by omega)]; omega
      rw [roomF_step hu] at hrf
      by_cases hvu : u.valid = true
      · have h20 := valid_size hvu
        have e7 : min u.size 2001 = u.size := by omega
        have w3 : IntKind.i64.wrap (b - (u.size : Int)) = b - (u.size : Int) := by rw [wrap64 (by omega) (by omega)]
        rw [hvu] at hv
        rw [if_pos hvu] at hrf
        simp only [e7] at hs
        by_cases h0 : b - (u.size : Int) < 0
        · rw [if_pos h0] at hrf
          simp -dsimp -implicitDefEqProofs only [g33, c33r0, c33r1, c33r2, c33k3, c33r4, c33r5, c33r6, c33k7, c33r8, c33r9, c33r10, c33k11, c33k12, c33r13, c33b14, c33k15, c33r16, c33, go_sem, seval, ↓reduceIte, hc, s_iaddr_pv (Tm.pvs_get hu), set_two, get_two, get_low hrH, set_low hrH, hHr, hHs, e5, hv, hs, s_nilcheck_ptr, List.take_succ_cons, List.drop_succ_cons, List.all_cons, List.all_nil, samePtr_int ((get_low hrH _ _).trans hHr) ((get_low hrH _ _).trans hHr), w3, h0, hrf]
          simp [AV.refsIn, hHl]
        · rw [if_neg h0] at hrf
          simp -dsimp -implicitDefEqProofs only [g33, c33r0, c33r1, c33r2, c33k3, c33r4, c33r5, c33r6, c33k7, c33r8, c33r9, c33r10, c33k11, c33k12, c33r13, c33b14, c33k15, c33r16, c33, go_sem, seval, ↓reduceIte, hc, s_iaddr_pv (Tm.pvs_get hu), set_two, get_two, get_low hrH, set_low hrH, hHr, hHs, e5, hv, hs, s_nilcheck_ptr, List.take_succ_cons, List.drop_succ_cons, List.all_cons, List.all_nil, samePtr_int ((get_low hrH _ _).trans hHr) ((get_low hrH _ _).trans hHr), w3, h0, w2]
          refine ⟨l.length - (i + 1), by omega, i + 1, b - (u.size : Int), rfl, by omega, by omega, by omega, hrf, ?_⟩
          rw [List.append_assoc, collect_drop (by simp) (by simp [AV.refsIn, hrl])]
      · rw [Bool.not_eq_true] at hvu
        rw [hvu] at hv hrf
        simp only [Bool.false_eq_true, if_false] at hrf
        simp -dsimp -implicitDefEqProofs only [g33, c33r0, c33r1, c33r2, c33k3, c33r4, c33r5, c33r6, c33k7, c33r8, c33r9, c33r10, c33k11, c33k12, c33r13, c33b14, c33k15, c33r16, c33, go_sem, seval, ↓reduceIte, hc, s_iaddr_pv (Tm.pvs_get hu), set_two, get_two, get_low hrH, set_low hrH, hHr, hHs, e5, hv, hrf]
        simp [AV.refsIn, hHl]
        exact hH
    · have hc : ¬ (i : Int) < (l.length : Int) := by omega
      obtain rfl : i = l.length := by omega
      rw [List.drop_length] at hrf
      simp -dsimp -implicitDefEqProofs only [g33, c33r0, c33r1, c33r2, c33k3, c33r4, c33r5, c33r6, c33k7, c33r8, c33r9, c33r10, c33k11, c33k12, c33r13, c33b14, c33k15, c33r16, c33, go_sem, seval, ↓reduceIte, hc, hrf, roomF]
      simp [AV.refsIn, List.take_of_length_le]
theorem pred_ok (p : Pr) (hp : Heap) : S 32 [.pv (some 3) p.pv] hp = some (.ret (.pv none (.bool p.ok)), hp) := by
  refine sem_pure rfl rfl rfl (freezeAll_pvs [(some 3, p.pv)]) rfl ?_
  have h1 : ∀ q : Pr, q.pv = .agg [(none, .str q.name), (none, .int .i64 q.arity), (none, .int .i64 q.aux)] := fun _ => rfl
  simp only [h1]
  unfold Pr.ok
  (repeat' (first | (simp -dsimp -implicitDefEqProofs only [g32, c32r0, c32r1, c32r2, c32k3, c32r4, c32, go_sem, seval, ↓reduceIte, *]) | (refine iteK_intro (fun _ => ?_) (fun _ => ?_))))
  all_goals (simp_all <;> omega)

theorem steps_drop {c : Bool} {left : Int} {l : List Gl} {i : Nat} {g : Gl} (h : l[i]? = some g) : Gl.steps c left (l.drop i) = match g.step c left with
    | some (c', l') => Gl.steps c' l' (l.drop (i + 1))
    | none => false := by
  obtain ⟨h1, rfl⟩ := List.getElem?_eq_some_iff.1 h
  rw [List.drop_eq_getElem_cons h1, Gl.steps]
  cases Gl.step c left l[i] with
  | none => rfl
  | some q => rfl
theorem flatLoop_ok (f : Fl) (called : Bool) (left : Int) (h0 : 0 ≤ left) (h1 : left ≤ 131072) (hs : ∀ g ∈ f.goals, Tm.sizes g.args < 1000000000) (hlen : f.goals.length < 1000000000) (Q : AExit → St → Prop)
    (hQt : ∀ fr hp, Gl.steps called left f.goals = true → Q .normal ⟨fr, hp⟩) (hQf : ∀ hp, Gl.steps called left f.goals = false → Q .ret ⟨[(2, .pv none (.bool false))], hp⟩) :
    W Z L 0 c15k35 ⟨[(3, .ptr 1 0), (4, .pv none (.bool called)), (29, .pv none (.sl (some 6) (Gl.pvs f.goals))), (30, .pv none (.int .i64 f.goals.length)), (31, .pv none (.int .i64 0))], [.box (some 5) (.pv (some 5) f.pv), .box none (.pv none (.int .i64 left))]⟩ Q := by
  simp -dsimp -implicitDefEqProofs only [g15, c15r0, c15r1, c15r2, c15r3, c15k4, c15r5, c15r6, c15r7, c15k8, c15r9, c15r10, c15r11, c15r12, c15r13, c15r14, c15r15, c15r16, c15r17, c15r18, c15r19, c15k20, c15r21, c15r22, c15r23, c15k24, c15k25, c15k26, c15k27, c15k28, c15r29, c15r30, c15k31, c15k32, c15r33, c15b34, c15k35, c15r36, c15, go_sem, seval, ↓reduceIte]
  refine W_loop (fun n st => ∃ (i : Nat) (c : Bool) (b : Int), n = f.goals.length - i ∧ i ≤ f.goals.length ∧ 0 ≤ b ∧ b ≤ 131072 ∧ Gl.steps called left f.goals = Gl.steps c b (f.goals.drop i) ∧
    st = ⟨[(3, .ptr 1 0), (4, .pv none (.bool c)), (29, .pv none (.sl (some 6) (Gl.pvs f.goals))), (30, .pv none (.int .i64 f.goals.length)), (31, .pv none (.int .i64 i))], [.box (some 5) (.pv (some 5) f.pv), .box none (.pv none (.int .i64 b))]⟩) (n := f.goals.length) ⟨0, called, left, rfl, Nat.zero_le _, h0, h1, rfl, rfl⟩ ?_
  rintro n st ⟨i, c, b, hn, hi, hb0, hb1, hst, rfl⟩
  by_cases h : i < f.goals.length
  · have hc : (i : Int) < (f.goals.length : Int) := by omega
    obtain ⟨g, hg⟩ : ∃ g, f.goals[i]? = some g := ⟨_, List.getElem?_eq_getElem h⟩
    have hgm := List.mem_of_getElem? hg
    have hroom := fun c d => room_ok g.args [.box (some 5) (.pv (some 5) f.pv), .box none (.pv none (.int .i64 b)), c, d] 1 b (hs g hgm) hb0 hb1 rfl
    have hpred := pred_ok g.pred
    have w2 : IntKind.i64.wrap ((i : Int) + 1) = ((i + 1 : Nat) : Int) := by rw [wrap64 (by omega) (by omega)]; omega
    rw [steps_drop hg] at hst
    have next : Kept (∀ c' b', g.step c b = some (c', b') → Gl.steps called left f.goals = Gl.steps c' b' (f.goals.drop (i + 1))) := .mk fun c' b' e => by rw [hst, e]
    have stop : Kept (g.step c b = none → Gl.steps called left f.goals = false) := .mk fun e => by rw [hst, e]
    have hQf' : Kept (∀ hp, Gl.steps called left f.goals = false → Q .ret ⟨[(2, .pv none (.bool false))], hp⟩) := .mk hQf
    clear hst hQt hQf
    have hb : g.bare = (g.pred.zero && decide ((g.args.length : Int) = 0)) := rfl
    rcases (by omega : g.kind = 1 ∨ g.kind = 2 ∨ g.kind = 3 ∨ g.kind = 4 ∨ g.kind = 5 ∨ (g.kind ≠ 1 ∧ g.kind ≠ 2 ∧ g.kind ≠ 3 ∧ g.kind ≠ 4 ∧ g.kind ≠ 5)) with k | k | k | k | k | ⟨k1, k2, k3, k4, k5⟩
    · obtain ⟨ok, l', hrl⟩ : ∃ ok l', roomF b g.args = (ok, l') := ⟨_, _, rfl⟩
      rw [hrl] at hroom
      have hle : l' ≤ b := by have := roomF_le g.args b; rw [hrl] at this; exact this
      have hge : Kept (ok = true → 0 ≤ l') := .mk fun e => roomF_pos g.args b l' hb0 (by rw [hrl, e])
      have hstep : Kept (g.step c b = if (g.pred.ok && decide ((g.args.length : Int) = g.pred.arity) && decide (g.var = 0)) = true then (match (ok, l') with | (true, l) => some (true, l) | _ => none) else none) := .mk (by unfold Gl.step; rw [if_pos k, hrl]; cases ok <;> rfl)
      clear hrl
      cases hz : g.pred.zero <;>
      (repeat' (first | (simp -dsimp -implicitDefEqProofs only [g15, c15r0, c15r1, c15r2, c15r3, c15k4, c15r5, c15r6, c15r7, c15k8, c15r9, c15r10, c15r11, c15r12, c15r13, c15r14, c15r15, c15r16, c15r17, c15r18, c15r19, c15k20, c15r21, c15r22, c15r23, c15k24, c15k25, c15k26, c15k27, c15k28, c15r29, c15r30, c15k31, c15k32, c15r33, c15b34, c15k35, c15r36, c15, go_sem, seval, ↓reduceIte, hc, s_iaddr_pv (Gl.pvs_get hg), gl_kind, gl_pred, gl_arity, gl_args, gl_var, zero_pred, eqs_zero, Tm.pvs_len, hpred, w2, hz, hroom, *]) | (refine iteK_intro (fun _ => ?_) (fun _ => ?_))))
      all_goals first
        | (refine hQf'.out _ (stop.out ?_); rw [hstep.out]; (try simp only [Bool.not_eq_true, Bool.not_eq_false] at *); simp only [*, decide_true, decide_false, Bool.and_true, Bool.true_and, Bool.false_and, Bool.and_false, Bool.not_true, Bool.not_false, if_true, if_false, Bool.false_eq_true, eq_self, and_self]; done)
        | (refine ⟨f.goals.length - (i + 1), by omega, i + 1, true, l', rfl, by omega, hge.out (by cases ok <;> simp_all), by omega, next.out _ _ ?_, ?_⟩
           · rw [hstep.out]; (try simp only [Bool.not_eq_true, Bool.not_eq_false] at *); simp only [*, decide_true, decide_false, Bool.and_true, Bool.true_and, Bool.false_and, Bool.and_false, Bool.not_true, Bool.not_false, if_true, if_false, Bool.false_eq_true, eq_self, and_self]
           · first | (rw [collect_2 _ _ _ _ (by simp [AV.refsIn]) rfl rfl]; done) | (rw [collect_2 _ _ _ _ (by simp [AV.refsIn]) rfl rfl]; simp_all))
    · clear hroom
      have hstep : Kept (g.step c b = if (g.bare && decide (0 ≤ g.var) && decide (g.var ≤ 1099511627776) && !c) = true then some (c, b) else none) := .mk (by unfold Gl.step; simp [k])
      try rw [hb] at hstep
      clear hb
      cases hz : g.pred.zero <;>
      (repeat' (first | (simp -dsimp -implicitDefEqProofs only [g15, c15r0, c15r1, c15r2, c15r3, c15k4, c15r5, c15r6, c15r7, c15k8, c15r9, c15r10, c15r11, c15r12, c15r13, c15r14, c15r15, c15r16, c15r17, c15r18, c15r19, c15k20, c15r21, c15r22, c15r23, c15k24, c15k25, c15k26, c15k27, c15k28, c15r29, c15r30, c15k31, c15k32, c15r33, c15b34, c15k35, c15r36, c15, go_sem, seval, ↓reduceIte, hc, s_iaddr_pv (Gl.pvs_get hg), gl_kind, gl_pred, gl_arity, gl_args, gl_var, zero_pred, eqs_zero, Tm.pvs_len, hpred, w2, hz, *]) | (refine iteK_intro (fun _ => ?_) (fun _ => ?_))))
      all_goals first
        | (refine hQf'.out _ (stop.out ?_); rw [hstep.out]; (try simp only [Bool.not_eq_true, Bool.not_eq_false] at *); simp only [*, decide_true, decide_false, Bool.and_true, Bool.true_and, Bool.false_and, Bool.and_false, Bool.not_true, Bool.not_false, if_true, if_false, Bool.false_eq_true, eq_self, and_self]; done)
        | (refine ⟨f.goals.length - (i + 1), by omega, i + 1, c, b, rfl, by omega, hb0, hb1, next.out _ _ ?_, ?_⟩
           · rw [hstep.out]; (try simp only [Bool.not_eq_true, Bool.not_eq_false] at *); simp only [*, decide_true, decide_false, Bool.and_true, Bool.true_and, Bool.false_and, Bool.and_false, Bool.not_true, Bool.not_false, if_true, if_false, Bool.false_eq_true, eq_self, and_self]
           · first | (rw [collect_2 _ _ _ _ (by simp [AV.refsIn]) rfl rfl]; done) | (rw [collect_2 _ _ _ _ (by simp [AV.refsIn]) rfl rfl]; simp_all))
    · clear hroom
      have hstep : Kept (g.step c b = if (g.bare && decide (0 ≤ g.var) && decide (g.var ≤ 1099511627776)) = true then some (c, b) else none) := .mk (by unfold Gl.step; simp [k])
      try rw [hb] at hstep
      clear hb
      cases hz : g.pred.zero <;>
      (repeat' (first | (simp -dsimp -implicitDefEqProofs only [g15, c15r0, c15r1, c15r2, c15r3, c15k4, c15r5, c15r6, c15r7, c15k8, c15r9, c15r10, c15r11, c15r12, c15r13, c15r14, c15r15, c15r16, c15r17, c15r18, c15r19, c15k20, c15r21, c15r22, c15r23, c15k24, c15k25, c15k26, c15k27, c15k28, c15r29, c15r30, c15k31, c15k32, c15r33, c15b34, c15k35, c15r36, c15, go_sem, seval, ↓reduceIte, hc, s_iaddr_pv (Gl.pvs_get hg), gl_kind, gl_pred, gl_arity, gl_args, gl_var, zero_pred, eqs_zero, Tm.pvs_len, hpred, w2, hz, *]) | (refine iteK_intro (fun _ => ?_) (fun _ => ?_))))
      all_goals first
        | (refine hQf'.out _ (stop.out ?_); rw [hstep.out]; (try simp only [Bool.not_eq_true, Bool.not_eq_false] at *); simp only [*, decide_true, decide_false, Bool.and_true, Bool.true_and, Bool.false_and, Bool.and_false, Bool.not_true, Bool.not_false, if_true, if_false, Bool.false_eq_true, eq_self, and_self]; done)
        | (refine ⟨f.goals.length - (i + 1), by omega, i + 1, c, b, rfl, by omega, hb0, hb1, next.out _ _ ?_, ?_⟩
           · rw [hstep.out]; (try simp only [Bool.not_eq_true, Bool.not_eq_false] at *); simp only [*, decide_true, decide_false, Bool.and_true, Bool.true_and, Bool.false_and, Bool.and_false, Bool.not_true, Bool.not_false, if_true, if_false, Bool.false_eq_true, eq_self, and_self]
           · first | (rw [collect_2 _ _ _ _ (by simp [AV.refsIn]) rfl rfl]; done) | (rw [collect_2 _ _ _ _ (by simp [AV.refsIn]) rfl rfl]; simp_all))
    · clear hroom
      have hstep : Kept (g.step c b = if (g.bare && decide (0 ≤ g.var) && decide (g.var ≤ 1099511627776)) = true then some (c, b) else none) := .mk (by unfold Gl.step; simp [k])
      try rw [hb] at hstep
      clear hb
      cases hz : g.pred.zero <;>
      (repeat' (first | (simp -dsimp -implicitDefEqProofs only [g15, c15r0, c15r1, c15r2, c15r3, c15k4, c15r5, c15r6, c15r7, c15k8, c15r9, c15r10, c15r11, c15r12, c15r13, c15r14, c15r15, c15r16, c15r17, c15r18, c15r19, c15k20, c15r21, c15r22, c15r23, c15k24, c15k25, c15k26, c15k27, c15k28, c15r29, c15r30, c15k31, c15k32, c15r33, c15b34, c15k35, c15r36, c15, go_sem, seval, ↓reduceIte, hc, s_iaddr_pv (Gl.pvs_get hg), gl_kind, gl_pred, gl_arity, gl_args, gl_var, zero_pred, eqs_zero, Tm.pvs_len, hpred, w2, hz, *]) | (refine iteK_intro (fun _ => ?_) (fun _ => ?_))))
      all_goals first
        | (refine hQf'.out _ (stop.out ?_); rw [hstep.out]; (try simp only [Bool.not_eq_true, Bool.not_eq_false] at *); simp only [*, decide_true, decide_false, Bool.and_true, Bool.true_and, Bool.false_and, Bool.and_false, Bool.not_true, Bool.not_false, if_true, if_false, Bool.false_eq_true, eq_self, and_self]; done)
        | (refine ⟨f.goals.length - (i + 1), by omega, i + 1, c, b, rfl, by omega, hb0, hb1, next.out _ _ ?_, ?_⟩
           · rw [hstep.out]; (try simp only [Bool.not_eq_true, Bool.not_eq_false] at *); simp only [*, decide_true, decide_false, Bool.and_true, Bool.true_and, Bool.false_and, Bool.and_false, Bool.not_true, Bool.not_false, if_true, if_false, Bool.false_eq_true, eq_self, and_self]
           · first | (rw [collect_2 _ _ _ _ (by simp [AV.refsIn]) rfl rfl]; done) | (rw [collect_2 _ _ _ _ (by simp [AV.refsIn]) rfl rfl]; simp_all))
    · clear hroom
      have hstep : Kept (g.step c b = if (g.bare && decide (g.var = 0)) = true then some (c, b) else none) := .mk (by unfold Gl.step; simp [k])
      try rw [hb] at hstep
      clear hb
      cases hz : g.pred.zero <;>
      (repeat' (first | (simp -dsimp -implicitDefEqProofs only [g15, c15r0, c15r1, c15r2, c15r3, c15k4, c15r5, c15r6, c15r7, c15k8, c15r9, c15r10, c15r11, c15r12, c15r13, c15r14, c15r15, c15r16, c15r17, c15r18, c15r19, c15k20, c15r21, c15r22, c15r23, c15k24, c15k25, c15k26, c15k27, c15k28, c15r29, c15r30, c15k31, c15k32, c15r33, c15b34, c15k35, c15r36, c15, go_sem, seval, ↓reduceIte, hc, s_iaddr_pv (Gl.pvs_get hg), gl_kind, gl_pred, gl_arity, gl_args, gl_var, zero_pred, eqs_zero, Tm.pvs_len, hpred, w2, hz, *]) | (refine iteK_intro (fun _ => ?_) (fun _ => ?_))))
      all_goals first
        | (refine hQf'.out _ (stop.out ?_); rw [hstep.out]; (try simp only [Bool.not_eq_true, Bool.not_eq_false] at *); simp only [*, decide_true, decide_false, Bool.and_true, Bool.true_and, Bool.false_and, Bool.and_false, Bool.not_true, Bool.not_false, if_true, if_false, Bool.false_eq_true, eq_self, and_self]; done)
        | (refine ⟨f.goals.length - (i + 1), by omega, i + 1, c, b, rfl, by omega, hb0, hb1, next.out _ _ ?_, ?_⟩
           · rw [hstep.out]; (try simp only [Bool.not_eq_true, Bool.not_eq_false] at *); simp only [*, decide_true, decide_false, Bool.and_true, Bool.true_and, Bool.false_and, Bool.and_false, Bool.not_true, Bool.not_false, if_true, if_false, Bool.false_eq_true, eq_self, and_self]
           · first | (rw [collect_2 _ _ _ _ (by simp [AV.refsIn]) rfl rfl]; done) | (rw [collect_2 _ _ _ _ (by simp [AV.refsIn]) rfl rfl]; simp_all))
    · clear hroom
      have hstep : Kept (g.step c b = none) := .mk (by unfold Gl.step; simp [k1, k2, k3, k4, k5])
      try rw [hb] at hstep
      clear hb
      cases hz : g.pred.zero <;>
      (repeat' (first | (simp -dsimp -implicitDefEqProofs only [g15, c15r0, c15r1, c15r2, c15r3, c15k4, c15r5, c15r6, c15r7, c15k8, c15r9, c15r10, c15r11, c15r12, c15r13, c15r14, c15r15, c15r16, c15r17, c15r18, c15r19, c15k20, c15r21, c15r22, c15r23, c15k24, c15k25, c15k26, c15k27, c15k28, c15r29, c15r30, c15k31, c15k32, c15r33, c15b34, c15k35, c15r36, c15, go_sem, seval, ↓reduceIte, hc, s_iaddr_pv (Gl.pvs_get hg), gl_kind, gl_pred, gl_arity, gl_args, gl_var, zero_pred, eqs_zero, Tm.pvs_len, hpred, w2, hz, *]) | (refine iteK_intro (fun _ => ?_) (fun _ => ?_))))
      all_goals exact hQf'.out _ (stop.out hstep.out)
  · have hc : ¬ (i : Int) < (f.goals.length : Int) := by omega
    obtain rfl : i = f.goals.length := by omega
    rw [List.drop_length, Gl.steps] at hst
    simp -dsimp -implicitDefEqProofs only [g15, c15r0, c15r1, c15r2, c15r3, c15k4, c15r5, c15r6, c15r7, c15k8, c15r9, c15r10, c15r11, c15r12, c15r13, c15r14, c15r15, c15r16, c15r17, c15r18, c15r19, c15k20, c15r21, c15r22, c15r23, c15k24, c15k25, c15k26, c15k27, c15k28, c15r29, c15r30, c15k31, c15k32, c15r33, c15b34, c15k35, c15r36, c15, go_sem, seval, ↓reduceIte, hc]
    exact hQt _ _ hst

theorem flatValid_ok (f : Fl) (hp : Heap) (ha : Tm.sizes f.args < 1000000000) (hs : ∀ g ∈ f.goals, Tm.sizes g.args < 1000000000) (hlen : f.goals.length < 1000000000) : S 15 [f.av] hp = some (.ret (.pv none (.bool f.valid)), hp) := by
  refine sem_pure rfl rfl rfl (freezeAll_pvs [(some 5, f.pv)]) rfl ?_
  have hpred := pred_ok f.pred
  obtain ⟨ok, l', hrl⟩ : ∃ ok l', roomF 131072 f.args = (ok, l') := ⟨_, _, rfl⟩
  have hroom := fun c => room_ok f.args [c, .box none (.pv none (.int .i64 131072))] 1 131072 ha (by omega) (by omega) rfl
  rw [hrl] at hroom
  have hle : l' ≤ 131072 := by have := roomF_le f.args 131072; rw [hrl] at this; exact this
  have hge : Kept (ok = true → 0 ≤ l') := .mk fun e => roomF_pos f.args 131072 l' (by omega) (by rw [hrl, e])
  have hv : f.valid = (f.pred.ok && decide ((f.args.length : Int) = f.pred.arity) && match (ok, l') with | (true, l) => Gl.steps false l f.goals | _ => false) := by unfold Fl.valid; rw [hrl]; cases ok <;> rfl
  clear hrl
  (repeat' (first | (simp -dsimp -implicitDefEqProofs only [g15, c15r0, c15r1, c15r2, c15r3, c15k4, c15r5, c15r6, c15r7, c15k8, c15r9, c15r10, c15r11, c15r12, c15r13, c15r14, c15r15, c15r16, c15r17, c15r18, c15r19, c15k20, c15r21, c15r22, c15r23, c15k24, c15k25, c15k26, c15k27, c15k28, c15r29, c15r30, c15k31, c15k32, c15r33, c15b34, c15r36, c15, go_sem, seval, ↓reduceIte, fl_pred, fl_arity, fl_args, fl_goals, hpred, Tm.pvs_len, Gl.pvs_len, hroom, *]) | (refine iteK_intro (fun _ => ?_) (fun _ => ?_))))
  have hok : ok = true := by cases ok <;> simp_all
  subst hok
  have hp1 : f.pred.ok = true := ‹_›
  have hp2 : (f.args.length : Int) = f.pred.arity := ‹_›
  have hv2 : f.valid = Gl.steps false l' f.goals := by rw [hv, hp1, decide_eq_true hp2]; rfl
  refine flatLoop_ok f false l' (hge.out rfl) hle hs hlen _ (fun fr hp h => ?_) (fun hp h => ?_)
  · rw [hv2, h]
    simp -dsimp -implicitDefEqProofs only [g15, c15r0, c15r1, c15r2, c15r3, c15k4, c15r5, c15r6, c15r7, c15k8, c15r9, c15r10, c15r11, c15r12, c15r13, c15r14, c15r15, c15r16, c15r17, c15r18, c15r19, c15k20, c15r21, c15r22, c15r23, c15k24, c15k25, c15k26, c15k27, c15k28, c15r29, c15r30, c15k31, c15k32, c15r33, c15b34, c15r36, c15, go_sem, seval, ↓reduceIte]
  · rw [hv2, h]
    simp -dsimp -implicitDefEqProofs only [g15, c15r0, c15r1, c15r2, c15r3, c15k4, c15r5, c15r6, c15r7, c15k8, c15r9, c15r10, c15r11, c15r12, c15r13, c15r14, c15r15, c15r16, c15r17, c15r18, c15r19, c15k20, c15r21, c15r22, c15r23, c15k24, c15k25, c15k26, c15k27, c15k28, c15r29, c15r30, c15k31, c15k32, c15r33, c15b34, c15r36, c15, go_sem, seval, ↓reduceIte]
end Go.Proofs.Ytmajapjbogmefaa
