/- What is proved: the reference for flat.Valid gives what a plain function gives. -/
import Derived.Test.YtmajapjbogmefaaFlat
set_option linter.unusedSimpArgs false
set_option linter.unusedVariables false
namespace Go.Proofs.Ytmajapjbogmefaa
open Go.Am
theorem terms_ok (l : List Tm) (left : Int) (hp : Heap) (hl : Tm.sizes l < 1000000000) (h0 : 0 ≤ left) (h1 : left ≤ 131072) :
    S 46 [.pv none (.sl (some 4) (Tm.pvs l)), .pv none (.int .i64 (131072 - left))] hp = some (.ret (.tuple [.pv none (.int .i64 (131072 - (roomF left l).2)), .pv none (.bool (roomF left l).1)]), hp) := by
  have hlen := Tm.sizes_len l
  refine sem_pure rfl rfl rfl (freezeAll_pvs [(none, .sl (some 4) (Tm.pvs l)), (none, .int .i64 (131072 - left))]) rfl ?_
  simp -dsimp -implicitDefEqProofs only [g46, c46r0, c46r1, c46r2, c46k3, c46r4, c46r5, c46k6, c46r7, c46r8, c46r9, c46k10, c46k11, c46r12, c46b13, c46k14, c46r15, c46, go_sem, seval, ↓reduceIte, Tm.pvs_len]
  refine W_loop (fun n st => ∃ (i : Nat) (b : Int), n = l.length - i ∧ i ≤ l.length ∧ 0 ≤ b ∧ b ≤ 131072 ∧ roomF left l = roomF b (l.drop i) ∧ st = ⟨[(0, .pv none (.sl (some 4) (Tm.pvs l))), (1, .pv none (.int .i64 (131072 - b))), (6, .pv none (.int .i64 i))], []⟩) (n := l.length) ⟨0, left, rfl, Nat.zero_le _, h0, h1, rfl, rfl⟩ ?_
  rintro n st ⟨i, b, hn, hi, hb0, hb1, hrf, rfl⟩
  by_cases h : i < l.length
  · have hc : (i : Int) < (l.length : Int) := by omega
    obtain ⟨u, hu⟩ : ∃ u, l[i]? = some u := ⟨_, List.getElem?_eq_getElem h⟩
    have hum := List.mem_of_getElem? hu
    have husz : u.size < 1000000000 := Nat.lt_of_le_of_lt (Tm.sizes_mem hum) hl
    have hv := fun hp => rvalid_ok u hp husz
    have hs := fun hp => rsize_ok u hp husz
    simp only [Tm.av] at hv hs
    have w2 : IntKind.i64.wrap ((i : Int) + 1) = ((i + 1 : Nat) : Int) := by rw [wrap64 (by omega) (by omega)]; omega
    rw [roomF_step hu] at hrf
    by_cases hvu : u.valid = true
    · have h20 := valid_size hvu
      have e7 : min u.size 2001 = u.size := by omega
      have w3 : IntKind.i64.wrap (131072 - b + (u.size : Int)) = 131072 - (b - (u.size : Int)) := by rw [wrap64 (by omega) (by omega)]; omega
      rw [hvu] at hv
      rw [if_pos hvu] at hrf
      simp only [e7] at hs
      by_cases h0' : b - (u.size : Int) < 0
      · rw [if_pos h0'] at hrf
        have hgt : (131072 : Int) < 131072 - (b - (u.size : Int)) := by omega
        simp -dsimp -implicitDefEqProofs only [g46, c46r0, c46r1, c46r2, c46k3, c46r4, c46r5, c46k6, c46r7, c46r8, c46r9, c46k10, c46k11, c46r12, c46b13, c46k14, c46r15, c46, go_sem, seval, ↓reduceIte, Tm.pvs_len, hc, s_iaddr_pv (Tm.pvs_get hu), hv, hs, w3, hgt, hrf]
      · rw [if_neg h0'] at hrf
        have hgt : ¬ (131072 : Int) < 131072 - (b - (u.size : Int)) := by omega
        simp -dsimp -implicitDefEqProofs only [g46, c46r0, c46r1, c46r2, c46k3, c46r4, c46r5, c46k6, c46r7, c46r8, c46r9, c46k10, c46k11, c46r12, c46b13, c46k14, c46r15, c46, go_sem, seval, ↓reduceIte, Tm.pvs_len, hc, s_iaddr_pv (Tm.pvs_get hu), hv, hs, w3, hgt, w2]
        exact ⟨l.length - (i + 1), by omega, i + 1, b - (u.size : Int), rfl, by omega, by omega, by omega, hrf, rfl⟩
    · rw [Bool.not_eq_true] at hvu
      rw [hvu] at hv hrf
      simp only [Bool.false_eq_true, if_false] at hrf
      simp -dsimp -implicitDefEqProofs only [g46, c46r0, c46r1, c46r2, c46k3, c46r4, c46r5, c46k6, c46r7, c46r8, c46r9, c46k10, c46k11, c46r12, c46b13, c46k14, c46r15, c46, go_sem, seval, ↓reduceIte, Tm.pvs_len, hc, s_iaddr_pv (Tm.pvs_get hu), hv, hrf]
  · have hc : ¬ (i : Int) < (l.length : Int) := by omega
    obtain rfl : i = l.length := by omega
    rw [List.drop_length] at hrf
    simp -dsimp -implicitDefEqProofs only [g46, c46r0, c46r1, c46r2, c46k3, c46r4, c46r5, c46k6, c46r7, c46r8, c46r9, c46k10, c46k11, c46r12, c46b13, c46k14, c46r15, c46, go_sem, seval, ↓reduceIte, Tm.pvs_len, hc, hrf, roomF]
theorem rpred_ok (p : Pr) (hp : Heap) : S 47 [.pv (some 3) p.pv] hp = some (.ret (.pv none (.bool p.ok)), hp) := by
  refine sem_pure rfl rfl rfl (freezeAll_pvs [(some 3, p.pv)]) rfl ?_
  have h1 : ∀ q : Pr, q.pv = .agg [(none, .str q.name), (none, .int .i64 q.arity), (none, .int .i64 q.aux)] := fun _ => rfl
  simp only [h1]
  unfold Pr.ok
  (repeat' (first | (simp -dsimp -implicitDefEqProofs only [g47, c47r0, c47r1, c47r2, c47k3, c47r4, c47, go_sem, seval, ↓reduceIte, *]) | (refine iteK_intro (fun _ => ?_) (fun _ => ?_))))
  all_goals (simp_all <;> omega)

theorem rflatLoop_ok (f : Fl) (called : Bool) (left : Int) (h0 : 0 ≤ left) (h1 : left ≤ 131072) (hs : ∀ g ∈ f.goals, Tm.sizes g.args < 1000000000) (hlen : f.goals.length < 1000000000) (Q : AExit → St → Prop)
    (hQt : ∀ fr hp, Gl.steps called left f.goals = true → Q .normal ⟨fr, hp⟩) (hQf : ∀ hp, Gl.steps called left f.goals = false → Q .ret ⟨[(2, .pv none (.bool false))], hp⟩) :
    W Z L 0 c28k40 ⟨[(1, .ptr 0 0), (3, .pv none (.int .i64 (131072 - left))), (5, .pv none (.bool called)), (6, .pv none (.int .i64 0))], [.box (some 5) (.pv (some 5) f.pv)]⟩ Q := by
  simp -dsimp -implicitDefEqProofs only [g28, c28r0, c28r1, c28r2, c28r3, c28k4, c28r5, c28r6, c28r7, c28k8, c28r9, c28r10, c28r11, c28r12, c28r13, c28k14, c28r15, c28r16, c28r17, c28k18, c28r19, c28r20, c28r21, c28r22, c28k23, c28k24, c28r25, c28r26, c28k27, c28r28, c28r29, c28r30, c28k31, c28r32, c28k33, c28k34, c28k35, c28k36, c28k37, c28r38, c28b39, c28k40, c28r41, c28, go_sem, seval, ↓reduceIte]
  refine W_loop (fun n st => ∃ (i : Nat) (c : Bool) (b : Int), n = f.goals.length - i ∧ i ≤ f.goals.length ∧ 0 ≤ b ∧ b ≤ 131072 ∧ Gl.steps called left f.goals = Gl.steps c b (f.goals.drop i) ∧
    st = ⟨[(1, .ptr 0 0), (3, .pv none (.int .i64 (131072 - b))), (5, .pv none (.bool c)), (6, .pv none (.int .i64 i))], [.box (some 5) (.pv (some 5) f.pv)]⟩) (n := f.goals.length) ⟨0, called, left, rfl, Nat.zero_le _, h0, h1, rfl, rfl⟩ ?_
  rintro n st ⟨i, c, b, hn, hi, hb0, hb1, hst, rfl⟩
  by_cases h : i < f.goals.length
  · have hc : (i : Int) < (f.goals.length : Int) := by omega
    obtain ⟨g, hg⟩ : ∃ g, f.goals[i]? = some g := ⟨_, List.getElem?_eq_getElem h⟩
    have hgm := List.mem_of_getElem? hg
    have hroom := fun hp => terms_ok g.args b hp (hs g hgm) hb0 hb1
    have hpred := rpred_ok g.pred
    have w2 : IntKind.i64.wrap ((i : Int) + 1) = ((i + 1 : Nat) : Int) := by rw [wrap64 (by omega) (by omega)]; omega
    rw [steps_drop hg] at hst
    have next : Kept (∀ c' b', g.step c b = some (c', b') → Gl.steps called left f.goals = Gl.steps c' b' (f.goals.drop (i + 1))) := .mk fun c' b' e => by rw [hst, e]
    have stop : Kept (g.step c b = none → Gl.steps called left f.goals = false) := .mk fun e => by rw [hst, e]
    have hQf' : Kept (∀ hp, Gl.steps called left f.goals = false → Q .ret ⟨[(2, .pv none (.bool false))], hp⟩) := .mk hQf
    clear hst hQt hQf
    have hb : g.bare = (g.pred.zero && decide ((g.args.length : Int) = 0)) := rfl
    rcases (by omega : g.kind = 1 ∨ g.kind = 2 ∨ g.kind = 3 ∨ g.kind = 4 ∨ g.kind = 5 ∨ (g.kind ≠ 1 ∧ g.kind ≠ 2 ∧ g.kind ≠ 3 ∧ g.kind ≠ 4 ∧ g.kind ≠ 5)) with k | k | k | k | k | ⟨k1, k2, k3, k4, k5⟩
    · obtain ⟨ok, l', hrl⟩ : ∃ ok l', roomF b g.args = (ok, l') := ⟨_, _, rfl⟩
      rw [hrl] at hroom
      have hle : l' ≤ b := by have := roomF_le g.args b; rw [hrl] at this; exact this
      have hge : Kept (ok = true → 0 ≤ l') := .mk fun e => roomF_pos g.args b l' hb0 (by rw [hrl, e])
      have hstep : Kept (g.step c b = if (g.pred.ok && decide ((g.args.length : Int) = g.pred.arity) && decide (g.var = 0)) = true then (match (ok, l') with | (true, l) => some (true, l) | _ => none) else none) := .mk (by unfold Gl.step; rw [if_pos k, hrl]; cases ok <;> rfl)
      clear hrl
      (repeat' (first | (simp -dsimp -implicitDefEqProofs only [g28, c28r0, c28r1, c28r2, c28r3, c28k4, c28r5, c28r6, c28r7, c28k8, c28r9, c28r10, c28r11, c28r12, c28r13, c28k14, c28r15, c28r16, c28r17, c28k18, c28r19, c28r20, c28r21, c28r22, c28k23, c28k24, c28r25, c28r26, c28k27, c28r28, c28r29, c28r30, c28k31, c28r32, c28k33, c28k34, c28k35, c28k36, c28k37, c28r38, c28b39, c28k40, c28r41, c28, go_sem, seval, ↓reduceIte, hc, s_iaddr_pv (Gl.pvs_get hg), gl_kind, gl_pred, gl_arity, gl_args, gl_var, fl_goals, Gl.pvs_len, zero_pred, eqs_zeron, Tm.pvs_len, hpred, w2, hroom, *]) | (refine iteK_intro (fun _ => ?_) (fun _ => ?_))))
      all_goals first
        | (refine hQf'.out _ (stop.out ?_); rw [hstep.out]; (try simp only [Bool.not_eq_true, Bool.not_eq_false] at *); simp only [*, decide_true, decide_false, Bool.and_true, Bool.true_and, Bool.false_and, Bool.and_false, Bool.not_true, Bool.not_false, if_true, if_false, Bool.false_eq_true, eq_self, and_self]; done)
        | (refine ⟨f.goals.length - (i + 1), by omega, i + 1, true, l', rfl, by omega, hge.out (by cases ok <;> simp_all), by omega, next.out _ _ ?_, ?_⟩
           · rw [hstep.out]; (try simp only [Bool.not_eq_true, Bool.not_eq_false] at *); simp only [*, decide_true, decide_false, Bool.and_true, Bool.true_and, Bool.false_and, Bool.and_false, Bool.not_true, Bool.not_false, if_true, if_false, Bool.false_eq_true, eq_self, and_self]
           · first | (rw [collect_1 _ _ _ (by simp [AV.refsIn]) rfl]; done) | (rw [collect_1 _ _ _ (by simp [AV.refsIn]) rfl]; simp_all))
    · clear hroom
      have hstep : Kept (g.step c b = if (g.bare && decide (0 ≤ g.var) && decide (g.var ≤ 1099511627776) && !c) = true then some (c, b) else none) := .mk (by unfold Gl.step; simp [k])
      try rw [hb] at hstep
      try simp only [dec_le] at hstep
      clear hb
      (repeat' (first | (simp -dsimp -implicitDefEqProofs only [g28, c28r0, c28r1, c28r2, c28r3, c28k4, c28r5, c28r6, c28r7, c28k8, c28r9, c28r10, c28r11, c28r12, c28r13, c28k14, c28r15, c28r16, c28r17, c28k18, c28r19, c28r20, c28r21, c28r22, c28k23, c28k24, c28r25, c28r26, c28k27, c28r28, c28r29, c28r30, c28k31, c28r32, c28k33, c28k34, c28k35, c28k36, c28k37, c28r38, c28b39, c28k40, c28r41, c28, go_sem, seval, ↓reduceIte, hc, s_iaddr_pv (Gl.pvs_get hg), gl_kind, gl_pred, gl_arity, gl_args, gl_var, fl_goals, Gl.pvs_len, zero_pred, eqs_zeron, Tm.pvs_len, hpred, w2, *]) | (refine iteK_intro (fun _ => ?_) (fun _ => ?_))))
      all_goals first
        | (refine hQf'.out _ (stop.out ?_); rw [hstep.out]; (try simp only [Bool.not_eq_true, Bool.not_eq_false] at *); simp only [*, decide_true, decide_false, Bool.and_true, Bool.true_and, Bool.false_and, Bool.and_false, Bool.not_true, Bool.not_false, if_true, if_false, Bool.false_eq_true, eq_self, and_self]; done)
        | (refine ⟨f.goals.length - (i + 1), by omega, i + 1, c, b, rfl, by omega, hb0, hb1, next.out _ _ ?_, ?_⟩
           · rw [hstep.out]; (try simp only [Bool.not_eq_true, Bool.not_eq_false] at *); simp only [*, decide_true, decide_false, Bool.and_true, Bool.true_and, Bool.false_and, Bool.and_false, Bool.not_true, Bool.not_false, if_true, if_false, Bool.false_eq_true, eq_self, and_self]
           · first | (rw [collect_1 _ _ _ (by simp [AV.refsIn]) rfl]; done) | (rw [collect_1 _ _ _ (by simp [AV.refsIn]) rfl]; simp_all))
    · clear hroom
      have hstep : Kept (g.step c b = if (g.bare && decide (0 ≤ g.var) && decide (g.var ≤ 1099511627776)) = true then some (c, b) else none) := .mk (by unfold Gl.step; simp [k])
      try rw [hb] at hstep
      try simp only [dec_le] at hstep
      clear hb
      (repeat' (first | (simp -dsimp -implicitDefEqProofs only [g28, c28r0, c28r1, c28r2, c28r3, c28k4, c28r5, c28r6, c28r7, c28k8, c28r9, c28r10, c28r11, c28r12, c28r13, c28k14, c28r15, c28r16, c28r17, c28k18, c28r19, c28r20, c28r21, c28r22, c28k23, c28k24, c28r25, c28r26, c28k27, c28r28, c28r29, c28r30, c28k31, c28r32, c28k33, c28k34, c28k35, c28k36, c28k37, c28r38, c28b39, c28k40, c28r41, c28, go_sem, seval, ↓reduceIte, hc, s_iaddr_pv (Gl.pvs_get hg), gl_kind, gl_pred, gl_arity, gl_args, gl_var, fl_goals, Gl.pvs_len, zero_pred, eqs_zeron, Tm.pvs_len, hpred, w2, *]) | (refine iteK_intro (fun _ => ?_) (fun _ => ?_))))
      all_goals first
        | (refine hQf'.out _ (stop.out ?_); rw [hstep.out]; (try simp only [Bool.not_eq_true, Bool.not_eq_false] at *); simp only [*, decide_true, decide_false, Bool.and_true, Bool.true_and, Bool.false_and, Bool.and_false, Bool.not_true, Bool.not_false, if_true, if_false, Bool.false_eq_true, eq_self, and_self]; done)
        | (refine ⟨f.goals.length - (i + 1), by omega, i + 1, c, b, rfl, by omega, hb0, hb1, next.out _ _ ?_, ?_⟩
           · rw [hstep.out]; (try simp only [Bool.not_eq_true, Bool.not_eq_false] at *); simp only [*, decide_true, decide_false, Bool.and_true, Bool.true_and, Bool.false_and, Bool.and_false, Bool.not_true, Bool.not_false, if_true, if_false, Bool.false_eq_true, eq_self, and_self]
           · first | (rw [collect_1 _ _ _ (by simp [AV.refsIn]) rfl]; done) | (rw [collect_1 _ _ _ (by simp [AV.refsIn]) rfl]; simp_all))
    · clear hroom
      have hstep : Kept (g.step c b = if (g.bare && decide (0 ≤ g.var) && decide (g.var ≤ 1099511627776)) = true then some (c, b) else none) := .mk (by unfold Gl.step; simp [k])
      try rw [hb] at hstep
      try simp only [dec_le] at hstep
      clear hb
      (repeat' (first | (simp -dsimp -implicitDefEqProofs only [g28, c28r0, c28r1, c28r2, c28r3, c28k4, c28r5, c28r6, c28r7, c28k8, c28r9, c28r10, c28r11, c28r12, c28r13, c28k14, c28r15, c28r16, c28r17, c28k18, c28r19, c28r20, c28r21, c28r22, c28k23, c28k24, c28r25, c28r26, c28k27, c28r28, c28r29, c28r30, c28k31, c28r32, c28k33, c28k34, c28k35, c28k36, c28k37, c28r38, c28b39, c28k40, c28r41, c28, go_sem, seval, ↓reduceIte, hc, s_iaddr_pv (Gl.pvs_get hg), gl_kind, gl_pred, gl_arity, gl_args, gl_var, fl_goals, Gl.pvs_len, zero_pred, eqs_zeron, Tm.pvs_len, hpred, w2, *]) | (refine iteK_intro (fun _ => ?_) (fun _ => ?_))))
      all_goals first
        | (refine hQf'.out _ (stop.out ?_); rw [hstep.out]; (try simp only [Bool.not_eq_true, Bool.not_eq_false] at *); simp only [*, decide_true, decide_false, Bool.and_true, Bool.true_and, Bool.false_and, Bool.and_false, Bool.not_true, Bool.not_false, if_true, if_false, Bool.false_eq_true, eq_self, and_self]; done)
        | (refine ⟨f.goals.length - (i + 1), by omega, i + 1, c, b, rfl, by omega, hb0, hb1, next.out _ _ ?_, ?_⟩
           · rw [hstep.out]; (try simp only [Bool.not_eq_true, Bool.not_eq_false] at *); simp only [*, decide_true, decide_false, Bool.and_true, Bool.true_and, Bool.false_and, Bool.and_false, Bool.not_true, Bool.not_false, if_true, if_false, Bool.false_eq_true, eq_self, and_self]
           · first | (rw [collect_1 _ _ _ (by simp [AV.refsIn]) rfl]; done) | (rw [collect_1 _ _ _ (by simp [AV.refsIn]) rfl]; simp_all))
    · clear hroom
      have hstep : Kept (g.step c b = if (g.bare && decide (g.var = 0)) = true then some (c, b) else none) := .mk (by unfold Gl.step; simp [k])
      try rw [hb] at hstep
      try simp only [dec_le] at hstep
      clear hb
      (repeat' (first | (simp -dsimp -implicitDefEqProofs only [g28, c28r0, c28r1, c28r2, c28r3, c28k4, c28r5, c28r6, c28r7, c28k8, c28r9, c28r10, c28r11, c28r12, c28r13, c28k14, c28r15, c28r16, c28r17, c28k18, c28r19, c28r20, c28r21, c28r22, c28k23, c28k24, c28r25, c28r26, c28k27, c28r28, c28r29, c28r30, c28k31, c28r32, c28k33, c28k34, c28k35, c28k36, c28k37, c28r38, c28b39, c28k40, c28r41, c28, go_sem, seval, ↓reduceIte, hc, s_iaddr_pv (Gl.pvs_get hg), gl_kind, gl_pred, gl_arity, gl_args, gl_var, fl_goals, Gl.pvs_len, zero_pred, eqs_zeron, Tm.pvs_len, hpred, w2, *]) | (refine iteK_intro (fun _ => ?_) (fun _ => ?_))))
      all_goals first
        | (refine hQf'.out _ (stop.out ?_); rw [hstep.out]; (try simp only [Bool.not_eq_true, Bool.not_eq_false] at *); simp only [*, decide_true, decide_false, Bool.and_true, Bool.true_and, Bool.false_and, Bool.and_false, Bool.not_true, Bool.not_false, if_true, if_false, Bool.false_eq_true, eq_self, and_self]; done)
        | (refine ⟨f.goals.length - (i + 1), by omega, i + 1, c, b, rfl, by omega, hb0, hb1, next.out _ _ ?_, ?_⟩
           · rw [hstep.out]; (try simp only [Bool.not_eq_true, Bool.not_eq_false] at *); simp only [*, decide_true, decide_false, Bool.and_true, Bool.true_and, Bool.false_and, Bool.and_false, Bool.not_true, Bool.not_false, if_true, if_false, Bool.false_eq_true, eq_self, and_self]
           · first | (rw [collect_1 _ _ _ (by simp [AV.refsIn]) rfl]; done) | (rw [collect_1 _ _ _ (by simp [AV.refsIn]) rfl]; simp_all))
    · clear hroom
      have hstep : Kept (g.step c b = none) := .mk (by unfold Gl.step; simp [k1, k2, k3, k4, k5])
      try rw [hb] at hstep
      try simp only [dec_le] at hstep
      clear hb
      (repeat' (first | (simp -dsimp -implicitDefEqProofs only [g28, c28r0, c28r1, c28r2, c28r3, c28k4, c28r5, c28r6, c28r7, c28k8, c28r9, c28r10, c28r11, c28r12, c28r13, c28k14, c28r15, c28r16, c28r17, c28k18, c28r19, c28r20, c28r21, c28r22, c28k23, c28k24, c28r25, c28r26, c28k27, c28r28, c28r29, c28r30, c28k31, c28r32, c28k33, c28k34, c28k35, c28k36, c28k37, c28r38, c28b39, c28k40, c28r41, c28, go_sem, seval, ↓reduceIte, hc, s_iaddr_pv (Gl.pvs_get hg), gl_kind, gl_pred, gl_arity, gl_args, gl_var, fl_goals, Gl.pvs_len, zero_pred, eqs_zeron, Tm.pvs_len, hpred, w2, *]) | (refine iteK_intro (fun _ => ?_) (fun _ => ?_))))
      all_goals exact hQf'.out _ (stop.out hstep.out)
  · have hc : ¬ (i : Int) < (f.goals.length : Int) := by omega
    obtain rfl : i = f.goals.length := by omega
    rw [List.drop_length, Gl.steps] at hst
    simp -dsimp -implicitDefEqProofs only [g28, c28r0, c28r1, c28r2, c28r3, c28k4, c28r5, c28r6, c28r7, c28k8, c28r9, c28r10, c28r11, c28r12, c28r13, c28k14, c28r15, c28r16, c28r17, c28k18, c28r19, c28r20, c28r21, c28r22, c28k23, c28k24, c28r25, c28r26, c28k27, c28r28, c28r29, c28r30, c28k31, c28r32, c28k33, c28k34, c28k35, c28k36, c28k37, c28r38, c28b39, c28k40, c28r41, c28, go_sem, seval, ↓reduceIte, hc, fl_goals, Gl.pvs_len]
    exact hQt _ _ hst
theorem rflatValid_ok (f : Fl) (hp : Heap) (ha : Tm.sizes f.args < 1000000000) (hs : ∀ g ∈ f.goals, Tm.sizes g.args < 1000000000) (hlen : f.goals.length < 1000000000) : S 28 [f.av] hp = some (.ret (.pv none (.bool f.valid)), hp) := by
  refine sem_pure rfl rfl rfl (freezeAll_pvs [(some 5, f.pv)]) rfl ?_
  have hpred := rpred_ok f.pred
  obtain ⟨ok, l', hrl⟩ : ∃ ok l', roomF 131072 f.args = (ok, l') := ⟨_, _, rfl⟩
  have hroom := fun hp => terms_ok f.args 131072 hp ha (by omega) (by omega)
  have e0 : (131072 : Int) - 131072 = 0 := by omega
  rw [hrl, e0] at hroom
  have hle : l' ≤ 131072 := by have := roomF_le f.args 131072; rw [hrl] at this; exact this
  have hge : Kept (ok = true → 0 ≤ l') := .mk fun e => roomF_pos f.args 131072 l' (by omega) (by rw [hrl, e])
  have hv : f.valid = (f.pred.ok && decide ((f.args.length : Int) = f.pred.arity) && match (ok, l') with | (true, l) => Gl.steps false l f.goals | _ => false) := by unfold Fl.valid; rw [hrl]; cases ok <;> rfl
  clear hrl
  (repeat' (first | (simp -dsimp -implicitDefEqProofs only [g28, c28r0, c28r1, c28r2, c28r3, c28k4, c28r5, c28r6, c28r7, c28k8, c28r9, c28r10, c28r11, c28r12, c28r13, c28k14, c28r15, c28r16, c28r17, c28k18, c28r19, c28r20, c28r21, c28r22, c28k23, c28k24, c28r25, c28r26, c28k27, c28r28, c28r29, c28r30, c28k31, c28r32, c28k33, c28k34, c28k35, c28k36, c28k37, c28r38, c28b39, c28r41, c28, go_sem, seval, ↓reduceIte, fl_pred, fl_arity, fl_args, fl_goals, hpred, Tm.pvs_len, Gl.pvs_len, hroom, *]) | (refine iteK_intro (fun _ => ?_) (fun _ => ?_))))
  have hok : ok = true := ‹_›
  subst hok
  have hp1 : f.pred.ok = true := ‹_›
  have hp2 : (f.args.length : Int) = f.pred.arity := ‹_›
  have hv2 : f.valid = Gl.steps false l' f.goals := by rw [hv, hp1, decide_eq_true hp2]; rfl
  refine rflatLoop_ok f false l' (hge.out rfl) hle hs hlen _ (fun fr hp h => ?_) (fun hp h => ?_)
  · rw [hv2, h]
    simp -dsimp -implicitDefEqProofs only [g28, c28r0, c28r1, c28r2, c28r3, c28k4, c28r5, c28r6, c28r7, c28k8, c28r9, c28r10, c28r11, c28r12, c28r13, c28k14, c28r15, c28r16, c28r17, c28k18, c28r19, c28r20, c28r21, c28r22, c28k23, c28k24, c28r25, c28r26, c28k27, c28r28, c28r29, c28r30, c28k31, c28r32, c28k33, c28k34, c28k35, c28k36, c28k37, c28r38, c28b39, c28r41, c28, go_sem, seval, ↓reduceIte]
  · rw [hv2, h]
    simp -dsimp -implicitDefEqProofs only [g28, c28r0, c28r1, c28r2, c28r3, c28k4, c28r5, c28r6, c28r7, c28k8, c28r9, c28r10, c28r11, c28r12, c28r13, c28k14, c28r15, c28r16, c28r17, c28k18, c28r19, c28r20, c28r21, c28r22, c28k23, c28k24, c28r25, c28r26, c28k27, c28r28, c28r29, c28r30, c28k31, c28r32, c28k33, c28k34, c28k35, c28k36, c28k37, c28r38, c28b39, c28r41, c28, go_sem, seval, ↓reduceIte]
end Go.Proofs.Ytmajapjbogmefaa
