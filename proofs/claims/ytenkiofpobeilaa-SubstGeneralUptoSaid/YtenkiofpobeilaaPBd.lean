/- What is proved: the program's bind. -/
import Derived.Test.YtenkiofpobeilaaRUn
set_option linter.unusedSimpArgs false
set_option linter.unusedVariables false
namespace Go.Proofs.Ytenkiofpobeilaa
open Go.Am
def endA (rs : List RSlot) (n : Nat) (P : ARes → Heap → Prop) : AExit → St → Prop
 | .panic v, st => P (.panic v) (st.hp.take n)
 | e, st => endK rs (fun v' h' => P (.ret v') (if v'.refsIn.all (fun q => decide (q < n)) = true then h'.take n else h')) e st
theorem endA_panic (rs : List RSlot) (n : Nat) (P : ARes → Heap → Prop) (v : PV) (st : St) : endA rs n P (.panic v) st = P (.panic v) (st.hp.take n) := rfl
theorem endA_ret (rs : List RSlot) (n : Nat) (P : ARes → Heap → Prop) (st : St) : endA rs n P .ret st = endK rs (fun v' h' => P (.ret v') (if v'.refsIn.all (fun q => decide (q < n)) = true then h'.take n else h')) .ret st := rfl
theorem endA_normal (rs : List RSlot) (n : Nat) (P : ARes → Heap → Prop) (st : St) : endA rs n P .normal st = endK rs (fun v' h' => P (.ret v') (if v'.refsIn.all (fun q => decide (q < n)) = true then h'.take n else h')) .normal st := rfl
theorem sem_heap_any {F : FuncId → Option AFn} {prim : FuncId → Option PrimO} {f : FuncId} {fn : AFn} {args : List AV} {hp : Heap} (P : ARes → Heap → Prop) (hp0 : prim f = none) (hf : F f = some fn) (hm : fn.heapMode = true) (hn : args.length = fn.nparams)
  (h : W (sem F prim) (sloop F prim) hp.length fn.code ⟨params 0 args, hp⟩ (endA fn.results hp.length P)) (hr : fn.rcv = none := by rfl) (hmo : fn.more = [] := by rfl) : ∃ v hp', sem F prim .fn f args hp = some (v, hp') ∧ P v hp' := by
 rw [sem_eq]
 unfold acallFn
 rw [hp0, hf]
 simp only [hr, hmo, Option.isSome_none, Bool.false_eq_true, if_false, hm, if_true, abody, hn, ne_eq, not_true_eq_false, if_false]
 unfold W at h
 split at h
 ·rename_i e st' he
  rw [he]
  cases e with
  | normal =>
   rw [endA_normal, endK_normal] at h
   cases hr : resultOf st' fn.results with
   | none => rw [hr] at h; exact h.elim
   | some u => rw [hr] at h; exact ⟨_, _, by simp only [hr], h⟩
  | ret =>
   rw [endA_ret, endK_ret] at h
   cases hr : resultOf st' fn.results with
   | none => rw [hr] at h; exact h.elim
   | some u => rw [hr] at h; exact ⟨_, _, by simp only [hr], h⟩
  | exit i => exact h.elim
  | panic v => exact ⟨_, _, rfl, h⟩
 ·exact h.elim
def US (hp : Heap) (q r : Nat) (l : List B) : Heap := (hp.set q (.box (some 1) (.agg [(none, .sl (some 5) r l.length 0 l.length)]))).set r (.arr (some 5) (bds l) false)
def UA (hp : Heap) (q r : Nat) (l l' : List B) : Heap := (US hp q r l).set r (.arr (some 5) (bds l') false)
theorem US_len (hp : Heap) (q r : Nat) (l : List B) : (US hp q r l).length = hp.length := by simp [US]
theorem UA_len (hp : Heap) (q r : Nat) (l l' : List B) : (UA hp q r l l').length = hp.length := by simp [UA, US_len]
theorem US_more {hp : Heap} {q r : Nat} (hq : q < hp.length) (hr : r < hp.length) (l : List B) (e : Heap) : US (hp ++ e) q r l = US hp q r l ++ e := by
 unfold US
 rw [List.set_append_left _ _ hq, List.set_append_left _ _ (by simpa using hr)]
theorem US_q {hp : Heap} {q r : Nat} (hq : q < hp.length) (hn : q ≠ r) (l : List B) (e : Heap) : (US hp q r l ++ e)[q]? = some (.box (some 1) (.agg [(none, .sl (some 5) r l.length 0 l.length)])) := by
 rw [List.getElem?_append_left (by rw [US_len]; exact hq)]
 unfold US
 rw [List.getElem?_set_ne (Ne.symm hn), List.getElem?_set_self hq]
theorem US_r {hp : Heap} {q r : Nat} (hr : r < hp.length) (l : List B) (e : Heap) : (US hp q r l ++ e)[r]? = some (.arr (some 5) (bds l) false) := by
 rw [List.getElem?_append_left (by rw [US_len]; exact hr)]
 unfold US
 rw [List.getElem?_set_self (by simpa using hr)]
theorem US_B {hp : Heap} {q r : Nat} (hr : r < hp.length) (l : List B) (e : Heap) : IsB (.sl (some 5) r l.length 0 l.length) (US hp q r l ++ e) l := .inr ⟨r, rfl, US_r hr l e⟩
theorem US_ld {hp : Heap} {q r : Nat} (hq : q < hp.length) (hn : q ≠ r) (l : List B) (e : Heap) : aload none (US hp q r l ++ e) (.ptr q 0) = some (.sl (some 5) r l.length 0 l.length) := by
 simp [aload, US_q hq hn]
 rfl
theorem US_st {hp : Heap} {q r : Nat} (hq : q < hp.length) (hn : q ≠ r) (l l' : List B) (b : Nat) (hb : q < b) (e : Heap) : wStore none b (UA hp q r l l' ++ e) [.ptr q 0, .sl (some 5) r l'.length 0 l'.length] = some (.undef, US hp q r l' ++ e) := by
 have h1 : (UA hp q r l l' ++ e)[q]? = some (.box (some 1) (.agg [(none, .sl (some 5) r l.length 0 l.length)])) := by
  rw [List.getElem?_append_left (by rw [UA_len]; exact hq)]
  unfold UA
  rw [List.getElem?_set_ne (Ne.symm hn)]
  have := US_q (r := r) hq hn l []
  rw [List.append_nil] at this
  exact this
 have h2 : AV.upd deep (.agg [(none, .sl (some 5) r l.length 0 l.length)]) 0 none (.sl (some 5) r l'.length 0 l'.length) = some (.agg [(none, .sl (some 5) r l'.length 0 l'.length)]) := rfl
 have h3 : ¬ b ≤ q := by omega
 have h4 : (UA hp q r l l' ++ e).set q (.box (some 1) (.agg [(none, .sl (some 5) r l'.length 0 l'.length)])) = US hp q r l' ++ e := by
  rw [List.set_append_left _ _ (by rw [UA_len]; exact hq)]
  congr 1
  unfold UA US
  rw [List.set_set, List.set_comm _ _ hn, List.set_set]
  exact List.set_comm _ _ (Ne.symm hn)
 simp [wStore, astore, h1, h2, h3, h4, AV.plain, AV.shp, AV.refsIn, AV.refsIn.go]
theorem US_same {hp : Heap} {q r : Nat} (hq : q < hp.length) (hn : q ≠ r) (l : List B) (e e' : Heap) : samePtr (US hp q r l ++ e) (US hp q r l ++ e') (.ptr q 0) = true := by
 simp [samePtr, US_q hq hn, AObj.beq, AV.beq, AV.beqc]
def stopP (e : Int) : PV := .iface 53 (some 1) (.agg [(none, .int .i64 e)])
theorem pbind_ok (l : List B) (hO : OKB l) (hl : l.length < 90000000) (v : Int) (t : Tm) (hv : t.valid = true) (hp : Heap) (q r : Nat) (hq : q < hp.length) (hr : r < hp.length) (hn : q ≠ r) :
  ∃ res hp', S 75 [.ptr q 0, .pv none (.int .i64 v), t.av] (US hp q r l) = some (res, hp') ∧ (inR l v t → res = .panic (stopP 9) ∧ hp' = US hp q r l) ∧ (¬ inR l v t → res = .ret (.tuple []) ∧ hp' = US hp q r (insB l v t)) := by
 have htz := valid_size hv
 have hlen := fun l => US_len hp q r l
 have hg0 : ∀ (l : List B) (e : Heap), (US hp q r l ++ e)[hp.length]? = e[0]? := fun l e => getN0 (hlen l)
 have hg1 : ∀ (l : List B) (e : Heap) (j : Nat), (US hp q r l ++ e)[hp.length + j]? = e[j]? := fun l e j => getN (hlen l) j
 have hld := fun l e => US_ld (r := r) hq hn l e
 have hsm := fun l e e' => US_same (r := r) hq hn l e e'
 refine sem_heap_any (fun res hp' => (inR l v t → res = .panic (stopP 9) ∧ hp' = US hp q r l) ∧ (¬ inR l v t → res = .ret (.tuple []) ∧ hp' = US hp q r (insB l v t))) rfl rfl rfl rfl ?_
 have hu := unS_bound (fun _ => 0) l fun b hb => by have := valid_size (hO.good.2 b hb).1; omega
 obtain ⟨m', bb, f', hcall, hR⟩ := pocc_ok l hO (by omega) v (.sl (some 5) r l.length 0 l.length) _ t (US hp q r l ++ [.box (some 4) (.pv (some 4) t.pv), .map none []]) (hp.length + 1) [] (fun _ => 0) rfl hv (by rw [hg1]; rfl) (.inr (US_B hr l _)) (fun _ => rfl) (fun _ => Int.le_refl _) (fun w hw => absurd rfl hw) (fun w => by omega)
 have hs2 : ∀ (X : AObj), (US hp q r l ++ ([.box (some 4) (.pv (some 4) t.pv), .map none []] : Heap)).set (hp.length + 1) X = US hp q r l ++ [.box (some 4) (.pv (some 4) t.pv), X] := fun X => by rw [setN (hlen l)]; rfl
 rw [hs2] at hcall
 have hmk : ∀ a : AObj, (US hp q r l ++ [a]).length = hp.length + 1 := fun a => by simp [hlen]
 simp only [Tm.av] at hcall
 have hsb : ∀ x : Int, sBuild [(none, .pv none (.int .i64 0))] [0] [.pv none (.int .i64 x)] = some (.pv (some 1) (.agg [(none, .int .i64 x)])) := fun _ => rfl
 have hmi : ∀ (s : Sh) (p : PV), sMkiface 53 [.pv s p] = some (.pv none (.iface 53 s p)) := fun _ _ => rfl
 have hpan : ∀ A : Prop, panK true A = A := fun _ => rfl
 cases bb with
 | true =>
  have hin : inR l v t := hR.post.yes rfl
  simp -dsimp -implicitDefEqProofs only [g75, c75r0, c75r1, c75r2, c75k3, c75r4, c75r5, c75, go_sem, seval, ↓reduceIte, Tm.av, hcall, hsb, hmi, hpan, hlen, hg0, hg1, hld, endA_panic, endA_ret, endA_normal, s_nilcheck_ptr, List.append_assoc, List.cons_append, List.nil_append, get_pre, get_pre0, set_pre, set_pre0, Nat.add_assoc, List.length_append, List.length_cons, List.length_nil, Nat.zero_add]
  exact ⟨fun _ => ⟨rfl, List.take_left' (hlen _)⟩, fun h => h hin⟩
 | false =>
  have hin : ¬ inR l v t := (hR.post.no rfl).1
  have hpl := fun e => place_own (US_B (q := q) hr l e) v hO.good.1 (by omega)
  have hcl := fun hp => clone_ok t hp hv (by omega)
  simp only [Tm.av] at hcl
  have hbd : sBuild [(none, .pv none (.int .i64 0)), (some 4, .agg [(none, .pv none (.int .i64 0)), (none, .pv none (.int .i64 0)), (none, .pv none (.str [])), (none, .tsl (some 4) [])])] [0, 1] [.pv none (.int .i64 v), .pv (some 4) t.pv] = some (.pv (some 5) (bdp (v, t))) := rfl
  have hins : ∀ e : Heap, S 63 [.sl (some 5) r l.length 0 l.length, .pv none (.int .i64 (lbB l v : Int)), .tsl (some 5) [bdp (v, t)]] (US hp q r l ++ e) = some (.ret (.sl (some 5) r (insB l v t).length 0 (insB l v t).length), UA hp q r l (insB l v t) ++ e) := fun e => by
   obtain ⟨s', H', h1, _, _, h2 | h2⟩ := ins_ok (US_B (q := q) hr l e) v t (by omega)
   ·obtain ⟨r', n', h3, h4, h5⟩ := h2
    cases h3
    rw [h1, h4, h5, insB_len, List.set_append_left _ _ (by rw [US_len]; exact hr)]
    rfl
   ·cases h2.1
  have hst := fun l' e => US_st (r := r) hq hn l l' hp.length hq e
  simp -dsimp -implicitDefEqProofs only [g75, c75r0, c75r1, c75r2, c75k3, c75r4, c75r5, c75, go_sem, seval, ↓reduceIte, Tm.av, hcall, hpl, hcl, hbd, hsm, hins, hst, hlen, hg0, hg1, hld, op_bslicen, List.take_succ_cons, List.drop_succ_cons, List.all_cons, List.all_nil, endA_panic, endA_ret, endA_normal, s_nilcheck_ptr, List.append_assoc, List.cons_append, List.nil_append, get_pre, get_pre0, set_pre, set_pre0, Nat.add_assoc, List.length_append, List.length_cons, List.length_nil, Nat.zero_add]
  exact ⟨fun h => hin h, fun _ => List.take_left' (hlen _)⟩
def zw (w : Int) (q : Nat) : AV := .agg [(none, .pv none (.int .i64 0)), (none, .pv none (.int .i64 w)), (none, .pv none (.str [])), (none, .sl (some 4) q 0 0 0)]
theorem boundz_no {s : AV} {hp : Heap} {l : List B} (h : IsS s hp l) (hs : Srt' l) (hl : l.length < 1000000000) (w : Int) (q : Nat) (hq : q < hp.length) (hf : fndB l w = false) :
  S 66 [s, zw w q] hp = some (.ret (.tuple [zagg (hp.length + 3), .pv none (.bool false)]), hp ++ [.box (some 4) (zw w q), .box (some 4) (zagg (hp.length + 3)), .arr (some 4) [] false, .arr (some 4) [] false]) := by
 refine sem_heap rfl rfl rfl rfl ?_
 have hpl := fun e => h.place w hs hl e
 rw [hf] at hpl
 simp -dsimp -implicitDefEqProofs only [g66, c66r0, c66r1, c66r2, c66k3, c66r4, c66r5, c66r6, c66k7, c66r8, c66, go_sem, seval, ↓reduceIte, zw, hpl, hb0, own_cons_sl, w_box_agg, w_alloc_agg, w_store_agg (Nat.le_add_right _ _), List.append_assoc, List.cons_append, List.nil_append, get_pre, get_pre0, set_pre, set_pre0, Nat.add_assoc, List.length_append, List.length_cons, List.length_nil, Nat.zero_add]
 rw [res_two rfl ((get_pre hp _ 1).trans rfl)]
 refine ⟨rfl, ?_⟩
 rw [if_neg (by simp [AV.refsIn, AV.refsIn.gol, AV.refsIn.go, zagg])]
 rfl
theorem occz_no {s : AV} {hp : Heap} {l : List B} (h : IsS s hp l) (hs : Srt' l) (hl : l.length < 1000000000) (v w : Int) (q r : Nat) (hq : q < hp.length) (hf : fndB l w = false) (hvw : w ≠ v) :
  S 49 [s, .pv none (.int .i64 v), zw w q, .map r] hp = some (.ret (.pv none (.bool false)), hp) := by
 refine sem_heap rfl rfl rfl rfl ?_
 have hb := fun e => boundz_no (h.more e) hs hl w q (by simp; omega) hf
 simp only [zw, zagg] at hb
 simp -dsimp -implicitDefEqProofs only [g49, c49r0, c49r1, c49r2, c49r3, c49r4, c49k5, c49r6, c49r7, c49k8, c49r9, c49r10, c49k11, c49r12, c49r13, c49r14, c49k15, c49k16, c49r17, c49k19, c49r20, c49, go_sem, seval, ↓reduceIte, zw, hb, hvw, own_cons_sl, w_box_agg, w_alloc_agg, w_store_agg (Nat.le_add_right _ _), List.append_assoc, List.cons_append, List.nil_append, get_pre, get_pre0, set_pre, set_pre0, Nat.add_assoc, List.length_append, List.length_cons, List.length_nil, Nat.zero_add]
 rw [if_pos (by simp [AV.refsIn])]
 exact List.take_left
theorem clonez_ok (w : Int) (hw : 0 ≤ w ∧ w ≤ 1099511627776) (q : Nat) (hp : Heap) (hq : hp[q]? = some (.arr (some 4) [] false)) :
  S 51 [zw w q] hp = some (.ret (tvar w).av, hp.set q (.arr (some 4) [] true)) := by
 have hv : (tvar w).valid = true := valid_of (tvar_fits hw) (by have : (tvar w).size = 1 := rfl; omega)
 have h1 := clone_ok (tvar w) [] hv (by have : (tvar w).size = 1 := rfl; omega)
 have := sem_any (F := find tab) (prim := prim) (f := 51) (args := [zw w q]) (ps := [(some 4, (tvar w).pv)]) (hp := hp) (hp1 := hp.set q (.arr (some 4) [] true)) rfl rfl rfl (by
  simp [freezeAll, zw, AV.freeze, AV.freeze.go, deep, hq, AV.shp]
  exact ⟨rfl, rfl⟩) h1
 exact this
theorem pbindv_ok (l : List B) (hO : OKB l) (hl : l.length < 90000000) (v w : Int) (hw : 0 ≤ w ∧ w ≤ 1099511627776) (hf : fndB l w = false) (hvw : w ≠ v) (hp : Heap) (q r : Nat) (hq : q < hp.length) (hr : r < hp.length) (hn : q ≠ r) :
  S 75 [.ptr q 0, .pv none (.int .i64 v), vagg w] (US hp q r l) = some (.ret (.tuple []), US hp q r (insB l v (tvar w))) := by
 have hlen := fun l => US_len hp q r l
 have hg0 : ∀ (l : List B) (e : Heap), (US hp q r l ++ e)[hp.length]? = e[0]? := fun l e => getN0 (hlen l)
 have hg1 : ∀ (l : List B) (e : Heap) (j : Nat), (US hp q r l ++ e)[hp.length + j]? = e[j]? := fun l e j => getN (hlen l) j
 have hs0 : ∀ (l : List B) (Y : AObj) (e : Heap), (US hp q r l ++ e).set hp.length Y = US hp q r l ++ e.set 0 Y := fun l Y e => setN0 (hlen l) Y
 have hld := fun l e => US_ld (r := r) hq hn l e
 have hsm := fun l e e' => US_same (r := r) hq hn l e e'
 refine sem_heap rfl rfl rfl rfl ?_
 have hoc : ∀ e : Heap, 1 < e.length → S 49 [.sl (some 5) r l.length 0 l.length, .pv none (.int .i64 v), zw w (hp.length + 1), .map (hp.length + 2)] (US hp q r l ++ e) = some (.ret (.pv none (.bool false)), US hp q r l ++ e) := fun e he =>
  occz_no (.inr (US_B hr l e)) hO.good.1 (by omega) v w (hp.length + 1) (hp.length + 2) (by rw [List.length_append, hlen]; omega) hf hvw
 have hoc1 := hoc [.box (some 4) (zw w (hp.length + 1)), .arr (some 4) [] false, .map none []] (by simp)
 have hpl := fun e => place_own (US_B (q := q) hr l e) v hO.good.1 (by omega)
 have hcl := clonez_ok w hw (hp.length + 1) (US hp q r l ++ [.box (some 4) (zw w (hp.length + 1)), .arr (some 4) [] false, .map none []]) (by rw [hg1]; rfl)
 rw [setN (hlen l)] at hcl
 simp only [List.set_cons_succ, List.set_cons_zero, Tm.av] at hcl
 have hbd : sBuild [(none, .pv none (.int .i64 0)), (some 4, .agg [(none, .pv none (.int .i64 0)), (none, .pv none (.int .i64 0)), (none, .pv none (.str [])), (none, .tsl (some 4) [])])] [0, 1] [.pv none (.int .i64 v), .pv (some 4) (tvar w).pv] = some (.pv (some 5) (bdp (v, tvar w))) := rfl
 have hins : ∀ e : Heap, S 63 [.sl (some 5) r l.length 0 l.length, .pv none (.int .i64 (lbB l v : Int)), .tsl (some 5) [bdp (v, tvar w)]] (US hp q r l ++ e) = some (.ret (.sl (some 5) r (insB l v (tvar w)).length 0 (insB l v (tvar w)).length), UA hp q r l (insB l v (tvar w)) ++ e) := fun e => by
  obtain ⟨s', H', h1, _, _, h2 | h2⟩ := ins_ok (US_B (q := q) hr l e) v (tvar w) (by omega)
  ·obtain ⟨r', n', h3, h4, h5⟩ := h2
   cases h3
   rw [h1, h4, h5, insB_len, List.set_append_left _ _ (by rw [US_len]; exact hr)]
   rfl
  ·cases h2.1
 have hst := fun l' e => US_st (r := r) hq hn l l' hp.length hq e
 simp only [zw] at hoc1 hcl
 generalize hT : (tvar w).pv = T at hcl hbd
 simp -dsimp -implicitDefEqProofs only [g75, c75r0, c75r1, c75r2, c75k3, c75r4, c75r5, c75, go_sem, seval, ↓reduceIte, vagg, hoc1, hpl, hcl, hbd, hsm, hins, hst, hlen, hg0, hg1, hs0, hld, w_box_agg, op_bslicen, List.take_succ_cons, List.drop_succ_cons, List.all_cons, List.all_nil, s_nilcheck_ptr, List.append_assoc, List.cons_append, List.nil_append, get_pre, get_pre0, set_pre, set_pre0, Nat.add_assoc, List.length_append, List.length_cons, List.length_nil, Nat.zero_add]
 exact List.take_left' (hlen _)
end Go.Proofs.Ytenkiofpobeilaa
