/- What is proved: the program's clone of bindings. -/
import Derived.Test.YtenkiofpobeilaaStk
set_option linter.unusedSimpArgs false
set_option linter.unusedVariables false
namespace Go.Proofs.Ytenkiofpobeilaa
open Go.Am
def Bq (hp : Heap) : Prop := ∀ x ∈ hp, AObj.beq x x = true
theorem Bq.same : ∀ {hp : Heap}, Bq hp → sameHeap hp hp = true
 | [], _ => rfl
 | x :: r, h => by
  show (AObj.beq x x && sameHeap r r) = true
  rw [h x List.mem_cons_self, Bq.same (hp := r) fun y hy => h y (List.mem_cons_of_mem _ hy)]
  rfl
theorem Bq.app {a b : Heap} (h1 : Bq a) (h2 : Bq b) : Bq (a ++ b) := fun x hx => (List.mem_append.1 hx).elim (h1 x) (h2 x)
theorem Bq.cons {x : AObj} {b : Heap} (h1 : AObj.beq x x = true) (h2 : Bq b) : Bq (x :: b) := fun y hy => (List.mem_cons.1 hy).elim (fun e => e ▸ h1) (h2 y)
theorem Bq.nil : Bq [] := fun _ h => by cases h
theorem Bq.set {hp : Heap} (h : Bq hp) (i : Nat) {x : AObj} (hx : AObj.beq x x = true) : Bq (hp.set i x) := fun y hy => by
 rcases List.mem_or_eq_of_mem_set hy with h1 | rfl
 ·exact h y h1
 ·exact hx
theorem bq_tm (t : Tm) : AObj.beq (.box (some 4) (.pv (some 4) t.pv)) (.box (some 4) (.pv (some 4) t.pv)) = true := by simp [AObj.beq, AV.beq, beq_self]
theorem beqs_all {es : List PV} (h : ∀ x ∈ es, PV.beq x x = true) : PV.beqs es es = true := by
 induction es with
 | nil => rfl
 | cons x r ih =>
  show (PV.beq x x && PV.beqs r r) = true
  rw [h x List.mem_cons_self, ih fun y hy => h y (List.mem_cons_of_mem _ hy)]
  rfl
theorem beq_bdp (b : B) : PV.beq (bdp b) (bdp b) = true := by simp [bdp, PV.beq, PV.beqc, beq_self]
theorem bq_bds (l : List B) (z : Bool) : AObj.beq (.arr (some 5) (bds l) z) (.arr (some 5) (bds l) z) = true := by
 have : PV.beqs (bds l) (bds l) = true := beqs_all fun x hx => by
  obtain ⟨b, _, rfl⟩ := List.mem_map.1 hx
  exact beq_bdp b
 simp [AObj.beq, this]
theorem sameK_ret {v : AV} {hp : Heap} {K : AV → Heap → Prop} (h : sameHeap hp hp = true) : sameK (some (.ret v, hp)) hp K = K v hp := by
 simp [sameK, h]
theorem op_callg_ret {Γ : Oracle} {b : Nat} {s : Sh} {f : FuncId} {vs : List AV} {v : AV} {hp : Heap} {K : AV → Heap → Prop} {Kp : PV → Heap → Prop} (hc : Γ .fn f vs hp = some (.ret v, hp)) (h : sameHeap hp hp = true) : opK (aOp Γ b .callg (.pv s (.func (.func f)) :: vs) hp) K Kp = K v hp := by
 have h2 : sameHeap (hp.take hp.length) hp = true := by rw [List.take_length]; exact h
 simp [aOp, aCallg, aCall, calleeOf, hc, h]
 rfl
theorem pclone_ok (l : List B) (hG : Good l) (hl : l.length < 90000000) (hp : Heap) (hb : Bq hp) :
  S 36 [.pv none (.sl (some 5) (bds l))] hp = some (.ret (.sl (some 5) (hp.length + 1) l.length 0 l.length), hp ++ [.arr (some 5) [] false, .arr (some 5) (bds l) false]) := by
 refine sem_heap rfl rfl rfl rfl ?_
 have hn0 : ∀ H : Heap, wNilsl (some 5) H = some (.sl (some 5) H.length 0 0 0, H ++ [.arr (some 5) [] false]) := fun H => w_nilsl (sh := some 5) (by decide)
 simp -dsimp -implicitDefEqProofs only [g36, c36r0, c36r1, c36r2, c36r3, c36k4, c36r5, c36r6, c36k7, c36r8, c36b9, c36k10, c36r11, c36, go_sem, seval, ↓reduceIte, hn0, bds_len, List.append_assoc, List.cons_append, List.nil_append, get_pre, get_pre0, set_pre, set_pre0, Nat.add_assoc, List.length_append, List.length_cons, List.length_nil, Nat.zero_add]
 refine W_for (α := Unit) l.length (fun i _ => True) (fun i _ => ⟨[(3, .sl (some 5) (hp.length + 1) i 0 i), (6, .pv none (.sl (some 5) (bds l))), (7, .pv none (.int .i64 l.length)), (8, .pv none (.int .i64 i))], hp ++ [.arr (some 5) [] false, .arr (some 5) (bds (l.take i)) false]⟩) () ⟨trivial, rfl⟩ ?_ ?_
 ·rintro i - h -
  have hc : (i : Int) < (l.length : Int) := by omega
  obtain ⟨b, hbb⟩ : ∃ b, l[i]? = some b := ⟨_, List.getElem?_eq_getElem h⟩
  have hbv := hG.2 b (List.mem_of_getElem? hbb)
  have w2 : IntKind.i64.wrap ((i : Int) + 1) = ((i + 1 : Nat) : Int) := by rw [wrap64 (by omega) (by omega)]; omega
  have hlim : i + 1 ≤ lim := by unfold lim; omega
  have htl : (bds (l.take i)).length = i := by rw [bds_len, List.length_take]; omega
  have hcl := fun hp => clone_ok b.2 hp hbv.1 hbv.2
  simp only [Tm.av] at hcl
  have hbd : sBuild [(none, .pv none (.int .i64 0)), (some 4, .agg [(none, .pv none (.int .i64 0)), (none, .pv none (.int .i64 0)), (none, .pv none (.str [])), (none, .tsl (some 4) [])])] [0, 1] [.pv none (.int .i64 b.1), .pv (some 4) b.2.pv] = some (.pv (some 5) (bdp (b.1, b.2))) := rfl
  have hsh : sameHeap (hp ++ [.arr (some 5) [] false, .arr (some 5) (bds (l.take i)) false, .box (some 5) (.pv (some 5) (bdp b))]) (hp ++ [.arr (some 5) [] false, .arr (some 5) (bds (l.take i)) false, .box (some 5) (.pv (some 5) (bdp b))]) = true :=
   (hb.app (Bq.cons (bq_bds [] false) (Bq.cons (bq_bds _ _) (Bq.cons (by simp [AObj.beq, AV.beq, beq_bdp]) Bq.nil)))).same
  have happ : wAppend (some 5) (hp ++ [.arr (some 5) [] false, .arr (some 5) (bds (l.take i)) false, .box (some 5) (.pv (some 5) (bdp b))]) [.sl (some 5) (hp.length + 1) i 0 i, .tsl (some 5) [bdp (b.1, b.2)]] = some (.sl (some 5) (hp.length + 1) (i + 1) 0 (i + 1), hp ++ [.arr (some 5) [] false, .arr (some 5) (bds (l.take (i + 1))) false, .box (some 5) (.pv (some 5) (bdp b))]) := by
   have e : bds (l.take (i + 1)) = bds (l.take i) ++ [bdp (b.1, b.2)] := by rw [take_snoc hbb]; simp [bds]
   rw [w_append_tsl (by rw [getN rfl]; exact ⟨rfl, htl⟩) (by simpa using hlim), e]
   simp
   rfl
  simp -dsimp -implicitDefEqProofs only [g36, c36r0, c36r1, c36r2, c36r3, c36k4, c36r5, c36r6, c36k7, c36r8, c36b9, c36k10, c36r11, c36, go_sem, seval, ↓reduceIte, hc, s_iaddr_pv (bds_get hbb), part_var, part_to, w2, hbd, hcl, sameK_ret hsh, op_callh, happ, w_alloc_agg, List.append_assoc, List.cons_append, List.nil_append, get_pre, get_pre0, set_pre, set_pre0, Nat.add_assoc, List.length_append, List.length_cons, List.length_nil, Nat.zero_add]
  refine ⟨(), ?_⟩
  rw [collect_pre 2 rfl rfl (by simp [AObj.refs]) (by simp [AV.refsIn])]
  rfl
 ·rintro - -
  have hc : ¬ (l.length : Int) < (l.length : Int) := by omega
  simp -dsimp -implicitDefEqProofs only [g36, c36r0, c36r1, c36r2, c36r3, c36k4, c36r5, c36r6, c36k7, c36r8, c36b9, c36k10, c36r11, c36, go_sem, seval, ↓reduceIte, hc, List.append_assoc, List.cons_append, List.nil_append, get_pre, get_pre0, set_pre, set_pre0, Nat.add_assoc, List.length_append, List.length_cons, List.length_nil, Nat.zero_add]
  rw [if_neg (by simp [AV.refsIn]), List.take_length]
end Go.Proofs.Ytenkiofpobeilaa
