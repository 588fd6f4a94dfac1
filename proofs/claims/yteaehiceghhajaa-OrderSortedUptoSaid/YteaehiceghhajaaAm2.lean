/- What is proved: the abstract machine says true of the model (part 2). No conditions beside those that each theorem names. -/
import Derived.Test.YteaehiceghhajaaAm1
import Derived.Laws.MakeOwn
import Derived.Orders
import Derived.Lib.Bytealg
import Derived.ProofKit
import Derived.OpenShut
import Derived.JoinedCond
set_option linter.unusedSimpArgs false
set_option linter.unusedVariables false
/- Structs, arrays and slices written out; make. -/
namespace Go.Am
variable {P : Program} {w : World} {X : Nat → Prop} {μ : Nat → Option Nat} {hp : Heap}

theorem foldl_set (off : Nat) : ∀ (l : List Value) (k : Nat) (cells : Array Value), off + k + l.length ≤ cells.size →
    (l.zipIdx k).foldl (fun cs (x : Value × Nat) => cs.setIfInBounds (off + x.2) x.1) cells = (cells.toList.take (off + k) ++ l ++ cells.toList.drop (off + k + l.length)).toArray
  | [], k, cells, h => by simp
  | c :: r, k, cells, h => by
    have hl : off + k < cells.size := by simp at h; omega
    rw [List.zipIdx_cons, List.foldl_cons, foldl_set off r (k + 1) _ (by simp at h ⊢; omega)]
    have e := list_seg_step cells.toList (off + k) c r (by simp at h ⊢; omega)
    simp only [Array.toList_setIfInBounds, List.length_cons]
    congr 1

theorem fill_step (place : Nat → Option (Nat × Nat)) (cells : Array Value) (i : Nat) (v : Value) (rest : List (Nat × Value)) (off : Nat) (hp : place i = some (off, v.cells.size)) (hle : off + v.cells.size ≤ cells.size) :
    Instr.fill place cells ((i, v) :: rest) = Instr.fill place (cells.toList.take off ++ v.cells.toList ++ cells.toList.drop (off + v.cells.size)).toArray rest := by
  have h1 : ¬ ((decide (v.cells.size ≠ v.cells.size) || decide (off + v.cells.size > cells.size)) = true) := by simp; omega
  have h2 := foldl_set off v.cells.toList 0 cells (by simpa using hle)
  simp only [Nat.add_zero, Array.length_toList] at h2
  have h3 : v.cells.zipIdx.foldl (fun cs (x : Value × Nat) => cs.setIfInBounds (off + x.2) x.1) cells = (v.cells.toList.zipIdx 0).foldl (fun cs (x : Value × Nat) => cs.setIfInBounds (off + x.2) x.1) cells := by
    rw [← Array.foldl_toList, Array.toList_zipIdx]
  simp only [Instr.fill, hp]
  rw [if_neg h1]
  have h4 : v.cells.zipIdx.foldl (fun cs x => match x with | (c, j) => cs.setIfInBounds (off + j) c) cells = v.cells.zipIdx.foldl (fun cs (x : Value × Nat) => cs.setIfInBounds (off + x.2) x.1) cells := rfl
  rw [h4, h3, h2]

theorem fill_slice {sz : Nat} : ∀ (us done : List Value) (cells : Array Value), (∀ v ∈ us, v.cells.size = sz) → (∀ v ∈ done, v.cells.size = sz) → cells.size = (done.length + us.length) * sz → cells.toList.take (done.length * sz) = cellsOf done →
    Instr.fill (fun i => some (i * sz, sz)) cells ((List.range' done.length us.length).zip us) = some (cellsOf (done ++ us)).toArray
  | [], done, cells, _, _, hs, ht => by
    simp only [List.zip_nil_right, Instr.fill, List.append_nil]
    congr 1
    apply Array.ext'
    rw [← ht, List.take_of_length_le (by simp at hs; simp [hs])]
  | v :: r, done, cells, hu, hd, hs, ht => by
    have hv := hu v (by simp)
    have hle : done.length * sz + v.cells.size ≤ cells.size := by rw [hs, hv]; simp only [List.length_cons, Nat.add_mul]; omega
    rw [List.length_cons, List.range'_succ, List.zip_cons_cons, fill_step _ _ _ _ _ (done.length * sz) (by rw [hv]) hle]
    have hcl : cells.toList.length = cells.size := Array.length_toList
    have hl : (cells.toList.take (done.length * sz)).length = done.length * sz := by rw [List.length_take]; omega
    have ih := fill_slice r (done ++ [v]) ((cells.toList.take (done.length * sz) ++ v.cells.toList ++ cells.toList.drop (done.length * sz + v.cells.size)).toArray) (fun x hx => hu x (by simp [hx]))
      (fun x hx => by rcases List.mem_append.1 hx with h | h; exact hd x h; simp at h; rw [h]; exact hv) (by
        simp only [List.size_toArray, List.length_append, List.length_drop, Array.length_toList, hl, List.length_cons, List.length_nil]
        rw [hs, hv]
        simp only [List.length_cons, Nat.add_mul]
        omega) (by
        have e : (done ++ [v]).length * sz = (cells.toList.take (done.length * sz) ++ v.cells.toList).length := by simp only [List.length_append, hl, Array.length_toList, hv, List.length_cons, List.length_nil, Nat.add_mul]; omega
        rw [e]
        show List.take _ (cells.toList.take (done.length * sz) ++ v.cells.toList ++ _) = _
        rw [List.take_left' rfl, ht, cellsOf_append]
        simp [cellsOf])
    have e2 : (done ++ [v]).length = done.length + 1 := by simp
    rw [e2] at ih
    rw [ih]
    simp

theorem parts_zip {parts : Array (Nat × Operand)} {ρ : Operand → Value} : (parts.map fun (x : Nat × Operand) => (x.1, ρ x.2)).toList = (parts.toList.map (·.1)).zip ((parts.toList.map (·.2)).map ρ) := by
  rw [Array.toList_map]
  induction parts.toList with
  | nil => rfl
  | cons x r ih => simp [ih]

theorem bslice_run {t e : TypeId} {n : Nat} {parts : Array (Nat × Operand)} {ρ : Operand → Value} {I : Nat → Prop} {es : List PV} (ht : P.underlying t = some (.slice e)) (hok : okT P e = true) (hz : zeroOk P e = true) (hr : parts.toList.map (·.1) = List.range n) (hn : n * P.cellsOf e ≤ 65536)
    (hE : ER w I (shOf P e) es ((parts.toList.map (·.2)).map ρ)) :
    (Instr.buildSlice t n (parts.map fun (x : Nat × Operand) => (x.1, ρ x.2))).run P w = .ok (.slice (some ⟨w.heap.size, 0, none⟩) n n) (w.alloc (.cells (cellsOf ((parts.toList.map (·.2)).map ρ)).toArray e)) ∧ es.length = n := by
  obtain ⟨i, z, hi, hiz, hsz, hzs⟩ := okE w hok hz
  have hce : P.cellsOf e = (shOf P e).size := by simp [Program.cellsOf, hi, hsz]
  rw [hce] at hn
  have hlen : es.length = n := by
    rw [hE.1, List.length_map, List.length_map]
    have := congrArg List.length hr
    simpa using this
  refine ⟨?_, hlen⟩
  have hbig : ¬ n * (shOf P e).size > 2 ^ 24 := by omega
  have hzero : (zeroValue e).run P w = .ok z w := by simp [zeroValue, typeInfo, hi, hiz]
  have fillEq : ∀ cells : Array Value, cells.size = n * (shOf P e).size → Instr.fill (fun i => some (i * (shOf P e).size, (shOf P e).size)) cells (parts.map fun (x : Nat × Operand) => (x.1, ρ x.2)).toList = some (cellsOf ((parts.toList.map (·.2)).map ρ)).toArray := by
    intro cells hc
    rw [parts_zip, hr, List.range_eq_range']
    have := fill_slice (sz := (shOf P e).size) ((parts.toList.map (·.2)).map ρ) [] cells hE.sizes (by simp) (by rw [← hE.1, hlen]; simpa using hc) (by simp [cellsOf])
    rw [← hE.1, hlen] at this
    simpa using this
  by_cases h0 : n * (shOf P e).size = 0
  · have hf := fillEq (Array.map (fun x => (#[] : Array Value)[x % (#[] : Array Value).size]!) (Array.range (n * (shOf P e).size))) (by simp)
    simp [Instr.buildSlice, run_underlying ht, okT_size hok, h0, newRow] at hf ⊢
    simp [hf]
  · have hf := fillEq (Array.map (fun x => z.cells[x % z.cells.size]!) (Array.range (n * (shOf P e).size))) (by simp)
    simp [Instr.buildSlice, run_underlying ht, okT_size hok, hbig, h0, newRow, hzero] at hf ⊢
    simp [hf]

/-- The new block of a slice that is written out. -/
theorem bslice_out {b n : Nat} {sh : Sh} {es : List PV} {vals : List Value} {t : TypeId} (hH : HR w X μ hp) (hE : ER w (Im X μ hp) sh es vals) (hn : es.length = n) :
    AR (w.alloc (.cells (cellsOf vals).toArray t)) X μ hp (.tsl sh es) (.slice (some ⟨w.heap.size, 0, none⟩) n n) ∧ HR (w.alloc (.cells (cellsOf vals).toArray t)) X μ hp ∧ Ext b X μ hp w μ hp (w.alloc (.cells (cellsOf vals).toArray t)) := by
  subst hn
  refine ⟨.tsl _ _ _ ?_, hH.alloc _, Ext.alloc b _⟩
  have hE' := ER.ext (Ext.alloc (X := X) (μ := μ) (hp := hp) (w := w) 0 (.cells (cellsOf vals).toArray t)) hE
  refine .sl sh es w.heap.size 0 es.length _ t (0, 0) vals hE.1 ⟨fun hx => by have := hH.xlt _ hx; omega, fun i hl e => by have := (hH.out i _ (live_lt hl) e).2; omega⟩ (alloc_new w _) (fun i p v hp hv => (hE'.2 i p v hp hv).1) (fun i p v hp hv => (hE'.2 i p v hp hv).2) ?_ (Nat.le_refl _)
  simp only [List.drop_zero]
  rw [List.take_of_length_le (by rw [hE.length]; exact Nat.le_refl _)]
end Go.Am

/- Structs and arrays written out; strings cut; type assertions; make. -/
namespace Go.Am
variable {P : Program} {w : World} {X : Nat → Prop} {μ : Nat → Option Nat} {hp : Heap}

theorem total_append {α : Type} (a b : List (Sh × α)) : total (a ++ b) = total a + total b := by
  induction a with
  | nil => simp [total]
  | cons x r ih => simp [total, ih]; omega

theorem set_comp {l : List (Sh × AV)} {vals : List Value} {i : Nat} {sh : Sh} {a0 a : AV} {v : Value} (hc : CR w X μ hp l vals) (hi : l[i]? = some (sh, a0)) (ha : AR w X μ hp a v) (hs : vshp v = sh) (hf : Flat v) :
    CR w X μ hp (l.set i (sh, a)) (vals.set i v) ∧ total (l.take i) + v.cells.size ≤ (cellsOf vals).length ∧ cellsOf (vals.set i v) = (cellsOf vals).take (total (l.take i)) ++ v.cells.toList ++ (cellsOf vals).drop (total (l.take i) + v.cells.size) := by
  induction l generalizing vals i with
  | nil => simp at hi
  | cons x r ih =>
    obtain ⟨s, a1⟩ := x
    obtain ⟨u, us, rfl, h1, h2, h3, h4⟩ := hc.inv
    have hul : u.cells.toList.length = s.size := by rw [Array.length_toList, vshp_size, h1]
    have hvs : v.cells.size = sh.size := by rw [vshp_size, hs]
    cases i with
    | zero =>
      simp only [List.getElem?_cons_zero, Option.some.injEq, Prod.mk.injEq] at hi
      obtain ⟨rfl, rfl⟩ := hi
      refine ⟨CR.cons hs hf ha h4, by simp [total, cellsOf_cons, hvs, hul], ?_⟩
      simp only [List.set_cons_zero, List.take_zero, total, Nat.zero_add, cellsOf_cons, List.nil_append]
      rw [hvs, ← hul, List.drop_left]
    | succ i =>
      obtain ⟨k1, k2, k3⟩ := ih h4 (by simpa using hi)
      refine ⟨CR.cons h1 h2 h3 k1, by simp only [List.take_succ_cons, total, cellsOf_cons, List.length_append]; omega, ?_⟩
      simp only [List.set_cons_succ, List.take_succ_cons, total, cellsOf_cons]
      rw [k3, List.take_append, List.drop_append, List.take_of_length_le (by omega : u.cells.toList.length ≤ s.size + total (r.take i)), List.drop_of_length_le (by omega : u.cells.toList.length ≤ s.size + total (r.take i) + v.cells.size), hul,
        show s.size + total (r.take i) - s.size = total (r.take i) by omega, show s.size + total (r.take i) + v.cells.size - s.size = total (r.take i) + v.cells.size by omega]
      simp

theorem total_set {l : List (Sh × AV)} {i : Nat} {sh : Sh} {a0 a : AV} (hi : l[i]? = some (sh, a0)) (k : Nat) : total ((l.set i (sh, a)).take k) = total (l.take k) ∧ (l.set i (sh, a)).map (·.1) = l.map (·.1) := by
  induction l generalizing i k with
  | nil => simp at hi
  | cons x r ih =>
    cases i with
    | zero =>
      simp only [List.getElem?_cons_zero, Option.some.injEq] at hi
      subst hi
      cases k with
      | zero => simp [total]
      | succ k => simp [total]
    | succ i =>
      have h := fun k => ih (i := i) (by simpa using hi) k
      cases k with
      | zero => exact ⟨by simp [total], by simp [(h 0).2]⟩
      | succ k => exact ⟨by simp [total, (h k).1], by simp [(h 0).2]⟩

theorem fill_build {place : Nat → Option (Nat × Nat)} : ∀ (idx : List Nat) (as : List AV) (l l' : List (Sh × AV)) (us vals : List Value) (cells : Array Value), setComps l idx as = some l' → CR w X μ hp l vals → cells.toList = cellsOf vals → LR w X μ hp as us →
    (∀ i sh, (l.map (·.1))[i]? = some sh → place i = some (total (l.take i), sh.size)) → ∃ vals', Instr.fill place cells (idx.zip us) = some (cellsOf vals').toArray ∧ CR w X μ hp l' vals'
  | [], as, l, l', us, vals, cells, h, hc, hcells, hl, hplace => by
    cases as with
    | nil =>
      simp only [setComps, Option.some.injEq] at h
      subst h
      refine ⟨vals, ?_, hc⟩
      simp only [List.zip_nil_left, Instr.fill, ← hcells, Array.toArray_toList]
    | cons a r => simp [setComps] at h
  | i :: idx, as, l, l', us, vals, cells, h, hc, hcells, hl, hplace => by
    cases as with
    | nil => simp [setComps] at h
    | cons a r =>
      cases hl with
      | cons ha hr =>
        rename_i v us'
        simp only [setComps] at h
        split at h
        · rename_i sh a0 hi
          split at h
          · rename_i hh
            have hs : vshp v = sh := by rw [ha.vshp hh.2, hh.1]
            have hvs : v.cells.size = sh.size := by rw [vshp_size, hs]
            obtain ⟨k1, k2, k3⟩ := set_comp hc hi ha hs (ha.flat hh.2)
            have hpl := hplace i sh (by simp [hi])
            have hcl : cells.toList.length = cells.size := Array.length_toList
            rw [List.zip_cons_cons, fill_step place cells i v _ (total (l.take i)) (by rw [hpl, hvs]) (by rw [← hcl, hcells]; exact k2)]
            refine fill_build idx r _ l' us' (vals.set i v) _ h k1 (by simp only [hcells, k3]) hr fun j s hj => ?_
            have ht := fun k => total_set (a := a) hi k
            rw [(ht 0).2] at hj
            rw [(ht j).1]
            exact hplace j s hj
          · cases h
        · cases h

theorem fields_facts (P : Program) (d : Nat) (cs : Array Value) : ∀ (fs : List Field) (o : Nat) (l : List (Sh × AV)), ofValue.fields P d cs o fs = some l → l.map (·.1) = fs.map (fun f => shOf P f.type) ∧ ∀ i f, fs[i]? = some f → f.offset = o + total (l.take i) := by
  intro fs
  induction fs with
  | nil =>
    intro o l h
    simp only [ofValue.fields, ofFields] at h
    split at h
    · cases h; exact ⟨rfl, by simp⟩
    · cases h
  | cons f r ih =>
    intro o l h
    simp only [ofValue.fields, ofFields] at h
    split at h
    · rename_i ho
      split at h
      · cases h
      · split at h
        · rename_i l' hl'
          cases h
          obtain ⟨h1, h2⟩ := ih _ _ hl'
          refine ⟨by simp [h1], fun i g hg => ?_⟩
          cases i with
          | zero => simp at hg; subst hg; simp [total, ho]
          | succ i =>
            have := h2 i g (by simpa using hg)
            rw [this, List.take_succ_cons]
            simp only [total]
            omega
        · cases h
    · cases h
theorem items_facts (P : Program) (d : Nat) (cs : Array Value) (sh : Sh) (t : TypeId) : ∀ (n o : Nat) (l : List (Sh × AV)), ofValue.items P d cs sh t o n = some l → ∀ i s, (l.map (·.1))[i]? = some s → s = sh ∧ total (l.take i) = i * sh.size := by
  intro n
  induction n with
  | zero =>
    intro o l h
    simp only [ofValue.items, ofItems] at h
    split at h
    · cases h; intro i s hs; simp at hs
    · cases h
  | succ n ih =>
    intro o l h
    simp only [ofValue.items, ofItems] at h
    split at h
    · cases h
    · split at h
      · rename_i l' hl'
        cases h
        intro i s hs
        cases i with
        | zero => simp at hs; subst hs; simp [total]
        | succ i =>
          obtain ⟨h1, h2⟩ := ih _ _ hl' i s (by simpa using hs)
          refine ⟨h1, ?_⟩
          rw [List.take_succ_cons]
          simp only [total, h2, Nat.add_mul]
          omega
      · cases h

theorem comps_ofComps {l l' : List (Sh × AV)} (h : (AV.ofComps l).comps = some l') : l'.map (·.1) = l.map (·.1) := by
  have key : ∀ (l : List (Sh × AV)) (ps : List (Sh × PV)), pures l = some ps → ps.map (·.1) = l.map (·.1) := by
    intro l
    induction l with
    | nil => intro ps h; simp [pures] at h; subst h; rfl
    | cons x r ih =>
      intro ps h
      obtain ⟨s, a⟩ := x
      cases a with
      | pv s' p =>
        simp only [pures] at h
        split at h
        · rename_i q hq
          cases h
          simp [ih _ hq]
        · cases h
      | _ => simp [pures] at h
  unfold AV.ofComps at h
  split at h
  · rename_i ps hps
    simp only [AV.comps, Option.some.injEq] at h
    subst h
    simp [key l ps hps, Function.comp_def]
  · simp only [AV.comps, Option.some.injEq] at h
    subst h
    rfl
theorem total_map {α β : Type} : ∀ {a : List (Sh × α)} {b : List (Sh × β)}, a.map (·.1) = b.map (·.1) → ∀ i, total (a.take i) = total (b.take i)
  | [], [], _, i => by simp [total]
  | [], _ :: _, h, i => by simp at h
  | _ :: _, [], h, i => by simp at h
  | x :: r, y :: q, h, i => by
    simp only [List.map_cons, List.cons.injEq] at h
    cases i with
    | zero => simp [total]
    | succ i => simp [total, h.1, total_map h.2 i]

theorem mapM_places {fs : List Field} (hok : fs.all (fun f => okT P f.type) = true) : (fs.mapM (fun f => do pure (f.offset, ← sizeOf f.type)) : Sem (List (Nat × Nat))).run P w = .ok (fs.map fun f => (f.offset, (shOf P f.type).size)) w := by
  induction fs with
  | nil => rfl
  | cons f r ih =>
    simp only [List.all_cons, Bool.and_eq_true] at hok
    rw [List.mapM_cons]
    simp only [Sem.run_bind, okT_size hok.1, Result.andThen_ok, Sem.run_pure, ih hok.2, List.map_cons]

theorem zero_comps {t : TypeId} {z : AV} {l : List (Sh × AV)} (hz : zeroOf P t = some z) (hl : z.comps = some l) (w : World) (X : Nat → Prop) (μ : Nat → Option Nat) (hp : Heap) :
    ∃ cs vals, (zeroValue t).run P w = .ok (.agg cs) w ∧ cs.toList = cellsOf vals ∧ CR w X μ hp l vals ∧
      (∀ fs, P.underlying t = some (.struct fs) → l.map (·.1) = fs.toList.map (fun f => shOf P f.type) ∧ ∀ i f, fs[i]? = some f → f.offset = total (l.take i)) ∧
      (∀ n e, P.underlying t = some (.array n e) → ∀ i s, (l.map (·.1))[i]? = some s → s = shOf P e ∧ total (l.take i) = i * (shOf P e).size) := by
  obtain ⟨v, h1, h2, h3⟩ := zeroOf_run (w := w) (X := X) (μ := μ) (hp := hp) hz
  obtain ⟨vals, rfl, hc⟩ := comps_some hl h2
  refine ⟨_, vals, h1, rfl, hc, ?_, ?_⟩
  · intro fs ht
    unfold zeroOf at hz
    split at hz
    · split at hz
      · rename_i zv hzv
        unfold ofValue at hz
        split at hz <;> first | (simp only [Option.some.injEq] at hz; subst hz; simp [AV.comps] at hl; done) | skip
        · split at hz
          · simp only [Option.some.injEq] at hz; subst hz; simp [AV.comps] at hl
          · cases hz
        · simp only [ht] at hz
          split at hz
          · rename_i l0 hl0
            cases hz
            obtain ⟨f1, f2⟩ := fields_facts P _ _ _ _ _ hl0
            have hm := comps_ofComps hl
            refine ⟨by rw [hm, f1], fun i f hf => ?_⟩
            rw [f2 i f (by simpa using hf), Nat.zero_add]
            exact (total_map hm i).symm
          · cases hz
        · cases hz
      · cases hz
    · cases hz
  · intro n e ht
    unfold zeroOf at hz
    split at hz
    · split at hz
      · rename_i zv hzv
        unfold ofValue at hz
        split at hz <;> first | (simp only [Option.some.injEq] at hz; subst hz; simp [AV.comps] at hl; done) | skip
        · split at hz
          · simp only [Option.some.injEq] at hz; subst hz; simp [AV.comps] at hl
          · cases hz
        · simp only [ht] at hz
          split at hz
          · rename_i l0 hl0
            cases hz
            have hm := comps_ofComps hl
            intro i s hs
            rw [hm] at hs
            obtain ⟨a1, a2⟩ := items_facts P _ _ _ _ _ _ _ hl0 i s hs
            exact ⟨a1, by rw [total_map hm i]; exact a2⟩
          · cases hz
        · cases hz
      · cases hz
    · cases hz

theorem build_sound {t : TypeId} {parts : Array (Nat × Operand)} {ρ : Operand → Value} {z : AV} {l : List (Sh × AV)} {vs : List AV} {v : AV} (hz : zeroOf P t = some z) (hc : z.comps = some l)
    (ht : (∃ fs, P.underlying t = some (.struct fs) ∧ fs.toList.all (fun f => okT P f.type) = true) ∨ ∃ n e, P.underlying t = some (.array n e) ∧ okT P e = true)
    (hl : LR w X μ hp vs ((parts.toList.map (·.2)).map ρ)) (h : sBuild l (parts.toList.map (·.1)) vs = some v) : Yld P w X μ hp (do pure (.value (← Instr.build t (parts.map fun (x : Nat × Operand) => (x.1, ρ x.2))))) v := by
  obtain ⟨cs, vals, z1, z2, z3, z4, z5⟩ := zero_comps hz hc w X μ hp
  unfold sBuild at h
  split at h
  · split at h
    · rename_i l' hl'
      cases h
      rcases ht with ⟨fs, ht, hok⟩ | ⟨n, e, ht, hok⟩
      · obtain ⟨f1, f2⟩ := z4 fs ht
        obtain ⟨vals', k1, k2⟩ := fill_build (place := ((fs.map fun f => (f.offset, (shOf P f.type).size))[·]?)) _ _ _ _ _ _ cs hl' z3 z2 hl (by
          intro i sh hi
          rw [f1] at hi
          simp only [List.getElem?_map, Option.map_eq_some_iff] at hi
          obtain ⟨f, hf, rfl⟩ := hi
          have hf' : fs[i]? = some f := by simpa using hf
          simp [hf', f2 i f hf'])
        refine ⟨.agg (cellsOf vals').toArray, ?_, k2.ofComps⟩
        have hm : (fs.mapM (fun f => do pure (f.offset, ← sizeOf f.type)) : Sem (Array (Nat × Nat))).run P w = .ok (fs.map fun f => (f.offset, (shOf P f.type).size)) w := by
          rw [Array.mapM_eq_mapM_toList]
          simp only [Sem.run_map, mapM_places hok, Result.andThen_ok, ← Array.toList_map, Array.toArray_toList]
        rw [← parts_zip] at k1
        simp only [Instr.build, Sem.run_bind, z1, Result.andThen_ok, run_underlying ht, hm, Value.cells, k1, Sem.run_pure]
      · have f2 := z5 n e ht
        obtain ⟨vals', k1, k2⟩ := fill_build (place := fun i => some (i * (shOf P e).size, (shOf P e).size)) _ _ _ _ _ _ cs hl' z3 z2 hl (by
          intro i sh hi
          obtain ⟨a1, a2⟩ := f2 i sh hi
          rw [a1, a2])
        refine ⟨.agg (cellsOf vals').toArray, ?_, k2.ofComps⟩
        rw [← parts_zip] at k1
        simp only [Instr.build, Sem.run_bind, z1, Result.andThen_ok, run_underlying ht, okT_size hok, Value.cells, k1, Sem.run_pure]
    · cases h
  · cases h
end Go.Am

/- Structs compared; strings cut; type assertions; maps read and written. -/
namespace Go.Am
variable {P : Program} {w : World} {X : Nat → Prop} {μ : Nat → Option Nat} {hp : Heap}

theorem part_one {t : TypeId} {d : TypeDesc} (ht : P.underlying t = some d) (hn : shOf P t = none) {cs : Array Value} {o : Nat} {v : Value} (h : cs[o]? = some v) : (part t cs o).run P w = .ok v w := by
  simp only [part, Sem.run_bind, isAgg_run ht, hn, Option.isSome_none, Result.andThen_ok, Bool.false_eq_true, if_false, h, Sem.run_pure]

theorem PR.int_inv {I : Nat → Prop} {k : IntKind} {n : Int} {v : Value} (h : PR w I (.int k n) v) : v = .int k n := by cases h; rfl
theorem PR.str_inv {I : Nat → Prop} {s : List UInt8} {v : Value} (h : PR w I (.str s) v) : v = .string ⟨s.toArray⟩ := by cases h; rfl
theorem PR.bool_inv {I : Nat → Prop} {b : Bool} {v : Value} (h : PR w I (.bool b) v) : v = .bool b := by cases h; rfl

theorem drop_head {α : Type} {l : List α} {o : Nat} {a : α} {r : List α} (h : l.drop o = a :: r) : l[o]? = some a ∧ l.drop (o + 1) = r := by
  have h1 : (l.drop o)[0]? = some a := by rw [h]; rfl
  refine ⟨by simpa using h1, ?_⟩
  have h2 := congrArg (List.drop 1) h
  simpa [List.drop_drop] using h2

theorem eqFields_sound {I : Nat → Prop} (d : Nat) (xs ys : Array Value) : ∀ (fs : List Field) (ds : List Nat) (o : Nat) (lx ly : List (Sh × PV)) (vx vy : List Value) (b : Bool),
    kindsOf P o fs = some ds → eqComps ds lx ly = some b → CP w I lx vx → CP w I ly vy → xs.toList.drop o = cellsOf vx → ys.toList.drop o = cellsOf vy → (Op.eqFields (d + 1) xs ys fs).run P w = .ok b w
  | [], ds, o, lx, ly, vx, vy, b, hk, he, hx, hy, h1, h2 => by
    cases hk
    cases lx <;> cases ly <;> simp [eqComps] at he
    subst he
    rfl
  | f :: r, ds, o, lx, ly, vx, vy, b, hk, he, hx, hy, h1, h2 => by
    simp only [kindsOf] at hk
    split at hk
    · rename_i hf
      obtain ⟨rfl, hf⟩ := hf
      split at hk
      · rename_i k l hd hl
        cases hk
        have hn : shOf P f.type = none := by simp [shOf, hd]
        match lx, ly, he, hx, hy with
        | (none, .int k1 a) :: lx, (none, .int k2 a') :: ly, he, hx, hy =>
          simp only [eqComps] at he
          split at he
          · rename_i hkk
            subst hkk
            obtain ⟨u, us, rfl, _, g1, g2⟩ := hx.inv
            obtain ⟨v, vs, rfl, _, g3, g4⟩ := hy.inv
            have e1 := g1.int_inv
            have e2 := g3.int_inv
            subst e1; subst e2
            simp only [cellsOf_cons, Value.cells, List.cons_append, List.nil_append] at h1 h2
            obtain ⟨a1, a2⟩ := drop_head h1
            obtain ⟨b1, b2⟩ := drop_head h2
            have p1 := part_one (w := w) hd hn (by simpa using a1)
            have p2 := part_one (w := w) hd hn (by simpa using b1)
            simp only [Op.eqFields, hf, if_true, ne_eq, not_false_eq_true, Sem.run_bind, p1, p2, Result.andThen_ok, run_equalIn_int w d _ _ _ _ _ hd]
            split at he
            · rename_i hab
              subst hab
              simp only [BEq.rfl, Bool.not_true, Bool.false_eq_true, if_false]
              exact eqFields_sound d xs ys r l _ lx ly us vs b hl he g2 g4 a2 b2
            · rename_i hab
              cases he
              have : (a == a') = false := by simpa using hab
              simp only [this, Bool.not_false, if_true, Sem.run_pure]
          · cases he
        | [], _, he, _, _ => simp [eqComps] at he
        | _, [], he, _, _ => simp [eqComps] at he
      · rename_i l hd hl
        cases hk
        have hn : shOf P f.type = none := by simp [shOf, hd]
        match lx, ly, he, hx, hy with
        | (none, .str a) :: lx, (none, .str a') :: ly, he, hx, hy =>
          simp only [eqComps] at he
          obtain ⟨u, us, rfl, _, g1, g2⟩ := hx.inv
          obtain ⟨v, vs, rfl, _, g3, g4⟩ := hy.inv
          have e1 := g1.str_inv
          have e2 := g3.str_inv
          subst e1; subst e2
          simp only [cellsOf_cons, Value.cells, List.cons_append, List.nil_append] at h1 h2
          obtain ⟨a1, a2⟩ := drop_head h1
          obtain ⟨b1, b2⟩ := drop_head h2
          have p1 := part_one (w := w) hd hn (by simpa using a1)
          have p2 := part_one (w := w) hd hn (by simpa using b1)
          simp only [Op.eqFields, hf, if_true, ne_eq, not_false_eq_true, Sem.run_bind, p1, p2, Result.andThen_ok, run_equalIn_string w d _ _ _ hd, ByteArray.toList_mk]
          split at he
          · rename_i hab
            subst hab
            simp only [BEq.rfl, Bool.not_true, Bool.false_eq_true, if_false]
            exact eqFields_sound d xs ys r l _ lx ly us vs b hl he g2 g4 a2 b2
          · rename_i hab
            cases he
            have : (a == a') = false := by simpa using hab
            simp only [this, Bool.not_false, if_true, Sem.run_pure]
        | [], _, he, _, _ => simp [eqComps] at he
        | _, [], he, _, _ => simp [eqComps] at he
      · rename_i l hd hl
        cases hk
        have hn : shOf P f.type = none := by simp [shOf, hd]
        match lx, ly, he, hx, hy with
        | (none, .bool a) :: lx, (none, .bool a') :: ly, he, hx, hy =>
          simp only [eqComps] at he
          obtain ⟨u, us, rfl, _, g1, g2⟩ := hx.inv
          obtain ⟨v, vs, rfl, _, g3, g4⟩ := hy.inv
          have e1 := g1.bool_inv
          have e2 := g3.bool_inv
          subst e1; subst e2
          simp only [cellsOf_cons, Value.cells, List.cons_append, List.nil_append] at h1 h2
          obtain ⟨a1, a2⟩ := drop_head h1
          obtain ⟨b1, b2⟩ := drop_head h2
          have p1 := part_one (w := w) hd hn (by simpa using a1)
          have p2 := part_one (w := w) hd hn (by simpa using b1)
          simp only [Op.eqFields, hf, if_true, ne_eq, not_false_eq_true, Sem.run_bind, p1, p2, Result.andThen_ok, run_equalIn_bool' w d _ _ _ hd]
          split at he
          · rename_i hab
            subst hab
            simp only [BEq.rfl, Bool.not_true, Bool.false_eq_true, if_false]
            exact eqFields_sound d xs ys r l _ lx ly us vs b hl he g2 g4 a2 b2
          · rename_i hab
            cases he
            have : (a == a') = false := by simpa using hab
            simp only [this, Bool.not_false, if_true, Sem.run_pure]
        | [], _, he, _, _ => simp [eqComps] at he
        | _, [], he, _, _ => simp [eqComps] at he
      · cases hk
    · cases hk

theorem eqs_sound {o : BinOp} (ho : o = .eql ∨ o = .neq) {t : TypeId} {x y : Operand} {vx vy : Value} {ds : List Nat} {vs : List AV} {v : AV} (hd : eqsOk P t = some ds) (hl : LR w X μ hp vs [vx, vy]) (h : sEqs (isNeq o) ds vs = some v) :
    Yld P w X μ hp (do pure (.value (← (do eqGuard o t x y vx vy; binOp o t vx vy)))) v := by
  unfold sEqs at h
  split at h
  · obtain ⟨a, b, e, h1, h2⟩ := hl.two
    cases e
    split at h
    · rename_i r hr
      cases h
      cases h1 with | pv _ _ _ hs1 h1 =>
      cases h2 with | pv _ _ _ hs2 h2 =>
      cases h1 with | agg _ ux hl1 k1 k1' =>
      cases h2 with | agg _ uy hl2 k2 k2' =>
      unfold eqsOk at hd
      split at hd
      · rename_i fs ht
        split at hd
        · rename_i hg
          have hfo : P.fieldsOf t = fs := by simp [Program.fieldsOf, ht]
          have hE : (Op.equalIn 10000 t (.agg (cellsOf ux).toArray) (.agg (cellsOf uy).toArray)).run P w = .ok r w := by
            rw [run_equalIn_agg w 9999 t _ _ (by rw [hfo]; exact ht) hg.1, hfo]
            exact eqFields_sound 9998 _ _ _ _ 0 _ _ ux uy r hd hr ⟨hl1, k1, k1'⟩ ⟨hl2, k2, k2'⟩ (by simp) (by simp)
          rcases ho with rfl | rfl
          · exact ⟨.bool r, by simp only [Sem.run_bind, run_eqGuard_agg w .eql t x y _ _ hg.2, Result.andThen_ok, run_eql_struct, hE, Sem.run_pure], .mkBool _⟩
          · exact ⟨.bool (!r), by simp only [Sem.run_bind, run_eqGuard_agg w .neq t x y _ _ hg.2, Result.andThen_ok, run_neq_struct, hE, Sem.run_pure], .mkBool _⟩
        · cases hd
      · cases hd
    · cases h
  · cases h
end Go.Am

/- Maps; strings cut; type assertions; make. -/
namespace Go.Am
variable {P : Program} {w : World} {X : Nat → Prop} {μ : Nat → Option Nat} {hp : Heap}

theorem Ext.setMap {b0 r : Nat} {sh : Sh} {old new : List (PV × PV)} (hr : hp[r]? = some (.map sh old)) {w' : World} {b : Nat} (hb : μ r = some b) (hos : w'.os = w.os) (ht : w'.tape = w.tape) (ho : w'.output = w.output)
    (hsz : w'.heap.size = w.heap.size) (hoth : ∀ k, k ≠ b → w'.heap[k]? = w.heap[k]?) (hsh : ∀ cs t fr, w.heap[b]? ≠ some (.cells cs t fr)) : Ext b0 X μ hp w μ (hp.set r (.map sh new)) w' where
  os := hos
  tape := ht
  output := ho
  size := by omega
  blk k hk hm := hoth k fun e => by
    subst e
    exact hm r (by simp [Am.live, hr]) hb
  shape k cs t fr hk := by
    by_cases e : k = b
    · subst e; exact absurd hk (hsh cs t fr)
    · exact ⟨cs, by rw [hoth k e]; exact hk, rfl⟩
  len := by simp
  box i s u hi := by
    have e : i ≠ r := by rintro rfl; rw [hr] at hi; cases hi
    exact ⟨u, by rw [List.getElem?_set_ne (Ne.symm e)]; exact hi, rfl, fun _ _ h => h⟩
  arr i s es fz hi := by
    have e : i ≠ r := by rintro rfl; rw [hr] at hi; cases hi
    exact ⟨es, fz, by rw [List.getElem?_set_ne (Ne.symm e)]; exact hi, Nat.le_refl _, fun e => ⟨e, rfl⟩, fun _ => rfl⟩
  map i s es hi := by
    by_cases e : i = r
    · subst e
      rw [hr] at hi
      cases hi
      exact ⟨new, by rw [List.getElem?_set_self (List.getElem?_eq_some_iff.1 hr).1], rfl⟩
    · exact ⟨es, by rw [List.getElem?_set_ne (Ne.symm e)]; exact hi, rfl⟩
  new i h1 h2 := by simp at h2; omega
  mov i _ k hk := .inl hk

/-- The entries of a map. -/
def MR (w : World) (I : Nat → Prop) (sh : Sh) (es : List (PV × PV)) (ents : List MapEntry) : Prop :=
  es.length = ents.length ∧ ∀ (k : Nat) (x : PV × PV) (e : MapEntry), es[k]? = some x → ents[k]? = some e → PR w I x.1 e.key ∧ PR w I x.2 e.val ∧ vshp e.val = sh

theorem HR.setMap {b0 r : Nat} {sh : Sh} {old new : List (PV × PV)} (h : HR w X μ hp) (hr : hp[r]? = some (.map sh old)) {w' : World} {b : Nat} (hb : μ r = some b) (E : Ext b0 X μ hp w μ (hp.set r (.map sh new)) w') (hoth : ∀ k, k ≠ b → w'.heap[k]? = w.heap[k]?)
    {ents : Array MapEntry} {clock : Nat} (h1 : w'.heap[b]? = some (.map ents clock)) (h2 : MR w (Im X μ hp) sh new ents.toList) : HR w' X μ (hp.set r (.map sh new)) := by
  have hlen : (hp.set r (.map sh new)).length = hp.length := by simp
  have other : ∀ i k, i < hp.length → i ≠ r → μ i = some k → w'.heap[k]? = w.heap[k]? := fun i k hi hne hk => hoth k fun e => by
    subst e
    exact hne (h.inj i r k hi (List.getElem?_eq_some_iff.1 hr).1 hk hb)
  refine ⟨?_, ?_, ?_, ?_, ?_, ?_⟩
  · intro i j k hi hj; rw [hlen] at hi hj; exact h.inj i j k hi hj
  · intro i k hi hk; rw [hlen] at hi
    exact ⟨(h.out i k hi hk).1, Nat.lt_of_lt_of_le (h.out i k hi hk).2 E.size⟩
  · exact fun k hx => Nat.lt_of_lt_of_le (h.xlt k hx) E.size
  · intro i s u hi
    rcases set_inv hi with ⟨rfl, e⟩ | ⟨hne, hi⟩
    · cases e
    · obtain ⟨k, val, t, k1, k2, k3, k4, k5⟩ := h.box i s u hi
      exact ⟨k, val, t, k1, by rw [other i k (List.getElem?_eq_some_iff.1 hi).1 hne k1]; exact k2, k3, k4, E.ar k5⟩
  · intro i s es fz hi
    rcases set_inv hi with ⟨rfl, e⟩ | ⟨hne, hi⟩
    · cases e
    · obtain ⟨k0, k1⟩ := h.arr i s es fz hi
      refine ⟨k0, ?_⟩
      rcases k1 with k1 | ⟨k, cs, t, vals, k1, k2, k3, k4, k5⟩
      · exact .inl k1
      · exact .inr ⟨k, cs, t, vals, k1, by rw [other i k (List.getElem?_eq_some_iff.1 hi).1 hne k1]; exact k2, k3, fun j p v hj hv => ⟨(k4 j p v hj hv).1, E.pr (k4 j p v hj hv).2⟩, k5⟩
  · intro i s es hi
    rcases set_inv hi with ⟨rfl, e⟩ | ⟨hne, hi⟩
    · cases e
      exact ⟨b, ents, clock, hb, h1, by simpa using h2.1, fun j x y hj hy => by
        obtain ⟨a1, a2, a3⟩ := h2.2 j x y hj (by simpa using hy)
        exact ⟨E.pr a1, E.pr a2, a3⟩⟩
    · obtain ⟨k, ents, clock, k1, k2, k3, k4⟩ := h.map i s es hi
      exact ⟨k, ents, clock, k1, by rw [other i k (List.getElem?_eq_some_iff.1 hi).1 hne k1]; exact k2, k3, fun j x y hj hy => ⟨E.pr (k4 j x y hj hy).1, E.pr (k4 j x y hj hy).2.1, (k4 j x y hj hy).2.2⟩⟩

theorem MR.nil {I : Nat → Prop} {sh : Sh} {ents : List MapEntry} (h : MR w I sh [] ents) : ents = [] := List.eq_nil_of_length_eq_zero (by have := h.1; simp at this; exact this.symm)
theorem MR.inv {I : Nat → Prop} {sh : Sh} {x : PV × PV} {es : List (PV × PV)} {ents : List MapEntry} (h : MR w I sh (x :: es) ents) : ∃ e r, ents = e :: r ∧ PR w I x.1 e.key ∧ PR w I x.2 e.val ∧ vshp e.val = sh ∧ MR w I sh es r := by
  cases ents with
  | nil => have := h.1; simp at this
  | cons e r =>
    obtain ⟨a, b, c⟩ := h.2 0 x e rfl rfl
    exact ⟨e, r, rfl, a, b, c, by have := h.1; simpa using this, fun k y f hy hf => h.2 (k + 1) y f (by simpa using hy) (by simpa using hf)⟩
theorem MR.cons {I : Nat → Prop} {sh : Sh} {x : PV × PV} {e : MapEntry} {es : List (PV × PV)} {ents : List MapEntry} (h1 : PR w I x.1 e.key) (h2 : PR w I x.2 e.val) (h3 : vshp e.val = sh) (h : MR w I sh es ents) : MR w I sh (x :: es) (e :: ents) := by
  refine ⟨by simp [h.1], fun k y f hy hf => ?_⟩
  cases k with
  | zero => simp at hy hf; subst hy; subst hf; exact ⟨h1, h2, h3⟩
  | succ k => exact h.2 k y f (by simpa using hy) (by simpa using hf)

/-- The kind of the keys. -/
def KK (s : Bool) (d : TypeDesc) : Prop := (s = true ∧ d = .string) ∨ (s = false ∧ ∃ k, d = .int k)
theorem keyKind_of {t : TypeId} {s : Bool} (h : keyKind P t = some s) : ∃ d, P.underlying t = some d ∧ KK s d := by
  unfold keyKind at h
  split at h
  · rename_i hd; cases h; exact ⟨_, hd, .inl ⟨rfl, rfl⟩⟩
  · rename_i k hd; cases h; exact ⟨_, hd, .inr ⟨rfl, k, rfl⟩⟩
  · cases h

theorem bits_int (n : Nat) (k : IntKind) (a : Int) : Instr.sameBits n (.int k a) (.int k a) = true := by cases n <;> simp [Instr.sameBits]
theorem bits_str (n : Nat) (a : List UInt8) : Instr.sameBits n (.string ⟨a.toArray⟩) (.string ⟨a.toArray⟩) = true := by
  cases n <;> simp [Instr.sameBits, beq_toListBytes]
theorem same_sound {I : Nat → Prop} {s : Bool} {d : TypeDesc} {k k' : PV} {v v' : Value} {b : Bool} (hd : KK s d) (h : PV.same s k k' = some b) (h1 : PR w I k v) (h2 : PR w I k' v') : Instr.sameNow d v v' = some b ∧ (b = true → v = v') ∧ Instr.sameBits 10000 v v = true := by
  unfold PV.same at h
  split at h
  · split at h
    · rename_i hk
      cases h
      subst hk
      rcases hd with ⟨hd, _⟩ | ⟨_, q, rfl⟩
      · cases hd
      · rw [h1.int_inv, h2.int_inv]
        refine ⟨?_, fun e => by simp at e; rw [e], bits_int _ _ _⟩
        simp only [Instr.sameNow, if_true, Option.some.injEq]
        rfl
    · cases h
  · cases h
    rcases hd with ⟨_, rfl⟩ | ⟨hd, _⟩
    · rw [h1.str_inv, h2.str_inv]
      refine ⟨?_, fun e => by simp at e; rw [e], bits_str _ _⟩
      simp only [Instr.sameNow, Option.some.injEq]
      rw [beq_toListBytes, ByteArray.toList_mk, ByteArray.toList_mk, list_beq]
    · cases hd
  · cases h

theorem find_sound {I : Nat → Prop} {s : Bool} {d : TypeDesc} {sh : Sh} {k : PV} {kv : Value} (hd : KK s d) (hk : PR w I k kv) : ∀ (es : List (PV × PV)) (ents : List MapEntry) (i : Nat) (r : Option PV), afind s k es = some r → MR w I sh es ents →
    ∃ q, Instr.findNow d kv ents i = some q ∧ match r with | none => q = none | some p => ∃ j v, q = some (j, v) ∧ PR w I p v ∧ vshp v = sh
  | [], ents, i, r, h, hm => by
    cases h
    rw [hm.nil]
    exact ⟨none, rfl, rfl⟩
  | (k', v') :: es, ents, i, r, h, hm => by
    obtain ⟨e, rest, rfl, g1, g2, g3, g4⟩ := hm.inv
    simp only [afind] at h
    split at h
    · cases h
    · rename_i hs
      cases h
      obtain ⟨n1, n2⟩ := same_sound hd hs hk g1
      exact ⟨some (i, e.val), by simp [Instr.findNow, n1], i, e.val, rfl, g2, g3⟩
    · rename_i hs
      obtain ⟨n1, n2⟩ := same_sound hd hs hk g1
      obtain ⟨q, q1, q2⟩ := find_sound hd hk es rest (i + 1) r h g4
      exact ⟨q, by simp [Instr.findNow, n1, q1], q2⟩

theorem put_sound {I : Nat → Prop} {s : Bool} {d : TypeDesc} {sh : Sh} {k p : PV} {kv pv : Value} (hd : KK s d) (hk : PR w I k kv) (hp : PR w I p pv) (hs : vshp pv = sh) : ∀ (es : List (PV × PV)) (ents : List MapEntry) (i : Nat) (es' : List (PV × PV)), aput s k p es = some es' → MR w I sh es ents →
    (Instr.findNow d kv ents i = some none ∧ ∀ b, MR w I sh es' (ents ++ [{ key := kv, val := pv, born := b }])) ∨
    (∃ j e v, Instr.findNow d kv ents i = some (some (i + j, v)) ∧ ents[j]? = some e ∧ e.key = kv ∧ Instr.sameBits 10000 kv kv = true ∧ MR w I sh es' (ents.modify j fun e => { e with key := kv, val := pv }))
  | [], ents, i, es', h, hm => by
    cases h
    rw [hm.nil]
    exact .inl ⟨rfl, fun b => MR.cons hk hp hs ⟨rfl, by simp⟩⟩
  | (k', v') :: es, ents, i, es', h, hm => by
    obtain ⟨e, rest, rfl, g1, g2, g3, g4⟩ := hm.inv
    simp only [aput] at h
    split at h
    · cases h
    · rename_i hsm
      cases h
      obtain ⟨n1, n2⟩ := same_sound hd hsm hk g1
      refine .inr ⟨0, e, e.val, by simp [Instr.findNow, n1], rfl, (n2.1 rfl).symm, n2.2, ?_⟩
      exact MR.cons hk hp hs g4
    · rename_i hsm
      obtain ⟨n1, n2⟩ := same_sound hd hsm hk g1
      split at h
      · rename_i l hl
        cases h
        rcases put_sound hd hk hp hs es rest (i + 1) l hl g4 with ⟨a1, a2⟩ | ⟨j, f, v, a1, a2, a3, a5, a4⟩
        · exact .inl ⟨by simp [Instr.findNow, n1, a1], fun b => MR.cons g1 g2 g3 (a2 b)⟩
        · refine .inr ⟨j + 1, f, v, by simp [Instr.findNow, n1, a1]; omega, a2, a3, a5, ?_⟩
          exact MR.cons g1 g2 g3 a4
      · cases h

theorem run_checkKey_at {s : Bool} {d : TypeDesc} {t : TypeId} (e : Bool) (ht : P.underlying t = some d) (hd : KK s d) (v : Value) (n : Nat) : (Instr.checkKey e (n + 1) t v).run P w = .ok () w := by
  rcases hd with ⟨_, rfl⟩ | ⟨_, k, rfl⟩ <;> simp [Instr.checkKey, run_underlying ht]
theorem run_checkKey_plain {s : Bool} {d : TypeDesc} {t : TypeId} (e : Bool) (ht : P.underlying t = some d) (hd : KK s d) (v : Value) : (Instr.checkKey e 10000 t v).run P w = .ok () w := run_checkKey_at e ht hd v 9999
theorem run_getMap {r : Nat} {es : Array MapEntry} {clock : Nat} (hb : w.heap[r]? = some (.map es clock)) : (getObj r).run P w = .ok (.map es clock) w := by simp [getObj, Sem.run, hb]
theorem run_setMap {r : Nat} {es : Array MapEntry} {clock : Nat} (o : Obj) (hb : w.heap[r]? = some (.map es clock)) : (setObj r o).run P w = .ok () { w with heap := w.heap.setIfInBounds r o } := by simp [setObj, Sem.run, hb]

theorem lookup_sound {t tk te : TypeId} {s : Bool} {x k : Value} {z : AV} {ok : Bool} {vs : List AV} {v : AV} (ht : P.underlying t = some (.map tk te)) (hk : keyKind P tk = some s) (hz : zeroOf P te = some z) (hH : HR w X μ hp) (hl : LR w X μ hp vs [x, k])
    (h : rLookup s (shOf P te) z ok hp vs = some v) : Yld P w X μ hp (do pure (.value (← Instr.lookup t x k ok))) v := by
  obtain ⟨d, hd, hKK⟩ := keyKind_of hk
  obtain ⟨zv, z1, z2, z3⟩ := zeroOf_run (w := w) (X := X) (μ := μ) (hp := hp) hz
  unfold rLookup at h
  split at h
  · rename_i r s0 kp
    obtain ⟨a, b, e, h1, h2⟩ := hl.two
    cases e
    cases h1 with | map _ b0 sh0 es0 ho0 hb0 =>
    cases h2 with | pv _ _ _ _ h2 =>
    split at h
    · rename_i sh es hr
      split at h
      · rename_i hsh
        subst hsh
        obtain ⟨b1, ents, clock, m1, m2, m3, m4⟩ := hH.map r _ _ hr
        rw [hb0] at m1
        cases m1
        have hM : MR w (Im X μ hp) (shOf P te) es ents.toList := ⟨by simpa using m3, fun k x e hx he => m4 k x e hx (by simpa using he)⟩
        split at h
        · rename_i p hf
          cases h
          obtain ⟨q, q1, j, v, rfl, q3, q4⟩ := find_sound hKK h2 es ents.toList 0 _ hf hM
          have hrun : (Instr.lookup t (.map (some b0)) k ok).run P w = .ok (if ok = true then .tuple #[v, .bool true] else v) w := by
            simp [Instr.lookup, run_underlying ht, run_getMap m2, run_checkKey_plain _ hd hKK, Instr.findKey, run_underlying hd, q1]
          cases ok
          · exact yld_of hrun (.pv _ _ _ q4 q3)
          · exact yld_of hrun (.tuple _ [v, .bool true] rfl (fun i a u ha hu => by
              match i, ha, hu with
              | 0, ha, hu => simp at ha hu; subst ha; subst hu; exact .pv _ _ _ q4 q3
              | 1, ha, hu => simp at ha hu; subst ha; subst hu; exact .mkBool _))
        · rename_i hf
          cases h
          obtain ⟨q, q1, rfl⟩ := find_sound hKK h2 es ents.toList 0 _ hf hM
          have hrun : (Instr.lookup t (.map (some b0)) k ok).run P w = .ok (if ok = true then .tuple #[zv, .bool false] else zv) w := by
            simp [Instr.lookup, run_underlying ht, run_getMap m2, run_checkKey_plain _ hd hKK, Instr.findKey, run_underlying hd, q1, z1]
          cases ok
          · exact yld_of hrun z2
          · exact yld_of hrun (.tuple _ [zv, .bool false] rfl (fun i a u ha hu => by
              match i, ha, hu with
              | 0, ha, hu => simp at ha hu; subst ha; subst hu; exact z2
              | 1, ha, hu => simp at ha hu; subst ha; subst hu; exact .mkBool _))
        · cases h
      · cases h
    · cases h
  · cases h

theorem mapset_sound {b : Nat} {t tk te : TypeId} {s : Bool} {x k y : Value} {vs : List AV} {v : AV} {hp' : Heap} (ht : P.underlying t = some (.map tk te)) (hk : keyKind P tk = some s) (hH : HR w X μ hp) (hl : LR w X μ hp vs [x, k, y])
    (h : wMapset s (shOf P te) hp vs = some (v, hp')) : Out P b w X μ hp (do Instr.mapUpdate t x k y; pure .skip) v hp' := by
  obtain ⟨d, hd, hKK⟩ := keyKind_of hk
  unfold wMapset at h
  split at h
  · rename_i r s0 kp a
    obtain ⟨u1, u2, u3, e, h1, h2, h3⟩ := hl.three
    cases e
    split at h
    · rename_i hs
      split at h
      · cases h
      · rename_i p hp1 hfz
        obtain ⟨e1, hH1, h3p⟩ := freeze_sound b w X μ _ _ _ _ _ _ hfz hH h3
        have hy : vshp y = shOf P te := by rw [h3.vshp (freeze_plain hfz), hs]
        have h1' := e1.ar h1
        cases h1' with | map _ b0 sh0 es0 ho0 hb0 =>
        have h2' := e1.ar h2
        cases h2' with | pv _ _ _ _ h2' =>
        split at h
        · rename_i sh es hr
          split at h
          · rename_i hsh
            subst hsh
            split at h
            · rename_i es' hput
              cases h
              obtain ⟨b1, ents, clock, m1, m2, m3, m4⟩ := hH1.map r _ _ hr
              rw [hb0] at m1
              cases m1
              have hM : MR w (Im X μ hp1) (shOf P te) es ents.toList := ⟨by simpa using m3, fun k x e hx he => m4 k x e hx (by simpa using he)⟩
              have fin : ∀ (ents' : Array MapEntry) (clock' : Nat), MR w (Im X μ hp1) (shOf P te) es' ents'.toList → (Instr.mapUpdate t (.map (some b0)) k y).run P w = .ok () { w with heap := w.heap.setIfInBounds b0 (.map ents' clock') } →
                  Out P b w X μ hp (do Instr.mapUpdate t (.map (some b0)) k y; pure .skip) .undef (hp1.set r (.map (shOf P te) es')) := by
                intro ents' clock' hM' hrun
                have oth : ∀ k, k ≠ b0 → (w.heap.setIfInBounds b0 (.map ents' clock'))[k]? = w.heap[k]? := fun k hk => by rw [Array.getElem?_setIfInBounds_ne (Ne.symm hk)]
                have E : ∀ b, Ext b X μ hp1 w μ (hp1.set r (.map (shOf P te) es')) { w with heap := w.heap.setIfInBounds b0 (.map ents' clock') } := fun b =>
                  Ext.setMap hr hb0 rfl rfl rfl (by simp) oth (fun cs t fr e => by rw [m2] at e; cases e)
                exact skip_out hrun (hH1.setMap hr hb0 (E 0) oth (by rw [Array.getElem?_setIfInBounds_self_of_lt (heap_lt m2)]) hM') (e1.trans (E b))
              rcases put_sound hKK h2' h3p hy es ents.toList 0 es' hput hM with ⟨a1, a2⟩ | ⟨j, f, v, a1, a2, a3, a5, a4⟩
              · refine fin (ents.push { key := k, val := y, born := clock }) (clock + 1) (by simpa using a2 clock) ?_
                simp [Instr.mapUpdate, run_underlying ht, run_getMap m2, run_checkKey_plain _ hd hKK, Instr.findKey, run_underlying hd, a1, run_setMap _ m2]
              · rw [Nat.zero_add] at a1
                refine fin (ents.modify j fun e => { e with key := k, val := y }) clock (by simpa using a4) ?_
                have hkeep : ∀ w : World, (Instr.keyThatStays k k).run P w = .ok k w := by
                  intro w
                  simp [Instr.keyThatStays, a5]
                have hj : ents[j]? = some f := by simpa using a2
                simp [Instr.mapUpdate, run_underlying ht, run_getMap m2, run_checkKey_plain _ hd hKK, Instr.findKey, run_underlying hd, a1, run_setMap _ m2, hj, a3, hkeep]
            · cases h
          · cases h
        · cases h
    · cases h
  · cases h

theorem LR.inv1 {x : Value} {vs : List AV} (h : LR w X μ hp vs [x]) : ∃ a, vs = [a] ∧ AR w X μ hp a x := by
  cases h with | cons h r => cases r; exact ⟨_, rfl, h⟩
theorem LR.inv2 {x y : Value} {vs : List AV} (h : LR w X μ hp vs [x, y]) : ∃ a b, vs = [a, b] ∧ AR w X μ hp a x ∧ AR w X μ hp b y := by
  cases h with | cons h r => obtain ⟨u, rfl, h2⟩ := r.inv1; exact ⟨_, _, rfl, h, h2⟩
theorem LR.inv3 {x y z : Value} {vs : List AV} (h : LR w X μ hp vs [x, y, z]) : ∃ a b c, vs = [a, b, c] ∧ AR w X μ hp a x ∧ AR w X μ hp b y ∧ AR w X μ hp c z := by
  cases h with | cons h r => obtain ⟨u, v, rfl, h2, h3⟩ := r.inv2; exact ⟨_, _, _, rfl, h, h2, h3⟩

theorem sslice_run {t : TypeId} (ht : P.underlying t = some .string) (s : List UInt8) (lo hi : Option Value) (l h : Nat) (hlo : lo = none ∧ l = 0 ∨ ∃ k, lo = some (.int k l)) (hhi : hi = none ∧ h = s.length ∨ ∃ k, hi = some (.int k h)) (h1 : l ≤ h) (h2 : h ≤ s.length) :
    (Instr.sliceAt t (.string ⟨s.toArray⟩) lo hi none).run P w = .ok (.string ⟨((s.drop l).take (h - l)).toArray⟩) w := by
  have hsz : (ByteArray.mk s.toArray).size = s.length := by simp [ByteArray.size]
  have hex : (ByteArray.mk s.toArray).extract l h = ByteArray.mk ((s.drop l).take (h - l)).toArray := by
    apply ByteArray.ext
    simp [List.extract_eq_take_drop]
  rcases hlo with ⟨rfl, rfl⟩ | ⟨k, rfl⟩ <;> rcases hhi with ⟨rfl, rfl⟩ | ⟨k', rfl⟩ <;>
    simp [Instr.sliceAt, Instr.slice, run_underlying ht, Instr.sliceBounds, Instr.sliceBound, asIntOf, *]

theorem sslice_ft {a b v : AV} (h : sSslice false true [a, b] = some v) : ∃ s1 s s2 k n, a = .pv s1 (.str s) ∧ b = .pv s2 (.int k n) ∧ (0 ≤ n ∧ n ≤ s.length) ∧ v = .pv none (.str (s.take n.toNat)) := by
  unfold sSslice at h
  split at h <;> simp_all
  exact ⟨_, _, ⟨rfl, rfl⟩, _, _, _, ⟨rfl, rfl, rfl⟩, h.1, h.2.symm⟩
theorem sslice_tf {a b v : AV} (h : sSslice true false [a, b] = some v) : ∃ s1 s s2 k n, a = .pv s1 (.str s) ∧ b = .pv s2 (.int k n) ∧ (0 ≤ n ∧ n ≤ s.length) ∧ v = .pv none (.str (s.drop n.toNat)) := by
  unfold sSslice at h
  split at h <;> simp_all
  exact ⟨_, _, ⟨rfl, rfl⟩, _, _, _, ⟨rfl, rfl, rfl⟩, h.1, h.2.symm⟩
theorem sslice_tt {a b c v : AV} (h : sSslice true true [a, b, c] = some v) : ∃ s1 s s2 k n s3 k' m, a = .pv s1 (.str s) ∧ b = .pv s2 (.int k n) ∧ c = .pv s3 (.int k' m) ∧ (0 ≤ n ∧ n ≤ m ∧ m ≤ s.length) ∧ v = .pv none (.str ((s.drop n.toNat).take (m.toNat - n.toNat))) := by
  unfold sSslice at h
  split at h <;> simp_all
  exact ⟨_, _, ⟨rfl, rfl⟩, _, _, _, ⟨rfl, rfl, rfl⟩, _, _, _, ⟨rfl, rfl, rfl⟩, h.1, h.2.symm⟩

theorem sslice_sound {t : TypeId} {x : Value} {lo hi : Option Value} {rest : List Value} {vs : List AV} {v : AV} (ht : P.underlying t = some .string) (hr : rest = lo.toList ++ hi.toList) (hl : LR w X μ hp vs (x :: rest)) (h : sSslice lo.isSome hi.isSome vs = some v) :
    Yld P w X μ hp (do pure (.value (← Instr.sliceAt t x lo hi none))) v := by
  subst hr
  cases lo with
  | none => cases hi with
    | none => simp [sSslice] at h
    | some y =>
      obtain ⟨a, b, rfl, h1, h2⟩ := hl.inv2
      obtain ⟨_, s, _, k, n, rfl, rfl, hb, rfl⟩ := sslice_ft h
      rw [h1.str_inv, h2.int_inv]
      have := sslice_run (P := P) (w := w) ht s none (some (.int k n)) 0 n.toNat (.inl ⟨rfl, rfl⟩) (.inr ⟨k, by rw [Int.toNat_of_nonneg hb.1]⟩) (by omega) (by omega)
      simp only [List.drop_zero, Nat.sub_zero] at this
      exact yld_of this (.mkStr _)
  | some z => cases hi with
    | none =>
      obtain ⟨a, b, rfl, h1, h2⟩ := hl.inv2
      obtain ⟨_, s, _, k, n, rfl, rfl, hb, rfl⟩ := sslice_tf h
      rw [h1.str_inv, h2.int_inv]
      have := sslice_run (P := P) (w := w) ht s (some (.int k n)) none n.toNat s.length (.inr ⟨k, by rw [Int.toNat_of_nonneg hb.1]⟩) (.inl ⟨rfl, rfl⟩) (by omega) (by omega)
      rw [List.take_of_length_le (by simp)] at this
      exact yld_of this (.mkStr _)
    | some y =>
      obtain ⟨a, b, c, rfl, h1, h2, h3⟩ := hl.inv3
      obtain ⟨_, s, _, k, n, _, k', m, rfl, rfl, rfl, hb, rfl⟩ := sslice_tt h
      rw [h1.str_inv, h2.int_inv, h3.int_inv]
      have := sslice_run (P := P) (w := w) ht s (some (.int k n)) (some (.int k' m)) n.toNat m.toNat (.inr ⟨k, by rw [Int.toNat_of_nonneg hb.1]⟩) (.inr ⟨k', by rw [Int.toNat_of_nonneg (by omega)]⟩) (by omega) (by omega)
      exact yld_of this (.mkStr _)

theorem assert_sound {t xt : TypeId} {d : TypeDesc} {z : AV} {ok : Bool} {x : Value} {vs : List AV} {v : AV} (ht : P.underlying t = some d) (hd : ∀ ms, d ≠ .interface ms) (hz : zeroOf P t = some z) (hl : LR w X μ hp vs [x])
    (h : sAssert t (shOf P t) z ok vs = some v) : Yld P w X μ hp (do pure (.value (← Instr.typeAssert x xt t ok))) v := by
  obtain ⟨zv, z1, z2, z3⟩ := zeroOf_run (w := w) (X := X) (μ := μ) (hp := hp) hz
  have pair : ∀ {a : AV} {u : Value} (b : Bool), AR w X μ hp a u → AR w X μ hp (.tuple [a, .pv none (.bool b)]) (.tuple #[u, .bool b]) := fun {a u} b ha =>
    .tuple _ [u, .bool b] rfl (fun i c q hc hq => by
      match i, hc, hq with
      | 0, hc, hq => simp at hc hq; subst hc; subst hq; exact ha
      | 1, hc, hq => simp at hc hq; subst hc; subst hq; exact .mkBool _)
  unfold sAssert at h
  split at h
  · rename_i s0 u s p
    obtain ⟨y, e, h1⟩ := hl.one
    cases e
    cases h1 with | pv _ _ _ hs h1 =>
    cases h1 with | iface _ _ _ vv hs1 h2 =>
    split at h
    · rename_i hu
      obtain ⟨rfl, rfl⟩ := hu
      cases h
      have hrun : (Instr.typeAssert (.iface u vv) xt u ok).run P w = .ok (if ok = true then .tuple #[vv, .bool true] else vv) w := by
        cases d <;> first | (exact absurd rfl (hd _)) | (simp [Instr.typeAssert, run_underlying ht])
      cases ok
      · exact yld_of hrun (.pv _ _ _ hs1 h2)
      · exact yld_of hrun (pair true (.pv _ _ _ hs1 h2))
    · split at h
      · cases h
      · rename_i hne
        cases ok
        · cases h
        · cases h
          have hrun : (Instr.typeAssert (.iface u vv) xt t true).run P w = .ok (.tuple #[zv, .bool false]) w := by
            cases d <;> first | (exact absurd rfl (hd _)) | (simp [Instr.typeAssert, run_underlying ht, hne, z1])
          exact yld_of hrun (pair false z2)
  · obtain ⟨y, e, h1⟩ := hl.one
    cases e
    cases h1 with | pv _ _ _ hs h1 =>
    cases h1
    cases ok
    · cases h
    · cases h
      have hrun : (Instr.typeAssert .nilIface xt t true).run P w = .ok (.tuple #[zv, .bool false]) w := by
        cases d <;> first | (exact absurd rfl (hd _)) | (simp [Instr.typeAssert, run_underlying ht, z1])
      exact yld_of hrun (pair false z2)
  · cases h

theorem cells_replicate (n : Nat) (z : Value) : cellsOf (List.replicate n z) = (List.replicate n z.cells.toList).flatten := by
  induction n with
  | zero => rfl
  | succ n ih => simp [List.replicate_succ, cellsOf_cons, ih]

theorem made_flatten (zc : Array Value) : ∀ n : Nat, (madeCells zc (n * zc.size)).toList = (List.replicate n zc.toList).flatten
  | 0 => by simp [madeCells]
  | n + 1 => by
    rw [List.replicate_succ', List.flatten_append, ← made_flatten zc n]
    apply List.ext_getElem?
    intro i
    have hs : (madeCells zc (n * zc.size)).toList.length = n * zc.size := by simp [madeCells]
    have e : (n + 1) * zc.size = n * zc.size + zc.size := Nat.succ_mul _ _
    by_cases h : i < n * zc.size
    · rw [List.getElem?_append_left (by omega)]
      simp [madeCells, h, show i < (n + 1) * zc.size by omega]
    · rw [List.getElem?_append_right (by omega), hs]
      by_cases h2 : i < (n + 1) * zc.size
      · have hm : i % zc.size = i - n * zc.size := by
          have : i = (i - n * zc.size) + n * zc.size := by omega
          conv => lhs; rw [this]
          rw [Nat.add_mul_mod_self_right, Nat.mod_eq_of_lt (by omega)]
        have hlt : i - n * zc.size < zc.size := by omega
        simp [madeCells, h2, hm, hlt, getElem!_pos]
      · have hge : ¬ i - n * zc.size < zc.size := by omega
        simp [madeCells, h2]
        omega

theorem cellsOf_replicate (z : Value) (n : Nat) : cellsOf (List.replicate n z) = (List.replicate n z.cells.toList).flatten := by
  induction n with
  | zero => rfl
  | succ n ih => rw [List.replicate_succ, cellsOf_cons, ih, List.replicate_succ, List.flatten_cons]

theorem made_take {z : Value} {n c : Nat} (h : n ≤ c) : (madeCells z.cells (c * z.cells.size)).toList.take (n * z.cells.size) = cellsOf (List.replicate n z) := by
  rw [made_flatten, cellsOf_replicate]
  have e : c = n + (c - n) := by omega
  rw [e, ← List.replicate_append_replicate, List.flatten_append, List.take_left']
  simp [List.length_flatten]

theorem mkslice_sound {b : Nat} {t e : TypeId} {z : PV} {x y : Value} {vs : List AV} {v : AV} {hp' : Heap} (ht : P.underlying t = some (.slice e)) (hok : okT P e = true) (hzo : zeroOk P e = true) (hby : bytesOk P e = true) (hz : (zeroOf P e).bind pvOf = some z)
    (hH : HR w X μ hp) (hl : LR w X μ hp vs [x, y]) (h : wMkslice (shOf P e) z hp vs = some (v, hp')) : Out P b w X μ hp (do pure (.value (← Instr.makeSlice t x y))) v hp' := by
  unfold wMkslice at h
  split at h
  · rename_i s1 k1 n s2 k2 c
    obtain ⟨u1, u2, eq, h1, h2⟩ := hl.two
    cases eq
    split at h
    · rename_i hb
      obtain ⟨hb0, hb1, hb2, hb3⟩ := hb
      cases h
      rw [h1.int_inv, h2.int_inv]
      cases hza : zeroOf P e with
      | none => rw [hza] at hz; cases hz
      | some za =>
      rw [hza] at hz
      obtain ⟨i, zv, hi, hiz, hsz, hzs⟩ := okE w hok hzo
      obtain ⟨zv', z1, z2, z3⟩ := zeroOf_run (w := w) (X := X) (μ := μ) (hp := hp) hza
      have hzz : zv' = zv := by
        simp only [zeroValue, typeInfo] at z1
        simp [hi, hiz] at z1
        exact z1.symm
      subst hzz
      have hzpr : PR w (Im X μ hp) z zv' := weaken_sound w X μ hp _ _ _ _ hz z2
      have hzsh : vshp zv' = shOf P e := by
        have := z2.vshp z3
        unfold zeroOk at hzo
        rw [hza] at hzo
        rw [this]
        simpa using hzo
      unfold bytesOk at hby
      rw [hi] at hby
      have hby' : i.bytes ≤ 1024 := by simpa using hby
      have hrun := run_make (P := P) w t e i zv' ht hi hiz k1 k2 n c hb0 hb1 (by
        unfold lim at hb2
        have : (i.bytes : Int) * c ≤ 1024 * 1073741824 := Int.mul_le_mul (by omega) (by omega) (by omega) (by omega)
        omega) (by unfold lim at hb2; omega)
      rw [hsz, ← hzs] at hrun
      generalize hcells : madeCells zv'.cells (c.toNat * zv'.cells.size) = cells at hrun
      have hcsz : cells.size = c.toNat * (shOf P e).size := by rw [← hcells, size_madeCells, hzs]
      have E : ∀ b, Ext b X μ hp w (upd μ hp.length (some w.heap.size)) (hp ++ [.arr (shOf P e) (List.replicate n.toNat z) false]) (w.alloc (.cells cells e)) := fun b => Ext.push _ _ (Ext.alloc b _) (fun k hk => by cases hk; exact Nat.le_refl _)
      refine ⟨.value (.slice (some ⟨w.heap.size, 0, none⟩) n.toNat c.toNat), _, _, upd μ hp.length (some w.heap.size), by simp only [Sem.run_bind, hrun, Result.andThen_ok, Sem.run_pure], .inl rfl, ?_, ?_, E b⟩
      · refine .sl _ _ _ _ _ _ _ (List.replicate n.toNat z) false push_new (by simp) (by omega) (fun _ => rfl) fun _ => ⟨by simp, .inr ⟨w.heap.size, cells, e, upd_same _ _ _, alloc_new w _, by rw [hcsz, Nat.zero_add], fun _ => by simp⟩⟩
      · refine hH.push _ _ (Ext.alloc 0 _) (fun i k hi hk => alloc_old w _ (hH.out i k hi hk).2) (fun k hk => by cases hk; exact ⟨Nat.le_refl _, by simp⟩) (fun _ _ h => by cases h) (fun s es fz h => ?_) (fun _ _ h => by cases h)
        cases h
        refine ⟨hb3, .inr ⟨w.heap.size, cells, e, List.replicate n.toNat zv', rfl, alloc_new w _, by simp, fun k p u hp hu => ?_, ?_⟩⟩
        · rw [List.getElem?_replicate] at hp hu
          split at hp
          · rename_i hk
            rw [if_pos hk] at hu
            cases hp; cases hu
            exact ⟨hzsh, (E 0).pr hzpr⟩
          · cases hp
        · rw [List.length_replicate, ← hcells, ← hzs, made_take (by omega)]
    · cases h
  · cases h
end Go.Am

/- Slices written out; clear; what a row of stores does. -/
namespace Go.Am
variable {P : Program} {w : World} {X : Nat → Prop} {μ : Nat → Option Nat} {hp : Heap}

/-- An array of the run's own has a new row in its block. -/
theorem row_arr {r b : Nat} {sh : Sh} {es es' : List PV} {cs cs' : Array Value} {t : TypeId} {vals' : List Value} (hH : HR w X μ hp) (hr : hp[r]? = some (.arr sh es false)) (hb : μ r = some b) (hw : w.heap[b]? = some (.cells cs t (0, 0))) (hsz : cs'.size = cs.size)
    (hlen : es'.length = es.length) (hE : ER w (Im X μ hp) sh es' vals') (hc : cellsOf vals' = cs'.toList.take (es'.length * sh.size)) :
    HR (w.setRow b cs') X μ (hp.set r (.arr sh es' false)) ∧ ∀ b0, Ext b0 X μ hp w μ (hp.set r (.arr sh es' false)) (w.setRow b cs') := by
  have E : ∀ b0, Ext b0 X μ hp w (upd μ r (μ r)) (hp.set r (.arr sh es' false)) (w.setRow b cs') := fun b0 =>
    Ext.setArr hr (by omega) (fun h => by cases h) (fun _ => rfl) (fun k hk => .inl hk) rfl rfl rfl (by simp [World.setRow]) (fun k hk hm => setRow_other w b k _ (fun e => hm rfl (by rw [e]; exact hb))) (fun k cs0 t'' fr hk => by
      by_cases e : k = b
      · subst e
        rw [hw] at hk
        cases hk
        exact ⟨_, setRow_heap w k _ _ t _ hw, hsz⟩
      · exact ⟨cs0, by rw [setRow_other w b k _ e]; exact hk, rfl⟩)
  have H : HR (w.setRow b cs') X (upd μ r (μ r)) (hp.set r (.arr sh es' false)) :=
    hH.setArr hr (E 0) (fun k hk hne => setRow_other w b k _ (fun e => hne (by rw [e]; exact hb))) (fun k hk => ⟨.inl hk, by rw [hb] at hk; cases hk; simpa [World.setRow] using heap_lt hw⟩) (.inr ⟨b, _, t, vals', hb, setRow_heap w b _ _ t _ hw, hE.1, fun k q v hq hv => ⟨(hE.2 k q v hq hv).1, (E 0).pr (hE.2 k q v hq hv).2⟩, hc⟩)
  rw [upd_self] at H
  refine ⟨H, fun b0 => ?_⟩
  have := E b0
  rw [upd_self] at this
  exact this

theorem bslice_sound {b n : Nat} {t e : TypeId} {parts : Array (Nat × Operand)} {ρ : Operand → Value} {vs : List AV} {v : AV} {hp' : Heap} (ht : P.underlying t = some (.slice e)) (hok : okT P e = true) (hz : zeroOk P e = true) (hr : parts.toList.map (·.1) = List.range n) (hn : n * P.cellsOf e ≤ 65536)
    (hH : HR w X μ hp) (hl : LR w X μ hp vs ((parts.toList.map (·.2)).map ρ)) (h : wBslice (shOf P e) hp vs = some (v, hp')) : Out P b w X μ hp (do pure (.value (← Instr.buildSlice t n (parts.map fun (x : Nat × Operand) => (x.1, ρ x.2))))) v hp' := by
  unfold wBslice at h
  split at h
  · rename_i ps hp1 hf
    split at h
    · rename_i es hs
      cases h
      obtain ⟨e1, h1, h2⟩ := freezeAll_sound b _ _ _ _ _ hf hH hl
      have hE := ofShape_sound hs h2
      obtain ⟨r1, r2⟩ := bslice_run ht hok hz hr hn hE
      obtain ⟨o1, o2, o3⟩ := bslice_out (b := b) (t := e) h1 hE r2
      exact ⟨_, _, _, μ, by simp only [Sem.run_bind, r1, Result.andThen_ok, Sem.run_pure], .inl rfl, o1, o2, e1.trans o3⟩
    · cases h
  · cases h

theorem bslicep_sound {b n : Nat} {t e : TypeId} {parts : Array (Nat × Operand)} {ρ : Operand → Value} {vs : List AV} {v : AV} (ht : P.underlying t = some (.slice e)) (hok : okT P e = true) (hz : zeroOk P e = true) (hr : parts.toList.map (·.1) = List.range n) (hn : n * P.cellsOf e ≤ 65536)
    (hH : HR w X μ hp) (hl : LR w X μ hp vs ((parts.toList.map (·.2)).map ρ)) (h : sBslicep (shOf P e) vs = some v) : Out P b w X μ hp (do pure (.value (← Instr.buildSlice t n (parts.map fun (x : Nat × Operand) => (x.1, ρ x.2))))) v hp := by
  unfold sBslicep at h
  split at h
  · rename_i ps hf
    split at h
    · rename_i es hs
      cases h
      have hE := ofShape_sound hs (weakenAll_sound _ _ _ hf hl)
      obtain ⟨r1, r2⟩ := bslice_run ht hok hz hr hn hE
      obtain ⟨o1, o2, o3⟩ := bslice_out (b := b) (t := e) hH hE r2
      exact ⟨_, _, _, μ, by simp only [Sem.run_bind, r1, Result.andThen_ok, Sem.run_pure], .inl rfl, o1, o2, o3⟩
    · cases h
  · cases h

theorem zeroCells_flat (z : Value) (n : Nat) : (Builtin.zeroCells z.cells n).toList = cellsOf (List.replicate n z) := by
  rw [cellsOf_replicate]
  exact made_flatten z.cells n

theorem clear_sound {b : Nat} {t ty e : TypeId} {z : PV} {x : Value} {vs : List AV} {v : AV} {hp' : Heap} (ht : P.underlying t = some (.slice e)) (hok : okT P e = true) (hzo : zeroOk P e = true) (hz : (zeroOf P e).bind pvOf = some z)
    (hH : HR w X μ hp) (hl : LR w X μ hp vs [x]) (h : wClear (shOf P e) z hp vs = some (v, hp')) : Out P b w X μ hp (do pure (.value (← Builtin.clear_ #[t] ty #[x]))) v hp' := by
  unfold wClear at h
  split at h
  · rename_i s0 r ver off len
    obtain ⟨y, eq, h1⟩ := hl.one
    cases eq
    cases h1 with | sl _ _ _ _ _ a cap es1 fz1 ho hv hlc ha hc =>
    split at h
    · rename_i s es hr
      rw [hr] at ho
      cases ho
      split at h
      · rename_i hcond
        obtain ⟨rfl, hver, hle⟩ := hcond
        cases h
        obtain ⟨c1, c2⟩ := hc hver
        by_cases h0 : len = 0
        · subst h0
          have hes : es1.take off ++ List.replicate 0 z ++ es1.drop (off + 0) = es1 := by simp
          have hhp : hp.set r (.arr (shOf P e) es1 false) = hp := by
            apply List.ext_getElem?
            intro k
            by_cases e0 : k = r
            · subst e0; rw [List.getElem?_set_self (List.getElem?_eq_some_iff.1 hr).1, hr]
            · rw [List.getElem?_set_ne (Ne.symm e0)]
          rw [hes]
          have hrun : (Builtin.clear_ #[t] ty #[.slice a 0 cap]).run P w = .ok (.tuple #[]) w := by
            cases a <;> simp [Builtin.clear_, run_underlying ht]
          refine ⟨.value (.tuple #[]), _, w, μ, by simp only [Sem.run_bind, hrun, Result.andThen_ok, Sem.run_pure], .inl rfl, .undef _ (fun b h => by cases h), ?_, ?_⟩
          · rw [hhp]; exact hH
          · rw [hhp]; exact Ext.refl _ _ _ _ _
        · rcases c2 with ⟨c2, c3⟩ | ⟨b', cs, t', m1, m2, m3, m4⟩
          · omega
          have hcap : cap ≠ 0 := by omega
          have := m4 hcap
          subst this
          rcases (hH.arr r _ es1 false hr).2 with ⟨g1, g2⟩ | ⟨b2, cs2, t2, vals, g1, g2, g3, g4, g5⟩
          · rw [m1] at g1; cases g1
          rw [m1] at g1
          cases g1
          rw [m2] at g2
          cases g2
          cases hza : zeroOf P e with
          | none => rw [hza] at hz; cases hz
          | some za =>
          rw [hza] at hz
          obtain ⟨zv, z1, z2, z3⟩ := zeroOf_run (w := w) (X := X) (μ := μ) (hp := hp) hza
          have hzpr : PR w (Im X μ hp) z zv := weaken_sound w X μ hp _ _ _ _ hz z2
          have hzsh : vshp zv = shOf P e := by
            have := z2.vshp z3
            unfold zeroOk at hzo
            rw [hza] at hzo
            rw [this]
            simpa using hzo
          obtain ⟨i, zv', hi, hiz, hsz, hzs⟩ := okE w hok hzo
          have hzz : zv = zv' := by
            simp only [zeroValue, typeInfo] at z1
            simp [hi, hiz] at z1
            exact z1.symm
          subst hzz
          have hzc : (Builtin.zeroCells zv.cells len).toList.length = len * (shOf P e).size := by
            rw [Array.length_toList, size_zeroCells, hzs]
          have hfl : Flat zv := z2.flat z3
          have hfit : off * (shOf P e).size + len * (shOf P e).size ≤ cs.size := by
            rw [← m3, ← Nat.add_mul]
            exact Nat.mul_le_mul_right _ (by omega)
          have hst := run_storeCells_at P b' (off * (shOf P e).size) t' (Builtin.zeroCells zv.cells len).toList 0 cs w m2 (by rw [hzc]; omega) (fun u hu => by
            rw [zeroCells_flat] at hu
            obtain ⟨k, q, hq, hqu⟩ := mem_cellsOf hu
            rw [List.getElem?_replicate] at hq
            split at hq
            · cases hq; exact hfl u hqu
            · cases hq)
          simp only [Nat.add_zero, hzc] at hst
          have hrun : (Builtin.clear_ #[t] ty #[.slice (some ⟨b', off * (shOf P e).size, none⟩) len cap]).run P w = .ok (.tuple #[]) (w.setRow b' (cs.toList.take (off * (shOf P e).size) ++ (Builtin.zeroCells zv.cells len).toList ++ cs.toList.drop (off * (shOf P e).size + len * (shOf P e).size)).toArray) := by
            cases len with
            | zero => exact absurd rfl h0
            | succ k => simp [Builtin.clear_, run_underlying ht, z1, hst]
          have hcl : cs.toList.length = cs.size := Array.length_toList
          have hE0 : ER w (Im X μ hp) (shOf P e) es1 vals := ⟨g3, g4⟩
          have hlv : vals.length = es1.length := g3.symm
          have hE' : ER w (Im X μ hp) (shOf P e) (es1.take off ++ List.replicate len z ++ es1.drop (off + len)) (vals.take off ++ List.replicate len zv ++ vals.drop (off + len)) := by
            refine ER.append (ER.append ?_ ?_) (hE0.drop _)
            · exact hE0.take _
            · refine ⟨by simp, fun k q u hq hu => ?_⟩
              rw [List.getElem?_replicate] at hq hu
              split at hq
              · rename_i hk
                rw [if_pos hk] at hu
                cases hq; cases hu
                exact ⟨hzsh, hzpr⟩
              · cases hq
          obtain ⟨H, E⟩ := row_arr (cs' := (cs.toList.take (off * (shOf P e).size) ++ (Builtin.zeroCells zv.cells len).toList ++ cs.toList.drop (off * (shOf P e).size + len * (shOf P e).size)).toArray) hH hr m1 m2 (by simp [hzc]; omega) (by simp; omega) hE' (by
            have hA : off * (shOf P e).size + len * (shOf P e).size ≤ es1.length * (shOf P e).size := by rw [← Nat.add_mul]; exact Nat.mul_le_mul_right _ hle
            rw [cellsOf_append, cellsOf_append, hE0.cells_take off (by omega), hE0.cells_drop (off + len) (by omega), ← zeroCells_flat, g5, Nat.add_mul]
            have hl' : (es1.take off ++ List.replicate len z ++ es1.drop (off + len)).length = es1.length := by simp; omega
            rw [hl', List.take_take, Nat.min_eq_left (by omega), List.drop_take]
            simp only []
            have hpre : (cs.toList.take (off * (shOf P e).size) ++ (Builtin.zeroCells zv.cells len).toList).length = off * (shOf P e).size + len * (shOf P e).size := by
              rw [List.length_append, hzc, List.length_take, hcl]; omega
            rw [List.take_append, hpre, List.take_of_length_le (i := es1.length * (shOf P e).size) (l := cs.toList.take (off * (shOf P e).size) ++ (Builtin.zeroCells zv.cells len).toList) (by rw [hpre]; exact hA)])
          exact ⟨.value (.tuple #[]), _, _, μ, by simp only [Sem.run_bind, hrun, Result.andThen_ok, Sem.run_pure], .inl rfl, .undef _ (fun b h => by cases h), H, E b⟩
      · cases h
    · cases h
  · cases h
end Go.Am

/- One operation that calls nothing. -/
namespace Go.Am
variable {P : Program} {w : World} {X : Nat → Prop} {μ : Nat → Option Nat} {hp : Heap}

theorem aslice_slice {sh : Sh} {s v : AV} {lo : Int} {hi : Option Int} {x : Value} (h : aslice sh lo hi s = some v) (hs : AR w X μ hp s x) : ∃ a len cap, x = .slice a len cap := by
  unfold aslice at h
  split at h
  · cases hs with | pv _ _ _ _ hq => cases hq <;> exact ⟨_, _, _, rfl⟩
  · cases hs; exact ⟨_, _, _, rfl⟩
  · cases hs; exact ⟨_, _, _, rfl⟩
  · cases h

theorem slice_one {t e : TypeId} (ht : P.underlying t = some (.slice e)) (hok : okT P e = true) {s v : AV} {x : Value} {lo hi : Option Value} {l : Int} {h : Option Int} (hx : AR w X μ hp s x) (hlo : lo = none ∧ l = 0 ∨ ∃ k, lo = some (.int k l)) (hhi : hi = none ∧ h = none ∨ ∃ k n, hi = some (.int k n) ∧ h = some n)
    (hs : aslice (shOf P e) l h s = some v) : Yld P w X μ hp (do pure (.value (← Instr.sliceAt t x lo hi none))) v := by
  obtain ⟨a, len, cap, rfl⟩ := aslice_slice hs hx
  obtain ⟨h1, h2, h3, h4, h5⟩ := aslice_sound hs hx
  have := slice_run (P := P) (w := w) ht hok a len cap lo hi l.toNat ((h.map Int.toNat).getD len) (by
    rcases hlo with ⟨rfl, rfl⟩ | ⟨k, rfl⟩
    · exact .inl ⟨rfl, rfl⟩
    · exact .inr ⟨k, by rw [Int.toNat_of_nonneg h1]⟩) (by
    rcases hhi with ⟨rfl, rfl⟩ | ⟨k, n, rfl, rfl⟩
    · exact .inl ⟨rfl, rfl⟩
    · exact .inr ⟨k, by simp [Int.toNat_of_nonneg (h2 n rfl)]⟩) h3 h4
  exact yld_of this h5

theorem sslice_inv_ff {sh : Sh} {a v : AV} (h : sSlice sh false false [a] = some v) : aslice sh 0 none a = some v := h
theorem sslice_inv_tf {sh : Sh} {a b v : AV} (h : sSlice sh true false [a, b] = some v) : ∃ s k l, b = .pv s (.int k l) ∧ aslice sh l none a = some v := by
  unfold sSlice at h
  split at h <;> simp_all
  exact ⟨_, _, _, ⟨rfl, rfl, rfl⟩, h⟩
theorem sslice_inv_ft {sh : Sh} {a b v : AV} (h : sSlice sh false true [a, b] = some v) : ∃ s k l, b = .pv s (.int k l) ∧ aslice sh 0 (some l) a = some v := by
  unfold sSlice at h
  split at h <;> simp_all
  exact ⟨_, _, _, ⟨rfl, rfl, rfl⟩, h⟩
theorem sslice_inv_tt {sh : Sh} {a b c v : AV} (h : sSlice sh true true [a, b, c] = some v) : ∃ s k l s' k' m, b = .pv s (.int k l) ∧ c = .pv s' (.int k' m) ∧ aslice sh l (some m) a = some v := by
  unfold sSlice at h
  split at h <;> simp_all
  exact ⟨_, _, _, ⟨rfl, rfl, rfl⟩, _, _, _, ⟨rfl, rfl, rfl⟩, h⟩

theorem slice_sound {t e : TypeId} {x : Value} {lo hi : Option Value} {vs : List AV} {v : AV} (ht : P.underlying t = some (.slice e)) (hok : okT P e = true) (hl : LR w X μ hp vs (x :: (lo.toList ++ hi.toList))) (h : sSlice (shOf P e) lo.isSome hi.isSome vs = some v) :
    Yld P w X μ hp (do pure (.value (← Instr.sliceAt t x lo hi none))) v := by
  cases lo with
  | none => cases hi with
    | none =>
      obtain ⟨a, rfl, h1⟩ := hl.inv1
      exact slice_one ht hok h1 (.inl ⟨rfl, rfl⟩) (.inl ⟨rfl, rfl⟩) h
    | some y =>
      obtain ⟨a, b, rfl, h1, h2⟩ := hl.inv2
      obtain ⟨s, k, l, rfl, h⟩ := sslice_inv_ft h
      rw [h2.int_inv]
      exact slice_one ht hok h1 (.inl ⟨rfl, rfl⟩) (.inr ⟨k, l, rfl, rfl⟩) h
  | some z => cases hi with
    | none =>
      obtain ⟨a, b, rfl, h1, h2⟩ := hl.inv2
      obtain ⟨s, k, l, rfl, h⟩ := sslice_inv_tf h
      rw [h2.int_inv]
      exact slice_one ht hok h1 (.inr ⟨k, rfl⟩) (.inl ⟨rfl, rfl⟩) h
    | some y =>
      obtain ⟨a, b, c, rfl, h1, h2, h3⟩ := hl.inv3
      obtain ⟨s, k, l, s', k', m, rfl, rfl, h⟩ := sslice_inv_tt h
      rw [h2.int_inv, h3.int_inv]
      exact slice_one ht hok h1 (.inr ⟨k, rfl⟩) (.inr ⟨k', m, rfl, rfl⟩) h
end Go.Am

/- One operation that calls nothing: all of them. -/
namespace Go.Am
variable {P : Program} {w : World} {X : Nat → Prop} {μ : Nat → Option Nat} {hp : Heap}

/-- The operation, or its like that looks at no heap. -/
def AOp.alike (op' op : AOp) : Prop := op' = op ∨ (∃ sh, op = .bslice sh ∧ op' = .bslicep sh) ∨ (op = .call ∧ op' = .callp)

section
variable {fr : Fr} {act : Act} {vs : List AV} (hF : FR w X μ hp fr act.tmps)
include hF
theorem arg1 {t : TypeId} {x : Operand} {a : AArg} (h : trArg P t x = some a) (ha : fr.argsOf [a] = some vs) : LR w X μ hp vs [act.eval x] := by
  obtain ⟨v, rfl, hv⟩ := argsOf_one ha
  exact .cons (arg_sound hF h hv) .nil
theorem argc {t : TypeId} {x : Operand} {a : AArg} {as : List AArg} {l : List Value} (h : trArg P t x = some a) (ha : fr.argsOf (a :: as) = some vs) (hr : ∀ us, fr.argsOf as = some us → LR w X μ hp us l) : LR w X μ hp vs (act.eval x :: l) := by
  obtain ⟨v, us, rfl, hv, hu⟩ := argsOf_cons ha
  exact .cons (arg_sound hF h hv) (hr us hu)
theorem arg2 {t u : TypeId} {x y : Operand} {a b : AArg} (h : trArg P t x = some a) (k : trArg P u y = some b) (ha : fr.argsOf [a, b] = some vs) : LR w X μ hp vs [act.eval x, act.eval y] :=
  argc hF h ha fun _ hu => arg1 hF k hu
theorem arg3 {t u q : TypeId} {x y z : Operand} {a b c : AArg} (h : trArg P t x = some a) (k : trArg P u y = some b) (m : trArg P q z = some c) (ha : fr.argsOf [a, b, c] = some vs) : LR w X μ hp vs [act.eval x, act.eval y, act.eval z] :=
  argc hF h ha fun _ hu => arg2 hF k m hu
end

theorem bounds {fr : Fr} {act : Act} {vs : List AV} (hF : FR w X μ hp fr act.tmps) {lo hi : Option Operand} {l h : List AArg} (h1 : lo.elim (some []) (fun l => (trArg P 0 l).map fun a => [a]) = some l) (h2 : hi.elim (some []) (fun l => (trArg P 0 l).map fun a => [a]) = some h)
    (ha : fr.argsOf (l ++ h) = some vs) : LR w X μ hp vs ((lo.map act.eval).toList ++ (hi.map act.eval).toList) := by
  have key : ∀ {q : Option Operand} {l : List AArg}, q.elim (some []) (fun l => (trArg P 0 l).map fun a => [a]) = some l → (q = none ∧ l = []) ∨ ∃ x a, q = some x ∧ trArg P 0 x = some a ∧ l = [a] := by
    intro q l h
    cases q with
    | none => cases h; exact .inl ⟨rfl, rfl⟩
    | some x =>
      simp only [Option.elim, Option.map_eq_some_iff] at h
      obtain ⟨a, h, rfl⟩ := h
      exact .inr ⟨x, a, rfl, h, rfl⟩
  rcases key h1 with ⟨rfl, rfl⟩ | ⟨x, a, rfl, g1, rfl⟩ <;> rcases key h2 with ⟨rfl, rfl⟩ | ⟨y, c, rfl, g2, rfl⟩
  · cases argsOf_nil ha; exact .nil
  · exact arg1 hF g2 ha
  · exact arg1 hF g1 ha
  · exact arg2 hF g1 g2 ha
theorem arr_map (a : Array Operand) (f : Operand → Value) : (a.toList.map f).toArray = a.map f := by
  apply Array.ext'
  simp

theorem args_two {a : Array Operand} {x y : Operand} (h : a.toList = [x, y]) (f : Operand → Value) : a = #[x, y] ∧ a.map f = #[f x, f y] := by
  have : a = #[x, y] := Array.ext' h
  subst this
  exact ⟨rfl, by simp⟩
theorem args_one {a : Array Operand} {x : Operand} (h : a.toList = [x]) (f : Operand → Value) : a.map f = #[f x] := by
  have : a = #[x] := Array.ext' h
  subst this
  simp
theorem types_two {a : Array TypeId} {x y : TypeId} (h : a.toList = [x, y]) : a = #[x, y] := Array.ext' h
theorem types_one {a : Array TypeId} {x : TypeId} (h : a.toList = [x]) : a = #[x] := Array.ext' h

theorem with1_inv {t : TypeId} {x : Operand} {op op' : AOp} {as : List AArg} (h : (match trArg P t x with | some a => some (op, [a]) | none => none) = some (op', as)) : ∃ a, trArg P t x = some a ∧ op' = op ∧ as = [a] := by
  split at h
  · cases h; exact ⟨_, ‹_›, rfl, rfl⟩
  · cases h

theorem op_sound {b : Nat} {o : Oper} {op op' : AOp} {as : List AArg} {fr : Fr} {act : Act} {vs : List AV} {v : AV} {hp' : Heap} (hb : b ≤ hp.length) (ht : trOp P o = some (op, as)) (hk : op'.alike op) (hF : FR w X μ hp fr act.tmps) (ha : fr.argsOf as = some vs) (hH : HR w X μ hp)
    (hs : astep b op' vs hp = some (v, hp')) : Out P b w X μ hp (execOp act.eval o) v hp' := by
  have pureOut : ∀ {s : Sem Next}, mapFst hp (some v) = some (v, hp') → Yld P w X μ hp s v → Out P b w X μ hp s v hp' := by
    intro s h hy
    cases h
    exact hy.out hH
  have sp : ∀ {op : AOp}, op.isPure = true → astep b op vs hp = some (v, hp') → spure op vs = some v ∧ hp' = hp := by
    intro op ho h
    simp only [astep, ho, cond_true] at h
    cases h' : spure op vs with
    | none => rw [h'] at h; cases h
    | some u => rw [h'] at h; cases h; exact ⟨rfl, rfl⟩
  have sr : ∀ {op : AOp}, op.isPure = false → op.isRead = true → astep b op vs hp = some (v, hp') → sread op vs hp = some v ∧ hp' = hp := by
    intro op ho ho' h
    simp only [astep, ho, ho', cond_true, cond_false] at h
    cases h' : sread op vs hp with
    | none => rw [h'] at h; cases h
    | some u => rw [h'] at h; cases h; exact ⟨rfl, rfl⟩
  have sw : ∀ {op : AOp}, op.isPure = false → op.isRead = false → astep b op vs hp = some (v, hp') → swrite b op vs hp = some (v, hp') := by
    intro op ho ho' h
    simpa only [astep, ho, ho', cond_false] using h
  have same : ∀ {o : AOp}, op = o → (∀ sh, o ≠ .bslice sh) → o ≠ .call → op' = o := by
    intro o e h1 h2
    rcases hk with h | ⟨sh, h, _⟩ | ⟨h, _⟩
    · exact h.trans e
    · exact absurd (e.symm.trans h) (h1 sh)
    · exact absurd (e.symm.trans h) h2
  have mv : ∀ (x : Operand) (t : TypeId), (match trArg P t x with | some a => some (AOp.mv, [a]) | none => none) = some (op, as) → Out P b w X μ hp (pure (.value (act.eval x))) v hp' := by
    intro x t h
    obtain ⟨a, h1, h2, rfl⟩ := with1_inv h
    cases same h2 (by simp) (by simp)
    obtain ⟨h3, rfl⟩ := sp rfl hs
    exact (show Yld P w X μ hp' (pure (.value (act.eval x))) v from ⟨_, rfl, mv_sound (arg1 hF h1 ha) h3⟩).out hH
  have one : ∀ (x : Operand) (t : TypeId) (o : AOp) {s : Sem Next}, (match trArg P t x with | some a => some (o, [a]) | none => none) = some (op, as) → o.isPure = true → (∀ sh, o ≠ .bslice sh) → o ≠ .call → (LR w X μ hp vs [act.eval x] → spure o vs = some v → Yld P w X μ hp s v) → Out P b w X μ hp s v hp' := by
    intro x t o s h hp1 hn hn2 hy
    obtain ⟨a, h1, h2, rfl⟩ := with1_inv h
    cases same h2 hn hn2
    obtain ⟨h3, rfl⟩ := sp hp1 hs
    exact (hy (arg1 hF h1 ha) h3).out hH
  cases hop : o.op <;> simp only [trOp, hop] at ht <;> (try (cases ht; done)) <;> simp only [execOp, hop]
  case move x => exact mv x _ ht
  case assign x =>
    split at ht
    · rename_i e hx he
      split at ht
      · rename_i hpos
        cases ht
        cases same rfl (by simp) (by simp)
        exact nilsl_sound hH (sw rfl rfl hs)
      · cases ht
    · exact mv _ _ ht
  case pick c x y =>
    split at ht
    · rename_i a1 a2 a3 h1 h2 h3
      cases ht
      cases same rfl (by simp) (by simp)
      obtain ⟨h4, rfl⟩ := sp rfl hs
      exact (pick_sound (arg3 hF h1 h2 h3 ha) h4).out hH
    · cases ht
  case alloc t =>
    split at ht
    · rename_i z hz
      cases ht
      cases same rfl (by simp) (by simp)
      exact wAlloc_sound hb hH hz (sw rfl rfl hs)
    · cases ht
  case box t x =>
    obtain ⟨a, h1, h2, rfl⟩ := with1_inv ht
    cases same h2 (by simp) (by simp)
    exact wBox_sound hb hH (arg1 hF h1 ha) (sw rfl rfl hs)
  case load t x =>
    split at ht
    · rename_i hok
      obtain ⟨a, h1, h2, rfl⟩ := with1_inv ht
      cases same h2 (by simp) (by simp)
      obtain ⟨h3, rfl⟩ := sr rfl rfl hs
      exact (load_sound hH hok (arg1 hF h1 ha) h3).out hH
    · cases ht
  case store t x y =>
    split at ht
    · cases ht
    · rename_i hok
      split at ht
      · rename_i a1 a2 h1 h2
        cases ht
        cases same rfl (by simp) (by simp)
        exact wStore_sound (by simp at hok; exact hok.2) hH (arg2 hF h1 h2 ha) (sw rfl rfl hs)
      · cases ht
  case build t parts =>
    split at ht
    · rename_i z fs hz hu
      split at ht
      · rename_i hok
        split at ht
        · rename_i l as' hl has
          cases ht
          cases same rfl (by simp) (by simp)
          obtain ⟨h3, rfl⟩ := sp rfl hs
          exact (build_sound hz hl (.inl ⟨fs, hu, hok⟩) (args_sound hF has ha) h3).out hH
        · cases ht
      · cases ht
    · rename_i z n e hz hu
      split at ht
      · rename_i hok
        split at ht
        · rename_i l as' hl has
          cases ht
          cases same rfl (by simp) (by simp)
          obtain ⟨h3, rfl⟩ := sp rfl hs
          exact (build_sound hz hl (.inr ⟨n, e, hu, hok⟩) (args_sound hF has ha) h3).out hH
        · cases ht
      · cases ht
    · cases ht
  case buildSlice t n parts =>
    split at ht
    · rename_i e hu
      split at ht
      · rename_i hc
        obtain ⟨c1, c2, c3, c4⟩ := hc
        split at ht
        · rename_i as' has
          cases ht
          rcases hk with rfl | ⟨sh, h1, rfl⟩ | ⟨h1, _⟩
          · exact bslice_sound hu c3 c4 c1 c2 hH (args_sound hF has ha) (sw rfl rfl hs)
          · cases h1
            obtain ⟨h3, rfl⟩ := sp rfl hs
            exact bslicep_sound hu c3 c4 c1 c2 hH (args_sound hF has ha) h3
          · cases h1
        · cases ht
      · cases ht
    · cases ht
  case binOp bo t x y ty =>
    split at ht
    · split at ht
      · rename_i a1 a2 h1 h2
        cases ht
        cases same rfl (by simp) (by simp)
        obtain ⟨h4, rfl⟩ := sp rfl hs
        have hl := arg2 hF h1 h2 ha
        obtain ⟨c1, c2, rfl, k1, k2⟩ := hl.inv2
        simp only [spure, sBin] at h4
        split at h4
        · rename_i q1 q2 q3 q4 q5
          simp only [List.cons.injEq, and_true] at q5
          obtain ⟨rfl, rfl⟩ := q5
          split at h4
          · rename_i p hp'
            cases h4
            obtain ⟨u, u1, u2⟩ := bin_sound (P := P) bo t x y k1 k2 hp'
            exact (yld_of u1 u2).out hH
          · cases h4
        · cases h4
      · cases ht
    · split at ht
      · rename_i hbool
        split at ht
        · rename_i a1 a2 h1 h2
          cases ht
          cases same rfl (by simp) (by simp)
          obtain ⟨h4, rfl⟩ := sp rfl hs
          have hl := arg2 hF h1 h2 ha
          obtain ⟨c1, c2, rfl, k1, k2⟩ := hl.inv2
          simp only [spure, sBinb] at h4
          split at h4
          · rename_i q1 q2 q3 q4 q5
            simp only [List.cons.injEq, and_true] at q5
            obtain ⟨rfl, rfl⟩ := q5
            split at h4
            · rename_i p hbb
              cases h4
              have hty := isBoolT_of hbool
              obtain ⟨u, u1, u2⟩ := bin_bool (P := P) (w := w) (X := X) (μ := μ) (hp := hp') bo t x y _ _ hty hbb
              rw [k1.bool_inv, k2.bool_inv]
              exact (yld_of u1 u2).out hH
            · cases h4
          · cases h4
        · cases ht
      · split at ht
        · rename_i hbo
          split at ht
          · rename_i ds a1 a2 hds h1 h2
            cases ht
            cases same rfl (by simp) (by simp)
            obtain ⟨h4, rfl⟩ := sp rfl hs
            have hbo' : bo = .eql ∨ bo = .neq := by cases bo <;> first | exact .inl rfl | exact .inr rfl | (cases hbo)
            exact (eqs_sound hbo' hds (arg2 hF h1 h2 ha) h4).out hH
          · cases ht
        · cases ht
  case unOp uo t x =>
    cases uo <;> simp only at ht <;> (try (cases ht; done))
    · split at ht
      · obtain ⟨a, h1, h2, rfl⟩ := with1_inv ht
        cases same h2 (by simp) (by simp)
        obtain ⟨h3, rfl⟩ := sp rfl hs
        exact (neg_sound (arg1 hF h1 ha) h3).out hH
      · cases ht
    · obtain ⟨a, h1, h2, rfl⟩ := with1_inv ht
      cases same h2 (by simp) (by simp)
      obtain ⟨h3, rfl⟩ := sp rfl hs
      exact (not_sound (arg1 hF h1 ha) h3).out hH
  case convert src dst x =>
    split at ht
    · rename_i k0 k h1 h2
      obtain ⟨a, g1, g2, rfl⟩ := with1_inv ht
      cases same g2 (by simp) (by simp)
      obtain ⟨h3, rfl⟩ := sp rfl hs
      exact (conv_sound h1 h2 (arg1 hF g1 ha) h3).out hH
    · cases ht
  case makeInterface t x =>
    split at ht
    · cases ht
    · cases ht
    · rename_i n1 n2
      obtain ⟨a, g1, g2, rfl⟩ := with1_inv ht
      cases same g2 (by simp) (by simp)
      obtain ⟨h3, rfl⟩ := sp rfl hs
      have hcon : P.concrete t = true := by
        unfold Program.concrete
        split
        · exact absurd ‹_› (n1 _)
        · exact absurd ‹_› n2
        · rfl
      exact (mkiface_sound hcon (arg1 hF g1 ha) h3).out hH
  case makeFunc fn first captured =>
    split at ht
    · rename_i as' has
      cases ht
      cases same rfl (by simp) (by simp)
      obtain ⟨h3, rfl⟩ := sp rfl hs
      have hl := args_sound hF has ha
      rw [List.map_append] at hl
      have h4 := mkfunc_sound (fn := fn) (first := first.toList.map act.eval) hl (by simpa [spure] using h3)
      refine (yld_of (s := Instr.makeFunc fn (first.map act.eval) (captured.map act.eval)) (v' := .func fn (first.map act.eval) (captured.map act.eval)) rfl (by rw [← arr_map, ← arr_map]; exact h4)).out hH
    · cases ht
  case makeMap t r =>
    cases r with
    | some r => cases ht
    | none =>
      simp only [] at ht
      split at ht
      · rename_i tk te hu
        cases ht
        cases same rfl (by simp) (by simp)
        have h3 := sw rfl rfl hs
        simp only [swrite, Option.some.injEq, Prod.mk.injEq] at h3
        obtain ⟨rfl, rfl⟩ := h3
        exact mkmap_sound hH
      · cases ht
  case makeSlice t l c =>
    split at ht
    · rename_i e hu
      split at ht
      · rename_i hc
        split at ht
        · rename_i z a1 a2 hz h1 h2
          cases ht
          cases same rfl (by simp) (by simp)
          exact mkslice_sound hu hc.2.1 hc.2.2 hc.1 hz hH (arg2 hF h1 h2 ha) (sw rfl rfl hs)
        · cases ht
      · cases ht
    · cases ht
  case fieldAddr t x i =>
    split at ht
    · rename_i fs hu
      split at ht
      · rename_i f hf
        split at ht
        · cases ht
        · rename_i hok
          obtain ⟨a, g1, g2, rfl⟩ := with1_inv ht
          cases same g2 (by simp) (by simp)
          obtain ⟨h3, rfl⟩ := sp rfl hs
          exact (faddr_sound hu hf (by simpa using hok) (arg1 hF g1 ha) h3).out hH
      · cases ht
    · cases ht
  case field t x i =>
    split at ht
    · rename_i fs hu
      split at ht
      · rename_i f hf
        split at ht
        · cases ht
        · rename_i hok
          obtain ⟨a, g1, g2, rfl⟩ := with1_inv ht
          cases same g2 (by simp) (by simp)
          obtain ⟨h3, rfl⟩ := sp rfl hs
          exact (field_sound hu hf (by simpa using hok) (arg1 hF g1 ha) h3).out hH
      · cases ht
    · cases ht
  case indexAddr t x i =>
    split at ht
    · rename_i e hu
      split at ht
      · cases ht
      · rename_i hok
        split at ht
        · rename_i a1 a2 h1 h2
          cases ht
          cases same rfl (by simp) (by simp)
          obtain ⟨h3, rfl⟩ := sp rfl hs
          exact (iaddr_sound hu (by simpa using hok) (arg2 hF h1 h2 ha) h3).out hH
        · cases ht
    · rename_i n e hu
      split at ht
      · cases ht
      · rename_i hok
        split at ht
        · rename_i a1 a2 h1 h2
          cases ht
          cases same rfl (by simp) (by simp)
          obtain ⟨h3, rfl⟩ := sp rfl hs
          exact (iaddrA_sound hu (by simpa using hok) (arg2 hF h1 h2 ha) h3).out hH
        · cases ht
    · cases ht
  case index t x i =>
    split at ht
    · rename_i hu
      split at ht
      · rename_i a1 a2 h1 h2
        cases ht
        cases same rfl (by simp) (by simp)
        obtain ⟨h3, rfl⟩ := sp rfl hs
        exact (sindex_sound hu (arg2 hF h1 h2 ha) h3).out hH
      · cases ht
    · cases ht
  case lookup t m k ok =>
    split at ht
    · rename_i tk te hu
      split at ht
      · rename_i s a1 a2 z hk0 h1 h2 hz
        cases ht
        cases same rfl (by simp) (by simp)
        obtain ⟨h3, rfl⟩ := sr rfl rfl hs
        exact (lookup_sound hu hk0 hz hH (arg2 hF h1 h2 ha) h3).out hH
      · cases ht
    · cases ht
  case mapUpdate t m k y =>
    split at ht
    · cases ht
    · split at ht
      · rename_i tk te hu
        split at ht
        · rename_i s a1 a2 a3 hk0 h1 h2 h3
          cases ht
          cases same rfl (by simp) (by simp)
          exact mapset_sound hu hk0 hH (arg3 hF h1 h2 h3 ha) (sw rfl rfl hs)
        · cases ht
      · cases ht
  case extract x i =>
    exact one _ _ _ ht rfl (by simp) (by simp) fun hl h => extract_sound hl h
  case typeAssert x xt t ok =>
    split at ht
    · cases ht
    · cases ht
    · rename_i n1 n2
      split at ht
      · rename_i z hz
        obtain ⟨a, g1, g2, rfl⟩ := with1_inv ht
        cases same g2 (by simp) (by simp)
        obtain ⟨h3, rfl⟩ := sp rfl hs
        cases hu : P.underlying t with
        | none => exact absurd hu n2
        | some d => exact (assert_sound hu (fun ms e => n1 ms (by rw [hu, e])) hz (arg1 hF g1 ha) h3).out hH
      · cases ht
  case slice t x lo hi mx =>
    cases mx with
    | some m => cases ht
    | none =>
      simp only [] at ht
      split at ht
      · rename_i e hu
        split at ht
        · cases ht
        · rename_i hok
          split at ht
          · rename_i a l h g1 g2 g3
            cases ht
            cases same rfl (by simp) (by simp)
            obtain ⟨h3, rfl⟩ := sp rfl hs
            have := slice_sound (lo := lo.map act.eval) (hi := hi.map act.eval) hu (by simpa using hok) (argc hF g1 ha fun us hus => bounds hF g2 g3 hus) (by simpa [spure] using h3)
            exact this.out hH
          · cases ht
      · rename_i hu
        split at ht
        · rename_i a l h g1 g2 g3
          cases ht
          cases same rfl (by simp) (by simp)
          obtain ⟨h3, rfl⟩ := sp rfl hs
          have := sslice_sound (lo := lo.map act.eval) (hi := hi.map act.eval) hu rfl (argc hF g1 ha fun us hus => bounds hF g2 g3 hus) (by simpa [spure] using h3)
          exact this.out hH
        · cases ht
      · cases ht
  case call c =>
    cases hcal : c.callee with
    | invoke r n => rw [hcal] at ht; cases ht
    | value f =>
      rw [hcal] at ht
      simp only [] at ht
      split at ht
      · cases ht
        rcases hk with rfl | ⟨sh, h1, _⟩ | ⟨_, rfl⟩
        · cases hs
        · cases h1
        · cases hs
      · cases ht
    | builtin bi =>
      rw [hcal] at ht
      simp only [resolve, hcal]
      have go : ∀ (s : Sem Next), builtin bi c.argTypes o.type (c.args.map fun | .const _ => true | _ => false) (c.args.map act.eval) = s → Out P b w X μ hp s v hp' → Out P b w X μ hp (do let d ← (pure { target := .builtin bi c.argTypes o.type (c.args.map fun | .const _ => true | _ => false), args := c.args.map act.eval } : Sem Deferred); invoke d.target d.args) v hp' := by
        intro s e h
        subst e
        exact h
      cases bi <;> simp only [] at ht <;> (try (cases ht; done))
      case append =>
        split at ht
        · rename_i x y t u e1 e2
          obtain ⟨ae, ae'⟩ := args_two e1 act.eval
          have te := types_two e2
          split at ht
          · rename_i e e' hu hu'
            split at ht
            · rename_i hc
              obtain ⟨rfl, c1, c2, c3⟩ := hc
              split at ht
              · rename_i a1 a2 h1 h2
                cases ht
                cases same rfl (by simp) (by simp)
                exact go _ rfl (by rw [te, ae']; exact append_sound hu c2 c3 c1 hH (arg2 hF h1 h2 ha) (sw rfl rfl hs))
              · cases ht
            · cases ht
          · cases ht
        · cases ht
      case clear =>
        split at ht
        · rename_i x t e1 e2
          have ae := args_one e1 act.eval
          have te := types_one e2
          split at ht
          · rename_i e hu
            split at ht
            · rename_i hc
              split at ht
              · rename_i z a1 hz h1
                cases ht
                cases same rfl (by simp) (by simp)
                exact go _ rfl (by rw [te, ae]; exact clear_sound hu hc.1 hc.2 hz hH (arg1 hF h1 ha) (sw rfl rfl hs))
              · cases ht
            · cases ht
          · cases ht
        · cases ht
      case len =>
        split at ht
        · rename_i x t e1 e2
          have ae := args_one e1 act.eval
          have te := types_one e2
          split at ht
          · rename_i e hu
            exact go _ rfl (one _ _ _ ht rfl (by simp) (by simp) fun hl h => by rw [te, ae]; exact len_sound hu hl h)
          · rename_i hu
            exact go _ rfl (one _ _ _ ht rfl (by simp) (by simp) fun hl h => by rw [te, ae]; exact slen_sound hu hl h)
          · rename_i tk tv hu
            obtain ⟨a, g1, g2, rfl⟩ := with1_inv ht
            cases same g2 (by simp) (by simp)
            obtain ⟨h3, rfl⟩ := sr rfl rfl hs
            exact go _ rfl (by rw [te, ae]; exact (mlen_sound hH hu (arg1 hF g1 ha) h3).out hH)
          · cases ht
        · cases ht
      case max =>
        split at ht
        · rename_i x y t u e1 e2
          obtain ⟨ae, ae'⟩ := args_two e1 act.eval
          split at ht
          · rename_i a1 a2 h1 h2
            cases ht
            cases same rfl (by simp) (by simp)
            obtain ⟨h3, rfl⟩ := sp rfl hs
            exact go _ rfl (by rw [ae']; exact (max_sound (arg2 hF h1 h2 ha) h3).out hH)
          · cases ht
        · cases ht
      case min =>
        split at ht
        · rename_i x y t u e1 e2
          obtain ⟨ae, ae'⟩ := args_two e1 act.eval
          split at ht
          · rename_i a1 a2 h1 h2
            cases ht
            cases same rfl (by simp) (by simp)
            obtain ⟨h3, rfl⟩ := sp rfl hs
            exact go _ rfl (by rw [ae']; exact (min_sound (arg2 hF h1 h2 ha) h3).out hH)
          · cases ht
        · cases ht
  case panic x =>
    obtain ⟨a, g1, g2, rfl⟩ := with1_inv ht
    cases same g2 (by simp) (by simp)
    cases hs
end Go.Am

/- Calls of an oracle; one operation of a region, whatever it is. -/
namespace Go.Am
variable {P : Program} {w : World} {X : Nat → Prop} {μ : Nat → Option Nat} {hp : Heap}

/-- What a call comes to. -/
def CallPost (b : Nat) (w : World) (X : Nat → Prop) (μ : Nat → Option Nat) (hp : Heap) (r : ARes) (hp' : Heap) : Ending → World → Prop
  | .returned v', w' => ∃ μ' v, r = .ret v ∧ HR w' X μ' hp' ∧ Ext b X μ hp w μ' hp' w' ∧ AR w' X μ' hp' v v'
  | .panicked chain, w' => ∃ μ' p v', r = .panic p ∧ chain = [{ v := v', recovered := false }] ∧ HR w' X μ' hp' ∧ Ext b X μ hp w μ' hp' w' ∧ AR w' X μ' hp' (.pv none p) v'
  | .outgrown, _ => False

/-- A function value's call, as an operation of a region makes it. -/
def Called (P : Program) (f : FuncId) (args : Array Value) (w : World) (R : Ending → World → Prop) : Prop :=
  ((callFunc f args).run P w = .ok (.enter f args) w ∧ Calls P f args w R) ∨ ∃ v w', (callFunc f args).run P w = .ok (.value v) w' ∧ R (.returned v) w'

theorem Called.mono {f : FuncId} {args : Array Value} {R R' : Ending → World → Prop} (h : Called P f args w R) (hr : ∀ e w', R e w' → R' e w') : Called P f args w R' := by
  rcases h with ⟨h1, h2⟩ | ⟨v, w', h1, h2⟩
  · exact .inl ⟨h1, h2.mono hr⟩
  · exact .inr ⟨v, w', h1, hr _ _ h2⟩

/-- The oracle says true of the program. -/
def SoundO (P : Program) (Γ : Oracle) : Prop :=
  ∀ f args hp r hp', Γ f args hp = some (r, hp') → ∀ (w : World) (X : Nat → Prop) (μ : Nat → Option Nat) (vs : List Value), HR w X μ hp → LR w X μ hp args vs → Called P f vs.toArray w (CallPost hp.length w X μ hp r hp')

theorem Ext.mono {b b0 : Nat} {μ' : Nat → Option Nat} {hp' : Heap} {w' : World} (h : Ext b0 X μ hp w μ' hp' w') (hb : b ≤ b0) : Ext b X μ hp w μ' hp' w' :=
  { h with box := fun i sh v ho => let ⟨v', h1, h2, h3⟩ := h.box i sh v ho; ⟨v', h1, h2, fun hi => h3 (Nat.lt_of_lt_of_le hi hb)⟩ }

theorem CP.lr {ps : List (Sh × PV)} {vs : List Value} (h : CP w (Im X μ hp) ps vs) : LR w X μ hp (pvs ps) vs :=
  LR.of (by simp [pvs, h.1]) fun i a v ha hv => by
    simp only [pvs, List.getElem?_map, Option.map_eq_some_iff] at ha
    obtain ⟨x, hx, rfl⟩ := ha
    exact .pv _ _ _ (h.2.1 i x v hx hv) (h.2.2 i x v hx hv)

/-- The blocks that a caller may still write. -/
def held (X : Nat → Prop) (μ : Nat → Option Nat) (hp : Heap) (b : Nat) : Prop := X b ∨ ∃ i, live hp i = true ∧ μ i = some b

theorem HR.empty (h : HR w X μ hp) : HR w (held X μ hp) μ [] :=
  ⟨fun i _ _ hi => by simp at hi, fun i _ hi => by simp at hi, fun b hb => by
    rcases hb with hb | ⟨i, hi, e⟩
    · exact h.xlt b hb
    · exact (h.out i b (live_lt hi) e).2, fun i _ _ h => by simp at h, fun i _ _ _ h => by simp at h, fun i _ _ h => by simp at h⟩

theorem im_empty {b : Nat} (h : Im X μ hp b) : Im (held X μ hp) μ [] b :=
  ⟨fun hb => by
    rcases hb with hb | ⟨i, hi, e⟩
    · exact h.1 hb
    · exact h.2 i hi e, fun i hi => by simp [live] at hi⟩

theorem im_back {b : Nat} {μ' : Nat → Option Nat} {hp' : Heap} (h : Im (held X μ hp) μ' hp' b) : Im X μ hp b :=
  ⟨fun hb => h.1 (.inl hb), fun i hi e => h.1 (.inr ⟨i, hi, e⟩)⟩

theorem CP.empty {ps : List (Sh × PV)} {vs : List Value} (h : CP w (Im X μ hp) ps vs) : CP w (Im (held X μ hp) μ []) ps vs :=
  ⟨h.1, h.2.1, fun i x v hx hv => (h.2.2 i x v hx hv).mono fun _ _ _ _ hI hb => ⟨im_empty hI, hb⟩⟩

/-- After a call that began with no heap, the caller's is as it was. -/
theorem back {b0 b : Nat} {X' : Nat → Prop} {μ' : Nat → Option Nat} {hp' : Heap} {w' : World} (h : HR w X μ hp) (E : Ext b0 X' μ [] w μ' hp' w') : HR w' X μ hp ∧ Ext b X μ hp w μ hp w' := by
  have hb : ∀ k, k < w.heap.size → w'.heap[k]? = w.heap[k]? := fun k hk => E.blk k hk fun i hi => by simp [live] at hi
  have e : ∀ b, Ext b X μ hp w μ hp w' := fun b => { Ext.refl b X μ hp w with
    os := E.os, tape := E.tape, output := E.output, size := E.size, blk := fun k hk _ => hb k hk, shape := E.shape
    new := fun i h1 h2 => by omega
    mov := fun i _ k hk => .inl hk }
  exact ⟨h.same (e 0) fun i k hi hk => hb k (h.out i k hi hk).2, e b⟩

theorem bare_sound {μ' : Nat → Option Nat} {hp' : Heap} {v v' : AV} {u : Value} (h : v.bare = some v') (ha : AR w (held X μ hp) μ' hp' v u) : AR w X μ hp v' u := by
  have pr : ∀ {p : PV} {u : Value}, PR w (Im (held X μ hp) μ' hp') p u → PR w (Im X μ hp) p u := fun h => h.mono fun _ _ _ _ hI hb => ⟨im_back hI, hb⟩
  unfold AV.bare at h
  split at h
  · cases h
    cases ha with | pv _ _ _ hs hq => exact .pv _ _ _ hs (pr hq)
  · rename_i l
    split at h
    · rename_i ps hps
      cases h
      cases ha with | tuple _ vs hl hx =>
      have hpv : l = pvs ps := by
        clear hl hx
        induction l generalizing ps with
        | nil => cases hps; rfl
        | cons a r ih =>
          cases a <;> simp only [allPV] at hps <;> (try (cases hps; done))
          split at hps
          · rename_i l hl
            cases hps
            simp only [pvs, List.map_cons, List.cons.injEq, true_and]
            exact ih _ hl
          · cases hps
      subst hpv
      refine .tuple _ vs hl fun i a v hi hv => ?_
      have := hx i a v hi hv
      simp only [pvs, List.getElem?_map, Option.map_eq_some_iff] at hi
      obtain ⟨x, hx', rfl⟩ := hi
      cases this with | pv _ _ _ hs hq => exact .pv _ _ _ hs (pr hq)
    · cases h
  · cases h

theorem LR.append {l k : List AV} {vs us : List Value} (h : LR w X μ hp l vs) (h' : LR w X μ hp k us) : LR w X μ hp (l ++ k) (vs ++ us) := by
  induction h with
  | nil => exact h'
  | cons h _ ih => exact .cons h ih

theorem callee_sound {v : AV} {u : Value} {g : FuncId} {first captured : List AV} (h : calleeOf v = some (g, first, captured)) (ha : AR w X μ hp v u) : ∃ fs cs : List Value, u = .func (.func g) fs.toArray cs.toArray ∧ LR w X μ hp first fs ∧ LR w X μ hp captured cs := by
  unfold calleeOf at h
  split at h
  · cases h
    cases ha with | pv _ _ _ _ hq =>
    cases hq
    exact ⟨[], [], rfl, .nil, .nil⟩
  · cases h
    cases ha with | func _ _ _ fs cs hf hc h1 h2 => exact ⟨fs, cs, rfl, LR.of hf h1, LR.of hc h2⟩
  · cases h

/-- What comes after one operation. -/
def After (b : Nat) (w : World) (X : Nat → Prop) (μ : Nat → Option Nat) (hp : Heap) (r : OpRes) (a : Act) (dst : Option Tmp) (K : Act → World → Prop) (Q : Exit → Act → World → Prop) : Prop :=
  match r with
  | .val v hp' => ∀ v' w' μ', AR w' X μ' hp' v v' → HR w' X μ' hp' → Ext b X μ hp w μ' hp' w' → K (a.put dst v') w'
  | .panic p hp' => ∀ v' w' μ', AR w' X μ' hp' (.pv none p) v' → HR w' X μ' hp' → Ext b X μ hp w μ' hp' w' → Q (.panic [{ v := v', recovered := false }]) a w'

theorem oper_out {b : Nat} {o : Oper} {a : Act} {v : AV} {hp' : Heap} {K : Act → World → Prop} {Q : Exit → Act → World → Prop} (h : Out P b w X μ hp (execOp a.eval o) v hp') (hA : After b w X μ hp (.val v hp') a o.dst K Q) : o.wp P a w K Q := by
  obtain ⟨n, v', w', μ', h1, h2, h3, h4, h5⟩ := h
  unfold Oper.wp
  rw [h1]
  rcases h2 with rfl | ⟨rfl, rfl⟩
  · exact hA v' w' μ' h3 h4 h5
  · exact hA _ w' μ' h3 h4 h5

theorem called_wp {o : Oper} {a : Act} {f : FuncId} {args : Array Value} {K : Act → World → Prop} {Q : Exit → Act → World → Prop} {R : Ending → World → Prop} (he : (execOp a.eval o).run P w = (callFunc f args).run P w) (h : Called P f args w R)
    (hr : ∀ v w', R (.returned v) w' → K (a.put o.dst v) w') (hp : ∀ c w', R (.panicked c) w' → Q (.panic c) a w') (ho : ∀ w', ¬ R .outgrown w') : o.wp P a w K Q := by
  unfold Oper.wp
  rw [he]
  rcases h with ⟨h1, h2⟩ | ⟨v, w', h1, h2⟩
  · rw [h1, Oper.upon_enter]
    refine h2.mono fun e w' hR => ?_
    cases e with
    | returned v => exact hr v w' hR
    | panicked c => exact hp c w' hR
    | outgrown => exact absurd hR (ho w')
  · rw [h1]
    exact hr v w' h2

theorem call_run {o : Oper} {a : Act} {c : Call} {f : Operand} {g : FuncId} {fs cs : List Value} (hop : o.op = .call c) (hc : c.callee = .value f) (hf : a.eval f = .func (.func g) fs.toArray cs.toArray) :
    (execOp a.eval o).run P w = (callFunc g (fs ++ c.args.toList.map a.eval ++ cs).toArray).run P w := by
  have e : fs.toArray ++ c.args.map a.eval ++ cs.toArray = (fs ++ c.args.toList.map a.eval ++ cs).toArray := by
    apply Array.ext'
    simp
  simp only [execOp, hop, resolve, hc, hf, Deferred.ofValue, pure_bind, invoke]
  rw [← e]

theorem call_inv {o : Oper} {as : List AArg} (h : trOp P o = some (.call, as)) : ∃ c f a1 as', o.op = .call c ∧ c.callee = .value f ∧ trArg P 0 f = some a1 ∧ trArgs P c.args.toList c.argTypes.toList = some as' ∧ as = a1 :: as' := by
  cases hop : o.op <;> simp only [trOp, hop] at h <;> (try (cases h; done))
  case call c =>
    cases hc : c.callee with
    | value f =>
      rw [hc] at h
      simp only [] at h
      split at h
      · cases h
        exact ⟨c, f, _, _, rfl, hc, ‹_›, ‹_›, rfl⟩
      · cases h
    | invoke r n => rw [hc] at h; cases h
    | builtin bi =>
      rw [hc] at h
      cases bi <;> simp only [] at h <;> (try (cases h; done)) <;> (repeat' split at h) <;> cases h
  all_goals ((repeat' split at h) <;> first | (cases h; done) | (exfalso; simp_all; done))
theorem not_callp {o : Oper} {as : List AArg} : ¬ trOp P o = some (.callp, as) := by
  intro h
  cases hop : o.op <;> simp only [trOp, hop] at h <;> (try (cases h; done))
  case call c =>
    cases hc : c.callee with
    | value f => rw [hc] at h; (repeat' split at h) <;> cases h
    | invoke r n => rw [hc] at h; cases h
    | builtin bi =>
      rw [hc] at h
      cases bi <;> simp only [] at h <;> (try (cases h; done)) <;> (repeat' split at h) <;> cases h
  all_goals ((repeat' split at h) <;> first | (cases h; done) | (exfalso; simp_all; done))
theorem panic_inv {o : Oper} {as : List AArg} (h : trOp P o = some (.panic, as)) : ∃ x a1, o.op = .panic x ∧ trArg P 0 x = some a1 ∧ as = [a1] := by
  cases hop : o.op <;> simp only [trOp, hop] at h <;> (try (cases h; done))
  case panic x =>
    obtain ⟨a, g1, g2, rfl⟩ := with1_inv h
    exact ⟨x, a, rfl, g1, rfl⟩
  case call c =>
    cases hc : c.callee with
    | value f => rw [hc] at h; (repeat' split at h) <;> cases h
    | invoke r n => rw [hc] at h; cases h
    | builtin bi =>
      rw [hc] at h
      cases bi <;> simp only [] at h <;> (try (cases h; done)) <;> (repeat' split at h) <;> cases h
  all_goals ((repeat' split at h) <;> first | (cases h; done) | (exfalso; simp_all; done))

theorem oper_sound {Γ : Oracle} (hΓ : SoundO P Γ) {b : Nat} {o : Oper} {op op' : AOp} {as : List AArg} {fr : Fr} {a : Act} {vs : List AV} {r : OpRes} {K : Act → World → Prop} {Q : Exit → Act → World → Prop} (hb : b ≤ hp.length) (ht : trOp P o = some (op, as)) (hk : op'.alike op)
    (hF : FR w X μ hp fr a.tmps) (ha : fr.argsOf as = some vs) (hH : HR w X μ hp) (hs : aOp Γ b op' vs hp = some r) (hA : After b w X μ hp r a o.dst K Q) : o.wp P a w K Q := by
  have plain : (∀ op, op' ≠ .call → op' ≠ .callp → op' ≠ .panic → op = op' → aOp Γ b op vs hp = (match astep b op vs hp with | some (v, hp') => some (.val v hp') | none => none)) := by
    intro op h1 h2 h3 e
    subst e
    unfold aOp
    split
    · exact absurd rfl h1
    · exact absurd rfl h2
    · exact absurd rfl h3
    · rfl
  by_cases c1 : op' = .call
  · subst c1
    have hop : op = .call := by
      rcases hk with h | ⟨sh, _, h⟩ | ⟨h, _⟩
      · exact h.symm
      · cases h
      · exact h
    subst hop
    obtain ⟨c, f, a1, as', hc1, hc2, hc3, hc4, rfl⟩ := call_inv ht
    obtain ⟨v1, us, rfl, hv1, hus⟩ := argsOf_cons ha
    have g1 := arg_sound hF hc3 hv1
    have g2 := args_sound hF hc4 hus
    simp only [aOp, aCall] at hs
    split at hs
    · rename_i g first captured hcal
      obtain ⟨fs, cs, e1, e2, e3⟩ := callee_sound hcal g1
      have hrun := call_run (P := P) (w := w) hc1 hc2 e1
      have hL := (e2.append g2).append e3
      split at hs
      · rename_i v hp' hg
        cases hs
        refine called_wp hrun (hΓ _ _ _ _ _ hg w X μ _ hH hL) (fun v' w' hR => ?_) (fun c w' hR => ?_) (fun w' hR => hR)
        · obtain ⟨μ', v2, h1, h2, h3, h4⟩ := hR
          cases h1
          exact hA v' w' μ' h4 h2 (h3.mono hb)
        · obtain ⟨μ', p, v', h1, _⟩ := hR
          cases h1
      · rename_i v hp' hg
        cases hs
        refine called_wp hrun (hΓ _ _ _ _ _ hg w X μ _ hH hL) (fun v' w' hR => ?_) (fun c w' hR => ?_) (fun w' hR => hR)
        · obtain ⟨μ', v2, h1, h2, h3, h4⟩ := hR
          cases h1
        · obtain ⟨μ', p, v', h1, rfl, h2, h3, h4⟩ := hR
          cases h1
          exact hA v' w' μ' h4 h2 (h3.mono hb)
      · cases hs
    · cases hs
  · by_cases c2 : op' = .callp
    · subst c2
      have hop : op = .call := by
        rcases hk with h | ⟨sh, _, h⟩ | ⟨h, _⟩
        · exact absurd ht (by rw [← h]; exact not_callp)
        · cases h
        · exact h
      subst hop
      obtain ⟨c, f, a1, as', hc1, hc2, hc3, hc4, rfl⟩ := call_inv ht
      obtain ⟨v1, us, rfl, hv1, hus⟩ := argsOf_cons ha
      have g1 := arg_sound hF hc3 hv1
      have g2 := args_sound hF hc4 hus
      simp only [aOp, aCallp] at hs
      split at hs
      · rename_i s0 g as0 heq
        simp only [List.cons.injEq] at heq
        obtain ⟨rfl, rfl⟩ := heq
        split at hs
        · rename_i ps hps
          have hCP := weakenAll_sound _ _ _ hps g2
          have hE := (HR.empty hH)
          have hL := hCP.empty.lr
          cases g1 with | pv _ _ _ _ hq =>
          have e1 : a.eval f = .func (.func g) ([] : List Value).toArray ([] : List Value).toArray := by
            generalize a.eval f = u at hq
            cases hq
            rfl
          have hrun := call_run (P := P) (w := w) hc1 hc2 e1
          simp only [List.nil_append, List.append_nil] at hrun
          split at hs
          · rename_i v hp2 hg
            split at hs
            · rename_i v' hbare
              cases hs
              refine called_wp hrun (hΓ _ _ _ _ _ hg w _ μ _ hE hL) (fun v' w' hR => ?_) (fun c w' hR => ?_) (fun w' hR => hR)
              · obtain ⟨μ', v2, h1, h2, h3, h4⟩ := hR
                cases h1
                obtain ⟨k1, k2⟩ := back (b := b) hH h3
                exact hA v' w' μ (bare_sound hbare h4) k1 k2
              · obtain ⟨μ', p, v', h1, _⟩ := hR
                cases h1
            · cases hs
          · cases hs
        · cases hs
      · cases hs
    · by_cases c3 : op' = .panic
      · subst c3
        have hop : op = .panic := by
          rcases hk with h | ⟨sh, _, h⟩ | ⟨_, h⟩
          · exact h.symm
          · cases h
          · cases h
        subst hop
        obtain ⟨x, a1, hc1, hc2, rfl⟩ := panic_inv ht
        have g := arg1 hF hc2 ha
        simp only [aOp, aPanic] at hs
        split at hs
        · rename_i s0 t s p
          cases hs
          obtain ⟨y, e1, e2⟩ := g.one
          simp only [List.cons.injEq, and_true] at e1
          unfold Oper.wp
          cases e2 with | pv _ _ _ hs0 hq =>
          cases hq with | iface _ _ _ vv hs1 h2 =>
          have hrun : (execOp a.eval o).run P w = .halt (.panic (.iface t vv)) w := by
            simp only [execOp, hc1, e1]
            simp [Instr.panic, goPanic]
          rw [hrun, Oper.upon_panic]
          exact hA _ w μ (.pv _ _ _ rfl (.iface _ _ _ _ hs1 h2)) hH (Ext.refl _ _ _ _ _)
        · cases hs
      · rw [plain op' c1 c2 c3 rfl] at hs
        split at hs
        · rename_i v hp' hst
          cases hs
          exact oper_out (op_sound hb ht hk hF ha hH hst) hA
        · cases hs
end Go.Am

/- Regions in the text's order. -/
namespace Go.Am
variable {P : Program} {w : World} {X : Nat → Prop} {μ : Nat → Option Nat} {hp : Heap}

def ExitAs (w : World) (X : Nat → Prop) (μ : Nat → Option Nat) (hp : Heap) : AExit → Exit → Prop
  | .normal, .normal => True
  | .exit i, .exit j => i = j
  | .ret, .ret => True
  | .panic p, .panic chain => ∃ v, chain = [{ v, recovered := false }] ∧ AR w X μ hp (.pv none p) v
  | _, _ => False

/-- Where a piece of code lands. -/
def Lands (nt : Nat) (b : Nat) (w : World) (X : Nat → Prop) (μ : Nat → Option Nat) (hp : Heap) (ds : List Deferred) (e : AExit) (fr : Fr) (hp' : Heap) (e' : Exit) (a : Act) (w' : World) : Prop :=
  a.defers = ds ∧ a.tmps.size = nt ∧ ∃ μ', HR w' X μ' hp' ∧ FR w' X μ' hp' fr a.tmps ∧ Ext b X μ hp w μ' hp' w' ∧ ExitAs w' X μ' hp' e e'

theorem FR.put {w' : World} {μ' : Nat → Option Nat} {hp' : Heap} {b : Nat} {fr : Fr} {a : Act} {v : AV} {v' : Value} {dst : Option Nat} (h : FR w X μ hp fr a.tmps) (E : Ext b X μ hp w μ' hp' w') (hd : ∀ d, dst = some d → d < a.tmps.size) (hv : AR w' X μ' hp' v v') : FR w' X μ' hp' (fr.dst dst v) (a.put dst v').tmps := by
  cases dst with
  | none => exact fun s u hs => ⟨(h s u hs).1, E.ar (h s u hs).2⟩
  | some d =>
    intro s u hs
    have hlt := hd d rfl
    simp only [Fr.dst, Fr.look] at hs
    simp only [Act.put, Array.size_setIfInBounds]
    split at hs
    · rename_i e
      subst e
      cases hs
      exact ⟨hlt, by simpa [Array.getD, hlt] using hv⟩
    · rename_i e
      obtain ⟨h1, h2⟩ := h s u hs
      refine ⟨h1, ?_⟩
      have : (a.tmps.setIfInBounds d v').getD s undef = a.tmps.getD s undef := by
        simp only [Array.getD_eq_getD_getElem?, Array.getElem?_setIfInBounds_ne e]
      rw [this]
      exact E.ar h2

theorem put_size (a : Act) (d : Option Tmp) (v : Value) : (a.put d v).tmps.size = a.tmps.size := by cases d <;> simp [Act.put]
theorem put_defers (a : Act) (d : Option Tmp) (v : Value) : (a.put d v).defers = a.defers := by cases d <;> rfl

theorem FR.keep {fr : Fr} {t : Array Value} (h : FR w X μ hp fr t) (ks : List Nat) : FR w X μ hp (fr.keep ks) t := by
  have key : ∀ (ks : List Nat) s u, (fr.keep ks).look s = some u → fr.look s = some u := by
    intro ks
    induction ks with
    | nil => intro s u hs; simp [Fr.keep, Fr.look] at hs
    | cons k r ih =>
      intro s u hs
      simp only [Fr.keep] at hs
      split at hs
      · rename_i v hv
        simp only [Fr.look] at hs
        split at hs
        · rename_i e; subst e; cases hs; exact hv
        · exact ih s u hs
      · exact ih s u hs
  exact fun s u hs => h s u (key ks s u hs)

theorem wants_sound {nt : Nat} {ops : Array Oper} {o : Oper} {ao : AOper} {fr : Fr} {t : Array Value} {x : Bool} (hF : FR w X μ hp fr t) (h : trOper P nt ops o = some ao) (hw : wants fr ao.guard = some x) : Region.wanted o (yielded ops t) = x := by
  unfold trOper at h
  split at h
  · split at h
    · cases h
    · rename_i op as hop
      split at h
      · rename_i hg
        cases h
        simp only [wants, Option.some.injEq] at hw
        simp [Region.wanted, hg, ← hw]
      · rename_i j want hg
        split at h
        · rename_i s hs
          cases h
          simp only [wants] at hw
          split at hw
          · rename_i sh b hl
            cases hw
            obtain ⟨h1, h2⟩ := hF s _ hl
            have h3 := h2.bool_inv
            have h4 : t[s]? = some (.bool b) := by
              rw [← h3]
              simp [Array.getD, h1]
            simp [Region.wanted, hg, yielded, hs, h4]
          · rename_i hl
            cases hw
            obtain ⟨h1, h2⟩ := hF s _ hl
            cases h2 with | undef _ h2 =>
            have h4 : t[s]? = some (t.getD s undef) := by simp [Array.getD, h1]
            simp only [Region.wanted, hg, yielded, hs, Option.bind_some, h4]
            cases hv : t.getD s undef with
            | bool b => exact absurd hv (h2 b)
            | _ => rfl
          · cases hw
        · cases h
  · cases h

theorem oper_dst {nt : Nat} {ops : Array Oper} {o : Oper} {ao : AOper} (h : trOper P nt ops o = some ao) : ao.dst = o.dst ∧ (∀ d, o.dst = some d → d < nt) ∧ trOp P o = some (ao.op, ao.args) := by
  unfold trOper at h
  split at h
  · rename_i hd
    have hd' : ∀ d, o.dst = some d → d < nt := fun d e => dstOk_of hd e
    split at h
    · cases h
    · rename_i op as hop
      split at h
      · cases h; exact ⟨rfl, hd', hop⟩
      · split at h
        · cases h; exact ⟨rfl, hd', hop⟩
        · cases h
  · cases h

theorem aops_sound {Γ : Oracle} (hΓ : SoundO P Γ) {nt b : Nat} {ops : Array Oper} {e : AExit} {fr' : Fr} {hp' : Heap} {Q : Exit → Act → World → Prop} : ∀ (l : List AOper) (n i : Nat) (w : World) (μ : Nat → Option Nat) (hp : Heap) (fr : Fr) (a : Act),
    i + n = ops.size → trOps P nt ops (ops.toList.drop i) = some l → aops Γ b l fr hp = some (e, fr', hp') → b ≤ hp.length → HR w X μ hp → FR w X μ hp fr a.tmps → a.tmps.size = nt → (∀ e' a' w', Lands nt b w X μ hp a.defers e fr' hp' e' a' w' → Q e' a' w') →
    wpOps P ops Q (List.range' i n) a w
  | [], n, i, w, μ, hp, fr, a, hn, ht, hs, hb, hH, hF, hsz, hQ => by
    have h0 : n = 0 := by
      rcases Nat.eq_zero_or_pos n with h | h
      · exact h
      · exfalso
        have hlt : i < ops.toList.length := by rw [Array.length_toList]; omega
        rw [List.drop_eq_getElem_cons hlt] at ht
        simp only [trOps] at ht
        split at ht
        · cases ht
        · split at ht <;> cases ht
    subst h0
    simp only [aops, Option.some.injEq, Prod.mk.injEq] at hs
    obtain ⟨rfl, rfl, rfl⟩ := hs
    exact hQ _ _ _ ⟨rfl, hsz, μ, hH, hF, Ext.refl _ _ _ _ _, trivial⟩
  | ao :: l, n, i, w, μ, hp, fr, a, hn, ht, hs, hb, hH, hF, hsz, hQ => by
    have hlt : i < ops.size := by
      rcases Nat.lt_or_ge i ops.size with h | h
      · exact h
      · rw [List.drop_eq_nil_of_le (by simpa using h)] at ht
        cases ht
    obtain ⟨m, rfl⟩ : ∃ m, n = m + 1 := ⟨n - 1, by omega⟩
    have hlt' : i < ops.toList.length := by simpa using hlt
    rw [List.drop_eq_getElem_cons hlt'] at ht
    simp only [trOps] at ht
    split at ht
    · cases ht
    · rename_i ao' hao
      split at ht
      · rename_i l' hl'
        cases ht
        obtain ⟨d1, d2, d3⟩ := oper_dst hao
        have ho : ops[i]? = some ops.toList[i] := by simp [hlt]
        simp only [List.range'_succ, wpOps, ho]
        simp only [aops] at hs
        have rest : ∀ (v : AV) (hp2 : Heap) (v' : Value) (w2 : World) (μ2 : Nat → Option Nat), aops Γ b l (fr.dst ao.dst v) hp2 = some (e, fr', hp') → AR w2 X μ2 hp2 v v' → HR w2 X μ2 hp2 → Ext b X μ hp w μ2 hp2 w2 → wpOps P ops Q (List.range' (i + 1) m) (a.put ops.toList[i].dst v') w2 := by
          intro v hp2 v' w2 μ2 hr hv hH2 E
          refine aops_sound hΓ l m (i + 1) w2 μ2 hp2 _ _ (by omega) hl' hr (Nat.le_trans hb E.len) hH2 ?_ (by rw [put_size]; exact hsz) ?_
          · rw [d1]; exact hF.put E (fun d hd => by rw [hsz]; exact d2 d hd) hv
          · intro e' a' w' hL
            rw [put_defers] at hL
            obtain ⟨k1, k2, μ', k3, k4, k5, k6⟩ := hL
            exact hQ e' a' w' ⟨k1, k2, μ', k3, k4, E.trans k5, k6⟩
        split at hs
        · cases hs
        · rename_i hw
          rw [wants_sound hF hao hw]
          simp only [Bool.false_eq_true, if_false]
          exact rest .undef hp undef w μ hs (.undef _ fun b h => by cases h) hH (Ext.refl _ _ _ _ _)
        · rename_i hw
          rw [wants_sound hF hao hw]
          simp only [if_true]
          split at hs
          · cases hs
          · rename_i vs hvs
            split at hs
            · rename_i v hp2 hop
              exact .inl (oper_sound hΓ hb d3 (.inl rfl) hF hvs hH hop (fun v' w2 μ2 hv hH2 E => rest v hp2 v' w2 μ2 hs hv hH2 E))
            · rename_i v hp2 hop
              cases hs
              refine .inl (oper_sound hΓ hb d3 (.inl rfl) hF hvs hH hop (fun v' w2 μ2 hv hH2 E => ?_))
              exact hQ _ _ _ ⟨rfl, hsz, μ2, hH2, fun s u hs => ⟨(hF s u hs).1, E.ar (hF s u hs).2⟩, E, v', rfl, hv⟩
            · cases hs
      · cases ht

theorem region_sound {Γ : Oracle} (hΓ : SoundO P Γ) {nt b id : Nat} {ops : Array Oper} {e : AExit} {fr fr' : Fr} {hp' : Heap} {Q : Exit → Act → World → Prop} {l : List AOper} {a : Act} (ht : trOps P nt ops ops.toList = some l) (hs : aops Γ b l fr hp = some (e, fr', hp')) (hb : b ≤ hp.length)
    (hH : HR w X μ hp) (hF : FR w X μ hp fr a.tmps) (hsz : a.tmps.size = nt) (hQ : ∀ e' a' w', Lands nt b w X μ hp a.defers e fr' hp' e' a' w' → Q e' a' w') : (Code.region id ops false).wp P Q a w := by
  apply wp_region
  rw [List.range_eq_range']
  exact aops_sound hΓ l ops.size 0 w μ hp fr a (by omega) ht hs hb hH hF hsz hQ
end Go.Am

/- Settling; dropping objects that nothing shows. -/
namespace Go.Am
variable {P : Program} {w : World} {X : Nat → Prop} {μ : Nat → Option Nat} {hp : Heap}

theorem refs_go {l : List (Sh × AV)} {q : Nat} (h : q ∈ AV.refsIn.go l) : ∃ (i : Nat) (x : Sh × AV), l[i]? = some x ∧ q ∈ x.2.refsIn := by
  induction l with
  | nil => simp [AV.refsIn.go] at h
  | cons x r ih =>
    obtain ⟨s, v⟩ := x
    simp only [AV.refsIn.go, List.mem_append] at h
    rcases h with h | h
    · exact ⟨0, _, rfl, h⟩
    · obtain ⟨i, x, hx, hq⟩ := ih h
      exact ⟨i + 1, x, by simpa using hx, hq⟩
theorem refs_gol {l : List AV} {q : Nat} (h : q ∈ AV.refsIn.gol l) : ∃ (i : Nat) (x : AV), l[i]? = some x ∧ q ∈ x.refsIn := by
  induction l with
  | nil => simp [AV.refsIn.gol] at h
  | cons x r ih =>
    simp only [AV.refsIn.gol, List.mem_append] at h
    rcases h with h | h
    · exact ⟨0, _, rfl, h⟩
    · obtain ⟨i, x, hx, hq⟩ := ih h
      exact ⟨i + 1, x, by simpa using hx, hq⟩
theorem go_refs {l : List (Sh × AV)} {q i : Nat} {x : Sh × AV} (hx : l[i]? = some x) (h : q ∈ x.2.refsIn) : q ∈ AV.refsIn.go l := by
  induction l generalizing i with
  | nil => simp at hx
  | cons y r ih =>
    obtain ⟨s, v⟩ := y
    simp only [AV.refsIn.go, List.mem_append]
    cases i with
    | zero => simp at hx; subst hx; exact .inl h
    | succ i => exact .inr (ih (by simpa using hx))
theorem gol_refs {l : List AV} {q i : Nat} {x : AV} (hx : l[i]? = some x) (h : q ∈ x.refsIn) : q ∈ AV.refsIn.gol l := by
  induction l generalizing i with
  | nil => simp at hx
  | cons y r ih =>
    simp only [AV.refsIn.gol, List.mem_append]
    cases i with
    | zero => simp at hx; subst hx; exact .inl h
    | succ i => exact .inr (ih (by simpa using hx))

theorem live_take {n i : Nat} (h : live (hp.take n) i = true) : live hp i = true := by
  have hlt := live_lt h
  simp only [List.length_take] at hlt
  unfold live at *
  rw [List.getElem?_take, if_pos (by omega)] at h
  exact h
theorem im_take {n b : Nat} (h : Im X μ hp b) : Im X μ (hp.take n) b := ⟨h.1, fun i hi => h.2 i (live_take hi)⟩
theorem PR.take {n : Nat} {p : PV} {v : Value} (h : PR w (Im X μ hp) p v) : PR w (Im X μ (hp.take n)) p v := h.mono fun _ _ _ _ hI hb => ⟨im_take hI, hb⟩
theorem get_take {n i : Nat} {o : AObj} (h : hp[i]? = some o) (hi : i < n) : (hp.take n)[i]? = some o := by rw [List.getElem?_take, if_pos hi]; exact h
theorem take_get {n i : Nat} {o : AObj} (h : (hp.take n)[i]? = some o) : i < n ∧ hp[i]? = some o := by
  rw [List.getElem?_take] at h
  split at h
  · exact ⟨‹_›, h⟩
  · cases h

theorem AR.take {n : Nat} {a : AV} {v : Value} (h : AR w X μ hp a v) (hn : ∀ q ∈ a.refsIn, q < n) : AR w X μ (hp.take n) a v := by
  induction h with
  | undef v h => exact .undef v h
  | pv sh p v hs h => exact .pv sh p v hs h.take
  | agg l vs hl h _ ih => exact .agg l vs hl h fun i x v hx hv => ih i x v hx hv fun q hq => hn q (go_refs hx hq)
  | tsl sh es a h => exact .tsl sh es a h.take
  | sl sh r ver off len a cap es fz ho hv hlc ha hc => exact .sl sh r ver off len a cap es fz (get_take ho (hn r (by simp [AV.refsIn]))) hv hlc ha hc
  | ptr r off b sh v ho hb => exact .ptr r off b sh v (get_take ho (hn r (by simp [AV.refsIn]))) hb
  | eptr sh r ver i off a es fz ho hv hc => exact .eptr sh r ver i off a es fz (get_take ho (hn r (by simp [AV.refsIn]))) hv hc
  | iptr sh p off b o cs t fr v hI hb hp hs hc => exact .iptr sh p off b o cs t fr v (im_take hI) hb hp.take hs hc
  | map r b sh es ho hb => exact .map r b sh es (get_take ho (hn r (by simp [AV.refsIn]))) hb
  | func fn first captured fs cs hf hc _ _ ih ih' =>
    exact .func fn first captured fs cs hf hc (fun i a v hx hv => ih i a v hx hv fun q hq => hn q (by simp [AV.refsIn, gol_refs hx hq])) (fun i a v hx hv => ih' i a v hx hv fun q hq => hn q (by simp [AV.refsIn, gol_refs hx hq]))
  | iface t a v _ ih => exact .iface t a v (ih fun q hq => hn q (by simpa [AV.refsIn] using hq))
  | tuple l vs hl _ ih => exact .tuple l vs hl fun i x v hx hv => ih i x v hx hv fun q hq => hn q (by simp [AV.refsIn, gol_refs hx hq])

theorem AR.refs_lt {a : AV} {v : Value} (h : AR w X μ hp a v) : ∀ q ∈ a.refsIn, q < hp.length := by
  have lt : ∀ {i : Nat} {o : AObj}, hp[i]? = some o → i < hp.length := fun h => (List.getElem?_eq_some_iff.1 h).1
  induction h with
  | undef v => intro q hq; simp [AV.refsIn] at hq
  | pv sh p v hs h => intro q hq; simp [AV.refsIn] at hq
  | agg l vs hl h _ ih =>
    intro q hq
    obtain ⟨i, x, hx, hq⟩ := refs_go (by simpa [AV.refsIn] using hq)
    have hi : i < vs.length := by rw [← hl]; exact (List.getElem?_eq_some_iff.1 hx).1
    exact ih i x vs[i] hx (List.getElem?_eq_getElem hi) q hq
  | tsl sh es a h => intro q hq; simp [AV.refsIn] at hq
  | sl sh r ver off len a cap es fz ho hv hlc ha hc => intro q hq; simp [AV.refsIn] at hq; subst hq; exact lt ho
  | ptr r off b sh v ho hb => intro q hq; simp [AV.refsIn] at hq; subst hq; exact lt ho
  | eptr sh r ver i off a es fz ho hv hc => intro q hq; simp [AV.refsIn] at hq; subst hq; exact lt ho
  | iptr => intro q hq; simp [AV.refsIn] at hq
  | map r b sh es ho hb => intro q hq; simp [AV.refsIn] at hq; subst hq; exact lt ho
  | func fn first captured fs cs hf hc _ _ ih ih' =>
    intro q hq
    simp only [AV.refsIn, List.mem_append] at hq
    rcases hq with hq | hq
    · obtain ⟨i, x, hx, hq⟩ := refs_gol hq
      have hi : i < fs.length := by rw [← hf]; exact (List.getElem?_eq_some_iff.1 hx).1
      exact ih i x fs[i] hx (List.getElem?_eq_getElem hi) q hq
    · obtain ⟨i, x, hx, hq⟩ := refs_gol hq
      have hi : i < cs.length := by rw [← hc]; exact (List.getElem?_eq_some_iff.1 hx).1
      exact ih' i x cs[i] hx (List.getElem?_eq_getElem hi) q hq
  | iface t a v _ ih => intro q hq; exact ih q (by simpa [AV.refsIn] using hq)
  | tuple l vs hl _ ih =>
    intro q hq
    obtain ⟨i, x, hx, hq⟩ := refs_gol (by simpa [AV.refsIn] using hq)
    have hi : i < vs.length := by rw [← hl]; exact (List.getElem?_eq_some_iff.1 hx).1
    exact ih i x vs[i] hx (List.getElem?_eq_getElem hi) q hq

theorem HR.take {n : Nat} (h : HR w X μ hp) (hr : ∀ i sh v, i < n → hp[i]? = some (.box sh v) → ∀ q ∈ v.refsIn, q < n) : HR w X μ (hp.take n) := by
  have hle : ∀ {i : Nat}, i < (hp.take n).length → i < hp.length := fun h => by simp at h; omega
  refine ⟨fun i j b hi hj => h.inj i j b (hle hi) (hle hj), fun i b hi => h.out i b (hle hi), h.xlt, ?_, ?_, ?_⟩
  · intro i sh v hi
    obtain ⟨hi, ho⟩ := take_get hi
    obtain ⟨b, val, t, h1, h2, h3, h4, h5⟩ := h.box i sh v ho
    exact ⟨b, val, t, h1, h2, h3, h4, h5.take (hr i sh v hi ho)⟩
  · intro i sh es fz hi
    obtain ⟨hi, ho⟩ := take_get hi
    obtain ⟨h0, h1⟩ := h.arr i sh es fz ho
    refine ⟨h0, ?_⟩
    rcases h1 with h1 | ⟨b, cs, t, vals, h1, h2, h3, h4, h5⟩
    · exact .inl h1
    · exact .inr ⟨b, cs, t, vals, h1, h2, h3, fun k p v hp hv => ⟨(h4 k p v hp hv).1, (h4 k p v hp hv).2.take⟩, h5⟩
  · intro i sh es hi
    obtain ⟨hi, ho⟩ := take_get hi
    obtain ⟨b, ents, clock, h1, h2, h3, h4⟩ := h.map i sh es ho
    exact ⟨b, ents, clock, h1, h2, h3, fun k x e hx he => ⟨(h4 k x e hx he).1.take, (h4 k x e hx he).2.1.take, (h4 k x e hx he).2.2⟩⟩

theorem Ext.take {b n : Nat} {μ' : Nat → Option Nat} {hp' : Heap} {w' : World} (E : Ext b X μ hp w μ' hp' w') (hn : hp.length ≤ n) : Ext b X μ hp w μ' (hp'.take n) w' := by
  have lt : ∀ {i : Nat} {o : AObj}, hp[i]? = some o → i < n := fun h => Nat.lt_of_lt_of_le (List.getElem?_eq_some_iff.1 h).1 hn
  exact { E with
    len := by have := E.len; simp; omega
    box := fun i sh v ho => let ⟨v', h1, h2⟩ := E.box i sh v ho; ⟨v', get_take h1 (lt ho), h2⟩
    arr := fun i sh es fz ho => let ⟨es', fz', h1, h2⟩ := E.arr i sh es fz ho; ⟨es', fz', get_take h1 (lt ho), h2⟩
    map := fun i sh es ho => let ⟨es', h1, h2⟩ := E.map i sh es ho; ⟨es', get_take h1 (lt ho), h2⟩
    new := fun i h1 h2 => E.new i h1 (by simp at h2; omega) }

theorem settle_sound (b : Nat) {t : Array Value} : ∀ (l : List Nat) (st st' : St), settle l st = some st' → HR w X μ st.hp → FR w X μ st.hp st.fr t → HR w X μ st'.hp ∧ FR w X μ st'.hp st'.fr t ∧ Ext b X μ st.hp w μ st'.hp w
  | [], st, st', h, hH, hF => by
    simp only [settle, Option.some.injEq] at h
    subst h
    exact ⟨hH, hF, Ext.refl _ _ _ _ _⟩
  | s :: r, st, st', h, hH, hF => by
    have again : ∀ (fr : Fr) (hp1 : Heap), settle r ⟨fr, hp1⟩ = some st' → HR w X μ hp1 → FR w X μ hp1 fr t → Ext b X μ st.hp w μ hp1 w → HR w X μ st'.hp ∧ FR w X μ st'.hp st'.fr t ∧ Ext b X μ st.hp w μ st'.hp w := by
      intro fr hp1 h h1 h2 h3
      obtain ⟨k1, k2, k3⟩ := settle_sound b r _ _ h h1 h2
      exact ⟨k1, k2, h3.trans k3⟩
    have mv : ∀ {hp1 : Heap}, Ext b X μ st.hp w μ hp1 w → FR w X μ hp1 st.fr t := fun E s u hs => ⟨(hF s u hs).1, E.ar (hF s u hs).2⟩
    have stay : settle r st = some st' → HR w X μ st'.hp ∧ FR w X μ st'.hp st'.fr t ∧ Ext b X μ st.hp w μ st'.hp w := fun h => again st.fr st.hp h hH hF (Ext.refl _ _ _ _ _)
    simp only [settle] at h
    split at h
    · rename_i q off hl
      split at h
      · rename_i sh v hq
        split at h
        · rename_i p hp1 hf
          obtain ⟨b0, val, t0, g1, g2, g3, g4, g5⟩ := hH.box q sh v hq
          obtain ⟨e1, e2, e3⟩ := freeze_sound b w X μ _ _ _ _ _ _ hf hH g5
          obtain ⟨v1, f1, f2, f3⟩ := e1.box q sh v hq
          have E : ∀ b, Ext b X μ hp1 w μ (hp1.set q (.box sh (.pv sh p))) w := fun b => Ext.setBox f1 (fun _ x hx => by simp [AV.refsIn] at hx) g1 rfl rfl rfl rfl (fun _ _ => rfl) fun cs t fr h => ⟨cs, h, rfl⟩
          have H := e2.setBox f1 g1 (E 0) (fun _ _ => rfl) g2 g3 g4 (.pv sh p val g3 e3)
          exact again _ _ h H (mv (e1.trans (E b))) (e1.trans (E b))
        · cases h
      · exact stay h
    · rename_i s' q ver off len hl
      split at h
      · rename_i p hp1 hf
        obtain ⟨g1, g2⟩ := hF s _ hl
        obtain ⟨e1, e2, e3⟩ := freeze_sound b w X μ _ _ _ _ _ _ hf hH g2
        refine again _ _ h e2 (fun k u hk => ?_) e1
        simp only [Fr.look] at hk
        split at hk
        · rename_i e
          subst e
          cases hk
          exact ⟨g1, .pv _ _ _ (g2.vshp rfl) e3⟩
        · exact mv e1 k u hk
      · cases h
    · rename_i sh es hl
      obtain ⟨g1, g2⟩ := hF s _ hl
      refine again _ _ h hH (fun k u hk => ?_) (Ext.refl _ _ _ _ _)
      simp only [Fr.look] at hk
      split at hk
      · rename_i e
        subst e
        cases hk
        refine ⟨g1, .pv _ _ _ (g2.vshp rfl) ?_⟩
        generalize t.getD s undef = u at g2 ⊢
        cases g2 with | tsl _ _ a hq => exact hq
      · exact hF k u hk
    · exact stay h
end Go.Am

/- Regions whose order is drawn. -/
namespace Go.Am
variable {P : Program} {w : World} {X : Nat → Prop} {μ : Nat → Option Nat} {hp : Heap}

/-- One operation, with its guard. -/
def aone (Γ : Oracle) (b : Nat) (o : AOper) (fr : Fr) (hp : Heap) : Option OpRes :=
  match wants fr o.guard with
  | none => none
  | some false => some (.val .undef hp)
  | some true => match fr.argsOf o.args with
    | none => none
    | some vs => aOp Γ b o.op vs hp

theorem aops_cons (Γ : Oracle) (b : Nat) (o : AOper) (rest : List AOper) (fr : Fr) (hp : Heap) :
    aops Γ b (o :: rest) fr hp = match aone Γ b o fr hp with
      | some (.val v hp') => aops Γ b rest (fr.dst o.dst v) hp'
      | some (.panic v hp') => some (.panic v, fr, hp')
      | none => none := by
  simp only [aops, aone]
  cases wants fr o.guard with
  | none => rfl
  | some x =>
    cases x with
    | false => rfl
    | true =>
      simp only []
      cases fr.argsOf o.args with
      | none => rfl
      | some vs =>
        simp only []
        cases aOp Γ b o.op vs hp with
        | none => rfl
        | some r => cases r <;> rfl

/-- A run of the operations in the text's order, step by step. -/
structure Run (Γ : Oracle) (b : Nat) (l : List AOper) (fr : Fr) (hp : Heap) (e : AExit) (fr' : Fr) (hp' : Heap) (m : Nat) (frs : Nat → Fr) (hps : Nat → Heap) (vals : Nat → AV) : Prop where
  f0 : frs 0 = fr
  h0 : hps 0 = hp
  le : m ≤ l.length
  step : ∀ k o, k < m → l[k]? = some o → aone Γ b o (frs k) (hps k) = some (.val (vals k) (hps (k + 1))) ∧ frs (k + 1) = (frs k).dst o.dst (vals k)
  fin : (m = l.length ∧ e = .normal ∧ fr' = frs m ∧ hp' = hps m) ∨ ∃ o p, l[m]? = some o ∧ aone Γ b o (frs m) (hps m) = some (.panic p hp') ∧ e = .panic p ∧ fr' = frs m

theorem run_of {Γ : Oracle} {b : Nat} {e : AExit} {fr' : Fr} {hp' : Heap} : ∀ (l : List AOper) (fr : Fr) (hp : Heap), aops Γ b l fr hp = some (e, fr', hp') → ∃ m frs hps vals, Run Γ b l fr hp e fr' hp' m frs hps vals
  | [], fr, hp, h => by
    simp only [aops, Option.some.injEq, Prod.mk.injEq] at h
    obtain ⟨rfl, rfl, rfl⟩ := h
    exact ⟨0, fun _ => fr, fun _ => hp, fun _ => .undef, ⟨rfl, rfl, Nat.le_refl _, fun k o hk => by omega, .inl ⟨rfl, rfl, rfl, rfl⟩⟩⟩
  | o :: rest, fr, hp, h => by
    rw [aops_cons] at h
    split at h
    · rename_i v hp2 ho
      obtain ⟨m, frs, hps, vals, R⟩ := run_of rest _ _ h
      refine ⟨m + 1, fun k => if k = 0 then fr else frs (k - 1), fun k => if k = 0 then hp else hps (k - 1), fun k => if k = 0 then v else vals (k - 1), ⟨rfl, rfl, by simpa using R.le, ?_, ?_⟩⟩
      · intro k o' hk ho'
        cases k with
        | zero =>
          simp at ho'
          subst ho'
          simp only [if_true, Nat.zero_add, Nat.one_ne_zero, if_false, Nat.sub_self, R.f0, R.h0]
          exact ⟨ho, trivial⟩
        | succ k =>
          have := R.step k o' (by omega) (by simpa using ho')
          simpa using this
      · rcases R.fin with ⟨h1, h2, h3, h4⟩ | ⟨o', p, h1, h2, h3, h4⟩
        · exact .inl ⟨by simp [h1], h2, by simpa using h3, by simpa using h4⟩
        · exact .inr ⟨o', p, by simpa using h1, by simpa using h2, h3, by simpa using h4⟩
    · rename_i v hp2 ho
      cases h
      exact ⟨0, fun _ => fr', fun _ => hp, fun _ => .undef, ⟨rfl, rfl, Nat.zero_le _, fun k o hk => by omega, .inr ⟨o, v, rfl, ho, rfl, rfl⟩⟩⟩
    · cases h

/-- What a class says of the heap. -/
theorem aOp_cls {Γ : Oracle} {b : Nat} {o : AOper} {vs : List AV} {v : AV} {hp1 hp2 : Heap} (h : aOp Γ b o.op vs hp1 = some (.val v hp2)) : (o.cls = 0 → hp2 = hp1 ∧ ∀ hp3, aOp Γ b o.op vs hp3 = some (.val v hp3)) ∧ (o.cls = 1 → hp2 = hp1) := by
  have pure : ∀ op : AOp, op.isPure = true → (∀ hp1 hp2, aOp Γ b op vs hp1 = some (.val v hp2) → hp2 = hp1 ∧ ∀ hp3, aOp Γ b op vs hp3 = some (.val v hp3)) := by
    intro op hop hp1 hp2 h
    have e : ∀ hp, aOp Γ b op vs hp = match mapFst hp (spure op vs) with | some (v, hp') => some (.val v hp') | none => none := by
      intro hp
      cases op <;> first | (cases hop; done) | rfl
    rw [e] at h
    cases hs : spure op vs with
    | none => rw [hs] at h; cases h
    | some u =>
      rw [hs] at h
      cases h
      exact ⟨rfl, fun hp3 => by rw [e, hs]; rfl⟩
  have read : ∀ op : AOp, op.isPure = false → op.isRead = true → aOp Γ b op vs hp1 = some (.val v hp2) → hp2 = hp1 := by
    intro op hop hr h
    have e : aOp Γ b op vs hp1 = match mapFst hp1 (sread op vs hp1) with | some (v, hp') => some (.val v hp') | none => none := by
      cases op <;> first | (cases hr; done) | rfl
    rw [e] at h
    cases hs : sread op vs hp1 with
    | none => rw [hs] at h; cases h
    | some u => rw [hs] at h; cases h; rfl
  have callp : ∀ hp1 hp2, aOp Γ b .callp vs hp1 = some (.val v hp2) → hp2 = hp1 ∧ ∀ hp3, aOp Γ b .callp vs hp3 = some (.val v hp3) := by
    intro hp1 hp2 h
    simp only [aOp, aCallp] at h ⊢
    split at h
    · split at h
      · rename_i ps hps
        split at h
        · rename_i v0 q hg
          split at h
          · rename_i v' hb
            cases h
            exact ⟨rfl, fun hp3 => rfl⟩
          · cases h
        · cases h
      · cases h
    · cases h
  constructor
  · intro hc
    unfold AOper.cls at hc
    split at hc
    · rename_i hop
      rw [hop] at h ⊢
      exact callp _ _ h
    · cases hp' : o.op.isPure with
      | true => exact pure _ hp' _ _ h
      | false => rw [hp'] at hc; simp only [cond_false] at hc; cases hr : o.op.isRead <;> simp [hr] at hc
  · intro hc
    unfold AOper.cls at hc
    split at hc
    · cases hc
    · cases hp' : o.op.isPure with
      | true => rw [hp'] at hc; cases hc
      | false =>
        rw [hp'] at hc
        simp only [cond_false] at hc
        cases hr : o.op.isRead with
        | true => exact read _ hp' hr h
        | false => rw [hr] at hc; cases hc

theorem aone_cls {Γ : Oracle} {b : Nat} {o : AOper} {fr : Fr} {v : AV} {hp1 hp2 : Heap} (h : aone Γ b o fr hp1 = some (.val v hp2)) : (o.cls = 0 → hp2 = hp1 ∧ ∀ hp3, aone Γ b o fr hp3 = some (.val v hp3)) ∧ (o.cls = 1 → hp2 = hp1) := by
  unfold aone at *
  cases hw : wants fr o.guard with
  | none => rw [hw] at h; cases h
  | some x =>
    rw [hw] at h
    cases x with
    | false =>
      cases h
      exact ⟨fun _ => ⟨rfl, fun _ => rfl⟩, fun _ => rfl⟩
    | true =>
      simp only [] at h ⊢
      cases ha : fr.argsOf o.args with
      | none => rw [ha] at h; cases h
      | some vs => rw [ha] at h; simp only [] at h ⊢; exact aOp_cls h

theorem aone_risky {Γ : Oracle} {b : Nat} {o : AOper} {fr : Fr} {p : PV} {hp1 hp2 : Heap} (h : aone Γ b o fr hp1 = some (.panic p hp2)) : o.risky = true := by
  unfold aone at h
  split at h
  · cases h
  · cases h
  · split at h
    · cases h
    · rename_i vs hvs
      unfold AOper.risky
      split
      · rfl
      · rfl
      · rename_i n1 n2
        exfalso
        unfold aOp at h
        split at h
        · exact n1 ‹_›
        · simp only [aCallp] at h
          (repeat' split at h) <;> cases h
        · exact n2 ‹_›
        · split at h <;> cases h

theorem Run.heap {Γ : Oracle} {b : Nat} {l : List AOper} {fr fr' : Fr} {hp hp' : Heap} {e : AExit} {m : Nat} {frs : Nat → Fr} {hps : Nat → Heap} {vals : Nat → AV} (R : Run Γ b l fr hp e fr' hp' m frs hps vals) {i : Nat} : ∀ (n : Nat), i + n ≤ m → (∀ k o, i ≤ k → k < i + n → l[k]? = some o → o.cls ≠ 2) → hps (i + n) = hps i
  | 0, _, _ => rfl
  | n + 1, hm, hc => by
    rw [← R.heap n (by omega) (fun k o h1 h2 h3 => hc k o h1 (by omega) h3)]
    have hlt : i + n < l.length := Nat.lt_of_lt_of_le (by omega) R.le
    have ho : l[i + n]? = some l[i + n] := List.getElem?_eq_getElem hlt
    obtain ⟨h1, _⟩ := R.step (i + n) _ (by omega) ho
    have hcls := hc (i + n) _ (by omega) (by omega) ho
    have h3 : ∀ o : AOper, o.cls = 0 ∨ o.cls = 1 ∨ o.cls = 2 := by
      intro o
      unfold AOper.cls
      split
      · exact .inl rfl
      · cases o.op.isPure <;> cases o.op.isRead <;> simp
    rcases h3 l[i + n] with h | h | h
    · exact ((aone_cls h1).1 h).1
    · exact (aone_cls h1).2 h
    · exact absurd h hcls

/-- Whence a slot's value is, in the text's order. -/
theorem Run.look {Γ : Oracle} {b : Nat} {l : List AOper} {fr fr' : Fr} {hp hp' : Heap} {e : AExit} {m : Nat} {frs : Nat → Fr} {hps : Nat → Heap} {vals : Nat → AV} (R : Run Γ b l fr hp e fr' hp' m frs hps vals) {s : Nat} {a : AV} : ∀ (k : Nat), k ≤ m → (frs k).look s = some a →
    (∃ j o, j < k ∧ l[j]? = some o ∧ o.dst = some s ∧ a = vals j) ∨ ((∀ j o, j < k → l[j]? = some o → o.dst ≠ some s) ∧ fr.look s = some a)
  | 0, _, h => .inr ⟨fun j _ hj => by omega, by rw [R.f0] at h; exact h⟩
  | k + 1, hk, h => by
    have hlt : k < l.length := Nat.lt_of_lt_of_le (by omega) R.le
    have ho : l[k]? = some l[k] := List.getElem?_eq_getElem hlt
    obtain ⟨_, h2⟩ := R.step k _ (by omega) ho
    rw [h2] at h
    have old : l[k].dst ≠ some s → (frs k).look s = some a → (∃ j o, j < k + 1 ∧ l[j]? = some o ∧ o.dst = some s ∧ a = vals j) ∨ ((∀ j o, j < k + 1 → l[j]? = some o → o.dst ≠ some s) ∧ fr.look s = some a) := by
      intro hn h
      rcases R.look k (by omega) h with ⟨j, o, h1, h2, h3, h4⟩ | ⟨h1, h2⟩
      · exact .inl ⟨j, o, by omega, h2, h3, h4⟩
      · refine .inr ⟨fun j o hj hjo => ?_, h2⟩
        rcases Nat.lt_or_ge j k with h | h
        · exact h1 j o h hjo
        · have : j = k := by omega
          subst this
          rw [ho] at hjo
          cases hjo
          exact hn
    cases hd : l[k].dst with
    | none =>
      rw [hd] at h
      exact old (by rw [hd]; simp) h
    | some d =>
      rw [hd] at h
      simp only [Fr.dst, Fr.look] at h
      split at h
      · rename_i e
        subst e
        cases h
        exact .inl ⟨k, _, by omega, ho, hd, rfl⟩
      · rename_i e
        exact old (by rw [hd]; simpa using e) h
end Go.Am

/- Regions whose order is drawn: what the static check says. -/
namespace Go.Am
variable {P : Program} {w : World} {X : Nat → Prop} {μ : Nat → Option Nat} {hp : Heap}

theorem mem_ins {x y : Nat} {l : List Nat} : y ∈ ins x l ↔ y = x ∨ y ∈ l := by
  induction l with
  | nil => simp [ins]
  | cons z r ih =>
    simp only [ins]
    split
    · simp
    · split
      · rename_i h; subst h; simp
      · simp [ih]; constructor <;> (intro h; rcases h with h | h | h <;> simp [h])
theorem mem_union {a b : List Nat} {y : Nat} : y ∈ union a b ↔ y ∈ a ∨ y ∈ b := by
  unfold union
  induction a generalizing b with
  | nil => simp
  | cons x r ih =>
    simp only [List.foldl_cons, ih, mem_ins, List.mem_cons]
    constructor
    · rintro (h | h | h) <;> simp [h]
    · rintro ((h | h) | h) <;> simp [h]

/-- Before an operation: what an edge of its names, and what stands before that. -/
theorem mem_closStep {acc : List (List Nat)} {o : Oper} {j : Nat} (h : j ∈ closStep acc o) : ∃ e ∈ o.after.toList, Region.binds .any e = true ∧ (j = e.on ∨ j ∈ acc.getD e.on []) := by
  unfold closStep at h
  generalize o.after.toList = l at h ⊢
  induction l with
  | nil => simp at h
  | cons e r ih =>
    simp only [List.foldr_cons] at h
    split at h
    · rename_i hb
      rw [mem_ins, mem_union] at h
      rcases h with h | h | h
      · exact ⟨e, by simp, hb, .inl h⟩
      · exact ⟨e, by simp, hb, .inr h⟩
      · obtain ⟨f, hf, k⟩ := ih h
        exact ⟨f, by simp [hf], k⟩
    · obtain ⟨f, hf, k⟩ := ih h
      exact ⟨f, by simp [hf], k⟩

theorem clos_get (acc : List (List Nat)) : ∀ (l : List Oper), (clos acc l).length = acc.length + l.length ∧ (∀ i, i < acc.length → (clos acc l)[i]? = acc[i]?) ∧
    ∀ i o, l[i]? = some o → (clos acc l)[acc.length + i]? = some (closStep ((clos acc l).take (acc.length + i)) o)
  | [] => ⟨by simp [clos], fun i _ => rfl, fun i o h => by simp at h⟩
  | o :: r => by
    obtain ⟨h1, h2, h3⟩ := clos_get (acc ++ [closStep acc o]) r
    simp only [clos]
    refine ⟨by rw [h1]; simp; omega, fun i hi => by rw [h2 i (by simp; omega)]; exact List.getElem?_append_left hi, fun i o' ho => ?_⟩
    cases i with
    | zero =>
      simp at ho
      subst ho
      rw [Nat.add_zero, h2 acc.length (by simp)]
      simp only [List.getElem?_concat_length, Option.some.injEq]
      congr 1
      symm
      apply List.ext_getElem?
      intro k
      by_cases hk : k < acc.length
      · rw [List.getElem?_take, if_pos hk, h2 k (by simp; omega), List.getElem?_append_left hk]
      · rw [List.getElem?_take, if_neg hk, List.getElem?_eq_none (by omega)]
    | succ i =>
      have := h3 i o' (by simpa using ho)
      simp only [List.length_append, List.length_singleton] at this
      rw [show acc.length + (i + 1) = acc.length + 1 + i by omega]
      exact this

theorem edges_of : ∀ (l : List Oper) (n : Nat), edgesOk n l = true → ∀ i o, l[i]? = some o → ∀ e ∈ o.after.toList, Region.binds .any e = true → e.on < n + i
  | [], n, _, i, o, h => by simp at h
  | x :: r, n, h, i, o, ho => by
    simp only [edgesOk, Bool.and_eq_true, List.all_eq_true] at h
    cases i with
    | zero =>
      simp at ho
      subst ho
      intro e he hb
      have := h.1 e he
      simpa [hb] using this
    | succ i =>
      intro e he hb
      have := edges_of r (n + 1) h.2 i o (by simpa using ho) e he hb
      omega

/-- A set of operations that have run. -/
def Shut (ops : Array Oper) (L : Array Bool) : Prop := ∀ i, L.getD i false = true → ∀ j ∈ (clos [] ops.toList).getD i [], L.getD j false = true

theorem ready_clos {ops : Array Oper} {L : Array Bool} {i : Nat} (hE : edgesOk 0 ops.toList = true) (hS : Shut ops L) (hi : i ∈ Region.ready .any ops L) : i < ops.size ∧ L.getD i true = false ∧ ∀ j ∈ (clos [] ops.toList).getD i [], L.getD j false = true := by
  unfold Region.ready at hi
  simp only [List.mem_filter, List.mem_range, Bool.and_eq_true, Bool.not_eq_true'] at hi
  obtain ⟨h1, h2, h3⟩ := hi
  refine ⟨h1, h2, fun j hj => ?_⟩
  have ho : ops[i]? = some ops[i] := Array.getElem?_eq_getElem h1
  rw [ho] at h3
  simp only [Option.map_some, Option.getD_some] at h3
  rw [← Array.all_toList, List.all_eq_true] at h3
  obtain ⟨c1, c2, c3⟩ := clos_get [] ops.toList
  have hc := c3 i ops[i] (by simp [h1])
  simp only [List.length_nil, Nat.zero_add] at hc
  rw [List.getD_eq_getElem?_getD, hc, Option.getD_some] at hj
  obtain ⟨e, he, hb, hje⟩ := mem_closStep hj
  have hlt := edges_of _ 0 hE i ops[i] (by simp [h1]) e he hb
  have hon : L.getD e.on false = true := by
    have := h3 e he
    simpa [hb] using this
  rcases hje with rfl | hje
  · exact hon
  · refine hS e.on hon j ?_
    rw [List.getD_eq_getElem?_getD] at hje ⊢
    rw [List.getElem?_take, if_pos (by omega)] at hje
    exact hje

theorem none_ready {ops : Array Oper} {L : Array Bool} (hE : edgesOk 0 ops.toList = true) (hL : L.size = ops.size) (h : Region.ready .any ops L = []) : ∀ i, i < ops.size → L.getD i false = true := by
  intro i
  induction i using Nat.strongRecOn with
  | _ i ih =>
    intro hi
    cases hx : L.getD i false with
    | true => rfl
    | false =>
      exfalso
      have : i ∈ Region.ready .any ops L := by
        unfold Region.ready
        simp only [List.mem_filter, List.mem_range, Bool.and_eq_true, Bool.not_eq_true']
        refine ⟨hi, by rw [← hx]; simp [Array.getD, hL, hi], ?_⟩
        have ho : ops[i]? = some ops[i] := Array.getElem?_eq_getElem hi
        rw [ho]
        simp only [Option.map_some, Option.getD_some]
        rw [← Array.all_toList, List.all_eq_true]
        intro e he
        cases hb : Region.binds .any e with
        | false => rfl
        | true =>
          have hlt := edges_of _ 0 hE i ops[i] (by simp [hi]) e he hb
          have := ih e.on (by omega) (by omega)
          simpa using this
      rw [h] at this
      cases this

theorem shut_set {ops : Array Oper} {L : Array Bool} {i : Nat} (hL : L.size = ops.size) (hS : Shut ops L) (hi : ∀ j ∈ (clos [] ops.toList).getD i [], L.getD j false = true) (hlt : i < ops.size) : Shut ops (L.setIfInBounds i true) := by
  have up : ∀ j, L.getD j false = true → (L.setIfInBounds i true).getD j false = true := by
    intro j hj
    rw [Array.getD_eq_getD_getElem?] at hj ⊢
    by_cases e : i = j
    · subst e; rw [Array.getElem?_setIfInBounds_self_of_lt (by omega)]; rfl
    · rw [Array.getElem?_setIfInBounds_ne e]; exact hj
  intro k hk j hj
  by_cases e : i = k
  · subst e; exact up j (hi j hj)
  · refine up j (hS k ?_ j hj)
    rw [Array.getD_eq_getD_getElem?] at hk ⊢
    rwa [Array.getElem?_setIfInBounds_ne e] at hk

theorem noDup_of : ∀ (l : List AOper), noDup l = true → ∀ (i j : Nat) (x y : AOper) (d : Nat), l[i]? = some x → l[j]? = some y → x.dst = some d → y.dst = some d → i = j
  | [], _, i, j, x, y, d, h, _, _, _ => by simp at h
  | o :: r, hn, i, j, x, y, d, hx, hy, dx, dy => by
    simp only [noDup, Bool.and_eq_true] at hn
    have head : ∀ (k : Nat) (z : AOper), r[k]? = some z → o.dst = some d → z.dst ≠ some d := by
      intro k z hz ho hzd
      have h1 := hn.1
      rw [ho] at h1
      simp only [Bool.not_eq_true', List.any_eq_false] at h1
      exact h1 z (List.mem_of_getElem? hz) (by simp [hzd])
    cases i with
    | zero => cases j with
      | zero => rfl
      | succ j =>
        simp at hx
        subst hx
        exact absurd dy (head j y (by simpa using hy) dx)
    | succ i => cases j with
      | zero =>
        simp at hy
        subst hy
        exact absurd dx (head i x (by simpa using hx) dy)
      | succ j => rw [noDup_of r hn.2 i j x y d (by simpa using hx) (by simpa using hy) dx dy]

theorem draw_pair {ops : Array Oper} {l : List AOper} (h : drawOk ops l = true) : edgesOk 0 ops.toList = true ∧ noDup l = true ∧ ∀ i j a b, j < i → l[j]? = some a → l[i]? = some b → j ∈ (clos [] ops.toList).getD i [] ∨ a.indep b = true := by
  simp only [drawOk, Bool.and_eq_true, List.all_eq_true] at h
  obtain ⟨⟨h1, h2⟩, h3⟩ := h
  refine ⟨h1, h2, fun i j a b hji ha hb => ?_⟩
  have hi : i < l.length := (List.getElem?_eq_some_iff.1 hb).1
  have := h3 i (List.mem_range.2 hi) j (List.mem_range.2 hji)
  simp only [Bool.or_eq_true, ha, hb] at this
  rcases this with h | h
  · exact .inl (by simpa using h)
  · exact .inr h

theorem pan_pair {ops : Array Oper} {l : List AOper} (h : panOk ops l = true) : ∀ i j a b, j < i → l[j]? = some a → l[i]? = some b → j ∈ (clos [] ops.toList).getD i [] ∨ (a.risky = false ∧ b.risky = false) := by
  intro i j a b hji ha hb
  simp only [panOk, List.all_eq_true] at h
  have hi : i < l.length := (List.getElem?_eq_some_iff.1 hb).1
  have := h i (List.mem_range.2 hi) j (List.mem_range.2 hji)
  simp only [Bool.or_eq_true, ha, hb] at this
  rcases this with h | h
  · exact .inl (by simpa using h)
  · exact .inr (by simpa using h)
end Go.Am

/- Regions whose order is drawn: any order comes to what the text's order comes to. -/
namespace Go.Am
variable {P : Program} {w : World} {X : Nat → Prop} {μ : Nat → Option Nat} {hp : Heap}

theorem keep_look {fr : Fr} {s : Nat} : ∀ {ks : List Nat}, s ∈ ks → (fr.keep ks).look s = fr.look s
  | [], h => by cases h
  | k :: r, h => by
    simp only [Fr.keep]
    by_cases e : k = s
    · subst e
      cases hv : fr.look k with
      | some v => simp [Fr.look]
      | none =>
        simp only []
        by_cases hm : k ∈ r
        · rw [keep_look hm, hv]
        · have : ∀ (r : List Nat), k ∉ r → (fr.keep r).look k = none := by
            intro r
            induction r with
            | nil => intro _; rfl
            | cons x r ih =>
              intro hx
              simp only [List.mem_cons, not_or] at hx
              simp only [Fr.keep]
              split
              · simp only [Fr.look, Ne.symm hx.1, if_false]; exact ih hx.2
              · exact ih hx.2
          exact this r hm
    · have hm : s ∈ r := by simpa [Ne.symm e] using h
      split
      · simp only [Fr.look, e, if_false]; exact keep_look hm
      · exact keep_look hm
theorem keep_sub {fr : Fr} {s : Nat} {u : AV} : ∀ {ks : List Nat}, (fr.keep ks).look s = some u → s ∈ ks ∧ fr.look s = some u
  | [], h => by simp [Fr.keep, Fr.look] at h
  | k :: r, h => by
    simp only [Fr.keep] at h
    split at h
    · rename_i v hv
      simp only [Fr.look] at h
      split at h
      · rename_i e; subst e; cases h; exact ⟨by simp, hv⟩
      · obtain ⟨h1, h2⟩ := keep_sub h; exact ⟨by simp [h1], h2⟩
    · obtain ⟨h1, h2⟩ := keep_sub h; exact ⟨by simp [h1], h2⟩

theorem argsOf_congr {f g : Fr} : ∀ {as : List AArg}, (∀ s ∈ tmpsOf as, f.look s = g.look s) → f.argsOf as = g.argsOf as
  | [], _ => rfl
  | a :: r, h => by
    have hr : f.argsOf r = g.argsOf r := argsOf_congr fun s hs => h s (by cases a <;> simp [tmpsOf, hs])
    have ha : f.arg a = g.arg a := by
      cases a with
      | t s => exact h s (by simp [tmpsOf])
      | c v => rfl
    simp only [Fr.argsOf, ha, hr]
theorem aone_congr {Γ : Oracle} {b : Nat} {o : AOper} {f g : Fr} (h : ∀ s ∈ o.uses, f.look s = g.look s) : aone Γ b o f hp = aone Γ b o g hp := by
  have hg : wants f o.guard = wants g o.guard := by
    unfold AOper.uses at h
    cases hgd : o.guard with
    | none => rfl
    | some x =>
      rw [hgd] at h
      simp only [wants, h x.1 (by simp)]
  have ha : f.argsOf o.args = g.argsOf o.args := argsOf_congr fun s hs => h s (by unfold AOper.uses; split <;> simp [hs])
  simp only [aone, hg, ha]

theorem toP_same (o : AOper) : o.toP.dst = o.dst ∧ o.toP.args = o.args ∧ o.toP.guard = o.guard ∧ o.toP.op.alike o.op := by
  unfold AOper.toP
  split
  · rename_i h; exact ⟨rfl, rfl, rfl, by rw [h]; exact .inr (.inr ⟨rfl, rfl⟩)⟩
  · rename_i sh h; exact ⟨rfl, rfl, rfl, by rw [h]; exact .inr (.inl ⟨sh, rfl, rfl⟩)⟩
  · exact ⟨rfl, rfl, rfl, .inl rfl⟩

theorem countP_lt {p q : Nat → Bool} {i : Nat} : ∀ {l : List Nat}, i ∈ l → (∀ x, q x = true → p x = true) → p i = true → q i = false → l.countP q < l.countP p
  | [], h, _, _, _ => by cases h
  | x :: r, h, hpq, hp, hq => by
    have le : ∀ r : List Nat, r.countP q ≤ r.countP p := by
      intro r
      induction r with
      | nil => simp
      | cons x r ih =>
        simp only [List.countP_cons]
        have := hpq x
        cases hqx : q x <;> cases hpx : p x <;> simp_all <;> omega
    simp only [List.countP_cons]
    by_cases e : x = i
    · subst e
      rw [hp, hq]
      have := le r
      simp
      omega
    · have hm : i ∈ r := by simpa [Ne.symm e] using h
      have := countP_lt hm hpq hp hq
      have h1 := hpq x
      cases hqx : q x <;> cases hpx : p x <;> simp_all <;> omega

theorem indep_cls {a b : AOper} (h : a.indep b = true) : a.cls = 0 ∨ b.cls = 0 ∨ (a.cls = 1 ∧ b.cls = 1) := by
  simp only [AOper.indep, Bool.and_eq_true, Bool.or_eq_true, beq_iff_eq] at h
  rcases h.2 with (h | h) | h
  · exact .inl h
  · exact .inr (.inl h)
  · exact .inr (.inr h)
theorem indep_fst {a b : AOper} {d : Nat} (h : a.indep b = true) (hd : a.dst = some d) : d ∉ b.uses := by
  simp only [AOper.indep, Bool.and_eq_true, hd] at h
  intro hm
  have := h.1.1
  simp [hm] at this
theorem indep_snd {a b : AOper} {d : Nat} (h : a.indep b = true) (hd : b.dst = some d) : d ∉ a.uses := by
  simp only [AOper.indep, Bool.and_eq_true, hd] at h
  intro hm
  have := h.1.2
  simp [hm] at this

/-- Whence a slot's value is after some operations. -/
def LS (l : List AOper) (vals : Nat → AV) (fr : Fr) (L : Array Bool) (s : Nat) (a : AV) : Prop :=
  (∃ j o, L.getD j false = true ∧ l[j]? = some o ∧ o.dst = some s ∧ a = vals j) ∨ ((∀ j o, l[j]? = some o → o.dst = some s → L.getD j false = false) ∧ fr.look s = some a)

/-- The state after some operations. -/
structure DInv (nt b : Nat) (w0 : World) (X : Nat → Prop) (μ0 : Nat → Option Nat) (hp : Heap) (ds : List Deferred) (ops : Array Oper) (l : List AOper) (fr : Fr) (m : Nat) (hps : Nat → Heap) (vals : Nat → AV) (L : Array Bool) (a : Act) (w : World) : Prop where
  size : L.size = ops.size
  shut : Shut ops L
  lt : ∀ i, L.getD i false = true → i < m
  ds : a.defers = ds
  tsz : a.tmps.size = nt
  st : ∃ μ h, h ≤ m ∧ (∀ k o, l[k]? = some o → o.cls = 2 → (L.getD k false = true ↔ k < h)) ∧ HR w X μ (hps h) ∧ b ≤ (hps h).length ∧ Ext b X μ0 hp w0 μ (hps h) w ∧
    ∀ s v, LS l vals fr L s v → s < a.tmps.size ∧ AR w X μ (hps h) v (a.tmps.getD s undef)

theorem getD_set {L : Array Bool} {i j : Nat} (hi : i < L.size) : (L.setIfInBounds i true).getD j false = if j = i then true else L.getD j false := by
  rw [Array.getD_eq_getD_getElem?, Array.getD_eq_getD_getElem?]
  by_cases e : j = i
  · subst e; rw [if_pos rfl, Array.getElem?_setIfInBounds_self_of_lt hi]; rfl
  · rw [if_neg e, Array.getElem?_setIfInBounds_ne (Ne.symm e)]

section
variable {Γ : Oracle} {nt b : Nat} {w0 : World} {μ0 : Nat → Option Nat} {ds : List Deferred} {ops : Array Oper} {l : List AOper} {fr fr' : Fr} {hp' : Heap} {e : AExit} {m : Nat} {frs : Nat → Fr} {hps : Nat → Heap} {vals : Nat → AV} {L : Array Bool} {a : Act}

theorem DInv.next (hD : noDup l = true) (D : DInv nt b w0 X μ0 hp ds ops l fr m hps vals L a w) {i : Nat} {o : Oper} {ao : AOper} (hi : i < ops.size) (hLi : L.getD i false = false) (him : i < m) (hcl : ∀ j ∈ (clos [] ops.toList).getD i [], L.getD j false = true) (hao : l[i]? = some ao) (hdst : ao.dst = o.dst) (hnt : ∀ d, o.dst = some d → d < nt)
    {h h' : Nat} {μ1 μ' : Nat → Option Nat} {w' : World} {v' : Value} (E0 : Ext b X μ0 hp w0 μ1 (hps h) w) (hFS : ∀ s v, LS l vals fr L s v → s < a.tmps.size ∧ AR w X μ1 (hps h) v (a.tmps.getD s undef)) (hb : b ≤ (hps h).length)
    (hh' : h' ≤ m) (hiff : ∀ k o, l[k]? = some o → o.cls = 2 → ((L.setIfInBounds i true).getD k false = true ↔ k < h')) (hv : AR w' X μ' (hps h') (vals i) v') (hH : HR w' X μ' (hps h')) (E : Ext b X μ1 (hps h) w μ' (hps h') w') :
    DInv nt b w0 X μ0 hp ds ops l fr m hps vals (L.setIfInBounds i true) (a.put o.dst v') w' where
  size := by simp [D.size]
  shut := shut_set D.size D.shut hcl hi
  lt := fun j hj => by
    rw [getD_set (by rw [D.size]; exact hi)] at hj
    split at hj
    · rename_i e; subst e; exact him
    · exact D.lt j hj
  ds := by rw [put_defers]; exact D.ds
  tsz := by rw [put_size]; exact D.tsz
  st := by
    refine ⟨μ', h', hh', hiff, hH, Nat.le_trans hb E.len, E0.trans E, fun s u hs => ?_⟩
    have hLs := D.size
    have old : o.dst ≠ some s → LS l vals fr L s u → s < (a.put o.dst v').tmps.size ∧ AR w' X μ' (hps h') u ((a.put o.dst v').tmps.getD s undef) := by
      intro hne hls
      obtain ⟨h1, h2⟩ := hFS s u hls
      refine ⟨by rw [put_size]; exact h1, ?_⟩
      have : (a.put o.dst v').tmps.getD s undef = a.tmps.getD s undef := by
        cases hd : o.dst with
        | none => rfl
        | some d =>
          have : d ≠ s := fun e => hne (by rw [hd, e])
          simp only [Act.put, Array.getD_eq_getD_getElem?, Array.getElem?_setIfInBounds_ne this]
      rw [this]
      exact E.ar h2
    rcases hs with ⟨j, oj, hj, hoj, hdj, rfl⟩ | ⟨hall, hlook⟩
    · rw [getD_set (by rw [hLs]; exact hi)] at hj
      split at hj
      · rename_i e
        subst e
        rw [hao] at hoj
        cases hoj
        rw [hdst] at hdj
        have hlt := hnt s hdj
        rw [← D.tsz] at hlt
        rw [hdj]
        simp only [Act.put, Array.size_setIfInBounds]
        exact ⟨hlt, by simpa [Array.getD, hlt] using hv⟩
      · rename_i hne
        refine old (fun hd => ?_) (.inl ⟨j, oj, hj, hoj, hdj, rfl⟩)
        exact hne (noDup_of l hD j i oj ao s hoj hao hdj (by rw [hdst]; exact hd))
    · refine old (fun hd => ?_) (.inr ⟨fun j oj hoj hdj => ?_, hlook⟩)
      · have := hall i ao hao (by rw [hdst]; exact hd)
        rw [getD_set (by rw [hLs]; exact hi)] at this
        simp at this
      · have := hall j oj hoj hdj
        rw [getD_set (by rw [hLs]; exact hi)] at this
        split at this
        · cases this
        · exact this
end
end Go.Am

/- Regions whose order is drawn: the step and the whole. -/
namespace Go.Am
variable {P : Program} {w : World} {X : Nat → Prop} {μ : Nat → Option Nat} {hp : Heap}

/-- The translated operations stand for the region's. -/
def Tie (P : Program) (nt : Nat) (ops : Array Oper) (l : List AOper) : Prop :=
  l.length = ops.size ∧ ∀ (i : Nat) (o : Oper), ops[i]? = some o → ∃ ao0 ao : AOper, trOper P nt ops o = some ao0 ∧ l[i]? = some ao ∧ (ao = ao0 ∨ ao = ao0.toP)

section
variable {Γ : Oracle} {nt b : Nat} {w0 : World} {μ0 : Nat → Option Nat} {ds : List Deferred} {ops : Array Oper} {l : List AOper} {fr fr' : Fr} {hp' : Heap} {e : AExit} {m : Nat} {frs : Nat → Fr} {hps : Nat → Heap} {vals : Nat → AV} {L : Array Bool} {a : Act}
variable {Q : Exit → Act → World → Prop}

theorem draw_step (hΓ : SoundO P Γ) (hT : Tie P nt ops l) (hdraw : drawOk ops l = true) (hpan : (∃ p, e = .panic p) → panOk ops l = true) (R : Run Γ b l fr hp e fr' hp' m frs hps vals) (D : DInv nt b w0 X μ0 hp ds ops l fr m hps vals L a w)
    (hQ : ∀ e' a' w', Lands nt b w0 X μ0 hp ds e fr' hp' e' a' w' → Q e' a' w') {i : Nat} (hi : i ∈ Region.ready .any ops L) :
    wpOp P ops Q i (fun a' w' => DInv nt b w0 X μ0 hp ds ops l fr m hps vals (L.setIfInBounds i true) a' w') a w := by
  obtain ⟨dE, dN, dP⟩ := draw_pair hdraw
  obtain ⟨r1, r2, r3⟩ := ready_clos dE D.shut hi
  have hLi : L.getD i false = false := by
    rw [Array.getD_eq_getD_getElem?] at r2 ⊢
    have : i < L.size := by rw [D.size]; exact r1
    simp [this] at r2 ⊢
    exact r2
  obtain ⟨o, ho⟩ : ∃ o, ops[i]? = some o := ⟨_, Array.getElem?_eq_getElem r1⟩
  obtain ⟨ao0, ao, t1, t2, t3⟩ := hT.2 i o ho
  obtain ⟨d1, d2, d3⟩ := oper_dst t1
  have hsame : ao.dst = ao0.dst ∧ ao.args = ao0.args ∧ ao.guard = ao0.guard ∧ ao.op.alike ao0.op := by
    rcases t3 with rfl | rfl
    · exact ⟨rfl, rfl, rfl, .inl rfl⟩
    · exact toP_same _
  have hA : ∀ j x, j < i → l[j]? = some x → L.getD j false = false → x.indep ao = true := by
    intro j x hj hx hLj
    rcases dP i j x ao hj hx t2 with h | h
    · rw [r3 j h] at hLj; cases hLj
    · exact h
  have hB : ∀ j x, i < j → l[j]? = some x → L.getD j false = true → ao.indep x = true := by
    intro j x hj hx hLj
    rcases dP j i ao x hj t2 hx with h | h
    · have := D.shut j hLj i h
      rw [hLi] at this; cases this
    · exact h
  obtain ⟨μ1, h, hm, hiff, hH, hb, hE, hFS⟩ := D.st
  have him : i ≤ m := by
    rcases Nat.lt_or_ge m i with hlt | hge
    · exfalso
      rcases R.fin with ⟨f1, _⟩ | ⟨om, p, f1, f2, f3, f4⟩
      · have := (List.getElem?_eq_some_iff.1 t2).1; omega
      · rcases pan_pair (hpan ⟨p, f3⟩) i m om ao hlt f1 t2 with h | h
        · have := D.lt m (r3 m h); omega
        · rw [aone_risky f2] at h; cases h.1
    · exact hge
  -- the slots that the operation looks at
  have hLS : ∀ s u, s ∈ ao.uses → (frs i).look s = some u → LS l vals fr L s u := by
    intro s u hs hlook
    rcases R.look i him hlook with ⟨j, oj, hj, hoj, hdj, rfl⟩ | ⟨hnone, hfr⟩
    · refine .inl ⟨j, oj, ?_, hoj, hdj, rfl⟩
      cases hLj : L.getD j false with
      | true => rfl
      | false => exact absurd hs (indep_fst (hA j oj hj hoj hLj) hdj)
    · refine .inr ⟨fun j oj hoj hdj => ?_, hfr⟩
      cases hLj : L.getD j false with
      | false => rfl
      | true =>
        exfalso
        rcases Nat.lt_trichotomy j i with h | h | h
        · exact hnone j oj h hoj hdj
        · subst h; rw [hLi] at hLj; cases hLj
        · exact indep_snd (hB j oj h hoj hLj) hdj hs
  have hF : FR w X μ1 (hps h) ((frs i).keep ao.uses) a.tmps := fun s u hs => by
    obtain ⟨k1, k2⟩ := keep_sub hs
    exact hFS s u (hLS s u k1 k2)
  have hone : ∀ hp, aone Γ b ao ((frs i).keep ao.uses) hp = aone Γ b ao (frs i) hp := fun hp => aone_congr fun s hs => keep_look hs
  have hheap : ao.cls ≠ 0 → hps h = hps i := by
    intro hc
    have bad : ∀ k x, l[k]? = some x → x.cls = 2 → (k < i → L.getD k false = true) ∧ (i < k → L.getD k false = false) := by
      intro k x hx hx2
      constructor
      · intro hk
        cases hLk : L.getD k false with
        | true => rfl
        | false =>
          rcases indep_cls (hA k x hk hx hLk) with h | h | ⟨h, _⟩
          · omega
          · exact absurd h hc
          · omega
      · intro hk
        cases hLk : L.getD k false with
        | false => rfl
        | true =>
          rcases indep_cls (hB k x hk hx hLk) with h | h | ⟨_, h⟩
          · exact absurd h hc
          · omega
          · omega
    rcases Nat.le_total h i with hle | hle
    · have := R.heap (i := h) (i - h) (by omega) (fun k x k1 k2 hx hx2 => by
        have := (bad k x hx hx2).1 (by omega)
        have := (hiff k x hx hx2).1 this
        omega)
      rw [show h + (i - h) = i by omega] at this
      exact this.symm
    · have := R.heap (i := i) (h - i) (by omega) (fun k x k1 k2 hx hx2 => by
        have hk := (hiff k x hx hx2).2 (by omega)
        rcases Nat.lt_or_ge i k with hlt | hge
        · rw [(bad k x hx hx2).2 hlt] at hk; cases hk
        · have : k = i := by omega
          subst this
          rw [hLi] at hk; cases hk)
      rw [show i + (h - i) = h by omega] at this
      exact this
  -- what it comes to here
  have hres : (i < m ∧ ∃ h', h' ≤ m ∧ aone Γ b ao (frs i) (hps h) = some (.val (vals i) (hps h')) ∧ ∀ k o, l[k]? = some o → o.cls = 2 → ((L.setIfInBounds i true).getD k false = true ↔ k < h')) ∨ (i = m ∧ ∃ p, e = .panic p ∧ fr' = frs m ∧ aone Γ b ao (frs i) (hps h) = some (.panic p hp')) := by
    have hsz : i < L.size := by rw [D.size]; exact r1
    rcases Nat.lt_or_ge i m with hlt | hge
    · refine .inl ⟨hlt, ?_⟩
      obtain ⟨s1, _⟩ := R.step i ao hlt t2
      have notwo : ao.cls ≠ 2 → ∀ k o, l[k]? = some o → o.cls = 2 → ((L.setIfInBounds i true).getD k false = true ↔ k < h) := by
        intro hc k x hx hx2
        have hki : k ≠ i := by rintro rfl; rw [t2] at hx; cases hx; exact hc hx2
        rw [getD_set hsz, if_neg hki]
        exact hiff k x hx hx2
      by_cases c0 : ao.cls = 0
      · exact ⟨h, hm, ((aone_cls s1).1 c0).2 _, notwo (by omega)⟩
      · rw [hheap c0]
        by_cases c1 : ao.cls = 1
        · refine ⟨h, hm, ?_, notwo (by omega)⟩
          rw [s1, (aone_cls s1).2 c1, hheap c0]
        · refine ⟨i + 1, by omega, s1, fun k x hx hx2 => ?_⟩
          rw [getD_set hsz]
          rcases Nat.lt_trichotomy k i with hk | hk | hk
          · rw [if_neg (by omega)]
            have : L.getD k false = true := by
              cases hLk : L.getD k false with
              | true => rfl
              | false => rcases indep_cls (hA k x hk hx hLk) with h | h | ⟨h, _⟩ <;> omega
            simp [this]; omega
          · subst hk; simp
          · rw [if_neg (by omega)]
            have : L.getD k false = false := by
              cases hLk : L.getD k false with
              | false => rfl
              | true => rcases indep_cls (hB k x hk hx hLk) with h | h | ⟨_, h⟩ <;> omega
            simp [this]; omega
    · have hie : i = m := by omega
      refine .inr ⟨hie, ?_⟩
      rcases R.fin with ⟨f1, _⟩ | ⟨om, p, f1, f2, f3, f4⟩
      · have := (List.getElem?_eq_some_iff.1 t2).1; omega
      · subst hie
        rw [t2] at f1
        cases f1
        have hr := aone_risky f2
        have hc : ao.cls ≠ 0 := by
          unfold AOper.risky at hr
          unfold AOper.cls
          split at hr
          · rename_i h; rw [h]; simp [AOp.isPure, AOp.isRead]
          · rename_i h; rw [h]; simp [AOp.isPure, AOp.isRead]
          · cases hr
        rw [hheap hc]
        exact ⟨p, f3, f4, f2⟩
  simp only [wpOp, ho]
  have fin : ∀ {h' : Nat} {μ' : Nat → Option Nat} {w' : World} {v' : Value}, i < m → h' ≤ m → (∀ k o, l[k]? = some o → o.cls = 2 → ((L.setIfInBounds i true).getD k false = true ↔ k < h')) → AR w' X μ' (hps h') (vals i) v' → HR w' X μ' (hps h') → Ext b X μ1 (hps h) w μ' (hps h') w' →
      DInv nt b w0 X μ0 hp ds ops l fr m hps vals (L.setIfInBounds i true) (a.put o.dst v') w' := fun hlt hh' hif hv hH' E =>
    D.next dN r1 hLi hlt r3 t2 (by rw [hsame.1, d1]) d2 hE hFS hb hh' hif hv hH' E
  have hwant : ∀ x, wants ((frs i).keep ao.uses) ao.guard = some x → Region.wanted o (yielded ops a.tmps) = x := fun x hx => wants_sound hF t1 (by rw [← hsame.2.2.1]; exact hx)
  rcases hres with ⟨hlt, h', hh', hao, hif⟩ | ⟨hie, p, he, hfr, hao⟩
  · rw [← hone] at hao
    unfold aone at hao
    split at hao
    · cases hao
    · rename_i hw
      rw [hwant _ hw]
      simp only [Bool.false_eq_true, if_false]
      simp only [Option.some.injEq, OpRes.val.injEq] at hao
      obtain ⟨hv, hhp⟩ := hao
      exact fin (v' := undef) (μ' := μ1) hlt hh' hif (by rw [← hv]; exact .undef _ fun b h => by cases h) (by rw [← hhp]; exact hH) (by rw [← hhp]; exact Ext.refl _ _ _ _ _)
    · rename_i hw
      rw [hwant _ hw]
      simp only [if_true]
      split at hao
      · cases hao
      · rename_i vs hvs
        refine .inl (oper_sound hΓ hb d3 hsame.2.2.2 hF (by rw [← hsame.2.1]; exact hvs) hH hao ?_)
        exact fun v' w' μ' hv hH' E => fin hlt hh' hif hv hH' E
  · rw [← hone] at hao
    unfold aone at hao
    split at hao
    · cases hao
    · cases hao
    · rename_i hw
      rw [hwant _ hw]
      simp only [if_true]
      split at hao
      · cases hao
      · rename_i vs hvs
        refine .inl (oper_sound hΓ hb d3 hsame.2.2.2 hF (by rw [← hsame.2.1]; exact hvs) hH hao ?_)
        intro v' w' μ' hv hH' E
        refine hQ _ _ _ ⟨D.ds, D.tsz, μ', hH', fun s u hs => ?_, hE.trans E, ?_⟩
        · have hls : LS l vals fr L s u := by
            rw [hfr] at hs
            rcases R.look m (Nat.le_refl _) hs with ⟨j, oj, hj, hoj, hdj, rfl⟩ | ⟨hnone, hfr0⟩
            · refine .inl ⟨j, oj, ?_, hoj, hdj, rfl⟩
              have hpp := hpan ⟨p, he⟩
              rcases R.fin with ⟨f1, f2, _⟩ | ⟨om, p', f1, f2, f3, f4⟩
              · rw [he] at f2; cases f2
              · rcases pan_pair hpp m j oj om hj hoj f1 with h | h
                · subst hie; exact r3 j h
                · rw [aone_risky f2] at h; cases h.2
            · refine .inr ⟨fun j oj hoj hdj => ?_, hfr0⟩
              cases hLj : L.getD j false with
              | false => rfl
              | true => exact absurd hdj (hnone j oj (D.lt j hLj) hoj)
          obtain ⟨k1, k2⟩ := hFS s u hls
          exact ⟨k1, E.ar k2⟩
        · rw [he]
          exact ⟨v', rfl, hv⟩

theorem draw_any (hΓ : SoundO P Γ) (hT : Tie P nt ops l) (hdraw : drawOk ops l = true) (hpan : (∃ p, e = .panic p) → panOk ops l = true) (R : Run Γ b l fr hp e fr' hp' m frs hps vals)
    (hQ : ∀ e' a' w', Lands nt b w0 X μ0 hp ds e fr' hp' e' a' w' → Q e' a' w') : ∀ (n : Nat) (L : Array Bool) (a : Act) (w : World), DInv nt b w0 X μ0 hp ds ops l fr m hps vals L a w → (List.range ops.size).countP (fun i => !L.getD i false) ≤ n → wpAny P .any ops Q n L a w := by
  have hend : ∀ (L : Array Bool) (a : Act) (w : World), DInv nt b w0 X μ0 hp ds ops l fr m hps vals L a w → Region.ready .any ops L = [] → Q .normal a w := by
    intro L a w D hr
    obtain ⟨dE, dN, dP⟩ := draw_pair hdraw
    have hall := none_ready dE D.size hr
    have hml : m = l.length := by
      rcases Nat.lt_or_ge m l.length with h | h
      · have := D.lt m (hall m (by rw [← hT.1]; exact h)); omega
      · exact Nat.le_antisymm R.le h
    obtain ⟨μ1, h, hm, hiff, hH, hb, hE, hFS⟩ := D.st
    have hh := R.heap (i := h) (m - h) (by omega) (fun k x k1 k2 hx hx2 => by
      have hk : k < l.length := (List.getElem?_eq_some_iff.1 hx).1
      have := (hiff k x hx hx2).1 (hall k (by rw [← hT.1]; exact hk))
      omega)
    rw [show h + (m - h) = m by omega] at hh
    rcases R.fin with ⟨f1, f2, f3, f4⟩ | ⟨om, p, f1, _⟩
    · refine hQ _ _ _ ⟨D.ds, D.tsz, μ1, ?_, fun s u hs => ?_, ?_, ?_⟩
      · rw [f4, hh]; exact hH
      · rw [f3] at hs
        rw [f4, hh]
        refine hFS s u ?_
        rcases R.look m (Nat.le_refl _) hs with ⟨j, oj, hj, hoj, hdj, rfl⟩ | ⟨hnone, hfr0⟩
        · exact .inl ⟨j, oj, hall j (by rw [← hT.1]; omega), hoj, hdj, rfl⟩
        · exact .inr ⟨fun j oj hoj hdj => absurd hdj (hnone j oj (by rw [hml]; exact (List.getElem?_eq_some_iff.1 hoj).1) hoj), hfr0⟩
      · rw [f4, hh]; exact hE
      · rw [f2]; exact trivial
    · have := (List.getElem?_eq_some_iff.1 f1).1; omega
  intro n
  induction n with
  | zero =>
    intro L a w D hn
    have hr : Region.ready .any ops L = [] := by
      cases hx : Region.ready .any ops L with
      | nil => rfl
      | cons i r =>
        exfalso
        have hi : i ∈ Region.ready .any ops L := by rw [hx]; simp
        obtain ⟨r1, r2, r3⟩ := ready_clos (draw_pair hdraw).1 D.shut hi
        have : 0 < (List.range ops.size).countP (fun i => !L.getD i false) := by
          rw [List.countP_pos_iff]
          refine ⟨i, List.mem_range.2 r1, ?_⟩
          rw [Array.getD_eq_getD_getElem?] at r2 ⊢
          have : i < L.size := by rw [D.size]; exact r1
          simp [this] at r2 ⊢
          exact r2
        omega
    exact ⟨hr, hend L a w D hr⟩
  | succ n ih =>
    intro L a w D hn
    refine ⟨hend L a w D, fun i hi => ?_⟩
    obtain ⟨r1, r2, r3⟩ := ready_clos (draw_pair hdraw).1 D.shut hi
    refine wpOp_mono (fun a' w' D' => ih _ a' w' D' ?_) (draw_step hΓ hT hdraw hpan R D hQ hi)
    have hsz : i < L.size := by rw [D.size]; exact r1
    have := countP_lt (l := List.range ops.size) (p := fun i => !L.getD i false) (q := fun j => !(L.setIfInBounds i true).getD j false) (List.mem_range.2 r1) (fun x hx => by
      rw [getD_set hsz] at hx
      split at hx
      · cases hx
      · exact hx) (by
      rw [Array.getD_eq_getD_getElem?] at r2 ⊢
      simp [hsz] at r2 ⊢
      exact r2) (by rw [getD_set hsz]; simp)
    omega

theorem region_any_sound (hmix : P.follows .mixedOrders = true) (hΓ : SoundO P Γ) (hT : Tie P nt ops l) (hdraw : drawOk ops l = true) {id : Nat} (hs : aops Γ b l fr hp = some (e, fr', hp')) (hpan : (∃ p, e = .panic p) → panOk ops l = true) (hb : b ≤ hp.length) (hH : HR w X μ hp) (hF : FR w X μ hp fr a.tmps) (hsz : a.tmps.size = nt)
    (hQ : ∀ e' a' w', Lands nt b w X μ hp a.defers e fr' hp' e' a' w' → Q e' a' w') : (Code.region id ops true).wp P Q a w := by
  obtain ⟨m, frs, hps, vals, R⟩ := run_of l fr hp hs
  refine wp_region_any hmix (draw_any (w0 := w) (X := X) (μ0 := μ) (ds := a.defers) hΓ hT hdraw hpan R hQ ops.size _ a _ ?_ (Nat.le_trans (List.countP_le_length) (by simp)))
  have h0 : ∀ i, (Array.replicate ops.size false).getD i false = false := by
    intro i
    rw [Array.getD_eq_getD_getElem?, Array.getElem?_replicate]
    split <;> rfl
  refine ⟨by simp, fun i hi => ?_, fun i hi => ?_, rfl, hsz, μ, 0, Nat.zero_le _, fun k o hk hc => ?_, ?_, ?_, ?_, fun s v hs => ?_⟩
  · rw [h0] at hi; cases hi
  · rw [h0] at hi; cases hi
  · rw [h0]; simp
  · rw [R.h0]; exact hH.drew
  · rw [R.h0]; exact hb
  · rw [R.h0]; exact Ext.drew b
  · rcases hs with ⟨j, o, hj, _⟩ | ⟨_, h⟩
    · rw [h0] at hj; cases hj
    · rw [R.h0]
      obtain ⟨k1, k2⟩ := hF s v h
      exact ⟨k1, (Ext.drew (X := X) (μ := μ) (hp := hp) (w := w) 0).ar k2⟩
end
end Go.Am

/- Code. -/
namespace Go.Am
variable {P : Program} {w : World} {X : Nat → Prop} {μ : Nat → Option Nat} {hp : Heap}

/-- The code and its translation. -/
inductive Tr (P : Program) (nt : Nat) : Code → ACode → Prop
  | skip : Tr P nt .skip .skip
  | region (id : Nat) (ops : Array Oper) (l : List AOper) (pan : Bool) (keep : List Nat) (h : trOps P nt ops ops.toList = some l) : Tr P nt (.region id ops false) (.region pan l keep)
  | draw (id : Nat) (ops : Array Oper) (l : List AOper) (pan : Bool) (keep : List Nat) (hT : Tie P nt ops l) (hd : drawOk ops l = true) (hp : pan = true → panOk ops l = true) : Tr P nt (.region id ops true) (.region pan l keep)
  | settle (c : Code) (ac : ACode) (ss : List Nat) (h : Tr P nt c ac) : Tr P nt c (.seq (.settle ss) ac)
  | seq (x y : Code) (a b : ACode) (hx : Tr P nt x a) (hy : Tr P nt y b) : Tr P nt (.seq x y) (.seq a b)
  | cond (c : Operand) (ca : AArg) (x y : Code) (a b : ACode) (hc : trArg P 0 c = some ca) (hx : Tr P nt x a) (hy : Tr P nt y b) : Tr P nt (.cond c x y) (.cond ca a b)
  | block (id : Nat) (c : Code) (a : ACode) (h : Tr P nt c a) : Tr P nt (.block id c) (.block id a)
  | loop (keep : List Nat) (c : Code) (a : ACode) (h : Tr P nt c a) : Tr P nt (.loop c) (.loop keep a)
  | exit (id : Nat) : Tr P nt (.exit id) (.exit id)
  | ret : Tr P nt .ret .ret

/-- The variables that were there before the call show no newer ones. -/
def Own (b : Nat) (hp : Heap) : Prop := ∀ (i : Nat) (sh : Sh) (v : AV), i < b → hp[i]? = some (.box sh v) → ∀ q ∈ v.refsIn, q < b

theorem Own.ext {b : Nat} {μ' : Nat → Option Nat} {hp' : Heap} {w' : World} (h : Own b hp) (hb : b ≤ hp.length) (E : Ext b X μ hp w μ' hp' w') : Own b hp' := by
  intro i sh v hi ho q hq
  have hlt : i < hp.length := by omega
  cases hx : hp[i] with
  | box s u =>
    obtain ⟨v', h1, h2, h3⟩ := E.box i s u (by rw [List.getElem?_eq_getElem hlt, hx])
    rw [h1] at ho
    cases ho
    exact h i _ u hi (by rw [List.getElem?_eq_getElem hlt, hx]) q (h3 hi q hq)
  | arr s es fz =>
    obtain ⟨es', fz', h1, _⟩ := E.arr i s es fz (by rw [List.getElem?_eq_getElem hlt, hx])
    rw [h1] at ho; cases ho
  | map s es =>
    obtain ⟨es', h1, _⟩ := E.map i s es (by rw [List.getElem?_eq_getElem hlt, hx])
    rw [h1] at ho; cases ho

theorem HR.own (h : HR w X μ hp) : Own hp.length hp := by
  intro i sh v hi ho
  obtain ⟨b, val, t, _, _, _, _, h5⟩ := h.box i sh v ho
  exact h5.refs_lt

def CodeOk (P : Program) (nt : Nat) (Γ : Oracle) (Λ : LoopOracle) (c : Code) (ac : ACode) : Prop :=
  ∀ (b : Nat) (st : St) (e : AExit) (st' : St), aexec Γ Λ b ac st = some (e, st') → ∀ (w : World) (X : Nat → Prop) (μ : Nat → Option Nat) (a : Act) (Q : Exit → Act → World → Prop), b ≤ st.hp.length → Own b st.hp → HR w X μ st.hp → FR w X μ st.hp st.fr a.tmps → a.tmps.size = nt →
    (∀ e' a' w', Lands nt b w X μ st.hp a.defers e st'.fr st'.hp e' a' w' → Q e' a' w') → c.wp P Q a w

def LoopOk (P : Program) (nt : Nat) (Λ : LoopOracle) (c : Code) (ac : ACode) : Prop :=
  ∀ (b : Nat) (keep : List Nat) (st : St) (e : AExit) (st' : St), Λ b st.hp.length keep ac st = some (e, st') → ∀ (w : World) (X : Nat → Prop) (μ : Nat → Option Nat) (a : Act) (Q : Exit → Act → World → Prop), b ≤ st.hp.length → Own b st.hp → HR w X μ st.hp → FR w X μ st.hp st.fr a.tmps → a.tmps.size = nt →
    (∀ e' a' w', Lands nt b w X μ st.hp a.defers e st'.fr st'.hp e' a' w' → Q e' a' w') → (Code.loop c).wp P Q a w

theorem Lands.keep {nt b : Nat} {ds : List Deferred} {e : AExit} {fr : Fr} {hp' : Heap} {e' : Exit} {a : Act} {w' : World} (h : Lands nt b w X μ hp ds e fr hp' e' a w') (ks : List Nat) : Lands nt b w X μ hp ds e (fr.keep ks) hp' e' a w' := by
  obtain ⟨h1, h2, μ', h3, h4, h5, h6⟩ := h
  exact ⟨h1, h2, μ', h3, h4.keep ks, h5, h6⟩

theorem code_ok {nt : Nat} {Γ : Oracle} {Λ : LoopOracle} (hmix : P.follows .mixedOrders = true) (hΓ : SoundO P Γ) (hΛ : ∀ c ac, Tr P nt c ac → LoopOk P nt Λ c ac) {c : Code} {ac : ACode} (h : Tr P nt c ac) : CodeOk P nt Γ Λ c ac := by
  induction h with
  | skip =>
    intro b st e st' hs w X μ a Q hb hO hH hF hsz hQ
    cases hs
    exact wp_skip (hQ _ _ _ ⟨rfl, hsz, μ, hH, hF, Ext.refl _ _ _ _ _, trivial⟩)
  | exit id =>
    intro b st e st' hs w X μ a Q hb hO hH hF hsz hQ
    cases hs
    exact wp_exit (hQ _ _ _ ⟨rfl, hsz, μ, hH, hF, Ext.refl _ _ _ _ _, rfl⟩)
  | ret =>
    intro b st e st' hs w X μ a Q hb hO hH hF hsz hQ
    cases hs
    exact wp_ret (hQ _ _ _ ⟨rfl, hsz, μ, hH, hF, Ext.refl _ _ _ _ _, trivial⟩)
  | region id ops l pan keep ht =>
    intro b st e st' hs w X μ a Q hb hO hH hF hsz hQ
    simp only [aexec] at hs
    split at hs
    · rename_i fr hp2 hr
      cases hs
      exact region_sound hΓ ht hr hb hH hF hsz fun e' a' w' hL => hQ e' a' w' (hL.keep keep)
    · rename_i v fr hp2 hr
      split at hs
      · cases hs
        exact region_sound hΓ ht hr hb hH hF hsz fun e' a' w' hL => hQ e' a' w' (hL.keep keep)
      · cases hs
    · cases hs
  | draw id ops l pan keep hT hd hpan =>
    intro b st e st' hs w X μ a Q hb hO hH hF hsz hQ
    simp only [aexec] at hs
    split at hs
    · rename_i fr hp2 hr
      cases hs
      exact region_any_sound hmix hΓ hT hd hr (fun ⟨p, hp⟩ => by cases hp) hb hH hF hsz fun e' a' w' hL => hQ e' a' w' (hL.keep keep)
    · rename_i v fr hp2 hr
      split at hs
      · rename_i hp
        cases hs
        exact region_any_sound hmix hΓ hT hd hr (fun _ => hpan hp) hb hH hF hsz fun e' a' w' hL => hQ e' a' w' (hL.keep keep)
      · cases hs
    · cases hs
  | settle c ac ss _ ih =>
    intro b st e st' hs w X μ a Q hb hO hH hF hsz hQ
    simp only [aexec] at hs
    cases hset : settle ss st with
    | none => rw [hset] at hs; cases hs
    | some st1 =>
      rw [hset] at hs
      simp only [] at hs
      obtain ⟨k1, k2, k3⟩ := settle_sound b ss st st1 hset hH hF
      refine ih b st1 e st' hs w X μ a Q (Nat.le_trans hb k3.len) (hO.ext hb k3) k1 k2 hsz fun e' a' w' hL => hQ e' a' w' ?_
      obtain ⟨h1, h2, μ', h3, h4, h5, h6⟩ := hL
      exact ⟨h1, h2, μ', h3, h4, k3.trans h5, h6⟩
  | seq x y ax ay _ _ ihx ihy =>
    intro b st e st' hs w X μ a Q hb hO hH hF hsz hQ
    simp only [aexec] at hs
    apply wp_seq
    cases h1 : aexec Γ Λ b ax st with
    | none => rw [h1] at hs; cases hs
    | some r =>
      obtain ⟨e1, st1⟩ := r
      rw [h1] at hs
      refine ihx b st e1 st1 h1 w X μ a _ hb hO hH hF hsz fun e' a' w' hL => ?_
      obtain ⟨g1, g2, μ', g3, g4, g5, g6⟩ := hL
      cases e1 with
      | normal =>
        simp only [] at hs
        cases e' <;> simp only [ExitAs] at g6
        refine ihy b st1 e st' hs w' X μ' a' Q (Nat.le_trans hb g5.len) (hO.ext hb g5) g3 g4 g2 fun e2 a2 w2 hL2 => hQ e2 a2 w2 ?_
        obtain ⟨k1, k2, μ2, k3, k4, k5, k6⟩ := hL2
        exact ⟨k1.trans g1, k2, μ2, k3, k4, g5.trans k5, k6⟩
      | exit i =>
        cases hs
        cases e' <;> simp only [ExitAs] at g6
        subst g6
        exact hQ _ _ _ ⟨g1, g2, μ', g3, g4, g5, rfl⟩
      | ret =>
        cases hs
        cases e' <;> simp only [ExitAs] at g6
        exact hQ _ _ _ ⟨g1, g2, μ', g3, g4, g5, trivial⟩
      | panic p =>
        cases hs
        cases e' <;> simp only [ExitAs] at g6
        exact hQ _ _ _ ⟨g1, g2, μ', g3, g4, g5, g6⟩
  | cond c ca x y ax ay hc _ _ ihx ihy =>
    intro b st e st' hs w X μ a Q hb hO hH hF hsz hQ
    simp only [aexec] at hs
    split at hs
    · rename_i s0 ha
      exact wp_cond_true (arg_sound hF hc ha).bool_inv (ihx b st e st' hs w X μ a Q hb hO hH hF hsz hQ)
    · rename_i s0 ha
      exact wp_cond_false (arg_sound hF hc ha).bool_inv (ihy b st e st' hs w X μ a Q hb hO hH hF hsz hQ)
    · cases hs
  | block id c ac _ ih =>
    intro b st e st' hs w X μ a Q hb hO hH hF hsz hQ
    simp only [aexec] at hs
    apply wp_block
    cases h1 : aexec Γ Λ b ac st with
    | none => rw [h1] at hs; cases hs
    | some r =>
      obtain ⟨e1, st1⟩ := r
      rw [h1] at hs
      refine ih b st e1 st1 h1 w X μ a _ hb hO hH hF hsz fun e' a' w' hL => ?_
      obtain ⟨g1, g2, μ', g3, g4, g5, g6⟩ := hL
      cases e1 with
      | normal =>
        cases hs
        cases e' <;> simp only [ExitAs] at g6
        exact hQ _ _ _ ⟨g1, g2, μ', g3, g4, g5, trivial⟩
      | exit i =>
        cases e' <;> simp only [ExitAs] at g6
        subst g6
        simp only [] at hs
        split at hs
        · rename_i hid
          cases hs
          simp only [Exit.inBlock, hid, if_true]
          exact hQ _ _ _ ⟨g1, g2, μ', g3, g4, g5, trivial⟩
        · rename_i hid
          cases hs
          simp only [Exit.inBlock, hid, if_false]
          exact hQ _ _ _ ⟨g1, g2, μ', g3, g4, g5, rfl⟩
      | ret =>
        cases hs
        cases e' <;> simp only [ExitAs] at g6
        exact hQ _ _ _ ⟨g1, g2, μ', g3, g4, g5, trivial⟩
      | panic p =>
        cases hs
        cases e' <;> simp only [ExitAs] at g6
        exact hQ _ _ _ ⟨g1, g2, μ', g3, g4, g5, g6⟩
  | loop keep c ac hc _ =>
    intro b st e st' hs w X μ a Q hb hO hH hF hsz hQ
    exact hΛ c ac hc b keep ⟨st.fr.keep keep, st.hp⟩ e st' hs w X μ a Q hb hO hH (hF.keep keep) hsz hQ
end Go.Am

/- Loops. -/
namespace Go.Am
variable {P : Program} {w : World} {X : Nat → Prop} {μ : Nat → Option Nat} {hp : Heap}

theorem look_mem {fr : Fr} {s : Nat} {u : AV} (h : fr.look s = some u) : (s, u) ∈ fr := by
  induction fr with
  | nil => simp [Fr.look] at h
  | cons x r ih =>
    obtain ⟨k, v⟩ := x
    simp only [Fr.look] at h
    split at h
    · rename_i e; subst e; cases h; simp
    · simp [ih h]

theorem collect_sound {b n : Nat} {w0 : World} {μ0 : Nat → Option Nat} {hp0 : Heap} {fr : Fr} {t : Array Value} (h0 : hp0.length = n) (hb : b ≤ n) (hO : Own b hp) (hH : HR w X μ hp) (hF : FR w X μ hp fr t) (E : Ext b X μ0 hp0 w0 μ hp w) :
    HR w X μ (collect n b fr hp) ∧ FR w X μ (collect n b fr hp) fr t ∧ Ext b X μ0 hp0 w0 μ (collect n b fr hp) w ∧ Own b (collect n b fr hp) := by
  unfold collect
  split
  · rename_i hc
    simp only [Bool.and_eq_true, List.all_eq_true] at hc
    obtain ⟨c1, c2⟩ := hc
    refine ⟨hH.take fun i sh v hi ho q hq => ?_, fun s u hs => ?_, E.take (by omega), fun i sh v hi ho q hq => hO i sh v hi (take_get ho).2 q hq⟩
    · rcases Nat.lt_or_ge i b with hib | hib
      · have := hO i sh v hib ho q hq; omega
      · have hm : (AObj.box sh v) ∈ (hp.take n).drop b := by
          have : ((hp.take n).drop b)[i - b]? = some (.box sh v) := by
            rw [List.getElem?_drop, show b + (i - b) = i by omega]
            exact get_take ho hi
          exact List.mem_of_getElem? this
        have := c2 _ hm
        simp only [List.all_eq_true, decide_eq_true_eq] at this
        exact this q hq
    · obtain ⟨k1, k2⟩ := hF s u hs
      refine ⟨k1, k2.take fun q hq => ?_⟩
      have := c1 _ (look_mem hs)
      simp only [decide_eq_true_eq] at this
      exact this q hq
  · exact ⟨hH, hF, E, hO⟩

/-- A loop that still has k rounds to go at most. -/
def Going (nt : Nat) (Γ : Oracle) (b n : Nat) (keep : List Nat) (ac : ACode) (X : Nat → Prop) (w0 : World) (μ0 : Nat → Option Nat) (hp0 : Heap) (ds : List Deferred) (e : AExit) (st' : St) (k : Nat) (a : Act) (w : World) : Prop :=
  ∃ st μ, aloop Γ k b n keep ac st = some (e, st') ∧ Own b st.hp ∧ HR w X μ st.hp ∧ FR w X μ st.hp st.fr a.tmps ∧ a.tmps.size = nt ∧ a.defers = ds ∧ Ext b X μ0 hp0 w0 μ st.hp w

theorem exists_least (p : Nat → Prop) (h : ∃ j, p j) : ∃ j, p j ∧ ∀ i, p i → j ≤ i := by
  obtain ⟨n, hn⟩ := h
  induction n using Nat.strongRecOn with
  | _ n ih =>
    by_cases hx : ∃ m, m < n ∧ p m
    · obtain ⟨m, h1, h2⟩ := hx
      exact ih m h1 h2
    · exact ⟨n, hn, fun i hi => Nat.le_of_not_lt fun hlt => hx ⟨i, hlt, hi⟩⟩

open Classical in
theorem loop_ok {nt : Nat} {Γ : Oracle} (hmix : P.follows .mixedOrders = true) (hΓ : SoundO P Γ) : ∀ (k : Nat) (c : Code) (ac : ACode), Tr P nt c ac → LoopOk P nt (aloop Γ k) c ac := by
  intro k
  induction k using Nat.strongRecOn with
  | _ k ih =>
    intro c ac hT b keep st e st' hs w0 X μ0 a0 Q hb hO hH hF hsz hQ
    let G := Going nt Γ b st.hp.length keep ac X w0 μ0 st.hp a0.defers e st'
    let least : Act → World → Nat := fun a w => if h : ∃ j, G j a w then (exists_least (fun j => G j a w) h).choose else 0
    have hleast : ∀ a w j, G j a w → G (least a w) a w ∧ least a w ≤ j := by
      intro a w j hj
      have hx : ∃ j, G j a w := ⟨j, hj⟩
      simp only [least, dif_pos hx]
      have hsp := (exists_least (fun j => G j a w) hx).choose_spec
      exact ⟨hsp.1, hsp.2 j hj⟩
    refine wp_loop (fun a w => ∃ j, j ≤ k ∧ G j a w) least ⟨k, Nat.le_refl _, st, μ0, hs, hO, hH, hF, hsz, rfl, Ext.refl _ _ _ _ _⟩ ?_
    intro a w ⟨j0, hj0, hG0⟩
    obtain ⟨hG, hle⟩ := hleast a w j0 hG0
    generalize least a w = j at hG hle
    obtain ⟨st1, μ1, hl, g1, g2, g3, g4, g5, g6⟩ := hG
    cases j with
    | zero => simp only [aloop] at hl; cases hl
    | succ j =>
      have hbl : b ≤ st1.hp.length := Nat.le_trans hb g6.len
      have hcode : CodeOk P nt Γ (aloop Γ j) c ac := code_ok hmix hΓ (fun c ac h => ih j (by omega) c ac h) hT
      simp only [aloop] at hl
      cases h1 : aexec Γ (aloop Γ j) b ac st1 with
      | none => rw [h1] at hl; cases hl
      | some r =>
        obtain ⟨e1, st2⟩ := r
        rw [h1] at hl
        refine hcode b st1 e1 st2 h1 w X μ1 a _ hbl g1 g2 g3 g4 fun e' a' w' hL => ?_
        obtain ⟨k1, k2, μ2, k3, k4, k5, k6⟩ := hL
        have done : ∀ {e'}, ExitAs w' X μ2 st2.hp e1 e' → e1 ≠ .normal → e = e1 ∧ st' = st2 → Q e' a' w' := by
          rintro e' hx _ ⟨rfl, rfl⟩
          exact hQ _ _ _ ⟨k1.trans g5, k2, μ2, k3, k4, g6.trans k5, hx⟩
        cases e1 with
        | normal =>
          cases e' <;> simp only [ExitAs] at k6
          simp only [] at hl
          obtain ⟨c1, c2, c3, c4⟩ := collect_sound (n := st.hp.length) rfl hb (g1.ext hbl k5) k3 (k4.keep keep) (g6.trans k5)
          have hG' : G j a' w' := ⟨⟨st2.fr.keep keep, collect st.hp.length b (st2.fr.keep keep) st2.hp⟩, μ2, hl, c4, c1, c2, k2, k1.trans g5, c3⟩
          exact ⟨⟨j, by omega, hG'⟩, Nat.lt_of_le_of_lt (hleast a' w' j hG').2 (Nat.lt_succ_self j)⟩
        | exit i =>
          cases hl
          cases e' <;> simp only [ExitAs] at k6
          exact done (e' := .exit _) k6 (by simp) ⟨rfl, rfl⟩
        | ret =>
          cases hl
          cases e' <;> simp only [ExitAs] at k6
          exact done (e' := .ret) trivial (by simp) ⟨rfl, rfl⟩
        | panic p =>
          cases hl
          cases e' <;> simp only [ExitAs] at k6
          exact done (e' := .panic _) k6 (by simp) ⟨rfl, rfl⟩
end Go.Am

/- Functions and what their calls come to. -/
namespace Go.Am
variable {P : Program} {w : World} {X : Nat → Prop} {μ : Nat → Option Nat} {hp : Heap}

theorem trOps_get {nt : Nat} {ops : Array Oper} : ∀ {r : List Oper} {l : List AOper}, trOps P nt ops r = some l → l.length = r.length ∧ ∀ (i : Nat) (o : Oper), r[i]? = some o → ∃ ao, trOper P nt ops o = some ao ∧ l[i]? = some ao
  | [], l, h => by cases h; exact ⟨rfl, fun i o h => by simp at h⟩
  | o :: r, l, h => by
    simp only [trOps] at h
    split at h
    · cases h
    · rename_i a ha
      split at h
      · rename_i l' hl
        cases h
        obtain ⟨h1, h2⟩ := trOps_get hl
        refine ⟨by simp [h1], fun i o' ho => ?_⟩
        cases i with
        | zero => simp at ho; subst ho; exact ⟨a, ha, rfl⟩
        | succ i => simpa using h2 i o' (by simpa using ho)
      · cases h

theorem trRegion_tr {nt id : Nat} {ops : Array Oper} {draw : Bool} {ac : ACode} (h : trRegion P nt ops draw = some ac) : Tr P nt (.region id ops draw) ac := by
  unfold trRegion at h
  split at h
  · cases h
  · rename_i l hl
    obtain ⟨h1, h2⟩ := trOps_get hl
    split at h
    · rename_i hd
      cases h
      subst hd
      exact .region id ops l true [] hl
    · rename_i hd
      have hd' : draw = true := by cases draw <;> simp_all
      subst hd'
      split at h
      · rename_i hok
        cases h
        exact .draw id ops l _ [] ⟨by simpa using h1, fun i o ho => by
          obtain ⟨ao, a1, a2⟩ := h2 i o (by simpa using ho)
          exact ⟨ao, ao, a1, a2, .inl rfl⟩⟩ hok (fun h => h)
      · split at h
        · rename_i hok
          cases h
          exact .settle _ _ _ (.draw id ops _ _ [] ⟨by simpa using h1, fun i o ho => by
            obtain ⟨ao, a1, a2⟩ := h2 i o (by simpa using ho)
            exact ⟨ao, ao.toP, a1, by simp [a2], .inr rfl⟩⟩ hok (fun h => h))
        · cases h

theorem trCode_tr {nt : Nat} : ∀ (c : Code) (ac : ACode), trCode P nt c = some ac → Tr P nt c ac := by
  intro c
  induction c with
  | region id ops draw => intro ac h; exact trRegion_tr h
  | skip => intro ac h; cases h; exact .skip
  | exit id => intro ac h; cases h; exact .exit id
  | ret => intro ac h; cases h; exact .ret
  | seq x y ihx ihy =>
    intro ac h
    simp only [trCode] at h
    split at h
    · cases h; exact .seq _ _ _ _ (ihx _ ‹_›) (ihy _ ‹_›)
    · cases h
  | cond c x y ihx ihy =>
    intro ac h
    simp only [trCode] at h
    split at h
    · cases h; exact .cond _ _ _ _ _ _ ‹_› (ihx _ ‹_›) (ihy _ ‹_›)
    · cases h
  | block id c ih =>
    intro ac h
    simp only [trCode] at h
    split at h
    · cases h; exact .block _ _ _ (ih _ ‹_›)
    · cases h
  | loop c ih =>
    intro ac h
    simp only [trCode] at h
    split at h
    · cases h; exact .loop _ _ _ (ih _ ‹_›)
    · cases h
  | _ => intro ac h; cases h

theorem annot_tr {nt : Nat} {c : Code} {ac : ACode} (h : Tr P nt c ac) : ∀ out env ret, Tr P nt c (annot ac out env ret) := by
  induction h with
  | skip => intros; exact .skip
  | region id ops l pan keep h => intros; exact .region id ops l pan _ h
  | draw id ops l pan keep hT hd hp => intros; exact .draw id ops l pan _ hT hd hp
  | settle c ac ss _ ih => intros; exact .settle _ _ _ (ih _ _ _)
  | seq x y a b _ _ ihx ihy => intros; exact .seq _ _ _ _ (ihx _ _ _) (ihy _ _ _)
  | cond c ca x y a b hc _ _ ihx ihy => intros; exact .cond _ _ _ _ _ _ hc (ihx _ _ _) (ihy _ _ _)
  | block id c a _ ih => intros; exact .block _ _ _ (ih _ _ _)
  | loop keep c a _ ih => intros; exact .loop _ _ _ (ih _ _ _)
  | exit id => intros; exact .exit id
  | ret => intros; exact .ret

theorem load_ptr {sh : Sh} {a v : AV} {x : Value} (h : aload sh hp a = some v) (ha : AR w X μ hp a x) : ∃ ad, x = .pointer (some ad) := by
  unfold aload at h
  split at h
  · cases ha; exact ⟨_, rfl⟩
  · cases ha; exact ⟨_, rfl⟩
  · cases ha; exact ⟨_, rfl⟩
  · cases h

def resOne (t : Array Value) : ResultVar → Sem Value
  | .tmp s => pure (t.getD s undef)
  | .cell a ty => do loadVar ty (← asAddr (t.getD a undef))
theorem results_eq (fn : Func) (t : Array Value) : results fn t = (do let vs ← fn.results.mapM (resOne t); pure (if h : vs.size = 1 then vs[0] else .tuple vs)) := by
  unfold results
  congr 1
theorem resultsAt_len {st : St} : ∀ {r : List RSlot} {l : List AV}, resultsAt st r = some l → l.length = r.length
  | [], l, h => by cases h; rfl
  | s :: r, l, h => by
    simp only [resultsAt] at h
    split at h
    · cases h
    · split at h
      · cases h; simp [resultsAt_len ‹_›]
      · cases h

/-- The results of a body, one by one. -/
theorem res_sound {st : St} {t : Array Value} (hH : HR w X μ st.hp) (hF : FR w X μ st.hp st.fr t) : ∀ (rs : List ResultVar) (l : List AV), resOk P rs = true → resultsAt st (resultSlots P rs) = some l →
    ∃ vs, (rs.mapM (resOne t)).run P w = .ok vs w ∧ LR w X μ st.hp l vs
  | [], l, _, h => by cases h; exact ⟨[], rfl, .nil⟩
  | .tmp s :: r, l, hok, h => by
    simp only [resultSlots, resultsAt] at h
    split at h
    · cases h
    · rename_i v hv
      split at h
      · rename_i l' hl
        cases h
        obtain ⟨vs, k1, k2⟩ := res_sound hH hF r l' hok hl
        refine ⟨t.getD s undef :: vs, ?_, .cons (hF s v hv).2 k2⟩
        simp only [List.mapM_cons, resOne, Sem.run_bind, Sem.run_pure, Result.andThen_ok, k1]
      · cases h
  | .cell s ty :: r, l, hok, h => by
    simp only [resOk, Bool.and_eq_true] at hok
    simp only [resultSlots, resultsAt] at h
    split at h
    · cases h
    · rename_i v hv
      split at h
      · rename_i l' hl
        cases h
        obtain ⟨vs, k1, k2⟩ := res_sound hH hF r l' hok.2 hl
        simp only [resultAt] at hv
        split at hv
        · rename_i p hp
          have ha := (hF s p hp).2
          obtain ⟨ad, had⟩ := load_ptr hv ha
          obtain ⟨u, u1, u2⟩ := load_sound (P := P) hH hok.1 (.cons ha .nil) (show rLoad (shOf P ty) st.hp [p] = some v from hv)
          rw [had] at u1
          have u3 : (loadVar ty ad).run P w = .ok u w := by
            simp only [Instr.loadAt, Instr.sureAddr, Sem.run_bind, Sem.run_pure, Result.andThen_ok] at u1
            cases hr : (loadVar ty ad).run P w with
            | ok q w' => rw [hr] at u1; simp only [Result.andThen_ok, Result.ok.injEq, Next.value.injEq] at u1; rw [u1.1, u1.2]
            | halt q w' => rw [hr] at u1; simp [Result.andThen] at u1
          refine ⟨u :: vs, ?_, .cons u2 k2⟩
          simp only [List.mapM_cons, resOne, had, Sem.run_bind, asAddr, Sem.run_pure, Result.andThen_ok, u3, k1]
        · cases hv
      · cases h

theorem results_sound {fn : Func} {st : St} {t : Array Value} {v : AV} (hH : HR w X μ st.hp) (hF : FR w X μ st.hp st.fr t) (hok : resOk P fn.results.toList = true) (h : resultOf st (resultSlots P fn.results.toList) = some v) :
    ∃ u, (results fn t).run P w = .ok u w ∧ AR w X μ st.hp v u := by
  have gen : ∀ l, resultsAt st (resultSlots P fn.results.toList) = some l → ∃ vs : List Value, (results fn t).run P w = .ok (if h : vs.toArray.size = 1 then vs.toArray[0] else .tuple vs.toArray) w ∧ LR w X μ st.hp l vs := by
    intro l hl
    obtain ⟨vs, k1, k2⟩ := res_sound hH hF _ l hok hl
    refine ⟨vs, ?_, k2⟩
    rw [results_eq, Array.mapM_eq_mapM_toList]
    simp only [Sem.run_bind, Sem.run_map, k1, Result.andThen_ok, Sem.run_pure]
  unfold resultOf at h
  split at h
  · rename_i s hs
    obtain ⟨vs, k1, k2⟩ := gen [v] (by simp [hs, resultsAt, h])
    cases k2 with | cons k2 k3 =>
    cases k3
    exact ⟨_, k1, by simpa using k2⟩
  · rename_i hne
    split at h
    · rename_i l hl
      cases h
      obtain ⟨vs, k1, k2⟩ := gen l hl
      have hsz : ¬ vs.toArray.size = 1 := by
        intro h1
        have h2 := resultsAt_len hl
        have h3 := k2.length
        have h4 : (resultSlots P fn.results.toList).length = 1 := by simp at h1; omega
        match hx : resultSlots P fn.results.toList, h4 with
        | [s], _ => exact hne s hx
      rw [dif_neg hsz] at k1
      exact ⟨_, k1, .tuple _ vs k2.length fun i a u ha hu => k2.get i a u ha hu⟩
    · cases h
end Go.Am

/- Functions and what their calls come to: bodies, calls, the whole. -/
namespace Go.Am
variable {P : Program} {w : World} {X : Nat → Prop} {μ : Nat → Option Nat} {hp : Heap}

theorem params_look : ∀ {l : List AV} {i s : Nat} {v : AV}, (params i l).look s = some v → ∃ k, s = i + k ∧ l[k]? = some v
  | [], i, s, v, h => by simp [params, Fr.look] at h
  | a :: r, i, s, v, h => by
    simp only [params, Fr.look] at h
    split at h
    · rename_i e; subst e; cases h; exact ⟨0, rfl, rfl⟩
    · obtain ⟨k, h1, h2⟩ := params_look h
      exact ⟨k + 1, by omega, by simpa using h2⟩

theorem callFunc_run {f : FuncId} {fnc : Func} {c : Code} {args : Array Value} (hf : P.funcs[f]? = some fnc) (hb : fnc.body = some c) (hn : fnc.name ≠ "runtime.NumGoroutine") : (callFunc f args).run P w = .ok (.enter f args) w := by
  simp [callFunc, run_program, hf, hn, hb]

theorem body_sound {hm : Bool} {Γ : Oracle} {Λ : LoopOracle} (hmix : P.follows .mixedOrders = true) (hΓ : SoundO P Γ) (hΛ : ∀ nt c ac, Tr P nt c ac → LoopOk P nt Λ c ac) {f : FuncId} {fnc : Func} {fn : AFn} {args : List AV} {vs : List Value} {r : ARes} {hp' : Heap} (hf : P.funcs[f]? = some fnc) (ht : trFn P hm fnc = some fn)
    (h : abody Γ Λ fn args hp = some (r, hp')) (hH : HR w X μ hp) (hl : LR w X μ hp args vs) : Called P f vs.toArray w (CallPost hp.length w X μ hp r hp') := by
  unfold trFn at ht
  split at ht
  · rename_i c hc
    split at ht
    · rename_i ac hac
      split at ht
      · rename_i hok
        obtain ⟨k1, k2, k3⟩ := hok
        cases ht
        unfold abody at h
        split at h
        · cases h
        · rename_i hlen
          have hlen' : vs.length = fnc.params.size + fnc.nfree := by rw [← hl.length]; simpa using hlen
          have hT := annot_tr (trCode_tr c ac hac) (slotsOf (resultSlots P fnc.results.toList)) [] (slotsOf (resultSlots P fnc.results.toList))
          refine .inl ⟨callFunc_run hf hc k3, calls_of_wp hf hc ?_⟩
          have hF : FR w X μ hp (params 0 args) (vs.toArray ++ Array.replicate (fnc.ntmps - vs.toArray.size) undef) := by
            intro s v hs
            obtain ⟨k, rfl, hk⟩ := params_look hs
            have hkl : k < args.length := (List.getElem?_eq_some_iff.1 hk).1
            have hkv : k < vs.length := by rw [← hl.length]; exact hkl
            refine ⟨by simp; omega, ?_⟩
            have : (vs.toArray ++ Array.replicate (fnc.ntmps - vs.toArray.size) undef).getD (0 + k) undef = vs[k] := by
              rw [Array.getD_eq_getD_getElem?, Nat.zero_add, Array.getElem?_append_left (by simpa using hkv)]
              simp [hkv]
            rw [this]
            exact hl.get k v vs[k] hk (List.getElem?_eq_getElem hkv)
          cases hx : aexec Γ Λ hp.length (annot ac (slotsOf (resultSlots P fnc.results.toList)) [] (slotsOf (resultSlots P fnc.results.toList))) ⟨params 0 args, hp⟩ with
          | none => rw [hx] at h; cases h
          | some q =>
            obtain ⟨e, st⟩ := q
            rw [hx] at h
            refine code_ok hmix hΓ (hΛ fnc.ntmps) hT hp.length ⟨params 0 args, hp⟩ e st hx w X μ _ _ (Nat.le_refl _) hH.own hH hF (by simp; omega) fun e' a' w' hL => ?_
            obtain ⟨g1, g2, μ', g3, g4, g5, g6⟩ := hL
            have ret : ∀ v, resultOf st (resultSlots P fnc.results.toList) = some v → r = .ret v → hp' = st.hp → a'.defers = [] ∧ ∃ u, (results fnc a'.tmps).run P w' = .ok u w' ∧ CallPost hp.length w X μ hp r hp' (.returned u) w' := by
              rintro v hv rfl rfl
              obtain ⟨u, u1, u2⟩ := results_sound g3 g4 k1 hv
              exact ⟨g1, u, u1, μ', v, rfl, g3, g5, u2⟩
            cases e with
            | normal =>
              cases e' <;> simp only [ExitAs] at g6
              simp only [] at h
              split at h
              · cases h; exact ret _ ‹_› rfl rfl
              · cases h
            | ret =>
              cases e' <;> simp only [ExitAs] at g6
              simp only [] at h
              split at h
              · cases h; exact ret _ ‹_› rfl rfl
              · cases h
            | exit i => cases h
            | panic p =>
              cases h
              cases e' <;> simp only [ExitAs] at g6
              obtain ⟨v', rfl, hv⟩ := g6
              exact ⟨g1, μ', p, v', rfl, rfl, g3, g5, hv⟩
      · cases ht
    · cases ht
  · cases ht

/-- A contract by hand. -/
def PrimOk (P : Program) (prim : FuncId → Option Oracle) : Prop :=
  ∀ f p, prim f = some p → ∀ args hp r hp', p f args hp = some (r, hp') → ∀ (w : World) (X : Nat → Prop) (μ : Nat → Option Nat) (vs : List Value), HR w X μ hp → LR w X μ hp args vs → Called P f vs.toArray w (CallPost hp.length w X μ hp r hp')
/-- The table's functions are the program's. -/
def FnsOk (P : Program) (F : FuncId → Option AFn) : Prop := ∀ f fn, F f = some fn → ∃ fnc, P.funcs[f]? = some fnc ∧ trFn P fn.heapMode fnc = some fn

theorem freezeRes_sound {v v' : AV} {hp2 hp3 : Heap} {μ' : Nat → Option Nat} {w' : World} {u : Value} (h : v.freezeRes hp2 = some (v', hp3)) (hH : HR w' (held X μ hp) μ' hp2) (ha : AR w' (held X μ hp) μ' hp2 v u) : AR w' X μ hp v' u := by
  have pr : ∀ {p : PV} {u : Value} {hp3 : Heap}, PR w' (Im (held X μ hp) μ' hp3) p u → PR w' (Im X μ hp) p u := fun h => h.mono fun _ _ _ _ hI hb => ⟨im_back hI, hb⟩
  have one : (match AV.freeze deep v hp2 with | some (p, hp') => some (AV.pv v.shp p, hp') | none => none) = some (v', hp3) → AR w' X μ hp v' u := by
    intro h
    split at h
    · rename_i p hp4 hf
      cases h
      obtain ⟨_, _, k3⟩ := freeze_sound 0 w' _ μ' _ _ _ _ _ _ hf hH ha
      exact .pv _ _ _ (ha.vshp (freeze_plain hf)) (pr k3)
    · cases h
  unfold AV.freezeRes at h
  split at h
  · rename_i l
    split at h
    · rename_i ps hp4 hf
      cases h
      cases ha with | tuple _ vs hl hx =>
      obtain ⟨_, _, k3⟩ := freezeAll_sound 0 _ _ _ _ _ hf hH (LR.of hl hx)
      refine .tuple _ vs (by simp [pvs, k3.1]) fun i a u hi hu => ?_
      simp only [pvs, List.getElem?_map, Option.map_eq_some_iff] at hi
      obtain ⟨x, hx', rfl⟩ := hi
      exact .pv _ _ _ (k3.2.1 i x u hx' hu) (pr (k3.2.2 i x u hx' hu))
    · cases h
  · exact one h

theorem PR.scalar {w : World} {I J : Nat → Prop} {p : PV} {v : Value} (h : PR w I p v) (hs : p.scalar = true) : PR w J p v := by
  cases h with
  | bool => exact .bool _
  | int => exact .int _ _
  | str => exact .str _
  | _ => cases hs
theorem AR.scalar1 {w : World} {μ : Nat → Option Nat} {hp hp' : Heap} {v : AV} {u : Value} (h : AR w X μ hp v u) (hs : v.scalar1 = true) : AR w X μ hp' v u := by
  cases h with
  | pv s p u hv hp => exact .pv _ _ _ hv (hp.scalar hs)
  | _ => cases hs
theorem AR.scalar {w : World} {μ : Nat → Option Nat} {hp hp' : Heap} {v : AV} {u : Value} (h : AR w X μ hp v u) (hs : v.scalar = true) : AR w X μ hp' v u := by
  cases h with
  | pv s p u hv hp => exact .pv _ _ _ hv (hp.scalar hs)
  | tuple l vs hl hx => exact .tuple _ vs hl fun i a u hi hu => (hx i a u hi hu).scalar1 (List.all_eq_true.1 hs a (List.mem_of_getElem? hi))
  | _ => cases hs

theorem acall_sound {F : FuncId → Option AFn} {prim : FuncId → Option Oracle} {Γ : Oracle} {Λ : LoopOracle} (hmix : P.follows .mixedOrders = true) (hF : FnsOk P F) (hP : PrimOk P prim) (hΓ : SoundO P Γ) (hΛ : ∀ nt c ac, Tr P nt c ac → LoopOk P nt Λ c ac) : SoundO P (acall F prim Γ Λ) := by
  intro f args hp r hp' h w X μ vs hH hl
  unfold acall at h
  split at h
  · exact hP _ _ ‹_› _ _ _ _ h w X μ vs hH hl
  · split at h
    · cases h
    · rename_i fn hfn
      obtain ⟨fnc, hf, ht⟩ := hF f fn hfn
      split at h
      · -- on the caller's heap
        split at h
        · rename_i v hp2 hb
          cases h
          refine (body_sound hmix hΓ hΛ hf ht hb hH hl).mono fun e w' hR => ?_
          cases e with
          | returned u =>
            obtain ⟨μ', v2, e1, g1, g2, g3⟩ := hR
            cases e1
            split
            · rename_i hc
              simp only [List.all_eq_true, decide_eq_true_eq] at hc
              exact ⟨μ', v, rfl, g1.take fun i sh x hi ho q hq => (hH.own.ext (Nat.le_refl _) g2) i sh x hi ho q hq, g2.take (Nat.le_refl _), g3.take hc⟩
            · exact ⟨μ', v, rfl, g1, g2, g3⟩
          | panicked c => obtain ⟨μ', p, v', e1, _⟩ := hR; cases e1
          | outgrown => exact hR
        · rename_i v hp2 hb
          cases h
          refine (body_sound hmix hΓ hΛ hf ht hb hH hl).mono fun e w' hR => ?_
          cases e with
          | returned u => obtain ⟨μ', v2, e1, _⟩ := hR; cases e1
          | panicked c =>
            obtain ⟨μ', p, v', e1, e2, g1, g2, g3⟩ := hR
            cases e1
            exact ⟨μ', v, v', rfl, e2, g1.take fun i sh x hi ho q hq => (hH.own.ext (Nat.le_refl _) g2) i sh x hi ho q hq, g2.take (Nat.le_refl _), g3.take (fun q hq => by simp [AV.refsIn] at hq)⟩
          | outgrown => exact hR
        · cases h
      · -- on a heap of its own
        split at h
        · cases h
        · rename_i ps hp1 hfz
          obtain ⟨e1, h1, hCP⟩ := freezeAll_sound hp.length _ _ _ _ _ hfz hH hl
          split at h
          · rename_i v hp2 hb
            split at h
            · rename_i v' hp3 hfr
              cases h
              refine (body_sound hmix hΓ hΛ hf ht hb h1.empty hCP.empty.lr).mono fun e w' hR => ?_
              cases e with
              | returned u =>
                obtain ⟨μ', v2, e2, g1, g2, g3⟩ := hR
                cases e2
                cases hsc : v'.scalar with
                | true =>
                  obtain ⟨k1, k2⟩ := back (b := hp.length) hH g2
                  exact ⟨μ, v', rfl, k1, k2, (freezeRes_sound hfr g1 g3).scalar hsc⟩
                | false =>
                  obtain ⟨k1, k2⟩ := back (b := hp.length) h1 g2
                  exact ⟨μ, v', rfl, k1, e1.trans k2, freezeRes_sound hfr g1 g3⟩
              | panicked c => obtain ⟨μ', p, v', e1, _⟩ := hR; cases e1
              | outgrown => exact hR
            · cases h
          · rename_i v hp2 hb
            cases h
            refine (body_sound hmix hΓ hΛ hf ht hb h1.empty hCP.empty.lr).mono fun e w' hR => ?_
            cases e with
            | returned u => obtain ⟨μ', v2, e1, _⟩ := hR; cases e1
            | panicked c =>
              obtain ⟨μ', p, v', e2, e3, g1, g2, g3⟩ := hR
              cases e2
              obtain ⟨k1, k2⟩ := back (b := hp.length) h1 g2
              refine ⟨μ, v, v', rfl, e3, k1, e1.trans k2, ?_⟩
              cases g3 with | pv _ _ _ hs hq => exact .pv _ _ _ hs (hq.mono fun _ _ _ _ hI hb => ⟨im_back hI, hb⟩)
            | outgrown => exact hR
          · cases h

theorem asem_sound {F : FuncId → Option AFn} {prim : FuncId → Option Oracle} (hmix : P.follows .mixedOrders = true) (hF : FnsOk P F) (hP : PrimOk P prim) : ∀ n, SoundO P (asem F prim n)
  | 0 => fun _ _ _ _ _ h => by cases h
  | n + 1 => acall_sound hmix hF hP (asem_sound hmix hF hP n) fun nt c ac h => loop_ok hmix (asem_sound hmix hF hP n) n c ac h
end Go.Am

/- The limit of the runs of bounded depth: equations without fuel. -/
namespace Go.Am

def OLe (Γ Δ : Oracle) : Prop := ∀ f as hp r, Γ f as hp = some r → Δ f as hp = some r
def LLe (Λ Λ' : LoopOracle) : Prop := ∀ b m keep c st r, Λ b m keep c st = some r → Λ' b m keep c st = some r
theorem OLe.refl (Γ : Oracle) : OLe Γ Γ := fun _ _ _ _ h => h
theorem OLe.trans {Γ Δ Θ : Oracle} (h : OLe Γ Δ) (k : OLe Δ Θ) : OLe Γ Θ := fun f as hp r e => k f as hp r (h f as hp r e)
theorem LLe.refl (Γ : LoopOracle) : LLe Γ Γ := fun _ _ _ _ _ _ h => h
theorem LLe.trans {Γ Δ Θ : LoopOracle} (h : LLe Γ Δ) (k : LLe Δ Θ) : LLe Γ Θ := fun f as hp r x y e => k f as hp r x y (h f as hp r x y e)

/-- What one call of the oracle gives: enough for one operation. -/
theorem aOp_mono {Γ Δ : Oracle} {b : Nat} {op : AOp} {vs : List AV} {hp : Heap} {r : OpRes} (hO : OLe Γ Δ) (h : aOp Γ b op vs hp = some r) : aOp Δ b op vs hp = some r := by
  cases op
  case call =>
    simp only [aOp, aCall] at h ⊢
    split at h
    · split at h
      · rename_i g first captured he
        split at h
        · rename_i v hp' hg; rw [hO _ _ _ _ hg]; exact h
        · rename_i v hp' hg; rw [hO _ _ _ _ hg]; exact h
        · cases h
      · cases h
    · cases h
  case callp =>
    simp only [aOp, aCallp] at h ⊢
    split at h
    · split at h
      · rename_i ps he
        split at h
        · rename_i v hp' hg; rw [hO _ _ _ _ hg]; exact h
        · cases h
      · cases h
    · cases h
  all_goals exact h

theorem aops_mono {Γ Δ : Oracle} {b : Nat} (hO : OLe Γ Δ) : ∀ {ops : List AOper} {fr : Fr} {hp : Heap} {r : AExit × Fr × Heap}, aops Γ b ops fr hp = some r → aops Δ b ops fr hp = some r
  | [], _, _, _, h => h
  | o :: rest, fr, hp, r, h => by
    simp only [aops] at h ⊢
    split at h
    · cases h
    · exact aops_mono hO h
    · split at h
      · cases h
      · split at h
        · rename_i ho; rw [aOp_mono hO ho]; exact aops_mono hO h
        · rename_i ho; rw [aOp_mono hO ho]; exact h
        · cases h

theorem aexec_mono {Γ Δ : Oracle} {Λ Λ' : LoopOracle} {b : Nat} (hO : OLe Γ Δ) (hL : LLe Λ Λ') : ∀ {c : ACode} {st : St} {r : AExit × St}, aexec Γ Λ b c st = some r → aexec Δ Λ' b c st = some r := by
  intro c
  induction c with
  | skip => intro st r h; exact h
  | settle l => intro st r h; exact h
  | region pan ops keep =>
    intro st r h
    simp only [aexec] at h ⊢
    split at h
    · rename_i ho; rw [aops_mono hO ho]; exact h
    · rename_i ho; rw [aops_mono hO ho]; exact h
    · cases h
  | seq x y ihx ihy =>
    intro st r h
    simp only [aexec] at h ⊢
    split at h
    · rename_i ho; rw [ihx ho]; exact ihy h
    · rename_i hn
      rw [ihx h]
      split
      · rename_i e; cases e; exact (hn _ h).elim
      · rfl
  | cond c x y ihx ihy =>
    intro st r h
    simp only [aexec] at h ⊢
    split at h
    · exact ihx h
    · exact ihy h
    · cases h
  | block id c ih =>
    intro st r h
    simp only [aexec] at h ⊢
    split at h
    · rename_i ho; rw [ih ho]; exact h
    · rename_i hn
      rw [ih h]
      split
      · rename_i e; cases e; exact (hn _ _ h).elim
      · rfl
  | loop keep c ih => intro st r h; exact hL _ _ _ _ _ _ h
  | exit id => intro st r h; exact h
  | ret => intro st r h; exact h

theorem aloop_mono {Γ Δ : Oracle} (hO : OLe Γ Δ) : ∀ {n m : Nat}, n ≤ m → LLe (aloop Γ n) (aloop Δ m)
  | 0, m, _ => fun _ _ _ _ _ _ h => by cases h
  | n + 1, 0, h => by omega
  | n + 1, m + 1, hnm => fun b k keep c st r h => by
    simp only [aloop] at h ⊢
    split at h
    · rename_i ho
      rw [aexec_mono hO (aloop_mono hO (by omega : n ≤ m)) ho]
      exact aloop_mono hO (by omega : n ≤ m) _ _ _ _ _ _ h
    · rename_i hn
      rw [aexec_mono hO (aloop_mono hO (by omega : n ≤ m)) h]
      split
      · rename_i e; cases e; exact (hn _ h).elim
      · rfl

theorem abody_mono {Γ Δ : Oracle} {Λ Λ' : LoopOracle} (hO : OLe Γ Δ) (hL : LLe Λ Λ') {fn : AFn} {args : List AV} {hp : Heap} {r : ARes × Heap} (h : abody Γ Λ fn args hp = some r) : abody Δ Λ' fn args hp = some r := by
  simp only [abody] at h ⊢
  split at h
  · cases h
  · rename_i hn
    rw [if_neg hn]
    split at h
    · rename_i ho; rw [aexec_mono hO hL ho]; exact h
    · rename_i ho; rw [aexec_mono hO hL ho]; exact h
    · rename_i ho; rw [aexec_mono hO hL ho]; exact h
    · cases h

theorem acall_mono {F : FuncId → Option AFn} {prim : FuncId → Option Oracle} {Γ Δ : Oracle} {Λ Λ' : LoopOracle} (hO : OLe Γ Δ) (hL : LLe Λ Λ') : OLe (acall F prim Γ Λ) (acall F prim Δ Λ') := by
  intro f as hp r h
  unfold acall at h ⊢
  split at h
  · exact h
  · split at h
    · cases h
    · rename_i fn _
      by_cases hm : fn.heapMode = true
      · simp only [hm, if_true] at h ⊢
        split at h
        · rename_i ho; rw [abody_mono hO hL ho]; exact h
        · rename_i ho; rw [abody_mono hO hL ho]; exact h
        · cases h
      · rw [if_neg hm] at h ⊢
        split at h
        · cases h
        · split at h
          · rename_i ho; rw [abody_mono hO hL ho]; exact h
          · rename_i ho; rw [abody_mono hO hL ho]; exact h
          · cases h

theorem asem_mono {F : FuncId → Option AFn} {prim : FuncId → Option Oracle} : ∀ {n m : Nat}, n ≤ m → OLe (asem F prim n) (asem F prim m)
  | 0, _, _ => fun _ _ _ _ h => by cases h
  | n + 1, 0, h => by omega
  | n + 1, m + 1, h => acall_mono (asem_mono (by omega)) (aloop_mono (asem_mono (by omega)) (by omega))

/-- What the function gives, run for so long as it takes. -/
noncomputable def sem (F : FuncId → Option AFn) (prim : FuncId → Option Oracle) : Oracle := fun f as hp =>
  open Classical in if h : ∃ n r, asem F prim n f as hp = some r then some h.choose_spec.choose else none
noncomputable def sloop (F : FuncId → Option AFn) (prim : FuncId → Option Oracle) : LoopOracle := fun b m keep c st =>
  open Classical in if h : ∃ n r, aloop (asem F prim n) n b m keep c st = some r then some h.choose_spec.choose else none

variable {F : FuncId → Option AFn} {prim : FuncId → Option Oracle}
theorem sem_iff {f : FuncId} {as : List AV} {hp : Heap} {r : ARes × Heap} : sem F prim f as hp = some r ↔ ∃ n, asem F prim n f as hp = some r := by
  unfold sem
  constructor
  · intro h
    split at h
    · rename_i he
      cases h
      exact ⟨_, he.choose_spec.choose_spec⟩
    · cases h
  · rintro ⟨n, hn⟩
    have he : ∃ n r, asem F prim n f as hp = some r := ⟨n, r, hn⟩
    rw [dif_pos he]
    have h1 := asem_mono (Nat.le_max_left n he.choose) _ _ _ _ hn
    have h2 := asem_mono (Nat.le_max_right n he.choose) _ _ _ _ he.choose_spec.choose_spec
    rw [h1] at h2
    exact h2.symm
theorem sloop_iff {b m : Nat} {keep : List Nat} {c : ACode} {st : St} {r : AExit × St} : sloop F prim b m keep c st = some r ↔ ∃ n, aloop (asem F prim n) n b m keep c st = some r := by
  unfold sloop
  constructor
  · intro h
    split at h
    · rename_i he
      cases h
      exact ⟨_, he.choose_spec.choose_spec⟩
    · cases h
  · rintro ⟨n, hn⟩
    have he : ∃ n r, aloop (asem F prim n) n b m keep c st = some r := ⟨n, r, hn⟩
    rw [dif_pos he]
    have h1 := aloop_mono (asem_mono (F := F) (prim := prim) (Nat.le_max_left n he.choose)) (Nat.le_max_left n he.choose) _ _ _ _ _ _ hn
    have h2 := aloop_mono (asem_mono (F := F) (prim := prim) (Nat.le_max_right n he.choose)) (Nat.le_max_right n he.choose) _ _ _ _ _ _ he.choose_spec.choose_spec
    rw [h1] at h2
    exact h2.symm
theorem asem_le {n : Nat} : OLe (asem F prim n) (sem F prim) := fun _ _ _ _ h => sem_iff.2 ⟨n, h⟩
theorem aloop_le {n : Nat} : LLe (aloop (asem F prim n) n) (sloop F prim) := fun _ _ _ _ _ _ h => sloop_iff.2 ⟨n, h⟩
abbrev up {n m : Nat} (h : n ≤ m) : OLe (asem F prim n) (asem F prim m) := asem_mono h
theorem upl {n m : Nat} (h : n ≤ m) : LLe (aloop (asem F prim n) n) (aloop (asem F prim m) m) := aloop_mono (asem_mono h) h

theorem aOp_cont {b : Nat} {op : AOp} {vs : List AV} {hp : Heap} {r : OpRes} (h : aOp (sem F prim) b op vs hp = some r) : ∃ n, aOp (asem F prim n) b op vs hp = some r := by
  cases op
  case call =>
    simp only [aOp, aCall] at h ⊢
    split at h
    · split at h
      · rename_i g first captured he
        split at h
        · rename_i v hp' hg
          obtain ⟨n, hn⟩ := sem_iff.1 hg
          exact ⟨n, by simp only [hn]; exact h⟩
        · rename_i v hp' hg
          obtain ⟨n, hn⟩ := sem_iff.1 hg
          exact ⟨n, by simp only [hn]; exact h⟩
        · cases h
      · cases h
    · cases h
  case callp =>
    simp only [aOp, aCallp] at h ⊢
    split at h
    · split at h
      · rename_i ps he
        split at h
        · rename_i v hp' hg
          obtain ⟨n, hn⟩ := sem_iff.1 hg
          exact ⟨n, by simp only [hn]; exact h⟩
        · cases h
      · cases h
    · cases h
  all_goals exact ⟨0, h⟩

theorem aops_cont {b : Nat} : ∀ {ops : List AOper} {fr : Fr} {hp : Heap} {r : AExit × Fr × Heap}, aops (sem F prim) b ops fr hp = some r → ∃ n, aops (asem F prim n) b ops fr hp = some r
  | [], _, _, _, h => ⟨0, h⟩
  | o :: rest, fr, hp, r, h => by
    simp only [aops] at h ⊢
    split at h
    · cases h
    · exact aops_cont h
    · split at h
      · cases h
      · split at h
        · rename_i ho
          obtain ⟨n, hn⟩ := aOp_cont ho
          obtain ⟨m, hm⟩ := aops_cont h
          refine ⟨max n m, ?_⟩
          rw [aOp_mono (up (Nat.le_max_left n m)) hn]
          exact aops_mono (up (Nat.le_max_right n m)) hm
        · rename_i ho
          obtain ⟨n, hn⟩ := aOp_cont ho
          exact ⟨n, by rw [hn]; exact h⟩
        · cases h

theorem aexec_cont {b : Nat} : ∀ {c : ACode} {st : St} {r : AExit × St}, aexec (sem F prim) (sloop F prim) b c st = some r → ∃ n, aexec (asem F prim n) (aloop (asem F prim n) n) b c st = some r := by
  intro c
  induction c with
  | skip => intro st r h; exact ⟨0, h⟩
  | settle l => intro st r h; exact ⟨0, h⟩
  | region pan ops keep =>
    intro st r h
    simp only [aexec] at h ⊢
    split at h
    · rename_i ho
      obtain ⟨n, hn⟩ := aops_cont ho
      exact ⟨n, by rw [hn]; exact h⟩
    · rename_i ho
      obtain ⟨n, hn⟩ := aops_cont ho
      exact ⟨n, by rw [hn]; exact h⟩
    · cases h
  | seq x y ihx ihy =>
    intro st r h
    simp only [aexec] at h ⊢
    split at h
    · rename_i ho
      obtain ⟨n, hn⟩ := ihx ho
      obtain ⟨m, hm⟩ := ihy h
      refine ⟨max n m, ?_⟩
      rw [aexec_mono (up (Nat.le_max_left n m)) (upl (Nat.le_max_left n m)) hn]
      exact aexec_mono (up (Nat.le_max_right n m)) (upl (Nat.le_max_right n m)) hm
    · rename_i hn
      obtain ⟨n, h1⟩ := ihx h
      refine ⟨n, ?_⟩
      rw [h1]
      split
      · rename_i e; cases e; exact (hn _ h).elim
      · rfl
  | cond c x y ihx ihy =>
    intro st r h
    simp only [aexec] at h ⊢
    split at h
    · exact ihx h
    · exact ihy h
    · cases h
  | block id c ih =>
    intro st r h
    simp only [aexec] at h ⊢
    split at h
    · rename_i ho
      obtain ⟨n, hn⟩ := ih ho
      exact ⟨n, by rw [hn]; exact h⟩
    · rename_i hn
      obtain ⟨n, h1⟩ := ih h
      refine ⟨n, ?_⟩
      rw [h1]
      split
      · rename_i e; cases e; exact (hn _ _ h).elim
      · rfl
  | loop keep c ih => intro st r h; exact sloop_iff.1 h
  | exit id => intro st r h; exact ⟨0, h⟩
  | ret => intro st r h; exact ⟨0, h⟩

theorem abody_cont {fn : AFn} {args : List AV} {hp : Heap} {r : ARes × Heap} (h : abody (sem F prim) (sloop F prim) fn args hp = some r) : ∃ n, abody (asem F prim n) (aloop (asem F prim n) n) fn args hp = some r := by
  simp only [abody] at h ⊢
  split at h
  · cases h
  · rename_i hn
    simp only [if_neg hn]
    split at h
    · rename_i ho
      obtain ⟨n, hn⟩ := aexec_cont ho
      exact ⟨n, by rw [hn]; exact h⟩
    · rename_i ho
      obtain ⟨n, hn⟩ := aexec_cont ho
      exact ⟨n, by rw [hn]; exact h⟩
    · rename_i ho
      obtain ⟨n, hn⟩ := aexec_cont ho
      exact ⟨n, by rw [hn]; exact h⟩
    · cases h

theorem acall_cont {f : FuncId} {as : List AV} {hp : Heap} {r : ARes × Heap} (h : acall F prim (sem F prim) (sloop F prim) f as hp = some r) : ∃ n, acall F prim (asem F prim n) (aloop (asem F prim n) n) f as hp = some r := by
  unfold acall at h ⊢
  split at h
  · exact ⟨0, h⟩
  · split at h
    · cases h
    · rename_i fn _
      by_cases hm : fn.heapMode = true
      · simp only [hm, if_true] at h ⊢
        split at h
        · rename_i ho
          obtain ⟨n, hn⟩ := abody_cont ho
          exact ⟨n, by rw [hn]; exact h⟩
        · rename_i ho
          obtain ⟨n, hn⟩ := abody_cont ho
          exact ⟨n, by rw [hn]; exact h⟩
        · cases h
      · simp only [if_neg hm] at h ⊢
        split at h
        · cases h
        · split at h
          · rename_i ho
            obtain ⟨n, hn⟩ := abody_cont ho
            exact ⟨n, by rw [hn]; exact h⟩
          · rename_i ho
            obtain ⟨n, hn⟩ := abody_cont ho
            exact ⟨n, by rw [hn]; exact h⟩
          · cases h

/-- A call is its body's run. -/
theorem sem_eq (f : FuncId) (as : List AV) (hp : Heap) : sem F prim f as hp = acall F prim (sem F prim) (sloop F prim) f as hp := by
  have to : ∀ r, sem F prim f as hp = some r ↔ acall F prim (sem F prim) (sloop F prim) f as hp = some r := fun r => by
    constructor
    · intro h
      obtain ⟨n, hn⟩ := sem_iff.1 h
      cases n with
      | zero => cases hn
      | succ n => exact acall_mono asem_le aloop_le _ _ _ _ hn
    · intro h
      obtain ⟨n, hn⟩ := acall_cont h
      exact sem_iff.2 ⟨n + 1, hn⟩
  exact Option.ext fun r => to r

/-- A loop is its body's run, and then the loop. -/
theorem sloop_eq (b m : Nat) (keep : List Nat) (c : ACode) (st : St) : sloop F prim b m keep c st = match aexec (sem F prim) (sloop F prim) b c st with
    | some (.normal, st') => sloop F prim b m keep c ⟨st'.fr.keep keep, collect m b (st'.fr.keep keep) st'.hp⟩
    | r => r := by
  have to : ∀ r, sloop F prim b m keep c st = some r ↔ (match aexec (sem F prim) (sloop F prim) b c st with
    | some (.normal, st') => sloop F prim b m keep c ⟨st'.fr.keep keep, collect m b (st'.fr.keep keep) st'.hp⟩
    | r => r) = some r := fun r => by
    constructor
    · intro h
      obtain ⟨n, hn⟩ := sloop_iff.1 h
      cases n with
      | zero => cases hn
      | succ n =>
        simp only [aloop] at hn
        have hle : LLe (aloop (asem F prim (n + 1)) n) (sloop F prim) := (aloop_mono (OLe.refl _) (by omega : n ≤ n + 1)).trans aloop_le
        split at hn
        · rename_i ho
          rw [aexec_mono asem_le hle ho]
          exact hle _ _ _ _ _ _ hn
        · rename_i hne
          rw [aexec_mono asem_le hle hn]
          split
          · rename_i e; cases e; exact (hne _ hn).elim
          · rfl
    · intro h
      split at h
      · rename_i ho
        obtain ⟨n, hn⟩ := aexec_cont ho
        obtain ⟨k, hk⟩ := sloop_iff.1 h
        refine sloop_iff.2 ⟨max n k + 1, ?_⟩
        simp only [aloop]
        rw [aexec_mono (up (by omega : n ≤ max n k + 1)) (aloop_mono (up (by omega)) (by omega)) hn]
        exact aloop_mono (up (by omega : k ≤ max n k + 1)) (by omega) _ _ _ _ _ _ hk
      · rename_i hne
        obtain ⟨n, hn⟩ := aexec_cont h
        refine sloop_iff.2 ⟨n + 1, ?_⟩
        simp only [aloop]
        rw [aexec_mono (up (by omega : n ≤ n + 1)) (aloop_mono (up (by omega)) (by omega)) hn]
        split
        · rename_i e; cases e; exact (hne _ h).elim
        · rfl
  exact Option.ext fun r => to r

theorem sem_sound {P : Program} (hmix : P.follows .mixedOrders = true) (hF : FnsOk P F) (hP : PrimOk P prim) : SoundO P (sem F prim) := by
  intro f as hp r hp' h
  obtain ⟨n, hn⟩ := sem_iff.1 h
  exact asem_sound hmix hF hP n f as hp r hp' hn
end Go.Am

/- A table of functions. -/
namespace Go.Am
def TabOk (P : Program) (tab : List (Nat × AFn)) : Prop := ∀ x ∈ tab, ∃ fnc, P.funcs[x.1]? = some fnc ∧ trFn P x.2.heapMode fnc = some x.2
theorem tabOk_nil {P : Program} : TabOk P [] := fun x h => by simp at h
theorem tabOk_cons {P : Program} {f : Nat} {g : AFn} {fnc : Func} {r : List (Nat × AFn)} (h : P.funcs[f]? = some fnc) (t : trFn P g.heapMode fnc = some g) (k : TabOk P r) : TabOk P ((f, g) :: r) := by
  intro x hx
  simp only [List.mem_cons] at hx
  rcases hx with rfl | hx
  · exact ⟨fnc, h, t⟩
  · exact k x hx
def find : List (Nat × AFn) → FuncId → Option AFn
  | [], _ => none
  | (k, g) :: r, f => bif Nat.beq k f then some g else find r f
theorem find_mem : ∀ {tab : List (Nat × AFn)} {f : FuncId} {g : AFn}, find tab f = some g → (f, g) ∈ tab
  | [], _, _, h => by cases h
  | (k, x) :: r, f, g, h => by
    simp only [find] at h
    cases hk : Nat.beq k f with
    | true =>
      rw [hk] at h
      cases h
      simp [Nat.eq_of_beq_eq_true hk]
    | false =>
      rw [hk] at h
      exact List.mem_cons_of_mem _ (find_mem h)
theorem fnsOk_of {P : Program} {tab : List (Nat × AFn)} (h : TabOk P tab) : FnsOk P (find tab) := fun f fn hf => h (f, fn) (find_mem hf)
end Go.Am

/- Contracts by hand: what the library has no body for. -/
namespace Go.Am
variable {P : Program}

def primCmp : Oracle := fun _ args hp => match args with
  | [.pv _ (.str a), .pv _ (.str b)] => some (.ret (.pv none (.int .i64 (Lib.compareBytes a b))), hp)
  | _ => none

/-- One function's contract. -/
def PrimAt (P : Program) (f : FuncId) (p : Oracle) : Prop :=
  ∀ args hp r hp', p f args hp = some (r, hp') → ∀ (w : World) (X : Nat → Prop) (μ : Nat → Option Nat) (vs : List Value), HR w X μ hp → LR w X μ hp args vs → Called P f vs.toArray w (CallPost hp.length w X μ hp r hp')

theorem primCmp_ok {f : FuncId} {fn : Func} (hf : P.funcs[f]? = some fn) (hname : (fn.name == "runtime.NumGoroutine") = false) (hb : fn.body.isNone = true) (hn : Extern.findNext fn = none)
    (he : Extern.find fn = some Extern.BytealgCompare.compare) : PrimAt P f primCmp := by
  intro args hp r hp' h w X μ vs hH hl
  unfold primCmp at h
  split at h
  · rename_i s1 a s2 b
    cases h
    cases hl with | cons h1 hl =>
    cases hl with | cons h2 hl =>
    cases hl
    cases h1 with | pv _ _ _ _ h1 =>
    cases h2 with | pv _ _ _ _ h2 =>
    cases h1
    cases h2
    refine .inr ⟨.int .i64 (Lib.compareBytes a b), w, ?_, μ, .pv none (.int .i64 (Lib.compareBytes a b)), rfl, hH, Ext.refl _ _ _ _ _, .pv _ _ _ rfl (.int _ _)⟩
    rw [run_callFunc_extern hf hname hb hn he, Lib.run_compareString]
    rfl
  · cases h

theorem primOk_nil : PrimOk P (fun _ => none) := fun f p h => by cases h
theorem primOk_cons {prim : FuncId → Option Oracle} {f : FuncId} {p : Oracle} (h : PrimAt P f p) (k : PrimOk P prim) : PrimOk P (fun g => bif Nat.beq f g then some p else prim g) := by
  intro g q hq
  cases hk : Nat.beq f g with
  | true =>
    simp only [hk, cond_true] at hq
    cases hq
    have := Nat.eq_of_beq_eq_true hk
    subst this
    exact h
  | false =>
    simp only [hk, cond_false] at hq
    exact k g q hq
end Go.Am

/- From a run of the abstract machine to what a law's row wants. -/
namespace Go.Am
open Go.ChangeShapes Go.WideShapes Go.ChangeAt Go.RowKit
variable {P : Program} {H : Type} {enc : TypeId × Value → H}

theorem called_calls {f : FuncId} {fn : Func} {c : Code} {args : Array Value} {w : World} {R : Ending → World → Prop} (hf : P.funcs[f]? = some fn) (hb : fn.body = some c) (hn : fn.name ≠ "runtime.NumGoroutine")
    (h : Called P f args w R) : Calls P f args w R := by
  rcases h with ⟨_, h⟩ | ⟨v, w', h, _⟩
  · exact h
  · rw [callFunc_run hf hb hn] at h; cases h

abbrev noX : Nat → Prop := fun _ => False
abbrev noμ : Nat → Option Nat := fun _ => none

theorem hr_empty (w : World) : HR w noX noμ [] :=
  ⟨fun i _ _ hi => by simp at hi, fun i _ hi => by simp at hi, fun b hb => hb.elim, fun i sh v h => by simp at h, fun i sh es fz h => by simp at h, fun i sh es h => by simp at h⟩

theorem ext_below {b0 : Nat} {X : Nat → Prop} {μ μ' : Nat → Option Nat} {hp' : Heap} {w w' : World} (h : Ext b0 X μ [] w μ' hp' w') : Below w.heap.size w w' :=
  ⟨h.os, h.tape, h.output, h.size, fun k hk => h.blk k hk fun i hi => by simp [live] at hi⟩

theorem below_kept {w w' : World} (h : Below w.heap.size w w') (may : MemPlace → Prop) : w.keptBut w' may := by
  refine ⟨h.os, h.output, fun i hi => ?_⟩
  rw [h.block i hi]
  cases w.heap[i]? with
  | none => trivial
  | some o => cases o <;> simp

theorem trodAll_below (hl : laidOutB P = true) {W W' : World} (hb : Below W.heap.size W W') : ∀ {ts : List TypeId} {vs : List Value} {ds : List (DataW H)} {p : List MemPlace},
    (∀ t ∈ ts, P.readableRec t = true ∧ t < P.types.size) → (∀ x ∈ p, x.block < W.heap.size) → DataW.TrodAll enc P W 0 (fun _ => true) true ts vs ds p → DataW.TrodAll enc P W' 0 (fun b => decide (b < W.heap.size)) true ts vs ds p
  | [], _, _, _, _, _, h => by
    obtain ⟨rfl, rfl, rfl⟩ := trodAll_nil h
    exact trodAll_mk0
  | t :: ts, _, _, _, ht, hp, h => by
    obtain ⟨v, vs, d, ds, a, b, rfl, rfl, rfl, h1, h2⟩ := trodAll_cons h
    obtain ⟨k1, k2⟩ := ht t (by simp)
    exact ⟨a, b, Below.trod hl k1 k2 h1 hb fun x hx => hp x (by simp [hx]), trodAll_below hl hb (fun t h => ht t (by simp [h])) (fun x hx => hp x (by simp [hx])) h2, rfl⟩

def paramsOk (P : Program) (fn : Func) : Bool := fn.params.toList.all fun t => P.readableRec t && decide (t < P.types.size)
def boolRes (P : Program) (fn : Func) : Bool :=
  match fn.resultTypes.toList with
  | [t] => isBoolT P t
  | _ => false
/-- What a law's function must be. -/
def lawFn (P : Program) (fn : Func) : Bool := paramsOk P fn && boolRes P fn && fn.body.isSome && !(fn.name == "runtime.NumGoroutine")

theorem law_contract {Γ : Oracle} (hΓ : SoundO P Γ) {f : FuncId} {fn : Func} (hf : P.funcs[f]? = some fn) (hfn : lawFn P fn = true) (hl : laidOutB P = true) {s : ChangeSpec} (hv : s.vars = [])
    {W : World} {args : Array Value} {ds gs : List (DataW H)} {before : List MemPlace} (hs : s.fn H (ds ++ gs) = { results := [.lit (.bool true)], args := ds })
    (hW : DataW.Whole enc P fn.params.toList s.vars false W args.toList ds gs before)
    {avs : List AV} (hL : LR W noX noμ [] avs args.toList) (h : Γ f avs [] = some (.ret (.pv none (.bool true)), [])) :
    Calls P f args W fun e W' => ∃ v, e = .returned v ∧ s.post enc P fn false true false false W args v W' := by
  simp only [lawFn, Bool.and_eq_true, Bool.not_eq_true', beq_eq_false_iff_ne, Option.isSome_iff_exists] at hfn
  obtain ⟨⟨⟨hp, hbr⟩, c, hb⟩, hn⟩ := hfn
  obtain ⟨tb, hr, htb⟩ : ∃ tb, fn.resultTypes = #[tb] ∧ P.underlying tb = some .bool := by
    unfold boolRes at hbr
    split at hbr
    · rename_i t ht
      exact ⟨t, Array.toList_inj.1 ht, isBoolT_of hbr⟩
    · cases hbr
  have k := hΓ f avs [] _ _ h W noX noμ args.toList (hr_empty W) hL
  refine (called_calls hf hb hn k).mono fun e W' he => ?_
  cases e with
  | returned u =>
    obtain ⟨μ', v, e1, _, hE, hA⟩ := he
    cases e1
    cases hA with | pv _ _ _ _ hA =>
    cases hA
    have hB := ext_below hE
    refine ⟨_, rfl, ds, gs, before, [], before, [], hW, ?_, ?_, ?_, below_kept hB _, fun h => by cases h⟩
    · rw [hs, hr]
      simp only [Value.resultList]
      exact trodAll_mk1 (shut_bool htb true)
    · rw [hs]
      have hlt := hW.lt
      obtain ⟨p, q, k1, k2, k3, _, _⟩ := hW
      rw [hv] at k2
      obtain ⟨_, rfl⟩ := trodVars_none k2
      rw [List.append_nil] at k3
      subst k3
      refine trodAll_below hl hB (fun t ht => ?_) hlt k1
      have := List.all_eq_true.1 hp t ht
      simp only [Bool.and_eq_true, decide_eq_true_eq] at this
      exact this
    · rw [hs, hv]
      rfl
  | panicked ch => obtain ⟨_, _, _, e1, _⟩ := he; cases e1
  | outgrown => exact he.elim
end Go.Am

/- Terms as plain data. -/
namespace Go.Am
inductive Tm where
  | mk (kind n : Int) (name : List UInt8) (args : List Tm)
  deriving Inhabited
mutual
def Tm.pv : Tm → PV
  | .mk k n s as => .agg [(none, .int .i64 k), (none, .int .i64 n), (none, .str s), (none, .sl (some 4) (Tm.pvs as))]
def Tm.pvs : List Tm → List PV
  | [] => []
  | t :: r => t.pv :: Tm.pvs r
end
def Tm.kind : Tm → Int | .mk k _ _ _ => k
def Tm.n : Tm → Int | .mk _ n _ _ => n
def Tm.name : Tm → List UInt8 | .mk _ _ s _ => s
def Tm.args : Tm → List Tm | .mk _ _ _ as => as
def Tm.av (t : Tm) : AV := .pv (some 4) t.pv
theorem Tm.pv_eq (t : Tm) : t.pv = .agg [(none, .int .i64 t.kind), (none, .int .i64 t.n), (none, .str t.name), (none, .sl (some 4) (Tm.pvs t.args))] := by cases t; rfl
end Go.Am

/- What code comes to: rules that a proof steps by. -/
namespace Go.Am
variable {Γ : Oracle} {Λ : LoopOracle} {b : Nat}

/-- What is done next is left alone till it is wanted: a mark that keeps rewriting out. -/
class Tag.{u} {α : Sort u} (a : α) : Type where
instance tagAny.{u} {α : Sort u} (a : α) : Tag a := ⟨⟩

/-- Run, code ends so that Q holds. -/
def W (Γ : Oracle) (Λ : LoopOracle) (b : Nat) (c : ACode) (st : St) (Q : AExit → St → Prop) [Tag Q] : Prop :=
  match aexec Γ Λ b c st with
  | some (e, st') => Q e st'
  | none => False
def O (Γ : Oracle) (b : Nat) (ops : List AOper) (fr : Fr) (hp : Heap) (K : Fr → Heap → Prop) (Kp : PV → Fr → Heap → Prop) [Tag K] [Tag Kp] : Prop :=
  match aops Γ b ops fr hp with
  | some (.normal, fr', hp') => K fr' hp'
  | some (.panic v, fr', hp') => Kp v fr' hp'
  | _ => False
def seqK (k : St → Prop) (Q : AExit → St → Prop) [Tag k] [Tag Q] : AExit → St → Prop
  | .normal, st => k st
  | .exit i, st => Q (.exit i) st
  | .ret, st => Q .ret st
  | .panic v, st => Q (.panic v) st
def blockK (id : Nat) (Q : AExit → St → Prop) [Tag Q] : AExit → St → Prop
  | .exit i, st => if i = id then Q .normal st else Q (.exit i) st
  | .normal, st => Q .normal st
  | .ret, st => Q .ret st
  | .panic v, st => Q (.panic v) st
def condK (v : Option AV) (A B : Prop) [Tag A] [Tag B] : Prop :=
  match v with
  | some (.pv _ (.bool b)) => if b = true then A else B
  | _ => False
def panK (pan : Bool) (A : Prop) [Tag A] : Prop := if pan = true then A else False
def wantK (v : Option Bool) (A B : Prop) [Tag A] [Tag B] : Prop :=
  match v with
  | some b => if b = true then A else B
  | none => False
def argK (v : Option (List AV)) (K : List AV → Prop) [Tag K] : Prop :=
  match v with
  | some l => K l
  | none => False
def opK (v : Option OpRes) (K : AV → Heap → Prop) (Kp : PV → Heap → Prop) [Tag K] [Tag Kp] : Prop :=
  match v with
  | some (.val v hp) => K v hp
  | some (.panic v hp) => Kp v hp
  | none => False
def stepK (v : Option (AV × Heap)) (K : AV → Heap → Prop) [Tag K] : Prop :=
  match v with
  | some (v, hp) => K v hp
  | none => False
def callK (v : Option (ARes × Heap)) (K : AV → Heap → Prop) (Kp : PV → Heap → Prop) [Tag K] [Tag Kp] : Prop :=
  match v with
  | some (.ret v, hp) => K v hp
  | some (.panic v, hp) => Kp v hp
  | none => False

variable {st : St} {Q : AExit → St → Prop} {fr : Fr} {hp : Heap} {K : Fr → Heap → Prop} {Kp : PV → Fr → Heap → Prop}
theorem W_skip : W Γ Λ b .skip st Q = Q .normal st := rfl
theorem W_exit (i : Nat) : W Γ Λ b (.exit i) st Q = Q (.exit i) st := rfl
theorem W_ret : W Γ Λ b .ret st Q = Q .ret st := rfl
theorem W_settle (l : List Nat) : W Γ Λ b (.settle l) st Q = (match settle l st with | some st' => Q .normal st' | none => False) := by
  unfold W
  simp only [aexec]
  cases settle l st <;> rfl
theorem W_seq (x y : ACode) : W Γ Λ b (.seq x y) st Q = W Γ Λ b x st (seqK (fun st' => W Γ Λ b y st' Q) Q) := by
  unfold W
  simp only [aexec]
  cases aexec Γ Λ b x st with
  | none => rfl
  | some r =>
    obtain ⟨e, st'⟩ := r
    cases e <;> rfl
theorem W_cond (c : AArg) (x y : ACode) : W Γ Λ b (.cond c x y) st Q = condK (st.fr.arg c) (W Γ Λ b x st Q) (W Γ Λ b y st Q) := by
  unfold W
  simp only [aexec]
  cases st.fr.arg c with
  | none => rfl
  | some v =>
    cases v with
    | pv s p =>
      cases p with
      | bool v => cases v <;> simp [condK]
      | _ => rfl
    | _ => rfl
theorem W_block (id : Nat) (c : ACode) : W Γ Λ b (.block id c) st Q = W Γ Λ b c st (blockK id Q) := by
  unfold W
  simp only [aexec]
  cases aexec Γ Λ b c st with
  | none => rfl
  | some r =>
    obtain ⟨e, st'⟩ := r
    cases e with
    | exit i =>
      simp only [blockK]
      by_cases h : i = id
      · simp [h]
      · simp [h]
    | _ => rfl
theorem W_region (pan : Bool) (ops : List AOper) (keep : List Nat) : W Γ Λ b (.region pan ops keep) st Q = O Γ b ops st.fr st.hp (fun fr hp => Q .normal ⟨fr.keep keep, hp⟩) (fun v fr hp => panK pan (Q (.panic v) ⟨fr.keep keep, hp⟩)) := by
  unfold W O
  simp only [aexec]
  cases aops Γ b ops st.fr st.hp with
  | none => rfl
  | some r =>
    obtain ⟨e, fr, hp⟩ := r
    cases e with
    | panic v => cases pan <;> simp [panK]
    | _ => rfl
theorem O_nil : O Γ b [] fr hp K Kp = K fr hp := rfl
theorem O_cons (o : AOper) (r : List AOper) : O Γ b (o :: r) fr hp K Kp = wantK (wants fr o.guard) (argK (fr.argsOf o.args) fun vs => opK (aOp Γ b o.op vs hp) (fun v hp' => O Γ b r (fr.dst o.dst v) hp' K Kp) (fun v hp' => Kp v fr hp')) (O Γ b r (fr.dst o.dst .undef) hp K Kp) := by
  unfold O
  simp only [aops]
  cases wants fr o.guard with
  | none => rfl
  | some w =>
    cases w with
    | false => simp [wantK]
    | true =>
      simp only [wantK, if_true]
      cases fr.argsOf o.args with
      | none => rfl
      | some vs =>
        simp only [argK]
        cases aOp Γ b o.op vs hp with
        | none => rfl
        | some r => cases r <;> rfl
theorem O_step (d : Option Nat) (op : AOp) (as : List AArg) (r : List AOper) : O Γ b (⟨d, op, as, none⟩ :: r) fr hp K Kp = argK (fr.argsOf as) fun vs => opK (aOp Γ b op vs hp) (fun v hp' => O Γ b r (fr.dst d v) hp' K Kp) (fun v hp' => Kp v fr hp') := by
  rw [O_cons]; rfl
def guardK (v : Option AV) (w : Bool) (A B : Prop) [Tag A] [Tag B] : Prop :=
  match v with
  | some (.pv _ (.bool b)) => if b = w then A else B
  | some .undef => B
  | _ => False
theorem O_guard (d : Option Nat) (op : AOp) (as : List AArg) (s : Nat) (w : Bool) (r : List AOper) : O Γ b (⟨d, op, as, some (s, w)⟩ :: r) fr hp K Kp = guardK (fr.look s) w (argK (fr.argsOf as) fun vs => opK (aOp Γ b op vs hp) (fun v hp' => O Γ b r (fr.dst d v) hp' K Kp) (fun v hp' => Kp v fr hp')) (O Γ b r (fr.dst d .undef) hp K Kp) := by
  rw [O_cons]
  simp only [wants]
  cases h : fr.look s with
  | none => rfl
  | some v =>
    cases v with
    | pv sh p =>
      cases p with
      | bool c => cases c <;> cases w <;> simp [wantK, guardK]
      | _ => rfl
    | undef => simp [wantK, guardK]
    | _ => rfl
theorem arg_t (s : Nat) : fr.arg (.t s) = fr.look s := rfl
theorem arg_c (v : AV) : fr.arg (.c v) = some v := rfl
theorem look_nil (s : Nat) : Fr.look [] s = none := rfl
theorem look_cons (k s : Nat) (v : AV) (r : Fr) : Fr.look ((k, v) :: r) s = if k = s then some v else Fr.look r s := rfl
theorem dst_some (d : Nat) (v : AV) : fr.dst (some d) v = (d, v) :: fr := rfl
theorem dst_none (v : AV) : fr.dst none v = fr := rfl
theorem args_nil : fr.argsOf [] = some [] := rfl
def consO (v : Option AV) (l : Option (List AV)) : Option (List AV) :=
  match v with
  | none => none
  | some v => match l with
    | some l => some (v :: l)
    | none => none
theorem args_cons (a : AArg) (r : List AArg) : fr.argsOf (a :: r) = consO (fr.arg a) (fr.argsOf r) := rfl
theorem consO_some (v : AV) (l : List AV) : consO (some v) (some l) = some (v :: l) := rfl
theorem argK_some (l : List AV) (K : List AV → Prop) : argK (some l) K = K l := rfl
/-- Either way. -/
def iteK (v : Prop) (A B : Prop) [Tag A] [Tag B] : Prop := (v → A) ∧ (¬ v → B)
theorem condK_bool (s : Sh) (v : Bool) (A B : Prop) : condK (some (.pv s (.bool v))) A B = iteK (v = true) A B := by
  cases v <;> simp [condK, iteK]
theorem guardK_bool (s : Sh) (v w : Bool) (A B : Prop) : guardK (some (.pv s (.bool v))) w A B = iteK (v = w) A B := by
  cases v <;> cases w <;> simp [guardK, iteK]
theorem guardK_undef (w : Bool) (A B : Prop) : guardK (some .undef) w A B = B := rfl
theorem iteK_true (A B : Prop) : iteK True A B = A := by simp [iteK]
theorem iteK_false (A B : Prop) : iteK False A B = B := by simp [iteK]
theorem iteK_not (v A B : Prop) : iteK (¬ v) A B = iteK v B A := by
  by_cases h : v <;> simp [iteK, h]
theorem iteK_intro {v A B : Prop} (hA : v → A) (hB : ¬ v → B) : iteK v A B := ⟨hA, hB⟩
attribute [irreducible] iteK
theorem stepK_some (v : AV) (hp : Heap) (K : AV → Heap → Prop) : stepK (some (v, hp)) K = K v hp := rfl
theorem callK_ret (v : AV) (hp : Heap) (K : AV → Heap → Prop) (Kp : PV → Heap → Prop) : callK (some (.ret v, hp)) K Kp = K v hp := rfl
theorem callK_panic (v : PV) (hp : Heap) (K : AV → Heap → Prop) (Kp : PV → Heap → Prop) : callK (some (.panic v, hp)) K Kp = Kp v hp := rfl
theorem keep_nil : fr.keep [] = [] := rfl
def keepO (k : Nat) (v : Option AV) (r : Fr) : Fr :=
  match v with
  | some v => (k, v) :: r
  | none => r
theorem keep_cons (k : Nat) (ks : List Nat) : fr.keep (k :: ks) = keepO k (fr.look k) (fr.keep ks) := rfl
theorem keepO_some (k : Nat) (v : AV) (r : Fr) : keepO k (some v) r = (k, v) :: r := rfl
theorem keepO_none (k : Nat) (r : Fr) : keepO k none r = r := rfl
theorem seqK_normal (k : St → Prop) (Q : AExit → St → Prop) (st : St) : seqK k Q .normal st = k st := rfl
theorem seqK_exit (k : St → Prop) (Q : AExit → St → Prop) (i : Nat) (st : St) : seqK k Q (.exit i) st = Q (.exit i) st := rfl
theorem seqK_ret (k : St → Prop) (Q : AExit → St → Prop) (st : St) : seqK k Q .ret st = Q .ret st := rfl
theorem seqK_panic (k : St → Prop) (Q : AExit → St → Prop) (v : PV) (st : St) : seqK k Q (.panic v) st = Q (.panic v) st := rfl
theorem blockK_normal (id : Nat) (Q : AExit → St → Prop) (st : St) : blockK id Q .normal st = Q .normal st := rfl
theorem blockK_exit (id : Nat) (Q : AExit → St → Prop) (i : Nat) (st : St) : blockK id Q (.exit i) st = if i = id then Q .normal st else Q (.exit i) st := rfl
theorem blockK_ret (id : Nat) (Q : AExit → St → Prop) (st : St) : blockK id Q .ret st = Q .ret st := rfl
theorem blockK_panic (id : Nat) (Q : AExit → St → Prop) (v : PV) (st : St) : blockK id Q (.panic v) st = Q (.panic v) st := rfl
end Go.Am
