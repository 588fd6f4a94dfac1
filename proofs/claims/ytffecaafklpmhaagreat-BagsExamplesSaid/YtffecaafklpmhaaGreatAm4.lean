/- What is proved: the abstract machine says true of the model (part 4). No conditions beside those that each theorem names. -/
import Derived.Test.YtffecaafklpmhaaGreatAm3
set_option linter.unusedSimpArgs false
set_option linter.unusedVariables false
/- Runs with facts: what is known of calls of values alone is looked up. -/
namespace Go.Am
mutual
def PV.eqB : Nat → PV → PV → Bool
  | 0, _, _ => false
  | _ + 1, .bool a, .bool b => a == b
  | _ + 1, .int k n, .int k' n' => decide (k = k') && decide (n = n')
  | _ + 1, .str s, .str s' => decide (s.map UInt8.toNat = s'.map UInt8.toNat)
  | d + 1, .agg l, .agg l' => PV.eqA d l l'
  | d + 1, .sl sh es, .sl sh' es' => decide (sh = sh') && PV.eqL d es es'
  | _ + 1, _, _ => false
termination_by structural d _ _ => d
def PV.eqA : Nat → List (Sh × PV) → List (Sh × PV) → Bool
  | 0, _, _ => false
  | _ + 1, [], [] => true
  | d + 1, (s, a) :: r, (s', b) :: r' => decide (s = s') && (PV.eqB d a b && PV.eqA d r r')
  | _ + 1, _, _ => false
termination_by structural d _ _ => d
def PV.eqL : Nat → List PV → List PV → Bool
  | 0, _, _ => false
  | _ + 1, [], [] => true
  | d + 1, a :: r, b :: r' => PV.eqB d a b && PV.eqL d r r'
  | _ + 1, _, _ => false
termination_by structural d _ _ => d
end
theorem map_toNat_inj : ∀ {a b : List UInt8}, a.map UInt8.toNat = b.map UInt8.toNat → a = b
  | [], [], _ => rfl
  | [], _ :: _, h => by simp at h
  | _ :: _, [], h => by simp at h
  | x :: r, y :: t, h => by
    simp only [List.map_cons, List.cons.injEq] at h
    rw [UInt8.toNat.inj h.1, map_toNat_inj h.2]
theorem eqB_ok : ∀ d, (∀ a b, PV.eqB d a b = true → a = b) ∧ (∀ a b, PV.eqA d a b = true → a = b) ∧ (∀ a b, PV.eqL d a b = true → a = b)
  | 0 => ⟨fun _ _ h => Bool.noConfusion (show false = true from h), fun _ _ h => Bool.noConfusion (show false = true from h), fun _ _ h => Bool.noConfusion (show false = true from h)⟩
  | d + 1 => by
    obtain ⟨h1, h2, h3⟩ := eqB_ok d
    refine ⟨fun a b h => ?_, fun a b h => ?_, fun a b h => ?_⟩
    · cases a <;> cases b <;> try (exact Bool.noConfusion (show false = true from h))
      · rw [eq_of_beq h]
      · rename_i k n k' n'
        have h : (decide (k = k') && decide (n = n')) = true := h
        simp only [Bool.and_eq_true, decide_eq_true_eq] at h
        rw [h.1, h.2]
      · rw [map_toNat_inj (of_decide_eq_true h)]
      · rw [h2 _ _ h]
      · rename_i sh es sh' es'
        have h : (decide (sh = sh') && PV.eqL d es es') = true := h
        simp only [Bool.and_eq_true, decide_eq_true_eq] at h
        rw [h.1, h3 _ _ h.2]
    · cases a with
      | nil => cases b with
        | nil => rfl
        | cons => exact Bool.noConfusion (show false = true from h)
      | cons x r => cases b with
        | nil => exact Bool.noConfusion (show false = true from h)
        | cons y t =>
          obtain ⟨s, a⟩ := x
          obtain ⟨s', b⟩ := y
          have h : (decide (s = s') && (PV.eqB d a b && PV.eqA d r t)) = true := h
          simp only [Bool.and_eq_true, decide_eq_true_eq] at h
          rw [h.1, h1 _ _ h.2.1, h2 _ _ h.2.2]
    · cases a with
      | nil => cases b with
        | nil => rfl
        | cons => exact Bool.noConfusion (show false = true from h)
      | cons x r => cases b with
        | nil => exact Bool.noConfusion (show false = true from h)
        | cons y t =>
          have h : (PV.eqB d x y && PV.eqL d r t) = true := h
          simp only [Bool.and_eq_true] at h
          rw [h1 _ _ h.1, h3 _ _ h.2]
abbrev Facts := List (FuncId × List (Sh × PV) × AV)
def lookF : Facts → FuncId → List (Sh × PV) → Option AV
  | [], _, _ => none
  | (g, qs, v) :: r, f, ps => bif Nat.beq g f then (bif PV.eqA 60 qs ps then some v else lookF r f ps) else lookF r f ps
def hasF : Facts → FuncId → Bool
  | [], _ => false
  | (g, _, _) :: r, f => bif Nat.beq g f then true else hasF r f
def factR (K : Facts) (f : FuncId) (args : List AV) (hp : Heap) : Option (ARes × Heap) :=
  match freezeAll args hp with
  | none => none
  | some (ps, hp1) => match lookF K f ps with
    | some v => some (.ret v, bif v.scalar then hp else hp1)
    | none => none
def asemK (K : Facts) (F : FuncId → Option AFn) (prim : FuncId → Option PrimO) : Nat → Oracle
  | 0 => fun _ _ _ _ => none
  | n + 1 => fun k f args hp => match k with
    | .fn => bif hasF K f then (match factR K f args hp with
        | some r => some r
        | none => acall F prim (asemK K F prim n) (aloop (asemK K F prim n) n) .fn f args hp)
      else acall F prim (asemK K F prim n) (aloop (asemK K F prim n) n) .fn f args hp
    | k => acall F prim (asemK K F prim n) (aloop (asemK K F prim n) n) k f args hp
variable {F : FuncId → Option AFn} {prim : FuncId → Option PrimO}
theorem freezeAll_pvs' : ∀ (ps : List (Sh × PV)) {hp : Heap}, freezeAll (pvs ps) hp = some (ps, hp)
  | [], _ => rfl
  | (sh, p) :: r, hp => by
    have h : AV.freeze deep (.pv sh p) hp = some (p, hp) := rfl
    show freezeAll (.pv sh p :: pvs r) hp = _
    simp only [freezeAll, h, freezeAll_pvs' r, AV.shp]
def pureF (F : FuncId → Option AFn) (prim : FuncId → Option PrimO) (f : FuncId) : Bool :=
  match prim f, F f with
  | none, some fn => !fn.heapMode
  | _, _ => false
def resV : Option (ARes × Heap) → Option AV
  | some (.ret v, _) => some v
  | _ => none
inductive FactsOk (F : FuncId → Option AFn) (prim : FuncId → Option PrimO) : Facts → Prop
  | nil : FactsOk F prim []
  | cons {f : FuncId} {qs : List (Sh × PV)} {v : AV} {K : Facts} (hp : pureF F prim f = true) (h : resV (sem F prim .fn f (pvs qs) []) = some v) (k : FactsOk F prim K) : FactsOk F prim ((f, qs, v) :: K)
theorem lookF_ok {f : FuncId} {ps : List (Sh × PV)} {v : AV} : ∀ {K : Facts}, FactsOk F prim K → lookF K f ps = some v → pureF F prim f = true ∧ resV (sem F prim .fn f (pvs ps) []) = some v
  | _, .nil, h => by cases h
  | _, .cons (f := g) (qs := qs) hp h1 k, h => by
    unfold lookF at h
    cases hg : Nat.beq g f with
    | false => rw [hg] at h; exact lookF_ok k h
    | true =>
      rw [hg] at h
      have hgf : g = f := Nat.eq_of_beq_eq_true hg
      cases he : PV.eqA 60 qs ps with
      | false => rw [he] at h; exact lookF_ok k h
      | true =>
        rw [he] at h
        cases h
        rw [← (eqB_ok 60).2.1 _ _ he, ← hgf]
        exact ⟨hp, h1⟩
theorem factR_ok {K : Facts} (hK : FactsOk F prim K) {f : FuncId} {args : List AV} {hp : Heap} {r : ARes × Heap} (h : factR K f args hp = some r) : sem F prim .fn f args hp = some r := by
  unfold factR at h
  split at h
  · cases h
  · rename_i ps hp1 hz
    split at h
    · rename_i v hv
      cases h
      obtain ⟨h1, h2⟩ := lookF_ok hK hv
      unfold pureF at h1
      split at h1
      · rename_i fn hpr hF
        rw [sem_eq] at h2 ⊢
        unfold acallFn at h2 ⊢
        rw [hpr, hF] at h2 ⊢
        have hm : fn.heapMode = false := by simpa using h1
        simp only [hm, Bool.false_eq_true, if_false, hz, freezeAll_pvs'] at h2 ⊢
        split at h2
        · cases h2
        · rename_i hrc
          rw [if_neg hrc]
          cases hb : abody (sem F prim) (sloop F prim) fn (pvs ps) [] with
          | none => rw [hb] at h2; cases h2
          | some q =>
            obtain ⟨q, hp2⟩ := q
            rw [hb] at h2
            cases q with
            | panic v' => cases h2
            | ret v' =>
              simp only at h2 ⊢
              cases hf : v'.freezeRes hp2 with
              | none => rw [hf] at h2; cases h2
              | some x =>
                rw [hf] at h2
                cases h2
                rfl
      · cases h1
    · cases h
theorem aloop_semle : ∀ n, LLe (aloop (sem F prim) n) (sloop F prim)
  | 0 => fun _ _ _ _ _ _ h => by cases h
  | n + 1 => fun b m keep c st r h => by
    simp only [aloop] at h
    rw [sloop_eq]
    split at h
    · rename_i ho
      rw [aexec_mono (OLe.refl _) (aloop_semle n) ho]
      exact aloop_semle n _ _ _ _ _ _ h
    · rename_i hn
      rw [aexec_mono (OLe.refl _) (aloop_semle n) h]
      split
      · rename_i e; cases e; exact (hn _ h).elim
      · rfl
theorem asemK_le {K : Facts} (hK : FactsOk F prim K) : ∀ n, OLe (asemK K F prim n) (sem F prim)
  | 0 => fun _ _ _ _ _ h => by cases h
  | n + 1 => fun k f args hp r h => by
    have key : acall F prim (asemK K F prim n) (aloop (asemK K F prim n) n) k f args hp = some r → sem F prim k f args hp = some r := fun h => by
      rw [sem_eqk]
      exact acall_mono (asemK_le hK n) ((aloop_mono (asemK_le hK n) (Nat.le_refl n)).trans (aloop_semle n)) _ _ _ _ _ h
    unfold asemK at h
    split at h
    · cases hh : hasF K f with
      | false => rw [hh] at h; exact key h
      | true =>
        rw [hh] at h
        simp only [cond_true] at h
        split at h
        · rename_i r' hr
          cases h
          exact factR_ok hK hr
        · exact key h
    · exact key h
theorem fact_of {K : Facts} (hK : FactsOk F prim K) {n : Nat} {f : FuncId} {qs : List (Sh × PV)} {v : AV} (h : resV (asemK K F prim n .fn f (pvs qs) []) = some v) : resV (sem F prim .fn f (pvs qs) []) = some v := by
  cases hr : asemK K F prim n .fn f (pvs qs) [] with
  | none => rw [hr] at h; cases h
  | some r =>
    rw [asemK_le hK n _ _ _ _ _ hr]
    rw [hr] at h
    exact h
end Go.Am
