/- Small facts of terms and runs. -/
import Derived.Test.YtffecaafklpmhaaGreatRCl
import Derived.Test.YtffecaafklpmhaaGreatAm4
set_option linter.unusedSimpArgs false
set_option linter.unusedVariables false
namespace Go.Proofs.YtffecaafklpmhaaGreat
open Go.Am
theorem Tm.occs_inv {l : List Tm} {w : Int} (hw : w ∈ Tm.occs l) : ∃ u ∈ l, w ∈ u.occ := by
 induction l with
 | nil => cases hw
 | cons x r ih =>
  rw [Tm.occs] at hw
  rcases List.mem_append.1 hw with h | h
  ·exact ⟨x, List.mem_cons_self, h⟩
  ·obtain ⟨u, hu, h⟩ := ih h
   exact ⟨u, List.mem_cons_of_mem _ hu, h⟩
def tvar (v : Int) : Tm := .mk 0 v [] []
theorem node_var {t : Tm} (h : t.fits = true) (hk : t.kind = 0) : t = tvar t.n := by
 rw [Tm.fits_eq] at h
 have h1 : t.node = true := by simp at h; exact h.1
 cases t with
 | mk k n s ts =>
  simp only [Tm.kind] at hk
  subst hk
  simp [Tm.node, Tm.kind, Tm.n, Tm.name, Tm.args] at h1
  obtain ⟨⟨_, h3⟩, h4⟩ := h1
  rw [h4, of_decide_eq_true h3]
  rfl
theorem valid_fits {t : Tm} (h : t.valid = true) : t.fits = true := by simp [Tm.valid] at h; exact h.2
theorem valid_size {t : Tm} (h : t.valid = true) : t.size ≤ 2000 := by simp [Tm.valid] at h; exact h.1
theorem valid_of {t : Tm} (h : t.fits = true) (h2 : t.size ≤ 2000) : t.valid = true := by simp [Tm.valid, h, h2]
theorem collect_cases (n b : Nat) (fr : Fr) (hp : Heap) : collect n b fr hp = hp ∨ (collect n b fr hp = hp.take n ∧ ∀ x ∈ fr, ∀ q ∈ x.2.refsIn, q < n) := by
 unfold collect
 split
 ·rename_i h
  rw [Bool.and_eq_true, List.all_eq_true] at h
  exact .inr ⟨rfl, fun x hx q hq => by simpa using List.all_eq_true.1 (h.1 x hx) q hq⟩
 ·exact .inl rfl
theorem valid_arg {t u : Tm} (h : t.valid = true) (hu : u ∈ t.args) : u.valid = true := by
 unfold Tm.valid at h ⊢
 simp only [Bool.and_eq_true, decide_eq_true_eq] at h ⊢
 have := Tm.arg_lt hu
 exact ⟨by omega, Tm.fits_arg h.2 hu⟩
theorem sem_heap_ex {F : FuncId → Option AFn} {prim : FuncId → Option PrimO} {f : FuncId} {fn : AFn} {args : List AV} {hp : Heap} (P : AV → Heap → Prop) (hp0 : prim f = none) (hf : F f = some fn) (hm : fn.heapMode = true) (hn : args.length = fn.nparams)
  (h : W (sem F prim) (sloop F prim) hp.length fn.code ⟨params 0 args, hp⟩ (endK fn.results (fun v' h' => P v' (if v'.refsIn.all (fun q => decide (q < hp.length)) = true then h'.take hp.length else h')))) (hr : fn.rcv = none := by rfl) (hmo : fn.more = [] := by rfl) : ∃ v hp', sem F prim .fn f args hp = some (.ret v, hp') ∧ P v hp' := by
 rw [sem_eq]
 unfold acallFn
 rw [hp0, hf]
 simp only [hr, hmo, Option.isSome_none, Bool.false_eq_true, if_false, hm, if_true, abody, hn, ne_eq, not_true_eq_false, if_false]
 unfold W at h
 split at h
 ·rename_i e st' he
  rw [he]
  cases e with
  | normal =>
   rw [endK_normal] at h
   cases hr : resultOf st' fn.results with
   | none => rw [hr] at h; exact h.elim
   | some u => rw [hr] at h; exact ⟨_, _, by simp only [hr], h⟩
  | ret =>
   rw [endK_ret] at h
   cases hr : resultOf st' fn.results with
   | none => rw [hr] at h; exact h.elim
   | some u => rw [hr] at h; exact ⟨_, _, by simp only [hr], h⟩
  | exit i => exact h.elim
  | panic v => exact h.elim
 ·exact h.elim
theorem sem_pure_ex {F : FuncId → Option AFn} {prim : FuncId → Option PrimO} {f : FuncId} {fn : AFn} {args : List AV} {ps : List (Sh × PV)} (P : AV → Prop) (hp0 : prim f = none) (hf : F f = some fn) (hm : fn.heapMode = false) (hz : ∀ hp, freezeAll args hp = some (ps, hp)) (hn : (pvs ps).length = fn.nparams)
  (h : W (sem F prim) (sloop F prim) 0 fn.code ⟨params 0 (pvs ps), []⟩ (endK fn.results (fun v hp => ∃ v', Am.frozen v' v hp ∧ P v'))) (hr : fn.rcv = none := by rfl) (hmo : fn.more = [] := by rfl) : ∃ v, (∀ hp, sem F prim .fn f args hp = some (.ret v, hp)) ∧ P v := by
 have key : ∃ v, P v ∧ W (sem F prim) (sloop F prim) 0 fn.code ⟨params 0 (pvs ps), []⟩ (endK fn.results (Am.frozen v)) := by
  unfold W at h ⊢
  split at h
  ·rename_i e st' he
   cases e with
   | normal =>
    rw [endK_normal] at h
    cases hr : resultOf st' fn.results with
    | none => rw [hr] at h; exact h.elim
    | some u => rw [hr] at h; obtain ⟨v', h1, h2⟩ := h; exact ⟨v', h2, by simp only [he, endK_normal, hr]; exact h1⟩
   | ret =>
    rw [endK_ret] at h
    cases hr : resultOf st' fn.results with
    | none => rw [hr] at h; exact h.elim
    | some u => rw [hr] at h; obtain ⟨v', h1, h2⟩ := h; exact ⟨v', h2, by simp only [he, endK_ret, hr]; exact h1⟩
   | exit i => exact h.elim
   | panic v => exact h.elim
  ·exact h.elim
 obtain ⟨v, h1, h2⟩ := key
 exact ⟨v, fun hp => sem_pure hp0 hf hm (hz hp) hn h2 hr hmo, h1⟩
theorem same_self {t : Tm} (h : t.valid = true) : same t t = true := by
 unfold same
 rw [h]
 simp [Tm.cmp_zero.2 rfl]
theorem take_snoc {α : Type} {l : List α} {i : Nat} {x : α} (h : l[i]? = some x) : l.take (i + 1) = l.take i ++ [x] := by
 rw [List.take_add_one, h]; rfl
theorem fit9 {t : Tm} (h : t.valid = true) : t.size < 1000000000 := by have := valid_size h; omega
def zt : Tm := .mk 0 0 [] []
theorem hb0 : sBuild [(none, .pv none (.int .i64 0)), (none, .pv none (.int .i64 0)), (none, .pv none (.str [])), (none, .tsl (some 4) [])] [] [] = some (.agg [(none, .pv none (.int .i64 0)), (none, .pv none (.int .i64 0)), (none, .pv none (.str [])), (none, .tsl (some 4) [])]) := rfl
end Go.Proofs.YtffecaafklpmhaaGreat
