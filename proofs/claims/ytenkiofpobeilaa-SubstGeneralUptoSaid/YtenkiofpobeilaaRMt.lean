/- What is proved: the reference's match of a pattern, and whether bindings are the same. -/
import Derived.Test.YtenkiofpobeilaaRFd
set_option linter.unusedSimpArgs false
set_option linter.unusedVariables false
namespace Go.Proofs.Ytenkiofpobeilaa
open Go.Am
theorem sem_pure_ex {F : FuncId → Option AFn} {prim : FuncId → Option PrimO} {f : FuncId} {fn : AFn} {args : List AV} {ps : List (Sh × PV)} (P : AV → Prop) (hp0 : prim f = none) (hf : F f = some fn) (hm : fn.heapMode = false) (hz : ∀ hp, freezeAll args hp = some (ps, hp)) (hn : (pvs ps).length = fn.nparams)
  (h : W (sem F prim) (sloop F prim) 0 fn.code ⟨params 0 (pvs ps), []⟩ (endK fn.results (fun v hp => ∃ v', Am.frozen v' v hp ∧ P v'))) (hr : fn.rcv = none := by rfl) (hmo : fn.more = [] := by rfl) : ∃ v, (∀ hp, sem F prim .fn f args hp = some (.ret v, hp)) ∧ P v := by
 have key : ∃ v, P v ∧ W (sem F prim) (sloop F prim) 0 fn.code ⟨params 0 (pvs ps), []⟩ (endK fn.results (Am.frozen v)) := by
  unfold W at h ⊢
  split at h
  ·rename_i e st' he
   cases e with
   | normal =>
    rw [endK_normal] at h
    cases hr : resultOf st' fn.results with
    | none => rw [hr] at h; exact h.elim
    | some u => rw [hr] at h; obtain ⟨v', h1, h2⟩ := h; exact ⟨v', h2, by simp only [he, endK_normal, hr]; exact h1⟩
   | ret =>
    rw [endK_ret] at h
    cases hr : resultOf st' fn.results with
    | none => rw [hr] at h; exact h.elim
    | some u => rw [hr] at h; obtain ⟨v', h1, h2⟩ := h; exact ⟨v', h2, by simp only [he, endK_ret, hr]; exact h1⟩
   | exit i => exact h.elim
   | panic v => exact h.elim
  ·exact h.elim
 obtain ⟨v, h1, h2⟩ := key
 exact ⟨v, fun hp => sem_pure hp0 hf hm (hz hp) hn h2 hr hmo, h1⟩
def RP (R : Option (List B)) (v : AV) : Prop := ∃ l', v = .tuple [.pv none (.sl (some 5) (bds l')), .pv none (.bool R.isSome)] ∧ ∀ l1, R = some l1 → l' = l1
theorem same_self {t : Tm} (h : t.valid = true) : same t t = true := by
 unfold same
 rw [h]
 simp [Tm.cmp_zero.2 rfl]
end Go.Proofs.Ytenkiofpobeilaa
