/- Quantified goals, lists of terms: in plain terms. -/
import Derived.Test.YtffecaafklpmhaaVr
set_option linter.unusedSimpArgs false
set_option linter.unusedVariables false
namespace Go.Proofs.Ytffecaafklpmhaa
open Go.Am
def qd (t : Tm) : Prop := t.kind = 3 ∧ t.name = [94] ∧ t.args.length = 2
instance (t : Tm) : Decidable (qd t) := inferInstanceAs (Decidable (_ ∧ _))
def arg0 (t : Tm) : Tm := match t.args with
 | x :: _ => x
 | _ => .mk 0 0 [] []
def arg1 (t : Tm) : Tm := match t.args with
 | _ :: y :: _ => y
 | _ => .mk 0 0 [] []
theorem args_two {t : Tm} (h : t.args.length = 2) : t.args = [arg0 t, arg1 t] := by
 unfold arg0 arg1
 match e : t.args, h with
 | [x, y], _ => rfl
theorem get_arg0 {t : Tm} (h : t.args.length = 2) : t.args[0]? = some (arg0 t) := by rw [args_two h]; rfl
theorem get_arg1 {t : Tm} (h : t.args.length = 2) : t.args[1]? = some (arg1 t) := by rw [args_two h]; rfl
theorem mem_arg0 {t : Tm} (h : t.args.length = 2) : arg0 t ∈ t.args := List.mem_of_getElem? (get_arg0 h)
theorem mem_arg1 {t : Tm} (h : t.args.length = 2) : arg1 t ∈ t.args := List.mem_of_getElem? (get_arg1 h)
def inner (t : Tm) : Tm := if h : qd t then inner (arg1 t) else t
termination_by t.size
decreasing_by exact Tm.arg_lt (mem_arg1 h.2.2)
def quants (t : Tm) : List Tm := if h : qd t then arg0 t :: quants (arg1 t) else []
termination_by t.size
decreasing_by exact Tm.arg_lt (mem_arg1 h.2.2)
theorem inner_q {t : Tm} (h : qd t) : inner t = inner (arg1 t) := by rw [inner, dif_pos h]
theorem inner_n {t : Tm} (h : ¬ qd t) : inner t = t := by rw [inner, dif_neg h]
theorem quants_q {t : Tm} (h : qd t) : quants t = arg0 t :: quants (arg1 t) := by rw [quants, dif_pos h]
theorem quants_n {t : Tm} (h : ¬ qd t) : quants t = [] := by rw [quants, dif_neg h]
theorem inner_valid : ∀ (n : Nat) (t : Tm), t.size = n → t.valid = true → (inner t).valid = true := by
 intro n
 induction n using Nat.strongRecOn with
 | _ n ih =>
  intro t hn hv
  by_cases h : qd t
  ·rw [inner_q h]
   have := Tm.arg_lt (mem_arg1 h.2.2)
   exact ih _ (by omega) _ rfl (valid_arg hv (mem_arg1 h.2.2))
  ·rw [inner_n h]; exact hv
def hid (p g : Tm) : List Int := p.occ ++ Tm.occs (quants g)
def free (p g : Tm) : List Int := (vads [] g.occ).filter fun v => decide (v ∉ hid p g)
def nilT : Tm := .mk 2 0 [91, 93] []
def consT (x y : Tm) : Tm := .mk 3 0 [46] [x, y]
def lst : List Tm → Tm
 | [] => nilT
 | x :: r => consT x (lst r)
def tvs (l : List Int) : List Tm := l.map tvar
theorem lst_size : ∀ l : List Int, (lst (tvs l)).size = 2 * l.length + 1
 | [] => rfl
 | v :: r => by
  have ih := lst_size r
  show 1 + (1 + 0 + ((lst (tvs r)).size + 0)) = _
  simp only [List.length_cons]
  omega
theorem lst_fits : ∀ l : List Int, (∀ v ∈ l, 0 ≤ v ∧ v ≤ 1099511627776) → (lst (tvs l)).fits = true
 | [], _ => by decide
 | v :: r, h => by
  have ih := lst_fits r fun w hw => h w (List.mem_cons_of_mem _ hw)
  have hv := h v List.mem_cons_self
  show (consT (tvar v) (lst (tvs r))).fits = true
  simp [consT, Tm.fits, Tm.fitsAll, Tm.node, ih, hv, tvar, Tm.kind, Tm.n, Tm.name, Tm.args]
end Go.Proofs.Ytffecaafklpmhaa
