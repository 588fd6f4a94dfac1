/- What is proved: Occurs, by the reference. -/
import Derived.Test.YtenkiofpobeilaaOc2
set_option linter.unusedSimpArgs false
set_option linter.unusedVariables false
namespace Go.Proofs.Ytenkiofpobeilaa
open Go.Am
theorem nodup_len : ∀ (a b : List Int), a.Nodup → (∀ x ∈ a, x ∈ b) → a.length ≤ b.length
 | [], _, _, _ => Nat.zero_le _
 | x :: a, b, h, hs => by
  have hx := hs x List.mem_cons_self
  have h1 := List.nodup_cons.1 h
  have ih := nodup_len a (b.erase x) h1.2 fun y hy => (List.mem_erase_of_ne (fun e => h1.1 (by rw [← e]; exact hy))).2 (hs y (List.mem_cons_of_mem _ hy))
  have h2 := List.length_erase_of_mem hx
  have h3 := List.length_pos_of_mem hx
  simp only [List.length_cons]
  omega
theorem fnd_len {l : List B} {σ : List Int} (h1 : σ.Nodup) (h2 : ∀ w ∈ σ, fndB l w = true) : σ.length ≤ l.length := by
 have := nodup_len σ (l.map (·.1)) h1 fun w hw => by
  exact List.mem_map.2 ⟨_, find_mem (h2 w hw), rfl⟩
 simpa using this
def HS (hp : Heap) (q r : Nat) (σ : List Int) : Heap := (hp.set q (.box none (.sl none r σ.length 0 σ.length))).set r (.arr none (ints σ) false)
def HA (hp : Heap) (q r : Nat) (σ : List Int) (x : Int) : Heap := (HS hp q r σ).set r (.arr none (ints (σ ++ [x])) false)
end Go.Proofs.Ytenkiofpobeilaa
