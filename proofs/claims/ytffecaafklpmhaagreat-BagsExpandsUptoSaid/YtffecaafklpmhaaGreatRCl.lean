/- What is proved: the reference's Clone of a valid term is the term. -/
import Derived.Test.YtffecaafklpmhaaGreatCl
set_option linter.unusedSimpArgs false
set_option linter.unusedVariables false
namespace Go.Proofs.YtffecaafklpmhaaGreat
open Go.Am
theorem copied_ok : ∀ (t : Tm) (hp : Heap), t.size < 1000000000 → S 103 [t.av] hp = some (.ret t.av, hp) := by
 intro t
 induction t using Tm.induct with
 | h t ih =>
  intro hp ht
  have hts := t.size_eq
  have hlen := Tm.sizes_len t.args
  refine sem_pure rfl rfl rfl (freezeAll_pvs [(some 4, t.pv)]) rfl ?_
  have hb : sBuild [(none, .pv none (.int .i64 0)), (none, .pv none (.int .i64 0)), (none, .pv none (.str [])), (none, .tsl (some 4) [])] [0, 1, 2] [.pv none (.int .i64 t.kind), .pv none (.int .i64 t.n), .pv none (.str t.name)] = some (.agg [(none, .pv none (.int .i64 t.kind)), (none, .pv none (.int .i64 t.n)), (none, .pv none (.str t.name)), (none, .tsl (some 4) [])]) := rfl
  simp -dsimp -implicitDefEqProofs only [g103, c103r0, c103r1, c103r2, c103r3, c103k4, c103r5, c103k6, c103r7, c103b8, c103k9, c103r10, c103, go_sem, seval, ↓reduceIte, Tm.av, part_kind, part_n, part_name, part_args, Tm.pvs_len, hb, w_alloc_agg, w_store_agg (Nat.zero_le _)]
  refine W_for (α := Unit) t.args.length (fun _ _ => True) (fun i _ => ⟨[(1, .ptr 0 0), (2, .ptr 1 0), (3, .ptr 3 0), (4, .pv none (.int .i64 i))], appH 0 t i⟩) () ⟨trivial, rfl⟩ ?_ ?_
  ·rintro i - h -
   have hc : (i : Int) < (t.args.length : Int) := by omega
   obtain ⟨u, hu⟩ : ∃ u, t.args[i]? = some u := ⟨_, List.getElem?_eq_getElem h⟩
   have hum := List.mem_of_getElem? hu
   have husz := Tm.arg_lt hum
   have hcall := fun hp => ih u hum hp (by omega)
   simp only [Tm.av] at hcall
   have w2 : IntKind.i64.wrap ((i : Int) + 1) = ((i + 1 : Nat) : Int) := by rw [wrap64 (by omega) (by omega)]; omega
   have hl : (Tm.pvs (t.args.take i)).length = i := by rw [Tm.pvs_len, List.length_take]; omega
   have hlim : i + 1 ≤ lim := by unfold lim; omega
   simp -dsimp -implicitDefEqProofs only [g103, c103r0, c103r1, c103r2, c103r3, c103k4, c103r5, c103k6, c103r7, c103b8, c103k9, c103r10, c103, go_sem, seval, ↓reduceIte, appH, part_args, Tm.pvs_len, hc, s_iaddr_pv (Tm.pvs_get hu), hcall, w2, hl, hlim, Tm.pvs_take_succ hu, upd_agg, w_alloc_agg, w_store_agg (Nat.zero_le _), w_store_sl (Nat.zero_le _)]
   exact ⟨(), rfl⟩
  ·rintro - -
   have hc : ¬ (t.args.length : Int) < (t.args.length : Int) := by omega
   simp -dsimp -implicitDefEqProofs only [g103, c103r0, c103r1, c103r2, c103r3, c103k4, c103r5, c103k6, c103r7, c103b8, c103k9, c103r10, c103, go_sem, seval, ↓reduceIte, appH, part_args, Tm.pvs_len, hc, List.take_length, own_cons_sl, w_alloc_agg, w_store_agg (Nat.zero_le _), w_store_sl (Nat.zero_le _)]
   exact frozen_tm t rfl
theorem rclone_ok (t : Tm) (hp : Heap) (hv : t.valid = true) (ht : t.size < 1000000000) : S 58 [t.av] hp = some (.ret t.av, hp) := by
 refine sem_pure rfl rfl rfl (freezeAll_pvs [(some 4, t.pv)]) rfl ?_
 have h1 := fun hp => rvalid_ok t hp ht
 have h2 := fun hp => copied_ok t hp ht
 rw [hv] at h1
 simp only [Tm.av] at h1 h2
 simp -dsimp -implicitDefEqProofs only [g58, c58r0, c58r1, c58r2, c58k3, c58r4, c58, go_sem, seval, ↓reduceIte, Tm.av, h1, h2, w_alloc_agg, w_store_agg (Nat.zero_le _)]
end Go.Proofs.YtffecaafklpmhaaGreat
