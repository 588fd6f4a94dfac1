/- What is proved: lists of terms. -/
import Derived.Test.YtffecaafklpmhaaStp
set_option linter.unusedSimpArgs false
set_option linter.unusedVariables false
namespace Go.Proofs.Ytffecaafklpmhaa
open Go.Am
def lh (l : List Tm) : Nat → Heap
 | 0 => [.box (some 4) (zg 1), .arr (some 4) [] false, .box (some 4) (.agg [(none, .pv none (.int .i64 2)), (none, .pv none (.int .i64 0)), (none, .pv none (.str [91, 93])), (none, .sl (some 4) 4 0 0 0)]), .arr (some 4) [] false, .arr (some 4) [] false]
 | i + 1 => [.box (some 4) (zg 1), .arr (some 4) [] false, .box (some 4) (.pv (some 4) (lst (l.drop (l.length - (i + 1)))).pv), .arr (some 4) [] false, .arr (some 4) [] true]
theorem pstruct_ok (x y : Tm) (hp : Heap) : S 27 [.pv none (.str [46]), .tsl (some 4) [x.pv, y.pv]] hp = some (.ret (consT x y).av, hp) := by
 refine sem_pure (ps := [(none, .str [46]), (none, .sl (some 4) [x.pv, y.pv])]) rfl rfl rfl rfl rfl ?_
 have hb : sBuild [(none, .pv none (.int .i64 0)), (none, .pv none (.int .i64 0)), (none, .pv none (.str [])), (none, .tsl (some 4) [])] [0, 2, 3] [.pv none (.int .i64 3), .pv none (.str [46]), .pv none (.sl (some 4) [x.pv, y.pv])] = some (.pv (some 4) (consT x y).pv) := rfl
 simp -dsimp -implicitDefEqProofs only [g27, c27r0, c27r1, c27, go_sem, seval, ↓reduceIte, hb, w_alloc_agg]
 try rfl
theorem plist_ok (l : List Tm) (hl : l.length < 1000000000) (hp : Heap) : S 28 [.pv none (.sl (some 4) (Tm.pvs l))] hp = some (.ret (lst l).av, hp) := by
 refine sem_pure rfl rfl rfl (freezeAll_pvs [(none, .sl (some 4) (Tm.pvs l))]) rfl ?_
 have hb : sBuild [(none, .pv none (.int .i64 0)), (none, .pv none (.int .i64 0)), (none, .pv none (.str [])), (none, .tsl (some 4) [])] [0, 2] [.pv none (.int .i64 2), .pv none (.str [91, 93])] = some (.agg [(none, .pv none (.int .i64 2)), (none, .pv none (.int .i64 0)), (none, .pv none (.str [91, 93])), (none, .tsl (some 4) [])]) := rfl
 have hw : IntKind.i64.wrap ((l.length : Int) - 1) = (l.length : Int) - 1 := wrap64 (by omega) (by omega)
 simp -dsimp -implicitDefEqProofs only [g28, c28r0, c28r1, c28r2, c28r3, c28k4, c28r5, c28k6, c28r7, c28b8, c28k9, c28r10, c28, go_sem, seval, ↓reduceIte, hb, hw, Tm.pvs_len, w_alloc_agg, w_store_agg (Nat.zero_le _)]
 refine W_for (α := Unit) l.length (fun _ _ => True) (fun i _ => ⟨[(0, .pv none (.sl (some 4) (Tm.pvs l))), (2, .ptr 0 0), (3, .ptr 2 0), (4, .pv none (.int .i64 ((l.length : Int) - 1 - (i : Int))))], lh l i⟩) () ⟨trivial, ?_⟩ ?_ ?_
 ·rw [show (l.length : Int) - 1 - ((0 : Nat) : Int) = (l.length : Int) - 1 by omega]
  rfl
 ·rintro i - h -
  obtain ⟨j, hj⟩ : ∃ j, j = l.length - 1 - i := ⟨_, rfl⟩
  have ej : (l.length : Int) - 1 - (i : Int) = (j : Int) := by omega
  have hc : (0 : Int) ≤ (j : Int) := by omega
  obtain ⟨u, hu⟩ : ∃ u, l[j]? = some u := ⟨_, List.getElem?_eq_getElem (by omega)⟩
  have hdr : l.drop (l.length - (i + 1)) = u :: l.drop (l.length - i) := by
   obtain ⟨q1, e1⟩ := List.getElem?_eq_some_iff.1 hu
   have ea : l.length - (i + 1) = j := by omega
   have eb : l.length - i = j + 1 := by omega
   rw [ea, eb, List.drop_eq_getElem_cons (by omega), e1]
  have w5 : IntKind.i64.wrap ((j : Int) - 1) = (l.length : Int) - 1 - ((i + 1 : Nat) : Int) := by rw [wrap64 (by omega) (by omega)]; omega
  have hst := fun hp => pstruct_ok u (lst (l.drop (l.length - i))) hp
  simp only [Tm.av] at hst
  cases i with
  | zero =>
   have ej0 : (l.length : Int) - 1 - 0 = (j : Int) := by omega
   have hd0 : l.drop (l.length - 0) = [] := by rw [Nat.sub_zero, List.drop_length]
   rw [hd0] at hst hdr
   have hbs : ∀ a0 a1 a3 : AObj, wBslice (some 4) [a0, a1, .box (some 4) (.agg [(none, .pv none (.int .i64 2)), (none, .pv none (.int .i64 0)), (none, .pv none (.str [91, 93])), (none, .sl (some 4) 4 0 0 0)]), a3, .arr (some 4) [] false] [.pv (some 4) u.pv, .agg [(none, .pv none (.int .i64 2)), (none, .pv none (.int .i64 0)), (none, .pv none (.str [91, 93])), (none, .sl (some 4) 4 0 0 0)]] = some (.tsl (some 4) [u.pv, (lst []).pv], [a0, a1, .box (some 4) (.agg [(none, .pv none (.int .i64 2)), (none, .pv none (.int .i64 0)), (none, .pv none (.str [91, 93])), (none, .sl (some 4) 4 0 0 0)]), a3, .arr (some 4) [] true]) := fun _ _ _ => rfl
   simp -dsimp -implicitDefEqProofs only [g28, c28r0, c28r1, c28r2, c28r3, c28k4, c28r5, c28k6, c28r7, c28b8, c28k9, c28r10, c28, ej0, lh, go_sem, seval, ↓reduceIte, hc, w5, s_iaddr_pv (Tm.pvs_get hu), hst, hbs, w_alloc_agg, w_store_agg (Nat.zero_le _)]
   rw [hdr]
   exact ⟨(), rfl⟩
  | succ i =>
   simp -dsimp -implicitDefEqProofs only [g28, c28r0, c28r1, c28r2, c28r3, c28k4, c28r5, c28k6, c28r7, c28b8, c28k9, c28r10, c28, ej, lh, go_sem, seval, ↓reduceIte, hc, w5, s_iaddr_pv (Tm.pvs_get hu), hst, w_alloc_agg, w_store_agg (Nat.zero_le _)]
   rw [hdr]
   exact ⟨(), rfl⟩
 ·rintro - -
  have hc : ¬ (0 : Int) ≤ (l.length : Int) - 1 - (l.length : Int) := by omega
  cases hn : l.length with
  | zero =>
   rw [hn] at hc
   have : l = [] := List.eq_nil_of_length_eq_zero hn
   subst this
   simp -dsimp -implicitDefEqProofs only [g28, c28r0, c28r1, c28r2, c28r3, c28k4, c28r5, c28k6, c28r7, c28b8, c28k9, c28r10, c28, go_sem, seval, ↓reduceIte, lh, hc, own_cons_sl, w_alloc_agg, w_store_agg (Nat.zero_le _)]
   exact ⟨_, rfl⟩
  | succ n =>
   rw [hn] at hc
   have e : l.drop (l.length - (n + 1)) = l := by rw [hn, Nat.sub_self, List.drop_zero]
   simp -dsimp -implicitDefEqProofs only [g28, c28r0, c28r1, c28r2, c28r3, c28k4, c28r5, c28k6, c28r7, c28b8, c28k9, c28r10, c28, go_sem, seval, ↓reduceIte, lh, hc, e, w_alloc_agg, w_store_agg (Nat.zero_le _)]
   try rfl
end Go.Proofs.Ytffecaafklpmhaa
