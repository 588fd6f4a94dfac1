/- What is proved: BagsWitness returns true. -/
import Derived.Test.YtffecaafklpmhaaWp
import Derived.Test.YtffecaafklpmhaaRun9
set_option linter.unusedSimpArgs false
set_option linter.unusedVariables false
namespace Go.Proofs.Ytffecaafklpmhaa
open Go.Am
theorem awake_ok (hp : Heap) : SC 9 [] hp = some (.ret (.pv none (.bool true)), hp) := by
 have e : SC 9 [] hp = S 9 [] hp := sem_prim (p := fun _ ar hp => S 9 ar hp) rfl [] hp
 rw [e]
 exact sem_any (F := find tab) (prim := prim) (f := 9) (args := []) (ps := []) (hp := hp) (hp1 := hp) rfl rfl rfl rfl sem9
theorem hV_ok (t : Tm) (hv : t.valid = true) (x : AObj) (hp : Heap) : ∃ E, SC 17 [t.av] (x :: hp) = some (.ret (.sl none ((x :: hp).length + 3) (vads [] t.occ).length 0 (vads [] t.occ).length), x :: hp ++ (gVb (x :: hp).length t (vads [] t.occ) ++ E)) := by
 obtain ⟨E, h⟩ := hVars_ok t hv (x :: hp)
 refine ⟨E, ?_⟩
 rw [← h]
 exact sem_prim (p := primV) rfl _ _
theorem vads_ln {t : Tm} (hv : t.valid = true) : (vads [] t.occ).length ≤ 2000 := by
 have h1 := vads_len t.occ []
 have h2 := t.occ_len
 have h3 := valid_size hv
 rw [List.length_nil, Nat.zero_add] at h1
 omega
theorem hV2_ok (t : Tm) (hv : t.valid = true) (hp : Heap) (hne : 0 < hp.length) : ∃ R Z, SC 17 [t.av] hp = some (.ret (.sl none R (vads [] t.occ).length 0 (vads [] t.occ).length), hp ++ Z) ∧ (hp ++ Z)[R]? = some (.arr none (ints (vads [] t.occ)) false) ∧ hp.length ≤ R := by
 cases hp with
 | nil => simp at hne
 | cons x r =>
  obtain ⟨E, h⟩ := hV_ok t hv x r
  exact ⟨_, _, h, by rw [get_pre]; rfl, Nat.le_add_right _ _⟩
theorem app_ok {H : Heap} {r : Nat} {x : AV} {d m : List Int} (h : H[r]? = some (.arr none (ints d) false)) (hx : Am.elems H x = some (none, ints m)) (hl : d.length + m.length < 1000000000) : wAppend none H [.sl none r d.length 0 d.length, x] = some (.sl none r (d ++ m).length 0 (d ++ m).length, H.set r (.arr none (ints (d ++ m)) false)) := by
 have hlim : d.length + m.length ≤ lim := by unfold lim; omega
 simp [wAppend, aappend, hx, h, ints_len, hlim]
 simp [ints]
theorem collect_keep {n b : Nat} {fr : Fr} {hp : Heap} (h : fr.all (fun x => x.2.refsIn.all (· < n)) = false) : collect n b fr hp = hp := by
 unfold collect
 rw [h]
 rfl
def PH (p g w : Tm) (M k : List Int) (d : List Int) : Heap := [.box (some 4) (.pv (some 4) p.pv), .box (some 4) (.pv (some 4) g.pv), .box (some 4) (.pv (some 4) (inner g).pv), .arr (some 4) [] false, .box (some 4) (.pv (some 4) w.pv), .arr (some 4) [] false, .box (some 4) (.pv (some 4) nilT.pv), .arr (some 4) [] false, .arr none (ints M) false, .box (some 4) (.pv (some 4) p.pv), .arr none [] false, .box none (.sl none 12 k.length 0 k.length), .arr none (ints d) false, .map none (kEnts (seenM k)), .box none (.map 13)]
theorem collect_same {n b : Nat} {fr : Fr} {hp : Heap} (h : hp.length = n) : collect n b fr hp = hp := by
 unfold collect
 split
 ·rw [List.take_of_length_le (by omega)]
 ·rfl
theorem witness_tail (g : Tm) (iv : (inner g).valid = true) (M d A : List Int) (K : Heap) (R : Nat) (hK2 : K[2]? = some (.box (some 4) (.pv (some 4) (inner g).pv))) (hK6 : K[6]? = some (.box (some 4) (.pv (some 4) nilT.pv))) (hK8 : K[8]? = some (.arr none (ints M) false)) (hK12 : K[12]? = some (.arr none (ints d) false)) (hR : K[R]? = some (.arr none (ints A) false)) (hR15 : 15 ≤ R)
  (hMl : M.length ≤ 2000) (hAl : A.length ≤ 2000) (hdl : d.length < 100000000) (f1 : ∀ x ∈ A, (x ∈ M ↔ x ∉ d)) (f2 : ∀ x ∈ M, x ∈ A ∧ x ∈ vads [] (inner g).occ) :
  W (sem (find tabC) primC) (sloop (find tabC) primC) 0 c5k42 ⟨[(5, .ptr 2 0), (8, .ptr 6 0), (9, .sl none 8 M.length 0 M.length), (11, .sl none 12 d.length 0 d.length), (13, .sl none R A.length 0 A.length), (14, .pv none (.int .i64 0))], K⟩
   (seqK (fun st' => W (sem (find tabC) primC) (sloop (find tabC) primC) 0 (((ACode.region true c5r43 [5, 8, 9, 13, 15]).seq c5k52).seq ((ACode.region true c5r53 [4]).seq ACode.ret)) st' (endK g5.results (Am.frozen (.pv none (.bool true))))) (endK g5.results (Am.frozen (.pv none (.bool true))))) := by
 have haw := awake_ok
 have hil := vads_ln iv
 obtain ⟨K8, e8⟩ : ∃ K8, K8 = K.set 8 (.arr none (ints M) true) := ⟨_, rfl⟩
 obtain ⟨K', e12⟩ : ∃ K', K' = K8.set 12 (.arr none (ints d) true) := ⟨_, rfl⟩
 have l12 := get_lt hK12
 have hs9 : ∀ fr r, settleO 9 r ⟨fr, K⟩ (some (.sl none 8 M.length 0 M.length)) = Am.settle r ⟨(9, .pv none (.sl none (ints M))) :: fr, K8⟩ := fun fr r => by
  simp [settleO, AV.freeze, deep, hK8, ints_len, e8]
 have hs11 : ∀ fr r, settleO 11 r ⟨fr, K8⟩ (some (.sl none 12 d.length 0 d.length)) = Am.settle r ⟨(11, .pv none (.sl none (ints d))) :: fr, K'⟩ := fun fr r => by
  have : K8[12]? = some (.arr none (ints d) false) := by rw [e8, List.getElem?_set_ne (by omega)]; exact hK12
  simp [settleO, AV.freeze, deep, this, ints_len, e12]
 have g2 : K'[2]? = some (.box (some 4) (.pv (some 4) (inner g).pv)) := by rw [e12, e8, List.getElem?_set_ne (by omega), List.getElem?_set_ne (by omega)]; exact hK2
 have g6 : K'[6]? = some (.box (some 4) (.pv (some 4) nilT.pv)) := by rw [e12, e8, List.getElem?_set_ne (by omega), List.getElem?_set_ne (by omega)]; exact hK6
 have gR : K'[R]? = some (.arr none (ints A) false) := by rw [e12, e8, List.getElem?_set_ne (by omega), List.getElem?_set_ne (by omega)]; exact hR
 have kl : K'.length = K.length := by rw [e12, e8]; simp
 simp -dsimp -implicitDefEqProofs only [g5, c5r0, c5r1, c5r2, c5k3, c5r4, c5r5, c5r6, c5r7, c5k8, c5r9, c5r10, c5r11, c5k12, c5r13, c5r14, c5k15, c5r16, c5k17, c5r18, c5b19, c5k20, c5r21, c5r22, c5r23, c5k24, c5r25, c5k26, c5r27, c5r28, c5r29, c5b30, c5k31, c5r32, c5r33, c5r34, c5k35, c5r36, c5r37, c5k38, c5k39, c5r40, c5b41, c5k42, c5r44, c5k45, c5r46, c5r47, c5k48, c5k49, c5r50, c5b51, c5, go_sem, seval, ↓reduceIte]
 refine W_for (α := Unit) A.length (fun _ _ => True) (fun i _ => ⟨[(5, .ptr 2 0), (8, .ptr 6 0), (9, match i with | 0 => .sl none 8 M.length 0 M.length | _ + 1 => .pv none (.sl none (ints M))), (11, match i with | 0 => .sl none 12 d.length 0 d.length | _ + 1 => .pv none (.sl none (ints d))), (13, .sl none R A.length 0 A.length), (14, .pv none (.int .i64 i))], match i with | 0 => K | _ + 1 => K'⟩) () ⟨trivial, rfl⟩ ?_ ?_
 ·rintro i - hi -
  have hc : (i : Int) < (A.length : Int) := by omega
  obtain ⟨x, hx⟩ : ∃ x, A[i]? = some x := ⟨_, List.getElem?_eq_getElem hi⟩
  have w2 : IntKind.i64.wrap ((i : Int) + 1) = ((i + 1 : Nat) : Int) := by rw [wrap64 (by omega) (by omega)]; omega
  obtain ⟨a, ha, hld⟩ := IsV.get (s := .sl none R A.length 0 A.length) (hp := K') (.inr ⟨R, rfl, gR⟩) hx
  have hA1 := has_ok M x (by omega) []
  have hA2 := has_ok d x (by omega) []
  have hf : decide (x ∈ M) = !decide (x ∈ d) := by
   have := f1 x (List.mem_of_getElem? hx)
   by_cases e : x ∈ d <;> simp [e, this]
  rw [hf] at hA1
  generalize decide (x ∈ d) = y at hA1 hA2
  have hyy : ((!y) == y) = false := by cases y <;> rfl
  cases i with
  | zero =>
   have hc0 := eq_true (show (0 : Int) < (A.length : Int) from hc)
   have ha0 : sIaddr none [.sl none R A.length 0 A.length, .pv none (.int .i64 0)] = some a := ha
   have w0 : IntKind.i64.wrap 1 = 1 := by decide
   simp -dsimp -implicitDefEqProofs only [g5, c5r0, c5r1, c5r2, c5k3, c5r4, c5r5, c5r6, c5r7, c5k8, c5r9, c5r10, c5r11, c5k12, c5r13, c5r14, c5k15, c5r16, c5k17, c5r18, c5b19, c5k20, c5r21, c5r22, c5r23, c5k24, c5r25, c5k26, c5r27, c5r28, c5r29, c5b30, c5k31, c5r32, c5r33, c5r34, c5k35, c5r36, c5r37, c5k38, c5k39, c5r40, c5b41, c5k42, c5r44, c5k45, c5r46, c5r47, c5k48, c5k49, c5r50, c5b51, c5, go_sem, seval, ↓reduceIte, hc0, hs9, hs11, ha0, hld, hA1, hA2, w0, hyy]
   exact ⟨(), by rw [collect_same kl]⟩
  | succ i =>
   simp -dsimp -implicitDefEqProofs only [g5, c5r0, c5r1, c5r2, c5k3, c5r4, c5r5, c5r6, c5r7, c5k8, c5r9, c5r10, c5r11, c5k12, c5r13, c5r14, c5k15, c5r16, c5k17, c5r18, c5b19, c5k20, c5r21, c5r22, c5r23, c5k24, c5r25, c5k26, c5r27, c5r28, c5r29, c5b30, c5k31, c5r32, c5r33, c5r34, c5k35, c5r36, c5r37, c5k38, c5k39, c5r40, c5b41, c5k42, c5r44, c5k45, c5r46, c5r47, c5k48, c5k49, c5r50, c5b51, c5, go_sem, seval, ↓reduceIte, hc, hs9, hs11, ha, hld, hA1, hA2, w2, hyy]
   exact ⟨(), by rw [collect_same kl]⟩
 ·rintro - -
  have hc : ¬ (A.length : Int) < (A.length : Int) := by omega
  have hnl : nilT.kind = 2 := rfl
  have hnn : nilT.name = [91, 93] := rfl
  have hkk := eq_true hnl
  have hnn' := eq_true hnn
  have selfset : ∀ (H : Heap) (k : Nat) (x : AObj), H[k]? = some x → H.set k x = H := fun H k x h => by
   obtain ⟨_, h⟩ := List.getElem?_eq_some_iff.1 h
   rw [← h]; exact List.set_getElem_self _
  by_cases hA : A = []
  ·have hM : M = [] := by
    cases M with
    | nil => rfl
    | cons y r => exact absurd (f2 y List.mem_cons_self).1 (by rw [hA]; simp)
   subst hM
   subst hA
   simp -dsimp -implicitDefEqProofs only [g5, c5r0, c5r1, c5r2, c5k3, c5r4, c5r5, c5r6, c5r7, c5k8, c5r9, c5r10, c5r11, c5k12, c5r13, c5r14, c5k15, c5r16, c5k17, c5r18, c5b19, c5k20, c5r21, c5r22, c5r23, c5k24, c5r25, c5k26, c5r27, c5r28, c5r29, c5b30, c5k31, c5r32, c5r33, c5r34, c5k35, c5r36, c5r37, c5k38, c5k39, c5r40, c5b41, c5k42, c5r43, c5r44, c5k45, c5r46, c5r47, c5k48, c5k49, c5r50, c5b51, c5k52, c5, go_sem, seval, ↓reduceIte]
   refine W_for (α := Unit) 0 (fun _ _ => True) (fun i _ => ⟨[(5, .ptr 2 0), (8, .ptr 6 0), (9, .sl none 8 0 0 0), (13, .sl none R 0 0 0), (15, .pv none (.int .i64 0))], K⟩) () ⟨trivial, rfl⟩ (fun i _ h => absurd h (by omega)) ?_
   rintro - -
   have z : ¬ (0 : Int) < 0 := by omega
   simp -dsimp -implicitDefEqProofs only [g5, c5r0, c5r1, c5r2, c5k3, c5r4, c5r5, c5r6, c5r7, c5k8, c5r9, c5r10, c5r11, c5k12, c5r13, c5r14, c5k15, c5r16, c5k17, c5r18, c5b19, c5k20, c5r21, c5r22, c5r23, c5k24, c5r25, c5k26, c5r27, c5r28, c5r29, c5b30, c5k31, c5r32, c5r33, c5r34, c5k35, c5r36, c5r37, c5k38, c5k39, c5r40, c5b41, c5k42, c5r43, c5r44, c5k45, c5r46, c5r47, c5k48, c5k49, c5r50, c5b51, c5k52, c5r53, c5, go_sem, seval, ↓reduceIte, z, hK6, hkk, hnn', haw, part_kind, part_name, Int.natCast_zero]
   try rfl
  ·obtain ⟨n, hn⟩ : ∃ n, A.length = n + 1 := by
    cases hl : A with
    | nil => exact absurd hl hA
    | cons y r => exact ⟨r.length, rfl⟩
   have hc : ¬ ((n + 1 : Nat) : Int) < ((n + 1 : Nat) : Int) := by omega
   obtain ⟨K3, e3⟩ : ∃ K3, K3 = K'.set R (.arr none (ints A) true) := ⟨_, rfl⟩
   have m2 : K3[2]? = some (.box (some 4) (.pv (some 4) (inner g).pv)) := by rw [e3, List.getElem?_set_ne (by omega)]; exact g2
   have m6 : K3[6]? = some (.box (some 4) (.pv (some 4) nilT.pv)) := by rw [e3, List.getElem?_set_ne (by omega)]; exact g6
   have s2 := selfset _ _ _ g2
   have s3 := selfset _ _ _ m2
   have kl3 : K3.length = K'.length := by rw [e3]; simp
   have hs13 : ∀ fr r, settleO 13 r ⟨fr, K'⟩ (some (.sl none R (n + 1) 0 (n + 1))) = Am.settle r ⟨(13, .pv none (.sl none (ints A))) :: fr, K3⟩ := fun fr r => by
    simp [settleO, AV.freeze, deep, gR, ints_len, e3, hn]
   rw [hn]
   simp -dsimp -implicitDefEqProofs only [g5, c5r0, c5r1, c5r2, c5k3, c5r4, c5r5, c5r6, c5r7, c5k8, c5r9, c5r10, c5r11, c5k12, c5r13, c5r14, c5k15, c5r16, c5k17, c5r18, c5b19, c5k20, c5r21, c5r22, c5r23, c5k24, c5r25, c5k26, c5r27, c5r28, c5r29, c5b30, c5k31, c5r32, c5r33, c5r34, c5k35, c5r36, c5r37, c5k38, c5k39, c5r40, c5b41, c5k42, c5r43, c5r44, c5k45, c5r46, c5r47, c5k48, c5k49, c5r50, c5b51, c5k52, c5, go_sem, seval, ↓reduceIte, hc]
   refine W_for (α := Unit) M.length (fun _ _ => True) (fun i _ => ⟨[(5, .ptr 2 0), (8, .ptr 6 0), (9, .pv none (.sl none (ints M))), (13, match i with | 0 => .sl none R (n + 1) 0 (n + 1) | _ + 1 => .pv none (.sl none (ints A))), (15, .pv none (.int .i64 i))], match i with | 0 => K' | _ + 1 => K3⟩) () ⟨trivial, rfl⟩ ?_ ?_
   ·rintro i - hi -
    have hc : (i : Int) < (M.length : Int) := by omega
    obtain ⟨x, hx⟩ : ∃ x, M[i]? = some x := ⟨_, List.getElem?_eq_getElem hi⟩
    have w2 : IntKind.i64.wrap ((i : Int) + 1) = ((i + 1 : Nat) : Int) := by rw [wrap64 (by omega) (by omega)]; omega
    obtain ⟨x1, x2⟩ := f2 x (List.mem_of_getElem? hx)
    have hA1 := has_ok A x (by omega) []
    have hA2 := has_ok (vads [] (inner g).occ) x (by omega) []
    rw [decide_eq_true x1] at hA1
    rw [decide_eq_true x2] at hA2
    have e17 : SC 17 [(inner g).av] [] = some (.ret (.pv none (.sl none (ints (vads [] (inner g).occ)))), []) := by
     rw [show SC 17 [(inner g).av] [] = S 17 [(inner g).av] [] from sem_prim (p := primV) rfl _ _]
     exact pVars_ok (inner g) iv []
    simp only [Tm.av] at e17
    cases i with
    | zero =>
     have hc0 := eq_true (show (0 : Int) < (M.length : Int) from hc)
     have ha0 : sIaddr none [.pv none (.sl none (ints M)), .pv none (.int .i64 0)] = some (.iptr none (.int .i64 x) 0) := s_iaddr_pv (ints_get hx)
     have w0 : IntKind.i64.wrap 1 = 1 := by decide
     simp -dsimp -implicitDefEqProofs only [g5, c5r0, c5r1, c5r2, c5k3, c5r4, c5r5, c5r6, c5r7, c5k8, c5r9, c5r10, c5r11, c5k12, c5r13, c5r14, c5k15, c5r16, c5k17, c5r18, c5b19, c5k20, c5r21, c5r22, c5r23, c5k24, c5r25, c5k26, c5r27, c5r28, c5r29, c5b30, c5k31, c5r32, c5r33, c5r34, c5k35, c5r36, c5r37, c5k38, c5k39, c5r40, c5b41, c5k42, c5r43, c5r44, c5k45, c5r46, c5r47, c5k48, c5k49, c5r50, c5b51, c5k52, c5, go_sem, seval, ↓reduceIte, hc0, ha0, hs13, g2, s2, m2, hA1, hA2, e17, w0, ints_len, Int.natCast_zero]
     exact ⟨(), by rw [collect_same kl3]⟩
    | succ i =>
     simp -dsimp -implicitDefEqProofs only [g5, c5r0, c5r1, c5r2, c5k3, c5r4, c5r5, c5r6, c5r7, c5k8, c5r9, c5r10, c5r11, c5k12, c5r13, c5r14, c5k15, c5r16, c5k17, c5r18, c5b19, c5k20, c5r21, c5r22, c5r23, c5k24, c5r25, c5k26, c5r27, c5r28, c5r29, c5b30, c5k31, c5r32, c5r33, c5r34, c5k35, c5r36, c5r37, c5k38, c5k39, c5r40, c5b41, c5k42, c5r43, c5r44, c5k45, c5r46, c5r47, c5k48, c5k49, c5r50, c5b51, c5k52, c5, go_sem, seval, ↓reduceIte, hc, s_iaddr_pv (ints_get hx), g2, s3, m2, hA1, hA2, e17, w2, ints_len]
     exact ⟨(), by rw [collect_same kl3]⟩
   ·rintro - -
    have hc : ¬ (M.length : Int) < (M.length : Int) := by omega
    cases hM : M.length with
    | zero =>
     rw [hM] at hc
     have z : ¬ (0 : Int) < 0 := by omega
     simp -dsimp -implicitDefEqProofs only [g5, c5r0, c5r1, c5r2, c5k3, c5r4, c5r5, c5r6, c5r7, c5k8, c5r9, c5r10, c5r11, c5k12, c5r13, c5r14, c5k15, c5r16, c5k17, c5r18, c5b19, c5k20, c5r21, c5r22, c5r23, c5k24, c5r25, c5k26, c5r27, c5r28, c5r29, c5b30, c5k31, c5r32, c5r33, c5r34, c5k35, c5r36, c5r37, c5k38, c5k39, c5r40, c5b41, c5k42, c5r43, c5r44, c5k45, c5r46, c5r47, c5k48, c5k49, c5r50, c5b51, c5k52, c5r53, c5, go_sem, seval, ↓reduceIte, z, hM, ints_len, g6, hkk, hnn', haw, part_kind, part_name, Int.natCast_zero]
     try rfl
    | succ k =>
     rw [hM] at hc
     simp -dsimp -implicitDefEqProofs only [g5, c5r0, c5r1, c5r2, c5k3, c5r4, c5r5, c5r6, c5r7, c5k8, c5r9, c5r10, c5r11, c5k12, c5r13, c5r14, c5k15, c5r16, c5k17, c5r18, c5b19, c5k20, c5r21, c5r22, c5r23, c5k24, c5r25, c5k26, c5r27, c5r28, c5r29, c5b30, c5k31, c5r32, c5r33, c5r34, c5k35, c5r36, c5r37, c5k38, c5k39, c5r40, c5b41, c5k42, c5r43, c5r44, c5k45, c5r46, c5r47, c5k48, c5k49, c5r50, c5b51, c5k52, c5r53, c5, go_sem, seval, ↓reduceIte, hc, hM, ints_len, m6, hkk, hnn', haw, part_kind, part_name]
     try rfl
theorem witness_sem (p g : Tm) (hp0 : p.size ≤ 1048576) (hg0 : g.size ≤ 1048576) :
  SC 5 [p.av, g.av] [] = some (.ret (.pv none (.bool true)), []) := by
 refine sem_pure rfl rfl rfl (freezeAll_pvs [(some 4, p.pv), (some 4, g.pv)]) rfl ?_
 have e16 : ∀ ar H, SC 16 ar H = S 16 ar H := fun ar H => sem_prim (p := fun _ ar hp => S 16 ar hp) rfl ar H
 have h1 := fun hp => valid_ok p hp (by omega)
 have h2 := fun hp => valid_ok g hp (by omega)
 have haw := awake_ok
 simp only [Tm.av] at h1 h2
 by_cases hv : p.valid = true
 rotate_left
 ·have hv' : p.valid = false := by simpa using hv
  simp -dsimp -implicitDefEqProofs only [g5, c5r0, c5r1, c5r2, c5k3, c5r4, c5r5, c5r6, c5r7, c5k8, c5r9, c5r10, c5r11, c5k12, c5r13, c5r14, c5k15, c5r16, c5k17, c5r18, c5b19, c5k20, c5r21, c5r22, c5r23, c5k24, c5r25, c5k26, c5r27, c5r28, c5r29, c5b30, c5k31, c5r32, c5r33, c5r34, c5k35, c5r36, c5r37, c5k38, c5k39, c5r40, c5b41, c5k42, c5r43, c5r44, c5k45, c5r46, c5r47, c5k48, c5k49, c5r50, c5b51, c5k52, c5r53, c5, go_sem, seval, ↓reduceIte, Tm.av, e16, h1, h2, hv', haw]
  try rfl
 by_cases gv : g.valid = true
 rotate_left
 ·have gv' : g.valid = false := by simpa using gv
  simp -dsimp -implicitDefEqProofs only [g5, c5r0, c5r1, c5r2, c5k3, c5r4, c5r5, c5r6, c5r7, c5k8, c5r9, c5r10, c5r11, c5k12, c5r13, c5r14, c5k15, c5r16, c5k17, c5r18, c5b19, c5k20, c5r21, c5r22, c5r23, c5k24, c5r25, c5k26, c5r27, c5r28, c5r29, c5b30, c5k31, c5r32, c5r33, c5r34, c5k35, c5r36, c5r37, c5k38, c5k39, c5r40, c5b41, c5k42, c5r43, c5r44, c5k45, c5r46, c5r47, c5k48, c5k49, c5r50, c5b51, c5k52, c5r53, c5, go_sem, seval, ↓reduceIte, Tm.av, e16, h1, h2, hv, gv', haw]
  try rfl
 have e11 : ∀ ar H, SC 11 ar H = S 11 ar H := fun ar H => sem_prim (p := fun _ ar hp => S 11 ar hp) rfl ar H
 have e21 : ∀ ar H, SC 21 ar H = S 21 ar H := fun ar H => sem_prim (p := fun _ ar hp => S 21 ar hp) rfl ar H
 have e22 : ∀ ar H, SC 22 ar H = S 22 ar H := fun ar H => sem_prim (p := fun _ ar hp => S 22 ar hp) rfl ar H
 have h3 := pstrip_ok g (by omega) []
 have h4 := pFree_ok p g (by omega) (by omega) []
 have iv := inner_valid _ g rfl gv
 have hst : stR g = inner g := by unfold stR; rw [if_pos gv]
 rw [hst] at h3
 obtain ⟨w, hw⟩ : ∃ w, w = frR p g := ⟨_, rfl⟩
 rw [← hw] at h4
 have wv : w.valid = true := by
  rw [hw]; unfold frR; rw [if_pos ⟨hv, gv⟩]
  split
  ·assumption
  ·decide
 have h5 := fun H => pelems_ok w wv H
 simp only [Tm.av] at h3 h4 h5
 have hlp := vads_ln hv
 have hlg := vads_ln gv
 by_cases hk : w.kind = 0
 ·have hk' := eq_true hk
  have hbig : ((900 : Int) < ((vads [] g.occ).length : Int)) = True := by
   refine eq_true ?_
   have : ¬ (lst (tvs (free p g))).valid = true := by
    intro e
    rw [hw] at hk
    unfold frR at hk
    rw [if_pos ⟨hv, gv⟩, if_pos e] at hk
    exact lst_kind _ hk
   have hz : ¬ (lst (tvs (free p g))).size ≤ 2000 := fun hz => this (valid_of (lst_fits _ fun v hvm => occ_rng (valid_fits gv) v (by simpa using (vads_mem g.occ [] v).1 ((mem_free p g v).1 hvm).1)) hz)
   rw [lst_size] at hz
   have : (free p g).length ≤ (vads [] g.occ).length := by unfold free; exact List.length_filter_le _ _
   omega
  obtain ⟨E, hV⟩ := hV_ok g gv (.box (some 4) (.pv (some 4) p.pv)) [.box (some 4) (.pv (some 4) g.pv), .box (some 4) (.pv (some 4) (inner g).pv), .arr (some 4) [] false, .box (some 4) (.pv (some 4) w.pv), .arr (some 4) [] false, .box (some 4) (.pv (some 4) (tl w).pv), .arr (some 4) [] false]
  simp only [Tm.av] at hV
  simp -dsimp -implicitDefEqProofs only [g5, c5r0, c5r1, c5r2, c5k3, c5r4, c5r5, c5r6, c5r7, c5k8, c5r9, c5r10, c5r11, c5k12, c5r13, c5r14, c5k15, c5r16, c5k17, c5r18, c5b19, c5r21, c5r22, c5r23, c5k24, c5r25, c5k26, c5r27, c5r28, c5r29, c5b30, c5r32, c5r33, c5r34, c5k35, c5r36, c5r37, c5k38, c5k39, c5r40, c5b41, c5r43, c5r44, c5k45, c5r46, c5r47, c5k48, c5k49, c5r50, c5b51, c5, go_sem, seval, ↓reduceIte, Tm.av, e16, e11, e21, e22, h1, h2, h3, h4, h5, hv, gv, haw, w_alloc_agg, part_kind, hk', hV, hbig]
 have hF : lst (tvs (free p g)) = w := by
  rw [hw] at hk ⊢
  unfold frR at hk ⊢
  rw [if_pos ⟨hv, gv⟩] at hk ⊢
  by_cases e : (lst (tvs (free p g))).valid = true
  ·rw [if_pos e]
  ·rw [if_neg e] at hk
   exact absurd rfl hk
 have hk' := eq_false hk
 have hE : els w = tvs (free p g) := by rw [← hF, els_lst]
 have hT : tl w = nilT := by rw [← hF, tl_lst]
 rw [hE, hT] at h5
 obtain ⟨M, hM⟩ : ∃ M, M = free p g := ⟨_, rfl⟩
 rw [← hM] at h5
 have hn0 : ∀ H : Heap, wNilsl none H = some (.sl none H.length 0 0 0, H ++ [.arr none [] false]) := fun H => w_nilsl (sh := none) (by decide)
 have hMl : M.length ≤ 2000 := by
  have : (free p g).length ≤ (vads [] g.occ).length := by unfold free; exact List.length_filter_le _ _
  rw [hM]; omega
 simp -dsimp -implicitDefEqProofs only [g5, c5r0, c5r1, c5r2, c5k3, c5r4, c5r5, c5r6, c5r7, c5k8, c5r9, c5r10, c5r11, c5k12, c5r13, c5r14, c5k15, c5r16, c5k17, c5r18, c5b19, c5k20, c5r22, c5r23, c5k24, c5r25, c5k26, c5r27, c5r28, c5r29, c5b30, c5r32, c5r33, c5r34, c5k35, c5r36, c5r37, c5k38, c5k39, c5r40, c5b41, c5r43, c5r44, c5k45, c5r46, c5r47, c5k48, c5k49, c5r50, c5b51, c5, go_sem, seval, ↓reduceIte, Tm.av, e16, e11, e21, e22, h1, h2, h3, h4, h5, hv, gv, haw, w_alloc_agg, part_kind, hk', hn0]
 refine W_for (α := Unit) M.length (fun _ _ => True) (fun i _ => ⟨[(2, .ptr 0 0), (3, .ptr 1 0), (5, .ptr 2 0), (7, .pv none (.sl (some 4) (Tm.pvs (tvs M)))), (8, .ptr 6 0), (9, .sl none 8 i 0 i), (10, .pv none (.int .i64 i))],
  [.box (some 4) (.pv (some 4) p.pv), .box (some 4) (.pv (some 4) g.pv), .box (some 4) (.pv (some 4) (inner g).pv), .arr (some 4) [] false, .box (some 4) (.pv (some 4) w.pv), .arr (some 4) [] false, .box (some 4) (.pv (some 4) nilT.pv), .arr (some 4) [] false, .arr none (ints (M.take i)) false]⟩) () ⟨trivial, ?_⟩ ?_ ?_
 ·rfl
 ·rintro i - hi -
  have hc : (i : Int) < (M.length : Int) := by omega
  obtain ⟨x, hx⟩ : ∃ x, M[i]? = some x := ⟨_, List.getElem?_eq_getElem hi⟩
  have hx' : (tvs M)[i]? = some (tvar x) := by simp [tvs, hx]
  have w2 : IntKind.i64.wrap ((i : Int) + 1) = ((i + 1 : Nat) : Int) := by rw [wrap64 (by omega) (by omega)]; omega
  have hln : (M.take i).length = i := by rw [List.length_take]; omega
  have hnm : decide (x ∈ M.take i) = false := by
   have hnd : M.Nodup := by rw [hM]; exact free_nodup p g
   simp only [decide_eq_false_iff_not]
   intro hm
   rw [← List.take_append_drop i M, List.drop_eq_getElem_cons hi] at hnd
   obtain ⟨q1, q2⟩ := List.getElem?_eq_some_iff.1 hx
   rw [q2] at hnd
   exact (List.nodup_append.1 hnd).2.2 x hm x List.mem_cons_self rfl
  have hh := fun (a0 a1 a2 a3 a4 a5 a6 a7 : AObj) => hasO_ok 8 false (M.take i) x (by omega) [a0, a1, a2, a3, a4, a5, a6, a7, .arr none (ints (M.take i)) false] rfl
  rw [hln, hnm] at hh
  have hlim : i + 1 ≤ lim := by unfold lim; omega
  have htl : (tvs M).length = M.length := by simp [tvs]
  have tk := eq_true (show (tvar x).kind = 0 from rfl)
  have tn : (tvar x).n = x := rfl
  simp -dsimp -implicitDefEqProofs only [g5, c5r0, c5r1, c5r2, c5k3, c5r4, c5r5, c5r6, c5r7, c5k8, c5r9, c5r10, c5r11, c5k12, c5r13, c5r14, c5k15, c5r16, c5k17, c5r18, c5b19, c5k20, c5r22, c5r23, c5k24, c5r25, c5k26, c5r27, c5r28, c5r29, c5b30, c5r32, c5r33, c5r34, c5k35, c5r36, c5r37, c5k38, c5k39, c5r40, c5b41, c5r43, c5r44, c5k45, c5r46, c5r47, c5k48, c5k49, c5r50, c5b51, c5, go_sem, seval, ↓reduceIte, tk, tn, hc, s_iaddr_pv (Tm.pvs_get hx'), hh, w2, Tm.pvs_len, htl, part_kind, part_n, ints_len, ints_snoc, hln, hlim]
  rw [← take_snoc hx]
  exact ⟨(), rfl⟩
 ·rintro - -
  have hc : ¬ (M.length : Int) < (M.length : Int) := by omega
  have htl : (tvs M).length = M.length := by simp [tvs]
  obtain ⟨E, hV⟩ := hV_ok p hv (.box (some 4) (.pv (some 4) p.pv)) [.box (some 4) (.pv (some 4) g.pv), .box (some 4) (.pv (some 4) (inner g).pv), .arr (some 4) [] false, .box (some 4) (.pv (some 4) w.pv), .arr (some 4) [] false, .box (some 4) (.pv (some 4) nilT.pv), .arr (some 4) [] false, .arr none (ints M) false]
  simp only [Tm.av] at hV
  simp -dsimp -implicitDefEqProofs only [g5, c5r0, c5r1, c5r2, c5k3, c5r4, c5r5, c5r6, c5r7, c5k8, c5r9, c5r10, c5r11, c5k12, c5r13, c5r14, c5k15, c5r16, c5k17, c5r18, c5b19, c5k20, c5r21, c5r22, c5r23, c5k24, c5r25, c5k26, c5r27, c5r28, c5r29, c5b30, c5k31, c5r32, c5r33, c5r34, c5k35, c5r36, c5r37, c5k38, c5k39, c5r40, c5b41, c5r43, c5r44, c5k45, c5r46, c5r47, c5k48, c5k49, c5r50, c5b51, c5, go_sem, seval, ↓reduceIte, hc, Tm.pvs_len, htl, List.take_length, hV, gVb, w_alloc_agg, List.append_assoc, List.cons_append, List.nil_append, get_pre, get_pre0, set_pre, set_pre0, Nat.add_assoc, List.length_append, List.length_cons, List.length_nil, Nat.zero_add]
  refine W_loop (fun n st => ∃ (q : Tm) (d : List Int) (X : Heap) (j : Nat), n = q.size ∧ q.valid = true ∧ d ++ flatQ q = hl p g ∧ E.length + 2 ≤ X.length ∧ X[j]? = some (.box (some 4) (.pv (some 4) q.pv)) ∧ st = ⟨[(3, .ptr 1 0), (5, .ptr 2 0), (8, .ptr 6 0), (9, .sl none 8 M.length 0 M.length), (11, .sl none 12 d.length 0 d.length), (12, .ptr (j + 15) 0)], PH p g w M (vads [] p.occ) d ++ X⟩) (n := g.size) ⟨g, vads [] p.occ, E ++ [.box (some 4) (.pv (some 4) g.pv), .arr (some 4) [] false], E.length, rfl, gv, rfl, by simp, by rw [get_pre0]; rfl, ?_⟩ ?_
  ·rfl
  ·rintro n st ⟨q, d, X, j, rfl, qv, hd, hX, hj, rfl⟩
   have hjl := get_lt hj
   have hXj : ∀ W : Heap, (X ++ W)[j]? = some (.box (some 4) (.pv (some 4) q.pv)) := fun W => by rw [List.getElem?_append_left hjl, hj]
   have hlim2 := hl_len p g
   have hgs := valid_size gv
   have hps := valid_size hv
   have hdl := congrArg List.length hd
   rw [List.length_append] at hdl
   by_cases hq : qd q
   ·have hlt := Tm.arg_lt (mem_arg1 hq.2.2)
    have v0 := valid_arg qv (mem_arg0 hq.2.2)
    have v1 := valid_arg qv (mem_arg1 hq.2.2)
    obtain ⟨R, Z, hc2, hR, -⟩ := hV2_ok (arg0 q) v0 (PH p g w M (vads [] p.occ) d ++ X) (by simp [PH])
    have hn := vads_ln v0
    rw [flatQ_q hq] at hd
    generalize vads [] (arg0 q).occ = m at *
    rw [List.append_assoc] at hc2 hR
    have hYj : ∀ W : Heap, (X ++ Z ++ W)[j]? = some (.box (some 4) (.pv (some 4) q.pv)) := fun W => by rw [List.append_assoc, hXj]
    have hYl : X.length ≤ (X ++ Z).length := by rw [List.length_append]; omega
    generalize X ++ Z = Y at *
    have happ := app_ok (H := PH p g w M (vads [] p.occ) d ++ Y) (r := 12) (x := .sl none R m.length 0 m.length) (d := d) (m := m) rfl (by simp [Am.elems, hR, ints_len]) (by omega)
    have k1 := eq_true hq.1
    have k2 := eq_true hq.2.1
    have k3 := eq_true (show (q.args.length : Int) = 2 by have := hq.2.2; omega)
    simp only [Tm.av, PH, List.cons_append, List.nil_append, List.set_cons_succ, List.set_cons_zero] at hc2 happ
    have hY0 := hYj []
    rw [List.append_nil] at hY0
    simp -dsimp -implicitDefEqProofs only [g5, c5r0, c5r1, c5r2, c5k3, c5r4, c5r5, c5r6, c5r7, c5k8, c5r9, c5r10, c5r11, c5k12, c5r13, c5r14, c5k15, c5r16, c5k17, c5r18, c5b19, c5k20, c5r21, c5r22, c5r23, c5k24, c5r25, c5k26, c5r27, c5r28, c5r29, c5b30, c5k31, c5r32, c5r33, c5r34, c5k35, c5r36, c5r37, c5k38, c5k39, c5r40, c5b41, c5r43, c5r44, c5k45, c5r46, c5r47, c5k48, c5k49, c5r50, c5b51, c5, go_sem, seval, ↓reduceIte, PH, hj, hXj, hYj, hY0, part_kind, part_name, part_args, Tm.pvs_len, k1, k2, k3, ia0 (Tm.pvs_get (get_arg0 hq.2.2)), ia1 (Tm.pvs_get (get_arg1 hq.2.2)), hc2, happ, w_alloc_agg, List.append_assoc, List.cons_append, List.nil_append, get_pre, get_pre0, set_pre, set_pre0, Nat.add_assoc, List.length_append, List.length_cons, List.length_nil, Nat.zero_add]
    rw [collect_keep (by simp [AV.refsIn]; omega), ← List.length_append]
    exact ⟨_, hlt, arg1 q, d ++ m, Y ++ [.box (some 4) (.pv (some 4) (arg1 q).pv), .arr (some 4) [] false], Y.length, rfl, v1, by rw [List.append_assoc]; exact hd, by rw [List.length_append]; omega, by rw [get_pre0]; rfl, rfl⟩
   ·rw [flatQ_n hq, List.append_nil] at hd
    subst hd
    obtain ⟨R, Z, hc2, hR, hRl⟩ := hV2_ok g gv (PH p g w M (vads [] p.occ) (hl p g) ++ X) (by simp [PH])
    rw [List.append_assoc] at hc2 hR
    have hR15 : 15 ≤ R := by rw [List.length_append] at hRl; simp only [PH, List.length_cons, List.length_nil] at hRl; omega
    generalize X ++ Z = Y at *
    have hf1 : ∀ x ∈ vads [] g.occ, (x ∈ M ↔ x ∉ hl p g) := fun x hx => by rw [hM, mem_free]; simp [hx]
    have hf2 : ∀ x ∈ M, x ∈ vads [] g.occ ∧ x ∈ vads [] (inner g).occ := fun x hx => by
     rw [hM] at hx
     exact ⟨((mem_free p g x).1 hx).1, free_inner hx⟩
    generalize hA : vads [] g.occ = A at *
    generalize hl p g = d at *
    obtain ⟨K, hK⟩ : ∃ K, K = PH p g w M (vads [] p.occ) d ++ Y := ⟨_, rfl⟩
    have hK2 : K[2]? = some (.box (some 4) (.pv (some 4) (inner g).pv)) := by rw [hK]; rfl
    have hK6 : K[6]? = some (.box (some 4) (.pv (some 4) nilT.pv)) := by rw [hK]; rfl
    have hK8 : K[8]? = some (.arr none (ints M) false) := by rw [hK]; rfl
    have hK12 : K[12]? = some (.arr none (ints d) false) := by rw [hK]; rfl
    rw [← hK] at hR hc2
    have hgo := witness_tail g iv M d A K R hK2 hK6 hK8 hK12 hR hR15 hMl hlg (by omega) hf1 hf2
    simp only [Tm.av, PH, List.cons_append, List.nil_append] at hc2 hK
    rw [hK] at hc2
    by_cases k1 : q.kind = 3
    ·have k1' := eq_true k1
     by_cases k2 : q.name = [94]
     ·have k2' := eq_true k2
      have k3' := eq_false (show ¬ (q.args.length : Int) = 2 by
       intro e
       exact hq ⟨k1, k2, by omega⟩)
      simp -dsimp -implicitDefEqProofs only [g5, c5r0, c5r1, c5r2, c5k3, c5r4, c5r5, c5r6, c5r7, c5k8, c5r9, c5r10, c5r11, c5k12, c5r13, c5r14, c5k15, c5r16, c5k17, c5r18, c5b19, c5k20, c5r21, c5r22, c5r23, c5k24, c5r25, c5k26, c5r27, c5r28, c5r29, c5b30, c5k31, c5r32, c5r33, c5r34, c5k35, c5r36, c5r37, c5k38, c5k39, c5r40, c5b41, c5r44, c5k45, c5r46, c5r47, c5k48, c5k49, c5r50, c5b51, c5, go_sem, seval, ↓reduceIte, PH, hj, part_kind, part_name, part_args, Tm.pvs_len, k1', k2', k3', hc2, List.append_assoc, List.cons_append, List.nil_append, get_pre, get_pre0, set_pre, set_pre0, Nat.add_assoc, List.length_append, List.length_cons, List.length_nil, Nat.zero_add]
      rw [hK] at hgo
      exact hgo
     ·have k2' := eq_false k2
      simp -dsimp -implicitDefEqProofs only [g5, c5r0, c5r1, c5r2, c5k3, c5r4, c5r5, c5r6, c5r7, c5k8, c5r9, c5r10, c5r11, c5k12, c5r13, c5r14, c5k15, c5r16, c5k17, c5r18, c5b19, c5k20, c5r21, c5r22, c5r23, c5k24, c5r25, c5k26, c5r27, c5r28, c5r29, c5b30, c5k31, c5r32, c5r33, c5r34, c5k35, c5r36, c5r37, c5k38, c5k39, c5r40, c5b41, c5r44, c5k45, c5r46, c5r47, c5k48, c5k49, c5r50, c5b51, c5, go_sem, seval, ↓reduceIte, PH, hj, part_kind, part_name, part_args, Tm.pvs_len, k1', k2', hc2, List.append_assoc, List.cons_append, List.nil_append, get_pre, get_pre0, set_pre, set_pre0, Nat.add_assoc, List.length_append, List.length_cons, List.length_nil, Nat.zero_add]
      rw [hK] at hgo
      exact hgo
    ·have k1' := eq_false k1
     simp -dsimp -implicitDefEqProofs only [g5, c5r0, c5r1, c5r2, c5k3, c5r4, c5r5, c5r6, c5r7, c5k8, c5r9, c5r10, c5r11, c5k12, c5r13, c5r14, c5k15, c5r16, c5k17, c5r18, c5b19, c5k20, c5r21, c5r22, c5r23, c5k24, c5r25, c5k26, c5r27, c5r28, c5r29, c5b30, c5k31, c5r32, c5r33, c5r34, c5k35, c5r36, c5r37, c5k38, c5k39, c5r40, c5b41, c5r44, c5k45, c5r46, c5r47, c5k48, c5k49, c5r50, c5b51, c5, go_sem, seval, ↓reduceIte, PH, hj, part_kind, part_name, part_args, Tm.pvs_len, k1', hc2, List.append_assoc, List.cons_append, List.nil_append, get_pre, get_pre0, set_pre, set_pre0, Nat.add_assoc, List.length_append, List.length_cons, List.length_nil, Nat.zero_add]
     rw [hK] at hgo
     exact hgo
end Go.Proofs.Ytffecaafklpmhaa
