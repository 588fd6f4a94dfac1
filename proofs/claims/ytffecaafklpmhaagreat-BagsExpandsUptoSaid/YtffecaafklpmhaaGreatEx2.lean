/- What is proved: error terms. -/
import Derived.Test.YtffecaafklpmhaaGreatEx1
set_option linter.unusedSimpArgs false
set_option linter.unusedVariables false
namespace Go.Proofs.YtffecaafklpmhaaGreat
open Go.Am
def atomT (nm : List UInt8) : Tm := .mk 2 0 nm []
def strT (nm : List UInt8) (l : List Tm) : Tm := .mk 3 0 nm l
theorem atomT_valid {nm : List UInt8} (h : nm.length ≤ 100) : (atomT nm).valid = true := by
 have : (nm.length : Int) ≤ 100 := by omega
 refine valid_of ?_ (by have : (atomT nm).size = 1 := rfl; omega)
 simp [atomT, Tm.fits, Tm.fitsAll, Tm.node, Tm.kind, Tm.n, Tm.name, Tm.args, this]
theorem strT_fits {nm : List UInt8} {l : List Tm} (h : nm.length ≤ 100) (h1 : 0 < l.length) (h2 : l.length ≤ 8) (hl : Tm.fitsAll l = true) : (strT nm l).fits = true := by
 have a : (nm.length : Int) ≤ 100 := by omega
 have b : 0 < (l.length : Int) := by omega
 have c : (l.length : Int) ≤ 8 := by omega
 simp [strT, Tm.fits, Tm.node, Tm.kind, Tm.n, Tm.name, Tm.args, a, b, c, h1, hl]
theorem pAtom_ok (nm : List UInt8) (h : nm.length ≤ 100) (hp : Heap) : S 28 [.pv none (.str nm)] hp = some (.ret (atomT nm).av, hp) := by
 refine sem_pure rfl rfl rfl (freezeAll_pvs [(none, .str nm)]) rfl ?_
 have hv := atomT_valid h
 have hb : sBuild [(none, .pv none (.int .i64 0)), (none, .pv none (.int .i64 0)), (none, .pv none (.str [])), (none, .tsl (some 4) [])] [0, 2] [.pv none (.int .i64 2), .pv none (.str nm)] = some (.agg [(none, .pv none (.int .i64 2)), (none, .pv none (.int .i64 0)), (none, .pv none (.str nm)), (none, .tsl (some 4) [])]) := rfl
 have hcl : ∀ H : Heap, S 38 [.agg [(none, .pv none (.int .i64 2)), (none, .pv none (.int .i64 0)), (none, .pv none (.str nm)), (none, .tsl (some 4) [])]] H = some (.ret (atomT nm).av, H) := fun H =>
  sem_any (F := find tab) (prim := prim) (f := 38) (args := [.agg [(none, .pv none (.int .i64 2)), (none, .pv none (.int .i64 0)), (none, .pv none (.str nm)), (none, .tsl (some 4) [])]]) (ps := [(some 4, (atomT nm).pv)]) (hp := H) (hp1 := H) rfl rfl rfl rfl (clone_ok (atomT nm) [] hv (fit9 hv))
 simp only [Tm.av] at hcl
 simp -dsimp -implicitDefEqProofs only [g28, c28r0, c28r1, c28, go_sem, seval, ↓reduceIte, Tm.av, hb, hcl, w_alloc_agg]
 try rfl
theorem pStruct_ok (nm : List UInt8) (l : List Tm) (h1 : 0 < l.length) (hv : (strT nm l).valid = true) (hp : Heap) : S 26 [.pv none (.str nm), .pv none (.sl (some 4) (Tm.pvs l))] hp = some (.ret (strT nm l).av, hp) := by
 refine sem_pure rfl rfl rfl (freezeAll_pvs [(none, .str nm), (none, .sl (some 4) (Tm.pvs l))]) rfl ?_
 have hb : sBuild [(none, .pv none (.int .i64 0)), (none, .pv none (.int .i64 0)), (none, .pv none (.str [])), (none, .tsl (some 4) [])] [0, 2, 3] [.pv none (.int .i64 3), .pv none (.str nm), .pv none (.sl (some 4) (Tm.pvs l))] = some (.pv (some 4) (strT nm l).pv) := rfl
 have hcl := fun hp => clone_ok (strT nm l) hp hv (fit9 hv)
 have hne := eq_false (show ¬ (l.length : Int) = 0 by omega)
 simp only [Tm.av] at hcl
 simp -dsimp -implicitDefEqProofs only [g26, c26r0, c26r1, c26r2, c26k3, c26r4, c26, go_sem, seval, ↓reduceIte, Tm.av, hb, hcl, Tm.pvs_len, hne, w_alloc_agg]
 try rfl
theorem of_pv {f : FuncId} {fn : AFn} {ps : List (Sh × PV)} {args : List AV} {t : Tm} {hp hp1 : Heap} (hp0 : prim f = none) (hf : find tab f = some fn) (hm : fn.heapMode = false) (hz : freezeAll args hp = some (ps, hp1)) (hr : fn.rcv = none) (h : S f (pvs ps) [] = some (.ret t.av, [])) : S f args hp = some (.ret t.av, hp1) := by
 have h := sem_any (F := find tab) (prim := prim) (f := f) (args := args) (ps := ps) (hp := hp) (hp1 := hp1) hp0 hf hm hz h hr
 have hs : ∀ t : Tm, t.av.scalar = false := fun t => by cases t; rfl
 rw [hs] at h
 exact h
def errN : List UInt8 := [101, 114, 114, 111, 114]
def errT (f : Tm) : Tm := strT errN [f, nilT]
theorem raise_ok (fn : List UInt8) (l : List Tm) (h1 : 0 < l.length) (hv1 : (strT fn l).valid = true) (hv2 : (errT (strT fn l)).valid = true) (hp : Heap) : S 111 [.pv none (.str fn), .pv none (.sl (some 4) (Tm.pvs l))] hp = some (.ret (errT (strT fn l)).av, hp) := by
 refine sem_pure rfl rfl rfl (freezeAll_pvs [(none, .str fn), (none, .sl (some 4) (Tm.pvs l))]) rfl ?_
 have ha := pStruct_ok fn l h1 hv1
 have hb := pAtom_ok [91, 93] (by decide)
 have hc : ∀ H : Heap, S 26 [.pv none (.str errN), .tsl (some 4) [(strT fn l).pv, nilT.pv]] H = some (.ret (errT (strT fn l)).av, H) := fun H =>
  of_pv (ps := [(none, .str errN), (none, .sl (some 4) (Tm.pvs [strT fn l, nilT]))]) rfl rfl rfl rfl rfl (pStruct_ok errN [strT fn l, nilT] (by simp) hv2 [])
 have e : atomT [91, 93] = nilT := rfl
 rw [e] at hb
 simp only [Tm.av] at ha hb hc
 generalize strT fn l = F at *
 simp only [errN] at hc
 simp -dsimp -implicitDefEqProofs only [g111, c111r0, c111r1, c111, go_sem, seval, ↓reduceIte, Tm.av, ha, hb, hc, w_alloc_agg]
 try rfl
def tyN : List UInt8 := [116, 121, 112, 101, 95, 101, 114, 114, 111, 114]
def cul (t : Tm) : Tm := if 2000 < t.size + 4 then atomT [46, 46, 46] else t
def typT (nm : List UInt8) (t : Tm) : Tm := errT (strT tyN [atomT nm, cul t])
theorem cul_valid {t : Tm} (hv : t.valid = true) : (cul t).valid = true ∧ (cul t).size + 4 ≤ 2000 := by
 unfold cul
 split
 ·exact ⟨atomT_valid (by decide), by have : (atomT [46, 46, 46]).size = 1 := rfl; omega⟩
 ·exact ⟨hv, by omega⟩
theorem typ_valid {nm : List UInt8} (hn : nm.length ≤ 100) {t : Tm} (hv : t.valid = true) : (strT tyN [atomT nm, cul t]).valid = true ∧ (typT nm t).valid = true := by
 obtain ⟨h1, h2⟩ := cul_valid hv
 have h3 := atomT_valid hn
 have f1 : (strT tyN [atomT nm, cul t]).fits = true := strT_fits (by decide) (by simp) (by simp) (by simp [Tm.fitsAll, valid_fits h1, valid_fits h3])
 have s1 : (strT tyN [atomT nm, cul t]).size = 1 + (1 + ((cul t).size + 0)) := by rw [Tm.size_eq]; rfl
 have f2 : (typT nm t).fits = true := strT_fits (by decide) (by simp) (by simp) (by simp [Tm.fitsAll, f1]; decide)
 have s2 : (typT nm t).size = 1 + ((strT tyN [atomT nm, cul t]).size + (1 + 0)) := by
  show (errT _).size = _
  rw [Tm.size_eq]
  rfl
 exact ⟨valid_of f1 (by omega), valid_of f2 (by omega)⟩
theorem about_ok (nm : List UInt8) (hn : nm.length ≤ 100) (t : Tm) (hv : t.valid = true) (hp : Heap) : S 112 [t.av, .pv none (.str tyN), .pv none (.sl none [.str nm])] hp = some (.ret (typT nm t).av, hp) := by
 refine sem_pure rfl rfl rfl (freezeAll_pvs [(some 4, t.pv), (none, .str tyN), (none, .sl none [.str nm])]) rfl ?_
 have hz := valid_size hv
 have h1 := fun hp => valid_ok t hp (by omega)
 have h2 := fun hp => size_ok t hp (by omega)
 have h3 := pAtom_ok nm hn
 have h4 := pAtom_ok [46, 46, 46] (by decide)
 obtain ⟨v1, v2⟩ := typ_valid hn hv
 have hn0 : ∀ H : Heap, wNilsl (some 4) H = some (.sl (some 4) H.length 0 0 0, H ++ [.arr (some 4) [] false]) := fun H => w_nilsl (sh := some 4) (by decide)
 have hmin : min t.size 2001 = t.size := by omega
 rw [hmin] at h2
 have hsl := eq_false (show ¬ (100 : Int) < (nm.length : Int) by omega)
 have hia : sIaddr none [.pv none (.sl none [.str nm]), .pv none (.int .i64 0)] = some (.iptr none (.str nm) 0) := rfl
 have w1 : IntKind.i64.wrap 4 = 4 := by decide
 have w2 : IntKind.i64.wrap ((4 : Int) + (t.size : Int)) = 4 + (t.size : Int) := wrap64 (by omega) (by omega)
 have w3 : IntKind.i64.wrap 1 = 1 := by decide
 have hp0 : Tm.pvs [] = [] := rfl
 have hra : ∀ (a0 a1 a2 : AObj), S 111 [.pv none (.str tyN), .sl (some 4) 3 2 0 2] [a0, a1, a2, .arr (some 4) [(atomT nm).pv, (cul t).pv] false] = some (.ret (typT nm t).av, [a0, a1, a2, .arr (some 4) [(atomT nm).pv, (cul t).pv] true]) := fun a0 a1 a2 =>
  of_pv (ps := [(none, .str tyN), (none, .sl (some 4) (Tm.pvs [atomT nm, cul t]))]) rfl rfl rfl rfl rfl (raise_ok tyN [atomT nm, cul t] (by simp) v1 v2 [])
 have hl1 : (1 : Nat) + 1 ≤ lim := by unfold lim; omega
 have hl0 : (0 : Nat) + 1 ≤ lim := by unfold lim; omega
 simp only [Tm.av] at h1 h2 h3 h4 hra
 simp -dsimp -implicitDefEqProofs only [g112, c112r0, c112r1, c112r2, c112k3, c112r4, c112r5, c112r6, c112k7, c112r8, c112r9, c112r10, c112k11, c112r12, c112k13, c112r14, c112b15, c112k16, c112r17, c112r18, c112k19, c112r20, c112, go_sem, seval, ↓reduceIte, Tm.av, h1, hv, hn0, w_alloc_agg]
 refine W_for (α := Unit) 1 (fun _ _ => True) (fun i _ => ⟨[(1, .pv none (.str tyN)), (2, .pv none (.sl none [.str nm])), (3, .ptr 0 0), (6, .ptr 1 0), (7, .sl (some 4) 3 i 0 i), (14, .pv none (.sl none [.str nm])), (15, .pv none (.int .i64 1)), (16, .pv none (.int .i64 i))], [.box (some 4) (.pv (some 4) t.pv), .box (some 4) (zg 2), .arr (some 4) [] false, .arr (some 4) (Tm.pvs ([atomT nm].take i)) false]⟩) () ⟨trivial, rfl⟩ ?_ ?_
 ·rintro i - hi -
  have : i = 0 := by omega
  subst this
  have hc : (0 : Int) < (1 : Int) := by omega
  have hap : ∀ a0 a1 a2 : AObj, wAppend (some 4) [a0, a1, a2, .arr (some 4) [] false] [.sl (some 4) 3 0 0 0, .tsl (some 4) [(atomT nm).pv]] = some (.sl (some 4) 3 1 0 1, [a0, a1, a2, .arr (some 4) [(atomT nm).pv] false]) := fun _ _ _ => rfl
  have htk : Tm.pvs ([atomT nm].take 0) = [] := rfl
  have htk1 : Tm.pvs ([atomT nm].take 1) = [(atomT nm).pv] := rfl
  generalize (atomT nm).pv = X at *
  simp -dsimp -implicitDefEqProofs only [g112, c112r0, c112r1, c112r2, c112k3, c112r4, c112r5, c112r6, c112k7, c112r8, c112r9, c112r10, c112k11, c112r12, c112k13, c112r14, c112b15, c112k16, c112r17, c112r18, c112k19, c112r20, c112, go_sem, seval, ↓reduceIte, zg, htk, hp0, hc, hia, hsl, h3, hap, w3]
  exact ⟨(), by rw [htk1]; rfl⟩
 ·rintro - -
  have hc : ¬ (1 : Int) < (1 : Int) := by omega
  have htk : Tm.pvs ([atomT nm].take 1) = [(atomT nm).pv] := rfl
  by_cases hbig : (2000 : Int) < 4 + (t.size : Int)
  ·have hcu : cul t = atomT [46, 46, 46] := by unfold cul; rw [if_pos (by omega)]
   have hap : ∀ (a0 a1 a2 : AObj), wAppend (some 4) [a0, a1, a2, .arr (some 4) [(atomT nm).pv] false] [.sl (some 4) 3 1 0 1, .tsl (some 4) [(atomT [46, 46, 46]).pv]] = some (.sl (some 4) 3 2 0 2, [a0, a1, a2, .arr (some 4) [(atomT nm).pv, (atomT [46, 46, 46]).pv] false]) := fun _ _ _ => rfl
   rw [hcu] at hra
   generalize (atomT [46, 46, 46]).pv = Y at *
   generalize (atomT nm).pv = X at *
   simp -dsimp -implicitDefEqProofs only [g112, c112r0, c112r1, c112r2, c112k3, c112r4, c112r5, c112r6, c112k7, c112r8, c112r9, c112r10, c112k11, c112r12, c112k13, c112r14, c112b15, c112k16, c112r17, c112r18, c112k19, c112r20, c112, go_sem, seval, ↓reduceIte, zg, htk, hc, h2, w1, w2, hbig, h4, hap, hra]
   rfl
  ·have hcu : cul t = t := by unfold cul; rw [if_neg (by omega)]
   have hap : ∀ (a0 a1 a2 : AObj), wAppend (some 4) [a0, a1, a2, .arr (some 4) [(atomT nm).pv] false] [.sl (some 4) 3 1 0 1, .tsl (some 4) [t.pv]] = some (.sl (some 4) 3 2 0 2, [a0, a1, a2, .arr (some 4) [(atomT nm).pv, t.pv] false]) := fun _ _ _ => rfl
   rw [hcu] at hra
   generalize (atomT nm).pv = X at *
   simp -dsimp -implicitDefEqProofs only [g112, c112r0, c112r1, c112r2, c112k3, c112r4, c112r5, c112r6, c112k7, c112r8, c112r9, c112r10, c112k11, c112r12, c112k13, c112r14, c112b15, c112k16, c112r17, c112r18, c112k19, c112r20, c112, go_sem, seval, ↓reduceIte, zg, htk, hc, h2, w1, w2, hbig, hap, hra]
   rfl
theorem ratom_ok (nm : List UInt8) (hp : Heap) : S 78 [.pv none (.str nm)] hp = some (.ret (atomT nm).av, hp) := by
 refine sem_pure rfl rfl rfl (freezeAll_pvs [(none, .str nm)]) rfl ?_
 have hb : sBuild [(none, .pv none (.int .i64 0)), (none, .pv none (.int .i64 0)), (none, .pv none (.str [])), (none, .tsl (some 4) [])] [0, 2] [.pv none (.int .i64 2), .pv none (.str nm)] = some (.agg [(none, .pv none (.int .i64 2)), (none, .pv none (.int .i64 0)), (none, .pv none (.str nm)), (none, .tsl (some 4) [])]) := rfl
 simp -dsimp -implicitDefEqProofs only [g78, c78r0, c78r1, c78, go_sem, seval, ↓reduceIte, Tm.av, hb, w_alloc_agg, w_store_agg (Nat.zero_le _)]
 exact ⟨_, rfl⟩
theorem rstruct06_ok (nm : List UInt8) (l : List Tm) (hp : Heap) : S 114 [.pv none (.str nm), .pv none (.sl (some 4) (Tm.pvs l))] hp = some (.ret (strT nm l).av, hp) := by
 refine sem_pure rfl rfl rfl (freezeAll_pvs [(none, .str nm), (none, .sl (some 4) (Tm.pvs l))]) rfl ?_
 have hb : sBuild [(none, .pv none (.int .i64 0)), (none, .pv none (.int .i64 0)), (none, .pv none (.str [])), (none, .tsl (some 4) [])] [0, 2, 3] [.pv none (.int .i64 3), .pv none (.str nm), .pv none (.sl (some 4) (Tm.pvs l))] = some (.pv (some 4) (strT nm l).pv) := rfl
 simp -dsimp -implicitDefEqProofs only [g114, c114r0, c114r1, c114, go_sem, seval, ↓reduceIte, Tm.av, hb, w_alloc_agg]
 try rfl
theorem ball_ok (f : Tm) (hv : (errT f).valid = true) (hp : Heap) : S 77 [f.av] hp = some (.ret (errT f).av, hp) := by
 refine sem_pure rfl rfl rfl (freezeAll_pvs [(some 4, f.pv)]) rfl ?_
 have h1 := ratom_ok [91, 93] []
 have h2 := rstruct06_ok errN [f, nilT] []
 have h3 := rclone_ok (errT f) [] hv (fit9 hv)
 have e : atomT [91, 93] = nilT := rfl
 have e2 : Tm.pvs [f, nilT] = [f.pv, nilT.pv] := rfl
 have e3 : strT errN [f, nilT] = errT f := rfl
 rw [e] at h1
 rw [e2, e3] at h2
 simp only [Tm.av, errN] at h1 h2 h3
 simp -dsimp -implicitDefEqProofs only [g77, c77r0, c77r1, c77, go_sem, seval, ↓reduceIte, Tm.av, h1, h2, h3, w_alloc_agg]
 try rfl
theorem with_ok (nm : List UInt8) (hn : nm.length ≤ 100) (t : Tm) (hv : t.valid = true) (hp : Heap) : S 79 [t.av, .pv none (.str tyN), .pv none (.sl none [.str nm])] hp = some (.ret (typT nm t).av, hp) := by
 refine sem_pure rfl rfl rfl (freezeAll_pvs [(some 4, t.pv), (none, .str tyN), (none, .sl none [.str nm])]) rfl ?_
 have hz := valid_size hv
 have h1 := fun hp => rvalid_ok t hp (by omega)
 have h2 := fun hp => rsize_ok t hp (by omega)
 have h3 := ratom_ok nm
 have h4 := ratom_ok [46, 46, 46]
 obtain ⟨v1, v2⟩ := typ_valid hn hv
 have hn0 : ∀ H : Heap, wNilsl (some 4) H = some (.sl (some 4) H.length 0 0 0, H ++ [.arr (some 4) [] false]) := fun H => w_nilsl (sh := some 4) (by decide)
 have hmin : min t.size 2001 = t.size := by omega
 rw [hmin] at h2
 have hia : sIaddr none [.pv none (.sl none [.str nm]), .pv none (.int .i64 0)] = some (.iptr none (.str nm) 0) := rfl
 have w1 : IntKind.i64.wrap 3 = 3 := by decide
 have w2 : IntKind.i64.wrap ((3 : Int) + (t.size : Int)) = 3 + (t.size : Int) := wrap64 (by omega) (by omega)
 have w4 : IntKind.i64.wrap ((3 : Int) + (t.size : Int) + 1) = 3 + (t.size : Int) + 1 := wrap64 (by omega) (by omega)
 have w3 : IntKind.i64.wrap 1 = 1 := by decide
 have hp0 : Tm.pvs [] = [] := rfl
 have hst : ∀ (a0 a1 a2 : AObj), S 114 [.pv none (.str tyN), .sl (some 4) 3 2 0 2] [a0, a1, a2, .arr (some 4) [(atomT nm).pv, (cul t).pv] false] = some (.ret (strT tyN [atomT nm, cul t]).av, [a0, a1, a2, .arr (some 4) [(atomT nm).pv, (cul t).pv] true]) := fun a0 a1 a2 =>
  of_pv (ps := [(none, .str tyN), (none, .sl (some 4) (Tm.pvs [atomT nm, cul t]))]) rfl rfl rfl rfl rfl (rstruct06_ok tyN [atomT nm, cul t] [])
 have hba := ball_ok (strT tyN [atomT nm, cul t]) v2
 have hba : ∀ hp, S 77 [(strT tyN [atomT nm, cul t]).av] hp = some (.ret (typT nm t).av, hp) := hba
 simp only [Tm.av] at h1 h2 h3 h4 hst hba
 simp -dsimp -implicitDefEqProofs only [g79, c79r0, c79r1, c79r2, c79k3, c79r4, c79r5, c79r6, c79k7, c79r8, c79k9, c79r10, c79b11, c79k12, c79r13, c79r14, c79k15, c79r16, c79, go_sem, seval, ↓reduceIte, Tm.av, h1, hv, hn0, w_alloc_agg]
 refine W_for (α := Unit) 1 (fun _ _ => True) (fun i _ => ⟨[(1, .pv none (.str tyN)), (2, .pv none (.sl none [.str nm])), (3, .ptr 0 0), (6, .ptr 1 0), (7, .sl (some 4) 3 i 0 i), (8, .pv none (.int .i64 i))], [.box (some 4) (.pv (some 4) t.pv), .box (some 4) (zg 2), .arr (some 4) [] false, .arr (some 4) (Tm.pvs ([atomT nm].take i)) false]⟩) () ⟨trivial, rfl⟩ ?_ ?_
 ·rintro i - hi -
  have : i = 0 := by omega
  subst this
  have hc : (0 : Int) < (1 : Int) := by omega
  have hap : ∀ a0 a1 a2 : AObj, wAppend (some 4) [a0, a1, a2, .arr (some 4) [] false] [.sl (some 4) 3 0 0 0, .tsl (some 4) [(atomT nm).pv]] = some (.sl (some 4) 3 1 0 1, [a0, a1, a2, .arr (some 4) [(atomT nm).pv] false]) := fun _ _ _ => rfl
  have htk : Tm.pvs ([atomT nm].take 0) = [] := rfl
  have htk1 : Tm.pvs ([atomT nm].take 1) = [(atomT nm).pv] := rfl
  generalize (atomT nm).pv = X at *
  simp -dsimp -implicitDefEqProofs only [g79, c79r0, c79r1, c79r2, c79k3, c79r4, c79r5, c79r6, c79k7, c79r8, c79k9, c79r10, c79b11, c79k12, c79r13, c79r14, c79k15, c79r16, c79, go_sem, seval, ↓reduceIte, zg, htk, hp0, hc, hia, h3, hap, w3]
  exact ⟨(), by rw [htk1]; rfl⟩
 ·rintro - -
  have hc : ¬ (1 : Int) < (1 : Int) := by omega
  have htk : Tm.pvs ([atomT nm].take 1) = [(atomT nm).pv] := rfl
  by_cases hbig : (2000 : Int) < 3 + (t.size : Int) + 1
  ·have hcu : cul t = atomT [46, 46, 46] := by unfold cul; rw [if_pos (by omega)]
   have hap : ∀ (a0 a1 a2 : AObj), wAppend (some 4) [a0, a1, a2, .arr (some 4) [(atomT nm).pv] false] [.sl (some 4) 3 1 0 1, .tsl (some 4) [(atomT [46, 46, 46]).pv]] = some (.sl (some 4) 3 2 0 2, [a0, a1, a2, .arr (some 4) [(atomT nm).pv, (atomT [46, 46, 46]).pv] false]) := fun _ _ _ => rfl
   rw [hcu] at hst hba
   generalize (strT tyN [atomT nm, atomT [46, 46, 46]]).pv = Z0 at *
   generalize (atomT [46, 46, 46]).pv = Y at *
   generalize (atomT nm).pv = X at *
   simp -dsimp -implicitDefEqProofs only [g79, c79r0, c79r1, c79r2, c79k3, c79r4, c79r5, c79r6, c79k7, c79r8, c79k9, c79r10, c79b11, c79k12, c79r13, c79r14, c79k15, c79r16, c79, go_sem, seval, ↓reduceIte, zg, htk, hc, h2, w1, w2, w4, hbig, h4, hap, hst, hba]
   rfl
  ·have hcu : cul t = t := by unfold cul; rw [if_neg (by omega)]
   have hap : ∀ (a0 a1 a2 : AObj), wAppend (some 4) [a0, a1, a2, .arr (some 4) [(atomT nm).pv] false] [.sl (some 4) 3 1 0 1, .tsl (some 4) [t.pv]] = some (.sl (some 4) 3 2 0 2, [a0, a1, a2, .arr (some 4) [(atomT nm).pv, t.pv] false]) := fun _ _ _ => rfl
   rw [hcu] at hst hba
   generalize (strT tyN [atomT nm, t]).pv = Z0 at *
   generalize (atomT nm).pv = X at *
   simp -dsimp -implicitDefEqProofs only [g79, c79r0, c79r1, c79r2, c79k3, c79r4, c79r5, c79r6, c79k7, c79r8, c79k9, c79r10, c79b11, c79k12, c79r13, c79r14, c79k15, c79r16, c79, go_sem, seval, ↓reduceIte, zg, htk, hc, h2, w1, w2, w4, hbig, hap, hst, hba]
   rfl
theorem ptype_ok (nm : List UInt8) (hn : nm.length ≤ 100) (t : Tm) (hv : t.valid = true) (hp : Heap) : S 69 [.pv none (.str nm), t.av] hp = some (.ret (typT nm t).av, hp) := by
 refine sem_pure rfl rfl rfl (freezeAll_pvs [(none, .str nm), (some 4, t.pv)]) rfl ?_
 have h1 : ∀ H : Heap, S 112 [t.av, .pv none (.str tyN), .tsl none [.str nm]] H = some (.ret (typT nm t).av, H) := fun H => of_pv (ps := [(some 4, t.pv), (none, .str tyN), (none, .sl none [.str nm])]) rfl rfl rfl rfl rfl (about_ok nm hn t hv [])
 simp only [Tm.av, tyN] at h1
 simp -dsimp -implicitDefEqProofs only [g69, c69r0, c69r1, c69, go_sem, seval, ↓reduceIte, Tm.av, h1, w_alloc_agg]
 try rfl
theorem rtype_ok (nm : List UInt8) (hn : nm.length ≤ 100) (t : Tm) (hv : t.valid = true) (hp : Heap) : S 33 [.pv none (.str nm), t.av] hp = some (.ret (typT nm t).av, hp) := by
 refine sem_pure rfl rfl rfl (freezeAll_pvs [(none, .str nm), (some 4, t.pv)]) rfl ?_
 have h1 : ∀ H : Heap, S 79 [t.av, .pv none (.str tyN), .tsl none [.str nm]] H = some (.ret (typT nm t).av, H) := fun H => of_pv (ps := [(some 4, t.pv), (none, .str tyN), (none, .sl none [.str nm])]) rfl rfl rfl rfl rfl (with_ok nm hn t hv [])
 simp only [Tm.av, tyN] at h1
 simp -dsimp -implicitDefEqProofs only [g33, c33r0, c33r1, c33, go_sem, seval, ↓reduceIte, Tm.av, h1, w_alloc_agg]
 try rfl
def instN : List UInt8 := [105, 110, 115, 116, 97, 110, 116, 105, 97, 116, 105, 111, 110, 95, 101, 114, 114, 111, 114]
def instT : Tm := errT (atomT instN)
theorem instT_valid : instT.valid = true := by decide
theorem rinst_ok (hp : Heap) : S 32 [] hp = some (.ret instT.av, hp) := by
 refine sem_pure (ps := []) rfl rfl rfl rfl rfl ?_
 have h1 := ratom_ok instN
 have h2 := ball_ok (atomT instN) instT_valid
 have e : errT (atomT instN) = instT := rfl
 rw [e] at h2
 simp only [Tm.av, instN] at h1 h2
 simp -dsimp -implicitDefEqProofs only [g32, c32r0, c32r1, c32, go_sem, seval, ↓reduceIte, Tm.av, h1, h2, w_alloc_agg]
 try rfl
theorem pinst_ok (hp : Heap) : S 68 [] hp = some (.ret instT.av, hp) := by
 refine sem_pure (ps := []) rfl rfl rfl rfl rfl ?_
 have h0 : ∀ H : Heap, S 26 [.pv none (.str instN), .pv none (.sl (some 4) [])] H = some (.ret (atomT instN).av, H) := fun H => by
  refine sem_pure rfl rfl rfl (freezeAll_pvs [(none, .str instN), (none, .sl (some 4) [])]) rfl ?_
  have ha := pAtom_ok instN (by decide)
  simp only [Tm.av] at ha
  simp -dsimp -implicitDefEqProofs only [g26, c26r0, c26r1, c26r2, c26k3, c26r4, c26, go_sem, seval, ↓reduceIte, Tm.av, ha, w_alloc_agg]
  try rfl
 have h1 : ∀ H : Heap, S 111 [.pv none (.str instN), .tsl (some 4) []] H = some (.ret instT.av, H) := fun H => of_pv (ps := [(none, .str instN), (none, .sl (some 4) [])]) rfl rfl rfl rfl rfl (by
  refine sem_pure rfl rfl rfl (freezeAll_pvs [(none, .str instN), (none, .sl (some 4) [])]) rfl ?_
  have hb := pAtom_ok [91, 93] (by decide)
  have hc : ∀ H : Heap, S 26 [.pv none (.str errN), .tsl (some 4) [(atomT instN).pv, nilT.pv]] H = some (.ret instT.av, H) := fun H =>
   of_pv (ps := [(none, .str errN), (none, .sl (some 4) (Tm.pvs [atomT instN, nilT]))]) rfl rfl rfl rfl rfl (pStruct_ok errN [atomT instN, nilT] (by decide) instT_valid [])
  have e : atomT [91, 93] = nilT := rfl
  rw [e] at hb
  simp only [Tm.av, errN] at h0 hb hc
  generalize (atomT instN).pv = X at *
  simp -dsimp -implicitDefEqProofs only [g111, c111r0, c111r1, c111, go_sem, seval, ↓reduceIte, Tm.av, h0, hb, hc, w_alloc_agg]
  try rfl)
 simp only [Tm.av, instN] at h1
 simp -dsimp -implicitDefEqProofs only [g68, c68r0, c68r1, c68, go_sem, seval, ↓reduceIte, Tm.av, h1, w_alloc_agg]
 try rfl
end Go.Proofs.YtffecaafklpmhaaGreat
