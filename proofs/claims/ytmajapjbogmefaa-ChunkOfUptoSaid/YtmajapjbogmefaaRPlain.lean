/- The reference's way to the permanent variables comes to the same. No program in sight. -/
import Derived.Test.YtmajapjbogmefaaPerms
set_option linter.unusedSimpArgs false
set_option linter.unusedVariables false
namespace Go.Proofs.Ytmajapjbogmefaa
open Go.Am
def mFind (v : Int) : List (Int × PV) → Option PV
  | [] => none
  | x :: r => if x.1 = v then some x.2 else mFind v r
def mPut (v : Int) (p : PV) : List (Int × PV) → List (Int × PV)
  | [] => [(v, p)]
  | x :: r => if x.1 = v then (v, p) :: r else x :: mPut v p r
def kEnts (m : List (Int × PV)) : List (PV × PV) := m.map fun x => (.int .i64 x.1, x.2)
theorem kEnts_find (v : Int) : ∀ m, afind false (.int .i64 v) (kEnts m) = some (mFind v m)
  | [] => rfl
  | x :: r => by
    have ih := kEnts_find v r
    unfold kEnts at ih ⊢
    simp only [List.map_cons, afind, PV.same, if_true, mFind]
    by_cases h : x.1 = v
    · simp [h]
    · have h' : ¬ v = x.1 := fun e => h e.symm
      simp only [decide_eq_false h', if_neg h]
      exact ih
theorem kEnts_put (v : Int) (p : PV) : ∀ m, aput false (.int .i64 v) p (kEnts m) = some (kEnts (mPut v p m))
  | [] => rfl
  | x :: r => by
    have ih := kEnts_put v p r
    unfold kEnts at ih ⊢
    simp only [List.map_cons, aput, PV.same, if_true, mPut]
    by_cases h : x.1 = v
    · simp [h]
    · have h' : ¬ v = x.1 := fun e => h e.symm
      simp only [decide_eq_false h', if_neg h, List.map_cons]
      rw [ih]
theorem mFind_put (v w : Int) (p : PV) : ∀ m, mFind v (mPut w p m) = if v = w then some p else mFind v m
  | [] => by
    by_cases h : v = w
    · simp [mPut, mFind, h]
    · have h' : ¬ w = v := fun e => h e.symm
      simp [mPut, mFind, h, h']
  | x :: r => by
    have ih := mFind_put v w p r
    unfold mPut
    by_cases h : x.1 = w
    · rw [if_pos h]
      by_cases e : v = w
      · simp [mFind, e]
      · have e' : ¬ w = v := fun q => e q.symm
        have e2 : ¬ x.1 = v := fun q => e (q.symm.trans h)
        simp [mFind, e, e', e2]
    · rw [if_neg h]
      simp only [mFind, ih]
      by_cases e : x.1 = v
      · have e2 : ¬ v = w := fun q => h (e.trans q)
        simp [e, e2]
      · simp [e]
def maxOf (v : Int) (L : List (Int × Int)) : Int := L.foldl (fun a p => if p.1 = v then (if a < p.2 then p.2 else a) else a) 0
theorem maxOf_snoc (v : Int) (L : List (Int × Int)) (p : Int × Int) : maxOf v (L ++ [p]) = if p.1 = v then (if maxOf v L < p.2 then p.2 else maxOf v L) else maxOf v L := by
  unfold maxOf
  rw [List.foldl_append]
  rfl
theorem maxOf_take {v : Int} {L : List (Int × Int)} {i : Nat} {p : Int × Int} (h : L[i]? = some p) : maxOf v (L.take (i + 1)) = if p.1 = v then (if maxOf v (L.take i) < p.2 then p.2 else maxOf v (L.take i)) else maxOf v (L.take i) := by
  rw [List.take_add_one, h]
  exact maxOf_snoc v _ p
theorem maxOf_span (v : Int) : ∀ (n : Nat) (L : List (Int × Int)), L.length = n → (∀ p ∈ L, 0 ≤ p.2) → maxOf v L = if (spanOf v L).2 < 0 then 0 else (spanOf v L).2
  | 0, L, hn, _ => by
    obtain rfl := List.length_eq_zero_iff.1 hn
    rfl
  | n + 1, L, hn, hp => by
    rcases nil_or_snoc L with rfl | ⟨L, p, rfl⟩
    · cases hn
    · have ih := maxOf_span v n L (by simpa using hn) fun q hq => hp q (by simp [hq])
      have h0 := hp p (by simp)
      rw [maxOf_snoc, spanOf_snoc, ih]
      unfold stepS
      by_cases e : p.1 = v
      · simp only [e, if_true, updS]
        by_cases h1 : (spanOf v L).2 < 0
        · simp only [h1, if_true]
          have : (spanOf v L).2 < p.2 := by omega
          simp only [this, if_true, Int.not_lt.2 h0, if_false]
          split
          · rfl
          · omega
        · simp only [h1, if_false]
          by_cases h2 : (spanOf v L).2 < p.2
          · simp only [h2, if_true, Int.not_lt.2 h0, if_false]
          · simp only [h2, if_false, h1]
      · simp only [e, if_false]
theorem maxOf_last {L : List (Int × Int)} (hm : Mono L) (v : Int) : maxOf v L = lastOf (sps L) v := by
  rw [maxOf_span v _ L rfl hm.2]
  have := sps_spec _ L rfl hm v
  unfold lastOf
  cases hs : spFind v (sps L) with
  | none => rw [hs] at this; rw [this.1]; rfl
  | some x =>
    rw [hs] at this
    obtain ⟨h1, h2, h3, _⟩ := this
    rw [h1]
    show (if x.last < 0 then 0 else x.last) = x.last
    rw [if_neg (by omega)]
theorem vars_sps_mem (v : Int) : ∀ (L : List (Int × Int)) (l : List Sp), v ∈ vars (L.foldl spStep l) ↔ v ∈ vars l ∨ v ∈ L.map (·.1)
  | [], l => by simp
  | p :: L, l => by
    rw [List.foldl_cons, vars_sps_mem v L, vars_step]
    simp only [List.map_cons, List.mem_cons]
    split
    · rename_i h
      constructor
      · rintro (h1 | h1)
        · exact .inl h1
        · exact .inr (.inr h1)
      · rintro (h1 | h1 | h1)
        · exact .inl h1
        · subst h1; exact .inl h
        · exact .inr h1
    · simp only [List.mem_append, List.mem_singleton, or_assoc]
theorem mem_sps (v : Int) (L : List (Int × Int)) : v ∈ vars (sps L) ↔ v ∈ L.map (·.1) := by
  unfold sps
  rw [vars_sps_mem]
  simp [vars]
theorem first_step {l : List Sp} {v : Int} (p : Int × Int) (h : v ∈ vars l) : firstOf (spStep l p) v = firstOf l v := by
  unfold spStep firstOf
  cases hw : spFind p.1 l with
  | none =>
    dsimp only
    rw [spFind_app]
    cases hv : spFind v l with
    | none => exact (spFind_mem.2 h hv).elim
    | some x => rfl
  | some y =>
    dsimp only
    by_cases e : v = p.1
    · subst e
      rw [spFind_set hw, hw]
    · rw [spFind_set_ne e]
theorem first_fold : ∀ (M : List (Int × Int)) (l : List Sp) (v : Int), v ∈ vars l → firstOf (M.foldl spStep l) v = firstOf l v
  | [], l, v, _ => rfl
  | p :: M, l, v, h => by
    rw [List.foldl_cons, first_fold M _ v (by rw [vars_step]; split <;> simp [h]), first_step p h]
def oldB (L : List (Int × Int)) (i : Nat) : Bool := match L[i]? with
  | some p => decide (p.1 ∈ (L.take i).map (·.1))
  | none => false
theorem sps_split (L : List (Int × Int)) (i : Nat) : sps L = (L.drop i).foldl spStep (sps (L.take i)) := by
  unfold sps
  rw [← List.foldl_append, List.take_append_drop]
theorem first_new {L : List (Int × Int)} {i : Nat} {p : Int × Int} (h : L[i]? = some p) (ho : oldB L i = false) : firstOf (sps L) p.1 = p.2 ∧ vars (sps (L.take (i + 1))) = vars (sps (L.take i)) ++ [p.1] := by
  unfold oldB at ho
  rw [h] at ho
  simp only [decide_eq_false_iff_not] at ho
  have hn : ¬ p.1 ∈ vars (sps (L.take i)) := fun hm => ho ((mem_sps _ _).1 hm)
  have ht : L.take (i + 1) = L.take i ++ [p] := by rw [List.take_add_one, h]; rfl
  have hf : spFind p.1 (sps (L.take i)) = none := by
    cases hs : spFind p.1 (sps (L.take i)) with
    | none => rfl
    | some x => exact (hn (spFind_mem.1 (by rw [hs]; simp))).elim
  have hv : vars (sps (L.take (i + 1))) = vars (sps (L.take i)) ++ [p.1] := by rw [ht, sps_snoc, vars_step, if_neg hn]
  refine ⟨?_, hv⟩
  rw [sps_split L (i + 1), first_fold _ _ _ (by rw [hv]; simp), ht, sps_snoc]
  unfold firstOf spStep
  rw [hf]
  dsimp only
  rw [spFind_app, hf]
  simp
theorem vars_old {L : List (Int × Int)} {i : Nat} {p : Int × Int} (h : L[i]? = some p) (ho : oldB L i = true) : vars (sps (L.take (i + 1))) = vars (sps (L.take i)) := by
  unfold oldB at ho
  rw [h] at ho
  simp only [decide_eq_true_eq] at ho
  have ht : L.take (i + 1) = L.take i ++ [p] := by rw [List.take_add_one, h]; rfl
  rw [ht, sps_snoc, vars_step, if_pos ((mem_sps _ _).2 ho)]
def bk (f : Int → Int) : Nat → List Int → List Int
  | 0, _ => []
  | k + 1, X => X.filter (fun v => decide (f v = ((k + 1 : Nat) : Int))) ++ bk f k X
theorem bk_mem {f : Int → Int} {v : Int} : ∀ {n : Nat} {X : List Int}, v ∈ bk f n X → f v ≤ n ∧ v ∈ X
  | 0, X, h => by cases h
  | k + 1, X, h => by
    rw [bk] at h
    rcases List.mem_append.1 h with h | h
    · simp only [List.mem_filter, decide_eq_true_eq] at h
      exact ⟨by omega, h.1⟩
    · have := bk_mem h
      exact ⟨by omega, this.2⟩
theorem bk_skip {f : Int → Int} {t : Int} : ∀ {n : Nat} {X : List Int}, (n : Int) < f t → bk f n (X ++ [t]) = bk f n X
  | 0, X, _ => rfl
  | k + 1, X, h => by
    rw [bk, bk, List.filter_append, bk_skip (by omega)]
    have : ¬ f t = ((k + 1 : Nat) : Int) := by omega
    simp only [List.filter_cons, List.filter_nil, decide_eq_false this, Bool.false_eq_true, if_false, List.append_nil]
theorem insC_pre {c : Int → Int → Int} {t : Int} : ∀ {A R : List Int}, (∀ x ∈ A, ¬ c t x < 0) → insC c t (A ++ R) = A ++ insC c t R
  | [], R, _ => rfl
  | x :: A, R, h => by
    rw [List.cons_append, insC, if_neg (h x (by simp)), insC_pre fun y hy => h y (by simp [hy])]
    rfl
theorem cmpI_lt {x y : Int} : cmpI x y < 0 ↔ x < y := by
  unfold cmpI
  split
  · simp [*]
  · split <;> simp <;> omega
theorem bk_ins {f : Int → Int} {t : Int} : ∀ {n : Nat} {X : List Int}, 1 ≤ f t → f t ≤ n → insC (fun a b => cmpI (f b) (f a)) t (bk f n X) = bk f n (X ++ [t])
  | 0, X, h1, h2 => by simp only [Int.natCast_zero] at h2; omega
  | k + 1, X, h1, h2 => by
    rw [bk, bk, List.filter_append]
    by_cases e : f t = ((k + 1 : Nat) : Int)
    · rw [bk_skip (by omega), insC_split (fun x hx => ?_) (fun x hx => ?_)]
      · simp [e]
      · simp only [List.mem_filter, decide_eq_true_eq] at hx
        rw [cmpI_lt]; omega
      · have := (bk_mem hx).1
        rw [cmpI_lt]; omega
    · rw [insC_pre (fun x hx => ?_), bk_ins h1 (by omega)]
      · simp
        omega
      · simp only [List.mem_filter, decide_eq_true_eq] at hx
        rw [cmpI_lt]; omega
theorem bk_sort {f : Int → Int} {m : Nat} : ∀ (n : Nat) (X : List Int), X.length = n → (∀ x ∈ X, 1 ≤ f x ∧ f x ≤ m) → isort (fun a b => cmpI (f b) (f a)) X = bk f m X
  | 0, X, hn, _ => by
    obtain rfl := List.length_eq_zero_iff.1 hn
    have : ∀ k, bk f k [] = [] := fun k => by induction k with
      | zero => rfl
      | succ k ih => rw [bk, ih]; rfl
    rw [this]; rfl
  | n + 1, X, hn, h => by
    rcases nil_or_snoc X with rfl | ⟨X, t, rfl⟩
    · cases hn
    · have ht := h t (by simp)
      rw [isort_snoc, bk_sort n X (by simpa using hn) (fun x hx => h x (by simp [hx])), bk_ins ht.1 ht.2]
def inB (l : List Sp) (k : Int) (v : Int) : Bool := decide (firstOf l v ≠ k) && decide (lastOf l v = k)
def permR (l : List Sp) : Nat → List Int
  | 0 => []
  | k + 1 => (vars l).filter (inB l ((k + 1 : Nat) : Int)) ++ permR l k
theorem first_le {L : List (Int × Int)} (hm : Mono L) {v : Int} (hv : v ∈ vars (sps L)) : 0 ≤ firstOf (sps L) v ∧ firstOf (sps L) v ≤ lastOf (sps L) v := by
  have := sps_spec _ L rfl hm v
  unfold firstOf lastOf
  cases hs : spFind v (sps L) with
  | none => exact (spFind_mem.2 hv hs).elim
  | some x => rw [hs] at this; obtain ⟨_, h2, h3, _⟩ := this; exact ⟨h2, h3⟩
theorem permR_bk {L : List (Int × Int)} (hm : Mono L) : ∀ n, permR (sps L) n = bk (lastOf (sps L)) n (perm0 (sps L))
  | 0 => rfl
  | k + 1 => by
    rw [permR, bk, permR_bk hm k]
    congr 1
    unfold perm0
    rw [List.filter_filter]
    apply List.filter_congr
    intro v hv
    have := first_le hm hv
    rw [Bool.eq_iff_iff]
    simp only [inB, wide, Bool.and_eq_true, decide_eq_true_eq]
    omega
theorem permR_perm {L : List (Int × Int)} (hm : Mono L) {n : Nat} (hn : ∀ p ∈ L, p.2 ≤ n) : permR (sps L) n = permOf (sps L) := by
  rw [permR_bk hm]
  unfold permOf
  refine (bk_sort _ (perm0 (sps L)) rfl fun v hv => ?_).symm
  simp only [perm0, List.mem_filter] at hv
  have h1 := first_le hm hv.1
  have h2 : firstOf (sps L) v < lastOf (sps L) v := by simpa [wide] using hv.2
  refine ⟨by omega, ?_⟩
  have := sps_spec _ L rfl hm v
  unfold lastOf
  cases hs : spFind v (sps L) with
  | none => exact (spFind_mem.2 hv.1 hs).elim
  | some x =>
    rw [hs] at this
    obtain ⟨_, _, _, p, hp, _, h5⟩ := this
    show x.last ≤ n
    rw [← h5]
    exact hn p hp
theorem tw_count {f : Int → Int} {c : Int} : ∀ {P : List Int}, P.Pairwise (fun a b => f b ≤ f a) → (P.takeWhile (fun v => decide (c < f v))).length = P.countP (fun v => decide (c < f v))
  | [], _ => rfl
  | x :: r, hs => by
    obtain ⟨h1, h2⟩ := List.pairwise_cons.1 hs
    rw [List.takeWhile_cons, List.countP_cons]
    by_cases hx : c < f x
    · simp only [decide_eq_true hx, if_true, List.length_cons, tw_count h2]
    · simp only [decide_eq_false hx, Bool.false_eq_true, if_false, List.length_nil]
      symm
      rw [Nat.add_zero, List.countP_eq_zero]
      intro v hv
      have := h1 v hv
      simp
      omega
def callsN : Int → List Gl → Int
  | c, [] => c
  | c, g :: r => callsN (g.next c) r
theorem callsN_drop {c : Int} {l : List Gl} {i : Nat} {g : Gl} (h : l[i]? = some g) : callsN c (l.drop i) = callsN (g.next c) (l.drop (i + 1)) := by
  obtain ⟨h1, rfl⟩ := List.getElem?_eq_some_iff.1 h
  rw [List.drop_eq_getElem_cons h1, callsN]
theorem callsN_ge : ∀ (l : List Gl) (c : Int), c ≤ callsN c l ∧ callsN c l ≤ c + l.length ∧ ∀ p ∈ plcsP c l, p.2 ≤ callsN c l
  | [], c => ⟨Int.le_refl _, by simp [callsN], fun p hp => by cases hp⟩
  | g :: r, c => by
    obtain ⟨h1, h2, h3⟩ := callsN_ge r (g.next c)
    have hn : c ≤ g.next c ∧ g.next c ≤ c + 1 := by unfold Gl.next; split <;> omega
    rw [callsN]
    refine ⟨by omega, by simp only [List.length_cons]; omega, fun p hp => ?_⟩
    rw [plcsP] at hp
    rcases List.mem_append.1 hp with hp | hp
    · rw [hereP_all _ _ p hp]; omega
    · exact h3 p hp
theorem places_le (f : Fl) : ∀ p ∈ placesP f, p.2 ≤ callsN 0 f.goals := by
  intro p hp
  obtain ⟨h1, _, h3⟩ := callsN_ge f.goals 0
  unfold placesP at hp
  rcases List.mem_append.1 hp with hp | hp
  · obtain ⟨_, _, rfl⟩ := List.mem_map.1 hp; exact h1
  · exact h3 p hp
end Go.Proofs.Ytmajapjbogmefaa
