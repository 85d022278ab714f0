/-
  Plain law: a pier whose distances, and each To, are as many times as great.
  Plain law: a pier that is seen from its other end; one that is moved along.
  Plain: what 'CheckRound' says of a round of all stops; a round by numbers.
  Plain law: one stop less, at an end of the pier; a greater To.
-/
import Derived.Test.YtaekjnjignlmoaaPlain
namespace Go.Proofs.Ytaekjnjignlmoaa

def scl (c : Int) (ps : List (Int × Int)) : List (Int × Int) := ps.map fun x => (c * x.1, c * x.2)
theorem scl_len (c : Int) (ps : List (Int × Int)) : (scl c ps).length = ps.length := by simp [scl]
theorem scl_at (c : Int) (ps : List (Int × Int)) (i : Nat) : plc (scl c ps) i = c * plc ps i ∧ too (scl c ps) i = c * too ps i := by
  unfold plc too scl
  rw [List.getElem?_map]
  cases ps[i]? <;> simp
section
variable {c : Int} (hc : 0 < c)
include hc
theorem mul_lt_iff {x y : Int} : c * x < c * y ↔ x < y := Int.mul_lt_mul_left hc
theorem mul_le_iff {x y : Int} : c * x ≤ c * y ↔ x ≤ y := Int.mul_le_mul_left hc
theorem mul_eq_iff {x y : Int} : c * x = c * y ↔ x = y := Int.mul_eq_mul_left_iff (by omega)
theorem scl_lefts (b : Int) (ps : List (Int × Int)) : lefts (c * b) (scl c ps) = lefts b ps := by
  unfold lefts scl
  rw [List.countP_map]
  congr 1
  funext x
  simp only [Function.comp, mul_lt_iff hc]
theorem scl_far (x y : Int) : far (c * x) (c * y) = c * far x y := by
  unfold far
  by_cases h : x ≤ y
  · rw [if_pos ((mul_le_iff hc).2 h), if_pos h, Int.mul_sub]
  · rw [if_neg (fun h' => h ((mul_le_iff hc).1 h')), if_neg h, Int.mul_sub]
def sclL (c : Int) (l : List Int) : List Int := l.map (c * ·)
def sclSt (c : Int) (s : St) : St := ⟨c * s.at_, c * s.n, s.lo, s.hi, sclL c s.out⟩
omit hc in
theorem nth_scl (c : Int) (l : List Int) (i : Nat) : nth (sclL c l) i = c * nth l i := by
  unfold nth sclL
  rw [List.getElem?_map]
  cases l[i]? <;> simp
theorem scl_move (ps : List (Int × Int)) (s : St) (i lo hi : Nat) : move (scl c ps) (sclSt c s) i lo hi = sclSt c (move ps s i lo hi) := by
  simp only [move, sclSt, (scl_at c ps i).1, scl_far hc, sclL, List.map_set, Int.mul_add]
theorem scl_fold (ps : List (Int × Int)) : ∀ (l : List Nat) (o : Option St), l.foldl (stF (scl c ps)) (o.map (sclSt c)) = (l.foldl (stF ps) o).map (sclSt c)
  | [], o => rfl
  | i :: l, o => by
    simp only [List.foldl_cons]
    rw [← scl_fold ps l]
    congr 1
    cases o with
    | none => rfl
    | some s =>
      simp only [stF, Option.map_some, Option.bind_some]
      have e1 : (sclSt c s).lo = s.lo := rfl
      have e2 : (sclSt c s).hi = s.hi := rfl
      rw [e1, e2]
      split
      · rw [scl_move hc]; rfl
      · split
        · rw [scl_move hc]; rfl
        · rfl
theorem scl_st0 (b : Int) (ps : List (Int × Int)) : st0 (c * b) (scl c ps) = sclSt c (st0 b ps) := by
  simp [st0, sclSt, scl_lefts hc, sclL]
theorem scl_stAt (b : Int) (ps : List (Int × Int)) (l : List Nat) : stAt (c * b) (scl c ps) l = (stAt b ps l).map (sclSt c) := by
  unfold stAt
  rw [scl_st0 hc]
  exact scl_fold hc ps l (some (st0 b ps))
omit hc in
theorem scl_zeros (c : Int) : sclL c zeros = zeros := by simp [sclL, zeros]
theorem scl_steps (b : Int) (ps : List (Int × Int)) (l : List Nat) : stepsL (c * b) (scl c ps) l = sclL c (stepsL b ps l) := by
  unfold stepsL
  rw [scl_stAt hc]
  cases stAt b ps l with
  | none => exact (scl_zeros c).symm
  | some s => rfl
theorem scl_max (x y : Int) : maxI (c * x) (c * y) = c * maxI x y := by
  unfold maxI
  by_cases h : x < y
  · rw [if_pos ((mul_lt_iff hc).2 h), if_pos h]
  · rw [if_neg (fun h' => h ((mul_lt_iff hc).1 h')), if_neg h]
theorem scl_lateTo (ps : List (Int × Int)) (own : List Int) : ∀ k : Nat, lateTo (scl c ps) (sclL c own) k = c * lateTo ps own k
  | 0 => by
    show nth (sclL c own) 0 - too (scl c ps) 0 = c * (nth own 0 - too ps 0)
    rw [nth_scl, (scl_at c ps 0).2, Int.mul_sub]
  | k + 1 => by
    rw [lateTo_succ, lateTo_succ, scl_lateTo ps own k, nth_scl, (scl_at c ps k).2, ← Int.mul_sub, scl_max hc]
theorem scl_late (b : Int) (ps : List (Int × Int)) (l : List Nat) : lateL (scl c ps) (stepsL (c * b) (scl c ps) l) = c * lateL ps (stepsL b ps l) := by
  unfold lateL
  rw [scl_len, scl_steps hc, scl_lateTo hc]
theorem scl_allR (b : Int) (ps : List (Int × Int)) : allR (c * b) (scl c ps) = allR b ps := by
  unfold allR
  rw [scl_len, scl_lefts hc]
theorem scl_zero_iff (l : List Int) (h : l.length = 10) : sclL c l = zeros ↔ l = zeros := by
  constructor
  · intro e
    refine eq_of_nth (n := 10) h (by simp [zeros]) fun j hj => ?_
    have h1 := congrArg (fun l => nth l j) e
    simp only [nth_scl] at h1
    have h2 : nth zeros j = 0 := by
      unfold nth zeros
      rw [List.getElem?_replicate, if_pos hj]
      rfl
    rw [h2] at h1 ⊢
    rcases Int.mul_eq_zero.1 h1 with h3 | h3
    · omega
    · exact h3
  · rintro rfl
    exact scl_zeros c
theorem scl_good {b : Int} {ps : List (Int × Int)} (hp : Pier b ps) (hx : Pier (c * b) (scl c ps)) : goodR (c * b) (scl c ps) = goodR b ps := by
  unfold goodR
  rw [scl_allR hc]
  refine List.filter_congr fun l hl => ?_
  have h1 := full_steps hp hl
  have h2 := full_steps hx (by rw [scl_allR hc]; exact hl)
  unfold inTimeB
  rw [decide_eq_true h1, decide_eq_true h2, scl_late hc]
  congr 1
  refine decide_eq_decide.2 ?_
  have h := mul_le_iff hc (x := lateL ps (stepsL b ps l)) (y := 0)
  rw [Int.mul_zero] at h
  exact h
theorem scl_len_ (b : Int) (ps : List (Int × Int)) (l : List Nat) : lenR (c * b) (scl c ps) l = c * lenR b ps l := by
  unfold lenR
  rw [scl_steps hc, nth_scl]
theorem scl_foldBest (f : List Nat → Int) : ∀ (xs : List (List Nat)) (x : List Nat), xs.foldl (fun m y => if c * f y < c * f m then y else m) x = xs.foldl (fun m y => if f y < f m then y else m) x := by
  intro xs x
  simp only [mul_lt_iff hc]
theorem scl_round {b : Int} {ps : List (Int × Int)} (hp : Pier b ps) (hx : Pier (c * b) (scl c ps)) : roundOf (c * b) (scl c ps) = roundOf b ps := by
  unfold roundOf
  rw [scl_good hc hp hx]
  unfold firstBest
  cases goodR b ps with
  | nil => rfl
  | cons x xs =>
    show List.foldl _ x xs = List.foldl _ x xs
    simp only [scl_len_ hc]
    exact scl_foldBest hc _ _ _
theorem scl_minL : ∀ (xs : List Int) (x : Int), minL (c * x) (sclL c xs) = c * minL x xs
  | [], x => rfl
  | y :: xs, x => by
    show minL (if c * y < c * x then c * y else c * x) (sclL c xs) = c * minL (if y < x then y else x) xs
    rw [← scl_minL xs]
    congr 1
    by_cases h : y < x
    · rw [if_pos ((mul_lt_iff hc).2 h), if_pos h]
    · rw [if_neg (fun h' => h ((mul_lt_iff hc).1 h')), if_neg h]
theorem scl_maxL : ∀ (xs : List Int) (x : Int), maxL (c * x) (sclL c xs) = c * maxL x xs
  | [], x => rfl
  | y :: xs, x => by
    show maxL (maxI (c * x) (c * y)) (sclL c xs) = c * maxL (maxI x y) xs
    rw [← scl_maxL xs, scl_max hc]
theorem scl_minOf (xs : List Int) : minOf (sclL c xs) = c * minOf xs := by
  cases xs with
  | nil => show (0 : Int) = c * 0; simp
  | cons x xs => exact scl_minL hc xs x
theorem scl_maxOf (xs : List Int) : maxOf (sclL c xs) = c * maxOf xs := by
  cases xs with
  | nil => show (0 : Int) = c * 0; simp
  | cons x xs => exact scl_maxL hc xs x
theorem scl_shortest {b : Int} {ps : List (Int × Int)} (hp : Pier b ps) (hx : Pier (c * b) (scl c ps)) : (shortestS (c * b) (scl c ps)).2 = (c * (shortestS b ps).2.1, (shortestS b ps).2.2) := by
  unfold shortestS
  rw [if_pos (checkPier_ok.2 hp), if_pos (checkPier_ok.2 hx), scl_good hc hp hx]
  by_cases h : goodR b ps = []
  · rw [if_pos h, if_pos h]
    simp
  · rw [if_neg h, if_neg h, scl_round hc hp hx, scl_len_ hc]
theorem scl_delay {b : Int} {ps : List (Int × Int)} (hp : Pier b ps) (hx : Pier (c * b) (scl c ps)) : delayS (c * b) (scl c ps) = (c * (delayS b ps).1, (delayS b ps).2) := by
  unfold delayS
  rw [if_pos (checkPier_ok.2 hp), if_pos (checkPier_ok.2 hx), scl_allR hc]
  have e : ((allR b ps).map fun l => lateL (scl c ps) (stepsL (c * b) (scl c ps) l)) = sclL c ((allR b ps).map fun l => lateL ps (stepsL b ps l)) := by
    unfold sclL
    rw [List.map_map]
    exact List.map_congr_left fun l _ => scl_late hc b ps l
  rw [e, scl_minOf hc]
theorem scl_within {b : Int} {ps : List (Int × Int)} (hp : Pier b ps) (hx : Pier (c * b) (scl c ps)) (i : Int) : withinS (c * b) (scl c ps) i = (c * (withinS b ps i).1, c * (withinS b ps i).2.1, (withinS b ps i).2.2) := by
  unfold withinS
  rw [if_pos (checkPier_ok.2 hp), if_pos (checkPier_ok.2 hx), scl_len, scl_good hc hp hx]
  by_cases h0 : i < 0 ∨ (ps.length : Int) ≤ i
  · rw [if_pos h0, if_pos h0]
    simp
  · rw [if_neg h0, if_neg h0]
    by_cases h : goodR b ps = []
    · rw [if_pos h, if_pos h]
      simp
    · rw [if_neg h, if_neg h]
      have e : stepsAt (c * b) (scl c ps) i.toNat = sclL c (stepsAt b ps i.toNat) := by
        unfold stepsAt sclL
        rw [scl_good hc hp hx, List.map_map]
        refine List.map_congr_left fun l _ => ?_
        rw [scl_steps hc, nth_scl]
        rfl
      rw [e, scl_minOf hc, scl_maxOf hc]
end
/-! ### How great the answers are -/
theorem good_step {b : Int} {ps : List (Int × Int)} (hp : Pier b ps) {l : List Nat} (h : l ∈ goodR b ps) {i : Nat} (hi : i < ps.length) : 0 ≤ nth (stepsL b ps l) i ∧ nth (stepsL b ps l) i ≤ 9000 := by
  obtain ⟨h1, h2⟩ := mem_goodR.1 h
  obtain ⟨s, hs, _, _, _, hd⟩ := full_round hp h1
  have h3 := (inTime_iff hp h1).1 h2 i hi
  have h4 := hp.at_ i
  rw [stepsL_some hs] at h3 ⊢
  have := hd i hi
  omega
theorem lastOf_lt {b : Int} {ps : List (Int × Int)} (hp : Pier b ps) {l : List Nat} (h : l ∈ allR b ps) : lastOf l < ps.length ∧ l ≠ [] := by
  obtain ⟨hl, _, hall⟩ := allR_iff.1 h
  have hne : l ≠ [] := by
    intro e
    rw [e] at hl
    have := hp.lo
    simp at hl
    omega
  refine ⟨?_, hne⟩
  unfold lastOf
  rw [List.getLast?_eq_some_getLast hne]
  exact hall _ (List.getLast_mem hne)
theorem shortest_bd {b : Int} {ps : List (Int × Int)} (hp : Pier b ps) : 0 ≤ (shortestS b ps).2.1 ∧ (shortestS b ps).2.1 ≤ 9000 := by
  unfold shortestS
  rw [if_pos (checkPier_ok.2 hp)]
  by_cases h : goodR b ps = []
  · rw [if_pos h]
    exact ⟨Int.le_refl _, by show (0 : Int) ≤ 9000; omega⟩
  · rw [if_neg h]
    have h1 := (firstBest_mem (f := lenR b ps) h).1
    exact good_step hp h1 (lastOf_lt hp (mem_goodR.1 h1).1).1
theorem delay_bd {b : Int} {ps : List (Int × Int)} (hp : Pier b ps) : -9000 ≤ (delayS b ps).1 ∧ (delayS b ps).1 ≤ 10000 := by
  unfold delayS
  rw [if_pos (checkPier_ok.2 hp)]
  have hne : ((allR b ps).map fun l => lateL ps (stepsL b ps l)) ≠ [] := by
    intro e
    have h := allR_some (b := b) (ps := ps)
    rw [List.map_eq_nil_iff] at e
    rw [e] at h
    cases h
  obtain ⟨l, hl, he⟩ := List.mem_map.1 (minOf_mem hne)
  show -9000 ≤ minOf _ ∧ minOf _ ≤ 10000
  rw [← he]
  obtain ⟨s, hs, hk, _, _, _⟩ := full_round hp hl
  rw [stepsL_some hs]
  have hlen := (allR_iff.1 hl).1
  have h10 := hp.hi
  exact lateTo_bd hp (fun i => by have := hk.outs i; omega) _
theorem within_bd {b : Int} {ps : List (Int × Int)} (hp : Pier b ps) (i : Int) : 0 ≤ (withinS b ps i).1 ∧ (withinS b ps i).2.1 ≤ 9000 := by
  unfold withinS
  rw [if_pos (checkPier_ok.2 hp)]
  by_cases h0 : i < 0 ∨ (ps.length : Int) ≤ i
  · rw [if_pos h0]
    exact ⟨Int.le_refl _, by show (0 : Int) ≤ 9000; omega⟩
  · rw [if_neg h0]
    by_cases h : goodR b ps = []
    · rw [if_pos h]
      exact ⟨Int.le_refl _, by show (0 : Int) ≤ 9000; omega⟩
    · rw [if_neg h]
      have hne : stepsAt b ps i.toNat ≠ [] := by
        unfold stepsAt
        rw [Ne, List.map_eq_nil_iff]
        exact h
      obtain ⟨l, hl, he⟩ := List.mem_map.1 (minOf_mem hne)
      obtain ⟨l', hl', he'⟩ := List.mem_map.1 (maxOf_mem hne)
      show 0 ≤ minOf _ ∧ maxOf _ ≤ 9000
      have e1 : minOf (stepsAt b ps i.toNat) = _ := he.symm
      have e2 : maxOf (stepsAt b ps i.toNat) = _ := he'.symm
      rw [e1, e2]
      exact ⟨(good_step hp hl (by omega)).1, (good_step hp hl' (by omega)).2⟩
end Go.Proofs.Ytaekjnjignlmoaa

namespace Go.Proofs.Ytaekjnjignlmoaa

/-! ### Moved along by k -/
def mvd (k : Int) (ps : List (Int × Int)) : List (Int × Int) := ps.map fun x => (x.1 + k, x.2)
section
variable (k : Int)
theorem mvd_len (ps : List (Int × Int)) : (mvd k ps).length = ps.length := by simp [mvd]
theorem mvd_at (ps : List (Int × Int)) {i : Nat} (hi : i < ps.length) : plc (mvd k ps) i = plc ps i + k ∧ too (mvd k ps) i = too ps i := by
  unfold plc too mvd
  rw [List.getElem?_map, List.getElem?_eq_getElem hi]
  simp
theorem mvd_too (ps : List (Int × Int)) (i : Nat) : too (mvd k ps) i = too ps i := by
  unfold too mvd
  rw [List.getElem?_map]
  cases ps[i]? <;> simp
theorem mvd_lefts (b : Int) (ps : List (Int × Int)) : lefts (b + k) (mvd k ps) = lefts b ps := by
  unfold lefts mvd
  rw [List.countP_map]
  congr 1
  funext x
  simp only [Function.comp]
  exact decide_eq_decide.2 (by omega)
theorem mvd_far (x y : Int) : far (x + k) (y + k) = far x y := by unfold far; split <;> split <;> omega
def mvdSt (k : Int) (s : St) : St := ⟨s.at_ + k, s.n, s.lo, s.hi, s.out⟩
theorem mvd_move (ps : List (Int × Int)) (s : St) (i lo hi : Nat) (h : i < ps.length) : move (mvd k ps) (mvdSt k s) i lo hi = mvdSt k (move ps s i lo hi) := by
  simp only [move, mvdSt, (mvd_at k ps h).1, mvd_far]
theorem mvd_fold (ps : List (Int × Int)) : ∀ (l : List Nat) (o : Option St), (∀ i ∈ l, i < ps.length) → l.foldl (stF (mvd k ps)) (o.map (mvdSt k)) = (l.foldl (stF ps) o).map (mvdSt k)
  | [], o, _ => rfl
  | i :: l, o, h => by
    have hi := h i (by simp)
    simp only [List.foldl_cons]
    rw [← mvd_fold ps l _ (fun j hj => h j (by simp [hj]))]
    congr 1
    cases o with
    | none => rfl
    | some s =>
      simp only [stF, Option.map_some, Option.bind_some]
      have e1 : (mvdSt k s).lo = s.lo := rfl
      have e2 : (mvdSt k s).hi = s.hi := rfl
      rw [e1, e2]
      split
      · rw [mvd_move k ps s _ _ _ hi]; rfl
      · split
        · rw [mvd_move k ps s _ _ _ hi]; rfl
        · rfl
theorem mvd_stAt (b : Int) (ps : List (Int × Int)) (l : List Nat) (h : ∀ i ∈ l, i < ps.length) : stAt (b + k) (mvd k ps) l = (stAt b ps l).map (mvdSt k) := by
  unfold stAt
  have e : st0 (b + k) (mvd k ps) = mvdSt k (st0 b ps) := by simp [st0, mvdSt, mvd_lefts]
  rw [e]
  exact mvd_fold k ps l (some (st0 b ps)) h
theorem mvd_steps (b : Int) (ps : List (Int × Int)) (l : List Nat) (h : ∀ i ∈ l, i < ps.length) : stepsL (b + k) (mvd k ps) l = stepsL b ps l := by
  unfold stepsL
  rw [mvd_stAt k b ps l h]
  cases stAt b ps l <;> rfl
theorem mvd_lateTo (ps : List (Int × Int)) (own : List Int) : ∀ j : Nat, lateTo (mvd k ps) own j = lateTo ps own j
  | 0 => by
    show nth own 0 - too (mvd k ps) 0 = nth own 0 - too ps 0
    rw [mvd_too]
  | j + 1 => by rw [lateTo_succ, lateTo_succ, mvd_lateTo ps own j, mvd_too]
theorem mvd_late (b : Int) (ps : List (Int × Int)) (l : List Nat) (h : ∀ i ∈ l, i < ps.length) : lateL (mvd k ps) (stepsL (b + k) (mvd k ps) l) = lateL ps (stepsL b ps l) := by
  unfold lateL
  rw [mvd_len, mvd_steps k b ps l h, mvd_lateTo]
theorem mvd_allR (b : Int) (ps : List (Int × Int)) : allR (b + k) (mvd k ps) = allR b ps := by
  unfold allR
  rw [mvd_len, mvd_lefts]
theorem allR_in {b : Int} {ps : List (Int × Int)} {l : List Nat} (h : l ∈ allR b ps) : ∀ i ∈ l, i < ps.length := (allR_iff.1 h).2.2
theorem mvd_good (b : Int) (ps : List (Int × Int)) : goodR (b + k) (mvd k ps) = goodR b ps := by
  unfold goodR
  rw [mvd_allR]
  refine List.filter_congr fun l hl => ?_
  unfold inTimeB
  rw [mvd_late k b ps l (allR_in hl), mvd_steps k b ps l (allR_in hl)]
theorem mvd_lenR (b : Int) (ps : List (Int × Int)) (l : List Nat) (h : ∀ i ∈ l, i < ps.length) : lenR (b + k) (mvd k ps) l = lenR b ps l := by
  unfold lenR
  rw [mvd_steps k b ps l h]
theorem firstBest_congr {f g : List Nat → Int} {xs : List (List Nat)} (h : ∀ l ∈ xs, f l = g l) : firstBest f xs = firstBest g xs := by
  unfold firstBest
  cases xs with
  | nil => rfl
  | cons x xs =>
    show List.foldl _ x xs = List.foldl _ x xs
    have key : ∀ (ys : List (List Nat)) (m : List Nat), f m = g m → (∀ y ∈ ys, f y = g y) → ys.foldl (fun m y => if f y < f m then y else m) m = ys.foldl (fun m y => if g y < g m then y else m) m := by
      intro ys
      induction ys with
      | nil => intro m _ _; rfl
      | cons y ys ih =>
        intro m hm hy
        simp only [List.foldl_cons]
        have e1 := hy y (by simp)
        rw [e1, hm]
        exact ih _ (by split <;> assumption) (fun z hz => hy z (by simp [hz]))
    exact key xs x (h x (by simp)) (fun y hy => h y (by simp [hy]))
theorem good_in {b : Int} {ps : List (Int × Int)} {l : List Nat} (h : l ∈ goodR b ps) : ∀ i ∈ l, i < ps.length := allR_in (mem_goodR.1 h).1
theorem mvd_round (b : Int) (ps : List (Int × Int)) : roundOf (b + k) (mvd k ps) = roundOf b ps := by
  unfold roundOf
  rw [mvd_good]
  exact firstBest_congr fun l hl => mvd_lenR k b ps l (good_in hl)
theorem round_good {b : Int} {ps : List (Int × Int)} (h : goodR b ps ≠ []) : roundOf b ps ∈ goodR b ps := (firstBest_mem (f := lenR b ps) h).1
theorem mvd_shortest {b : Int} {ps : List (Int × Int)} (hp : Pier b ps) (hx : Pier (b + k) (mvd k ps)) : shortestS (b + k) (mvd k ps) = shortestS b ps := by
  unfold shortestS
  rw [if_pos (checkPier_ok.2 hp), if_pos (checkPier_ok.2 hx), mvd_good]
  by_cases h : goodR b ps = []
  · rw [if_pos h, if_pos h]
  · rw [if_neg h, if_neg h, mvd_round, mvd_lenR k b ps _ (good_in (round_good h))]
theorem mvd_count {b : Int} {ps : List (Int × Int)} (hp : Pier b ps) (hx : Pier (b + k) (mvd k ps)) : countS (b + k) (mvd k ps) = countS b ps := by
  unfold countS
  rw [if_pos (checkPier_ok.2 hp), if_pos (checkPier_ok.2 hx), mvd_good]
theorem mvd_delay {b : Int} {ps : List (Int × Int)} (hp : Pier b ps) (hx : Pier (b + k) (mvd k ps)) : delayS (b + k) (mvd k ps) = delayS b ps := by
  unfold delayS
  rw [if_pos (checkPier_ok.2 hp), if_pos (checkPier_ok.2 hx), mvd_allR]
  congr 2
  exact List.map_congr_left fun l hl => mvd_late k b ps l (allR_in hl)
theorem mvd_within {b : Int} {ps : List (Int × Int)} (hp : Pier b ps) (hx : Pier (b + k) (mvd k ps)) (i : Int) : withinS (b + k) (mvd k ps) i = withinS b ps i := by
  unfold withinS
  rw [if_pos (checkPier_ok.2 hp), if_pos (checkPier_ok.2 hx), mvd_len, mvd_good]
  have e : stepsAt (b + k) (mvd k ps) i.toNat = stepsAt b ps i.toNat := by
    unfold stepsAt
    rw [mvd_good]
    refine List.map_congr_left fun l hl => ?_
    rw [mvd_steps k b ps l (good_in hl)]
  rw [e]
end
/-! ### From the other end -/
def rev (ps : List (Int × Int)) : List (Int × Int) := ps.reverse.map fun x => (1000 - x.1, x.2)
theorem rev_len (ps : List (Int × Int)) : (rev ps).length = ps.length := by simp [rev]
theorem rev_at (ps : List (Int × Int)) {i : Nat} (hi : i < ps.length) : plc (rev ps) i = 1000 - plc ps (ps.length - 1 - i) ∧ too (rev ps) i = too ps (ps.length - 1 - i) := by
  unfold plc too rev
  rw [List.getElem?_map, List.getElem?_reverse hi, List.getElem?_eq_getElem (by omega : ps.length - 1 - i < ps.length)]
  simp
theorem rev_lefts {b : Int} {ps : List (Int × Int)} (hp : Pier b ps) : lefts (1000 - b) (rev ps) = ps.length - lefts b ps := by
  have h1 : lefts (1000 - b) (rev ps) = ps.countP fun x => !decide (x.1 < b) := by
    unfold lefts rev
    rw [List.countP_map, List.countP_reverse]
    refine List.countP_congr fun x hx => ?_
    obtain ⟨i, hi, rfl⟩ := List.getElem_of_mem hx
    have h := hp.off i hi
    rw [(plc_some (List.getElem?_eq_getElem hi)).1] at h
    simp only [Function.comp, decide_eq_true_eq, Bool.not_eq_true', decide_eq_false_iff_not]
    omega
  have h2 := List.length_eq_countP_add_countP (fun x : Int × Int => decide (x.1 < b)) (l := ps)
  rw [h1]
  unfold lefts
  have h3 : (ps.countP fun x => !decide (x.1 < b)) = List.countP (fun a => decide ¬decide (a.1 < b) = true) ps := List.countP_congr fun x _ => by simp
  omega
theorem rev_pier {b : Int} {ps : List (Int × Int)} (hp : Pier b ps) : Pier (1000 - b) (rev ps) := by
  have hb := hp.begin_
  refine ⟨by rw [rev_len]; exact hp.lo, by rw [rev_len]; exact hp.hi, by omega, fun x hx => ?_, fun i hi => ?_, fun i hi => ?_⟩
  · obtain ⟨y, hy, rfl⟩ := List.mem_map.1 hx
    have := hp.all y (List.mem_reverse.1 hy)
    show (0 ≤ 1000 - y.1 ∧ 1000 - y.1 ≤ 1000) ∧ 0 ≤ y.2 ∧ y.2 ≤ 9000
    omega
  · rw [rev_len] at hi
    rw [(rev_at ps hi).1]
    have := hp.off (ps.length - 1 - i) (by omega)
    omega
  · rw [rev_len] at hi
    rw [(rev_at ps (by omega : i < ps.length)).1, (rev_at ps hi).1]
    have := hp.asc (ps.length - 1 - (i + 1)) (by omega)
    rw [show ps.length - 1 - (i + 1) + 1 = ps.length - 1 - i by omega] at this
    omega
def mr (n : Nat) (l : List Nat) : List Nat := l.map (n - 1 - ·)
/-- A state, and the state of the walk that is seen from the other end. -/
structure RevS (n : Nat) (s t : St) : Prop where
  at_ : t.at_ = 1000 - s.at_
  nn : t.n = s.n
  lo : t.lo = n - s.hi
  hi : t.hi = n - s.lo
  le : s.lo ≤ s.hi
  len : s.out.length = 10 ∧ t.out.length = 10
  out : ∀ i : Nat, i < n → nth t.out i = nth s.out (n - 1 - i)
theorem rev_move {ps : List (Int × Int)} (h10 : ps.length ≤ 10) {s t : St} (h : RevS ps.length s t) {i lo hi : Nat} (hi' : i < ps.length) (hle : lo ≤ hi) : RevS ps.length (move ps s i lo hi) (move (rev ps) t (ps.length - 1 - i) (ps.length - hi) (ps.length - lo)) := by
  have e1 := (rev_at ps (by omega : ps.length - 1 - i < ps.length)).1
  rw [show ps.length - 1 - (ps.length - 1 - i) = i by omega] at e1
  have e2 : far t.at_ (plc (rev ps) (ps.length - 1 - i)) = far s.at_ (plc ps i) := by
    rw [e1, h.at_]
    unfold far
    split <;> split <;> omega
  refine ⟨e1, ?_, rfl, rfl, hle, ⟨?_, ?_⟩, fun j hj => ?_⟩
  · show t.n + far t.at_ (plc (rev ps) (ps.length - 1 - i)) = s.n + far s.at_ (plc ps i)
    rw [e2, h.nn]
  · show (s.out.set _ _).length = 10
    rw [List.length_set]; exact h.len.1
  · show (t.out.set _ _).length = 10
    rw [List.length_set]; exact h.len.2
  · show nth (t.out.set (ps.length - 1 - i) (t.n + far t.at_ (plc (rev ps) (ps.length - 1 - i)))) j = nth (s.out.set i (s.n + far s.at_ (plc ps i))) (ps.length - 1 - j)
    rw [nth_setL (by rw [h.len.2]; omega), nth_setL (by rw [h.len.1]; omega), e2, h.nn, h.out j hj]
    by_cases hji : ps.length - 1 - i = j
    · rw [if_pos hji, if_pos (by omega)]
    · rw [if_neg hji, if_neg (by omega)]
theorem rev_fold {ps : List (Int × Int)} (h10 : ps.length ≤ 10) : ∀ (l : List Nat) (s t s' : St), (∀ i ∈ l, i < ps.length) → RevS ps.length s t → l.foldl (stF ps) (some s) = some s' → ∃ t', (mr ps.length l).foldl (stF (rev ps)) (some t) = some t' ∧ RevS ps.length s' t'
  | [], s, t, s', _, h, e => by
    cases e
    exact ⟨t, rfl, h⟩
  | i :: l, s, t, s', hall, h, e => by
    have hi := hall i (by simp)
    have h1 := h.lo
    have h2 := h.hi
    have h3 := h.le
    simp only [List.foldl_cons, stF, Option.bind_some] at e
    simp only [mr, List.map_cons, List.foldl_cons, stF, Option.bind_some]
    split at e
    · rename_i c
      have hr := rev_move h10 h (i := i) (lo := i) (hi := s.hi) hi (by omega)
      by_cases hc : t.lo = ps.length - 1 - i + 1
      · exact absurd hc (by omega)
      · rw [if_neg hc, if_pos (by omega)]
        rw [show ps.length - 1 - i + 1 = ps.length - i by omega, h1]
        exact rev_fold h10 l _ _ s' (fun j hj => hall j (by simp [hj])) hr e
    · split at e
      · rename_i c1 c
        have hr := rev_move h10 h (i := i) (lo := s.lo) (hi := i + 1) hi (by omega)
        rw [if_pos (by omega)]
        rw [show ps.length - (i + 1) = ps.length - 1 - i by omega, ← h2] at hr
        exact rev_fold h10 l _ _ s' (fun j hj => hall j (by simp [hj])) hr e
      · rw [foldl_none] at e
        cases e
theorem rev_stAt {b : Int} {ps : List (Int × Int)} (hp : Pier b ps) {l : List Nat} (hall : ∀ i ∈ l, i < ps.length) {s : St} (h : stAt b ps l = some s) : ∃ t, stAt (1000 - b) (rev ps) (mr ps.length l) = some t ∧ RevS ps.length s t := by
  have hle := lefts_le b ps
  refine rev_fold hp.hi l (st0 b ps) (st0 (1000 - b) (rev ps)) s hall ⟨rfl, rfl, ?_, ?_, Nat.le_refl _, ⟨by simp [st0], by simp [st0]⟩, fun i hi => ?_⟩ h
  · show lefts (1000 - b) (rev ps) = ps.length - lefts b ps
    exact rev_lefts hp
  · show lefts (1000 - b) (rev ps) = ps.length - lefts b ps
    exact rev_lefts hp
  · have h10 := hp.hi
    show nth (List.replicate 10 0) i = nth (List.replicate 10 0) (ps.length - 1 - i)
    unfold nth
    rw [List.getElem?_replicate, List.getElem?_replicate, if_pos (by omega), if_pos (by omega)]
/-- A full round from the other end. -/
theorem rev_full {b : Int} {ps : List (Int × Int)} (hp : Pier b ps) {l : List Nat} (h : l ∈ allR b ps) : mr ps.length l ∈ allR (1000 - b) (rev ps) ∧ ∀ i : Nat, i < ps.length → nth (stepsL (1000 - b) (rev ps) (mr ps.length l)) i = nth (stepsL b ps l) (ps.length - 1 - i) := by
  obtain ⟨h1, h2, h3⟩ := allR_iff.1 h
  obtain ⟨s, hs⟩ := Option.isSome_iff_exists.1 h2
  obtain ⟨t, ht, hr⟩ := rev_stAt hp h3 hs
  have hlo := hp.lo
  refine ⟨allR_iff.2 ⟨by rw [mr, List.length_map, rev_len]; exact h1, by rw [ht]; rfl, fun i hi => ?_⟩, fun i hi => ?_⟩
  · obtain ⟨j, hj, rfl⟩ := List.mem_map.1 hi
    rw [rev_len]
    have := h3 j hj
    omega
  · rw [stepsL_some ht, stepsL_some hs]
    exact hr.out i hi
theorem rev_lateL {b : Int} {ps : List (Int × Int)} (hp : Pier b ps) {l : List Nat} (h : l ∈ allR b ps) : lateL (rev ps) (stepsL (1000 - b) (rev ps) (mr ps.length l)) = lateL ps (stepsL b ps l) := by
  have key : ∀ c, lateL (rev ps) (stepsL (1000 - b) (rev ps) (mr ps.length l)) ≤ c ↔ lateL ps (stepsL b ps l) ≤ c := fun c => by
    rw [lateL_le (by rw [rev_len]; exact hp.lo), lateL_le hp.lo, rev_len]
    constructor
    · intro h' i hi
      have h1 := h' (ps.length - 1 - i) (by omega)
      rw [(rev_full hp h).2 _ (by omega), (rev_at ps (by omega)).2, show ps.length - 1 - (ps.length - 1 - i) = i by omega] at h1
      exact h1
    · intro h' i hi
      rw [(rev_full hp h).2 _ hi, (rev_at ps hi).2]
      exact h' _ (by omega)
  exact Int.le_antisymm ((key _).2 (Int.le_refl _)) ((key _).1 (Int.le_refl _))
theorem rev_inTime {b : Int} {ps : List (Int × Int)} (hp : Pier b ps) {l : List Nat} (h : l ∈ allR b ps) : inTimeB (1000 - b) (rev ps) (mr ps.length l) = inTimeB b ps l := by
  unfold inTimeB
  rw [decide_eq_true (full_steps hp h), decide_eq_true (full_steps (rev_pier hp) (rev_full hp h).1), rev_lateL hp h]
theorem rev_gen (n : Nat) : ∀ (f lo hi : Nat), lo ≤ hi → hi ≤ n → (genR n f (n - hi) (n - lo)).Perm ((genR n f lo hi).map (mr n))
  | 0, lo, hi, _, _ => List.Perm.refl _
  | f + 1, lo, hi, h1, h2 => by
    have e1 : (if 0 < n - hi then (genR n f (n - hi - 1) (n - lo)).map ((n - hi - 1) :: ·) else []).Perm ((if hi < n then (genR n f lo (hi + 1)).map (hi :: ·) else []).map (mr n)) := by
      by_cases h : hi < n
      · rw [if_pos (by omega), if_pos h, List.map_map]
        have ih := (rev_gen n f lo (hi + 1) (by omega) h).map ((n - hi - 1) :: ·)
        rw [show n - (hi + 1) = n - hi - 1 by omega, List.map_map] at ih
        refine ih.trans (List.Perm.of_eq (List.map_congr_left fun l _ => ?_))
        simp only [Function.comp, mr, List.map_cons]
        rw [show n - 1 - hi = n - hi - 1 by omega]
      · rw [if_neg (by omega), if_neg h]
        exact List.Perm.refl _
    have e2 : (if n - lo < n then (genR n f (n - hi) (n - lo + 1)).map ((n - lo) :: ·) else []).Perm ((if 0 < lo then (genR n f (lo - 1) hi).map ((lo - 1) :: ·) else []).map (mr n)) := by
      by_cases h : 0 < lo
      · rw [if_pos (by omega), if_pos h, List.map_map]
        have ih := (rev_gen n f (lo - 1) hi (by omega) h2).map ((n - lo) :: ·)
        rw [show n - (lo - 1) = n - lo + 1 by omega, List.map_map] at ih
        refine ih.trans (List.Perm.of_eq (List.map_congr_left fun l _ => ?_))
        simp only [Function.comp, mr, List.map_cons]
        rw [show n - 1 - (lo - 1) = n - lo by omega]
      · rw [if_neg (by omega), if_neg h]
        exact List.Perm.refl _
    rw [genR, genR, List.map_append]
    exact (e1.append e2).trans List.perm_append_comm
theorem rev_allR {b : Int} {ps : List (Int × Int)} (hp : Pier b ps) : (allR (1000 - b) (rev ps)).Perm ((allR b ps).map (mr ps.length)) := by
  have h := rev_gen ps.length ps.length (lefts b ps) (lefts b ps) (Nat.le_refl _) (lefts_le b ps)
  unfold allR
  rw [rev_len, rev_lefts hp]
  exact h
theorem rev_good {b : Int} {ps : List (Int × Int)} (hp : Pier b ps) : (goodR (1000 - b) (rev ps)).Perm ((goodR b ps).map (mr ps.length)) := by
  have h := (rev_allR hp).filter (inTimeB (1000 - b) (rev ps))
  unfold goodR
  refine h.trans (List.Perm.of_eq ?_)
  rw [List.filter_map]
  congr 1
  exact List.filter_congr fun l hl => rev_inTime hp hl
theorem rev_count {b : Int} {ps : List (Int × Int)} (hp : Pier b ps) : countS (1000 - b) (rev ps) = countS b ps := by
  unfold countS
  rw [if_pos (checkPier_ok.2 hp), if_pos (checkPier_ok.2 (rev_pier hp)), (rev_good hp).length_eq, List.length_map]
theorem minOf_perm {xs ys : List Int} (h : xs.Perm ys) : minOf xs = minOf ys := by
  by_cases h0 : xs = []
  · subst h0
    rw [List.nil_perm.1 h]
  · have h1 : ys ≠ [] := fun e => h0 (by subst e; exact List.perm_nil.1 h)
    exact Int.le_antisymm (minOf_le _ (h.mem_iff.2 (minOf_mem h1))) (minOf_le _ (h.mem_iff.1 (minOf_mem h0)))
theorem maxOf_perm {xs ys : List Int} (h : xs.Perm ys) : maxOf xs = maxOf ys := by
  by_cases h0 : xs = []
  · subst h0
    rw [List.nil_perm.1 h]
  · have h1 : ys ≠ [] := fun e => h0 (by subst e; exact List.perm_nil.1 h)
    exact Int.le_antisymm (maxOf_ge _ (h.mem_iff.1 (maxOf_mem h0))) (maxOf_ge _ (h.mem_iff.2 (maxOf_mem h1)))
theorem rev_delay {b : Int} {ps : List (Int × Int)} (hp : Pier b ps) : delayS (1000 - b) (rev ps) = delayS b ps := by
  unfold delayS
  rw [if_pos (checkPier_ok.2 hp), if_pos (checkPier_ok.2 (rev_pier hp))]
  have h := (rev_allR hp).map fun l => lateL (rev ps) (stepsL (1000 - b) (rev ps) l)
  rw [List.map_map] at h
  rw [minOf_perm h]
  congr 2
  exact List.map_congr_left fun l hl => rev_lateL hp hl
theorem rev_nil {b : Int} {ps : List (Int × Int)} (hp : Pier b ps) : goodR (1000 - b) (rev ps) = [] ↔ goodR b ps = [] := by
  have h := (rev_good hp).length_eq
  rw [List.length_map] at h
  rw [← List.length_eq_zero_iff, ← List.length_eq_zero_iff, h]
theorem rev_within {b : Int} {ps : List (Int × Int)} (hp : Pier b ps) {i : Nat} (hi : i < ps.length) : withinS (1000 - b) (rev ps) ((ps.length - 1 - i : Nat) : Int) = withinS b ps (i : Int) := by
  unfold withinS
  rw [if_pos (checkPier_ok.2 hp), if_pos (checkPier_ok.2 (rev_pier hp)), rev_len, if_neg (show ¬ (((ps.length - 1 - i : Nat) : Int) < 0 ∨ (ps.length : Int) ≤ ((ps.length - 1 - i : Nat) : Int)) by omega), if_neg (show ¬ ((i : Int) < 0 ∨ (ps.length : Int) ≤ (i : Int)) by omega)]
  by_cases h : goodR b ps = []
  · rw [if_pos h, if_pos ((rev_nil hp).2 h)]
  · rw [if_neg h, if_neg (fun h' => h ((rev_nil hp).1 h'))]
    have hP : (stepsAt (1000 - b) (rev ps) (ps.length - 1 - i)).Perm (stepsAt b ps i) := by
      unfold stepsAt
      have h1 := (rev_good hp).map fun l => nth (stepsL (1000 - b) (rev ps) l) (ps.length - 1 - i)
      rw [List.map_map] at h1
      refine h1.trans (List.Perm.of_eq (List.map_congr_left fun l hl => ?_))
      show nth (stepsL (1000 - b) (rev ps) (mr ps.length l)) (ps.length - 1 - i) = nth (stepsL b ps l) i
      rw [(rev_full hp (mem_goodR.1 hl).1).2 _ (by omega), show ps.length - 1 - (ps.length - 1 - i) = i by omega]
    rw [Int.toNat_natCast, Int.toNat_natCast, minOf_perm hP, maxOf_perm hP]
theorem rev_lenR {b : Int} {ps : List (Int × Int)} (hp : Pier b ps) {l : List Nat} (h : l ∈ allR b ps) : lenR (1000 - b) (rev ps) (mr ps.length l) = lenR b ps l := by
  obtain ⟨h1, h2⟩ := lastOf_lt hp h
  have e : lastOf (mr ps.length l) = ps.length - 1 - lastOf l := by
    unfold lastOf mr
    rw [List.getLast?_map, List.getLast?_eq_some_getLast h2]
    rfl
  unfold lenR
  rw [e, (rev_full hp h).2 _ (by omega), show ps.length - 1 - (ps.length - 1 - lastOf l) = lastOf l by omega]
theorem rev_shortest {b : Int} {ps : List (Int × Int)} (hp : Pier b ps) : (shortestS (1000 - b) (rev ps)).2 = (shortestS b ps).2 := by
  unfold shortestS
  rw [if_pos (checkPier_ok.2 hp), if_pos (checkPier_ok.2 (rev_pier hp))]
  by_cases h : goodR b ps = []
  · rw [if_pos h, if_pos ((rev_nil hp).2 h)]
  · have h' : goodR (1000 - b) (rev ps) ≠ [] := fun e => h ((rev_nil hp).1 e)
    rw [if_neg h, if_neg h']
    show (lenR (1000 - b) (rev ps) (roundOf (1000 - b) (rev ps)), (0 : Int)) = (lenR b ps (roundOf b ps), 0)
    have m1 := firstBest_mem (f := lenR b ps) h
    have m2 := firstBest_mem (f := lenR (1000 - b) (rev ps)) h'
    have hg := rev_good hp
    congr 1
    refine Int.le_antisymm ?_ ?_
    · have h1 := m2.2 (mr ps.length (roundOf b ps)) (hg.mem_iff.2 (List.mem_map.2 ⟨_, m1.1, rfl⟩))
      have h2 : lenR (1000 - b) (rev ps) (mr ps.length (roundOf b ps)) = lenR b ps (roundOf b ps) := rev_lenR hp (mem_goodR.1 m1.1).1
      rw [h2] at h1
      exact h1
    · obtain ⟨l, hl, he⟩ := List.mem_map.1 (hg.mem_iff.1 m2.1)
      have h1 := m1.2 l hl
      have h2 := rev_lenR hp (mem_goodR.1 hl).1
      rw [he] at h2
      have h3 : lenR b ps (roundOf b ps) ≤ lenR b ps l := h1
      have h4 : lenR (1000 - b) (rev ps) (roundOf (1000 - b) (rev ps)) = lenR b ps l := h2
      omega
end Go.Proofs.Ytaekjnjignlmoaa

namespace Go.Proofs.Ytaekjnjignlmoaa

theorem stF_inv {ps : List (Int × Int)} {s t : St} {i : Nat} (h : stF ps (some s) i = some t) : (s.lo = i + 1 ∧ t = move ps s i i s.hi) ∨ (s.lo ≠ i + 1 ∧ s.hi = i ∧ t = move ps s i s.lo (i + 1)) := by
  simp only [stF, Option.bind_some] at h
  split at h
  · rename_i c
    cases h
    exact .inl ⟨c, rfl⟩
  · split at h
    · rename_i c1 c
      cases h
      exact .inr ⟨c1, c, rfl⟩
    · cases h
theorem st_ind {b : Int} {ps : List (Int × Int)} {P : List Nat → St → Prop} (h0 : P [] (st0 b ps)) (hs : ∀ l i s t, stAt b ps l = some s → stF ps (some s) i = some t → P l s → P (l ++ [i]) t) : ∀ (l : List Nat) (s : St), stAt b ps l = some s → P l s := by
  have key : ∀ (m : Nat) (l : List Nat), l.length = m → ∀ s, stAt b ps l = some s → P l s := by
    intro m
    induction m with
    | zero =>
      intro l hl s h
      obtain rfl := List.eq_nil_of_length_eq_zero hl
      cases h
      exact h0
    | succ m ih =>
      intro l hl t h
      have hne : l ≠ [] := by intro e; rw [e] at hl; cases hl
      have hsp := List.dropLast_concat_getLast hne
      rw [← hsp] at h ⊢
      obtain ⟨s, h1, h2⟩ := st_split h
      exact hs _ _ _ _ h1 h2 (ih _ (by rw [List.length_dropLast, hl]; rfl) s h1)
  exact fun l => key l.length l rfl
theorem st_nodup {b : Int} {ps : List (Int × Int)} (l : List Nat) (s : St) (h : stAt b ps l = some s) : l.Nodup ∧ (∀ i ∈ l, s.lo ≤ i ∧ i < s.hi) ∧ s.lo ≤ s.hi := by
  refine st_ind (b := b) (ps := ps) (P := fun l s => l.Nodup ∧ (∀ i ∈ l, s.lo ≤ i ∧ i < s.hi) ∧ s.lo ≤ s.hi) ⟨List.nodup_nil, by simp, Nat.le_refl _⟩ ?_ l s h
  rintro l i s t _ h2 ⟨a1, a2, a3⟩
  rcases stF_inv h2 with ⟨c, rfl⟩ | ⟨c1, c, rfl⟩
  · refine ⟨?_, ?_, ?_⟩
    · rw [List.nodup_append]
      refine ⟨a1, by simp, fun x hx y hy => ?_⟩
      rw [List.mem_singleton.1 hy]
      have := a2 x hx
      omega
    · intro j hj
      show i ≤ j ∧ j < s.hi
      rcases List.mem_append.1 hj with hj | hj
      · have := a2 j hj
        omega
      · rw [List.mem_singleton.1 hj]
        omega
    · show i ≤ s.hi
      omega
  · refine ⟨?_, ?_, ?_⟩
    · rw [List.nodup_append]
      refine ⟨a1, by simp, fun x hx y hy => ?_⟩
      rw [List.mem_singleton.1 hy]
      have := a2 x hx
      omega
    · intro j hj
      show s.lo ≤ j ∧ j < i + 1
      rcases List.mem_append.1 hj with hj | hj
      · have := a2 j hj
        omega
      · rw [List.mem_singleton.1 hj]
        omega
    · show s.lo ≤ i + 1
      omega
theorem natsL_map (l : List Nat) : natsL (l.map Int.ofNat) = l := by
  unfold natsL
  rw [List.map_map]
  conv => rhs; rw [← List.map_id l]
  exact List.map_congr_left fun x _ => rfl
theorem nodup_bad {l : List Nat} {n : Nat} (hl : l.length = n) (hn : l.Nodup) (hall : ∀ i ∈ l, i < n) : (List.range n).any (badAt (l.map Int.ofNat) n) = false := by
  rw [List.any_eq_false]
  intro i hi
  have hil := List.mem_range.1 hi
  have hi2 : i < l.length := by omega
  have e : nth (l.map Int.ofNat) i = (l[i] : Int) := by
    unfold nth
    rw [List.getElem?_map, List.getElem?_eq_getElem hi2]
    rfl
  unfold badAt
  rw [Bool.not_eq_true, Bool.or_eq_false_iff, outB_false, decide_eq_false_iff_not, e]
  have h1 := hall _ (List.getElem_mem hi2)
  refine ⟨by omega, fun hm => ?_⟩
  rw [← List.map_take] at hm
  obtain ⟨y, hy, he⟩ := List.mem_map.1 hm
  obtain ⟨j, hj, hje⟩ := List.getElem_of_mem hy
  rw [List.length_take] at hj
  rw [List.getElem_take] at hje
  have he' : y = l[i] := by
    have : (y : Int) = (l[i] : Int) := he
    omega
  have h2 := List.pairwise_iff_getElem.1 hn j i (by omega) hi2 (by omega)
  exact h2 (hje.trans he')
/-- A round of all stops: it is in time, or late. -/
theorem ckRound_all {b : Int} {ps : List (Int × Int)} (hp : Pier b ps) {l : List Nat} (h : l ∈ allR b ps) : checkRoundS b ps (l.map Int.ofNat) = if inTimeB b ps l = true then ((stepsL b ps l).take ps.length, 0) else ([], 12) := by
  obtain ⟨h1, h2, h3⟩ := allR_iff.1 h
  obtain ⟨s, hs⟩ := Option.isSome_iff_exists.1 h2
  unfold checkRoundS
  rw [if_pos (checkPier_ok.2 hp), List.length_map, if_pos h1, nodup_bad h1 (st_nodup l s hs).1 h3, natsL_map]
  have h4 := full_steps hp h
  rw [if_neg (by simp), if_neg h4]
  unfold inTimeB
  rw [decide_eq_true h4, Bool.true_and]
  by_cases h5 : 0 < lateL ps (stepsL b ps l)
  · rw [if_pos h5, if_neg (by simp; omega)]
  · rw [if_neg h5, if_pos (by simp; omega)]
theorem ckRound_good {b : Int} {ps : List (Int × Int)} (hp : Pier b ps) {l : List Nat} (h : l ∈ goodR b ps) : checkRoundS b ps (l.map Int.ofNat) = ((stepsL b ps l).take ps.length, 0) := by
  obtain ⟨h1, h2⟩ := mem_goodR.1 h
  rw [ckRound_all hp h1, if_pos h2]

/-! ### A round by numbers -/
def walkTo (n q : Nat) (o : Nat → Bool) : Nat → Nat × Nat × List Nat
  | 0 => (q, q, [])
  | k + 1 => if (decide ((walkTo n q o k).2.1 = n) || o k) && decide (0 < (walkTo n q o k).1) then ((walkTo n q o k).1 - 1, (walkTo n q o k).2.1, (walkTo n q o k).2.2 ++ [(walkTo n q o k).1 - 1])
    else ((walkTo n q o k).1, (walkTo n q o k).2.1 + 1, (walkTo n q o k).2.2 ++ [(walkTo n q o k).2.1])
theorem walk_st {b : Int} {ps : List (Int × Int)} (o : Nat → Bool) : ∀ k : Nat, k ≤ ps.length → ∃ s, stAt b ps (walkTo ps.length (lefts b ps) o k).2.2 = some s ∧ s.lo = (walkTo ps.length (lefts b ps) o k).1 ∧ s.hi = (walkTo ps.length (lefts b ps) o k).2.1 ∧
    (walkTo ps.length (lefts b ps) o k).1 ≤ lefts b ps ∧ lefts b ps ≤ (walkTo ps.length (lefts b ps) o k).2.1 ∧ (walkTo ps.length (lefts b ps) o k).2.1 ≤ ps.length ∧ (walkTo ps.length (lefts b ps) o k).1 + k = (walkTo ps.length (lefts b ps) o k).2.1 ∧ (walkTo ps.length (lefts b ps) o k).2.2.length = k ∧ ∀ i ∈ (walkTo ps.length (lefts b ps) o k).2.2, i < ps.length
  | 0, _ => ⟨st0 b ps, rfl, rfl, rfl, Nat.le_refl _, Nat.le_refl _, lefts_le b ps, rfl, rfl, by simp [walkTo]⟩
  | k + 1, hk => by
    obtain ⟨s, h1, h2, h3, h4, h5, h6, h7, h8, h9⟩ := walk_st (b := b) (ps := ps) o k (by omega)
    rw [walkTo]
    generalize walkTo ps.length (lefts b ps) o k = W at *
    obtain ⟨lo, hi, out⟩ := W
    simp only at h1 h2 h3 h4 h5 h6 h7 h8 h9 ⊢
    by_cases hc : ((decide (hi = ps.length) || o k) && decide (0 < lo)) = true
    · rw [if_pos hc]
      simp only [Bool.and_eq_true, decide_eq_true_eq] at hc
      refine ⟨move ps s (lo - 1) (lo - 1) s.hi, ?_, rfl, h3, by show lo - 1 ≤ _; omega, h5, h6, by show lo - 1 + (k + 1) = hi; omega, by simp [h8], fun i hi' => ?_⟩
      · rw [stAt_snoc, h1]
        simp only [stF, Option.bind_some]
        rw [if_pos (by omega)]
      · rcases List.mem_append.1 hi' with hi' | hi'
        · exact h9 i hi'
        · rw [List.mem_singleton.1 hi']
          omega
    · rw [if_neg hc]
      have hlt : hi < ps.length := by
        rcases Nat.lt_or_ge hi ps.length with h | h
        · exact h
        · exfalso
          have e : hi = ps.length := by omega
          refine hc ?_
          rw [decide_eq_true e, Bool.true_or, Bool.true_and, decide_eq_true_eq]
          omega
      refine ⟨move ps s hi s.lo (hi + 1), ?_, h2, rfl, h4, by show _ ≤ hi + 1; omega, by show hi + 1 ≤ _; omega, by show lo + (k + 1) = hi + 1; omega, by simp [h8], fun i hi' => ?_⟩
      · rw [stAt_snoc, h1]
        simp only [stF, Option.bind_some]
        rw [if_neg (by omega), if_pos (by omega)]
      · rcases List.mem_append.1 hi' with hi' | hi'
        · exact h9 i hi'
        · rw [List.mem_singleton.1 hi']
          omega
/-- What the numbers tell: the next stop is on the left. -/
def oddAt (bs : List Int) (k : Nat) : Bool := decide (0 < bs.length) && decide (nth bs (k % bs.length) % 2 = 1)
def walkedL (b : Int) (ps : List (Int × Int)) (bs : List Int) : List Nat := (walkTo ps.length (lefts b ps) (oddAt bs) ps.length).2.2
theorem walked_all (b : Int) (ps : List (Int × Int)) (bs : List Int) : walkedL b ps bs ∈ allR b ps := by
  obtain ⟨s, h1, _, _, _, _, _, _, h8, h9⟩ := walk_st (b := b) (ps := ps) (oddAt bs) ps.length (Nat.le_refl _)
  exact allR_iff.2 ⟨h8, by unfold walkedL; rw [h1]; rfl, h9⟩
end Go.Proofs.Ytaekjnjignlmoaa

namespace Go.Proofs.Ytaekjnjignlmoaa

/-! ### Each To as it is, or greater -/
/-- The same places; each To at least as great. -/
structure Wider (ps qs : List (Int × Int)) : Prop where
  len : qs.length = ps.length
  plc : ∀ i : Nat, i < ps.length → plc qs i = plc ps i
  too : ∀ i : Nat, i < ps.length → too ps i ≤ too qs i
section
variable {b : Int} {ps qs : List (Int × Int)}
theorem same_lefts (h1 : qs.length = ps.length) (h2 : ∀ i : Nat, i < ps.length → plc qs i = plc ps i) : lefts b qs = lefts b ps := by
  have key : ∀ k : Nat, k ≤ ps.length → leftsTo b qs k = leftsTo b ps k := by
    intro k
    induction k with
    | zero => intro _; rfl
    | succ k ih =>
      intro hk
      rw [leftsTo_succ (List.getElem?_eq_getElem (by omega : k < qs.length)), leftsTo_succ (List.getElem?_eq_getElem (by omega : k < ps.length)), ih (by omega)]
      have e1 := (plc_some (List.getElem?_eq_getElem (by omega : k < qs.length))).1
      have e2 := (plc_some (List.getElem?_eq_getElem (by omega : k < ps.length))).1
      rw [← e1, ← e2, h2 k (by omega)]
  have h := key ps.length (Nat.le_refl _)
  rwa [leftsTo_all (Nat.le_refl _), leftsTo_all (by omega)] at h
theorem same_fold (h2 : ∀ i : Nat, i < ps.length → plc qs i = plc ps i) : ∀ (l : List Nat) (o : Option St), (∀ i ∈ l, i < ps.length) → l.foldl (stF qs) o = l.foldl (stF ps) o
  | [], _, _ => rfl
  | i :: l, o, h => by
    simp only [List.foldl_cons]
    have e : stF qs o i = stF ps o i := by
      cases o with
      | none => rfl
      | some s => simp only [stF, Option.bind_some, move, h2 i (h i (by simp))]
    rw [e]
    exact same_fold h2 l _ (fun j hj => h j (by simp [hj]))
theorem same_stAt (h1 : qs.length = ps.length) (h2 : ∀ i : Nat, i < ps.length → plc qs i = plc ps i) {l : List Nat} (h : ∀ i ∈ l, i < ps.length) : stAt b qs l = stAt b ps l := by
  unfold stAt
  have e : st0 b qs = st0 b ps := by simp only [st0, same_lefts h1 h2]
  rw [e]
  exact same_fold h2 l _ h
theorem same_steps (h1 : qs.length = ps.length) (h2 : ∀ i : Nat, i < ps.length → plc qs i = plc ps i) {l : List Nat} (h : ∀ i ∈ l, i < ps.length) : stepsL b qs l = stepsL b ps l := by
  unfold stepsL
  rw [same_stAt h1 h2 h]
theorem same_allR (h1 : qs.length = ps.length) (h2 : ∀ i : Nat, i < ps.length → plc qs i = plc ps i) : allR b qs = allR b ps := by
  unfold allR
  rw [h1, same_lefts h1 h2]
theorem same_pier (hp : Pier b ps) (h1 : qs.length = ps.length) (h2 : ∀ i : Nat, i < ps.length → plc qs i = plc ps i) (h3 : ∀ i : Nat, i < ps.length → 0 ≤ too qs i ∧ too qs i ≤ 9000) : Pier b qs := by
  refine ⟨by rw [h1]; exact hp.lo, by rw [h1]; exact hp.hi, hp.begin_, fun x hx => ?_, fun i hi => ?_, fun i hi => ?_⟩
  · obtain ⟨i, hi, rfl⟩ := List.getElem_of_mem hx
    have h4 := h3 i (by omega)
    have h5 := h2 i (by omega)
    have h6 := hp.at_ i
    have h7 := plc_some (List.getElem?_eq_getElem hi)
    rw [h7.2] at h4
    rw [h7.1] at h5
    omega
  · rw [h2 i (by omega)]
    exact hp.off i (by omega)
  · rw [h2 i (by omega), h2 (i + 1) (by omega)]
    exact hp.asc i (by omega)
theorem filter_len_le {α : Type} {p q : α → Bool} {l : List α} (h : ∀ x ∈ l, p x = true → q x = true) : (l.filter p).length ≤ (l.filter q).length := by
  rw [← List.countP_eq_length_filter, ← List.countP_eq_length_filter]
  exact List.countP_mono_left h
theorem wider_count (hp : Pier b ps) (hq : Pier b qs) (h : Wider ps qs) : (goodR b ps).length ≤ (goodR b qs).length := by
  unfold goodR
  rw [same_allR h.len h.plc]
  refine filter_len_le fun l hl hin => ?_
  rw [inTime_iff hq (by rw [same_allR h.len h.plc]; exact hl), h.len, same_steps h.len h.plc (allR_in hl)]
  rw [inTime_iff hp hl] at hin
  intro i hi
  have h1 := hin i hi
  have h2 := h.too i hi
  omega
/-- Each To is greater by k. -/
theorem later_late (hp : Pier b ps) (k : Int) (h1 : qs.length = ps.length) (h2 : ∀ i : Nat, i < ps.length → plc qs i = plc ps i) (h3 : ∀ i : Nat, i < ps.length → too qs i = too ps i + k) {l : List Nat} (hl : l ∈ allR b ps) : lateL qs (stepsL b qs l) = lateL ps (stepsL b ps l) - k := by
  have key : ∀ c, lateL qs (stepsL b qs l) ≤ c ↔ lateL ps (stepsL b ps l) - k ≤ c := fun c => by
    have e : lateL ps (stepsL b ps l) - k ≤ c ↔ lateL ps (stepsL b ps l) ≤ c + k := by omega
    rw [lateL_le (by rw [h1]; exact hp.lo), e, lateL_le hp.lo, h1, same_steps h1 h2 (allR_in hl)]
    constructor
    · intro h i hi
      have := h i hi
      rw [h3 i hi] at this
      omega
    · intro h i hi
      have := h i hi
      rw [h3 i hi]
      omega
  exact Int.le_antisymm ((key _).2 (Int.le_refl _)) ((key _).1 (Int.le_refl _))
theorem minOf_sub (k : Int) : ∀ xs : List Int, xs ≠ [] → minOf (xs.map (· - k)) = minOf xs - k := fun xs h => by
  have h' : xs.map (· - k) ≠ [] := by rw [Ne, List.map_eq_nil_iff]; exact h
  refine Int.le_antisymm ?_ ?_
  · exact minOf_le _ (List.mem_map.2 ⟨_, minOf_mem h, rfl⟩)
  · obtain ⟨y, hy, he⟩ := List.mem_map.1 (minOf_mem h')
    have h1 := minOf_le y hy
    omega
theorem later_delay (hp : Pier b ps) (hq : Pier b qs) (k : Int) (h1 : qs.length = ps.length) (h2 : ∀ i : Nat, i < ps.length → plc qs i = plc ps i) (h3 : ∀ i : Nat, i < ps.length → too qs i = too ps i + k) : delayS b qs = ((delayS b ps).1 - k, 0) := by
  unfold delayS
  rw [if_pos (checkPier_ok.2 hp), if_pos (checkPier_ok.2 hq), same_allR h1 h2]
  have hne : ((allR b ps).map fun l => lateL ps (stepsL b ps l)) ≠ [] := by
    intro e
    have h := allR_some (b := b) (ps := ps)
    rw [List.map_eq_nil_iff] at e
    rw [e] at h
    cases h
  congr 1
  show minOf _ = minOf _ - k
  rw [← minOf_sub k _ hne, List.map_map]
  congr 1
  exact List.map_congr_left fun l hl => later_late hp k h1 h2 h3 hl
theorem delay_iff (hp : Pier b ps) : (delayS b ps).1 ≤ 0 ↔ 0 < (countS b ps).1 := by
  unfold delayS countS
  rw [if_pos (checkPier_ok.2 hp), if_pos (checkPier_ok.2 hp)]
  show minOf _ ≤ 0 ↔ (0 : Int) < ((goodR b ps).length : Nat)
  rw [delay_good hp, ← List.length_pos_iff]
  omega
theorem delay_le (hp : Pier b ps) {l : List Nat} (hl : l ∈ allR b ps) : (delayS b ps).1 ≤ lateL ps (stepsL b ps l) := by
  unfold delayS
  rw [if_pos (checkPier_ok.2 hp)]
  exact minOf_le _ (List.mem_map.2 ⟨l, hl, rfl⟩)
end
/-! ### One stop less -/
theorem far_tri (x y z : Int) : far x z ≤ far x y + far y z := by
  unfold far
  split <;> split <;> split <;> omega
theorem far_comm (x y : Int) : far x y = far y x := by
  unfold far
  split <;> split <;> omega
theorem far_self (x : Int) : far x x = 0 := by unfold far; simp
/-- The stop g is left out. -/
def cutS (g : Nat) (ps : List (Int × Int)) : List (Int × Int) := ps.take g ++ ps.drop (g + 1)
/-- What index a stop has then. -/
def dn (g i : Nat) : Nat := if g < i then i - 1 else i
def lessL (g : Nat) (l : List Nat) : List Nat := (l.filter fun i => decide (i ≠ g)).map (dn g)
theorem lessL_snoc (g : Nat) (l : List Nat) (i : Nat) : lessL g (l ++ [i]) = if i = g then lessL g l else lessL g l ++ [dn g i] := by
  unfold lessL
  rw [List.filter_append, List.map_append]
  by_cases h : i = g
  · rw [if_pos h]
    simp [h]
  · rw [if_neg h]
    simp [h]
section
variable {b : Int} {ps : List (Int × Int)} {g : Nat}
theorem cut_len (hg : g < ps.length) : (cutS g ps).length = ps.length - 1 := by
  unfold cutS
  rw [List.length_append, List.length_take, List.length_drop]
  omega
theorem cut_get (hg : g < ps.length) {i : Nat} (hi : i ≠ g) : (cutS g ps)[dn g i]? = ps[i]? := by
  unfold cutS dn
  by_cases h : g < i
  · rw [if_pos h, List.getElem?_append_right (by rw [List.length_take]; omega), List.length_take, List.getElem?_drop]
    congr 1
    omega
  · rw [if_neg h, List.getElem?_append_left (by rw [List.length_take]; omega), List.getElem?_take, if_pos (by omega)]
theorem cut_at (hg : g < ps.length) {i : Nat} (hi : i ≠ g) : plc (cutS g ps) (dn g i) = plc ps i ∧ too (cutS g ps) (dn g i) = too ps i := by
  unfold plc too
  rw [cut_get hg hi]
  exact ⟨rfl, rfl⟩
theorem dn_surj {n : Nat} (hg : g < n) {j : Nat} (hj : j < n - 1) : ∃ i : Nat, i < n ∧ i ≠ g ∧ dn g i = j := by
  unfold dn
  by_cases h : j < g
  · exact ⟨j, by omega, by omega, by rw [if_neg (by omega)]⟩
  · exact ⟨j + 1, by omega, by omega, by rw [if_pos (by omega)]; omega⟩
theorem dn_lt {n : Nat} (hg : g < n) {i : Nat} (hi : i < n) (hne : i ≠ g) : dn g i < n - 1 := by
  unfold dn
  split <;> omega
theorem cut_pier (hp : Pier b ps) (hg : g < ps.length) (h2 : 2 ≤ ps.length) : Pier b (cutS g ps) := by
  have h10 := hp.hi
  refine ⟨by rw [cut_len hg]; omega, by rw [cut_len hg]; omega, hp.begin_, fun x hx => ?_, fun i hi => ?_, fun i hi => ?_⟩
  · unfold cutS at hx
    rcases List.mem_append.1 hx with h | h
    · exact hp.all x (List.mem_of_mem_take h)
    · exact hp.all x (List.mem_of_mem_drop h)
  · rw [cut_len hg] at hi
    obtain ⟨j, h1, h2, rfl⟩ := dn_surj hg hi
    rw [(cut_at hg h2).1]
    exact hp.off j h1
  · rw [cut_len hg] at hi
    obtain ⟨j, h1, h2, e⟩ := dn_surj hg (by omega : i < ps.length - 1)
    obtain ⟨k, h3, h4, e'⟩ := dn_surj hg hi
    rw [← e', ← e, (cut_at hg h2).1, (cut_at hg h4).1]
    refine hp.lt ?_ h3
    unfold dn at e e'
    split at e <;> split at e' <;> omega
theorem cut_lefts (hp : Pier b ps) (hg : g < ps.length) : lefts b (cutS g ps) = lefts b ps - if g < lefts b ps then 1 else 0 := by
  have h1 : lefts b ps = lefts b (cutS g ps) + if plc ps g < b then 1 else 0 := by
    have e : ps = ps.take g ++ ps[g] :: ps.drop (g + 1) := by
      rw [List.getElem_cons_drop, List.take_append_drop]
    have h3 := (plc_some (List.getElem?_eq_getElem hg)).1
    unfold lefts cutS
    conv => lhs; rw [e]
    rw [List.countP_append, List.countP_append, List.countP_cons, h3]
    simp only [decide_eq_true_eq]
    omega
  have h2 := lefts_iff hp hg
  by_cases h : g < lefts b ps
  · rw [if_pos h]
    rw [if_pos (h2.2 h)] at h1
    omega
  · rw [if_neg h]
    rw [if_neg (fun h' => h (h2.1 h'))] at h1
    omega
/-- The walk along the pier, and the one without the stop g, which is an end. -/
structure CutR (ps : List (Int × Int)) (g : Nat) (s t : St) : Prop where
  n : t.n + far t.at_ s.at_ ≤ s.n
  lo : t.lo = if g = 0 then s.lo - 1 else min s.lo g
  hi : t.hi = if g = 0 then s.hi - 1 else min s.hi g
  len : s.out.length = 10 ∧ t.out.length = 10
  out : ∀ i : Nat, i < ps.length → i ≠ g → nth t.out (dn g i) ≤ nth s.out i
  le : s.lo ≤ s.hi
  hin : s.hi ≤ ps.length
theorem cut_st (hp : Pier b ps) (hg : g < ps.length) (he : g = 0 ∨ g = ps.length - 1) (h2 : 2 ≤ ps.length) (l : List Nat) (s : St) (h : stAt b ps l = some s) : (∀ i ∈ l, i < ps.length) → ∃ t, stAt b (cutS g ps) (lessL g l) = some t ∧ CutR ps g s t := by
  have h10 := hp.hi
  have hle := lefts_le b ps
  refine st_ind (b := b) (ps := ps) (P := fun l s => (∀ i ∈ l, i < ps.length) → ∃ t, stAt b (cutS g ps) (lessL g l) = some t ∧ CutR ps g s t) (fun _ => ?_) ?_ l s h
  · refine ⟨st0 b (cutS g ps), rfl, ⟨?_, ?_, ?_, ⟨by simp [st0], by simp [st0]⟩, fun i hi hne => ?_, Nat.le_refl _, hle⟩⟩
    · show (0 : Int) + far b b ≤ 0
      rw [far_self]
      omega
    · show lefts b (cutS g ps) = if g = 0 then lefts b ps - 1 else min (lefts b ps) g
      rw [cut_lefts hp hg]
      split <;> split <;> omega
    · show lefts b (cutS g ps) = if g = 0 then lefts b ps - 1 else min (lefts b ps) g
      rw [cut_lefts hp hg]
      split <;> split <;> omega
    · have h3 := dn_lt hg hi hne
      show nth (List.replicate 10 0) (dn g i) ≤ nth (List.replicate 10 0) i
      unfold nth
      rw [List.getElem?_replicate, List.getElem?_replicate, if_pos (by omega), if_pos (by omega)]
      exact Int.le_refl _
  · intro l i s s' hs hst ih hall
    have hi : i < ps.length := hall i (by simp)
    obtain ⟨t, ht, hr⟩ := ih fun j hj => hall j (by simp [hj])
    have c1 := hr.lo
    have c2 := hr.hi
    have c3 := hr.le
    have c4 := hr.hin
    rw [lessL_snoc]
    by_cases hig : i = g
    · rw [if_pos hig]
      subst hig
      refine ⟨t, ht, ?_⟩
      have tri := far_tri t.at_ s.at_ (plc ps i)
      have hrn := hr.n
      rcases stF_inv hst with ⟨c, rfl⟩ | ⟨c', c, rfl⟩
      · refine ⟨?_, ?_, ?_, ⟨?_, hr.len.2⟩, fun j hj hne => ?_, ?_, ?_⟩
        · show t.n + far t.at_ (plc ps i) ≤ s.n + far s.at_ (plc ps i)
          omega
        · show t.lo = if i = 0 then i - 1 else min i i
          rw [c1]
          split <;> omega
        · show t.hi = if i = 0 then s.hi - 1 else min s.hi i
          exact c2
        · show (s.out.set _ _).length = 10
          rw [List.length_set]; exact hr.len.1
        · show nth t.out (dn i j) ≤ nth (s.out.set i _) j
          rw [nth_setL (by rw [hr.len.1]; omega), if_neg (fun e => hne e.symm)]
          exact hr.out j hj hne
        · show i ≤ s.hi
          omega
        · exact c4
      · refine ⟨?_, ?_, ?_, ⟨?_, hr.len.2⟩, fun j hj hne => ?_, ?_, ?_⟩
        · show t.n + far t.at_ (plc ps i) ≤ s.n + far s.at_ (plc ps i)
          omega
        · show t.lo = if i = 0 then s.lo - 1 else min s.lo i
          exact c1
        · show t.hi = if i = 0 then (i + 1) - 1 else min (i + 1) i
          rw [c2]
          split <;> omega
        · show (s.out.set _ _).length = 10
          rw [List.length_set]; exact hr.len.1
        · show nth t.out (dn i j) ≤ nth (s.out.set i _) j
          rw [nth_setL (by rw [hr.len.1]; omega), if_neg (fun e => hne e.symm)]
          exact hr.out j hj hne
        · show s.lo ≤ i + 1
          omega
        · show i + 1 ≤ ps.length
          omega
    · rw [if_neg hig]
      have tri := far_tri t.at_ s.at_ (plc ps i)
      have hrn := hr.n
      have hpl := (cut_at hg hig).1
      have hdl := dn_lt hg hi hig
      have hn' : t.n + far t.at_ (plc (cutS g ps) (dn g i)) + far (plc (cutS g ps) (dn g i)) (plc ps i) ≤ s.n + far s.at_ (plc ps i) := by
        rw [hpl, far_self]
        omega
      have hout : ∀ j : Nat, j < ps.length → j ≠ g → nth (t.out.set (dn g i) (t.n + far t.at_ (plc (cutS g ps) (dn g i)))) (dn g j) ≤ nth (s.out.set i (s.n + far s.at_ (plc ps i))) j := fun j hj hne => by
        rw [nth_setL (by rw [hr.len.2]; omega), nth_setL (by rw [hr.len.1]; omega)]
        by_cases hji : i = j
        · subst hji
          rw [if_pos rfl, if_pos rfl, hpl]
          omega
        · have hdn : dn g i ≠ dn g j := by
            unfold dn
            split <;> split <;> omega
          rw [if_neg hdn, if_neg hji]
          exact hr.out j hj hne
      have hl1 : (t.out.set (dn g i) (t.n + far t.at_ (plc (cutS g ps) (dn g i)))).length = 10 := by rw [List.length_set]; exact hr.len.2
      have hl2 : (s.out.set i (s.n + far s.at_ (plc ps i))).length = 10 := by rw [List.length_set]; exact hr.len.1
      have hdn0 : dn g i = if g = 0 then i - 1 else i := by
        unfold dn
        split <;> split <;> omega
      rcases stF_inv hst with ⟨c, rfl⟩ | ⟨c', c, rfl⟩
      · refine ⟨move (cutS g ps) t (dn g i) (dn g i) t.hi, ?_, ⟨hn', ?_, ?_, ⟨hl2, hl1⟩, hout, ?_, ?_⟩⟩
        · rw [stAt_snoc, ht]
          simp only [stF, Option.bind_some]
          rw [if_pos]
          rw [c1, hdn0]
          split <;> omega
        · show dn g i = if g = 0 then i - 1 else min i g
          rw [hdn0]
          split <;> omega
        · exact c2
        · show i ≤ s.hi
          omega
        · exact c4
      · have hn1 : ¬ t.lo = dn g i + 1 := by
          rw [c1, hdn0]
          split <;> omega
        have hn2 : t.hi = dn g i := by
          rw [c2, hdn0]
          split <;> omega
        refine ⟨move (cutS g ps) t (dn g i) t.lo (dn g i + 1), ?_, ⟨hn', ?_, ?_, ⟨hl2, hl1⟩, hout, ?_, ?_⟩⟩
        · rw [stAt_snoc, ht]
          simp only [stF, Option.bind_some]
          rw [if_neg hn1, if_pos hn2]
        · exact c1
        · show dn g i + 1 = if g = 0 then (i + 1) - 1 else min (i + 1) g
          rw [hdn0]
          split <;> omega
        · show s.lo ≤ i + 1
          omega
        · show i + 1 ≤ ps.length
          omega
/-- A round in time stays one without the stop. -/
theorem cut_good (hp : Pier b ps) (hg : g < ps.length) (he : g = 0 ∨ g = ps.length - 1) (h2 : 2 ≤ ps.length) {l : List Nat} (h : l ∈ goodR b ps) : lessL g l ∈ goodR b (cutS g ps) ∧ lenR b (cutS g ps) (lessL g l) ≤ lenR b ps l := by
  obtain ⟨h1, h3⟩ := mem_goodR.1 h
  obtain ⟨a1, a2, a3⟩ := allR_iff.1 h1
  obtain ⟨s, hs, _, hlo, hhi, _⟩ := full_round hp h1
  obtain ⟨t, ht, hr⟩ := cut_st hp hg he h2 l s hs a3
  have hq := cut_pier hp hg h2
  have hall : ∀ i ∈ lessL g l, i < (cutS g ps).length := fun i hi => by
    unfold lessL at hi
    obtain ⟨j, hj, rfl⟩ := List.mem_map.1 hi
    obtain ⟨hj1, hj2⟩ := List.mem_filter.1 hj
    rw [cut_len hg]
    exact dn_lt hg (a3 j hj1) (by simpa using hj2)
  have hm : lessL g l ∈ allR b (cutS g ps) := allR_iff.2 ⟨by
    have h5 := (stOk hq (lessL g l) t hall ht).many
    have h6 := hr.lo
    have h7 := hr.hi
    rw [cut_len hg]
    rw [hlo] at h6
    rw [hhi] at h7
    split at h6 <;> split at h7 <;> omega, by rw [ht]; rfl, hall⟩
  refine ⟨mem_goodR.2 ⟨hm, (inTime_iff hq hm).2 fun j hj => ?_⟩, ?_⟩
  · rw [cut_len hg] at hj
    obtain ⟨i, h5, h6, rfl⟩ := dn_surj hg hj
    have h7 := (inTime_iff hp h1).1 h3 i h5
    rw [stepsL_some hs] at h7
    rw [stepsL_some ht, (cut_at hg h6).2]
    have := hr.out i h5 h6
    omega
  · rw [last_own hq (lastOf_lt hq hm).2 hall ht, last_own hp (lastOf_lt hp h1).2 a3 hs]
    have := hr.n
    have : 0 ≤ far t.at_ s.at_ := by unfold far; split <;> omega
    omega
theorem cut_shortest (hp : Pier b ps) (hg : g < ps.length) (he : g = 0 ∨ g = ps.length - 1) (h2 : 2 ≤ ps.length) (h : (shortestS b ps).2.2 = 0) : (shortestS b (cutS g ps)).2.2 = 0 ∧ (shortestS b (cutS g ps)).2.1 ≤ (shortestS b ps).2.1 := by
  have hq := cut_pier hp hg h2
  unfold shortestS at h ⊢
  rw [if_pos (checkPier_ok.2 hp)] at h ⊢
  rw [if_pos (checkPier_ok.2 hq)]
  by_cases h0 : goodR b ps = []
  · rw [if_pos h0] at h
    simp at h
  · rw [if_neg h0]
    have h3 := cut_good hp hg he h2 (round_good h0)
    have h4 : goodR b (cutS g ps) ≠ [] := fun e => by
      rw [e] at h3
      cases h3.1
    rw [if_neg h4]
    refine ⟨rfl, ?_⟩
    have h5 := (firstBest_mem (f := lenR b (cutS g ps)) h4).2 _ h3.1
    exact Int.le_trans h5 h3.2
end
end Go.Proofs.Ytaekjnjignlmoaa
