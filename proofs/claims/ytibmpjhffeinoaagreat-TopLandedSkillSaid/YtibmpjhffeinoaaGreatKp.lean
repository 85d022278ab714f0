/-
  skill, plain: rounds of distances.
-/
import Derived.Test.YtibmpjhffeinoaaGreatKe
namespace Go.Proofs.YtibmpjhffeinoaaGreat
open Go.RowKit

/-- A round, as far as the place k. -/
def stepAt (ps : List Bool) (Ms : List (List Int)) (r : Int) (fs : List Int) (k : Nat) : List Int := (List.range 14).map fun i => if i < k ∧ nth fs i < 0 ∧ winB ps Ms fs i = true then r else nth fs i
theorem nth_map_range (f : Nat → Int) {m i : Nat} (h : i < m) : nth ((List.range m).map f) i = f i := by
  unfold nth
  rw [List.getElem?_map, List.getElem?_range h]
  rfl
theorem list14 {xs ys : List Int} (hx : xs.length = 14) (hy : ys.length = 14) (h : ∀ i, i < 14 → nth xs i = nth ys i) : xs = ys := by
  refine List.ext_getElem? fun i => ?_
  by_cases hi : i < 14
  · have := h i hi
    unfold nth at this
    rw [List.getElem?_eq_getElem (by omega), List.getElem?_eq_getElem (by omega)] at this ⊢
    simpa using this
  · rw [List.getElem?_eq_none (by omega), List.getElem?_eq_none (by omega)]
section
variable {ps : List Bool} {Ms : List (List Int)} {r : Int} {fs : List Int} {k : Nat}
theorem stepAt_len : (stepAt ps Ms r fs k).length = 14 := by simp [stepAt]
theorem stepAt_at {i : Nat} (hi : i < 14) : nth (stepAt ps Ms r fs k) i = if i < k ∧ nth fs i < 0 ∧ winB ps Ms fs i = true then r else nth fs i := nth_map_range _ hi
theorem stepAt_0 (h : fs.length = 14) : stepAt ps Ms r fs 0 = fs := list14 stepAt_len h fun i hi => by
  rw [stepAt_at hi, if_neg (by omega)]
theorem nth_set' {xs : List Int} {j i : Nat} {x : Int} (hj : j < xs.length) : nth (xs.set j x) i = if j = i then x else nth xs i := nth_set hj
theorem stepAt_yes (hk : k < 14) (h1 : nth fs k < 0) (h2 : winB ps Ms fs k = true) : stepAt ps Ms r fs (k + 1) = (stepAt ps Ms r fs k).set k r := list14 stepAt_len (by simp [stepAt_len]) fun i hi => by
  rw [nth_set' (by rw [stepAt_len]; exact hk), stepAt_at hi, stepAt_at hi]
  by_cases e : k = i
  · subst e
    rw [if_pos ⟨by omega, h1, h2⟩, if_pos rfl]
  · rw [if_neg e]
    by_cases hc : i < k ∧ nth fs i < 0 ∧ winB ps Ms fs i = true
    · rw [if_pos hc, if_pos ⟨by omega, hc.2⟩]
    · rw [if_neg hc, if_neg fun h => hc ⟨by omega, h.2⟩]
theorem stepAt_no (h : ¬ (nth fs k < 0 ∧ winB ps Ms fs k = true)) : stepAt ps Ms r fs (k + 1) = stepAt ps Ms r fs k := list14 stepAt_len stepAt_len fun i hi => by
  rw [stepAt_at hi, stepAt_at hi]
  by_cases hc : i < k ∧ nth fs i < 0 ∧ winB ps Ms fs i = true
  · rw [if_pos hc, if_pos ⟨by omega, hc.2⟩]
  · rw [if_neg hc, if_neg fun h' => ?_]
    by_cases e : i = k
    · subst e; exact h h'.2
    · exact hc ⟨by omega, h'.2⟩
end
/-- How many places have a distance. -/
def cnt (xs : List Int) : Nat := xs.countP (fun x => decide (0 ≤ x))
theorem cnt_mono : ∀ (xs ys : List Int), xs.length = ys.length → (∀ i, i < xs.length → 0 ≤ nth xs i → 0 ≤ nth ys i) → cnt xs ≤ cnt ys
  | [], [], _, _ => Nat.le_refl _
  | [], _ :: _, h, _ => by cases h
  | _ :: _, [], h, _ => by cases h
  | x :: xs, y :: ys, h, hm => by
    have ih := cnt_mono xs ys (by simpa using h) fun i hi hx => hm (i + 1) (by simp; omega) hx
    have h0 : 0 ≤ x → 0 ≤ y := hm 0 (by simp)
    unfold cnt at *
    rw [List.countP_cons, List.countP_cons]
    by_cases hx : 0 ≤ x
    · rw [if_pos (by simpa using hx), if_pos (by simpa using h0 hx)]; omega
    · rw [if_neg (by simpa using hx)]; omega
theorem cnt_lt : ∀ (xs ys : List Int), xs.length = ys.length → (∀ i, i < xs.length → 0 ≤ nth xs i → 0 ≤ nth ys i) → (∃ i, i < xs.length ∧ nth xs i < 0 ∧ 0 ≤ nth ys i) → cnt xs < cnt ys
  | [], _, _, _, h => by obtain ⟨i, hi, _⟩ := h; exact absurd hi (Nat.not_lt_zero i)
  | _ :: _, [], h, _, _ => by cases h
  | x :: xs, y :: ys, h, hm, ⟨i, hi, h1, h2⟩ => by
    have h0 : 0 ≤ x → 0 ≤ y := hm 0 (by simp)
    have hm' : ∀ i, i < xs.length → 0 ≤ nth xs i → 0 ≤ nth ys i := fun i hi hx => hm (i + 1) (by simp; omega) hx
    have hl : xs.length = ys.length := by simpa using h
    cases i with
    | zero =>
      have ih := cnt_mono xs ys hl hm'
      have h1 : x < 0 := h1
      have h2 : 0 ≤ y := h2
      unfold cnt at *
      rw [List.countP_cons, List.countP_cons, if_neg (by simpa using h1), if_pos (by simpa using h2)]
      omega
    | succ i =>
      have ih := cnt_lt xs ys hl hm' ⟨i, by simpa using hi, h1, h2⟩
      unfold cnt at *
      rw [List.countP_cons, List.countP_cons]
      by_cases hx : 0 ≤ x
      · rw [if_pos (by simpa using hx), if_pos (by simpa using h0 hx)]; omega
      · rw [if_neg (by simpa using hx)]; omega
theorem cnt_len (xs : List Int) : cnt xs ≤ xs.length := List.countP_le_length
theorem cnt_step {ps : List Bool} {Ms : List (List Int)} {r : Int} {fs : List Int} {n : Nat} (hr : 0 ≤ r) (hl : fs.length = 14) (hne : stepAt ps Ms r fs n ≠ fs) : cnt fs < cnt (stepAt ps Ms r fs n) := by
  refine cnt_lt _ _ (by rw [stepAt_len, hl]) (fun i hi h0 => ?_) ?_
  · rw [stepAt_at (by omega)]
    split <;> omega
  · by_cases hex : ∃ i, i < 14 ∧ i < n ∧ nth fs i < 0 ∧ winB ps Ms fs i = true
    · obtain ⟨i, h1, h2, h3, h4⟩ := hex
      exact ⟨i, by omega, h3, by rw [stepAt_at h1, if_pos ⟨h2, h3, h4⟩]; exact hr⟩
    · refine absurd (list14 stepAt_len hl fun i hi => ?_) hne
      rw [stepAt_at hi, if_neg fun h => hex ⟨i, hi, h⟩]
/-- At the beginning: 0 at the places that are won. -/
def far0 (ws : List Bool) (k : Nat) : List Int := (List.range 14).map fun i => if i < k ∧ ws[i]? = some true then 0 else -1
/-- Round by round. -/
def rounds (ps : List Bool) (Ms : List (List Int)) (ws : List Bool) (n : Nat) : Nat → List Int
  | 0 => far0 ws n
  | k + 1 => stepAt ps Ms ((k : Int) + 1) (rounds ps Ms ws n k) n
theorem far0_len {ws : List Bool} {k : Nat} : (far0 ws k).length = 14 := by simp [far0]
theorem rounds_len {ps : List Bool} {Ms : List (List Int)} {ws : List Bool} {n : Nat} : ∀ k, (rounds ps Ms ws n k).length = 14
  | 0 => far0_len
  | _ + 1 => stepAt_len
theorem far0_at {ws : List Bool} {k i : Nat} (hi : i < 14) : nth (far0 ws k) i = if i < k ∧ ws[i]? = some true then 0 else -1 := nth_map_range _ hi
theorem far0_yes {ws : List Bool} {k : Nat} (hk : k < 14) (h : ws[k]? = some true) : far0 ws (k + 1) = (far0 ws k).set k 0 := list14 far0_len (by simp [far0_len]) fun i hi => by
  rw [nth_set' (by rw [far0_len]; exact hk), far0_at hi, far0_at hi]
  by_cases e : k = i
  · subst e
    rw [if_pos ⟨by omega, h⟩, if_pos rfl]
  · rw [if_neg e]
    by_cases hc : i < k ∧ ws[i]? = some true
    · rw [if_pos hc, if_pos ⟨by omega, hc.2⟩]
    · rw [if_neg hc, if_neg fun h => hc ⟨by omega, h.2⟩]
theorem far0_no {ws : List Bool} {k : Nat} (h : ws[k]? = some false) : far0 ws (k + 1) = far0 ws k := list14 far0_len far0_len fun i hi => by
  rw [far0_at hi, far0_at hi]
  by_cases hc : i < k ∧ ws[i]? = some true
  · rw [if_pos hc, if_pos ⟨by omega, hc.2⟩]
  · rw [if_neg hc, if_neg fun h' => ?_]
    by_cases e : i = k
    · subst e; rw [h] at h'; exact absurd h'.2 (by simp)
    · exact hc ⟨by omega, h'.2⟩
/-- The first places are -1, the others 0. -/
def neg1 (k : Nat) : List Int := (List.range 14).map fun i => if i < k then -1 else 0
theorem neg1_len {k : Nat} : (neg1 k).length = 14 := by simp [neg1]
theorem neg1_at {k i : Nat} (hi : i < 14) : nth (neg1 k) i = if i < k then -1 else 0 := nth_map_range _ hi
theorem neg1_set {k : Nat} (hk : k < 14) : neg1 (k + 1) = (neg1 k).set k (-1) := list14 neg1_len (by simp [neg1_len]) fun i hi => by
  rw [nth_set' (by rw [neg1_len]; exact hk), neg1_at hi, neg1_at hi]
  by_cases e : k = i
  · subst e; rw [if_pos (by omega), if_pos rfl]
  · rw [if_neg e]
    by_cases hc : i < k
    · rw [if_pos hc, if_pos (by omega)]
    · rw [if_neg hc, if_neg (by omega)]
theorem neg1_14 (ws : List Bool) : neg1 14 = far0 ws 0 := list14 neg1_len far0_len fun i hi => by
  rw [neg1_at hi, far0_at hi, if_pos hi, if_neg (by omega)]
end Go.Proofs.YtibmpjhffeinoaaGreat
