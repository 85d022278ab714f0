/-
  TopLandedSkill: words of the law: moves, won places.
-/
import Derived.Test.YtibmpjhffeinoaaGreatMo
namespace Go.Proofs.YtibmpjhffeinoaaGreat
open Go.RowKit Go.Shelf

/-- The moves of a state: the first ones. -/
def mvL (N : Nat → Nat → Int) (i q : Nat) : List Int := ((List.range q).filter fun k => decide (0 < N i k)).map Int.ofNat
theorem mvL_yes {N : Nat → Nat → Int} {i q : Nat} (h : 0 < N i q) : mvL N i (q + 1) = mvL N i q ++ [(q : Int)] := by
  unfold mvL
  rw [List.range_succ, List.filter_append, List.map_append]
  simp [h]
theorem mvL_no {N : Nat → Nat → Int} {i q : Nat} (h : ¬ 0 < N i q) : mvL N i (q + 1) = mvL N i q := by
  unfold mvL
  rw [List.range_succ, List.filter_append, List.map_append]
  simp [h]
theorem mvL_mem {N : Nat → Nat → Int} {i q : Nat} {x : Int} : x ∈ mvL N i q ↔ ∃ k : Nat, x = k ∧ k < q ∧ 0 < N i k := by
  unfold mvL
  rw [List.mem_map]
  constructor
  · rintro ⟨k, h, rfl⟩
    rw [List.mem_filter, List.mem_range, decide_eq_true_eq] at h
    exact ⟨k, rfl, h⟩
  · rintro ⟨k, rfl, h⟩
    exact ⟨k, by rw [List.mem_filter, List.mem_range, decide_eq_true_eq]; exact h, rfl⟩
theorem mvL_len (N : Nat → Nat → Int) (i q : Nat) : (mvL N i q).length ≤ q := by
  unfold mvL
  rw [List.length_map]
  exact Nat.le_trans (List.length_filter_le _ _) (by simp)
theorem ris_of {n : Int} : ∀ {xs : List Int} {m : Int}, xs.Pairwise (· < ·) → (∀ x ∈ xs, m ≤ x ∧ x < n) → risB n m xs = true
  | [], _, _, _ => rfl
  | x :: xs, m, hp, h => by
    rw [List.pairwise_cons] at hp
    have h1 := h x (by simp)
    simp only [risB, Bool.and_eq_true, decide_eq_true_eq]
    exact ⟨⟨h1.1, h1.2⟩, ris_of hp.2 fun y hy => ⟨by have := hp.1 y hy; omega, (h y (by simp [hy])).2⟩⟩
theorem mvL_ris (N : Nat → Nat → Int) (i n : Nat) : risB n 0 (mvL N i n) = true := by
  refine ris_of ?_ fun x hx => ?_
  · unfold mvL
    refine List.Pairwise.map _ (fun a b hab => ?_) (List.Pairwise.filter _ List.pairwise_lt_range)
    show (a : Int) < (b : Int)
    omega
  · obtain ⟨k, rfl, h1, _⟩ := mvL_mem.1 hx
    omega
/-- The moves, as far as they are written. -/
def msP (N : Nat → Nat → Int) (n i k : Nat) : List (List Int) := (List.range n).map fun j => if j < i then mvL N j n else if j = i then mvL N i k else []
theorem msP_zero (N : Nat → Nat → Int) (n : Nat) : msP N n 0 0 = List.replicate n [] := by
  refine List.ext_getElem? fun j => ?_
  unfold msP
  rw [List.getElem?_map, List.getElem?_replicate]
  by_cases h : j < n
  · rw [List.getElem?_range h, if_pos h]
    simp [mvL]
  · rw [List.getElem?_eq_none (by simp; omega), if_neg h]
    rfl
theorem msP_at {N : Nat → Nat → Int} {n i k : Nat} (hi : i < n) : (msP N n i k)[i]? = some (mvL N i k) := by
  unfold msP
  rw [List.getElem?_map, List.getElem?_range hi]
  simp
theorem msP_set {N : Nat → Nat → Int} {n i k : Nat} (hi : i < n) : (msP N n i k).set i (mvL N i (k + 1)) = msP N n i (k + 1) := by
  refine List.ext_getElem? fun j => ?_
  rw [List.getElem?_set]
  by_cases e : i = j
  · subst e
    rw [if_pos rfl, if_pos (by simp [msP]; exact hi), msP_at hi]
  · rw [if_neg e]
    unfold msP
    rw [List.getElem?_map, List.getElem?_map]
    by_cases h : j < n
    · rw [List.getElem?_range h]
      simp [show ¬ j = i from fun e' => e e'.symm]
    · rw [List.getElem?_eq_none (by simp; omega)]
      rfl
theorem msP_next (N : Nat → Nat → Int) (n i : Nat) : msP N n i n = msP N n (i + 1) 0 := by
  unfold msP
  refine List.map_congr_left fun j _ => ?_
  by_cases h1 : j < i
  · rw [if_pos h1, if_pos (by omega)]
  · rw [if_neg h1]
    by_cases h2 : j = i
    · rw [if_pos h2, if_pos (by omega), h2]
    · rw [if_neg h2, if_neg (by omega)]
      split
      · simp [mvL]
      · rfl
/-- All moves. -/
def msL (N : Nat → Nat → Int) (n : Nat) : List (List Int) := (List.range n).map fun j => mvL N j n
theorem msP_all (N : Nat → Nat → Int) (n : Nat) : msP N n n 0 = msL N n := by
  unfold msP msL
  refine List.map_congr_left fun j hj => ?_
  rw [if_pos (List.mem_range.1 hj)]
theorem msL_ris (N : Nat → Nat → Int) (n : Nat) : ∀ L ∈ msL N n, risB n 0 L = true := fun L hL => by
  unfold msL at hL
  rw [List.mem_map] at hL
  obtain ⟨j, _, rfl⟩ := hL
  exact mvL_ris N j n
/-- Some places are true. -/
def wonS (n : Nat) (xs : List Int) : List Bool := (List.range n).map fun k : Nat => decide ((k : Int) ∈ xs)
theorem wonS_len (n : Nat) (xs : List Int) : (wonS n xs).length = n := by simp [wonS]
theorem wonS_nil (n : Nat) : Array.replicate n (Value.bool false) = bools (wonS n []) := by
  apply Array.ext
  · simp [bools, wonS]
  · intro i h1 h2
    simp [bools, wonS]
theorem wonS_set {n r : Nat} {xs : List Int} {y : Nat} (h : xs[r]? = some (y : Int)) : (bools (wonS n (xs.take r))).setIfInBounds y (.bool true) = bools (wonS n (xs.take (r + 1))) := by
  apply Array.ext
  · simp [bools, wonS]
  · intro i h1 h2
    rw [Array.getElem_setIfInBounds]
    · simp only [bools, wonS, List.map_map, List.getElem_toArray, List.getElem_map, List.getElem_range, Function.comp]
      rw [List.take_add_one, h]
      split
      · subst_vars; simp
      · rename_i hne
        congr 1
        refine decide_eq_decide.2 ?_
        simp only [Option.toList_some, List.mem_append, List.mem_singleton]
        constructor
        · exact Or.inl
        · rintro (h3 | h3)
          · exact h3
          · omega
    · simpa [bools, wonS] using h2
theorem wonS_cell {n y : Nat} {xs : List Int} (hy : y < n) : ∃ b, (bools (wonS n xs))[y]? = some (Value.bool b) := by
  refine ⟨decide ((y : Int) ∈ xs), ?_⟩
  simp [bools, wonS, hy]
end Go.Proofs.YtibmpjhffeinoaaGreat
