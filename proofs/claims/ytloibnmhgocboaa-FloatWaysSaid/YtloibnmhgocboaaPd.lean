/-
  Plain: the rows that the reference's 'paid' makes.
-/
import Derived.Test.YtloibnmhgocboaaPQ
import Derived.Test.YtloibnmhgocboaaPR
namespace Go.Proofs.Ytloibnmhgocboaa

def rowN (N : Nat) (f : Nat → Int) : List Int := (List.range (N + 1)).map f
theorem rowN_len (N : Nat) (f : Nat → Int) : (rowN N f).length = N + 1 := by simp [rowN]
theorem nth_rowN {N : Nat} {f : Nat → Int} {k : Nat} (h : k ≤ N) : nth (rowN N f) k = f k := nth_range_map (by omega)
theorem rowN_congr {N : Nat} {f g : Nat → Int} (h : ∀ a : Nat, a ≤ N → f a = g a) : rowN N f = rowN N g := eq_of_nth (rowN_len _ _) (rowN_len _ _) fun j hj => by
  rw [nth_rowN (by omega), nth_rowN (by omega)]
  exact h j (by omega)
theorem rowN_set {N : Nat} {f : Nat → Int} {k : Nat} {x : Int} (h : k ≤ N) : (rowN N f).set k x = rowN N (fun a => if a = k then x else f a) := eq_of_nth (by rw [List.length_set, rowN_len]) (rowN_len _ _) fun j hj => by
  rw [nth_setL (by rw [rowN_len]; omega), nth_rowN (by omega), nth_rowN (by omega)]
  by_cases e : k = j
  · rw [if_pos e, if_pos e.symm]
  · rw [if_neg e, if_neg (fun h => e h.symm)]
theorem rowN_zero (N : Nat) : List.replicate (N + 1) (0 : Int) = rowN N (fun _ => 0) := eq_of_nth (by simp) (rowN_len _ _) fun j hj => by
  rw [nth_rowN (by omega), nth, List.getElem?_replicate, if_pos hj]
  rfl
/-- How few coins of the kinds from j on pay a. -/
def payF (cs st : List Int) (j a : Nat) : Int := gmin (cs.drop j) (st.drop j) a
theorem payF_end {cs st : List Int} {n : Nat} (hn : cs.length = n) (a : Nat) : payF cs st n a = if a = 0 then 0 else -1 := by
  subst hn
  rw [payF, gmin_end]
  by_cases h : a = 0
  · rw [if_pos h, if_pos (by omega)]
  · rw [if_neg h, if_neg (by omega)]
/-- The rows 0 to j. -/
def payT (cs st : List Int) (N n j : Nat) : List (List Int) := (List.range (j + 1)).map fun i => rowN N (payF cs st (n - i))
theorem payT_zero (cs st : List Int) (N n : Nat) : payT cs st N n 0 = [rowN N (payF cs st n)] := rfl
theorem payT_succ (cs st : List Int) (N n j : Nat) : payT cs st N n (j + 1) = payT cs st N n j ++ [rowN N (payF cs st (n - (j + 1)))] := by
  unfold payT
  rw [List.range_succ, List.map_append]
  rfl
theorem payT_at {cs st : List Int} {N n j i : Nat} {L : List Int} (h : (payT cs st N n j)[i]? = some L) : L = rowN N (payF cs st (n - i)) := by
  unfold payT at h
  rw [List.getElem?_map] at h
  rcases Nat.lt_or_ge i (j + 1) with hi | hi
  · rw [List.getElem?_range hi] at h
    simp at h
    exact h.symm
  · rw [List.getElem?_eq_none (by simp; omega)] at h
    cases h
/-- Row k while it is made: the first k are put right, the one at k is the best of the first t. -/
def mixP (cs st : List Int) (q k : Nat) (z : Int) (a : Nat) : Int := if a < k then payF cs st q a else if a = k then z else 0
theorem mixP_start (cs st : List Int) (N q : Nat) : rowN N (fun _ => 0) = rowN N (mixP cs st q 0 0) := rowN_congr fun a _ => by
  unfold mixP
  rw [if_neg (by omega)]
  split <;> rfl
theorem mixP_set (cs st : List Int) {N q k : Nat} (hk : k ≤ N) (z y : Int) : (rowN N (mixP cs st q k z)).set k y = rowN N (mixP cs st q k y) := by
  rw [rowN_set hk]
  refine rowN_congr fun a _ => ?_
  unfold mixP
  by_cases h : a = k
  · rw [if_pos h, if_neg (by omega), if_pos h]
  · rw [if_neg h, if_neg h]
    by_cases h2 : a < k
    · rw [if_pos h2, if_pos h2]
    · rw [if_neg h2, if_neg h2, if_neg h]
theorem mixP_next (cs st : List Int) {N q k : Nat} : rowN N (mixP cs st q k (payF cs st q k)) = rowN N (mixP cs st q (k + 1) 0) := rowN_congr fun a _ => by
  unfold mixP
  by_cases h2 : a < k
  · rw [if_pos h2, if_pos (by omega)]
  · rw [if_neg h2]
    by_cases h : a = k
    · subst h
      rw [if_pos rfl, if_pos (by omega)]
    · rw [if_neg h, if_neg (by omega)]
      split <;> rfl
theorem mixP_done (cs st : List Int) {N q k : Nat} (z : Int) (h : N < k) : rowN N (mixP cs st q k z) = rowN N (payF cs st q) := rowN_congr fun a ha => by
  unfold mixP
  rw [if_pos (by omega)]
theorem mixP_at (cs st : List Int) {N q k : Nat} (z : Int) (h : k ≤ N) : nth (rowN N (mixP cs st q k z)) k = z := by
  rw [nth_rowN h]
  unfold mixP
  rw [if_neg (by omega), if_pos rfl]
/-- The first row while it is made. -/
def mixZ (k : Nat) (a : Nat) : Int := if a = 0 then 0 else if a < k then -1 else 0
theorem mixZ_start (N : Nat) : rowN N (fun _ => 0) = rowN N (mixZ 1) := rowN_congr fun a _ => by
  unfold mixZ
  split
  · rfl
  · rw [if_neg (by omega)]
theorem mixZ_set {N k : Nat} (hk : k ≤ N) (h1 : 1 ≤ k) : (rowN N (mixZ k)).set k (-1) = rowN N (mixZ (k + 1)) := by
  rw [rowN_set hk]
  refine rowN_congr fun a _ => ?_
  unfold mixZ
  by_cases h : a = k
  · rw [if_pos h, if_neg (by omega), if_pos (by omega)]
  · rw [if_neg h]
    by_cases h0 : a = 0
    · rw [if_pos h0, if_pos h0]
    · rw [if_neg h0, if_neg h0]
      by_cases h2 : a < k
      · rw [if_pos h2, if_pos (by omega)]
      · rw [if_neg h2, if_neg (by omega)]
theorem mixZ_done {cs st : List Int} {N k n : Nat} (hn : cs.length = n) (h : N < k) : rowN N (mixZ k) = rowN N (payF cs st n) := rowN_congr fun a ha => by
  rw [payF_end hn]
  unfold mixZ
  split
  · rfl
  · rw [if_pos (by omega)]
theorem payF_step {cs st : List Int} {q : Nat} (hq : q < cs.length) (hl : st.length = cs.length) {a : Nat} : payF cs st q a = stepG (fun r => gmin (cs.drop (q + 1)) (st.drop (q + 1)) r) (nth cs q) a (roundsG (nth st q) (nth cs q) a) := gmin_drop hq hl a
theorem payF_bd {cs st : List Int} {N : Nat} (hc : ∀ c ∈ cs, 1 ≤ c) (hs : ∀ s ∈ st, 0 ≤ s) (hl : st.length = cs.length) (j a : Nat) : -1 ≤ payF cs st j a ∧ payF cs st j a ≤ a := gmin_le (fun c h => hc c (List.mem_of_mem_drop h)) (fun s h => hs s (List.mem_of_mem_drop h)) (by rw [List.length_drop, List.length_drop, hl]) (by omega)
end Go.Proofs.Ytloibnmhgocboaa
