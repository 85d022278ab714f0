/-
  Plain facts: lists of places that are strictly increasing, and the sets that they are.
-/
import Derived.Test.YtkeiajncmhkdmaaRefB
namespace Go.Proofs.Ytkeiajncmhkdmaa

def stepI (p : Int) (s : Bool × Int) (x : Int) : Bool × Int := (s.1 && decide (s.2 ≤ x) && decide (x < p), x + 1)
def incR (p : Int) (l : List Int) : Bool × Int := l.foldl (stepI p) (true, 0)
theorem incR_snoc (p : Int) (l : List Int) (x : Int) : incR p (l ++ [x]) = stepI p (incR p l) x := by simp [incR]
theorem incR_step {p : Int} {l : List Int} {k : Nat} {x : Int} (h : l[k]? = some x) : incR p (l.take (k + 1)) = stepI p (incR p (l.take k)) x := by rw [take_snoc h, incR_snoc]
theorem incR_false {p : Int} (l m : List Int) (h : (incR p l).1 = false) : (incR p (l ++ m)).1 = false := by
  refine snoc_induction (p := fun m => (incR p (l ++ m)).1 = false) (by simpa using h) (fun m x ih => ?_) m
  rw [← List.append_assoc, incR_snoc]
  simp only [stepI, ih, Bool.false_and]
theorem incR_bad {p : Int} {l : List Int} {k : Nat} (h : (incR p (l.take k)).1 = false) : (incR p l).1 = false := by
  have := incR_false (l.take k) (l.drop k) h
  rwa [List.take_append_drop] at this
theorem incR_nil (p : Int) : incR p [] = (true, 0) := rfl
theorem incR_next {p : Int} {l : List Int} {k : Nat} {x : Int} (h : l[k]? = some x) : (incR p (l.take (k + 1))).2 = x + 1 := by rw [incR_step h]; rfl
/-- The set of a list, by its bits. -/
def setBits (l : List Int) : Nat := l.foldl (fun s q => s ||| 2 ^ q.toNat) 0
theorem setBits_snoc (l : List Int) (q : Int) : setBits (l ++ [q]) = setBits l ||| 2 ^ q.toNat := by simp [setBits]
theorem setBits_step {l : List Int} {k : Nat} {x : Int} (h : l[k]? = some x) : setBits (l.take (k + 1)) = setBits (l.take k) ||| 2 ^ x.toNat := by rw [take_snoc h, setBits_snoc]
def addOk (s q : Nat) : Bool := decide (2 ^ q ≤ s) || (decide (s ||| 2 ^ q < 2 ^ (q + 1)) && decide (listed (s ||| 2 ^ q) = listed s ++ [(q : Int)]))
theorem addOk_all : (List.range 256).all (fun s => (List.range 8).all (addOk s)) = true := by decide +kernel
theorem add_listed {s q : Nat} (hq : q < 8) (hs : s < 2 ^ q) : s ||| 2 ^ q < 2 ^ (q + 1) ∧ listed (s ||| 2 ^ q) = listed s ++ [(q : Int)] := by
  have hs2 : s < 256 := Nat.lt_of_lt_of_le hs (Nat.le_trans (Nat.pow_le_pow_right (by omega) (by omega : q ≤ 8)) (by decide))
  have h1 := List.all_eq_true.1 addOk_all s (List.mem_range.2 hs2)
  have h2 := List.all_eq_true.1 h1 q (List.mem_range.2 hq)
  unfold addOk at h2
  simp only [Bool.or_eq_true, Bool.and_eq_true, decide_eq_true_eq] at h2
  rcases h2 with h | h
  · omega
  · exact h
theorem inc_listed {p : Int} (hp : p ≤ 8) (l : List Int) : (incR p l).1 = true → 0 ≤ (incR p l).2 ∧ (l ≠ [] → (incR p l).2 ≤ p) ∧ setBits l < 2 ^ (incR p l).2.toNat ∧ listed (setBits l) = l := by
  refine snoc_induction (p := fun l => (incR p l).1 = true → 0 ≤ (incR p l).2 ∧ (l ≠ [] → (incR p l).2 ≤ p) ∧ setBits l < 2 ^ (incR p l).2.toNat ∧ listed (setBits l) = l) ?_ (fun l x ih h => ?_) l
  · intro _
    exact ⟨Int.le_refl _, fun h => absurd rfl h, by show (0 : Nat) < 2 ^ 0; decide, by decide⟩
  · rw [incR_snoc] at h ⊢
    simp only [stepI, Bool.and_eq_true, decide_eq_true_eq] at h ⊢
    obtain ⟨⟨h1, h2⟩, h3⟩ := h
    obtain ⟨i1, i2, i3, i4⟩ := ih h1
    have hlt : setBits l < 2 ^ x.toNat := Nat.lt_of_lt_of_le i3 (Nat.pow_le_pow_right (by omega) (by omega))
    obtain ⟨a1, a2⟩ := add_listed (q := x.toNat) (by omega) hlt
    rw [setBits_snoc]
    refine ⟨by omega, fun _ => by omega, ?_, ?_⟩
    · rw [show (x + 1).toNat = x.toNat + 1 by omega]; exact a1
    · rw [a2, i4, show ((x.toNat : Nat) : Int) = x by omega]
theorem inc_lt {b : Nat} (hb : b ≤ 8) (l : List Int) (h : (incR (b : Int) l).1 = true) : setBits l < 2 ^ b := by
  obtain ⟨i1, i2, i3, i4⟩ := inc_listed (p := (b : Int)) (by omega) l h
  by_cases hl : l = []
  · subst hl
    exact Nat.lt_of_lt_of_le (by decide) (Nat.two_pow_pos b)
  · exact Nat.lt_of_lt_of_le i3 (Nat.pow_le_pow_right (by omega) (by have := i2 hl; omega))
theorem two8 {b : Nat} (hb : b ≤ 8) : 2 ^ b ≤ 256 := Nat.le_trans (Nat.pow_le_pow_right (by omega) hb) (by decide)

/-- In how many rows so many coppers lie, set by set. -/
def countIn (m : Int) (k : Nat) : Int := (List.range k).foldl (fun t s => if ((listed s).length : Int) = m then t + leftAt s else t) 0
theorem countIn_yes {m : Int} {k : Nat} (h : ((listed k).length : Int) = m) : countIn m (k + 1) = countIn m k + leftAt k := by
  simp only [countIn, List.range_succ, List.foldl_append, List.foldl_cons, List.foldl_nil]
  rw [if_pos h]
theorem countIn_no {m : Int} {k : Nat} (h : ¬ ((listed k).length : Int) = m) : countIn m (k + 1) = countIn m k := by
  simp only [countIn, List.range_succ, List.foldl_append, List.foldl_cons, List.foldl_nil]
  rw [if_neg h]
theorem countIn_bd {m : Int} : ∀ k : Nat, k ≤ 256 → 0 ≤ countIn m k ∧ countIn m k ≤ 50000000 * (k : Int) := by
  intro k
  induction k with
  | zero => intro _; exact ⟨Int.le_refl _, Int.le_refl _⟩
  | succ k ih =>
    intro hk
    have h1 := ih (by omega)
    have h2 := leftAt_bd (s := k) (by omega)
    by_cases h : ((listed k).length : Int) = m
    · rw [countIn_yes h]; omega
    · rw [countIn_no h]; omega
end Go.Proofs.Ytkeiajncmhkdmaa
