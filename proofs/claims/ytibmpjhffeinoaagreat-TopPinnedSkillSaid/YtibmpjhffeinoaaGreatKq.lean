/-
  How many ways lead from each pin of a board to a slot, in plain numbers.
-/
import Derived.Test.YtibmpjhffeinoaaGreatProg
namespace Go.Proofs.YtibmpjhffeinoaaGreat

/-- How many ways lead from a pin to a slot: so many rows above it. -/
def Bd (R : Nat → Nat → Int) (rows s : Nat) : Nat → Nat → Int
  | 0, k => if k = s then 1 else 0
  | d + 1, k => (10 - R (rows - (d + 1)) k) * Bd R rows s d k + R (rows - (d + 1)) k * Bd R rows s d (k + 1)
section
variable {R : Nat → Nat → Int} {rows s : Nat} (hR : ∀ r k, 0 ≤ R r k ∧ R r k ≤ 10)
include hR
theorem Bd_b (d : Nat) : ∀ k, 0 ≤ Bd R rows s d k ∧ Bd R rows s d k ≤ (10 : Int) ^ d := by
  induction d with
  | zero =>
    intro k
    show 0 ≤ (if k = s then (1 : Int) else 0) ∧ (if k = s then (1 : Int) else 0) ≤ 10 ^ 0
    split <;> simp
  | succ d ih =>
    intro k
    have h1 := ih k
    have h2 := ih (k + 1)
    have h3 := hR (rows - (d + 1)) k
    show 0 ≤ (10 - R (rows - (d + 1)) k) * Bd R rows s d k + R (rows - (d + 1)) k * Bd R rows s d (k + 1) ∧ (10 - R (rows - (d + 1)) k) * Bd R rows s d k + R (rows - (d + 1)) k * Bd R rows s d (k + 1) ≤ _
    rw [Int.pow_succ]
    generalize Bd R rows s d k = X at *
    generalize Bd R rows s d (k + 1) = Y at *
    generalize (10 : Int) ^ d = M at *
    generalize R (rows - (d + 1)) k = z at *
    have e : z = 0 ∨ z = 1 ∨ z = 2 ∨ z = 3 ∨ z = 4 ∨ z = 5 ∨ z = 6 ∨ z = 7 ∨ z = 8 ∨ z = 9 ∨ z = 10 := by omega
    rcases e with rfl | rfl | rfl | rfl | rfl | rfl | rfl | rfl | rfl | rfl | rfl <;> omega
theorem Bd_pos {d k : Nat} : 0 < Bd R rows s (d + 1) k ↔ (R (rows - (d + 1)) k < 10 ∧ 0 < Bd R rows s d k) ∨ (0 < R (rows - (d + 1)) k ∧ 0 < Bd R rows s d (k + 1)) := by
  have h1 := Bd_b hR (rows := rows) (s := s) d k
  have h2 := Bd_b hR (rows := rows) (s := s) d (k + 1)
  have h3 := hR (rows - (d + 1)) k
  show 0 < (10 - R (rows - (d + 1)) k) * Bd R rows s d k + R (rows - (d + 1)) k * Bd R rows s d (k + 1) ↔ _
  generalize Bd R rows s d k = X at *
  generalize Bd R rows s d (k + 1) = Y at *
  generalize (10 : Int) ^ d = M at *
  generalize R (rows - (d + 1)) k = z at *
  have e : z = 0 ∨ z = 1 ∨ z = 2 ∨ z = 3 ∨ z = 4 ∨ z = 5 ∨ z = 6 ∨ z = 7 ∨ z = 8 ∨ z = 9 ∨ z = 10 := by omega
  rcases e with rfl | rfl | rfl | rfl | rfl | rfl | rfl | rfl | rfl | rfl | rfl <;> omega
theorem Bd_all {d k : Nat} : Bd R rows s (d + 1) k = (10 : Int) ^ (d + 1) ↔ (R (rows - (d + 1)) k < 10 → Bd R rows s d k = (10 : Int) ^ d) ∧ (0 < R (rows - (d + 1)) k → Bd R rows s d (k + 1) = (10 : Int) ^ d) := by
  have h1 := Bd_b hR (rows := rows) (s := s) d k
  have h2 := Bd_b hR (rows := rows) (s := s) d (k + 1)
  have h3 := hR (rows - (d + 1)) k
  show (10 - R (rows - (d + 1)) k) * Bd R rows s d k + R (rows - (d + 1)) k * Bd R rows s d (k + 1) = _ ↔ _
  rw [Int.pow_succ]
  generalize Bd R rows s d k = X at *
  generalize Bd R rows s d (k + 1) = Y at *
  generalize (10 : Int) ^ d = M at *
  generalize R (rows - (d + 1)) k = z at *
  have e : z = 0 ∨ z = 1 ∨ z = 2 ∨ z = 3 ∨ z = 4 ∨ z = 5 ∨ z = 6 ∨ z = 7 ∨ z = 8 ∨ z = 9 ∨ z = 10 := by omega
  rcases e with rfl | rfl | rfl | rfl | rfl | rfl | rfl | rfl | rfl | rfl | rfl <;> omega
end
/-- By rows. -/
def Bv (R : Nat → Nat → Int) (rows s : Nat) (r k : Nat) : Int := Bd R rows s (rows - r) k
section
variable {R : Nat → Nat → Int} {rows s : Nat}
theorem Bv_end {k : Nat} : Bv R rows s rows k = if k = s then 1 else 0 := by
  unfold Bv
  rw [Nat.sub_self]
  rfl
theorem Bv_0 (hR : ∀ r k, 0 ≤ R r k ∧ R r k ≤ 10) (r k : Nat) : 0 ≤ Bv R rows s r k := (Bd_b hR _ k).1
theorem Bv_le (hR : ∀ r k, 0 ≤ R r k ∧ R r k ≤ 10) (r k : Nat) : Bv R rows s r k ≤ (10 : Int) ^ (rows - r) := (Bd_b hR _ k).2
end
end Go.Proofs.YtibmpjhffeinoaaGreat
