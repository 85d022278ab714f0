/-
  Plain facts for the law of sums over all sets.
-/
import Derived.Test.YtkeiajncmhkdmaaTotS
import Derived.Test.YtkeiajncmhkdmaaOrd
namespace Go.Proofs.Ytkeiajncmhkdmaa

def leaveOk (b x : Nat) : Bool := decide (2 ^ b ≤ x) || ((incR (b : Int) (listed x)).1 && decide (setBits (listed x) = x))
theorem leaveOk_all : (List.range 9).all (fun b => (List.range 256).all (leaveOk b)) = true := by decide +kernel
theorem leave_listed {b x : Nat} (h1 : 1 ≤ b) (h8 : b ≤ 8) (hx : x < 2 ^ b) : leaveS (b : Int) (listed x) = (leftAt x, 0) := by
  have hx2 : x < 256 := Nat.lt_of_lt_of_le hx (Nat.le_trans (Nat.pow_le_pow_right (by omega) h8) (by decide))
  have h := List.all_eq_true.1 (List.all_eq_true.1 leaveOk_all b (List.mem_range.2 (by omega))) x (List.mem_range.2 hx2)
  unfold leaveOk at h
  rw [decide_eq_false (by omega), Bool.false_or, Bool.and_eq_true, decide_eq_true_eq] at h
  unfold leaveS
  rw [if_neg (by omega), Int.toNat_natCast]
  unfold leaveO
  rw [if_pos h.1, h.2]
theorem count_listed {b k : Nat} (h1 : 1 ≤ b) (h8 : b ≤ 8) (hk : k ≤ 12) : countS (b : Int) (k : Int) = (countIn (k : Int) (2 ^ b), 0) := by
  unfold countS
  rw [if_neg (by omega), if_neg (by omega), Int.toNat_natCast]
theorem listed_nodup (s : Nat) : (listed s).Nodup := by
  unfold listed listedIn
  have h : ((List.range 8).filter (bitB s)).Nodup := List.Pairwise.filter _ List.nodup_range
  unfold List.Nodup at h ⊢
  rw [List.pairwise_map]
  exact h.imp fun hab e => hab (by exact_mod_cast e)
theorem pow_cases {b : Nat} (h1 : 1 ≤ b) (h8 : b ≤ 8) : 2 ^ b ≤ 256 ∧ 2 ≤ 2 ^ b := by
  have h := Nat.pow_le_pow_right (n := 2) (by omega) h8
  have h2 := Nat.pow_le_pow_right (n := 2) (by omega) h1
  omega
theorem listed_in {b x : Nat} (h8 : b ≤ 8) (hx : x < 2 ^ b) : ∀ q ∈ listed x, 0 ≤ q ∧ q < (b : Int) := fun q hq => by
  have h0 := (mem_listed hq).1
  obtain ⟨n, rfl⟩ : ∃ n : Nat, q = n := ⟨q.toNat, by omega⟩
  have h1 := (listed_bit hq).1
  have h2 : n < b := (Nat.pow_lt_pow_iff_right (by omega : 1 < 2)).1 (Nat.lt_of_le_of_lt h1 hx)
  omega
end Go.Proofs.Ytkeiajncmhkdmaa
