/-
  TopPairedLedge: boards of so many rows that are not valid: the runs.
-/
import Derived.Test.YtibmpjhffeinoaaGreatR
namespace Go.Proofs.YtibmpjhffeinoaaGreat.Kx
open Go Go.RowKit

namespace V1
theorem bp : oneL 5 21 1 (anyL 1 8) = true := by decide +kernel
theorem bl0 : fromN (bothL 5 21 1 8) 0 2 = true := by decide +kernel
theorem bl : ∀ k, k ≤ 1 → bothL 5 21 1 8 k = true := fun k hk => fromN_true bl0 k (Nat.zero_le _) (by omega)
theorem bv0 : fromN (bothV 5 21 1) 0 3 = true := by decide +kernel
theorem bv : ∀ k, k < tri 1 2 → bothV 5 21 1 k = true := fun k hk => by
  have hk : k < 3 := hk
  exact fromN_true bv0 k (by omega) (by omega)
end V1
namespace V2
theorem bp : oneL 5 21 2 (anyL 2 8) = true := by decide +kernel
theorem bl0 : fromN (bothL 5 21 2 8) 0 3 = true := by decide +kernel
theorem bl : ∀ k, k ≤ 2 → bothL 5 21 2 8 k = true := fun k hk => fromN_true bl0 k (Nat.zero_le _) (by omega)
theorem bv0 : fromN (bothV 5 21 2) 0 6 = true := by decide +kernel
theorem bv : ∀ k, k < tri 2 3 → bothV 5 21 2 k = true := fun k hk => by
  have hk : k < 6 := hk
  exact fromN_true bv0 k (by omega) (by omega)
end V2
namespace V3
theorem bp : oneL 5 21 3 (anyL 3 8) = true := by decide +kernel
theorem bl0 : fromN (bothL 5 21 3 8) 0 4 = true := by decide +kernel
theorem bl : ∀ k, k ≤ 3 → bothL 5 21 3 8 k = true := fun k hk => fromN_true bl0 k (Nat.zero_le _) (by omega)
theorem bv0 : fromN (bothV 5 21 3) 0 9 = true := by decide +kernel
theorem bv1 : fromN (bothV 5 21 3) 9 1 = true := by decide +kernel
theorem bv : ∀ k, k < tri 3 4 → bothV 5 21 3 k = true := fun k hk => by
  have hk : k < 10 := hk
  by_cases h0 : k < 9
  · exact fromN_true bv0 k (by omega) (by omega)
  exact fromN_true bv1 k (by omega) (by omega)
end V3
namespace V4
theorem bp : oneL 5 21 4 (anyL 4 8) = true := by decide +kernel
theorem bl0 : fromN (bothL 5 21 4 8) 0 5 = true := by decide +kernel
theorem bl : ∀ k, k ≤ 4 → bothL 5 21 4 8 k = true := fun k hk => fromN_true bl0 k (Nat.zero_le _) (by omega)
theorem bv0 : fromN (bothV 5 21 4) 0 9 = true := by decide +kernel
theorem bv1 : fromN (bothV 5 21 4) 9 6 = true := by decide +kernel
theorem bv : ∀ k, k < tri 4 5 → bothV 5 21 4 k = true := fun k hk => by
  have hk : k < 15 := hk
  by_cases h0 : k < 9
  · exact fromN_true bv0 k (by omega) (by omega)
  exact fromN_true bv1 k (by omega) (by omega)
end V4
end Go.Proofs.YtibmpjhffeinoaaGreat.Kx
