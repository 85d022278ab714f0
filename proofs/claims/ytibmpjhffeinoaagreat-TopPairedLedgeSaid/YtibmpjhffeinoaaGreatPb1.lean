/-
  TopPairedLedge: boards of so many rows that are not valid: the runs.
-/
import Derived.Test.YtibmpjhffeinoaaGreatR
namespace Go.Proofs.YtibmpjhffeinoaaGreat.Kx
open Go Go.RowKit

namespace V5
theorem bp : oneL 5 21 5 (anyL 5 8) = true := by decide +kernel
theorem bl0 : fromN (bothL 5 21 5 8) 0 6 = true := by decide +kernel
theorem bl : ∀ k, k ≤ 5 → bothL 5 21 5 8 k = true := fun k hk => fromN_true bl0 k (Nat.zero_le _) (by omega)
theorem bv0 : fromN (bothV 5 21 5) 0 9 = true := by decide +kernel
theorem bv1 : fromN (bothV 5 21 5) 9 9 = true := by decide +kernel
theorem bv2 : fromN (bothV 5 21 5) 18 3 = true := by decide +kernel
theorem bv : ∀ k, k < tri 5 6 → bothV 5 21 5 k = true := fun k hk => by
  have hk : k < 21 := hk
  by_cases h0 : k < 9
  · exact fromN_true bv0 k (by omega) (by omega)
  by_cases h1 : k < 18
  · exact fromN_true bv1 k (by omega) (by omega)
  exact fromN_true bv2 k (by omega) (by omega)
end V5
end Go.Proofs.YtibmpjhffeinoaaGreat.Kx
