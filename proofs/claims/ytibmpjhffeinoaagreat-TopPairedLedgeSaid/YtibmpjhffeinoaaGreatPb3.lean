/-
  TopPairedLedge: boards of so many rows that are not valid: the runs.
-/
import Derived.Test.YtibmpjhffeinoaaGreatR
namespace Go.Proofs.YtibmpjhffeinoaaGreat.Kx
open Go Go.RowKit

namespace V7
theorem bp : oneL 5 21 7 (anyL 7 8) = true := by decide +kernel
theorem bl0 : fromN (bothL 5 21 7 8) 0 8 = true := by decide +kernel
theorem bl : ∀ k, k ≤ 7 → bothL 5 21 7 8 k = true := fun k hk => fromN_true bl0 k (Nat.zero_le _) (by omega)
theorem bv0 : fromN (bothV 5 21 7) 0 9 = true := by decide +kernel
theorem bv1 : fromN (bothV 5 21 7) 9 9 = true := by decide +kernel
theorem bv2 : fromN (bothV 5 21 7) 18 9 = true := by decide +kernel
theorem bv3 : fromN (bothV 5 21 7) 27 9 = true := by decide +kernel
theorem bv : ∀ k, k < tri 7 8 → bothV 5 21 7 k = true := fun k hk => by
  have hk : k < 36 := hk
  by_cases h0 : k < 9
  · exact fromN_true bv0 k (by omega) (by omega)
  by_cases h1 : k < 18
  · exact fromN_true bv1 k (by omega) (by omega)
  by_cases h2 : k < 27
  · exact fromN_true bv2 k (by omega) (by omega)
  exact fromN_true bv3 k (by omega) (by omega)
end V7
end Go.Proofs.YtibmpjhffeinoaaGreat.Kx
