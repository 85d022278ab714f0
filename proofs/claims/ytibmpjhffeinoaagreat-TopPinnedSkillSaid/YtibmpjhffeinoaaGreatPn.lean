/-
  TopPinnedSkill: boards that are not valid: the runs.
-/
import Derived.Test.YtibmpjhffeinoaaGreatR
namespace Go.Proofs.YtibmpjhffeinoaaGreat.Kx
open Go Go.RowKit

theorem qt0 : isVal (run (exeV 11) 2000 (.call (.func 4) (aT 0 0 0 9223372036854775807) noH)) isTrue = true := by decide +kernel
theorem qt1 : isVal (run (exeV 11) 2000 (.call (.func 4) (aT 4 9223372036854775807 0 9223372036854775807) noH)) isTrue = true := by decide +kernel
namespace U1
theorem bl0 : fromN (bothL 4 11 1 9223372036854775807) 0 2 = true := by decide +kernel
theorem bl : ∀ k, k ≤ 1 → bothL 4 11 1 9223372036854775807 k = true := fun k hk => fromN_true bl0 k (Nat.zero_le _) (by omega)
theorem bv0 : fromN (bothV 4 11 1) 0 3 = true := by decide +kernel
theorem bv : ∀ k, k < tri 1 2 → bothV 4 11 1 k = true := fun k hk => fromN_true bv0 k (Nat.zero_le _) (by have hk : k < 3 := hk; omega)
end U1
namespace U2
theorem bl0 : fromN (bothL 4 11 2 9223372036854775807) 0 3 = true := by decide +kernel
theorem bl : ∀ k, k ≤ 2 → bothL 4 11 2 9223372036854775807 k = true := fun k hk => fromN_true bl0 k (Nat.zero_le _) (by omega)
theorem bv0 : fromN (bothV 4 11 2) 0 6 = true := by decide +kernel
theorem bv : ∀ k, k < tri 2 3 → bothV 4 11 2 k = true := fun k hk => fromN_true bv0 k (Nat.zero_le _) (by have hk : k < 6 := hk; omega)
end U2
namespace U3
theorem bl0 : fromN (bothL 4 11 3 9223372036854775807) 0 4 = true := by decide +kernel
theorem bl : ∀ k, k ≤ 3 → bothL 4 11 3 9223372036854775807 k = true := fun k hk => fromN_true bl0 k (Nat.zero_le _) (by omega)
theorem bv0 : fromN (bothV 4 11 3) 0 10 = true := by decide +kernel
theorem bv : ∀ k, k < tri 3 4 → bothV 4 11 3 k = true := fun k hk => fromN_true bv0 k (Nat.zero_le _) (by have hk : k < 10 := hk; omega)
end U3
end Go.Proofs.YtibmpjhffeinoaaGreat.Kx
