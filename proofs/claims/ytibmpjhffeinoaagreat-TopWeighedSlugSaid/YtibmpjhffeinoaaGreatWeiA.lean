/-
  TopWeighedSlug: the runs, for each number of coppers, and each kind.
-/
import Derived.Test.YtibmpjhffeinoaaGreatY5
import Derived.Test.YtibmpjhffeinoaaGreatM7
namespace Go.Proofs.YtibmpjhffeinoaaGreat.Kx
open Go Go.RowKit

noncomputable def weiB (r : Int) (b : Bool) : Bool := isVal (run (exeY [36] mes7) 100000 (.call (.func 7) [.lin .u8 r [(5, 0, 51)], .bool b] noH)) isTrue
theorem wei0t : weiB 0 true = true := by decide +kernel
theorem wei0f : weiB 0 false = true := by decide +kernel
theorem wei1t : weiB 1 true = true := by decide +kernel
theorem wei1f : weiB 1 false = true := by decide +kernel
theorem wei2t : weiB 2 true = true := by decide +kernel
theorem wei2f : weiB 2 false = true := by decide +kernel
theorem wei3t : weiB 3 true = true := by decide +kernel
theorem wei3f : weiB 3 false = true := by decide +kernel
theorem wei4t : weiB 4 true = true := by decide +kernel
theorem wei4f : weiB 4 false = true := by decide +kernel
theorem wei_all (r : Nat) (hr : r < 5) (b : Bool) : weiB (r : Int) b = true := by
  have h : r = 0 ∨ r = 1 ∨ r = 2 ∨ r = 3 ∨ r = 4 := by omega
  rcases h with rfl | rfl | rfl | rfl | rfl <;> cases b
  · exact wei0f
  · exact wei0t
  · exact wei1f
  · exact wei1t
  · exact wei2f
  · exact wei2t
  · exact wei3f
  · exact wei3t
  · exact wei4f
  · exact wei4t
theorem wWeighed (x : Int) (b : Bool) (hx : 0 ≤ x ∧ x ≤ 255) (w : World) : Calls Tryz.prog 7 #[.int .u8 x, .bool b] w (Yes w) := by
  letI : Val := ⟨fun _ => x / 5, fun _ => .nilFunc⟩
  letI : Bet := bet0
  have hr : ((x % 5).toNat : Int) = x % 5 := Int.toNat_of_nonneg (Int.emod_nonneg _ (by decide))
  have hb := wei_all (x % 5).toNat (by omega) b
  rw [hr] at hb
  have hv : VRs phi0 [.lin .u8 (x % 5) [(5, 0, 51)], .bool b] [.int .u8 x, .bool b] := by
    refine .cons _ _ _ _ (.lin _ _ _ _ ?_ ⟨⟨?_, ?_⟩, trivial⟩) (.cons _ _ _ _ (.bool _) .nil)
    · show x = x % 5 + (5 * (x / 5) + 0)
      omega
    · show 0 ≤ x / 5
      omega
    · show x / 5 ≤ 51
      omega
  exact CallsIn.calls (callsIn_yes (l := [36]) (ms := mes7) (fun f hf => by
    simp only [List.mem_cons, List.not_mem_nil, or_false] at hf
    subst hf
    exact yes36) mos7 hb hv w 0) fun k => room_wide k
end Go.Proofs.YtibmpjhffeinoaaGreat.Kx
