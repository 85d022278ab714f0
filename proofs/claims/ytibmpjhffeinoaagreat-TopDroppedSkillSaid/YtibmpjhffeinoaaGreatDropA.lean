/-
  TopDroppedSkill: the runs, for each number of places, and each beginner.
-/
import Derived.Test.YtibmpjhffeinoaaGreatY4
namespace Go.Proofs.YtibmpjhffeinoaaGreat.Kx
open Go Go.RowKit

noncomputable def dropB (r : Int) (b : Bool) : Bool := isVal (run (exeY [21] []) 100000 (.call (.func 6) [.lin .u8 r [(3, 0, 85)], .bool b] noH)) isTrue
theorem drop0t : dropB 0 true = true := by decide +kernel
theorem drop0f : dropB 0 false = true := by decide +kernel
theorem drop1t : dropB 1 true = true := by decide +kernel
theorem drop1f : dropB 1 false = true := by decide +kernel
theorem drop2t : dropB 2 true = true := by decide +kernel
theorem drop2f : dropB 2 false = true := by decide +kernel
theorem drop_all (r : Nat) (hr : r < 3) (b : Bool) : dropB (r : Int) b = true := by
  have h : r = 0 ∨ r = 1 ∨ r = 2 := by omega
  rcases h with rfl | rfl | rfl <;> cases b
  · exact drop0f
  · exact drop0t
  · exact drop1f
  · exact drop1t
  · exact drop2f
  · exact drop2t
theorem wDropped (x : Int) (b : Bool) (hx : 0 ≤ x ∧ x ≤ 255) (w : World) : Calls Tryz.prog 6 #[.int .u8 x, .bool b] w (Yes w) := by
  letI : Val := ⟨fun _ => x / 3⟩
  letI : Bet := bet0
  have hr : ((x % 3).toNat : Int) = x % 3 := Int.toNat_of_nonneg (Int.emod_nonneg _ (by decide))
  have hb := drop_all (x % 3).toNat (by omega) b
  rw [hr] at hb
  have hv : VRs phi0 [.lin .u8 (x % 3) [(3, 0, 85)], .bool b] [.int .u8 x, .bool b] := by
    refine .cons _ _ _ _ (.lin _ _ _ _ ?_ ⟨⟨?_, ?_⟩, trivial⟩) (.cons _ _ _ _ (.bool _) .nil)
    · show x = x % 3 + (3 * (x / 3) + 0)
      omega
    · show 0 ≤ x / 3
      omega
    · show x / 3 ≤ 85
      omega
  exact CallsIn.calls (callsIn_yes (l := [21]) (ms := []) (fun f hf => by
    simp only [List.mem_cons, List.not_mem_nil, or_false] at hf
    subst hf
    exact yes21) (fun e he => by cases he) hb hv w 0) fun k => room_wide k
end Go.Proofs.YtibmpjhffeinoaaGreat.Kx
