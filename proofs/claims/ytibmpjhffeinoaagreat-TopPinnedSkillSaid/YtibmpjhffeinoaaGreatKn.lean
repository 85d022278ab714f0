/-
  TopPinnedSkill: every board, every level, every slot: joined.
-/
import Derived.Test.YtibmpjhffeinoaaGreatKl
import Derived.Test.YtibmpjhffeinoaaGreatPn
namespace Go.Proofs.YtibmpjhffeinoaaGreat.Kx
open Go Go.RowKit

theorem wPinned (hl : ∀ f ∈ [11], YesFn Tryz.prog f) {W : World} {v : Value} {Ls : List (List Int)} {ys : List Int} (hB : Board W v Ls ys) (x1 x2 : Int) (h1 : 0 ≤ x1 ∧ x1 ≤ 255) (h2 : 0 ≤ x2 ∧ x2 ≤ 255) : Calls Tryz.prog 4 #[v, .int .u8 x1, .int .u8 x2] W (Yes W) := by
  have key : CallsIn (Fro none) 0 Tryz.prog 4 #[v, .int .u8 x1, .int .u8 x2] W (Yes W) := by
    have hB' := hB
    obtain ⟨A, n, c, v', vs, rfl, hLn, hnc, hcm, _, _, _, A', m, c', rfl, hyn, hmc, hm, _⟩ := hB'
    have h11 : YesFn Tryz.prog 11 := hl 11 (by simp)
    by_cases q0 : n = 0
    · exact bad_two hl qt0 ⟨by omega, by omega⟩ ⟨by omega, by omega⟩
    by_cases q1 : 4 ≤ n
    · exact bad_two hl qt1 ⟨by omega, by omega⟩ ⟨by omega, by omega⟩
    rcases (show n = 1 ∨ n = 2 ∨ n = 3 by omega) with h | h | h
    · exact all_n (n := 1) (P := 9223372036854775807) (by omega) hl (fun h => absurd h (Nat.lt_irrefl _)) U1.bl U1.bv (fun _ _ _ _ _ _ q hb hp hy => callsIn_wide.2 (pinned_valid (p := fun r k => q (tri r k)) (y := fun i => q (tri 1 i)) h11 hb hp hy (by omega) (by omega) x1 x2 h1 h2)) hB (by omega)
    · exact all_n (n := 2) (P := 9223372036854775807) (by omega) hl (fun h => absurd h (Nat.lt_irrefl _)) U2.bl U2.bv (fun _ _ _ _ _ _ q hb hp hy => callsIn_wide.2 (pinned_valid (p := fun r k => q (tri r k)) (y := fun i => q (tri 2 i)) h11 hb hp hy (by omega) (by omega) x1 x2 h1 h2)) hB (by omega)
    · exact all_n (n := 3) (P := 9223372036854775807) (by omega) hl (fun h => absurd h (Nat.lt_irrefl _)) U3.bl U3.bv (fun _ _ _ _ _ _ q hb hp hy => callsIn_wide.2 (pinned_valid (p := fun r k => q (tri r k)) (y := fun i => q (tri 3 i)) h11 hb hp hy (by omega) (by omega) x1 x2 h1 h2)) hB (by omega)
  exact CallsIn.calls key fun k => room_wide k
end Go.Proofs.YtibmpjhffeinoaaGreat.Kx
