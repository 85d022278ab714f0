/-
  TopPairedLedge: every board, every two levels.
-/
import Derived.Test.YtibmpjhffeinoaaGreatPm0
import Derived.Test.YtibmpjhffeinoaaGreatPm1
import Derived.Test.YtibmpjhffeinoaaGreatPm2
import Derived.Test.YtibmpjhffeinoaaGreatPm3
import Derived.Test.YtibmpjhffeinoaaGreatPb0
import Derived.Test.YtibmpjhffeinoaaGreatPb1
import Derived.Test.YtibmpjhffeinoaaGreatPb2
import Derived.Test.YtibmpjhffeinoaaGreatPb3
namespace Go.Proofs.YtibmpjhffeinoaaGreat.Kx
open Go Go.RowKit

theorem pt0 : isVal (run (exeV 21) 2000 (.call (.func 5) (aT 0 0 0 8) noH)) isTrue = true := by decide +kernel
theorem pt1 : isVal (run (exeV 21) 2000 (.call (.func 5) (aT 0 0 9 9223372036854775807) noH)) isTrue = true := by decide +kernel
theorem pt2 : isVal (run (exeV 21) 2000 (.call (.func 5) (aT 8 9223372036854775807 0 9223372036854775807) noH)) isTrue = true := by decide +kernel
theorem wPaired (hl : ∀ f ∈ [21], YesFn Tryz.prog f) {W : World} {v : Value} {Ls : List (List Int)} {ys : List Int} (hB : Board W v Ls ys) (x1 x2 : Int) (h1 : 0 ≤ x1 ∧ x1 ≤ 255) (h2 : 0 ≤ x2 ∧ x2 ≤ 255) : Calls Tryz.prog 5 #[v, .int .u8 x1, .int .u8 x2] W (Yes W) := by
  have key : CallsIn (Fro none) 0 Tryz.prog 5 #[v, .int .u8 x1, .int .u8 x2] W (Yes W) := by
    have hB' := hB
    obtain ⟨A, n, c, v', vs, rfl, hLn, hnc, hcm, _, _, _, A', m, c', rfl, hyn, hmc, hm, _⟩ := hB'
    by_cases q0 : n = 0
    · by_cases q1 : m ≤ 8
      · exact bad_two hl pt0 ⟨by omega, by omega⟩ ⟨by omega, by omega⟩
      · exact bad_two hl pt1 ⟨by omega, by omega⟩ ⟨by omega, by omega⟩
    by_cases q1 : 8 ≤ n
    · exact bad_two hl pt2 ⟨by omega, by omega⟩ ⟨by omega, by omega⟩
    rcases (show n = 1 ∨ n = 2 ∨ n = 3 ∨ n = 4 ∨ n = 5 ∨ n = 6 ∨ n = 7 by omega) with h | h | h | h | h | h | h
    · exact all_n (n := 1) (P := 8) (by omega) hl V1.bp V1.bl V1.bv (fun _ _ _ _ _ _ _ hb hp hy => M1.fin hp hy h1 h2 hl hb) hB (by omega)
    · exact all_n (n := 2) (P := 8) (by omega) hl V2.bp V2.bl V2.bv (fun _ _ _ _ _ _ _ hb hp hy => M2.fin hp hy h1 h2 hl hb) hB (by omega)
    · exact all_n (n := 3) (P := 8) (by omega) hl V3.bp V3.bl V3.bv (fun _ _ _ _ _ _ _ hb hp hy => M3.fin hp hy h1 h2 hl hb) hB (by omega)
    · exact all_n (n := 4) (P := 8) (by omega) hl V4.bp V4.bl V4.bv (fun _ _ _ _ _ _ _ hb hp hy => M4.fin hp hy h1 h2 hl hb) hB (by omega)
    · exact all_n (n := 5) (P := 8) (by omega) hl V5.bp V5.bl V5.bv (fun _ _ _ _ _ _ _ hb hp hy => M5.fin hp hy h1 h2 hl hb) hB (by omega)
    · exact all_n (n := 6) (P := 8) (by omega) hl V6.bp V6.bl V6.bv (fun _ _ _ _ _ _ _ hb hp hy => M6.fin hp hy h1 h2 hl hb) hB (by omega)
    · exact all_n (n := 7) (P := 8) (by omega) hl V7.bp V7.bl V7.bv (fun _ _ _ _ _ _ _ hb hp hy => M7.fin hp hy h1 h2 hl hb) hB (by omega)
  exact CallsIn.calls key fun k => room_wide k
end Go.Proofs.YtibmpjhffeinoaaGreat.Kx
