/-
  TopFallenBox: every board, every two levels.
-/
import Derived.Test.YtibmpjhffeinoaaGreatFc
import Derived.Test.YtibmpjhffeinoaaGreatFg0
import Derived.Test.YtibmpjhffeinoaaGreatFg1
import Derived.Test.YtibmpjhffeinoaaGreatFg2
import Derived.Test.YtibmpjhffeinoaaGreatFg3
import Derived.Test.YtibmpjhffeinoaaGreatFg4
import Derived.Test.YtibmpjhffeinoaaGreatBo
namespace Go.Proofs.YtibmpjhffeinoaaGreat.Kx
open Go Go.RowKit

section
variable (hl : ∀ f ∈ [37], YesFn Tryz.prog f) {W : World}
include hl
theorem good_all {A A0 A1 A' : Addr} {c c0 c1 c' : Nat} {p0 p1 p2 y0 y1 y2 x1 x2 : Int} (hb : Brd W A A0 A1 A' c c0 c1 c' p0 p1 p2 y0 y1 y2) (h0 : 0 ≤ p0 ∧ p0 ≤ 10) (h1 : 0 ≤ p1 ∧ p1 ≤ 10) (h2 : 0 ≤ p2 ∧ p2 ≤ 10) (h3 : 0 ≤ y0 ∧ y0 ≤ 500) (h4 : 0 ≤ y1 ∧ y1 ≤ 500) (h5 : 0 ≤ y2 ∧ y2 ≤ 500)
    (g1 : 0 ≤ x1 ∧ x1 ≤ 255) (g2 : 0 ≤ x2 ∧ x2 ≤ 255) : CallsIn (Fro none) 0 Tryz.prog 9 #[.agg #[.slice (some A) 2 c, .slice (some A') 3 c'], .int .u8 x1, .int .u8 x2] W (Yes W) := by
  obtain ⟨R0, R1, R2, S0, S1, S2, M0, M1, M2, N0, N1, N2, r1, r2, q1, q2, w0, w2, v0, v2, F, e1, e2⟩ := FV.of h0 h1 h2 h3 h4 h5 g1 g2
  have hw := F.hw
  have hv := F.hv
  rcases Int.lt_trichotomy w0 v0 with a1 | a1 | a1
  · rcases Int.lt_trichotomy w2 v2 with a2 | a2 | a2
    · exact fal_mm (a := w0) (c := w2) (d := v0 - w0) (e := v2 - w2) hl hb F e1 e2 (by omega) (by omega) (by omega) (by omega) (by omega) (by omega) (by omega) (by omega)
    · exact fal_mz (a := w0) (c := w2) (d := v0 - w0) (e := 0) hl hb F e1 e2 (by omega) (by omega) (by omega) (by omega) (by omega) (by omega) (by omega) (by omega)
    · rcases Int.lt_trichotomy (v0 - w0) (w2 - v2) with a3 | a3 | a3
      · exact fal_mpl (a := w0) (c := v2) (d := v0 - w0) (e := w2 - v2 - (v0 - w0)) hl hb F e1 e2 (by omega) (by omega) (by omega) (by omega) (by omega) (by omega) (by omega) (by omega)
      · exact fal_mpq (a := w0) (c := v2) (d := v0 - w0) (e := 0) hl hb F e1 e2 (by omega) (by omega) (by omega) (by omega) (by omega) (by omega) (by omega) (by omega)
      · exact fal_mpg (a := w0) (c := v2) (d := v0 - w0 - (w2 - v2)) (e := w2 - v2) hl hb F e1 e2 (by omega) (by omega) (by omega) (by omega) (by omega) (by omega) (by omega) (by omega)
  · rcases Int.lt_trichotomy w2 v2 with a2 | a2 | a2
    · exact fal_zm (a := w0) (c := w2) (d := 0) (e := v2 - w2) hl hb F e1 e2 (by omega) (by omega) (by omega) (by omega) (by omega) (by omega) (by omega) (by omega)
    · exact fal_same (a := w0) (c := w2) (d := 0) (e := 0) hl hb F e1 e2 (by omega) (by omega) (by omega) (by omega) (by omega) (by omega) (by omega) (by omega)
    · exact fal_zp (a := w0) (c := v2) (d := 0) (e := w2 - v2) hl hb F e1 e2 (by omega) (by omega) (by omega) (by omega) (by omega) (by omega) (by omega) (by omega)
  · rcases Int.lt_trichotomy w2 v2 with a2 | a2 | a2
    · rcases Int.lt_trichotomy (w0 - v0) (v2 - w2) with a3 | a3 | a3
      · exact fal_pml (a := v0) (c := w2) (d := w0 - v0) (e := v2 - w2 - (w0 - v0)) hl hb F e1 e2 (by omega) (by omega) (by omega) (by omega) (by omega) (by omega) (by omega) (by omega)
      · exact fal_pmq (a := v0) (c := w2) (d := w0 - v0) (e := 0) hl hb F e1 e2 (by omega) (by omega) (by omega) (by omega) (by omega) (by omega) (by omega) (by omega)
      · exact fal_pmg (a := v0) (c := w2) (d := w0 - v0 - (v2 - w2)) (e := v2 - w2) hl hb F e1 e2 (by omega) (by omega) (by omega) (by omega) (by omega) (by omega) (by omega) (by omega)
    · exact fal_pz (a := v0) (c := w2) (d := w0 - v0) (e := 0) hl hb F e1 e2 (by omega) (by omega) (by omega) (by omega) (by omega) (by omega) (by omega) (by omega)
    · exact fal_pp (a := v0) (c := v2) (d := w0 - v0) (e := w2 - v2) hl hb F e1 e2 (by omega) (by omega) (by omega) (by omega) (by omega) (by omega) (by omega) (by omega)
theorem wFallen0 {v : Value} {Ls : List (List Int)} {ys : List Int} (hB : Board W v Ls ys) (x1 x2 : Int) (g1 : 0 ≤ x1 ∧ x1 ≤ 255) (g2 : 0 ≤ x2 ∧ x2 ≤ 255) : Calls Tryz.prog 9 #[v, .int .u8 x1, .int .u8 x2] W (Yes W) := by
  obtain ⟨A, n, c, v', vs, rfl, hLn, hnc, hcm, hvs, hA, hrow, A', n', c', rfl, hyn, hnc', hcm', hA', hyr⟩ := hB
  have key : CallsIn (Fro none) 0 Tryz.prog 9 #[.agg #[.slice A n c, .slice A' n' c'], .int .u8 x1, .int .u8 x2] W (Yes W) := by
    by_cases hn : n = 2
    · subst hn
      obtain ⟨a, rfl, hCl⟩ := hA (by omega)
      match Ls, hLn, vs, hvs with
      | [L0, L1], _, [u0, u1], _ =>
      obtain ⟨u, e0, A0, n0, c0, rfl, hl0, hn0, hm0, hA0, hr0⟩ := hrow 0 L0 rfl
      obtain ⟨u', e1, A1, n1, c1, rfl, hl1, hn1, hm1, hA1, hr1⟩ := hrow 1 L1 rfl
      cases e0
      cases e1
      by_cases q0 : n0 = 0
      · exact bad_lens hl hnc hCl fn0 ⟨by omega, by omega⟩ ⟨by omega, by omega⟩ ⟨by omega, by omega⟩
      by_cases q1 : 2 ≤ n0
      · exact bad_lens hl hnc hCl fn1 ⟨by omega, by omega⟩ ⟨by omega, by omega⟩ ⟨by omega, by omega⟩
      by_cases q2 : n1 ≤ 1
      · exact bad_lens hl hnc hCl fn2 ⟨by omega, by omega⟩ ⟨by omega, by omega⟩ ⟨by omega, by omega⟩
      by_cases q3 : 3 ≤ n1
      · exact bad_lens hl hnc hCl fn3 ⟨by omega, by omega⟩ ⟨by omega, by omega⟩ ⟨by omega, by omega⟩
      by_cases q4 : n' ≤ 2
      · exact bad_lens hl hnc hCl fn4 ⟨by omega, by omega⟩ ⟨by omega, by omega⟩ ⟨by omega, by omega⟩
      by_cases q5 : 4 ≤ n'
      · exact bad_lens hl hnc hCl fn5 ⟨by omega, by omega⟩ ⟨by omega, by omega⟩ ⟨by omega, by omega⟩
      obtain rfl : n0 = 1 := by omega
      obtain rfl : n1 = 2 := by omega
      obtain rfl : n' = 3 := by omega
      obtain ⟨a0, rfl, hC0⟩ := hA0 (by omega)
      obtain ⟨a1, rfl, hC1⟩ := hA1 (by omega)
      obtain ⟨a', rfl, hC'⟩ := hA' (by omega)
      match L0, hl0, L1, hl1, ys, hyn with
      | [p0], _, [p1, p2], _, [y0, y1, y2], _ =>
      have hb : Brd W a a0 a1 a' c c0 c1 c' p0 p1 p2 y0 y1 y2 := ⟨hnc, hn0, hn1, hnc', hCl, hC0, hC1, hC'⟩
      by_cases hg : (0 ≤ p0 ∧ p0 ≤ 10) ∧ (0 ≤ p1 ∧ p1 ≤ 10) ∧ (0 ≤ p2 ∧ p2 ≤ 10) ∧ (0 ≤ y0 ∧ y0 ≤ 500) ∧ (0 ≤ y1 ∧ y1 ≤ 500) ∧ (0 ≤ y2 ∧ y2 ≤ 500)
      · obtain ⟨h0, h1, h2, h3, h4, h5⟩ := hg
        exact good_all hl hb h0 h1 h2 h3 h4 h5 g1 g2
      · refine bad_all hl hb (fun x hx => ?_) hg
        simp only [List.mem_cons, List.not_mem_nil, or_false] at hx
        rcases hx with rfl | rfl | rfl | rfl | rfl | rfl
        · exact hr0 _ (by simp)
        · exact hr1 _ (by simp)
        · exact hr1 _ (by simp)
        · exact hyr _ (by simp)
        · exact hyr _ (by simp)
        · exact hyr _ (by simp)
    · by_cases q0 : n ≤ 1
      · exact bad_many hl fm0 ⟨by omega, by omega⟩ (by omega) (by omega)
      · exact bad_many hl fm1 ⟨by omega, by omega⟩ (by omega) (by omega)
  exact CallsIn.calls key fun k => room_wide k
end
end Go.Proofs.YtibmpjhffeinoaaGreat.Kx
