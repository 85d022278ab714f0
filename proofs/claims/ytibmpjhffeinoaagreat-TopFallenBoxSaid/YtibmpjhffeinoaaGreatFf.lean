/-
  TopFallenBox: the numbers of a valid board of two rows, at two levels.
-/
import Derived.Test.YtibmpjhffeinoaaGreatFb
namespace Go.Proofs.YtibmpjhffeinoaaGreat.Kx
open Go Go.RowKit

structure FV (R0 R1 R2 S0 S1 S2 M0 M1 M2 N0 N1 N2 p0 p1 p2 r1 r2 q1 q2 y0 y1 y2 w0 w2 v0 v2 : Int) : Prop where
  b4 : 0 ≤ R0 ∧ R0 ≤ 10
  b5 : 0 ≤ R1 ∧ R1 ≤ 10
  b6 : 0 ≤ R2 ∧ R2 ≤ 10
  b7 : 0 ≤ S0 ∧ S0 ≤ 10
  b8 : 0 ≤ S1 ∧ S1 ≤ 10
  b9 : 0 ≤ S2 ∧ S2 ≤ 10
  b10 : 0 ≤ M0 ∧ M0 ≤ 15
  b11 : 0 ≤ M1 ∧ M1 ≤ 15
  b12 : 0 ≤ M2 ∧ M2 ≤ 15
  b13 : 0 ≤ N0 ∧ N0 ≤ 15
  b14 : 0 ≤ N1 ∧ N1 ≤ 15
  b15 : 0 ≤ N2 ∧ N2 ≤ 15
  b16 : 0 ≤ p0 ∧ p0 ≤ 10
  b17 : 0 ≤ p1 ∧ p1 ≤ 10
  b18 : 0 ≤ p2 ∧ p2 ≤ 10
  b19 : 0 ≤ r1 ∧ r1 ≤ 10
  b20 : 0 ≤ r2 ∧ r2 ≤ 10
  b21 : 0 ≤ q1 ∧ q1 ≤ 23
  b22 : 0 ≤ q2 ∧ q2 ≤ 23
  b23 : 0 ≤ y0 ∧ y0 ≤ 500
  b24 : 0 ≤ y1 ∧ y1 ≤ 500
  b25 : 0 ≤ y2 ∧ y2 ≤ 500
  m0 : M0 = if 0 < p0 + r1 - 5 then p0 + r1 - 5 else 0
  k0 : R0 = if M0 < 10 then M0 else 10
  m1 : M1 = if 0 < p1 + r1 - 5 then p1 + r1 - 5 else 0
  k1 : R1 = if M1 < 10 then M1 else 10
  m2 : M2 = if 0 < p2 + r1 - 5 then p2 + r1 - 5 else 0
  k2 : R2 = if M2 < 10 then M2 else 10
  m3 : N0 = if 0 < p0 + r2 - 5 then p0 + r2 - 5 else 0
  k3 : S0 = if N0 < 10 then N0 else 10
  m4 : N1 = if 0 < p1 + r2 - 5 then p1 + r2 - 5 else 0
  k4 : S1 = if N1 < 10 then N1 else 10
  m5 : N2 = if 0 < p2 + r2 - 5 then p2 + r2 - 5 else 0
  k5 : S2 = if N2 < 10 then N2 else 10
  f0 : (10 - R0) * (10 - R1) = w0
  f1 : (10 - R0) * R1 = 100 - 10 * R0 - w0
  f2 : R0 * (10 - R2) = 10 * R0 - w2
  f3 : R0 * R2 = w2
  hw : 0 ≤ w0 ∧ 0 ≤ w2 ∧ w0 + w2 ≤ 100
  f4 : (10 - S0) * (10 - S1) = v0
  f5 : (10 - S0) * S1 = 100 - 10 * S0 - v0
  f6 : S0 * (10 - S2) = 10 * S0 - v2
  f7 : S0 * S2 = v2
  hv : 0 ≤ v0 ∧ 0 ≤ v2 ∧ v0 + v2 ≤ 100
def mx (p r : Int) : Int := if 0 < p + r - 5 then p + r - 5 else 0
def rt (p r : Int) : Int := if mx p r < 10 then mx p r else 10
theorem mx_b {p r : Int} (hp : 0 ≤ p ∧ p ≤ 10) (hr : 0 ≤ r ∧ r ≤ 10) : 0 ≤ mx p r ∧ mx p r ≤ 15 := by unfold mx; split <;> omega
theorem rt_b {p r : Int} (hp : 0 ≤ p ∧ p ≤ 10) (hr : 0 ≤ r ∧ r ≤ 10) : 0 ≤ rt p r ∧ rt p r ≤ 10 := by
  have := mx_b hp hr
  unfold rt
  split <;> omega
theorem prods {R0 R1 R2 : Int} (h0 : 0 ≤ R0 ∧ R0 ≤ 10) (h1 : 0 ≤ R1 ∧ R1 ≤ 10) (h2 : 0 ≤ R2 ∧ R2 ≤ 10) : (10 - R0) * R1 = 100 - 10 * R0 - (10 - R0) * (10 - R1) ∧ R0 * (10 - R2) = 10 * R0 - R0 * R2 ∧ 0 ≤ (10 - R0) * (10 - R1) ∧ 0 ≤ R0 * R2 ∧ (10 - R0) * (10 - R1) + R0 * R2 ≤ 100 := by
  have e1 : (10 - R0) * (10 - R1) = (10 - R0) * 10 - (10 - R0) * R1 := Int.mul_sub _ _ _
  have e2 : R0 * (10 - R2) = R0 * 10 - R0 * R2 := Int.mul_sub _ _ _
  have n1 : 0 ≤ (10 - R0) * (10 - R1) := Int.mul_nonneg (by omega) (by omega)
  have n2 : 0 ≤ (10 - R0) * R1 := Int.mul_nonneg (by omega) (by omega)
  have n3 : 0 ≤ R0 * (10 - R2) := Int.mul_nonneg (by omega) (by omega)
  have n4 : 0 ≤ R0 * R2 := Int.mul_nonneg (by omega) (by omega)
  generalize (10 - R0) * (10 - R1) = A at *
  generalize (10 - R0) * R1 = B at *
  generalize R0 * (10 - R2) = C at *
  generalize R0 * R2 = D at *
  omega
theorem FV.of {p0 p1 p2 y0 y1 y2 x1 x2 : Int} (h0 : 0 ≤ p0 ∧ p0 ≤ 10) (h1 : 0 ≤ p1 ∧ p1 ≤ 10) (h2 : 0 ≤ p2 ∧ p2 ≤ 10) (h3 : 0 ≤ y0 ∧ y0 ≤ 500) (h4 : 0 ≤ y1 ∧ y1 ≤ 500) (h5 : 0 ≤ y2 ∧ y2 ≤ 500) (g1 : 0 ≤ x1 ∧ x1 ≤ 255) (g2 : 0 ≤ x2 ∧ x2 ≤ 255) :
    ∃ R0 R1 R2 S0 S1 S2 M0 M1 M2 N0 N1 N2 r1 r2 q1 q2 w0 w2 v0 v2 : Int, FV R0 R1 R2 S0 S1 S2 M0 M1 M2 N0 N1 N2 p0 p1 p2 r1 r2 q1 q2 y0 y1 y2 w0 w2 v0 v2 ∧ x1 = r1 + 11 * q1 ∧ x2 = r2 + 11 * q2 := by
  have k1 : 0 ≤ x1 % 11 ∧ x1 % 11 ≤ 10 := by omega
  have k2 : 0 ≤ x2 % 11 ∧ x2 % 11 ≤ 10 := by omega
  have e10 := rt_b h0 k1
  have e11 := rt_b h1 k1
  have e12 := rt_b h2 k1
  obtain ⟨u11, u12, u13, u14, u15⟩ := prods e10 e11 e12
  have e20 := rt_b h0 k2
  have e21 := rt_b h1 k2
  have e22 := rt_b h2 k2
  obtain ⟨u21, u22, u23, u24, u25⟩ := prods e20 e21 e22
  exact ⟨rt p0 (x1 % 11), rt p1 (x1 % 11), rt p2 (x1 % 11), rt p0 (x2 % 11), rt p1 (x2 % 11), rt p2 (x2 % 11), mx p0 (x1 % 11), mx p1 (x1 % 11), mx p2 (x1 % 11), mx p0 (x2 % 11), mx p1 (x2 % 11), mx p2 (x2 % 11), x1 % 11, x2 % 11, x1 / 11, x2 / 11, (10 - rt p0 (x1 % 11)) * (10 - rt p1 (x1 % 11)), rt p0 (x1 % 11) * rt p2 (x1 % 11), (10 - rt p0 (x2 % 11)) * (10 - rt p1 (x2 % 11)), rt p0 (x2 % 11) * rt p2 (x2 % 11),
    ⟨e10, e11, e12, e20, e21, e22, mx_b h0 k1, mx_b h1 k1, mx_b h2 k1, mx_b h0 k2, mx_b h1 k2, mx_b h2 k2, h0, h1, h2, k1, k2, ⟨by omega, by omega⟩, ⟨by omega, by omega⟩, h3, h4, h5, rfl, rfl, rfl, rfl, rfl, rfl, rfl, rfl, rfl, rfl, rfl, rfl, rfl, u11, u12, rfl, ⟨u13, u14, u15⟩, rfl, u21, u22, rfl, ⟨u23, u24, u25⟩⟩, by omega, by omega⟩
end Go.Proofs.YtibmpjhffeinoaaGreat.Kx
