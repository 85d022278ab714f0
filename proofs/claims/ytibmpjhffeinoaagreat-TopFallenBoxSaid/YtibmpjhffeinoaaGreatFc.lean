/-
  TopFallenBox: the runs of boards that are not valid, or not of two rows.
-/
import Derived.Test.YtibmpjhffeinoaaGreatFb
namespace Go.Proofs.YtibmpjhffeinoaaGreat.Kx
open Go Go.RowKit

noncomputable section
def exeP : Exe := exeO [] [37] []
def hV (l0 u0 l1 u1 l2 u2 l3 u3 l4 u4 l5 u5 : Int) : AH := hB (.lin .i64 0 [(1, l0, u0)]) (.lin .i64 0 [(0, l0, u0), (1, l1, u1)]) (.lin .i64 0 [(0, l0, u0), (0, l1, u1), (1, l2, u2)]) (.lin .i64 0 [(0, l0, u0), (0, l1, u1), (0, l2, u2), (1, l3, u3)]) (.lin .i64 0 [(0, l0, u0), (0, l1, u1), (0, l2, u2), (0, l3, u3), (1, l4, u4)]) (.lin .i64 0 [(0, l0, u0), (0, l1, u1), (0, l2, u2), (0, l3, u3), (0, l4, u4), (1, l5, u5)])
def aV : List AV := [.agg [.sl (some (0, 0)) 2 (.u 1), .sl (some (3, 0)) 3 (.u 1)], .any, .any]
def hN (l0 u0 l1 u1 : Int) : AH := hL (.exS 2 0 [(1, l0, u0)]) (.exS 3 0 [(0, l0, u0), (1, l1, u1)])
def aN (l0 u0 l1 u1 l2 u2 : Int) : List AV := [.agg [.sl (some (0, 0)) 2 (.u 1), .exS 4 0 [(0, l0, u0), (0, l1, u1), (1, l2, u2)]], .any, .any]
def aM (l0 u0 : Int) : List AV := [.agg [.exS 2 0 [(1, l0, u0)], .exS 4 0 [(0, l0, u0), (0, 0, 9223372036854775807), (1, 0, 9223372036854775807)]], .any, .any]
theorem fm0 : isVal (run exeP 2000 (.call (.func 9) (aM (0) (1)) noH)) isTrue = true := by decide +kernel
theorem fm1 : isVal (run exeP 2000 (.call (.func 9) (aM (3) (9223372036854775807)) noH)) isTrue = true := by decide +kernel
theorem fn0 : isVal (run exeP 2000 (.call (.func 9) (aN (0) (0) (0) (9223372036854775807) (0) (9223372036854775807)) (hN (0) (0) (0) (9223372036854775807)))) isTrue = true := by decide +kernel
theorem fn1 : isVal (run exeP 2000 (.call (.func 9) (aN (2) (9223372036854775807) (0) (9223372036854775807) (0) (9223372036854775807)) (hN (2) (9223372036854775807) (0) (9223372036854775807)))) isTrue = true := by decide +kernel
theorem fn2 : isVal (run exeP 2000 (.call (.func 9) (aN (1) (1) (0) (1) (0) (9223372036854775807)) (hN (1) (1) (0) (1)))) isTrue = true := by decide +kernel
theorem fn3 : isVal (run exeP 2000 (.call (.func 9) (aN (1) (1) (3) (9223372036854775807) (0) (9223372036854775807)) (hN (1) (1) (3) (9223372036854775807)))) isTrue = true := by decide +kernel
theorem fn4 : isVal (run exeP 2000 (.call (.func 9) (aN (1) (1) (2) (2) (0) (2)) (hN (1) (1) (2) (2)))) isTrue = true := by decide +kernel
theorem fn5 : isVal (run exeP 2000 (.call (.func 9) (aN (1) (1) (2) (2) (4) (9223372036854775807)) (hN (1) (1) (2) (2)))) isTrue = true := by decide +kernel
theorem fv0 : isVal (run exeP 4000 (.call (.func 9) aV (hV (-9223372036854775808) (-1) (-9223372036854775808) (9223372036854775807) (-9223372036854775808) (9223372036854775807) (-9223372036854775808) (9223372036854775807) (-9223372036854775808) (9223372036854775807) (-9223372036854775808) (9223372036854775807)))) isTrue = true := by decide +kernel
theorem fv1 : isVal (run exeP 4000 (.call (.func 9) aV (hV (11) (9223372036854775807) (-9223372036854775808) (9223372036854775807) (-9223372036854775808) (9223372036854775807) (-9223372036854775808) (9223372036854775807) (-9223372036854775808) (9223372036854775807) (-9223372036854775808) (9223372036854775807)))) isTrue = true := by decide +kernel
theorem fv2 : isVal (run exeP 4000 (.call (.func 9) aV (hV (0) (10) (-9223372036854775808) (-1) (-9223372036854775808) (9223372036854775807) (-9223372036854775808) (9223372036854775807) (-9223372036854775808) (9223372036854775807) (-9223372036854775808) (9223372036854775807)))) isTrue = true := by decide +kernel
theorem fv3 : isVal (run exeP 4000 (.call (.func 9) aV (hV (0) (10) (11) (9223372036854775807) (-9223372036854775808) (9223372036854775807) (-9223372036854775808) (9223372036854775807) (-9223372036854775808) (9223372036854775807) (-9223372036854775808) (9223372036854775807)))) isTrue = true := by decide +kernel
theorem fv4 : isVal (run exeP 4000 (.call (.func 9) aV (hV (0) (10) (0) (10) (-9223372036854775808) (-1) (-9223372036854775808) (9223372036854775807) (-9223372036854775808) (9223372036854775807) (-9223372036854775808) (9223372036854775807)))) isTrue = true := by decide +kernel
theorem fv5 : isVal (run exeP 4000 (.call (.func 9) aV (hV (0) (10) (0) (10) (11) (9223372036854775807) (-9223372036854775808) (9223372036854775807) (-9223372036854775808) (9223372036854775807) (-9223372036854775808) (9223372036854775807)))) isTrue = true := by decide +kernel
theorem fv6 : isVal (run exeP 4000 (.call (.func 9) aV (hV (0) (10) (0) (10) (0) (10) (-9223372036854775808) (-1) (-9223372036854775808) (9223372036854775807) (-9223372036854775808) (9223372036854775807)))) isTrue = true := by decide +kernel
theorem fv7 : isVal (run exeP 4000 (.call (.func 9) aV (hV (0) (10) (0) (10) (0) (10) (501) (9223372036854775807) (-9223372036854775808) (9223372036854775807) (-9223372036854775808) (9223372036854775807)))) isTrue = true := by decide +kernel
theorem fv8 : isVal (run exeP 4000 (.call (.func 9) aV (hV (0) (10) (0) (10) (0) (10) (0) (500) (-9223372036854775808) (-1) (-9223372036854775808) (9223372036854775807)))) isTrue = true := by decide +kernel
theorem fv9 : isVal (run exeP 4000 (.call (.func 9) aV (hV (0) (10) (0) (10) (0) (10) (0) (500) (501) (9223372036854775807) (-9223372036854775808) (9223372036854775807)))) isTrue = true := by decide +kernel
theorem fv10 : isVal (run exeP 4000 (.call (.func 9) aV (hV (0) (10) (0) (10) (0) (10) (0) (500) (0) (500) (-9223372036854775808) (-1)))) isTrue = true := by decide +kernel
theorem fv11 : isVal (run exeP 4000 (.call (.func 9) aV (hV (0) (10) (0) (10) (0) (10) (0) (500) (0) (500) (501) (9223372036854775807)))) isTrue = true := by decide +kernel
end
theorem exeP_nil [Val] : OrcOK [] := fun _ h => by cases h
theorem noM [Val] [Bet] : ∀ e ∈ ([] : List ME), MemoOK Tryz.prog e := fun _ h => by cases h
section
variable {W : World} {x1 x2 : Value} (hl : ∀ f ∈ [37], YesFn Tryz.prog f)
include hl
theorem bad_many {A A' : Option Addr} {n c n' c' : Nat} {l u : Int} (he : isVal (run exeP 2000 (.call (.func 9) (aM l u) noH)) isTrue = true) (h0 : l ≤ (n : Int) ∧ (n : Int) ≤ u) (_hn : (n : Int) ≤ 9223372036854775807) (hn' : (n' : Int) ≤ 9223372036854775807) :
    CallsIn (Fro none) 0 Tryz.prog 9 #[.agg #[.slice A n c, .slice A' n' c'], x1, x2] W (Yes W) := by
  letI : Val := ⟨fun i => match i with
    | 0 => (n : Int)
    | 1 => 0
    | _ => (n' : Int), fun i => match i with
    | 2 => .slice A n c
    | _ => .slice A' n' c'⟩
  letI : Bet := bet0
  have hx : VRs phi0 (aM l u) [.agg #[.slice A n c, .slice A' n' c'], x1, x2] := by
    refine .cons _ _ _ _ (.agg _ _ (.cons _ _ _ _ (.exS _ _ _ _ _ _ rfl ?_ ⟨h0, trivial⟩) (.cons _ _ _ _ (.exS _ _ _ _ _ _ rfl ?_ ⟨h0, ⟨by show (0 : Int) ≤ 0; omega, by show (0 : Int) ≤ 9223372036854775807; omega⟩, ⟨by show (0 : Int) ≤ (n' : Int); omega, by show (n' : Int) ≤ 9223372036854775807; omega⟩, trivial⟩) .nil))) (.cons _ _ _ _ (.any _) (.cons _ _ _ _ (.any _) .nil))
    · show (n : Int) = 0 + (1 * (n : Int) + 0)
      omega
    · show (n' : Int) = 0 + (0 * (n : Int) + (0 * 0 + (1 * (n' : Int) + 0)))
      omega
  exact callsIn_frz exeP_nil hl noM (R.noH W) (fun i a hi => absurd hi (noH_get _ _)) he hx 0
theorem bad_lens {A : Addr} {A0 A1 A' : Option Addr} {c n0 c0 n1 c1 n' c' : Nat} {l0 u0 l1 u1 l2 u2 : Int} (hc : 2 ≤ c) (h : Cl W A c [.slice A0 n0 c0, .slice A1 n1 c1]) (he : isVal (run exeP 2000 (.call (.func 9) (aN l0 u0 l1 u1 l2 u2) (hN l0 u0 l1 u1))) isTrue = true)
    (h0 : l0 ≤ (n0 : Int) ∧ (n0 : Int) ≤ u0) (h1 : l1 ≤ (n1 : Int) ∧ (n1 : Int) ≤ u1) (h2 : l2 ≤ (n' : Int) ∧ (n' : Int) ≤ u2) : CallsIn (Fro none) 0 Tryz.prog 9 #[.agg #[.slice (some A) 2 c, .slice A' n' c'], x1, x2] W (Yes W) := by
  letI : Val := ⟨fun i => match i with
    | 0 => (n0 : Int)
    | 1 => (n1 : Int)
    | _ => (n' : Int), fun i => match i with
    | 2 => .slice A0 n0 c0
    | 3 => .slice A1 n1 c1
    | _ => .slice A' n' c'⟩
  letI : Bet := bet0
  obtain ⟨hR, hz⟩ := h.r (x0 := .exS 2 0 [(1, l0, u0)]) (x1 := .exS 3 0 [(0, l0, u0), (1, l1, u1)]) rfl rfl (.exS _ _ _ _ _ _ rfl (by show (n0 : Int) = 0 + (1 * (n0 : Int) + 0); omega) ⟨h0, trivial⟩) (.exS _ _ _ _ _ _ rfl (by show (n1 : Int) = 0 + (0 * (n0 : Int) + (1 * (n1 : Int) + 0)); omega) ⟨h0, h1, trivial⟩)
  have hx : VRs (phiL W A) (aN l0 u0 l1 u1 l2 u2) [.agg #[.slice (some A) 2 c, .slice A' n' c'], x1, x2] :=
    .cons _ _ _ _ (.agg _ _ (.cons _ _ _ _ (h.sl rfl hc) (.cons _ _ _ _ (.exS _ _ _ _ _ _ rfl (by show (n' : Int) = 0 + (0 * (n0 : Int) + (0 * (n1 : Int) + (1 * (n' : Int) + 0))); omega) ⟨h0, h1, h2, trivial⟩) .nil))) (.cons _ _ _ _ (.any _) (.cons _ _ _ _ (.any _) .nil))
  exact callsIn_frz exeP_nil hl noM hR hz he hx 0
theorem bad_vals {A A0 A1 A' : Addr} {c c0 c1 c' : Nat} {p0 p1 p2 y0 y1 y2 : Int} (hb : Brd W A A0 A1 A' c c0 c1 c' p0 p1 p2 y0 y1 y2) {l0 u0 l1 u1 l2 u2 l3 u3 l4 u4 l5 u5 : Int} (he : isVal (run exeP 4000 (.call (.func 9) aV (hV l0 u0 l1 u1 l2 u2 l3 u3 l4 u4 l5 u5))) isTrue = true)
    (h0 : l0 ≤ p0 ∧ p0 ≤ u0) (h1 : l1 ≤ p1 ∧ p1 ≤ u1) (h2 : l2 ≤ p2 ∧ p2 ≤ u2) (h3 : l3 ≤ y0 ∧ y0 ≤ u3) (h4 : l4 ≤ y1 ∧ y1 ≤ u4) (h5 : l5 ≤ y2 ∧ y2 ≤ u5) : CallsIn (Fro none) 0 Tryz.prog 9 #[.agg #[.slice (some A) 2 c, .slice (some A') 3 c'], x1, x2] W (Yes W) := by
  letI : Val := ⟨fun i => match i with
    | 0 => p0
    | 1 => p1
    | 2 => p2
    | 3 => y0
    | 4 => y1
    | _ => y2, fun _ => .nilFunc⟩
  letI : Bet := bet0
  obtain ⟨hR, hz, hg⟩ := hb.r (x0 := .lin .i64 0 [(1, l0, u0)]) (x1 := .lin .i64 0 [(0, l0, u0), (1, l1, u1)]) (x2 := .lin .i64 0 [(0, l0, u0), (0, l1, u1), (1, l2, u2)]) (x3 := .lin .i64 0 [(0, l0, u0), (0, l1, u1), (0, l2, u2), (1, l3, u3)]) (x4 := .lin .i64 0 [(0, l0, u0), (0, l1, u1), (0, l2, u2), (0, l3, u3), (1, l4, u4)]) (x5 := .lin .i64 0 [(0, l0, u0), (0, l1, u1), (0, l2, u2), (0, l3, u3), (0, l4, u4), (1, l5, u5)])
    (.lin _ _ _ _ (by show p0 = 0 + (1 * p0 + 0); omega) ⟨h0, trivial⟩) (.lin _ _ _ _ (by show p1 = 0 + (0 * p0 + (1 * p1 + 0)); omega) ⟨h0, h1, trivial⟩) (.lin _ _ _ _ (by show p2 = 0 + (0 * p0 + (0 * p1 + (1 * p2 + 0))); omega) ⟨h0, h1, h2, trivial⟩)
    (.lin _ _ _ _ (by show y0 = 0 + (0 * p0 + (0 * p1 + (0 * p2 + (1 * y0 + 0)))); omega) ⟨h0, h1, h2, h3, trivial⟩) (.lin _ _ _ _ (by show y1 = 0 + (0 * p0 + (0 * p1 + (0 * p2 + (0 * y0 + (1 * y1 + 0))))); omega) ⟨h0, h1, h2, h3, h4, trivial⟩) (.lin _ _ _ _ (by show y2 = 0 + (0 * p0 + (0 * p1 + (0 * p2 + (0 * y0 + (0 * y1 + (1 * y2 + 0)))))); omega) ⟨h0, h1, h2, h3, h4, h5, trivial⟩)
  exact callsIn_frz exeP_nil hl noM hR hz he (.cons _ _ _ _ hg (.cons _ _ _ _ (.any _) (.cons _ _ _ _ (.any _) .nil))) 0
/-- A board of two rows that is not valid. -/
theorem bad_all {A A0 A1 A' : Addr} {c c0 c1 c' : Nat} {p0 p1 p2 y0 y1 y2 : Int} (hb : Brd W A A0 A1 A' c c0 c1 c' p0 p1 p2 y0 y1 y2) (hr : ∀ x ∈ [p0, p1, p2, y0, y1, y2], -9223372036854775808 ≤ x ∧ x ≤ 9223372036854775807)
    (hbad : ¬ ((0 ≤ p0 ∧ p0 ≤ 10) ∧ (0 ≤ p1 ∧ p1 ≤ 10) ∧ (0 ≤ p2 ∧ p2 ≤ 10) ∧ (0 ≤ y0 ∧ y0 ≤ 500) ∧ (0 ≤ y1 ∧ y1 ≤ 500) ∧ (0 ≤ y2 ∧ y2 ≤ 500))) : CallsIn (Fro none) 0 Tryz.prog 9 #[.agg #[.slice (some A) 2 c, .slice (some A') 3 c'], x1, x2] W (Yes W) := by
  have g0 := hr p0 (by simp)
  have g1 := hr p1 (by simp)
  have g2 := hr p2 (by simp)
  have g3 := hr y0 (by simp)
  have g4 := hr y1 (by simp)
  have g5 := hr y2 (by simp)
  by_cases a0 : p0 < 0
  · exact bad_vals hl hb fv0 ⟨by omega, by omega⟩ g1 g2 g3 g4 g5
  by_cases b0 : 10 < p0
  · exact bad_vals hl hb fv1 ⟨by omega, by omega⟩ g1 g2 g3 g4 g5
  have i0 : 0 ≤ p0 ∧ p0 ≤ 10 := ⟨by omega, by omega⟩
  by_cases a1 : p1 < 0
  · exact bad_vals hl hb fv2 i0 ⟨by omega, by omega⟩ g2 g3 g4 g5
  by_cases b1 : 10 < p1
  · exact bad_vals hl hb fv3 i0 ⟨by omega, by omega⟩ g2 g3 g4 g5
  have i1 : 0 ≤ p1 ∧ p1 ≤ 10 := ⟨by omega, by omega⟩
  by_cases a2 : p2 < 0
  · exact bad_vals hl hb fv4 i0 i1 ⟨by omega, by omega⟩ g3 g4 g5
  by_cases b2 : 10 < p2
  · exact bad_vals hl hb fv5 i0 i1 ⟨by omega, by omega⟩ g3 g4 g5
  have i2 : 0 ≤ p2 ∧ p2 ≤ 10 := ⟨by omega, by omega⟩
  by_cases a3 : y0 < 0
  · exact bad_vals hl hb fv6 i0 i1 i2 ⟨by omega, by omega⟩ g4 g5
  by_cases b3 : 500 < y0
  · exact bad_vals hl hb fv7 i0 i1 i2 ⟨by omega, by omega⟩ g4 g5
  have i3 : 0 ≤ y0 ∧ y0 ≤ 500 := ⟨by omega, by omega⟩
  by_cases a4 : y1 < 0
  · exact bad_vals hl hb fv8 i0 i1 i2 i3 ⟨by omega, by omega⟩ g5
  by_cases b4 : 500 < y1
  · exact bad_vals hl hb fv9 i0 i1 i2 i3 ⟨by omega, by omega⟩ g5
  have i4 : 0 ≤ y1 ∧ y1 ≤ 500 := ⟨by omega, by omega⟩
  by_cases a5 : y2 < 0
  · exact bad_vals hl hb fv10 i0 i1 i2 i3 i4 ⟨by omega, by omega⟩
  by_cases b5 : 500 < y2
  · exact bad_vals hl hb fv11 i0 i1 i2 i3 i4 ⟨by omega, by omega⟩
  have i5 : 0 ≤ y2 ∧ y2 ≤ 500 := ⟨by omega, by omega⟩
  exact absurd ⟨i0, i1, i2, i3, i4, i5⟩ hbad
end
end Go.Proofs.YtibmpjhffeinoaaGreat.Kx
