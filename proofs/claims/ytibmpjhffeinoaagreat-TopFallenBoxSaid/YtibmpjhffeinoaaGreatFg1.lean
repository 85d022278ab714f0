/-
  TopFallenBox: the runs of a valid board of two rows, part 1.
-/
import Derived.Test.YtibmpjhffeinoaaGreatFf
namespace Go.Proofs.YtibmpjhffeinoaaGreat.Kx
open Go Go.RowKit

noncomputable section
def orc_pz : List (Nat × AV × AV × AV) := [(101, .int .i64 0, .lin .i64 (-5) [(0, 0, 100), (0, 0, 100), (0, 1, 100), (0, 0, 100), (0, 0, 10), (0, 0, 10), (0, 0, 10), (0, 0, 10), (0, 0, 10), (0, 0, 10), (0, 0, 15), (0, 0, 15), (0, 0, 15), (0, 0, 15), (0, 0, 15), (0, 0, 15), (1, 0, 10), (0, 0, 10), (0, 0, 10), (1, 0, 10), (0, 0, 10), (0, 0, 23)], .lin .i64 0 [(0, 0, 100), (0, 0, 100), (0, 1, 100), (0, 0, 100), (0, 0, 10), (0, 0, 10), (0, 0, 10), (0, 0, 10), (0, 0, 10), (0, 0, 10), (1, 0, 15)]),
  (100, .int .i64 10, .lin .i64 0 [(0, 0, 100), (0, 0, 100), (0, 1, 100), (0, 0, 100), (0, 0, 10), (0, 0, 10), (0, 0, 10), (0, 0, 10), (0, 0, 10), (0, 0, 10), (1, 0, 15)], .lin .i64 0 [(0, 0, 100), (0, 0, 100), (0, 1, 100), (0, 0, 100), (1, 0, 10)]),
  (101, .int .i64 0, .lin .i64 (-5) [(0, 0, 100), (0, 0, 100), (0, 1, 100), (0, 0, 100), (0, 0, 10), (0, 0, 10), (0, 0, 10), (0, 0, 10), (0, 0, 10), (0, 0, 10), (0, 0, 15), (0, 0, 15), (0, 0, 15), (0, 0, 15), (0, 0, 15), (0, 0, 15), (0, 0, 10), (1, 0, 10), (0, 0, 10), (1, 0, 10), (0, 0, 10), (0, 0, 23)], .lin .i64 0 [(0, 0, 100), (0, 0, 100), (0, 1, 100), (0, 0, 100), (0, 0, 10), (0, 0, 10), (0, 0, 10), (0, 0, 10), (0, 0, 10), (0, 0, 10), (0, 0, 15), (1, 0, 15)]),
  (100, .int .i64 10, .lin .i64 0 [(0, 0, 100), (0, 0, 100), (0, 1, 100), (0, 0, 100), (0, 0, 10), (0, 0, 10), (0, 0, 10), (0, 0, 10), (0, 0, 10), (0, 0, 10), (0, 0, 15), (1, 0, 15)], .lin .i64 0 [(0, 0, 100), (0, 0, 100), (0, 1, 100), (0, 0, 100), (0, 0, 10), (1, 0, 10)]),
  (2, .lin .i64 10 [(0, 0, 100), (0, 0, 100), (0, 1, 100), (0, 0, 100), (-1, 0, 10)], .lin .i64 10 [(0, 0, 100), (0, 0, 100), (0, 1, 100), (0, 0, 100), (0, 0, 10), (-1, 0, 10)], .lin .i64 0 [(1, 0, 100), (0, 0, 100), (1, 1, 100)]),
  (2, .lin .i64 10 [(0, 0, 100), (0, 0, 100), (0, 1, 100), (0, 0, 100), (-1, 0, 10)], .lin .i64 0 [(0, 0, 100), (0, 0, 100), (0, 1, 100), (0, 0, 100), (0, 0, 10), (1, 0, 10)], .lin .i64 100 [(-1, 0, 100), (0, 0, 100), (-1, 1, 100), (0, 0, 100), (-10, 0, 10)]),
  (101, .int .i64 0, .lin .i64 (-5) [(0, 0, 100), (0, 0, 100), (0, 1, 100), (0, 0, 100), (0, 0, 10), (0, 0, 10), (0, 0, 10), (0, 0, 10), (0, 0, 10), (0, 0, 10), (0, 0, 15), (0, 0, 15), (0, 0, 15), (0, 0, 15), (0, 0, 15), (0, 0, 15), (0, 0, 10), (0, 0, 10), (1, 0, 10), (1, 0, 10), (0, 0, 10), (0, 0, 23)], .lin .i64 0 [(0, 0, 100), (0, 0, 100), (0, 1, 100), (0, 0, 100), (0, 0, 10), (0, 0, 10), (0, 0, 10), (0, 0, 10), (0, 0, 10), (0, 0, 10), (0, 0, 15), (0, 0, 15), (1, 0, 15)]),
  (100, .int .i64 10, .lin .i64 0 [(0, 0, 100), (0, 0, 100), (0, 1, 100), (0, 0, 100), (0, 0, 10), (0, 0, 10), (0, 0, 10), (0, 0, 10), (0, 0, 10), (0, 0, 10), (0, 0, 15), (0, 0, 15), (1, 0, 15)], .lin .i64 0 [(0, 0, 100), (0, 0, 100), (0, 1, 100), (0, 0, 100), (0, 0, 10), (0, 0, 10), (1, 0, 10)]),
  (2, .lin .i64 0 [(0, 0, 100), (0, 0, 100), (0, 1, 100), (0, 0, 100), (1, 0, 10)], .lin .i64 10 [(0, 0, 100), (0, 0, 100), (0, 1, 100), (0, 0, 100), (0, 0, 10), (0, 0, 10), (-1, 0, 10)], .lin .i64 0 [(0, 0, 100), (-1, 0, 100), (0, 1, 100), (0, 0, 100), (10, 0, 10)]),
  (2, .lin .i64 0 [(0, 0, 100), (0, 0, 100), (0, 1, 100), (0, 0, 100), (1, 0, 10)], .lin .i64 0 [(0, 0, 100), (0, 0, 100), (0, 1, 100), (0, 0, 100), (0, 0, 10), (0, 0, 10), (1, 0, 10)], .lin .i64 0 [(0, 0, 100), (1, 0, 100)]),
  (101, .int .i64 0, .lin .i64 (-5) [(0, 0, 100), (0, 0, 100), (0, 1, 100), (0, 0, 100), (0, 0, 10), (0, 0, 10), (0, 0, 10), (0, 0, 10), (0, 0, 10), (0, 0, 10), (0, 0, 15), (0, 0, 15), (0, 0, 15), (0, 0, 15), (0, 0, 15), (0, 0, 15), (1, 0, 10), (0, 0, 10), (0, 0, 10), (0, 0, 10), (1, 0, 10), (0, 0, 23), (0, 0, 23)], .lin .i64 0 [(0, 0, 100), (0, 0, 100), (0, 1, 100), (0, 0, 100), (0, 0, 10), (0, 0, 10), (0, 0, 10), (0, 0, 10), (0, 0, 10), (0, 0, 10), (0, 0, 15), (0, 0, 15), (0, 0, 15), (1, 0, 15)]),
  (100, .int .i64 10, .lin .i64 0 [(0, 0, 100), (0, 0, 100), (0, 1, 100), (0, 0, 100), (0, 0, 10), (0, 0, 10), (0, 0, 10), (0, 0, 10), (0, 0, 10), (0, 0, 10), (0, 0, 15), (0, 0, 15), (0, 0, 15), (1, 0, 15)], .lin .i64 0 [(0, 0, 100), (0, 0, 100), (0, 1, 100), (0, 0, 100), (0, 0, 10), (0, 0, 10), (0, 0, 10), (1, 0, 10)]),
  (101, .int .i64 0, .lin .i64 (-5) [(0, 0, 100), (0, 0, 100), (0, 1, 100), (0, 0, 100), (0, 0, 10), (0, 0, 10), (0, 0, 10), (0, 0, 10), (0, 0, 10), (0, 0, 10), (0, 0, 15), (0, 0, 15), (0, 0, 15), (0, 0, 15), (0, 0, 15), (0, 0, 15), (0, 0, 10), (1, 0, 10), (0, 0, 10), (0, 0, 10), (1, 0, 10), (0, 0, 23), (0, 0, 23)], .lin .i64 0 [(0, 0, 100), (0, 0, 100), (0, 1, 100), (0, 0, 100), (0, 0, 10), (0, 0, 10), (0, 0, 10), (0, 0, 10), (0, 0, 10), (0, 0, 10), (0, 0, 15), (0, 0, 15), (0, 0, 15), (0, 0, 15), (1, 0, 15)]),
  (100, .int .i64 10, .lin .i64 0 [(0, 0, 100), (0, 0, 100), (0, 1, 100), (0, 0, 100), (0, 0, 10), (0, 0, 10), (0, 0, 10), (0, 0, 10), (0, 0, 10), (0, 0, 10), (0, 0, 15), (0, 0, 15), (0, 0, 15), (0, 0, 15), (1, 0, 15)], .lin .i64 0 [(0, 0, 100), (0, 0, 100), (0, 1, 100), (0, 0, 100), (0, 0, 10), (0, 0, 10), (0, 0, 10), (0, 0, 10), (1, 0, 10)]),
  (2, .lin .i64 10 [(0, 0, 100), (0, 0, 100), (0, 1, 100), (0, 0, 100), (0, 0, 10), (0, 0, 10), (0, 0, 10), (-1, 0, 10)], .lin .i64 10 [(0, 0, 100), (0, 0, 100), (0, 1, 100), (0, 0, 100), (0, 0, 10), (0, 0, 10), (0, 0, 10), (0, 0, 10), (-1, 0, 10)], .lin .i64 0 [(1, 0, 100)]),
  (2, .lin .i64 10 [(0, 0, 100), (0, 0, 100), (0, 1, 100), (0, 0, 100), (0, 0, 10), (0, 0, 10), (0, 0, 10), (-1, 0, 10)], .lin .i64 0 [(0, 0, 100), (0, 0, 100), (0, 1, 100), (0, 0, 100), (0, 0, 10), (0, 0, 10), (0, 0, 10), (0, 0, 10), (1, 0, 10)], .lin .i64 100 [(-1, 0, 100), (0, 0, 100), (0, 1, 100), (0, 0, 100), (0, 0, 10), (0, 0, 10), (0, 0, 10), (-10, 0, 10)]),
  (101, .int .i64 0, .lin .i64 (-5) [(0, 0, 100), (0, 0, 100), (0, 1, 100), (0, 0, 100), (0, 0, 10), (0, 0, 10), (0, 0, 10), (0, 0, 10), (0, 0, 10), (0, 0, 10), (0, 0, 15), (0, 0, 15), (0, 0, 15), (0, 0, 15), (0, 0, 15), (0, 0, 15), (0, 0, 10), (0, 0, 10), (1, 0, 10), (0, 0, 10), (1, 0, 10), (0, 0, 23), (0, 0, 23)], .lin .i64 0 [(0, 0, 100), (0, 0, 100), (0, 1, 100), (0, 0, 100), (0, 0, 10), (0, 0, 10), (0, 0, 10), (0, 0, 10), (0, 0, 10), (0, 0, 10), (0, 0, 15), (0, 0, 15), (0, 0, 15), (0, 0, 15), (0, 0, 15), (1, 0, 15)]),
  (100, .int .i64 10, .lin .i64 0 [(0, 0, 100), (0, 0, 100), (0, 1, 100), (0, 0, 100), (0, 0, 10), (0, 0, 10), (0, 0, 10), (0, 0, 10), (0, 0, 10), (0, 0, 10), (0, 0, 15), (0, 0, 15), (0, 0, 15), (0, 0, 15), (0, 0, 15), (1, 0, 15)], .lin .i64 0 [(0, 0, 100), (0, 0, 100), (0, 1, 100), (0, 0, 100), (0, 0, 10), (0, 0, 10), (0, 0, 10), (0, 0, 10), (0, 0, 10), (1, 0, 10)]),
  (2, .lin .i64 0 [(0, 0, 100), (0, 0, 100), (0, 1, 100), (0, 0, 100), (0, 0, 10), (0, 0, 10), (0, 0, 10), (1, 0, 10)], .lin .i64 10 [(0, 0, 100), (0, 0, 100), (0, 1, 100), (0, 0, 100), (0, 0, 10), (0, 0, 10), (0, 0, 10), (0, 0, 10), (0, 0, 10), (-1, 0, 10)], .lin .i64 0 [(0, 0, 100), (-1, 0, 100), (0, 1, 100), (0, 0, 100), (0, 0, 10), (0, 0, 10), (0, 0, 10), (10, 0, 10)]),
  (2, .lin .i64 0 [(0, 0, 100), (0, 0, 100), (0, 1, 100), (0, 0, 100), (0, 0, 10), (0, 0, 10), (0, 0, 10), (1, 0, 10)], .lin .i64 0 [(0, 0, 100), (0, 0, 100), (0, 1, 100), (0, 0, 100), (0, 0, 10), (0, 0, 10), (0, 0, 10), (0, 0, 10), (0, 0, 10), (1, 0, 10)], .lin .i64 0 [(0, 0, 100), (1, 0, 100)]),
  (7, .lin .i64 0 [(1, 0, 100), (0, 0, 100), (1, 1, 100)], .int .i64 100, .bool false),
  (5, .lin .i64 100 [(-1, 0, 100), (-1, 0, 100), (-1, 1, 100), (0, 0, 100), (0, 0, 10)], .int .i64 0, .bool false),
  (5, .lin .i64 100 [(-1, 0, 100), (-1, 0, 100), (0, 1, 100), (0, 0, 100), (0, 0, 10), (0, 0, 10), (0, 0, 10), (0, 0, 10)], .int .i64 0, .bool false),
  (6, .lin .i64 0 [(1, 0, 100), (0, 0, 100), (1, 1, 100)], .int .i64 100, .bool true),
  (8, .lin .i64 100 [(-1, 0, 100), (-1, 0, 100), (-1, 1, 100), (0, 0, 100), (0, 0, 10)], .int .i64 0, .bool true)]
def hb_pz : AH := hB (.lin .i64 0 [(0, 0, 100), (0, 0, 100), (0, 1, 100), (0, 0, 100), (0, 0, 10), (0, 0, 10), (0, 0, 10), (0, 0, 10), (0, 0, 10), (0, 0, 10), (0, 0, 15), (0, 0, 15), (0, 0, 15), (0, 0, 15), (0, 0, 15), (0, 0, 15), (1, 0, 10)]) (.lin .i64 0 [(0, 0, 100), (0, 0, 100), (0, 1, 100), (0, 0, 100), (0, 0, 10), (0, 0, 10), (0, 0, 10), (0, 0, 10), (0, 0, 10), (0, 0, 10), (0, 0, 15), (0, 0, 15), (0, 0, 15), (0, 0, 15), (0, 0, 15), (0, 0, 15), (0, 0, 10), (1, 0, 10)]) (.lin .i64 0 [(0, 0, 100), (0, 0, 100), (0, 1, 100), (0, 0, 100), (0, 0, 10), (0, 0, 10), (0, 0, 10), (0, 0, 10), (0, 0, 10), (0, 0, 10), (0, 0, 15), (0, 0, 15), (0, 0, 15), (0, 0, 15), (0, 0, 15), (0, 0, 15), (0, 0, 10), (0, 0, 10), (1, 0, 10)]) (.lin .i64 0 [(0, 0, 100), (0, 0, 100), (0, 1, 100), (0, 0, 100), (0, 0, 10), (0, 0, 10), (0, 0, 10), (0, 0, 10), (0, 0, 10), (0, 0, 10), (0, 0, 15), (0, 0, 15), (0, 0, 15), (0, 0, 15), (0, 0, 15), (0, 0, 15), (0, 0, 10), (0, 0, 10), (0, 0, 10), (0, 0, 10), (0, 0, 10), (0, 0, 23), (0, 0, 23), (1, 0, 500)]) (.lin .i64 0 [(0, 0, 100), (0, 0, 100), (0, 1, 100), (0, 0, 100), (0, 0, 10), (0, 0, 10), (0, 0, 10), (0, 0, 10), (0, 0, 10), (0, 0, 10), (0, 0, 15), (0, 0, 15), (0, 0, 15), (0, 0, 15), (0, 0, 15), (0, 0, 15), (0, 0, 10), (0, 0, 10), (0, 0, 10), (0, 0, 10), (0, 0, 10), (0, 0, 23), (0, 0, 23), (0, 0, 500), (1, 0, 500)]) (.lin .i64 0 [(0, 0, 100), (0, 0, 100), (0, 1, 100), (0, 0, 100), (0, 0, 10), (0, 0, 10), (0, 0, 10), (0, 0, 10), (0, 0, 10), (0, 0, 10), (0, 0, 15), (0, 0, 15), (0, 0, 15), (0, 0, 15), (0, 0, 15), (0, 0, 15), (0, 0, 10), (0, 0, 10), (0, 0, 10), (0, 0, 10), (0, 0, 10), (0, 0, 23), (0, 0, 23), (0, 0, 500), (0, 0, 500), (1, 0, 500)])
def ar_pz : List AV := [.agg [.sl (some (0, 0)) 2 (.u 1), .sl (some (3, 0)) 3 (.u 1)], .lin .u8 0 [(0, 0, 100), (0, 0, 100), (0, 1, 100), (0, 0, 100), (0, 0, 10), (0, 0, 10), (0, 0, 10), (0, 0, 10), (0, 0, 10), (0, 0, 10), (0, 0, 15), (0, 0, 15), (0, 0, 15), (0, 0, 15), (0, 0, 15), (0, 0, 15), (0, 0, 10), (0, 0, 10), (0, 0, 10), (1, 0, 10), (0, 0, 10), (11, 0, 23)], .lin .u8 0 [(0, 0, 100), (0, 0, 100), (0, 1, 100), (0, 0, 100), (0, 0, 10), (0, 0, 10), (0, 0, 10), (0, 0, 10), (0, 0, 10), (0, 0, 10), (0, 0, 15), (0, 0, 15), (0, 0, 15), (0, 0, 15), (0, 0, 15), (0, 0, 15), (0, 0, 10), (0, 0, 10), (0, 0, 10), (0, 0, 10), (1, 0, 10), (0, 0, 23), (11, 0, 23)]]
theorem fr_pz : isVal (run (exeO orc_pz [37] []) 100000 (.call (.func 9) ar_pz hb_pz)) isTrue = true := by decide +kernel
end
set_option maxHeartbeats 1000000 in
theorem fal_pz (hl : ∀ f ∈ [37], YesFn Tryz.prog f) {W : World} {A A0 A1 A' : Addr} {cA c0 c1 c' : Nat} {a c d e R0 R1 R2 S0 S1 S2 M0 M1 M2 N0 N1 N2 p0 p1 p2 r1 r2 q1 q2 y0 y1 y2 w0 w2 v0 v2 x1 x2 : Int} (hb : Brd W A A0 A1 A' cA c0 c1 c' p0 p1 p2 y0 y1 y2) (F : FV R0 R1 R2 S0 S1 S2 M0 M1 M2 N0 N1 N2 p0 p1 p2 r1 r2 q1 q2 y0 y1 y2 w0 w2 v0 v2) (hx1 : x1 = r1 + 11 * q1) (hx2 : x2 = r2 + 11 * q2)
    (b0 : 0 ≤ a ∧ a ≤ 100) (b1 : 0 ≤ c ∧ c ≤ 100) (b2 : 1 ≤ d ∧ d ≤ 100) (b3 : 0 ≤ e ∧ e ≤ 100) (hw0 : w0 = a + d) (hw2 : w2 = c) (hv0 : v0 = a) (hv2 : v2 = c) : CallsIn (Fro none) 0 Tryz.prog 9 #[.agg #[.slice (some A) 2 cA, .slice (some A') 3 c'], .int .u8 x1, .int .u8 x2] W (Yes W) := by
  letI : Val := ⟨fun i => match i with
    | 0 => a
    | 1 => c
    | 2 => d
    | 3 => e
    | 4 => R0
    | 5 => R1
    | 6 => R2
    | 7 => S0
    | 8 => S1
    | 9 => S2
    | 10 => M0
    | 11 => M1
    | 12 => M2
    | 13 => N0
    | 14 => N1
    | 15 => N2
    | 16 => p0
    | 17 => p1
    | 18 => p2
    | 19 => r1
    | 20 => r2
    | 21 => q1
    | 22 => q2
    | 23 => y0
    | 24 => y1
    | _ => y2, fun _ => .nilFunc⟩
  letI : Bet := bet0
  have hw := F.hw
  have hv := F.hv
  have r0 := F.b4
  have s0 := F.b7
  have z0 : (Val.rho 0 : Int) = a := rfl
  have z1 : (Val.rho 1 : Int) = c := rfl
  have z2 : (Val.rho 2 : Int) = d := rfl
  have z3 : (Val.rho 3 : Int) = e := rfl
  have z4 : (Val.rho 4 : Int) = R0 := rfl
  have z5 : (Val.rho 5 : Int) = R1 := rfl
  have z6 : (Val.rho 6 : Int) = R2 := rfl
  have z7 : (Val.rho 7 : Int) = S0 := rfl
  have z8 : (Val.rho 8 : Int) = S1 := rfl
  have z9 : (Val.rho 9 : Int) = S2 := rfl
  have z10 : (Val.rho 10 : Int) = M0 := rfl
  have z11 : (Val.rho 11 : Int) = M1 := rfl
  have z12 : (Val.rho 12 : Int) = M2 := rfl
  have z13 : (Val.rho 13 : Int) = N0 := rfl
  have z14 : (Val.rho 14 : Int) = N1 := rfl
  have z15 : (Val.rho 15 : Int) = N2 := rfl
  have z16 : (Val.rho 16 : Int) = p0 := rfl
  have z17 : (Val.rho 17 : Int) = p1 := rfl
  have z18 : (Val.rho 18 : Int) = p2 := rfl
  have z19 : (Val.rho 19 : Int) = r1 := rfl
  have z20 : (Val.rho 20 : Int) = r2 := rfl
  have z21 : (Val.rho 21 : Int) = q1 := rfl
  have z22 : (Val.rho 22 : Int) = q2 := rfl
  have z23 : (Val.rho 23 : Int) = y0 := rfl
  have z24 : (Val.rho 24 : Int) = y1 := rfl
  have z25 : (Val.rho 25 : Int) = y2 := rfl
  have ho : OrcOK orc_pz := orcOK_of (by
    intro x hx
    simp only [orc_pz, List.mem_cons, List.not_mem_nil, or_false] at hx
    rcases hx with rfl | rfl | rfl | rfl | rfl | rfl | rfl | rfl | rfl | rfl | rfl | rfl | rfl | rfl | rfl | rfl | rfl | rfl | rfl | rfl | rfl | rfl | rfl | rfl | rfl
    · exact orc_max rfl rfl rfl ⟨b0, b1, b2, b3, F.b4, F.b5, F.b6, F.b7, F.b8, F.b9, F.b10, trivial⟩ rfl (by simp only [numA, linS, Nat.reduceAdd]; omega) (by simp only [numA, linS, Nat.reduceAdd]; omega) F.m0
    · exact orc_min rfl rfl rfl ⟨b0, b1, b2, b3, F.b4, trivial⟩ rfl (by simp only [numA, linS, Nat.reduceAdd]; omega) (by simp only [numA, linS, Nat.reduceAdd]; omega) F.k0
    · exact orc_max rfl rfl rfl ⟨b0, b1, b2, b3, F.b4, F.b5, F.b6, F.b7, F.b8, F.b9, F.b10, F.b11, trivial⟩ rfl (by simp only [numA, linS, Nat.reduceAdd]; omega) (by simp only [numA, linS, Nat.reduceAdd]; omega) F.m1
    · exact orc_min rfl rfl rfl ⟨b0, b1, b2, b3, F.b4, F.b5, trivial⟩ rfl (by simp only [numA, linS, Nat.reduceAdd]; omega) (by simp only [numA, linS, Nat.reduceAdd]; omega) F.k1
    · exact orc_mul rfl rfl rfl ⟨b0, b1, b2, trivial⟩ (by simp only [numA, linS, Nat.reduceAdd]; omega) (by simp only [numA, linS, Nat.reduceAdd]; omega) (by simp only [numA, linS, Nat.reduceAdd]; omega) F.f0 (by omega) (by omega)
    · exact orc_mul rfl rfl rfl ⟨b0, b1, b2, b3, F.b4, trivial⟩ (by simp only [numA, linS, Nat.reduceAdd]; omega) (by simp only [numA, linS, Nat.reduceAdd]; omega) (by simp only [numA, linS, Nat.reduceAdd]; omega) F.f1 (by omega) (by omega)
    · exact orc_max rfl rfl rfl ⟨b0, b1, b2, b3, F.b4, F.b5, F.b6, F.b7, F.b8, F.b9, F.b10, F.b11, F.b12, trivial⟩ rfl (by simp only [numA, linS, Nat.reduceAdd]; omega) (by simp only [numA, linS, Nat.reduceAdd]; omega) F.m2
    · exact orc_min rfl rfl rfl ⟨b0, b1, b2, b3, F.b4, F.b5, F.b6, trivial⟩ rfl (by simp only [numA, linS, Nat.reduceAdd]; omega) (by simp only [numA, linS, Nat.reduceAdd]; omega) F.k2
    · exact orc_mul rfl rfl rfl ⟨b0, b1, b2, b3, F.b4, trivial⟩ (by simp only [numA, linS, Nat.reduceAdd]; omega) (by simp only [numA, linS, Nat.reduceAdd]; omega) (by simp only [numA, linS, Nat.reduceAdd]; omega) F.f2 (by omega) (by omega)
    · exact orc_mul rfl rfl rfl ⟨b0, b1, trivial⟩ (by simp only [numA, linS, Nat.reduceAdd]; omega) (by simp only [numA, linS, Nat.reduceAdd]; omega) (by simp only [numA, linS, Nat.reduceAdd]; omega) F.f3 (by omega) (by omega)
    · exact orc_max rfl rfl rfl ⟨b0, b1, b2, b3, F.b4, F.b5, F.b6, F.b7, F.b8, F.b9, F.b10, F.b11, F.b12, F.b13, trivial⟩ rfl (by simp only [numA, linS, Nat.reduceAdd]; omega) (by simp only [numA, linS, Nat.reduceAdd]; omega) F.m3
    · exact orc_min rfl rfl rfl ⟨b0, b1, b2, b3, F.b4, F.b5, F.b6, F.b7, trivial⟩ rfl (by simp only [numA, linS, Nat.reduceAdd]; omega) (by simp only [numA, linS, Nat.reduceAdd]; omega) F.k3
    · exact orc_max rfl rfl rfl ⟨b0, b1, b2, b3, F.b4, F.b5, F.b6, F.b7, F.b8, F.b9, F.b10, F.b11, F.b12, F.b13, F.b14, trivial⟩ rfl (by simp only [numA, linS, Nat.reduceAdd]; omega) (by simp only [numA, linS, Nat.reduceAdd]; omega) F.m4
    · exact orc_min rfl rfl rfl ⟨b0, b1, b2, b3, F.b4, F.b5, F.b6, F.b7, F.b8, trivial⟩ rfl (by simp only [numA, linS, Nat.reduceAdd]; omega) (by simp only [numA, linS, Nat.reduceAdd]; omega) F.k4
    · exact orc_mul rfl rfl rfl ⟨b0, trivial⟩ (by simp only [numA, linS, Nat.reduceAdd]; omega) (by simp only [numA, linS, Nat.reduceAdd]; omega) (by simp only [numA, linS]; omega) F.f4 (by omega) (by omega)
    · exact orc_mul rfl rfl rfl ⟨b0, b1, b2, b3, F.b4, F.b5, F.b6, F.b7, trivial⟩ (by simp only [numA, linS, Nat.reduceAdd]; omega) (by simp only [numA, linS, Nat.reduceAdd]; omega) (by simp only [numA, linS, Nat.reduceAdd]; omega) F.f5 (by omega) (by omega)
    · exact orc_max rfl rfl rfl ⟨b0, b1, b2, b3, F.b4, F.b5, F.b6, F.b7, F.b8, F.b9, F.b10, F.b11, F.b12, F.b13, F.b14, F.b15, trivial⟩ rfl (by simp only [numA, linS, Nat.reduceAdd]; omega) (by simp only [numA, linS, Nat.reduceAdd]; omega) F.m5
    · exact orc_min rfl rfl rfl ⟨b0, b1, b2, b3, F.b4, F.b5, F.b6, F.b7, F.b8, F.b9, trivial⟩ rfl (by simp only [numA, linS, Nat.reduceAdd]; omega) (by simp only [numA, linS, Nat.reduceAdd]; omega) F.k5
    · exact orc_mul rfl rfl rfl ⟨b0, b1, b2, b3, F.b4, F.b5, F.b6, F.b7, trivial⟩ (by simp only [numA, linS, Nat.reduceAdd]; omega) (by simp only [numA, linS, Nat.reduceAdd]; omega) (by simp only [numA, linS, Nat.reduceAdd]; omega) F.f6 (by omega) (by omega)
    · exact orc_mul rfl rfl rfl ⟨b0, b1, trivial⟩ (by simp only [numA, linS, Nat.reduceAdd]; omega) (by simp only [numA, linS, Nat.reduceAdd]; omega) (by simp only [numA, linS, Nat.reduceAdd]; omega) F.f7 (by omega) (by omega)
    · exact orc_gt0 (t := 0 + 1 * a + 1 * d) (s := 100) rfl rfl (by simp only [numA, linS, Nat.reduceAdd]; omega) rfl (by omega)
    · exact orc_lt0 (t := 100 + -1 * a + -1 * c + -1 * d) (s := 0) rfl rfl (by simp only [numA, linS, Nat.reduceAdd]; omega) rfl (by omega)
    · exact orc_lt0 (t := 100 + -1 * a + -1 * c) (s := 0) rfl rfl (by simp only [numA, linS, Nat.reduceAdd]; omega) rfl (by omega)
    · exact orc_le1 (t := 0 + 1 * a + 1 * d) (s := 100) rfl rfl (by simp only [numA, linS, Nat.reduceAdd]; omega) rfl (by omega)
    · exact orc_ge1 (t := 100 + -1 * a + -1 * c + -1 * d) (s := 0) rfl rfl (by simp only [numA, linS, Nat.reduceAdd]; omega) rfl (by omega))
  obtain ⟨hR, hz, hg⟩ := hb.r
    (x0 := .lin .i64 0 [(0, 0, 100), (0, 0, 100), (0, 1, 100), (0, 0, 100), (0, 0, 10), (0, 0, 10), (0, 0, 10), (0, 0, 10), (0, 0, 10), (0, 0, 10), (0, 0, 15), (0, 0, 15), (0, 0, 15), (0, 0, 15), (0, 0, 15), (0, 0, 15), (1, 0, 10)])
    (x1 := .lin .i64 0 [(0, 0, 100), (0, 0, 100), (0, 1, 100), (0, 0, 100), (0, 0, 10), (0, 0, 10), (0, 0, 10), (0, 0, 10), (0, 0, 10), (0, 0, 10), (0, 0, 15), (0, 0, 15), (0, 0, 15), (0, 0, 15), (0, 0, 15), (0, 0, 15), (0, 0, 10), (1, 0, 10)])
    (x2 := .lin .i64 0 [(0, 0, 100), (0, 0, 100), (0, 1, 100), (0, 0, 100), (0, 0, 10), (0, 0, 10), (0, 0, 10), (0, 0, 10), (0, 0, 10), (0, 0, 10), (0, 0, 15), (0, 0, 15), (0, 0, 15), (0, 0, 15), (0, 0, 15), (0, 0, 15), (0, 0, 10), (0, 0, 10), (1, 0, 10)])
    (x3 := .lin .i64 0 [(0, 0, 100), (0, 0, 100), (0, 1, 100), (0, 0, 100), (0, 0, 10), (0, 0, 10), (0, 0, 10), (0, 0, 10), (0, 0, 10), (0, 0, 10), (0, 0, 15), (0, 0, 15), (0, 0, 15), (0, 0, 15), (0, 0, 15), (0, 0, 15), (0, 0, 10), (0, 0, 10), (0, 0, 10), (0, 0, 10), (0, 0, 10), (0, 0, 23), (0, 0, 23), (1, 0, 500)])
    (x4 := .lin .i64 0 [(0, 0, 100), (0, 0, 100), (0, 1, 100), (0, 0, 100), (0, 0, 10), (0, 0, 10), (0, 0, 10), (0, 0, 10), (0, 0, 10), (0, 0, 10), (0, 0, 15), (0, 0, 15), (0, 0, 15), (0, 0, 15), (0, 0, 15), (0, 0, 15), (0, 0, 10), (0, 0, 10), (0, 0, 10), (0, 0, 10), (0, 0, 10), (0, 0, 23), (0, 0, 23), (0, 0, 500), (1, 0, 500)])
    (x5 := .lin .i64 0 [(0, 0, 100), (0, 0, 100), (0, 1, 100), (0, 0, 100), (0, 0, 10), (0, 0, 10), (0, 0, 10), (0, 0, 10), (0, 0, 10), (0, 0, 10), (0, 0, 15), (0, 0, 15), (0, 0, 15), (0, 0, 15), (0, 0, 15), (0, 0, 15), (0, 0, 10), (0, 0, 10), (0, 0, 10), (0, 0, 10), (0, 0, 10), (0, 0, 23), (0, 0, 23), (0, 0, 500), (0, 0, 500), (1, 0, 500)])
    (.lin _ _ _ _ (by show p0 = (0 + (0 * a + (0 * c + (0 * d + (0 * e + (0 * R0 + (0 * R1 + (0 * R2 + (0 * S0 + (0 * S1 + (0 * S2 + (0 * M0 + (0 * M1 + (0 * M2 + (0 * N0 + (0 * N1 + (0 * N2 + (1 * p0 + 0))))))))))))))))) : Int); omega) ⟨b0, b1, b2, b3, F.b4, F.b5, F.b6, F.b7, F.b8, F.b9, F.b10, F.b11, F.b12, F.b13, F.b14, F.b15, F.b16, trivial⟩)
    (.lin _ _ _ _ (by show p1 = (0 + (0 * a + (0 * c + (0 * d + (0 * e + (0 * R0 + (0 * R1 + (0 * R2 + (0 * S0 + (0 * S1 + (0 * S2 + (0 * M0 + (0 * M1 + (0 * M2 + (0 * N0 + (0 * N1 + (0 * N2 + (0 * p0 + (1 * p1 + 0)))))))))))))))))) : Int); omega) ⟨b0, b1, b2, b3, F.b4, F.b5, F.b6, F.b7, F.b8, F.b9, F.b10, F.b11, F.b12, F.b13, F.b14, F.b15, F.b16, F.b17, trivial⟩)
    (.lin _ _ _ _ (by show p2 = (0 + (0 * a + (0 * c + (0 * d + (0 * e + (0 * R0 + (0 * R1 + (0 * R2 + (0 * S0 + (0 * S1 + (0 * S2 + (0 * M0 + (0 * M1 + (0 * M2 + (0 * N0 + (0 * N1 + (0 * N2 + (0 * p0 + (0 * p1 + (1 * p2 + 0))))))))))))))))))) : Int); omega) ⟨b0, b1, b2, b3, F.b4, F.b5, F.b6, F.b7, F.b8, F.b9, F.b10, F.b11, F.b12, F.b13, F.b14, F.b15, F.b16, F.b17, F.b18, trivial⟩)
    (.lin _ _ _ _ (by show y0 = (0 + (0 * a + (0 * c + (0 * d + (0 * e + (0 * R0 + (0 * R1 + (0 * R2 + (0 * S0 + (0 * S1 + (0 * S2 + (0 * M0 + (0 * M1 + (0 * M2 + (0 * N0 + (0 * N1 + (0 * N2 + (0 * p0 + (0 * p1 + (0 * p2 + (0 * r1 + (0 * r2 + (0 * q1 + (0 * q2 + (1 * y0 + 0)))))))))))))))))))))))) : Int); omega) ⟨b0, b1, b2, b3, F.b4, F.b5, F.b6, F.b7, F.b8, F.b9, F.b10, F.b11, F.b12, F.b13, F.b14, F.b15, F.b16, F.b17, F.b18, F.b19, F.b20, F.b21, F.b22, F.b23, trivial⟩)
    (.lin _ _ _ _ (by show y1 = (0 + (0 * a + (0 * c + (0 * d + (0 * e + (0 * R0 + (0 * R1 + (0 * R2 + (0 * S0 + (0 * S1 + (0 * S2 + (0 * M0 + (0 * M1 + (0 * M2 + (0 * N0 + (0 * N1 + (0 * N2 + (0 * p0 + (0 * p1 + (0 * p2 + (0 * r1 + (0 * r2 + (0 * q1 + (0 * q2 + (0 * y0 + (1 * y1 + 0))))))))))))))))))))))))) : Int); omega) ⟨b0, b1, b2, b3, F.b4, F.b5, F.b6, F.b7, F.b8, F.b9, F.b10, F.b11, F.b12, F.b13, F.b14, F.b15, F.b16, F.b17, F.b18, F.b19, F.b20, F.b21, F.b22, F.b23, F.b24, trivial⟩)
    (.lin _ _ _ _ (by show y2 = (0 + (0 * a + (0 * c + (0 * d + (0 * e + (0 * R0 + (0 * R1 + (0 * R2 + (0 * S0 + (0 * S1 + (0 * S2 + (0 * M0 + (0 * M1 + (0 * M2 + (0 * N0 + (0 * N1 + (0 * N2 + (0 * p0 + (0 * p1 + (0 * p2 + (0 * r1 + (0 * r2 + (0 * q1 + (0 * q2 + (0 * y0 + (0 * y1 + (1 * y2 + 0)))))))))))))))))))))))))) : Int); omega) ⟨b0, b1, b2, b3, F.b4, F.b5, F.b6, F.b7, F.b8, F.b9, F.b10, F.b11, F.b12, F.b13, F.b14, F.b15, F.b16, F.b17, F.b18, F.b19, F.b20, F.b21, F.b22, F.b23, F.b24, F.b25, trivial⟩)
  exact callsIn_frz ho hl (fun _ h => by cases h) hR hz fr_pz (.cons _ _ _ _ hg (.cons _ _ _ _ (.lin _ _ _ _ (by show x1 = (0 + (0 * a + (0 * c + (0 * d + (0 * e + (0 * R0 + (0 * R1 + (0 * R2 + (0 * S0 + (0 * S1 + (0 * S2 + (0 * M0 + (0 * M1 + (0 * M2 + (0 * N0 + (0 * N1 + (0 * N2 + (0 * p0 + (0 * p1 + (0 * p2 + (1 * r1 + (0 * r2 + (11 * q1 + 0)))))))))))))))))))))) : Int); omega) ⟨b0, b1, b2, b3, F.b4, F.b5, F.b6, F.b7, F.b8, F.b9, F.b10, F.b11, F.b12, F.b13, F.b14, F.b15, F.b16, F.b17, F.b18, F.b19, F.b20, F.b21, trivial⟩) (.cons _ _ _ _ (.lin _ _ _ _ (by show x2 = (0 + (0 * a + (0 * c + (0 * d + (0 * e + (0 * R0 + (0 * R1 + (0 * R2 + (0 * S0 + (0 * S1 + (0 * S2 + (0 * M0 + (0 * M1 + (0 * M2 + (0 * N0 + (0 * N1 + (0 * N2 + (0 * p0 + (0 * p1 + (0 * p2 + (0 * r1 + (1 * r2 + (0 * q1 + (11 * q2 + 0))))))))))))))))))))))) : Int); omega) ⟨b0, b1, b2, b3, F.b4, F.b5, F.b6, F.b7, F.b8, F.b9, F.b10, F.b11, F.b12, F.b13, F.b14, F.b15, F.b16, F.b17, F.b18, F.b19, F.b20, F.b21, F.b22, trivial⟩) .nil))) 0
noncomputable section
def orc_mz : List (Nat × AV × AV × AV) := [(101, .int .i64 0, .lin .i64 (-5) [(0, 0, 100), (0, 0, 100), (0, 1, 100), (0, 0, 100), (0, 0, 10), (0, 0, 10), (0, 0, 10), (0, 0, 10), (0, 0, 10), (0, 0, 10), (0, 0, 15), (0, 0, 15), (0, 0, 15), (0, 0, 15), (0, 0, 15), (0, 0, 15), (1, 0, 10), (0, 0, 10), (0, 0, 10), (1, 0, 10), (0, 0, 10), (0, 0, 23)], .lin .i64 0 [(0, 0, 100), (0, 0, 100), (0, 1, 100), (0, 0, 100), (0, 0, 10), (0, 0, 10), (0, 0, 10), (0, 0, 10), (0, 0, 10), (0, 0, 10), (1, 0, 15)]),
  (100, .int .i64 10, .lin .i64 0 [(0, 0, 100), (0, 0, 100), (0, 1, 100), (0, 0, 100), (0, 0, 10), (0, 0, 10), (0, 0, 10), (0, 0, 10), (0, 0, 10), (0, 0, 10), (1, 0, 15)], .lin .i64 0 [(0, 0, 100), (0, 0, 100), (0, 1, 100), (0, 0, 100), (1, 0, 10)]),
  (101, .int .i64 0, .lin .i64 (-5) [(0, 0, 100), (0, 0, 100), (0, 1, 100), (0, 0, 100), (0, 0, 10), (0, 0, 10), (0, 0, 10), (0, 0, 10), (0, 0, 10), (0, 0, 10), (0, 0, 15), (0, 0, 15), (0, 0, 15), (0, 0, 15), (0, 0, 15), (0, 0, 15), (0, 0, 10), (1, 0, 10), (0, 0, 10), (1, 0, 10), (0, 0, 10), (0, 0, 23)], .lin .i64 0 [(0, 0, 100), (0, 0, 100), (0, 1, 100), (0, 0, 100), (0, 0, 10), (0, 0, 10), (0, 0, 10), (0, 0, 10), (0, 0, 10), (0, 0, 10), (0, 0, 15), (1, 0, 15)]),
  (100, .int .i64 10, .lin .i64 0 [(0, 0, 100), (0, 0, 100), (0, 1, 100), (0, 0, 100), (0, 0, 10), (0, 0, 10), (0, 0, 10), (0, 0, 10), (0, 0, 10), (0, 0, 10), (0, 0, 15), (1, 0, 15)], .lin .i64 0 [(0, 0, 100), (0, 0, 100), (0, 1, 100), (0, 0, 100), (0, 0, 10), (1, 0, 10)]),
  (2, .lin .i64 10 [(0, 0, 100), (0, 0, 100), (0, 1, 100), (0, 0, 100), (-1, 0, 10)], .lin .i64 10 [(0, 0, 100), (0, 0, 100), (0, 1, 100), (0, 0, 100), (0, 0, 10), (-1, 0, 10)], .lin .i64 0 [(1, 0, 100)]),
  (2, .lin .i64 10 [(0, 0, 100), (0, 0, 100), (0, 1, 100), (0, 0, 100), (-1, 0, 10)], .lin .i64 0 [(0, 0, 100), (0, 0, 100), (0, 1, 100), (0, 0, 100), (0, 0, 10), (1, 0, 10)], .lin .i64 100 [(-1, 0, 100), (0, 0, 100), (0, 1, 100), (0, 0, 100), (-10, 0, 10)]),
  (101, .int .i64 0, .lin .i64 (-5) [(0, 0, 100), (0, 0, 100), (0, 1, 100), (0, 0, 100), (0, 0, 10), (0, 0, 10), (0, 0, 10), (0, 0, 10), (0, 0, 10), (0, 0, 10), (0, 0, 15), (0, 0, 15), (0, 0, 15), (0, 0, 15), (0, 0, 15), (0, 0, 15), (0, 0, 10), (0, 0, 10), (1, 0, 10), (1, 0, 10), (0, 0, 10), (0, 0, 23)], .lin .i64 0 [(0, 0, 100), (0, 0, 100), (0, 1, 100), (0, 0, 100), (0, 0, 10), (0, 0, 10), (0, 0, 10), (0, 0, 10), (0, 0, 10), (0, 0, 10), (0, 0, 15), (0, 0, 15), (1, 0, 15)]),
  (100, .int .i64 10, .lin .i64 0 [(0, 0, 100), (0, 0, 100), (0, 1, 100), (0, 0, 100), (0, 0, 10), (0, 0, 10), (0, 0, 10), (0, 0, 10), (0, 0, 10), (0, 0, 10), (0, 0, 15), (0, 0, 15), (1, 0, 15)], .lin .i64 0 [(0, 0, 100), (0, 0, 100), (0, 1, 100), (0, 0, 100), (0, 0, 10), (0, 0, 10), (1, 0, 10)]),
  (2, .lin .i64 0 [(0, 0, 100), (0, 0, 100), (0, 1, 100), (0, 0, 100), (1, 0, 10)], .lin .i64 10 [(0, 0, 100), (0, 0, 100), (0, 1, 100), (0, 0, 100), (0, 0, 10), (0, 0, 10), (-1, 0, 10)], .lin .i64 0 [(0, 0, 100), (-1, 0, 100), (0, 1, 100), (0, 0, 100), (10, 0, 10)]),
  (2, .lin .i64 0 [(0, 0, 100), (0, 0, 100), (0, 1, 100), (0, 0, 100), (1, 0, 10)], .lin .i64 0 [(0, 0, 100), (0, 0, 100), (0, 1, 100), (0, 0, 100), (0, 0, 10), (0, 0, 10), (1, 0, 10)], .lin .i64 0 [(0, 0, 100), (1, 0, 100)]),
  (101, .int .i64 0, .lin .i64 (-5) [(0, 0, 100), (0, 0, 100), (0, 1, 100), (0, 0, 100), (0, 0, 10), (0, 0, 10), (0, 0, 10), (0, 0, 10), (0, 0, 10), (0, 0, 10), (0, 0, 15), (0, 0, 15), (0, 0, 15), (0, 0, 15), (0, 0, 15), (0, 0, 15), (1, 0, 10), (0, 0, 10), (0, 0, 10), (0, 0, 10), (1, 0, 10), (0, 0, 23), (0, 0, 23)], .lin .i64 0 [(0, 0, 100), (0, 0, 100), (0, 1, 100), (0, 0, 100), (0, 0, 10), (0, 0, 10), (0, 0, 10), (0, 0, 10), (0, 0, 10), (0, 0, 10), (0, 0, 15), (0, 0, 15), (0, 0, 15), (1, 0, 15)]),
  (100, .int .i64 10, .lin .i64 0 [(0, 0, 100), (0, 0, 100), (0, 1, 100), (0, 0, 100), (0, 0, 10), (0, 0, 10), (0, 0, 10), (0, 0, 10), (0, 0, 10), (0, 0, 10), (0, 0, 15), (0, 0, 15), (0, 0, 15), (1, 0, 15)], .lin .i64 0 [(0, 0, 100), (0, 0, 100), (0, 1, 100), (0, 0, 100), (0, 0, 10), (0, 0, 10), (0, 0, 10), (1, 0, 10)]),
  (101, .int .i64 0, .lin .i64 (-5) [(0, 0, 100), (0, 0, 100), (0, 1, 100), (0, 0, 100), (0, 0, 10), (0, 0, 10), (0, 0, 10), (0, 0, 10), (0, 0, 10), (0, 0, 10), (0, 0, 15), (0, 0, 15), (0, 0, 15), (0, 0, 15), (0, 0, 15), (0, 0, 15), (0, 0, 10), (1, 0, 10), (0, 0, 10), (0, 0, 10), (1, 0, 10), (0, 0, 23), (0, 0, 23)], .lin .i64 0 [(0, 0, 100), (0, 0, 100), (0, 1, 100), (0, 0, 100), (0, 0, 10), (0, 0, 10), (0, 0, 10), (0, 0, 10), (0, 0, 10), (0, 0, 10), (0, 0, 15), (0, 0, 15), (0, 0, 15), (0, 0, 15), (1, 0, 15)]),
  (100, .int .i64 10, .lin .i64 0 [(0, 0, 100), (0, 0, 100), (0, 1, 100), (0, 0, 100), (0, 0, 10), (0, 0, 10), (0, 0, 10), (0, 0, 10), (0, 0, 10), (0, 0, 10), (0, 0, 15), (0, 0, 15), (0, 0, 15), (0, 0, 15), (1, 0, 15)], .lin .i64 0 [(0, 0, 100), (0, 0, 100), (0, 1, 100), (0, 0, 100), (0, 0, 10), (0, 0, 10), (0, 0, 10), (0, 0, 10), (1, 0, 10)]),
  (2, .lin .i64 10 [(0, 0, 100), (0, 0, 100), (0, 1, 100), (0, 0, 100), (0, 0, 10), (0, 0, 10), (0, 0, 10), (-1, 0, 10)], .lin .i64 10 [(0, 0, 100), (0, 0, 100), (0, 1, 100), (0, 0, 100), (0, 0, 10), (0, 0, 10), (0, 0, 10), (0, 0, 10), (-1, 0, 10)], .lin .i64 0 [(1, 0, 100), (0, 0, 100), (1, 1, 100)]),
  (2, .lin .i64 10 [(0, 0, 100), (0, 0, 100), (0, 1, 100), (0, 0, 100), (0, 0, 10), (0, 0, 10), (0, 0, 10), (-1, 0, 10)], .lin .i64 0 [(0, 0, 100), (0, 0, 100), (0, 1, 100), (0, 0, 100), (0, 0, 10), (0, 0, 10), (0, 0, 10), (0, 0, 10), (1, 0, 10)], .lin .i64 100 [(-1, 0, 100), (0, 0, 100), (-1, 1, 100), (0, 0, 100), (0, 0, 10), (0, 0, 10), (0, 0, 10), (-10, 0, 10)]),
  (101, .int .i64 0, .lin .i64 (-5) [(0, 0, 100), (0, 0, 100), (0, 1, 100), (0, 0, 100), (0, 0, 10), (0, 0, 10), (0, 0, 10), (0, 0, 10), (0, 0, 10), (0, 0, 10), (0, 0, 15), (0, 0, 15), (0, 0, 15), (0, 0, 15), (0, 0, 15), (0, 0, 15), (0, 0, 10), (0, 0, 10), (1, 0, 10), (0, 0, 10), (1, 0, 10), (0, 0, 23), (0, 0, 23)], .lin .i64 0 [(0, 0, 100), (0, 0, 100), (0, 1, 100), (0, 0, 100), (0, 0, 10), (0, 0, 10), (0, 0, 10), (0, 0, 10), (0, 0, 10), (0, 0, 10), (0, 0, 15), (0, 0, 15), (0, 0, 15), (0, 0, 15), (0, 0, 15), (1, 0, 15)]),
  (100, .int .i64 10, .lin .i64 0 [(0, 0, 100), (0, 0, 100), (0, 1, 100), (0, 0, 100), (0, 0, 10), (0, 0, 10), (0, 0, 10), (0, 0, 10), (0, 0, 10), (0, 0, 10), (0, 0, 15), (0, 0, 15), (0, 0, 15), (0, 0, 15), (0, 0, 15), (1, 0, 15)], .lin .i64 0 [(0, 0, 100), (0, 0, 100), (0, 1, 100), (0, 0, 100), (0, 0, 10), (0, 0, 10), (0, 0, 10), (0, 0, 10), (0, 0, 10), (1, 0, 10)]),
  (2, .lin .i64 0 [(0, 0, 100), (0, 0, 100), (0, 1, 100), (0, 0, 100), (0, 0, 10), (0, 0, 10), (0, 0, 10), (1, 0, 10)], .lin .i64 10 [(0, 0, 100), (0, 0, 100), (0, 1, 100), (0, 0, 100), (0, 0, 10), (0, 0, 10), (0, 0, 10), (0, 0, 10), (0, 0, 10), (-1, 0, 10)], .lin .i64 0 [(0, 0, 100), (-1, 0, 100), (0, 1, 100), (0, 0, 100), (0, 0, 10), (0, 0, 10), (0, 0, 10), (10, 0, 10)]),
  (2, .lin .i64 0 [(0, 0, 100), (0, 0, 100), (0, 1, 100), (0, 0, 100), (0, 0, 10), (0, 0, 10), (0, 0, 10), (1, 0, 10)], .lin .i64 0 [(0, 0, 100), (0, 0, 100), (0, 1, 100), (0, 0, 100), (0, 0, 10), (0, 0, 10), (0, 0, 10), (0, 0, 10), (0, 0, 10), (1, 0, 10)], .lin .i64 0 [(0, 0, 100), (1, 0, 100)]),
  (7, .lin .i64 0 [(1, 0, 100), (0, 0, 100), (1, 1, 100)], .int .i64 100, .bool false),
  (5, .lin .i64 100 [(-1, 0, 100), (-1, 0, 100), (0, 1, 100), (0, 0, 100), (0, 0, 10)], .int .i64 0, .bool false),
  (5, .lin .i64 100 [(-1, 0, 100), (-1, 0, 100), (-1, 1, 100), (0, 0, 100), (0, 0, 10), (0, 0, 10), (0, 0, 10), (0, 0, 10)], .int .i64 0, .bool false),
  (8, .lin .i64 100 [(-1, 0, 100), (-1, 0, 100), (0, 1, 100), (0, 0, 100), (0, 0, 10)], .int .i64 0, .bool true)]
def hb_mz : AH := hB (.lin .i64 0 [(0, 0, 100), (0, 0, 100), (0, 1, 100), (0, 0, 100), (0, 0, 10), (0, 0, 10), (0, 0, 10), (0, 0, 10), (0, 0, 10), (0, 0, 10), (0, 0, 15), (0, 0, 15), (0, 0, 15), (0, 0, 15), (0, 0, 15), (0, 0, 15), (1, 0, 10)]) (.lin .i64 0 [(0, 0, 100), (0, 0, 100), (0, 1, 100), (0, 0, 100), (0, 0, 10), (0, 0, 10), (0, 0, 10), (0, 0, 10), (0, 0, 10), (0, 0, 10), (0, 0, 15), (0, 0, 15), (0, 0, 15), (0, 0, 15), (0, 0, 15), (0, 0, 15), (0, 0, 10), (1, 0, 10)]) (.lin .i64 0 [(0, 0, 100), (0, 0, 100), (0, 1, 100), (0, 0, 100), (0, 0, 10), (0, 0, 10), (0, 0, 10), (0, 0, 10), (0, 0, 10), (0, 0, 10), (0, 0, 15), (0, 0, 15), (0, 0, 15), (0, 0, 15), (0, 0, 15), (0, 0, 15), (0, 0, 10), (0, 0, 10), (1, 0, 10)]) (.lin .i64 0 [(0, 0, 100), (0, 0, 100), (0, 1, 100), (0, 0, 100), (0, 0, 10), (0, 0, 10), (0, 0, 10), (0, 0, 10), (0, 0, 10), (0, 0, 10), (0, 0, 15), (0, 0, 15), (0, 0, 15), (0, 0, 15), (0, 0, 15), (0, 0, 15), (0, 0, 10), (0, 0, 10), (0, 0, 10), (0, 0, 10), (0, 0, 10), (0, 0, 23), (0, 0, 23), (1, 0, 500)]) (.lin .i64 0 [(0, 0, 100), (0, 0, 100), (0, 1, 100), (0, 0, 100), (0, 0, 10), (0, 0, 10), (0, 0, 10), (0, 0, 10), (0, 0, 10), (0, 0, 10), (0, 0, 15), (0, 0, 15), (0, 0, 15), (0, 0, 15), (0, 0, 15), (0, 0, 15), (0, 0, 10), (0, 0, 10), (0, 0, 10), (0, 0, 10), (0, 0, 10), (0, 0, 23), (0, 0, 23), (0, 0, 500), (1, 0, 500)]) (.lin .i64 0 [(0, 0, 100), (0, 0, 100), (0, 1, 100), (0, 0, 100), (0, 0, 10), (0, 0, 10), (0, 0, 10), (0, 0, 10), (0, 0, 10), (0, 0, 10), (0, 0, 15), (0, 0, 15), (0, 0, 15), (0, 0, 15), (0, 0, 15), (0, 0, 15), (0, 0, 10), (0, 0, 10), (0, 0, 10), (0, 0, 10), (0, 0, 10), (0, 0, 23), (0, 0, 23), (0, 0, 500), (0, 0, 500), (1, 0, 500)])
def ar_mz : List AV := [.agg [.sl (some (0, 0)) 2 (.u 1), .sl (some (3, 0)) 3 (.u 1)], .lin .u8 0 [(0, 0, 100), (0, 0, 100), (0, 1, 100), (0, 0, 100), (0, 0, 10), (0, 0, 10), (0, 0, 10), (0, 0, 10), (0, 0, 10), (0, 0, 10), (0, 0, 15), (0, 0, 15), (0, 0, 15), (0, 0, 15), (0, 0, 15), (0, 0, 15), (0, 0, 10), (0, 0, 10), (0, 0, 10), (1, 0, 10), (0, 0, 10), (11, 0, 23)], .lin .u8 0 [(0, 0, 100), (0, 0, 100), (0, 1, 100), (0, 0, 100), (0, 0, 10), (0, 0, 10), (0, 0, 10), (0, 0, 10), (0, 0, 10), (0, 0, 10), (0, 0, 15), (0, 0, 15), (0, 0, 15), (0, 0, 15), (0, 0, 15), (0, 0, 15), (0, 0, 10), (0, 0, 10), (0, 0, 10), (0, 0, 10), (1, 0, 10), (0, 0, 23), (11, 0, 23)]]
theorem fr_mz : isVal (run (exeO orc_mz [37] []) 100000 (.call (.func 9) ar_mz hb_mz)) isTrue = true := by decide +kernel
end
set_option maxHeartbeats 1000000 in
theorem fal_mz (hl : ∀ f ∈ [37], YesFn Tryz.prog f) {W : World} {A A0 A1 A' : Addr} {cA c0 c1 c' : Nat} {a c d e R0 R1 R2 S0 S1 S2 M0 M1 M2 N0 N1 N2 p0 p1 p2 r1 r2 q1 q2 y0 y1 y2 w0 w2 v0 v2 x1 x2 : Int} (hb : Brd W A A0 A1 A' cA c0 c1 c' p0 p1 p2 y0 y1 y2) (F : FV R0 R1 R2 S0 S1 S2 M0 M1 M2 N0 N1 N2 p0 p1 p2 r1 r2 q1 q2 y0 y1 y2 w0 w2 v0 v2) (hx1 : x1 = r1 + 11 * q1) (hx2 : x2 = r2 + 11 * q2)
    (b0 : 0 ≤ a ∧ a ≤ 100) (b1 : 0 ≤ c ∧ c ≤ 100) (b2 : 1 ≤ d ∧ d ≤ 100) (b3 : 0 ≤ e ∧ e ≤ 100) (hw0 : w0 = a) (hw2 : w2 = c) (hv0 : v0 = a + d) (hv2 : v2 = c) : CallsIn (Fro none) 0 Tryz.prog 9 #[.agg #[.slice (some A) 2 cA, .slice (some A') 3 c'], .int .u8 x1, .int .u8 x2] W (Yes W) := by
  letI : Val := ⟨fun i => match i with
    | 0 => a
    | 1 => c
    | 2 => d
    | 3 => e
    | 4 => R0
    | 5 => R1
    | 6 => R2
    | 7 => S0
    | 8 => S1
    | 9 => S2
    | 10 => M0
    | 11 => M1
    | 12 => M2
    | 13 => N0
    | 14 => N1
    | 15 => N2
    | 16 => p0
    | 17 => p1
    | 18 => p2
    | 19 => r1
    | 20 => r2
    | 21 => q1
    | 22 => q2
    | 23 => y0
    | 24 => y1
    | _ => y2, fun _ => .nilFunc⟩
  letI : Bet := bet0
  have hw := F.hw
  have hv := F.hv
  have r0 := F.b4
  have s0 := F.b7
  have z0 : (Val.rho 0 : Int) = a := rfl
  have z1 : (Val.rho 1 : Int) = c := rfl
  have z2 : (Val.rho 2 : Int) = d := rfl
  have z3 : (Val.rho 3 : Int) = e := rfl
  have z4 : (Val.rho 4 : Int) = R0 := rfl
  have z5 : (Val.rho 5 : Int) = R1 := rfl
  have z6 : (Val.rho 6 : Int) = R2 := rfl
  have z7 : (Val.rho 7 : Int) = S0 := rfl
  have z8 : (Val.rho 8 : Int) = S1 := rfl
  have z9 : (Val.rho 9 : Int) = S2 := rfl
  have z10 : (Val.rho 10 : Int) = M0 := rfl
  have z11 : (Val.rho 11 : Int) = M1 := rfl
  have z12 : (Val.rho 12 : Int) = M2 := rfl
  have z13 : (Val.rho 13 : Int) = N0 := rfl
  have z14 : (Val.rho 14 : Int) = N1 := rfl
  have z15 : (Val.rho 15 : Int) = N2 := rfl
  have z16 : (Val.rho 16 : Int) = p0 := rfl
  have z17 : (Val.rho 17 : Int) = p1 := rfl
  have z18 : (Val.rho 18 : Int) = p2 := rfl
  have z19 : (Val.rho 19 : Int) = r1 := rfl
  have z20 : (Val.rho 20 : Int) = r2 := rfl
  have z21 : (Val.rho 21 : Int) = q1 := rfl
  have z22 : (Val.rho 22 : Int) = q2 := rfl
  have z23 : (Val.rho 23 : Int) = y0 := rfl
  have z24 : (Val.rho 24 : Int) = y1 := rfl
  have z25 : (Val.rho 25 : Int) = y2 := rfl
  have ho : OrcOK orc_mz := orcOK_of (by
    intro x hx
    simp only [orc_mz, List.mem_cons, List.not_mem_nil, or_false] at hx
    rcases hx with rfl | rfl | rfl | rfl | rfl | rfl | rfl | rfl | rfl | rfl | rfl | rfl | rfl | rfl | rfl | rfl | rfl | rfl | rfl | rfl | rfl | rfl | rfl | rfl
    · exact orc_max rfl rfl rfl ⟨b0, b1, b2, b3, F.b4, F.b5, F.b6, F.b7, F.b8, F.b9, F.b10, trivial⟩ rfl (by simp only [numA, linS, Nat.reduceAdd]; omega) (by simp only [numA, linS, Nat.reduceAdd]; omega) F.m0
    · exact orc_min rfl rfl rfl ⟨b0, b1, b2, b3, F.b4, trivial⟩ rfl (by simp only [numA, linS, Nat.reduceAdd]; omega) (by simp only [numA, linS, Nat.reduceAdd]; omega) F.k0
    · exact orc_max rfl rfl rfl ⟨b0, b1, b2, b3, F.b4, F.b5, F.b6, F.b7, F.b8, F.b9, F.b10, F.b11, trivial⟩ rfl (by simp only [numA, linS, Nat.reduceAdd]; omega) (by simp only [numA, linS, Nat.reduceAdd]; omega) F.m1
    · exact orc_min rfl rfl rfl ⟨b0, b1, b2, b3, F.b4, F.b5, trivial⟩ rfl (by simp only [numA, linS, Nat.reduceAdd]; omega) (by simp only [numA, linS, Nat.reduceAdd]; omega) F.k1
    · exact orc_mul rfl rfl rfl ⟨b0, trivial⟩ (by simp only [numA, linS, Nat.reduceAdd]; omega) (by simp only [numA, linS, Nat.reduceAdd]; omega) (by simp only [numA, linS]; omega) F.f0 (by omega) (by omega)
    · exact orc_mul rfl rfl rfl ⟨b0, b1, b2, b3, F.b4, trivial⟩ (by simp only [numA, linS, Nat.reduceAdd]; omega) (by simp only [numA, linS, Nat.reduceAdd]; omega) (by simp only [numA, linS, Nat.reduceAdd]; omega) F.f1 (by omega) (by omega)
    · exact orc_max rfl rfl rfl ⟨b0, b1, b2, b3, F.b4, F.b5, F.b6, F.b7, F.b8, F.b9, F.b10, F.b11, F.b12, trivial⟩ rfl (by simp only [numA, linS, Nat.reduceAdd]; omega) (by simp only [numA, linS, Nat.reduceAdd]; omega) F.m2
    · exact orc_min rfl rfl rfl ⟨b0, b1, b2, b3, F.b4, F.b5, F.b6, trivial⟩ rfl (by simp only [numA, linS, Nat.reduceAdd]; omega) (by simp only [numA, linS, Nat.reduceAdd]; omega) F.k2
    · exact orc_mul rfl rfl rfl ⟨b0, b1, b2, b3, F.b4, trivial⟩ (by simp only [numA, linS, Nat.reduceAdd]; omega) (by simp only [numA, linS, Nat.reduceAdd]; omega) (by simp only [numA, linS, Nat.reduceAdd]; omega) F.f2 (by omega) (by omega)
    · exact orc_mul rfl rfl rfl ⟨b0, b1, trivial⟩ (by simp only [numA, linS, Nat.reduceAdd]; omega) (by simp only [numA, linS, Nat.reduceAdd]; omega) (by simp only [numA, linS, Nat.reduceAdd]; omega) F.f3 (by omega) (by omega)
    · exact orc_max rfl rfl rfl ⟨b0, b1, b2, b3, F.b4, F.b5, F.b6, F.b7, F.b8, F.b9, F.b10, F.b11, F.b12, F.b13, trivial⟩ rfl (by simp only [numA, linS, Nat.reduceAdd]; omega) (by simp only [numA, linS, Nat.reduceAdd]; omega) F.m3
    · exact orc_min rfl rfl rfl ⟨b0, b1, b2, b3, F.b4, F.b5, F.b6, F.b7, trivial⟩ rfl (by simp only [numA, linS, Nat.reduceAdd]; omega) (by simp only [numA, linS, Nat.reduceAdd]; omega) F.k3
    · exact orc_max rfl rfl rfl ⟨b0, b1, b2, b3, F.b4, F.b5, F.b6, F.b7, F.b8, F.b9, F.b10, F.b11, F.b12, F.b13, F.b14, trivial⟩ rfl (by simp only [numA, linS, Nat.reduceAdd]; omega) (by simp only [numA, linS, Nat.reduceAdd]; omega) F.m4
    · exact orc_min rfl rfl rfl ⟨b0, b1, b2, b3, F.b4, F.b5, F.b6, F.b7, F.b8, trivial⟩ rfl (by simp only [numA, linS, Nat.reduceAdd]; omega) (by simp only [numA, linS, Nat.reduceAdd]; omega) F.k4
    · exact orc_mul rfl rfl rfl ⟨b0, b1, b2, trivial⟩ (by simp only [numA, linS, Nat.reduceAdd]; omega) (by simp only [numA, linS, Nat.reduceAdd]; omega) (by simp only [numA, linS, Nat.reduceAdd]; omega) F.f4 (by omega) (by omega)
    · exact orc_mul rfl rfl rfl ⟨b0, b1, b2, b3, F.b4, F.b5, F.b6, F.b7, trivial⟩ (by simp only [numA, linS, Nat.reduceAdd]; omega) (by simp only [numA, linS, Nat.reduceAdd]; omega) (by simp only [numA, linS, Nat.reduceAdd]; omega) F.f5 (by omega) (by omega)
    · exact orc_max rfl rfl rfl ⟨b0, b1, b2, b3, F.b4, F.b5, F.b6, F.b7, F.b8, F.b9, F.b10, F.b11, F.b12, F.b13, F.b14, F.b15, trivial⟩ rfl (by simp only [numA, linS, Nat.reduceAdd]; omega) (by simp only [numA, linS, Nat.reduceAdd]; omega) F.m5
    · exact orc_min rfl rfl rfl ⟨b0, b1, b2, b3, F.b4, F.b5, F.b6, F.b7, F.b8, F.b9, trivial⟩ rfl (by simp only [numA, linS, Nat.reduceAdd]; omega) (by simp only [numA, linS, Nat.reduceAdd]; omega) F.k5
    · exact orc_mul rfl rfl rfl ⟨b0, b1, b2, b3, F.b4, F.b5, F.b6, F.b7, trivial⟩ (by simp only [numA, linS, Nat.reduceAdd]; omega) (by simp only [numA, linS, Nat.reduceAdd]; omega) (by simp only [numA, linS, Nat.reduceAdd]; omega) F.f6 (by omega) (by omega)
    · exact orc_mul rfl rfl rfl ⟨b0, b1, trivial⟩ (by simp only [numA, linS, Nat.reduceAdd]; omega) (by simp only [numA, linS, Nat.reduceAdd]; omega) (by simp only [numA, linS, Nat.reduceAdd]; omega) F.f7 (by omega) (by omega)
    · exact orc_gt0 (t := 0 + 1 * a + 1 * d) (s := 100) rfl rfl (by simp only [numA, linS, Nat.reduceAdd]; omega) rfl (by omega)
    · exact orc_lt0 (t := 100 + -1 * a + -1 * c) (s := 0) rfl rfl (by simp only [numA, linS, Nat.reduceAdd]; omega) rfl (by omega)
    · exact orc_lt0 (t := 100 + -1 * a + -1 * c + -1 * d) (s := 0) rfl rfl (by simp only [numA, linS, Nat.reduceAdd]; omega) rfl (by omega)
    · exact orc_ge1 (t := 100 + -1 * a + -1 * c) (s := 0) rfl rfl (by simp only [numA, linS, Nat.reduceAdd]; omega) rfl (by omega))
  obtain ⟨hR, hz, hg⟩ := hb.r
    (x0 := .lin .i64 0 [(0, 0, 100), (0, 0, 100), (0, 1, 100), (0, 0, 100), (0, 0, 10), (0, 0, 10), (0, 0, 10), (0, 0, 10), (0, 0, 10), (0, 0, 10), (0, 0, 15), (0, 0, 15), (0, 0, 15), (0, 0, 15), (0, 0, 15), (0, 0, 15), (1, 0, 10)])
    (x1 := .lin .i64 0 [(0, 0, 100), (0, 0, 100), (0, 1, 100), (0, 0, 100), (0, 0, 10), (0, 0, 10), (0, 0, 10), (0, 0, 10), (0, 0, 10), (0, 0, 10), (0, 0, 15), (0, 0, 15), (0, 0, 15), (0, 0, 15), (0, 0, 15), (0, 0, 15), (0, 0, 10), (1, 0, 10)])
    (x2 := .lin .i64 0 [(0, 0, 100), (0, 0, 100), (0, 1, 100), (0, 0, 100), (0, 0, 10), (0, 0, 10), (0, 0, 10), (0, 0, 10), (0, 0, 10), (0, 0, 10), (0, 0, 15), (0, 0, 15), (0, 0, 15), (0, 0, 15), (0, 0, 15), (0, 0, 15), (0, 0, 10), (0, 0, 10), (1, 0, 10)])
    (x3 := .lin .i64 0 [(0, 0, 100), (0, 0, 100), (0, 1, 100), (0, 0, 100), (0, 0, 10), (0, 0, 10), (0, 0, 10), (0, 0, 10), (0, 0, 10), (0, 0, 10), (0, 0, 15), (0, 0, 15), (0, 0, 15), (0, 0, 15), (0, 0, 15), (0, 0, 15), (0, 0, 10), (0, 0, 10), (0, 0, 10), (0, 0, 10), (0, 0, 10), (0, 0, 23), (0, 0, 23), (1, 0, 500)])
    (x4 := .lin .i64 0 [(0, 0, 100), (0, 0, 100), (0, 1, 100), (0, 0, 100), (0, 0, 10), (0, 0, 10), (0, 0, 10), (0, 0, 10), (0, 0, 10), (0, 0, 10), (0, 0, 15), (0, 0, 15), (0, 0, 15), (0, 0, 15), (0, 0, 15), (0, 0, 15), (0, 0, 10), (0, 0, 10), (0, 0, 10), (0, 0, 10), (0, 0, 10), (0, 0, 23), (0, 0, 23), (0, 0, 500), (1, 0, 500)])
    (x5 := .lin .i64 0 [(0, 0, 100), (0, 0, 100), (0, 1, 100), (0, 0, 100), (0, 0, 10), (0, 0, 10), (0, 0, 10), (0, 0, 10), (0, 0, 10), (0, 0, 10), (0, 0, 15), (0, 0, 15), (0, 0, 15), (0, 0, 15), (0, 0, 15), (0, 0, 15), (0, 0, 10), (0, 0, 10), (0, 0, 10), (0, 0, 10), (0, 0, 10), (0, 0, 23), (0, 0, 23), (0, 0, 500), (0, 0, 500), (1, 0, 500)])
    (.lin _ _ _ _ (by show p0 = (0 + (0 * a + (0 * c + (0 * d + (0 * e + (0 * R0 + (0 * R1 + (0 * R2 + (0 * S0 + (0 * S1 + (0 * S2 + (0 * M0 + (0 * M1 + (0 * M2 + (0 * N0 + (0 * N1 + (0 * N2 + (1 * p0 + 0))))))))))))))))) : Int); omega) ⟨b0, b1, b2, b3, F.b4, F.b5, F.b6, F.b7, F.b8, F.b9, F.b10, F.b11, F.b12, F.b13, F.b14, F.b15, F.b16, trivial⟩)
    (.lin _ _ _ _ (by show p1 = (0 + (0 * a + (0 * c + (0 * d + (0 * e + (0 * R0 + (0 * R1 + (0 * R2 + (0 * S0 + (0 * S1 + (0 * S2 + (0 * M0 + (0 * M1 + (0 * M2 + (0 * N0 + (0 * N1 + (0 * N2 + (0 * p0 + (1 * p1 + 0)))))))))))))))))) : Int); omega) ⟨b0, b1, b2, b3, F.b4, F.b5, F.b6, F.b7, F.b8, F.b9, F.b10, F.b11, F.b12, F.b13, F.b14, F.b15, F.b16, F.b17, trivial⟩)
    (.lin _ _ _ _ (by show p2 = (0 + (0 * a + (0 * c + (0 * d + (0 * e + (0 * R0 + (0 * R1 + (0 * R2 + (0 * S0 + (0 * S1 + (0 * S2 + (0 * M0 + (0 * M1 + (0 * M2 + (0 * N0 + (0 * N1 + (0 * N2 + (0 * p0 + (0 * p1 + (1 * p2 + 0))))))))))))))))))) : Int); omega) ⟨b0, b1, b2, b3, F.b4, F.b5, F.b6, F.b7, F.b8, F.b9, F.b10, F.b11, F.b12, F.b13, F.b14, F.b15, F.b16, F.b17, F.b18, trivial⟩)
    (.lin _ _ _ _ (by show y0 = (0 + (0 * a + (0 * c + (0 * d + (0 * e + (0 * R0 + (0 * R1 + (0 * R2 + (0 * S0 + (0 * S1 + (0 * S2 + (0 * M0 + (0 * M1 + (0 * M2 + (0 * N0 + (0 * N1 + (0 * N2 + (0 * p0 + (0 * p1 + (0 * p2 + (0 * r1 + (0 * r2 + (0 * q1 + (0 * q2 + (1 * y0 + 0)))))))))))))))))))))))) : Int); omega) ⟨b0, b1, b2, b3, F.b4, F.b5, F.b6, F.b7, F.b8, F.b9, F.b10, F.b11, F.b12, F.b13, F.b14, F.b15, F.b16, F.b17, F.b18, F.b19, F.b20, F.b21, F.b22, F.b23, trivial⟩)
    (.lin _ _ _ _ (by show y1 = (0 + (0 * a + (0 * c + (0 * d + (0 * e + (0 * R0 + (0 * R1 + (0 * R2 + (0 * S0 + (0 * S1 + (0 * S2 + (0 * M0 + (0 * M1 + (0 * M2 + (0 * N0 + (0 * N1 + (0 * N2 + (0 * p0 + (0 * p1 + (0 * p2 + (0 * r1 + (0 * r2 + (0 * q1 + (0 * q2 + (0 * y0 + (1 * y1 + 0))))))))))))))))))))))))) : Int); omega) ⟨b0, b1, b2, b3, F.b4, F.b5, F.b6, F.b7, F.b8, F.b9, F.b10, F.b11, F.b12, F.b13, F.b14, F.b15, F.b16, F.b17, F.b18, F.b19, F.b20, F.b21, F.b22, F.b23, F.b24, trivial⟩)
    (.lin _ _ _ _ (by show y2 = (0 + (0 * a + (0 * c + (0 * d + (0 * e + (0 * R0 + (0 * R1 + (0 * R2 + (0 * S0 + (0 * S1 + (0 * S2 + (0 * M0 + (0 * M1 + (0 * M2 + (0 * N0 + (0 * N1 + (0 * N2 + (0 * p0 + (0 * p1 + (0 * p2 + (0 * r1 + (0 * r2 + (0 * q1 + (0 * q2 + (0 * y0 + (0 * y1 + (1 * y2 + 0)))))))))))))))))))))))))) : Int); omega) ⟨b0, b1, b2, b3, F.b4, F.b5, F.b6, F.b7, F.b8, F.b9, F.b10, F.b11, F.b12, F.b13, F.b14, F.b15, F.b16, F.b17, F.b18, F.b19, F.b20, F.b21, F.b22, F.b23, F.b24, F.b25, trivial⟩)
  exact callsIn_frz ho hl (fun _ h => by cases h) hR hz fr_mz (.cons _ _ _ _ hg (.cons _ _ _ _ (.lin _ _ _ _ (by show x1 = (0 + (0 * a + (0 * c + (0 * d + (0 * e + (0 * R0 + (0 * R1 + (0 * R2 + (0 * S0 + (0 * S1 + (0 * S2 + (0 * M0 + (0 * M1 + (0 * M2 + (0 * N0 + (0 * N1 + (0 * N2 + (0 * p0 + (0 * p1 + (0 * p2 + (1 * r1 + (0 * r2 + (11 * q1 + 0)))))))))))))))))))))) : Int); omega) ⟨b0, b1, b2, b3, F.b4, F.b5, F.b6, F.b7, F.b8, F.b9, F.b10, F.b11, F.b12, F.b13, F.b14, F.b15, F.b16, F.b17, F.b18, F.b19, F.b20, F.b21, trivial⟩) (.cons _ _ _ _ (.lin _ _ _ _ (by show x2 = (0 + (0 * a + (0 * c + (0 * d + (0 * e + (0 * R0 + (0 * R1 + (0 * R2 + (0 * S0 + (0 * S1 + (0 * S2 + (0 * M0 + (0 * M1 + (0 * M2 + (0 * N0 + (0 * N1 + (0 * N2 + (0 * p0 + (0 * p1 + (0 * p2 + (0 * r1 + (1 * r2 + (0 * q1 + (11 * q2 + 0))))))))))))))))))))))) : Int); omega) ⟨b0, b1, b2, b3, F.b4, F.b5, F.b6, F.b7, F.b8, F.b9, F.b10, F.b11, F.b12, F.b13, F.b14, F.b15, F.b16, F.b17, F.b18, F.b19, F.b20, F.b21, F.b22, trivial⟩) .nil))) 0
noncomputable section
def orc_pp : List (Nat × AV × AV × AV) := [(101, .int .i64 0, .lin .i64 (-5) [(0, 0, 100), (0, 0, 100), (0, 1, 100), (0, 1, 100), (0, 0, 10), (0, 0, 10), (0, 0, 10), (0, 0, 10), (0, 0, 10), (0, 0, 10), (0, 0, 15), (0, 0, 15), (0, 0, 15), (0, 0, 15), (0, 0, 15), (0, 0, 15), (1, 0, 10), (0, 0, 10), (0, 0, 10), (1, 0, 10), (0, 0, 10), (0, 0, 23)], .lin .i64 0 [(0, 0, 100), (0, 0, 100), (0, 1, 100), (0, 1, 100), (0, 0, 10), (0, 0, 10), (0, 0, 10), (0, 0, 10), (0, 0, 10), (0, 0, 10), (1, 0, 15)]),
  (100, .int .i64 10, .lin .i64 0 [(0, 0, 100), (0, 0, 100), (0, 1, 100), (0, 1, 100), (0, 0, 10), (0, 0, 10), (0, 0, 10), (0, 0, 10), (0, 0, 10), (0, 0, 10), (1, 0, 15)], .lin .i64 0 [(0, 0, 100), (0, 0, 100), (0, 1, 100), (0, 1, 100), (1, 0, 10)]),
  (101, .int .i64 0, .lin .i64 (-5) [(0, 0, 100), (0, 0, 100), (0, 1, 100), (0, 1, 100), (0, 0, 10), (0, 0, 10), (0, 0, 10), (0, 0, 10), (0, 0, 10), (0, 0, 10), (0, 0, 15), (0, 0, 15), (0, 0, 15), (0, 0, 15), (0, 0, 15), (0, 0, 15), (0, 0, 10), (1, 0, 10), (0, 0, 10), (1, 0, 10), (0, 0, 10), (0, 0, 23)], .lin .i64 0 [(0, 0, 100), (0, 0, 100), (0, 1, 100), (0, 1, 100), (0, 0, 10), (0, 0, 10), (0, 0, 10), (0, 0, 10), (0, 0, 10), (0, 0, 10), (0, 0, 15), (1, 0, 15)]),
  (100, .int .i64 10, .lin .i64 0 [(0, 0, 100), (0, 0, 100), (0, 1, 100), (0, 1, 100), (0, 0, 10), (0, 0, 10), (0, 0, 10), (0, 0, 10), (0, 0, 10), (0, 0, 10), (0, 0, 15), (1, 0, 15)], .lin .i64 0 [(0, 0, 100), (0, 0, 100), (0, 1, 100), (0, 1, 100), (0, 0, 10), (1, 0, 10)]),
  (2, .lin .i64 10 [(0, 0, 100), (0, 0, 100), (0, 1, 100), (0, 1, 100), (-1, 0, 10)], .lin .i64 10 [(0, 0, 100), (0, 0, 100), (0, 1, 100), (0, 1, 100), (0, 0, 10), (-1, 0, 10)], .lin .i64 0 [(1, 0, 100), (0, 0, 100), (1, 1, 100)]),
  (2, .lin .i64 10 [(0, 0, 100), (0, 0, 100), (0, 1, 100), (0, 1, 100), (-1, 0, 10)], .lin .i64 0 [(0, 0, 100), (0, 0, 100), (0, 1, 100), (0, 1, 100), (0, 0, 10), (1, 0, 10)], .lin .i64 100 [(-1, 0, 100), (0, 0, 100), (-1, 1, 100), (0, 1, 100), (-10, 0, 10)]),
  (101, .int .i64 0, .lin .i64 (-5) [(0, 0, 100), (0, 0, 100), (0, 1, 100), (0, 1, 100), (0, 0, 10), (0, 0, 10), (0, 0, 10), (0, 0, 10), (0, 0, 10), (0, 0, 10), (0, 0, 15), (0, 0, 15), (0, 0, 15), (0, 0, 15), (0, 0, 15), (0, 0, 15), (0, 0, 10), (0, 0, 10), (1, 0, 10), (1, 0, 10), (0, 0, 10), (0, 0, 23)], .lin .i64 0 [(0, 0, 100), (0, 0, 100), (0, 1, 100), (0, 1, 100), (0, 0, 10), (0, 0, 10), (0, 0, 10), (0, 0, 10), (0, 0, 10), (0, 0, 10), (0, 0, 15), (0, 0, 15), (1, 0, 15)]),
  (100, .int .i64 10, .lin .i64 0 [(0, 0, 100), (0, 0, 100), (0, 1, 100), (0, 1, 100), (0, 0, 10), (0, 0, 10), (0, 0, 10), (0, 0, 10), (0, 0, 10), (0, 0, 10), (0, 0, 15), (0, 0, 15), (1, 0, 15)], .lin .i64 0 [(0, 0, 100), (0, 0, 100), (0, 1, 100), (0, 1, 100), (0, 0, 10), (0, 0, 10), (1, 0, 10)]),
  (2, .lin .i64 0 [(0, 0, 100), (0, 0, 100), (0, 1, 100), (0, 1, 100), (1, 0, 10)], .lin .i64 10 [(0, 0, 100), (0, 0, 100), (0, 1, 100), (0, 1, 100), (0, 0, 10), (0, 0, 10), (-1, 0, 10)], .lin .i64 0 [(0, 0, 100), (-1, 0, 100), (0, 1, 100), (-1, 1, 100), (10, 0, 10)]),
  (2, .lin .i64 0 [(0, 0, 100), (0, 0, 100), (0, 1, 100), (0, 1, 100), (1, 0, 10)], .lin .i64 0 [(0, 0, 100), (0, 0, 100), (0, 1, 100), (0, 1, 100), (0, 0, 10), (0, 0, 10), (1, 0, 10)], .lin .i64 0 [(0, 0, 100), (1, 0, 100), (0, 1, 100), (1, 1, 100)]),
  (101, .int .i64 0, .lin .i64 (-5) [(0, 0, 100), (0, 0, 100), (0, 1, 100), (0, 1, 100), (0, 0, 10), (0, 0, 10), (0, 0, 10), (0, 0, 10), (0, 0, 10), (0, 0, 10), (0, 0, 15), (0, 0, 15), (0, 0, 15), (0, 0, 15), (0, 0, 15), (0, 0, 15), (1, 0, 10), (0, 0, 10), (0, 0, 10), (0, 0, 10), (1, 0, 10), (0, 0, 23), (0, 0, 23)], .lin .i64 0 [(0, 0, 100), (0, 0, 100), (0, 1, 100), (0, 1, 100), (0, 0, 10), (0, 0, 10), (0, 0, 10), (0, 0, 10), (0, 0, 10), (0, 0, 10), (0, 0, 15), (0, 0, 15), (0, 0, 15), (1, 0, 15)]),
  (100, .int .i64 10, .lin .i64 0 [(0, 0, 100), (0, 0, 100), (0, 1, 100), (0, 1, 100), (0, 0, 10), (0, 0, 10), (0, 0, 10), (0, 0, 10), (0, 0, 10), (0, 0, 10), (0, 0, 15), (0, 0, 15), (0, 0, 15), (1, 0, 15)], .lin .i64 0 [(0, 0, 100), (0, 0, 100), (0, 1, 100), (0, 1, 100), (0, 0, 10), (0, 0, 10), (0, 0, 10), (1, 0, 10)]),
  (101, .int .i64 0, .lin .i64 (-5) [(0, 0, 100), (0, 0, 100), (0, 1, 100), (0, 1, 100), (0, 0, 10), (0, 0, 10), (0, 0, 10), (0, 0, 10), (0, 0, 10), (0, 0, 10), (0, 0, 15), (0, 0, 15), (0, 0, 15), (0, 0, 15), (0, 0, 15), (0, 0, 15), (0, 0, 10), (1, 0, 10), (0, 0, 10), (0, 0, 10), (1, 0, 10), (0, 0, 23), (0, 0, 23)], .lin .i64 0 [(0, 0, 100), (0, 0, 100), (0, 1, 100), (0, 1, 100), (0, 0, 10), (0, 0, 10), (0, 0, 10), (0, 0, 10), (0, 0, 10), (0, 0, 10), (0, 0, 15), (0, 0, 15), (0, 0, 15), (0, 0, 15), (1, 0, 15)]),
  (100, .int .i64 10, .lin .i64 0 [(0, 0, 100), (0, 0, 100), (0, 1, 100), (0, 1, 100), (0, 0, 10), (0, 0, 10), (0, 0, 10), (0, 0, 10), (0, 0, 10), (0, 0, 10), (0, 0, 15), (0, 0, 15), (0, 0, 15), (0, 0, 15), (1, 0, 15)], .lin .i64 0 [(0, 0, 100), (0, 0, 100), (0, 1, 100), (0, 1, 100), (0, 0, 10), (0, 0, 10), (0, 0, 10), (0, 0, 10), (1, 0, 10)]),
  (2, .lin .i64 10 [(0, 0, 100), (0, 0, 100), (0, 1, 100), (0, 1, 100), (0, 0, 10), (0, 0, 10), (0, 0, 10), (-1, 0, 10)], .lin .i64 10 [(0, 0, 100), (0, 0, 100), (0, 1, 100), (0, 1, 100), (0, 0, 10), (0, 0, 10), (0, 0, 10), (0, 0, 10), (-1, 0, 10)], .lin .i64 0 [(1, 0, 100)]),
  (2, .lin .i64 10 [(0, 0, 100), (0, 0, 100), (0, 1, 100), (0, 1, 100), (0, 0, 10), (0, 0, 10), (0, 0, 10), (-1, 0, 10)], .lin .i64 0 [(0, 0, 100), (0, 0, 100), (0, 1, 100), (0, 1, 100), (0, 0, 10), (0, 0, 10), (0, 0, 10), (0, 0, 10), (1, 0, 10)], .lin .i64 100 [(-1, 0, 100), (0, 0, 100), (0, 1, 100), (0, 1, 100), (0, 0, 10), (0, 0, 10), (0, 0, 10), (-10, 0, 10)]),
  (101, .int .i64 0, .lin .i64 (-5) [(0, 0, 100), (0, 0, 100), (0, 1, 100), (0, 1, 100), (0, 0, 10), (0, 0, 10), (0, 0, 10), (0, 0, 10), (0, 0, 10), (0, 0, 10), (0, 0, 15), (0, 0, 15), (0, 0, 15), (0, 0, 15), (0, 0, 15), (0, 0, 15), (0, 0, 10), (0, 0, 10), (1, 0, 10), (0, 0, 10), (1, 0, 10), (0, 0, 23), (0, 0, 23)], .lin .i64 0 [(0, 0, 100), (0, 0, 100), (0, 1, 100), (0, 1, 100), (0, 0, 10), (0, 0, 10), (0, 0, 10), (0, 0, 10), (0, 0, 10), (0, 0, 10), (0, 0, 15), (0, 0, 15), (0, 0, 15), (0, 0, 15), (0, 0, 15), (1, 0, 15)]),
  (100, .int .i64 10, .lin .i64 0 [(0, 0, 100), (0, 0, 100), (0, 1, 100), (0, 1, 100), (0, 0, 10), (0, 0, 10), (0, 0, 10), (0, 0, 10), (0, 0, 10), (0, 0, 10), (0, 0, 15), (0, 0, 15), (0, 0, 15), (0, 0, 15), (0, 0, 15), (1, 0, 15)], .lin .i64 0 [(0, 0, 100), (0, 0, 100), (0, 1, 100), (0, 1, 100), (0, 0, 10), (0, 0, 10), (0, 0, 10), (0, 0, 10), (0, 0, 10), (1, 0, 10)]),
  (2, .lin .i64 0 [(0, 0, 100), (0, 0, 100), (0, 1, 100), (0, 1, 100), (0, 0, 10), (0, 0, 10), (0, 0, 10), (1, 0, 10)], .lin .i64 10 [(0, 0, 100), (0, 0, 100), (0, 1, 100), (0, 1, 100), (0, 0, 10), (0, 0, 10), (0, 0, 10), (0, 0, 10), (0, 0, 10), (-1, 0, 10)], .lin .i64 0 [(0, 0, 100), (-1, 0, 100), (0, 1, 100), (0, 1, 100), (0, 0, 10), (0, 0, 10), (0, 0, 10), (10, 0, 10)]),
  (2, .lin .i64 0 [(0, 0, 100), (0, 0, 100), (0, 1, 100), (0, 1, 100), (0, 0, 10), (0, 0, 10), (0, 0, 10), (1, 0, 10)], .lin .i64 0 [(0, 0, 100), (0, 0, 100), (0, 1, 100), (0, 1, 100), (0, 0, 10), (0, 0, 10), (0, 0, 10), (0, 0, 10), (0, 0, 10), (1, 0, 10)], .lin .i64 0 [(0, 0, 100), (1, 0, 100)]),
  (7, .lin .i64 0 [(1, 0, 100), (0, 0, 100), (1, 1, 100)], .int .i64 100, .bool false),
  (5, .lin .i64 100 [(-1, 0, 100), (-1, 0, 100), (-1, 1, 100), (-1, 1, 100), (0, 0, 10)], .int .i64 0, .bool false),
  (5, .lin .i64 100 [(-1, 0, 100), (-1, 0, 100), (0, 1, 100), (0, 1, 100), (0, 0, 10), (0, 0, 10), (0, 0, 10), (0, 0, 10)], .int .i64 0, .bool false),
  (7, .lin .i64 0 [(0, 0, 100), (1, 0, 100), (0, 1, 100), (1, 1, 100)], .int .i64 100, .bool false),
  (6, .lin .i64 0 [(1, 0, 100), (0, 0, 100), (1, 1, 100)], .int .i64 100, .bool true),
  (8, .lin .i64 100 [(-1, 0, 100), (-1, 0, 100), (-1, 1, 100), (-1, 1, 100), (0, 0, 10)], .int .i64 0, .bool true),
  (6, .lin .i64 0 [(0, 0, 100), (1, 0, 100), (0, 1, 100), (1, 1, 100)], .int .i64 100, .bool true)]
def hb_pp : AH := hB (.lin .i64 0 [(0, 0, 100), (0, 0, 100), (0, 1, 100), (0, 1, 100), (0, 0, 10), (0, 0, 10), (0, 0, 10), (0, 0, 10), (0, 0, 10), (0, 0, 10), (0, 0, 15), (0, 0, 15), (0, 0, 15), (0, 0, 15), (0, 0, 15), (0, 0, 15), (1, 0, 10)]) (.lin .i64 0 [(0, 0, 100), (0, 0, 100), (0, 1, 100), (0, 1, 100), (0, 0, 10), (0, 0, 10), (0, 0, 10), (0, 0, 10), (0, 0, 10), (0, 0, 10), (0, 0, 15), (0, 0, 15), (0, 0, 15), (0, 0, 15), (0, 0, 15), (0, 0, 15), (0, 0, 10), (1, 0, 10)]) (.lin .i64 0 [(0, 0, 100), (0, 0, 100), (0, 1, 100), (0, 1, 100), (0, 0, 10), (0, 0, 10), (0, 0, 10), (0, 0, 10), (0, 0, 10), (0, 0, 10), (0, 0, 15), (0, 0, 15), (0, 0, 15), (0, 0, 15), (0, 0, 15), (0, 0, 15), (0, 0, 10), (0, 0, 10), (1, 0, 10)]) (.lin .i64 0 [(0, 0, 100), (0, 0, 100), (0, 1, 100), (0, 1, 100), (0, 0, 10), (0, 0, 10), (0, 0, 10), (0, 0, 10), (0, 0, 10), (0, 0, 10), (0, 0, 15), (0, 0, 15), (0, 0, 15), (0, 0, 15), (0, 0, 15), (0, 0, 15), (0, 0, 10), (0, 0, 10), (0, 0, 10), (0, 0, 10), (0, 0, 10), (0, 0, 23), (0, 0, 23), (1, 0, 500)]) (.lin .i64 0 [(0, 0, 100), (0, 0, 100), (0, 1, 100), (0, 1, 100), (0, 0, 10), (0, 0, 10), (0, 0, 10), (0, 0, 10), (0, 0, 10), (0, 0, 10), (0, 0, 15), (0, 0, 15), (0, 0, 15), (0, 0, 15), (0, 0, 15), (0, 0, 15), (0, 0, 10), (0, 0, 10), (0, 0, 10), (0, 0, 10), (0, 0, 10), (0, 0, 23), (0, 0, 23), (0, 0, 500), (1, 0, 500)]) (.lin .i64 0 [(0, 0, 100), (0, 0, 100), (0, 1, 100), (0, 1, 100), (0, 0, 10), (0, 0, 10), (0, 0, 10), (0, 0, 10), (0, 0, 10), (0, 0, 10), (0, 0, 15), (0, 0, 15), (0, 0, 15), (0, 0, 15), (0, 0, 15), (0, 0, 15), (0, 0, 10), (0, 0, 10), (0, 0, 10), (0, 0, 10), (0, 0, 10), (0, 0, 23), (0, 0, 23), (0, 0, 500), (0, 0, 500), (1, 0, 500)])
def ar_pp : List AV := [.agg [.sl (some (0, 0)) 2 (.u 1), .sl (some (3, 0)) 3 (.u 1)], .lin .u8 0 [(0, 0, 100), (0, 0, 100), (0, 1, 100), (0, 1, 100), (0, 0, 10), (0, 0, 10), (0, 0, 10), (0, 0, 10), (0, 0, 10), (0, 0, 10), (0, 0, 15), (0, 0, 15), (0, 0, 15), (0, 0, 15), (0, 0, 15), (0, 0, 15), (0, 0, 10), (0, 0, 10), (0, 0, 10), (1, 0, 10), (0, 0, 10), (11, 0, 23)], .lin .u8 0 [(0, 0, 100), (0, 0, 100), (0, 1, 100), (0, 1, 100), (0, 0, 10), (0, 0, 10), (0, 0, 10), (0, 0, 10), (0, 0, 10), (0, 0, 10), (0, 0, 15), (0, 0, 15), (0, 0, 15), (0, 0, 15), (0, 0, 15), (0, 0, 15), (0, 0, 10), (0, 0, 10), (0, 0, 10), (0, 0, 10), (1, 0, 10), (0, 0, 23), (11, 0, 23)]]
theorem fr_pp : isVal (run (exeO orc_pp [37] []) 100000 (.call (.func 9) ar_pp hb_pp)) isTrue = true := by decide +kernel
end
set_option maxHeartbeats 1000000 in
theorem fal_pp (hl : ∀ f ∈ [37], YesFn Tryz.prog f) {W : World} {A A0 A1 A' : Addr} {cA c0 c1 c' : Nat} {a c d e R0 R1 R2 S0 S1 S2 M0 M1 M2 N0 N1 N2 p0 p1 p2 r1 r2 q1 q2 y0 y1 y2 w0 w2 v0 v2 x1 x2 : Int} (hb : Brd W A A0 A1 A' cA c0 c1 c' p0 p1 p2 y0 y1 y2) (F : FV R0 R1 R2 S0 S1 S2 M0 M1 M2 N0 N1 N2 p0 p1 p2 r1 r2 q1 q2 y0 y1 y2 w0 w2 v0 v2) (hx1 : x1 = r1 + 11 * q1) (hx2 : x2 = r2 + 11 * q2)
    (b0 : 0 ≤ a ∧ a ≤ 100) (b1 : 0 ≤ c ∧ c ≤ 100) (b2 : 1 ≤ d ∧ d ≤ 100) (b3 : 1 ≤ e ∧ e ≤ 100) (hw0 : w0 = a + d) (hw2 : w2 = c + e) (hv0 : v0 = a) (hv2 : v2 = c) : CallsIn (Fro none) 0 Tryz.prog 9 #[.agg #[.slice (some A) 2 cA, .slice (some A') 3 c'], .int .u8 x1, .int .u8 x2] W (Yes W) := by
  letI : Val := ⟨fun i => match i with
    | 0 => a
    | 1 => c
    | 2 => d
    | 3 => e
    | 4 => R0
    | 5 => R1
    | 6 => R2
    | 7 => S0
    | 8 => S1
    | 9 => S2
    | 10 => M0
    | 11 => M1
    | 12 => M2
    | 13 => N0
    | 14 => N1
    | 15 => N2
    | 16 => p0
    | 17 => p1
    | 18 => p2
    | 19 => r1
    | 20 => r2
    | 21 => q1
    | 22 => q2
    | 23 => y0
    | 24 => y1
    | _ => y2, fun _ => .nilFunc⟩
  letI : Bet := bet0
  have hw := F.hw
  have hv := F.hv
  have r0 := F.b4
  have s0 := F.b7
  have z0 : (Val.rho 0 : Int) = a := rfl
  have z1 : (Val.rho 1 : Int) = c := rfl
  have z2 : (Val.rho 2 : Int) = d := rfl
  have z3 : (Val.rho 3 : Int) = e := rfl
  have z4 : (Val.rho 4 : Int) = R0 := rfl
  have z5 : (Val.rho 5 : Int) = R1 := rfl
  have z6 : (Val.rho 6 : Int) = R2 := rfl
  have z7 : (Val.rho 7 : Int) = S0 := rfl
  have z8 : (Val.rho 8 : Int) = S1 := rfl
  have z9 : (Val.rho 9 : Int) = S2 := rfl
  have z10 : (Val.rho 10 : Int) = M0 := rfl
  have z11 : (Val.rho 11 : Int) = M1 := rfl
  have z12 : (Val.rho 12 : Int) = M2 := rfl
  have z13 : (Val.rho 13 : Int) = N0 := rfl
  have z14 : (Val.rho 14 : Int) = N1 := rfl
  have z15 : (Val.rho 15 : Int) = N2 := rfl
  have z16 : (Val.rho 16 : Int) = p0 := rfl
  have z17 : (Val.rho 17 : Int) = p1 := rfl
  have z18 : (Val.rho 18 : Int) = p2 := rfl
  have z19 : (Val.rho 19 : Int) = r1 := rfl
  have z20 : (Val.rho 20 : Int) = r2 := rfl
  have z21 : (Val.rho 21 : Int) = q1 := rfl
  have z22 : (Val.rho 22 : Int) = q2 := rfl
  have z23 : (Val.rho 23 : Int) = y0 := rfl
  have z24 : (Val.rho 24 : Int) = y1 := rfl
  have z25 : (Val.rho 25 : Int) = y2 := rfl
  have ho : OrcOK orc_pp := orcOK_of (by
    intro x hx
    simp only [orc_pp, List.mem_cons, List.not_mem_nil, or_false] at hx
    rcases hx with rfl | rfl | rfl | rfl | rfl | rfl | rfl | rfl | rfl | rfl | rfl | rfl | rfl | rfl | rfl | rfl | rfl | rfl | rfl | rfl | rfl | rfl | rfl | rfl | rfl | rfl | rfl
    · exact orc_max rfl rfl rfl ⟨b0, b1, b2, b3, F.b4, F.b5, F.b6, F.b7, F.b8, F.b9, F.b10, trivial⟩ rfl (by simp only [numA, linS, Nat.reduceAdd]; omega) (by simp only [numA, linS, Nat.reduceAdd]; omega) F.m0
    · exact orc_min rfl rfl rfl ⟨b0, b1, b2, b3, F.b4, trivial⟩ rfl (by simp only [numA, linS, Nat.reduceAdd]; omega) (by simp only [numA, linS, Nat.reduceAdd]; omega) F.k0
    · exact orc_max rfl rfl rfl ⟨b0, b1, b2, b3, F.b4, F.b5, F.b6, F.b7, F.b8, F.b9, F.b10, F.b11, trivial⟩ rfl (by simp only [numA, linS, Nat.reduceAdd]; omega) (by simp only [numA, linS, Nat.reduceAdd]; omega) F.m1
    · exact orc_min rfl rfl rfl ⟨b0, b1, b2, b3, F.b4, F.b5, trivial⟩ rfl (by simp only [numA, linS, Nat.reduceAdd]; omega) (by simp only [numA, linS, Nat.reduceAdd]; omega) F.k1
    · exact orc_mul rfl rfl rfl ⟨b0, b1, b2, trivial⟩ (by simp only [numA, linS, Nat.reduceAdd]; omega) (by simp only [numA, linS, Nat.reduceAdd]; omega) (by simp only [numA, linS, Nat.reduceAdd]; omega) F.f0 (by omega) (by omega)
    · exact orc_mul rfl rfl rfl ⟨b0, b1, b2, b3, F.b4, trivial⟩ (by simp only [numA, linS, Nat.reduceAdd]; omega) (by simp only [numA, linS, Nat.reduceAdd]; omega) (by simp only [numA, linS, Nat.reduceAdd]; omega) F.f1 (by omega) (by omega)
    · exact orc_max rfl rfl rfl ⟨b0, b1, b2, b3, F.b4, F.b5, F.b6, F.b7, F.b8, F.b9, F.b10, F.b11, F.b12, trivial⟩ rfl (by simp only [numA, linS, Nat.reduceAdd]; omega) (by simp only [numA, linS, Nat.reduceAdd]; omega) F.m2
    · exact orc_min rfl rfl rfl ⟨b0, b1, b2, b3, F.b4, F.b5, F.b6, trivial⟩ rfl (by simp only [numA, linS, Nat.reduceAdd]; omega) (by simp only [numA, linS, Nat.reduceAdd]; omega) F.k2
    · exact orc_mul rfl rfl rfl ⟨b0, b1, b2, b3, F.b4, trivial⟩ (by simp only [numA, linS, Nat.reduceAdd]; omega) (by simp only [numA, linS, Nat.reduceAdd]; omega) (by simp only [numA, linS, Nat.reduceAdd]; omega) F.f2 (by omega) (by omega)
    · exact orc_mul rfl rfl rfl ⟨b0, b1, b2, b3, trivial⟩ (by simp only [numA, linS, Nat.reduceAdd]; omega) (by simp only [numA, linS, Nat.reduceAdd]; omega) (by simp only [numA, linS, Nat.reduceAdd]; omega) F.f3 (by omega) (by omega)
    · exact orc_max rfl rfl rfl ⟨b0, b1, b2, b3, F.b4, F.b5, F.b6, F.b7, F.b8, F.b9, F.b10, F.b11, F.b12, F.b13, trivial⟩ rfl (by simp only [numA, linS, Nat.reduceAdd]; omega) (by simp only [numA, linS, Nat.reduceAdd]; omega) F.m3
    · exact orc_min rfl rfl rfl ⟨b0, b1, b2, b3, F.b4, F.b5, F.b6, F.b7, trivial⟩ rfl (by simp only [numA, linS, Nat.reduceAdd]; omega) (by simp only [numA, linS, Nat.reduceAdd]; omega) F.k3
    · exact orc_max rfl rfl rfl ⟨b0, b1, b2, b3, F.b4, F.b5, F.b6, F.b7, F.b8, F.b9, F.b10, F.b11, F.b12, F.b13, F.b14, trivial⟩ rfl (by simp only [numA, linS, Nat.reduceAdd]; omega) (by simp only [numA, linS, Nat.reduceAdd]; omega) F.m4
    · exact orc_min rfl rfl rfl ⟨b0, b1, b2, b3, F.b4, F.b5, F.b6, F.b7, F.b8, trivial⟩ rfl (by simp only [numA, linS, Nat.reduceAdd]; omega) (by simp only [numA, linS, Nat.reduceAdd]; omega) F.k4
    · exact orc_mul rfl rfl rfl ⟨b0, trivial⟩ (by simp only [numA, linS, Nat.reduceAdd]; omega) (by simp only [numA, linS, Nat.reduceAdd]; omega) (by simp only [numA, linS]; omega) F.f4 (by omega) (by omega)
    · exact orc_mul rfl rfl rfl ⟨b0, b1, b2, b3, F.b4, F.b5, F.b6, F.b7, trivial⟩ (by simp only [numA, linS, Nat.reduceAdd]; omega) (by simp only [numA, linS, Nat.reduceAdd]; omega) (by simp only [numA, linS, Nat.reduceAdd]; omega) F.f5 (by omega) (by omega)
    · exact orc_max rfl rfl rfl ⟨b0, b1, b2, b3, F.b4, F.b5, F.b6, F.b7, F.b8, F.b9, F.b10, F.b11, F.b12, F.b13, F.b14, F.b15, trivial⟩ rfl (by simp only [numA, linS, Nat.reduceAdd]; omega) (by simp only [numA, linS, Nat.reduceAdd]; omega) F.m5
    · exact orc_min rfl rfl rfl ⟨b0, b1, b2, b3, F.b4, F.b5, F.b6, F.b7, F.b8, F.b9, trivial⟩ rfl (by simp only [numA, linS, Nat.reduceAdd]; omega) (by simp only [numA, linS, Nat.reduceAdd]; omega) F.k5
    · exact orc_mul rfl rfl rfl ⟨b0, b1, b2, b3, F.b4, F.b5, F.b6, F.b7, trivial⟩ (by simp only [numA, linS, Nat.reduceAdd]; omega) (by simp only [numA, linS, Nat.reduceAdd]; omega) (by simp only [numA, linS, Nat.reduceAdd]; omega) F.f6 (by omega) (by omega)
    · exact orc_mul rfl rfl rfl ⟨b0, b1, trivial⟩ (by simp only [numA, linS, Nat.reduceAdd]; omega) (by simp only [numA, linS, Nat.reduceAdd]; omega) (by simp only [numA, linS, Nat.reduceAdd]; omega) F.f7 (by omega) (by omega)
    · exact orc_gt0 (t := 0 + 1 * a + 1 * d) (s := 100) rfl rfl (by simp only [numA, linS, Nat.reduceAdd]; omega) rfl (by omega)
    · exact orc_lt0 (t := 100 + -1 * a + -1 * c + -1 * d + -1 * e) (s := 0) rfl rfl (by simp only [numA, linS, Nat.reduceAdd]; omega) rfl (by omega)
    · exact orc_lt0 (t := 100 + -1 * a + -1 * c) (s := 0) rfl rfl (by simp only [numA, linS, Nat.reduceAdd]; omega) rfl (by omega)
    · exact orc_gt0 (t := 0 + 1 * c + 1 * e) (s := 100) rfl rfl (by simp only [numA, linS, Nat.reduceAdd]; omega) rfl (by omega)
    · exact orc_le1 (t := 0 + 1 * a + 1 * d) (s := 100) rfl rfl (by simp only [numA, linS, Nat.reduceAdd]; omega) rfl (by omega)
    · exact orc_ge1 (t := 100 + -1 * a + -1 * c + -1 * d + -1 * e) (s := 0) rfl rfl (by simp only [numA, linS, Nat.reduceAdd]; omega) rfl (by omega)
    · exact orc_le1 (t := 0 + 1 * c + 1 * e) (s := 100) rfl rfl (by simp only [numA, linS, Nat.reduceAdd]; omega) rfl (by omega))
  obtain ⟨hR, hz, hg⟩ := hb.r
    (x0 := .lin .i64 0 [(0, 0, 100), (0, 0, 100), (0, 1, 100), (0, 1, 100), (0, 0, 10), (0, 0, 10), (0, 0, 10), (0, 0, 10), (0, 0, 10), (0, 0, 10), (0, 0, 15), (0, 0, 15), (0, 0, 15), (0, 0, 15), (0, 0, 15), (0, 0, 15), (1, 0, 10)])
    (x1 := .lin .i64 0 [(0, 0, 100), (0, 0, 100), (0, 1, 100), (0, 1, 100), (0, 0, 10), (0, 0, 10), (0, 0, 10), (0, 0, 10), (0, 0, 10), (0, 0, 10), (0, 0, 15), (0, 0, 15), (0, 0, 15), (0, 0, 15), (0, 0, 15), (0, 0, 15), (0, 0, 10), (1, 0, 10)])
    (x2 := .lin .i64 0 [(0, 0, 100), (0, 0, 100), (0, 1, 100), (0, 1, 100), (0, 0, 10), (0, 0, 10), (0, 0, 10), (0, 0, 10), (0, 0, 10), (0, 0, 10), (0, 0, 15), (0, 0, 15), (0, 0, 15), (0, 0, 15), (0, 0, 15), (0, 0, 15), (0, 0, 10), (0, 0, 10), (1, 0, 10)])
    (x3 := .lin .i64 0 [(0, 0, 100), (0, 0, 100), (0, 1, 100), (0, 1, 100), (0, 0, 10), (0, 0, 10), (0, 0, 10), (0, 0, 10), (0, 0, 10), (0, 0, 10), (0, 0, 15), (0, 0, 15), (0, 0, 15), (0, 0, 15), (0, 0, 15), (0, 0, 15), (0, 0, 10), (0, 0, 10), (0, 0, 10), (0, 0, 10), (0, 0, 10), (0, 0, 23), (0, 0, 23), (1, 0, 500)])
    (x4 := .lin .i64 0 [(0, 0, 100), (0, 0, 100), (0, 1, 100), (0, 1, 100), (0, 0, 10), (0, 0, 10), (0, 0, 10), (0, 0, 10), (0, 0, 10), (0, 0, 10), (0, 0, 15), (0, 0, 15), (0, 0, 15), (0, 0, 15), (0, 0, 15), (0, 0, 15), (0, 0, 10), (0, 0, 10), (0, 0, 10), (0, 0, 10), (0, 0, 10), (0, 0, 23), (0, 0, 23), (0, 0, 500), (1, 0, 500)])
    (x5 := .lin .i64 0 [(0, 0, 100), (0, 0, 100), (0, 1, 100), (0, 1, 100), (0, 0, 10), (0, 0, 10), (0, 0, 10), (0, 0, 10), (0, 0, 10), (0, 0, 10), (0, 0, 15), (0, 0, 15), (0, 0, 15), (0, 0, 15), (0, 0, 15), (0, 0, 15), (0, 0, 10), (0, 0, 10), (0, 0, 10), (0, 0, 10), (0, 0, 10), (0, 0, 23), (0, 0, 23), (0, 0, 500), (0, 0, 500), (1, 0, 500)])
    (.lin _ _ _ _ (by show p0 = (0 + (0 * a + (0 * c + (0 * d + (0 * e + (0 * R0 + (0 * R1 + (0 * R2 + (0 * S0 + (0 * S1 + (0 * S2 + (0 * M0 + (0 * M1 + (0 * M2 + (0 * N0 + (0 * N1 + (0 * N2 + (1 * p0 + 0))))))))))))))))) : Int); omega) ⟨b0, b1, b2, b3, F.b4, F.b5, F.b6, F.b7, F.b8, F.b9, F.b10, F.b11, F.b12, F.b13, F.b14, F.b15, F.b16, trivial⟩)
    (.lin _ _ _ _ (by show p1 = (0 + (0 * a + (0 * c + (0 * d + (0 * e + (0 * R0 + (0 * R1 + (0 * R2 + (0 * S0 + (0 * S1 + (0 * S2 + (0 * M0 + (0 * M1 + (0 * M2 + (0 * N0 + (0 * N1 + (0 * N2 + (0 * p0 + (1 * p1 + 0)))))))))))))))))) : Int); omega) ⟨b0, b1, b2, b3, F.b4, F.b5, F.b6, F.b7, F.b8, F.b9, F.b10, F.b11, F.b12, F.b13, F.b14, F.b15, F.b16, F.b17, trivial⟩)
    (.lin _ _ _ _ (by show p2 = (0 + (0 * a + (0 * c + (0 * d + (0 * e + (0 * R0 + (0 * R1 + (0 * R2 + (0 * S0 + (0 * S1 + (0 * S2 + (0 * M0 + (0 * M1 + (0 * M2 + (0 * N0 + (0 * N1 + (0 * N2 + (0 * p0 + (0 * p1 + (1 * p2 + 0))))))))))))))))))) : Int); omega) ⟨b0, b1, b2, b3, F.b4, F.b5, F.b6, F.b7, F.b8, F.b9, F.b10, F.b11, F.b12, F.b13, F.b14, F.b15, F.b16, F.b17, F.b18, trivial⟩)
    (.lin _ _ _ _ (by show y0 = (0 + (0 * a + (0 * c + (0 * d + (0 * e + (0 * R0 + (0 * R1 + (0 * R2 + (0 * S0 + (0 * S1 + (0 * S2 + (0 * M0 + (0 * M1 + (0 * M2 + (0 * N0 + (0 * N1 + (0 * N2 + (0 * p0 + (0 * p1 + (0 * p2 + (0 * r1 + (0 * r2 + (0 * q1 + (0 * q2 + (1 * y0 + 0)))))))))))))))))))))))) : Int); omega) ⟨b0, b1, b2, b3, F.b4, F.b5, F.b6, F.b7, F.b8, F.b9, F.b10, F.b11, F.b12, F.b13, F.b14, F.b15, F.b16, F.b17, F.b18, F.b19, F.b20, F.b21, F.b22, F.b23, trivial⟩)
    (.lin _ _ _ _ (by show y1 = (0 + (0 * a + (0 * c + (0 * d + (0 * e + (0 * R0 + (0 * R1 + (0 * R2 + (0 * S0 + (0 * S1 + (0 * S2 + (0 * M0 + (0 * M1 + (0 * M2 + (0 * N0 + (0 * N1 + (0 * N2 + (0 * p0 + (0 * p1 + (0 * p2 + (0 * r1 + (0 * r2 + (0 * q1 + (0 * q2 + (0 * y0 + (1 * y1 + 0))))))))))))))))))))))))) : Int); omega) ⟨b0, b1, b2, b3, F.b4, F.b5, F.b6, F.b7, F.b8, F.b9, F.b10, F.b11, F.b12, F.b13, F.b14, F.b15, F.b16, F.b17, F.b18, F.b19, F.b20, F.b21, F.b22, F.b23, F.b24, trivial⟩)
    (.lin _ _ _ _ (by show y2 = (0 + (0 * a + (0 * c + (0 * d + (0 * e + (0 * R0 + (0 * R1 + (0 * R2 + (0 * S0 + (0 * S1 + (0 * S2 + (0 * M0 + (0 * M1 + (0 * M2 + (0 * N0 + (0 * N1 + (0 * N2 + (0 * p0 + (0 * p1 + (0 * p2 + (0 * r1 + (0 * r2 + (0 * q1 + (0 * q2 + (0 * y0 + (0 * y1 + (1 * y2 + 0)))))))))))))))))))))))))) : Int); omega) ⟨b0, b1, b2, b3, F.b4, F.b5, F.b6, F.b7, F.b8, F.b9, F.b10, F.b11, F.b12, F.b13, F.b14, F.b15, F.b16, F.b17, F.b18, F.b19, F.b20, F.b21, F.b22, F.b23, F.b24, F.b25, trivial⟩)
  exact callsIn_frz ho hl (fun _ h => by cases h) hR hz fr_pp (.cons _ _ _ _ hg (.cons _ _ _ _ (.lin _ _ _ _ (by show x1 = (0 + (0 * a + (0 * c + (0 * d + (0 * e + (0 * R0 + (0 * R1 + (0 * R2 + (0 * S0 + (0 * S1 + (0 * S2 + (0 * M0 + (0 * M1 + (0 * M2 + (0 * N0 + (0 * N1 + (0 * N2 + (0 * p0 + (0 * p1 + (0 * p2 + (1 * r1 + (0 * r2 + (11 * q1 + 0)))))))))))))))))))))) : Int); omega) ⟨b0, b1, b2, b3, F.b4, F.b5, F.b6, F.b7, F.b8, F.b9, F.b10, F.b11, F.b12, F.b13, F.b14, F.b15, F.b16, F.b17, F.b18, F.b19, F.b20, F.b21, trivial⟩) (.cons _ _ _ _ (.lin _ _ _ _ (by show x2 = (0 + (0 * a + (0 * c + (0 * d + (0 * e + (0 * R0 + (0 * R1 + (0 * R2 + (0 * S0 + (0 * S1 + (0 * S2 + (0 * M0 + (0 * M1 + (0 * M2 + (0 * N0 + (0 * N1 + (0 * N2 + (0 * p0 + (0 * p1 + (0 * p2 + (0 * r1 + (1 * r2 + (0 * q1 + (11 * q2 + 0))))))))))))))))))))))) : Int); omega) ⟨b0, b1, b2, b3, F.b4, F.b5, F.b6, F.b7, F.b8, F.b9, F.b10, F.b11, F.b12, F.b13, F.b14, F.b15, F.b16, F.b17, F.b18, F.b19, F.b20, F.b21, F.b22, trivial⟩) .nil))) 0
end Go.Proofs.YtibmpjhffeinoaaGreat.Kx
