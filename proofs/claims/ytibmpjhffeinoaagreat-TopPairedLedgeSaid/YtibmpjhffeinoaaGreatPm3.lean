/-
  TopPairedLedge for a valid board of so many rows: the runs.
-/
import Derived.Test.YtibmpjhffeinoaaGreatPs3
import Derived.Test.YtibmpjhffeinoaaGreatPe3
namespace Go.Proofs.YtibmpjhffeinoaaGreat.Kx
open Go Go.RowKit

namespace M7
noncomputable section
def BB : List (Int × Int) := [(0, 10000000), (0, 10000000), (0, 10000000), (0, 10000000), (0, 10000000), (0, 10000000), (0, 10000000), (0, 10000000), (0, 10000000), (0, 10000000), (0, 10000000), (0, 10000000), (0, 10000000), (0, 10000000), (0, 10000000), (0, 10000000), (0, 100000000000000), (0, 100000000000000), (0, 100000000000000), (0, 100000000000000), (0, 100000000000000), (0, 100000000000000), (0, 100000000000000), (0, 100000000000000), (0, 100000000000000), (0, 100000000000000), (0, 100000000000000), (0, 100000000000000), (0, 100000000000000), (0, 100000000000000), (0, 100000000000000), (0, 100000000000000), (0, 100000000000000), (0, 100000000000000), (0, 100000000000000), (0, 100000000000000), (0, 100000000000000), (0, 100000000000000), (0, 100000000000000), (0, 100000000000000), (0, 100000000000000), (0, 100000000000000), (0, 100000000000000), (0, 100000000000000), (0, 100000000000000), (0, 100000000000000), (0, 100000000000000), (0, 100000000000000), (0, 100000000000000), (0, 100000000000000), (0, 100000000000000), (0, 100000000000000), (0, 100000000000000), (0, 100000000000000), (0, 100000000000000), (0, 100000000000000), (0, 100000000000000), (0, 100000000000000), (0, 100000000000000), (0, 100000000000000), (0, 100000000000000), (0, 100000000000000), (0, 100000000000000), (0, 100000000000000), (0, 100000000000000), (0, 100000000000000), (0, 100000000000000), (0, 100000000000000), (0, 100000000000000), (0, 100000000000000), (0, 100000000000000), (0, 100000000000000), (0, 100000000000000), (0, 100000000000000), (0, 100000000000000), (0, 100000000000000), (0, 100000000000000), (0, 100000000000000), (0, 100000000000000), (0, 100000000000000), (0, 100000000000000), (0, 100000000000000), (0, 100000000000000), (0, 100000000000000), (0, 100000000000000), (0, 100000000000000), (0, 100000000000000), (0, 100000000000000), (0, 10), (0, 10), (0, 23), (0, 23), (0, 10), (0, 10), (0, 10), (0, 10), (0, 10), (0, 10), (0, 10), (0, 10), (0, 10), (0, 10), (0, 10), (0, 10), (0, 10), (0, 10), (0, 10), (0, 10), (0, 10), (0, 10), (0, 10), (0, 10), (0, 10), (0, 10), (0, 10), (0, 10), (0, 10), (0, 10), (0, 10), (0, 10), (0, 10), (0, 10), (0, 500), (0, 500), (0, 500), (0, 500), (0, 500), (0, 500), (0, 500), (0, 500)]
def sls : List AV := [.sl (some (1, 0)) 1 (.u 1), .sl (some (2, 0)) 2 (.u 1), .sl (some (3, 0)) 3 (.u 1), .sl (some (4, 0)) 4 (.u 1), .sl (some (5, 0)) 5 (.u 1), .sl (some (6, 0)) 6 (.u 1), .sl (some (7, 0)) 7 (.u 1)]
def r0 : List AV := sy BB [94]
def r1 : List AV := sy BB [95, 96]
def r2 : List AV := sy BB [97, 98, 99]
def r3 : List AV := sy BB [100, 101, 102, 103]
def r4 : List AV := sy BB [104, 105, 106, 107, 108]
def r5 : List AV := sy BB [109, 110, 111, 112, 113, 114]
def r6 : List AV := sy BB [115, 116, 117, 118, 119, 120, 121]
def py : List AV := sy BB [122, 123, 124, 125, 126, 127, 128, 129]
def hb : AH := ⟨9, (.n (.n (.n (.n (.n (.n (.n (.n (.n (.n (.n (.n (.n (.n (.n (.l (.froz sls)) .e) .e) .e) .e) .e) .e) .e) .e) .e) .e) .e) (.n (.n (.n (.n (.n (.n (.n (.n (.n (.n (.n (.l (.froz py)) .e) .e) .e) .e) .e) .e) .e) .e) .e) .e) .e)) (.n (.n (.n (.n (.n (.n (.n (.n (.n (.n (.n (.n (.l (.froz r3)) .e) .e) .e) .e) .e) .e) .e) .e) .e) .e) .e) .e)) (.n (.n (.n (.n (.n (.n (.n (.n (.n (.n (.n (.n (.n (.l (.froz r1)) .e) .e) .e) .e) .e) .e) .e) .e) .e) .e) .e) .e) (.n (.n (.n (.n (.n (.n (.n (.n (.n (.n (.n (.n (.l (.froz r5)) .e) .e) .e) .e) .e) .e) .e) .e) .e) .e) .e) .e))) (.n (.n (.n (.n (.n (.n (.n (.n (.n (.n (.n (.n (.n (.n (.l (.froz r0)) .e) .e) .e) .e) .e) .e) .e) .e) .e) .e) .e) .e) (.n (.n (.n (.n (.n (.n (.n (.n (.n (.n (.n (.n (.l (.froz r4)) .e) .e) .e) .e) .e) .e) .e) .e) .e) .e) .e) .e)) (.n (.n (.n (.n (.n (.n (.n (.n (.n (.n (.n (.n (.n (.l (.froz r2)) .e) .e) .e) .e) .e) .e) .e) .e) .e) .e) .e) .e) (.n (.n (.n (.n (.n (.n (.n (.n (.n (.n (.n (.n (.l (.froz r6)) .e) .e) .e) .e) .e) .e) .e) .e) .e) .e) .e) .e))))⟩
def ll : List (List AV) := [sls, r0, r1, r2, r3, r4, r5, r6, py]
def en : List En := [(100, .s 92, .s 93, .s 88),
  (101, .s 92, .s 93, .s 89),
  (2, .s 0, .s 0, .s 16),
  (2, .s 0, .s 1, .s 17),
  (2, .s 0, .s 2, .s 18),
  (2, .s 0, .s 3, .s 19),
  (2, .s 0, .s 4, .s 20),
  (2, .s 0, .s 5, .s 21),
  (2, .s 0, .s 6, .s 22),
  (2, .s 0, .s 7, .s 23),
  (2, .s 1, .s 0, .s 17),
  (2, .s 1, .s 1, .s 24),
  (2, .s 1, .s 2, .s 25),
  (2, .s 1, .s 3, .s 26),
  (2, .s 1, .s 4, .s 27),
  (2, .s 1, .s 5, .s 28),
  (2, .s 1, .s 6, .s 29),
  (2, .s 1, .s 7, .s 30),
  (2, .s 2, .s 0, .s 18),
  (2, .s 2, .s 1, .s 25),
  (2, .s 2, .s 2, .s 31),
  (2, .s 2, .s 3, .s 32),
  (2, .s 2, .s 4, .s 33),
  (2, .s 2, .s 5, .s 34),
  (2, .s 2, .s 6, .s 35),
  (2, .s 2, .s 7, .s 36),
  (2, .s 3, .s 0, .s 19),
  (2, .s 3, .s 1, .s 26),
  (2, .s 3, .s 2, .s 32),
  (2, .s 3, .s 3, .s 37),
  (2, .s 3, .s 4, .s 38),
  (2, .s 3, .s 5, .s 39),
  (2, .s 3, .s 6, .s 40),
  (2, .s 3, .s 7, .s 41),
  (2, .s 4, .s 0, .s 20),
  (2, .s 4, .s 1, .s 27),
  (2, .s 4, .s 2, .s 33),
  (2, .s 4, .s 3, .s 38),
  (2, .s 4, .s 4, .s 42),
  (2, .s 4, .s 5, .s 43),
  (2, .s 4, .s 6, .s 44),
  (2, .s 4, .s 7, .s 45),
  (2, .s 5, .s 0, .s 21),
  (2, .s 5, .s 1, .s 28),
  (2, .s 5, .s 2, .s 34),
  (2, .s 5, .s 3, .s 39),
  (2, .s 5, .s 4, .s 43),
  (2, .s 5, .s 5, .s 46),
  (2, .s 5, .s 6, .s 47),
  (2, .s 5, .s 7, .s 48),
  (2, .s 6, .s 0, .s 22),
  (2, .s 6, .s 1, .s 29),
  (2, .s 6, .s 2, .s 35),
  (2, .s 6, .s 3, .s 40),
  (2, .s 6, .s 4, .s 44),
  (2, .s 6, .s 5, .s 47),
  (2, .s 6, .s 6, .s 49),
  (2, .s 6, .s 7, .s 50),
  (2, .s 7, .s 0, .s 23),
  (2, .s 7, .s 1, .s 30),
  (2, .s 7, .s 2, .s 36),
  (2, .s 7, .s 3, .s 41),
  (2, .s 7, .s 4, .s 45),
  (2, .s 7, .s 5, .s 48),
  (2, .s 7, .s 6, .s 50),
  (2, .s 7, .s 7, .s 51),
  (2, .s 8, .s 8, .s 52),
  (2, .s 8, .s 9, .s 53),
  (2, .s 8, .s 10, .s 54),
  (2, .s 8, .s 11, .s 55),
  (2, .s 8, .s 12, .s 56),
  (2, .s 8, .s 13, .s 57),
  (2, .s 8, .s 14, .s 58),
  (2, .s 8, .s 15, .s 59),
  (2, .s 9, .s 8, .s 53),
  (2, .s 9, .s 9, .s 60),
  (2, .s 9, .s 10, .s 61),
  (2, .s 9, .s 11, .s 62),
  (2, .s 9, .s 12, .s 63),
  (2, .s 9, .s 13, .s 64),
  (2, .s 9, .s 14, .s 65),
  (2, .s 9, .s 15, .s 66),
  (2, .s 10, .s 8, .s 54),
  (2, .s 10, .s 9, .s 61),
  (2, .s 10, .s 10, .s 67),
  (2, .s 10, .s 11, .s 68),
  (2, .s 10, .s 12, .s 69),
  (2, .s 10, .s 13, .s 70),
  (2, .s 10, .s 14, .s 71),
  (2, .s 10, .s 15, .s 72),
  (2, .s 11, .s 8, .s 55),
  (2, .s 11, .s 9, .s 62),
  (2, .s 11, .s 10, .s 68),
  (2, .s 11, .s 11, .s 73),
  (2, .s 11, .s 12, .s 74),
  (2, .s 11, .s 13, .s 75),
  (2, .s 11, .s 14, .s 76),
  (2, .s 11, .s 15, .s 77),
  (2, .s 12, .s 8, .s 56),
  (2, .s 12, .s 9, .s 63),
  (2, .s 12, .s 10, .s 69),
  (2, .s 12, .s 11, .s 74),
  (2, .s 12, .s 12, .s 78),
  (2, .s 12, .s 13, .s 79),
  (2, .s 12, .s 14, .s 80),
  (2, .s 12, .s 15, .s 81),
  (2, .s 13, .s 8, .s 57),
  (2, .s 13, .s 9, .s 64),
  (2, .s 13, .s 10, .s 70),
  (2, .s 13, .s 11, .s 75),
  (2, .s 13, .s 12, .s 79),
  (2, .s 13, .s 13, .s 82),
  (2, .s 13, .s 14, .s 83),
  (2, .s 13, .s 15, .s 84),
  (2, .s 14, .s 8, .s 58),
  (2, .s 14, .s 9, .s 65),
  (2, .s 14, .s 10, .s 71),
  (2, .s 14, .s 11, .s 76),
  (2, .s 14, .s 12, .s 80),
  (2, .s 14, .s 13, .s 83),
  (2, .s 14, .s 14, .s 85),
  (2, .s 14, .s 15, .s 86),
  (2, .s 15, .s 8, .s 59),
  (2, .s 15, .s 9, .s 66),
  (2, .s 15, .s 10, .s 72),
  (2, .s 15, .s 11, .s 77),
  (2, .s 15, .s 12, .s 81),
  (2, .s 15, .s 13, .s 84),
  (2, .s 15, .s 14, .s 86),
  (2, .s 15, .s 15, .s 87)]
def ec : List Ec := [(4, .g 0 [(16, 1), (0, 2), (0, 2), (0, 2), (0, 2), (0, 2), (0, 2), (0, 2), (0, 1), (0, 2), (0, 2), (0, 2), (0, 2), (0, 2), (0, 2), (0, 1), (0, 2), (0, 2), (0, 2), (0, 2), (0, 2), (0, 1), (0, 2), (0, 2), (0, 2), (0, 2), (0, 1), (0, 2), (0, 2), (0, 2), (0, 1), (0, 2), (0, 2), (0, 1), (0, 2)], .m 100000000000000 51, false), (4, .g 0 [(52, 1), (0, 2), (0, 2), (0, 2), (0, 2), (0, 2), (0, 2), (0, 2), (0, 1), (0, 2), (0, 2), (0, 2), (0, 2), (0, 2), (0, 2), (0, 1), (0, 2), (0, 2), (0, 2), (0, 2), (0, 2), (0, 1), (0, 2), (0, 2), (0, 2), (0, 2), (0, 1), (0, 2), (0, 2), (0, 2), (0, 1), (0, 2), (0, 2), (0, 1), (0, 2)], .m 100000000000000 87, false), (6, .g 0 [(52, 1), (0, 2), (0, 2), (0, 2), (0, 2), (0, 2), (0, 2), (0, 2), (0, 1), (0, 2), (0, 2), (0, 2), (0, 2), (0, 2), (0, 2), (0, 1), (0, 2), (0, 2), (0, 2), (0, 2), (0, 2), (0, 1), (0, 2), (0, 2), (0, 2), (0, 2), (0, 1), (0, 2), (0, 2), (0, 2), (0, 1), (0, 2), (0, 2), (0, 1), (0, 2)], .g 0 [(16, 1), (0, 2), (0, 2), (0, 2), (0, 2), (0, 2), (0, 2), (0, 2), (0, 1), (0, 2), (0, 2), (0, 2), (0, 2), (0, 2), (0, 2), (0, 1), (0, 2), (0, 2), (0, 2), (0, 2), (0, 2), (0, 1), (0, 2), (0, 2), (0, 2), (0, 2), (0, 1), (0, 2), (0, 2), (0, 2), (0, 1), (0, 2), (0, 2), (0, 1), (0, 2)], true)]
def args : List AV := [.agg [.sl (some (0, 0)) 7 (.u 1), .sl (some (8, 0)) 8 (.u 1)], .lin .u8 0 (dn BB [(90, 11), (1, 1)]), .lin .u8 0 (dn BB [(91, 11), (1, 1)])]
theorem mk : mkH (.froz (slices 7) :: (([r0, r1, r2, r3, r4, r5, r6] : List (List AV)).map AO.froz ++ [.froz py])) noH = some hb := by kernel_rfl
def wlo : WP := ⟨18, [.agg [.sl (some (0, 0)) 7 (.u 1), .sl (some (8, 0)) 8 (.u 1)], fo BB (-5) [(88, 1)]], hb, 8, sy BB [0, 1, 2, 3, 4, 5, 6, 7]⟩
def whi : WP := ⟨18, [.agg [.sl (some (0, 0)) 7 (.u 1), .sl (some (8, 0)) 8 (.u 1)], fo BB (-5) [(89, 1)]], hb, 8, sy BB [8, 9, 10, 11, 12, 13, 14, 15]⟩
theorem rn : isVal (run (exeW (mapE BB en (mapC BB ec)) [21] E8.ms E8.ns [wlo, whi]) 200000 (.call (.func 5) args hb)) isTrue = true := by decide +kernel
end
theorem sq (w0 w1 w2 w3 w4 w5 w6 w7 : Int) (h : w0 + w1 + w2 + w3 + w4 + w5 + w6 + w7 = 10000000) : 0 + (1 * (w0 * w0) + (2 * (w0 * w1) + (2 * (w0 * w2) + (2 * (w0 * w3) + (2 * (w0 * w4) + (2 * (w0 * w5) + (2 * (w0 * w6) + (2 * (w0 * w7) + (1 * (w1 * w1) + (2 * (w1 * w2) + (2 * (w1 * w3) + (2 * (w1 * w4) + (2 * (w1 * w5) + (2 * (w1 * w6) + (2 * (w1 * w7) + (1 * (w2 * w2) + (2 * (w2 * w3) + (2 * (w2 * w4) + (2 * (w2 * w5) + (2 * (w2 * w6) + (2 * (w2 * w7) + (1 * (w3 * w3) + (2 * (w3 * w4) + (2 * (w3 * w5) + (2 * (w3 * w6) + (2 * (w3 * w7) + (1 * (w4 * w4) + (2 * (w4 * w5) + (2 * (w4 * w6) + (2 * (w4 * w7) + (1 * (w5 * w5) + (2 * (w5 * w6) + (2 * (w5 * w7) + (1 * (w6 * w6) + (2 * (w6 * w7) + 0))))))))))))))))))))))))))))))))))) = 100000000000000 - w7 * w7 := by
  have e : (w0 + w1 + w2 + w3 + w4 + w5 + w6 + w7) * (w0 + w1 + w2 + w3 + w4 + w5 + w6 + w7) = 10000000 * 10000000 := by rw [h]
  simp only [Int.add_mul, Int.mul_add] at e
  have c0_1 : w1 * w0 = w0 * w1 := Int.mul_comm _ _
  have c0_2 : w2 * w0 = w0 * w2 := Int.mul_comm _ _
  have c0_3 : w3 * w0 = w0 * w3 := Int.mul_comm _ _
  have c0_4 : w4 * w0 = w0 * w4 := Int.mul_comm _ _
  have c0_5 : w5 * w0 = w0 * w5 := Int.mul_comm _ _
  have c0_6 : w6 * w0 = w0 * w6 := Int.mul_comm _ _
  have c0_7 : w7 * w0 = w0 * w7 := Int.mul_comm _ _
  have c1_2 : w2 * w1 = w1 * w2 := Int.mul_comm _ _
  have c1_3 : w3 * w1 = w1 * w3 := Int.mul_comm _ _
  have c1_4 : w4 * w1 = w1 * w4 := Int.mul_comm _ _
  have c1_5 : w5 * w1 = w1 * w5 := Int.mul_comm _ _
  have c1_6 : w6 * w1 = w1 * w6 := Int.mul_comm _ _
  have c1_7 : w7 * w1 = w1 * w7 := Int.mul_comm _ _
  have c2_3 : w3 * w2 = w2 * w3 := Int.mul_comm _ _
  have c2_4 : w4 * w2 = w2 * w4 := Int.mul_comm _ _
  have c2_5 : w5 * w2 = w2 * w5 := Int.mul_comm _ _
  have c2_6 : w6 * w2 = w2 * w6 := Int.mul_comm _ _
  have c2_7 : w7 * w2 = w2 * w7 := Int.mul_comm _ _
  have c3_4 : w4 * w3 = w3 * w4 := Int.mul_comm _ _
  have c3_5 : w5 * w3 = w3 * w5 := Int.mul_comm _ _
  have c3_6 : w6 * w3 = w3 * w6 := Int.mul_comm _ _
  have c3_7 : w7 * w3 = w3 * w7 := Int.mul_comm _ _
  have c4_5 : w5 * w4 = w4 * w5 := Int.mul_comm _ _
  have c4_6 : w6 * w4 = w4 * w6 := Int.mul_comm _ _
  have c4_7 : w7 * w4 = w4 * w7 := Int.mul_comm _ _
  have c5_6 : w6 * w5 = w5 * w6 := Int.mul_comm _ _
  have c5_7 : w7 * w5 = w5 * w7 := Int.mul_comm _ _
  have c6_7 : w7 * w6 = w6 * w7 := Int.mul_comm _ _
  omega
theorem sm (p : Nat → Nat → Int) (l : Int) : Nf p l 7 0 + Nf p l 7 1 + Nf p l 7 2 + Nf p l 7 3 + Nf p l 7 4 + Nf p l 7 5 + Nf p l 7 6 + Nf p l 7 7 = 10000000 := by
  have := sumN_all p l 7
  have e : (10 : Int) ^ 7 = 10000000 := by decide
  rw [e] at this
  simp only [sumN] at this
  omega
section
variable (p : Nat → Nat → Int) (y : Nat → Int) (x1 x2 : Int)
abbrev a (i : Nat) : Int := Nf p (lvLo x1 x2 - 5) 7 i
abbrev b (i : Nat) : Int := Nf p (lvHi x1 x2 - 5) 7 i
def lst : List Int := [a p x1 x2 0, a p x1 x2 1, a p x1 x2 2, a p x1 x2 3, a p x1 x2 4, a p x1 x2 5, a p x1 x2 6, a p x1 x2 7, b p x1 x2 0, b p x1 x2 1, b p x1 x2 2, b p x1 x2 3, b p x1 x2 4, b p x1 x2 5, b p x1 x2 6, b p x1 x2 7, a p x1 x2 0 * a p x1 x2 0, a p x1 x2 0 * a p x1 x2 1, a p x1 x2 0 * a p x1 x2 2, a p x1 x2 0 * a p x1 x2 3, a p x1 x2 0 * a p x1 x2 4, a p x1 x2 0 * a p x1 x2 5, a p x1 x2 0 * a p x1 x2 6, a p x1 x2 0 * a p x1 x2 7, a p x1 x2 1 * a p x1 x2 1, a p x1 x2 1 * a p x1 x2 2, a p x1 x2 1 * a p x1 x2 3, a p x1 x2 1 * a p x1 x2 4, a p x1 x2 1 * a p x1 x2 5, a p x1 x2 1 * a p x1 x2 6, a p x1 x2 1 * a p x1 x2 7, a p x1 x2 2 * a p x1 x2 2, a p x1 x2 2 * a p x1 x2 3, a p x1 x2 2 * a p x1 x2 4, a p x1 x2 2 * a p x1 x2 5, a p x1 x2 2 * a p x1 x2 6, a p x1 x2 2 * a p x1 x2 7, a p x1 x2 3 * a p x1 x2 3, a p x1 x2 3 * a p x1 x2 4, a p x1 x2 3 * a p x1 x2 5, a p x1 x2 3 * a p x1 x2 6, a p x1 x2 3 * a p x1 x2 7, a p x1 x2 4 * a p x1 x2 4, a p x1 x2 4 * a p x1 x2 5, a p x1 x2 4 * a p x1 x2 6, a p x1 x2 4 * a p x1 x2 7, a p x1 x2 5 * a p x1 x2 5, a p x1 x2 5 * a p x1 x2 6, a p x1 x2 5 * a p x1 x2 7, a p x1 x2 6 * a p x1 x2 6, a p x1 x2 6 * a p x1 x2 7, a p x1 x2 7 * a p x1 x2 7, b p x1 x2 0 * b p x1 x2 0, b p x1 x2 0 * b p x1 x2 1, b p x1 x2 0 * b p x1 x2 2, b p x1 x2 0 * b p x1 x2 3, b p x1 x2 0 * b p x1 x2 4, b p x1 x2 0 * b p x1 x2 5, b p x1 x2 0 * b p x1 x2 6, b p x1 x2 0 * b p x1 x2 7, b p x1 x2 1 * b p x1 x2 1, b p x1 x2 1 * b p x1 x2 2, b p x1 x2 1 * b p x1 x2 3, b p x1 x2 1 * b p x1 x2 4, b p x1 x2 1 * b p x1 x2 5, b p x1 x2 1 * b p x1 x2 6, b p x1 x2 1 * b p x1 x2 7, b p x1 x2 2 * b p x1 x2 2, b p x1 x2 2 * b p x1 x2 3, b p x1 x2 2 * b p x1 x2 4, b p x1 x2 2 * b p x1 x2 5, b p x1 x2 2 * b p x1 x2 6, b p x1 x2 2 * b p x1 x2 7, b p x1 x2 3 * b p x1 x2 3, b p x1 x2 3 * b p x1 x2 4, b p x1 x2 3 * b p x1 x2 5, b p x1 x2 3 * b p x1 x2 6, b p x1 x2 3 * b p x1 x2 7, b p x1 x2 4 * b p x1 x2 4, b p x1 x2 4 * b p x1 x2 5, b p x1 x2 4 * b p x1 x2 6, b p x1 x2 4 * b p x1 x2 7, b p x1 x2 5 * b p x1 x2 5, b p x1 x2 5 * b p x1 x2 6, b p x1 x2 5 * b p x1 x2 7, b p x1 x2 6 * b p x1 x2 6, b p x1 x2 6 * b p x1 x2 7, b p x1 x2 7 * b p x1 x2 7, lvLo x1 x2, lvHi x1 x2, x1 / 11, x2 / 11, x1 % 11, x2 % 11, p 0 0, p 1 0, p 1 1, p 2 0, p 2 1, p 2 2, p 3 0, p 3 1, p 3 2, p 3 3, p 4 0, p 4 1, p 4 2, p 4 3, p 4 4, p 5 0, p 5 1, p 5 2, p 5 3, p 5 4, p 5 5, p 6 0, p 6 1, p 6 2, p 6 3, p 6 4, p 6 5, p 6 6, y 0, y 1, y 2, y 3, y 4, y 5, y 6, y 7]
abbrev val : Val := ⟨nth (lst p y x1 x2), fun _ => .nilFunc⟩
theorem ha (i : Nat) : 0 ≤ a p x1 x2 i ∧ a p x1 x2 i ≤ 10000000 := Nf_b p (lvLo x1 x2 - 5) 7 i
theorem hb' (i : Nat) : 0 ≤ b p x1 x2 i ∧ b p x1 x2 i ≤ 10000000 := Nf_b p (lvHi x1 x2 - 5) 7 i
variable {p y x1 x2} (hp : ∀ r k, r < 7 → k ≤ r → 0 ≤ p r k ∧ p r k ≤ 10) (hy : ∀ i, i < 8 → 0 ≤ y i ∧ y i ≤ 500) (h1 : 0 ≤ x1 ∧ x1 ≤ 255) (h2 : 0 ≤ x2 ∧ x2 ≤ 255)
theorem gp (i j : Nat) : In64 (a p x1 x2 i * a p x1 x2 j) := in64 (PB (ha p x1 x2 i) (ha p x1 x2 j)) (by decide)
theorem gq (i j : Nat) : In64 (b p x1 x2 i * b p x1 x2 j) := in64 (PB (hb' p x1 x2 i) (hb' p x1 x2 j)) (by decide)
include hp hy h1 h2
theorem all : AllB BB (lst p y x1 x2) := ⟨ha p x1 x2 0, ha p x1 x2 1, ha p x1 x2 2, ha p x1 x2 3, ha p x1 x2 4, ha p x1 x2 5, ha p x1 x2 6, ha p x1 x2 7, hb' p x1 x2 0, hb' p x1 x2 1, hb' p x1 x2 2, hb' p x1 x2 3, hb' p x1 x2 4, hb' p x1 x2 5, hb' p x1 x2 6, hb' p x1 x2 7, PB (ha p x1 x2 0) (ha p x1 x2 0), PB (ha p x1 x2 0) (ha p x1 x2 1), PB (ha p x1 x2 0) (ha p x1 x2 2), PB (ha p x1 x2 0) (ha p x1 x2 3), PB (ha p x1 x2 0) (ha p x1 x2 4), PB (ha p x1 x2 0) (ha p x1 x2 5), PB (ha p x1 x2 0) (ha p x1 x2 6), PB (ha p x1 x2 0) (ha p x1 x2 7), PB (ha p x1 x2 1) (ha p x1 x2 1), PB (ha p x1 x2 1) (ha p x1 x2 2), PB (ha p x1 x2 1) (ha p x1 x2 3), PB (ha p x1 x2 1) (ha p x1 x2 4), PB (ha p x1 x2 1) (ha p x1 x2 5), PB (ha p x1 x2 1) (ha p x1 x2 6), PB (ha p x1 x2 1) (ha p x1 x2 7), PB (ha p x1 x2 2) (ha p x1 x2 2), PB (ha p x1 x2 2) (ha p x1 x2 3), PB (ha p x1 x2 2) (ha p x1 x2 4), PB (ha p x1 x2 2) (ha p x1 x2 5), PB (ha p x1 x2 2) (ha p x1 x2 6), PB (ha p x1 x2 2) (ha p x1 x2 7), PB (ha p x1 x2 3) (ha p x1 x2 3), PB (ha p x1 x2 3) (ha p x1 x2 4), PB (ha p x1 x2 3) (ha p x1 x2 5), PB (ha p x1 x2 3) (ha p x1 x2 6), PB (ha p x1 x2 3) (ha p x1 x2 7), PB (ha p x1 x2 4) (ha p x1 x2 4), PB (ha p x1 x2 4) (ha p x1 x2 5), PB (ha p x1 x2 4) (ha p x1 x2 6), PB (ha p x1 x2 4) (ha p x1 x2 7), PB (ha p x1 x2 5) (ha p x1 x2 5), PB (ha p x1 x2 5) (ha p x1 x2 6), PB (ha p x1 x2 5) (ha p x1 x2 7), PB (ha p x1 x2 6) (ha p x1 x2 6), PB (ha p x1 x2 6) (ha p x1 x2 7), PB (ha p x1 x2 7) (ha p x1 x2 7), PB (hb' p x1 x2 0) (hb' p x1 x2 0), PB (hb' p x1 x2 0) (hb' p x1 x2 1), PB (hb' p x1 x2 0) (hb' p x1 x2 2), PB (hb' p x1 x2 0) (hb' p x1 x2 3), PB (hb' p x1 x2 0) (hb' p x1 x2 4), PB (hb' p x1 x2 0) (hb' p x1 x2 5), PB (hb' p x1 x2 0) (hb' p x1 x2 6), PB (hb' p x1 x2 0) (hb' p x1 x2 7), PB (hb' p x1 x2 1) (hb' p x1 x2 1), PB (hb' p x1 x2 1) (hb' p x1 x2 2), PB (hb' p x1 x2 1) (hb' p x1 x2 3), PB (hb' p x1 x2 1) (hb' p x1 x2 4), PB (hb' p x1 x2 1) (hb' p x1 x2 5), PB (hb' p x1 x2 1) (hb' p x1 x2 6), PB (hb' p x1 x2 1) (hb' p x1 x2 7), PB (hb' p x1 x2 2) (hb' p x1 x2 2), PB (hb' p x1 x2 2) (hb' p x1 x2 3), PB (hb' p x1 x2 2) (hb' p x1 x2 4), PB (hb' p x1 x2 2) (hb' p x1 x2 5), PB (hb' p x1 x2 2) (hb' p x1 x2 6), PB (hb' p x1 x2 2) (hb' p x1 x2 7), PB (hb' p x1 x2 3) (hb' p x1 x2 3), PB (hb' p x1 x2 3) (hb' p x1 x2 4), PB (hb' p x1 x2 3) (hb' p x1 x2 5), PB (hb' p x1 x2 3) (hb' p x1 x2 6), PB (hb' p x1 x2 3) (hb' p x1 x2 7), PB (hb' p x1 x2 4) (hb' p x1 x2 4), PB (hb' p x1 x2 4) (hb' p x1 x2 5), PB (hb' p x1 x2 4) (hb' p x1 x2 6), PB (hb' p x1 x2 4) (hb' p x1 x2 7), PB (hb' p x1 x2 5) (hb' p x1 x2 5), PB (hb' p x1 x2 5) (hb' p x1 x2 6), PB (hb' p x1 x2 5) (hb' p x1 x2 7), PB (hb' p x1 x2 6) (hb' p x1 x2 6), PB (hb' p x1 x2 6) (hb' p x1 x2 7), PB (hb' p x1 x2 7) (hb' p x1 x2 7), lvLo_b x1 x2, lvHi_b x1 x2, ⟨by show _ ≤ _; omega, by show _ ≤ _; omega⟩, ⟨by show _ ≤ _; omega, by show _ ≤ _; omega⟩, ⟨by show _ ≤ _; omega, by show _ ≤ _; omega⟩, ⟨by show _ ≤ _; omega, by show _ ≤ _; omega⟩, hp 0 0 (by decide) (by decide), hp 1 0 (by decide) (by decide), hp 1 1 (by decide) (by decide), hp 2 0 (by decide) (by decide), hp 2 1 (by decide) (by decide), hp 2 2 (by decide) (by decide), hp 3 0 (by decide) (by decide), hp 3 1 (by decide) (by decide), hp 3 2 (by decide) (by decide), hp 3 3 (by decide) (by decide), hp 4 0 (by decide) (by decide), hp 4 1 (by decide) (by decide), hp 4 2 (by decide) (by decide), hp 4 3 (by decide) (by decide), hp 4 4 (by decide) (by decide), hp 5 0 (by decide) (by decide), hp 5 1 (by decide) (by decide), hp 5 2 (by decide) (by decide), hp 5 3 (by decide) (by decide), hp 5 4 (by decide) (by decide), hp 5 5 (by decide) (by decide), hp 6 0 (by decide) (by decide), hp 6 1 (by decide) (by decide), hp 6 2 (by decide) (by decide), hp 6 3 (by decide) (by decide), hp 6 4 (by decide) (by decide), hp 6 5 (by decide) (by decide), hp 6 6 (by decide) (by decide), hy 0 (by decide), hy 1 (by decide), hy 2 (by decide), hy 3 (by decide), hy 4 (by decide), hy 5 (by decide), hy 6 (by decide), hy 7 (by decide), trivial⟩
set_option maxHeartbeats 4000000 in
set_option maxRecDepth 100000 in
theorem orcOK : @OrcOK (val p y x1 x2) (mapE BB en (mapC BB ec)) := by
  letI := val p y x1 x2
  exact orc_of (all hp hy h1 h2) (fun _ _ => rfl) (by kernel_rfl) (by kernel_rfl) ⟨rfl, rfl, ⟨rfl, gp 0 0⟩, ⟨rfl, gp 0 1⟩, ⟨rfl, gp 0 2⟩, ⟨rfl, gp 0 3⟩, ⟨rfl, gp 0 4⟩, ⟨rfl, gp 0 5⟩, ⟨rfl, gp 0 6⟩, ⟨rfl, gp 0 7⟩, ⟨Int.mul_comm _ _, gp 0 1⟩, ⟨rfl, gp 1 1⟩, ⟨rfl, gp 1 2⟩, ⟨rfl, gp 1 3⟩, ⟨rfl, gp 1 4⟩, ⟨rfl, gp 1 5⟩, ⟨rfl, gp 1 6⟩, ⟨rfl, gp 1 7⟩, ⟨Int.mul_comm _ _, gp 0 2⟩, ⟨Int.mul_comm _ _, gp 1 2⟩, ⟨rfl, gp 2 2⟩, ⟨rfl, gp 2 3⟩, ⟨rfl, gp 2 4⟩, ⟨rfl, gp 2 5⟩, ⟨rfl, gp 2 6⟩, ⟨rfl, gp 2 7⟩, ⟨Int.mul_comm _ _, gp 0 3⟩, ⟨Int.mul_comm _ _, gp 1 3⟩, ⟨Int.mul_comm _ _, gp 2 3⟩, ⟨rfl, gp 3 3⟩, ⟨rfl, gp 3 4⟩, ⟨rfl, gp 3 5⟩, ⟨rfl, gp 3 6⟩, ⟨rfl, gp 3 7⟩, ⟨Int.mul_comm _ _, gp 0 4⟩, ⟨Int.mul_comm _ _, gp 1 4⟩, ⟨Int.mul_comm _ _, gp 2 4⟩, ⟨Int.mul_comm _ _, gp 3 4⟩, ⟨rfl, gp 4 4⟩, ⟨rfl, gp 4 5⟩, ⟨rfl, gp 4 6⟩, ⟨rfl, gp 4 7⟩, ⟨Int.mul_comm _ _, gp 0 5⟩, ⟨Int.mul_comm _ _, gp 1 5⟩, ⟨Int.mul_comm _ _, gp 2 5⟩, ⟨Int.mul_comm _ _, gp 3 5⟩, ⟨Int.mul_comm _ _, gp 4 5⟩, ⟨rfl, gp 5 5⟩, ⟨rfl, gp 5 6⟩, ⟨rfl, gp 5 7⟩, ⟨Int.mul_comm _ _, gp 0 6⟩, ⟨Int.mul_comm _ _, gp 1 6⟩, ⟨Int.mul_comm _ _, gp 2 6⟩, ⟨Int.mul_comm _ _, gp 3 6⟩, ⟨Int.mul_comm _ _, gp 4 6⟩, ⟨Int.mul_comm _ _, gp 5 6⟩, ⟨rfl, gp 6 6⟩, ⟨rfl, gp 6 7⟩, ⟨Int.mul_comm _ _, gp 0 7⟩, ⟨Int.mul_comm _ _, gp 1 7⟩, ⟨Int.mul_comm _ _, gp 2 7⟩, ⟨Int.mul_comm _ _, gp 3 7⟩, ⟨Int.mul_comm _ _, gp 4 7⟩, ⟨Int.mul_comm _ _, gp 5 7⟩, ⟨Int.mul_comm _ _, gp 6 7⟩, ⟨rfl, gp 7 7⟩, ⟨rfl, gq 0 0⟩, ⟨rfl, gq 0 1⟩, ⟨rfl, gq 0 2⟩, ⟨rfl, gq 0 3⟩, ⟨rfl, gq 0 4⟩, ⟨rfl, gq 0 5⟩, ⟨rfl, gq 0 6⟩, ⟨rfl, gq 0 7⟩, ⟨Int.mul_comm _ _, gq 0 1⟩, ⟨rfl, gq 1 1⟩, ⟨rfl, gq 1 2⟩, ⟨rfl, gq 1 3⟩, ⟨rfl, gq 1 4⟩, ⟨rfl, gq 1 5⟩, ⟨rfl, gq 1 6⟩, ⟨rfl, gq 1 7⟩, ⟨Int.mul_comm _ _, gq 0 2⟩, ⟨Int.mul_comm _ _, gq 1 2⟩, ⟨rfl, gq 2 2⟩, ⟨rfl, gq 2 3⟩, ⟨rfl, gq 2 4⟩, ⟨rfl, gq 2 5⟩, ⟨rfl, gq 2 6⟩, ⟨rfl, gq 2 7⟩, ⟨Int.mul_comm _ _, gq 0 3⟩, ⟨Int.mul_comm _ _, gq 1 3⟩, ⟨Int.mul_comm _ _, gq 2 3⟩, ⟨rfl, gq 3 3⟩, ⟨rfl, gq 3 4⟩, ⟨rfl, gq 3 5⟩, ⟨rfl, gq 3 6⟩, ⟨rfl, gq 3 7⟩, ⟨Int.mul_comm _ _, gq 0 4⟩, ⟨Int.mul_comm _ _, gq 1 4⟩, ⟨Int.mul_comm _ _, gq 2 4⟩, ⟨Int.mul_comm _ _, gq 3 4⟩, ⟨rfl, gq 4 4⟩, ⟨rfl, gq 4 5⟩, ⟨rfl, gq 4 6⟩, ⟨rfl, gq 4 7⟩, ⟨Int.mul_comm _ _, gq 0 5⟩, ⟨Int.mul_comm _ _, gq 1 5⟩, ⟨Int.mul_comm _ _, gq 2 5⟩, ⟨Int.mul_comm _ _, gq 3 5⟩, ⟨Int.mul_comm _ _, gq 4 5⟩, ⟨rfl, gq 5 5⟩, ⟨rfl, gq 5 6⟩, ⟨rfl, gq 5 7⟩, ⟨Int.mul_comm _ _, gq 0 6⟩, ⟨Int.mul_comm _ _, gq 1 6⟩, ⟨Int.mul_comm _ _, gq 2 6⟩, ⟨Int.mul_comm _ _, gq 3 6⟩, ⟨Int.mul_comm _ _, gq 4 6⟩, ⟨Int.mul_comm _ _, gq 5 6⟩, ⟨rfl, gq 6 6⟩, ⟨rfl, gq 6 7⟩, ⟨Int.mul_comm _ _, gq 0 7⟩, ⟨Int.mul_comm _ _, gq 1 7⟩, ⟨Int.mul_comm _ _, gq 2 7⟩, ⟨Int.mul_comm _ _, gq 3 7⟩, ⟨Int.mul_comm _ _, gq 4 7⟩, ⟨Int.mul_comm _ _, gq 5 7⟩, ⟨Int.mul_comm _ _, gq 6 7⟩, ⟨rfl, gq 7 7⟩, trivial⟩ ⟨(sq _ _ _ _ _ _ _ _ (sm p (lvLo x1 x2 - 5))), (sq _ _ _ _ _ _ _ _ (sm p (lvHi x1 x2 - 5))), sqle2 (sq _ _ _ _ _ _ _ _ (sm p (lvHi x1 x2 - 5))) (sq _ _ _ _ _ _ _ _ (sm p (lvLo x1 x2 - 5))) (ha p x1 x2 7).1 (Nf_mono p (lohi x1 x2) 7), trivial⟩
set_option maxHeartbeats 2000000 in
theorem ok_wlo [Bet] : @WOK (val p y x1 x2) _ Tryz.prog wlo :=
  wok_of (e := wlo) (V1 := val p y x1 x2) (V2 := S7.val p y (lvLo x1 x2 - 5)) (l1 := ll) (l2 := S7.ll) (args2 := S7.args) (cs2 := S7.cs) (S7.orcOK hp (lo5 x1 x2) hy) S7.wr rfl (by kernel_rfl) S7.mk
    ⟨⟨Imp.sl _ _ _, Imp.sl _ _ _, Imp.sl _ _ _, Imp.sl _ _ _, Imp.sl _ _ _, Imp.sl _ _ _, Imp.sl _ _ _, trivial⟩,
    imps_sy (S7.all hp (lo5 x1 x2) hy) (fun _ _ => rfl) (by kernel_rfl) (by kernel_rfl) ⟨rfl, trivial⟩,
    imps_sy (S7.all hp (lo5 x1 x2) hy) (fun _ _ => rfl) (by kernel_rfl) (by kernel_rfl) ⟨rfl, rfl, trivial⟩,
    imps_sy (S7.all hp (lo5 x1 x2) hy) (fun _ _ => rfl) (by kernel_rfl) (by kernel_rfl) ⟨rfl, rfl, rfl, trivial⟩,
    imps_sy (S7.all hp (lo5 x1 x2) hy) (fun _ _ => rfl) (by kernel_rfl) (by kernel_rfl) ⟨rfl, rfl, rfl, rfl, trivial⟩,
    imps_sy (S7.all hp (lo5 x1 x2) hy) (fun _ _ => rfl) (by kernel_rfl) (by kernel_rfl) ⟨rfl, rfl, rfl, rfl, rfl, trivial⟩,
    imps_sy (S7.all hp (lo5 x1 x2) hy) (fun _ _ => rfl) (by kernel_rfl) (by kernel_rfl) ⟨rfl, rfl, rfl, rfl, rfl, rfl, trivial⟩,
    imps_sy (S7.all hp (lo5 x1 x2) hy) (fun _ _ => rfl) (by kernel_rfl) (by kernel_rfl) ⟨rfl, rfl, rfl, rfl, rfl, rfl, rfl, trivial⟩,
    imps_sy (S7.all hp (lo5 x1 x2) hy) (fun _ _ => rfl) (by kernel_rfl) (by kernel_rfl) ⟨rfl, rfl, rfl, rfl, rfl, rfl, rfl, rfl, trivial⟩,
    trivial⟩
    ⟨Imp.agg ⟨Imp.sl _ _ _, Imp.sl _ _ _, trivial⟩, Imp.num rfl rfl (@Fo.bnd (S7.val p y (lvLo x1 x2 - 5)) _ _ (S7.all hp (lo5 x1 x2) hy) (fun _ _ => rfl) (.s 0)) (by
      rw [@fo_num (val p y x1 x2) _ _ _ (by kernel_rfl), @fo_num (S7.val p y (lvLo x1 x2 - 5)) _ _ _ (by kernel_rfl)]
      show -5 + (1 * lvLo x1 x2 + 0) = 0 + (1 * (lvLo x1 x2 - 5) + 0)
      omega), trivial⟩
    (imps_sy (B1 := S7.BB) (B2 := BB) (is := [133, 134, 135, 136, 137, 138, 139, 140]) (js := [0, 1, 2, 3, 4, 5, 6, 7]) (all hp hy h1 h2) (fun _ _ => rfl) (by kernel_rfl) (by kernel_rfl) ⟨rfl, rfl, rfl, rfl, rfl, rfl, rfl, rfl, trivial⟩) rfl (by kernel_rfl) (by kernel_rfl) (by kernel_rfl)
set_option maxHeartbeats 2000000 in
theorem ok_whi [Bet] : @WOK (val p y x1 x2) _ Tryz.prog whi :=
  wok_of (e := whi) (V1 := val p y x1 x2) (V2 := S7.val p y (lvHi x1 x2 - 5)) (l1 := ll) (l2 := S7.ll) (args2 := S7.args) (cs2 := S7.cs) (S7.orcOK hp (hi5 x1 x2) hy) S7.wr rfl (by kernel_rfl) S7.mk
    ⟨⟨Imp.sl _ _ _, Imp.sl _ _ _, Imp.sl _ _ _, Imp.sl _ _ _, Imp.sl _ _ _, Imp.sl _ _ _, Imp.sl _ _ _, trivial⟩,
    imps_sy (S7.all hp (hi5 x1 x2) hy) (fun _ _ => rfl) (by kernel_rfl) (by kernel_rfl) ⟨rfl, trivial⟩,
    imps_sy (S7.all hp (hi5 x1 x2) hy) (fun _ _ => rfl) (by kernel_rfl) (by kernel_rfl) ⟨rfl, rfl, trivial⟩,
    imps_sy (S7.all hp (hi5 x1 x2) hy) (fun _ _ => rfl) (by kernel_rfl) (by kernel_rfl) ⟨rfl, rfl, rfl, trivial⟩,
    imps_sy (S7.all hp (hi5 x1 x2) hy) (fun _ _ => rfl) (by kernel_rfl) (by kernel_rfl) ⟨rfl, rfl, rfl, rfl, trivial⟩,
    imps_sy (S7.all hp (hi5 x1 x2) hy) (fun _ _ => rfl) (by kernel_rfl) (by kernel_rfl) ⟨rfl, rfl, rfl, rfl, rfl, trivial⟩,
    imps_sy (S7.all hp (hi5 x1 x2) hy) (fun _ _ => rfl) (by kernel_rfl) (by kernel_rfl) ⟨rfl, rfl, rfl, rfl, rfl, rfl, trivial⟩,
    imps_sy (S7.all hp (hi5 x1 x2) hy) (fun _ _ => rfl) (by kernel_rfl) (by kernel_rfl) ⟨rfl, rfl, rfl, rfl, rfl, rfl, rfl, trivial⟩,
    imps_sy (S7.all hp (hi5 x1 x2) hy) (fun _ _ => rfl) (by kernel_rfl) (by kernel_rfl) ⟨rfl, rfl, rfl, rfl, rfl, rfl, rfl, rfl, trivial⟩,
    trivial⟩
    ⟨Imp.agg ⟨Imp.sl _ _ _, Imp.sl _ _ _, trivial⟩, Imp.num rfl rfl (@Fo.bnd (S7.val p y (lvHi x1 x2 - 5)) _ _ (S7.all hp (hi5 x1 x2) hy) (fun _ _ => rfl) (.s 0)) (by
      rw [@fo_num (val p y x1 x2) _ _ _ (by kernel_rfl), @fo_num (S7.val p y (lvHi x1 x2 - 5)) _ _ _ (by kernel_rfl)]
      show -5 + (1 * lvHi x1 x2 + 0) = 0 + (1 * (lvHi x1 x2 - 5) + 0)
      omega), trivial⟩
    (imps_sy (B1 := S7.BB) (B2 := BB) (is := [133, 134, 135, 136, 137, 138, 139, 140]) (js := [8, 9, 10, 11, 12, 13, 14, 15]) (all hp hy h1 h2) (fun _ _ => rfl) (by kernel_rfl) (by kernel_rfl) ⟨rfl, rfl, rfl, rfl, rfl, rfl, rfl, rfl, trivial⟩) rfl (by kernel_rfl) (by kernel_rfl) (by kernel_rfl)
theorem fin (hl : ∀ f ∈ [21], YesFn Tryz.prog f) {W : World} {A A' : Addr} {As : Nat → Addr} {c c' : Nat} {cs : Nat → Nat} (hb : BrdN W 7 A A' As c c' cs p y) :
    CallsIn (Fro none) 0 Tryz.prog 5 #[.agg #[.slice (some A) 7 c, .slice (some A') 8 c'], .int .u8 x1, .int .u8 x2] W (Yes W) := by
  letI : Val := val p y x1 x2
  letI : Bet := bet0
  have hA := all hp hy h1 h2
  have g0 : VRs phi0 r0 ((List.range 1).map fun k => Value.int .i64 (p 0 k)) := vrs_sy (ns := [p 0 0]) hA (fun _ _ => rfl) (by kernel_rfl) ⟨rfl, trivial⟩
  have g1 : VRs phi0 r1 ((List.range 2).map fun k => Value.int .i64 (p 1 k)) := vrs_sy (ns := [p 1 0, p 1 1]) hA (fun _ _ => rfl) (by kernel_rfl) ⟨rfl, rfl, trivial⟩
  have g2 : VRs phi0 r2 ((List.range 3).map fun k => Value.int .i64 (p 2 k)) := vrs_sy (ns := [p 2 0, p 2 1, p 2 2]) hA (fun _ _ => rfl) (by kernel_rfl) ⟨rfl, rfl, rfl, trivial⟩
  have g3 : VRs phi0 r3 ((List.range 4).map fun k => Value.int .i64 (p 3 k)) := vrs_sy (ns := [p 3 0, p 3 1, p 3 2, p 3 3]) hA (fun _ _ => rfl) (by kernel_rfl) ⟨rfl, rfl, rfl, rfl, trivial⟩
  have g4 : VRs phi0 r4 ((List.range 5).map fun k => Value.int .i64 (p 4 k)) := vrs_sy (ns := [p 4 0, p 4 1, p 4 2, p 4 3, p 4 4]) hA (fun _ _ => rfl) (by kernel_rfl) ⟨rfl, rfl, rfl, rfl, rfl, trivial⟩
  have g5 : VRs phi0 r5 ((List.range 6).map fun k => Value.int .i64 (p 5 k)) := vrs_sy (ns := [p 5 0, p 5 1, p 5 2, p 5 3, p 5 4, p 5 5]) hA (fun _ _ => rfl) (by kernel_rfl) ⟨rfl, rfl, rfl, rfl, rfl, rfl, trivial⟩
  have g6 : VRs phi0 r6 ((List.range 7).map fun k => Value.int .i64 (p 6 k)) := vrs_sy (ns := [p 6 0, p 6 1, p 6 2, p 6 3, p 6 4, p 6 5, p 6 6]) hA (fun _ _ => rfl) (by kernel_rfl) ⟨rfl, rfl, rfl, rfl, rfl, rfl, rfl, trivial⟩
  have gy : VRs phi0 py ((List.range 8).map fun i => Value.int .i64 (y i)) := vrs_sy (ns := [y 0, y 1, y 2, y 3, y 4, y 5, y 6, y 7]) hA (fun _ _ => rfl) (by kernel_rfl) ⟨rfl, rfl, rfl, rfl, rfl, rfl, rfl, rfl, trivial⟩
  obtain ⟨hR, hz, hg⟩ := hb.r (rs := [r0, r1, r2, r3, r4, r5, r6]) (py := py) mk rfl (fun r xs h => by
    match r, h with
    | 0, h => cases h; exact g0
    | 1, h => cases h; exact g1
    | 2, h => cases h; exact g2
    | 3, h => cases h; exact g3
    | 4, h => cases h; exact g4
    | 5, h => cases h; exact g5
    | 6, h => cases h; exact g6
    | r + 7, h => simp at h) gy
  exact callsIn_frzW (orcOK hp hy h1 h2) hl E8.hms E8.hns (fun e he => by
    simp only [List.mem_cons, List.not_mem_nil, or_false] at he
    rcases he with rfl | rfl
    · exact ok_wlo hp hy h1 h2
    · exact ok_whi hp hy h1 h2) hR hz rn (.cons _ _ _ _ hg (.cons _ _ _ _ (.lin _ _ _ _ (by
      rw [dn_S BB _ 0 (by kernel_rfl)]
      show x1 = 0 + (11 * (x1 / 11) + (1 * (x1 % 11) + 0))
      omega) (dn_B BB _ _ 0 hA fun j _ => by rw [Nat.zero_add]; rfl)) (.cons _ _ _ _ (.lin _ _ _ _ (by
      rw [dn_S BB _ 0 (by kernel_rfl)]
      show x2 = 0 + (11 * (x2 / 11) + (1 * (x2 % 11) + 0))
      omega) (dn_B BB _ _ 0 hA fun j _ => by rw [Nat.zero_add]; rfl)) .nil))) 0
end
end M7
end Go.Proofs.YtibmpjhffeinoaaGreat.Kx
