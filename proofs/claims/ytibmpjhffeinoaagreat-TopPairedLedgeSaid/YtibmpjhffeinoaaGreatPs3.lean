/-
  pins.Ways of a board of so many rows: the runs.
-/
import Derived.Test.YtibmpjhffeinoaaGreatR
namespace Go.Proofs.YtibmpjhffeinoaaGreat.Kx
open Go Go.RowKit

namespace S7
noncomputable section
def BB : List (Int × Int) := [(-5, 5), (0, 10), (0, 10), (0, 10), (0, 10), (0, 10), (0, 10), (0, 10), (0, 10), (0, 10), (0, 10), (0, 10), (0, 10), (0, 10), (0, 10), (0, 10), (0, 10), (0, 10), (0, 10), (0, 10), (0, 10), (0, 10), (0, 10), (0, 10), (0, 10), (0, 10), (0, 10), (0, 10), (0, 10), (0, 15), (0, 15), (0, 15), (0, 15), (0, 15), (0, 15), (0, 15), (0, 15), (0, 15), (0, 15), (0, 15), (0, 15), (0, 15), (0, 15), (0, 15), (0, 15), (0, 15), (0, 15), (0, 15), (0, 15), (0, 15), (0, 15), (0, 15), (0, 15), (0, 15), (0, 15), (0, 15), (0, 15), (0, 10), (0, 10), (0, 10), (0, 10), (0, 10), (0, 10), (0, 10), (0, 10), (0, 10), (0, 10), (0, 10), (0, 10), (0, 10), (0, 10), (0, 10), (0, 10), (0, 10), (0, 10), (0, 10), (0, 10), (0, 10), (0, 10), (0, 10), (0, 10), (0, 10), (0, 10), (0, 10), (0, 10), (0, 10), (0, 10), (0, 100), (0, 100), (0, 100), (0, 100), (0, 1000), (0, 1000), (0, 1000), (0, 1000), (0, 1000), (0, 1000), (0, 10000), (0, 10000), (0, 10000), (0, 10000), (0, 10000), (0, 10000), (0, 10000), (0, 10000), (0, 100000), (0, 100000), (0, 100000), (0, 100000), (0, 100000), (0, 100000), (0, 100000), (0, 100000), (0, 100000), (0, 100000), (0, 1000000), (0, 1000000), (0, 1000000), (0, 1000000), (0, 1000000), (0, 1000000), (0, 1000000), (0, 1000000), (0, 1000000), (0, 1000000), (0, 1000000), (0, 1000000), (0, 10000000), (0, 10000000), (0, 10000000), (0, 10000000), (0, 10000000), (0, 10000000), (0, 10000000), (0, 10000000), (0, 10000000), (0, 10000000), (0, 10000000), (0, 10000000), (0, 10000000), (0, 10000000), (0, 500), (0, 500), (0, 500), (0, 500), (0, 500), (0, 500), (0, 500), (0, 500)]
def sls : List AV := [.sl (some (1, 0)) 1 (.u 1), .sl (some (2, 0)) 2 (.u 1), .sl (some (3, 0)) 3 (.u 1), .sl (some (4, 0)) 4 (.u 1), .sl (some (5, 0)) 5 (.u 1), .sl (some (6, 0)) 6 (.u 1), .sl (some (7, 0)) 7 (.u 1)]
def r0 : List AV := sy BB [1]
def r1 : List AV := sy BB [2, 3]
def r2 : List AV := sy BB [4, 5, 6]
def r3 : List AV := sy BB [7, 8, 9, 10]
def r4 : List AV := sy BB [11, 12, 13, 14, 15]
def r5 : List AV := sy BB [16, 17, 18, 19, 20, 21]
def r6 : List AV := sy BB [22, 23, 24, 25, 26, 27, 28]
def py : List AV := sy BB [141, 142, 143, 144, 145, 146, 147, 148]
def hb : AH := ⟨9, (.n (.n (.n (.n (.n (.n (.n (.n (.n (.n (.n (.n (.n (.n (.n (.l (.froz sls)) .e) .e) .e) .e) .e) .e) .e) .e) .e) .e) .e) (.n (.n (.n (.n (.n (.n (.n (.n (.n (.n (.n (.l (.froz py)) .e) .e) .e) .e) .e) .e) .e) .e) .e) .e) .e)) (.n (.n (.n (.n (.n (.n (.n (.n (.n (.n (.n (.n (.l (.froz r3)) .e) .e) .e) .e) .e) .e) .e) .e) .e) .e) .e) .e)) (.n (.n (.n (.n (.n (.n (.n (.n (.n (.n (.n (.n (.n (.l (.froz r1)) .e) .e) .e) .e) .e) .e) .e) .e) .e) .e) .e) .e) (.n (.n (.n (.n (.n (.n (.n (.n (.n (.n (.n (.n (.l (.froz r5)) .e) .e) .e) .e) .e) .e) .e) .e) .e) .e) .e) .e))) (.n (.n (.n (.n (.n (.n (.n (.n (.n (.n (.n (.n (.n (.n (.l (.froz r0)) .e) .e) .e) .e) .e) .e) .e) .e) .e) .e) .e) .e) (.n (.n (.n (.n (.n (.n (.n (.n (.n (.n (.n (.n (.l (.froz r4)) .e) .e) .e) .e) .e) .e) .e) .e) .e) .e) .e) .e)) (.n (.n (.n (.n (.n (.n (.n (.n (.n (.n (.n (.n (.n (.l (.froz r2)) .e) .e) .e) .e) .e) .e) .e) .e) .e) .e) .e) .e) (.n (.n (.n (.n (.n (.n (.n (.n (.n (.n (.n (.n (.l (.froz r6)) .e) .e) .e) .e) .e) .e) .e) .e) .e) .e) .e) .e))))⟩
def ll : List (List AV) := [sls, r0, r1, r2, r3, r4, r5, r6, py]
def en : List En := [(101, .n 0, .a 0 1, .s 29),
  (100, .n 10, .s 29, .s 57),
  (2, .n 1, .m 10 57, .s 85),
  (2, .n 1, .s 57, .s 86),
  (101, .n 0, .a 0 2, .s 30),
  (100, .n 10, .s 30, .s 58),
  (2, .s 85, .m 10 58, .s 88),
  (2, .s 85, .s 58, .s 87),
  (101, .n 0, .a 0 3, .s 31),
  (100, .n 10, .s 31, .s 59),
  (2, .s 86, .m 10 59, .t 86 90),
  (0, .s 87, .t 86 90, .s 89),
  (2, .s 86, .s 59, .s 90),
  (101, .n 0, .a 0 4, .s 32),
  (100, .n 10, .s 32, .s 60),
  (2, .s 88, .m 10 60, .s 93),
  (2, .s 88, .s 60, .s 91),
  (101, .n 0, .a 0 5, .s 33),
  (100, .n 10, .s 33, .s 61),
  (2, .s 89, .m 10 61, .t 89 92),
  (0, .s 91, .t 89 92, .s 94),
  (2, .s 89, .s 61, .s 92),
  (101, .n 0, .a 0 6, .s 34),
  (100, .n 10, .s 34, .s 62),
  (2, .s 90, .m 10 62, .t 90 96),
  (0, .s 92, .t 90 96, .s 95),
  (2, .s 90, .s 62, .s 96),
  (101, .n 0, .a 0 7, .s 35),
  (100, .n 10, .s 35, .s 63),
  (2, .s 93, .m 10 63, .s 100),
  (2, .s 93, .s 63, .s 97),
  (101, .n 0, .a 0 8, .s 36),
  (100, .n 10, .s 36, .s 64),
  (2, .s 94, .m 10 64, .t 94 98),
  (0, .s 97, .t 94 98, .s 101),
  (2, .s 94, .s 64, .s 98),
  (101, .n 0, .a 0 9, .s 37),
  (100, .n 10, .s 37, .s 65),
  (2, .s 95, .m 10 65, .t 95 99),
  (0, .s 98, .t 95 99, .s 102),
  (2, .s 95, .s 65, .s 99),
  (101, .n 0, .a 0 10, .s 38),
  (100, .n 10, .s 38, .s 66),
  (2, .s 96, .m 10 66, .t 96 104),
  (0, .s 99, .t 96 104, .s 103),
  (2, .s 96, .s 66, .s 104),
  (101, .n 0, .a 0 11, .s 39),
  (100, .n 10, .s 39, .s 67),
  (2, .s 100, .m 10 67, .s 109),
  (2, .s 100, .s 67, .s 105),
  (101, .n 0, .a 0 12, .s 40),
  (100, .n 10, .s 40, .s 68),
  (2, .s 101, .m 10 68, .t 101 106),
  (0, .s 105, .t 101 106, .s 110),
  (2, .s 101, .s 68, .s 106),
  (101, .n 0, .a 0 13, .s 41),
  (100, .n 10, .s 41, .s 69),
  (2, .s 102, .m 10 69, .t 102 107),
  (0, .s 106, .t 102 107, .s 111),
  (2, .s 102, .s 69, .s 107),
  (101, .n 0, .a 0 14, .s 42),
  (100, .n 10, .s 42, .s 70),
  (2, .s 103, .m 10 70, .t 103 108),
  (0, .s 107, .t 103 108, .s 112),
  (2, .s 103, .s 70, .s 108),
  (101, .n 0, .a 0 15, .s 43),
  (100, .n 10, .s 43, .s 71),
  (2, .s 104, .m 10 71, .t 104 114),
  (0, .s 108, .t 104 114, .s 113),
  (2, .s 104, .s 71, .s 114),
  (101, .n 0, .a 0 16, .s 44),
  (100, .n 10, .s 44, .s 72),
  (2, .s 109, .m 10 72, .s 120),
  (2, .s 109, .s 72, .s 115),
  (101, .n 0, .a 0 17, .s 45),
  (100, .n 10, .s 45, .s 73),
  (2, .s 110, .m 10 73, .t 110 116),
  (0, .s 115, .t 110 116, .s 121),
  (2, .s 110, .s 73, .s 116),
  (101, .n 0, .a 0 18, .s 46),
  (100, .n 10, .s 46, .s 74),
  (2, .s 111, .m 10 74, .t 111 117),
  (0, .s 116, .t 111 117, .s 122),
  (2, .s 111, .s 74, .s 117),
  (101, .n 0, .a 0 19, .s 47),
  (100, .n 10, .s 47, .s 75),
  (2, .s 112, .m 10 75, .t 112 118),
  (0, .s 117, .t 112 118, .s 123),
  (2, .s 112, .s 75, .s 118),
  (101, .n 0, .a 0 20, .s 48),
  (100, .n 10, .s 48, .s 76),
  (2, .s 113, .m 10 76, .t 113 119),
  (0, .s 118, .t 113 119, .s 124),
  (2, .s 113, .s 76, .s 119),
  (101, .n 0, .a 0 21, .s 49),
  (100, .n 10, .s 49, .s 77),
  (2, .s 114, .m 10 77, .t 114 126),
  (0, .s 119, .t 114 126, .s 125),
  (2, .s 114, .s 77, .s 126),
  (101, .n 0, .a 0 22, .s 50),
  (100, .n 10, .s 50, .s 78),
  (2, .s 120, .m 10 78, .s 133),
  (2, .s 120, .s 78, .s 127),
  (101, .n 0, .a 0 23, .s 51),
  (100, .n 10, .s 51, .s 79),
  (2, .s 121, .m 10 79, .t 121 128),
  (0, .s 127, .t 121 128, .s 134),
  (2, .s 121, .s 79, .s 128),
  (101, .n 0, .a 0 24, .s 52),
  (100, .n 10, .s 52, .s 80),
  (2, .s 122, .m 10 80, .t 122 129),
  (0, .s 128, .t 122 129, .s 135),
  (2, .s 122, .s 80, .s 129),
  (101, .n 0, .a 0 25, .s 53),
  (100, .n 10, .s 53, .s 81),
  (2, .s 123, .m 10 81, .t 123 130),
  (0, .s 129, .t 123 130, .s 136),
  (2, .s 123, .s 81, .s 130),
  (101, .n 0, .a 0 26, .s 54),
  (100, .n 10, .s 54, .s 82),
  (2, .s 124, .m 10 82, .t 124 131),
  (0, .s 130, .t 124 131, .s 137),
  (2, .s 124, .s 82, .s 131),
  (101, .n 0, .a 0 27, .s 55),
  (100, .n 10, .s 55, .s 83),
  (2, .s 125, .m 10 83, .t 125 132),
  (0, .s 131, .t 125 132, .s 138),
  (2, .s 125, .s 83, .s 132),
  (101, .n 0, .a 0 28, .s 56),
  (100, .n 10, .s 56, .s 84),
  (2, .s 126, .m 10 84, .t 126 140),
  (0, .s 132, .t 126 140, .s 139),
  (2, .s 126, .s 84, .s 140)]
def args : List AV := [.agg [.sl (some (0, 0)) 7 (.u 1), .sl (some (8, 0)) 8 (.u 1)], fo BB 0 [(0, 1)]]
def cs : List AV := sy BB [133, 134, 135, 136, 137, 138, 139, 140]
theorem mk : mkH (ll.map AO.froz) noH = some hb := by kernel_rfl
theorem wr : waysB (run (exeO (mapE BB en (mapC BB [])) [] []) 100000 (.call (.func 18) args hb)) 8 cs = true := by decide +kernel
end
section
variable (p : Nat → Nat → Int) (y : Nat → Int) (l : Int)
def lst : List Int := [l, p 0 0, p 1 0, p 1 1, p 2 0, p 2 1, p 2 2, p 3 0, p 3 1, p 3 2, p 3 3, p 4 0, p 4 1, p 4 2, p 4 3, p 4 4, p 5 0, p 5 1, p 5 2, p 5 3, p 5 4, p 5 5, p 6 0, p 6 1, p 6 2, p 6 3, p 6 4, p 6 5, p 6 6, mx1 (p 0 0 + l), mx1 (p 1 0 + l), mx1 (p 1 1 + l), mx1 (p 2 0 + l), mx1 (p 2 1 + l), mx1 (p 2 2 + l), mx1 (p 3 0 + l), mx1 (p 3 1 + l), mx1 (p 3 2 + l), mx1 (p 3 3 + l), mx1 (p 4 0 + l), mx1 (p 4 1 + l), mx1 (p 4 2 + l), mx1 (p 4 3 + l), mx1 (p 4 4 + l), mx1 (p 5 0 + l), mx1 (p 5 1 + l), mx1 (p 5 2 + l), mx1 (p 5 3 + l), mx1 (p 5 4 + l), mx1 (p 5 5 + l), mx1 (p 6 0 + l), mx1 (p 6 1 + l), mx1 (p 6 2 + l), mx1 (p 6 3 + l), mx1 (p 6 4 + l), mx1 (p 6 5 + l), mx1 (p 6 6 + l), Rq p l 0 0, Rq p l 1 0, Rq p l 1 1, Rq p l 2 0, Rq p l 2 1, Rq p l 2 2, Rq p l 3 0, Rq p l 3 1, Rq p l 3 2, Rq p l 3 3, Rq p l 4 0, Rq p l 4 1, Rq p l 4 2, Rq p l 4 3, Rq p l 4 4, Rq p l 5 0, Rq p l 5 1, Rq p l 5 2, Rq p l 5 3, Rq p l 5 4, Rq p l 5 5, Rq p l 6 0, Rq p l 6 1, Rq p l 6 2, Rq p l 6 3, Rq p l 6 4, Rq p l 6 5, Rq p l 6 6, Nf p l 1 0, Nf p l 1 1, Nf p l 1 0 * Rq p l 1 0, Nf p l 2 0, Nf p l 2 1, Nf p l 2 2, Nf p l 2 0 * Rq p l 2 0, Nf p l 2 1 * Rq p l 2 1, Nf p l 3 0, Nf p l 3 1, Nf p l 3 2, Nf p l 3 3, Nf p l 3 0 * Rq p l 3 0, Nf p l 3 1 * Rq p l 3 1, Nf p l 3 2 * Rq p l 3 2, Nf p l 4 0, Nf p l 4 1, Nf p l 4 2, Nf p l 4 3, Nf p l 4 4, Nf p l 4 0 * Rq p l 4 0, Nf p l 4 1 * Rq p l 4 1, Nf p l 4 2 * Rq p l 4 2, Nf p l 4 3 * Rq p l 4 3, Nf p l 5 0, Nf p l 5 1, Nf p l 5 2, Nf p l 5 3, Nf p l 5 4, Nf p l 5 5, Nf p l 5 0 * Rq p l 5 0, Nf p l 5 1 * Rq p l 5 1, Nf p l 5 2 * Rq p l 5 2, Nf p l 5 3 * Rq p l 5 3, Nf p l 5 4 * Rq p l 5 4, Nf p l 6 0, Nf p l 6 1, Nf p l 6 2, Nf p l 6 3, Nf p l 6 4, Nf p l 6 5, Nf p l 6 6, Nf p l 6 0 * Rq p l 6 0, Nf p l 6 1 * Rq p l 6 1, Nf p l 6 2 * Rq p l 6 2, Nf p l 6 3 * Rq p l 6 3, Nf p l 6 4 * Rq p l 6 4, Nf p l 6 5 * Rq p l 6 5, Nf p l 7 0, Nf p l 7 1, Nf p l 7 2, Nf p l 7 3, Nf p l 7 4, Nf p l 7 5, Nf p l 7 6, Nf p l 7 7, y 0, y 1, y 2, y 3, y 4, y 5, y 6, y 7]
abbrev val : Val := ⟨nth (lst p y l), fun _ => .nilFunc⟩
variable {p y l}
theorem mb (hp : ∀ r k, r < 7 → k ≤ r → 0 ≤ p r k ∧ p r k ≤ 10) (hl : -5 ≤ l ∧ l ≤ 5) (r k : Nat) (h1 : r < 7) (h2 : k ≤ r) : 0 ≤ mx1 (p r k + l) ∧ mx1 (p r k + l) ≤ 15 := mx1_b (by have := hp r k h1 h2; omega)
variable (hp : ∀ r k, r < 7 → k ≤ r → 0 ≤ p r k ∧ p r k ≤ 10) (hl : -5 ≤ l ∧ l ≤ 5) (hy : ∀ i, i < 8 → 0 ≤ y i ∧ y i ≤ 500)
include hp hl hy
theorem all : AllB BB (lst p y l) := ⟨hl, hp 0 0 (by decide) (by decide), hp 1 0 (by decide) (by decide), hp 1 1 (by decide) (by decide), hp 2 0 (by decide) (by decide), hp 2 1 (by decide) (by decide), hp 2 2 (by decide) (by decide), hp 3 0 (by decide) (by decide), hp 3 1 (by decide) (by decide), hp 3 2 (by decide) (by decide), hp 3 3 (by decide) (by decide), hp 4 0 (by decide) (by decide), hp 4 1 (by decide) (by decide), hp 4 2 (by decide) (by decide), hp 4 3 (by decide) (by decide), hp 4 4 (by decide) (by decide), hp 5 0 (by decide) (by decide), hp 5 1 (by decide) (by decide), hp 5 2 (by decide) (by decide), hp 5 3 (by decide) (by decide), hp 5 4 (by decide) (by decide), hp 5 5 (by decide) (by decide), hp 6 0 (by decide) (by decide), hp 6 1 (by decide) (by decide), hp 6 2 (by decide) (by decide), hp 6 3 (by decide) (by decide), hp 6 4 (by decide) (by decide), hp 6 5 (by decide) (by decide), hp 6 6 (by decide) (by decide), mb hp hl 0 0 (by decide) (by decide), mb hp hl 1 0 (by decide) (by decide), mb hp hl 1 1 (by decide) (by decide), mb hp hl 2 0 (by decide) (by decide), mb hp hl 2 1 (by decide) (by decide), mb hp hl 2 2 (by decide) (by decide), mb hp hl 3 0 (by decide) (by decide), mb hp hl 3 1 (by decide) (by decide), mb hp hl 3 2 (by decide) (by decide), mb hp hl 3 3 (by decide) (by decide), mb hp hl 4 0 (by decide) (by decide), mb hp hl 4 1 (by decide) (by decide), mb hp hl 4 2 (by decide) (by decide), mb hp hl 4 3 (by decide) (by decide), mb hp hl 4 4 (by decide) (by decide), mb hp hl 5 0 (by decide) (by decide), mb hp hl 5 1 (by decide) (by decide), mb hp hl 5 2 (by decide) (by decide), mb hp hl 5 3 (by decide) (by decide), mb hp hl 5 4 (by decide) (by decide), mb hp hl 5 5 (by decide) (by decide), mb hp hl 6 0 (by decide) (by decide), mb hp hl 6 1 (by decide) (by decide), mb hp hl 6 2 (by decide) (by decide), mb hp hl 6 3 (by decide) (by decide), mb hp hl 6 4 (by decide) (by decide), mb hp hl 6 5 (by decide) (by decide), mb hp hl 6 6 (by decide) (by decide), Rq_b p l 0 0, Rq_b p l 1 0, Rq_b p l 1 1, Rq_b p l 2 0, Rq_b p l 2 1, Rq_b p l 2 2, Rq_b p l 3 0, Rq_b p l 3 1, Rq_b p l 3 2, Rq_b p l 3 3, Rq_b p l 4 0, Rq_b p l 4 1, Rq_b p l 4 2, Rq_b p l 4 3, Rq_b p l 4 4, Rq_b p l 5 0, Rq_b p l 5 1, Rq_b p l 5 2, Rq_b p l 5 3, Rq_b p l 5 4, Rq_b p l 5 5, Rq_b p l 6 0, Rq_b p l 6 1, Rq_b p l 6 2, Rq_b p l 6 3, Rq_b p l 6 4, Rq_b p l 6 5, Rq_b p l 6 6, Nf_b p l 1 0, Nf_b p l 1 1, G_b p l 1 0, Nf_b p l 2 0, Nf_b p l 2 1, Nf_b p l 2 2, G_b p l 2 0, G_b p l 2 1, Nf_b p l 3 0, Nf_b p l 3 1, Nf_b p l 3 2, Nf_b p l 3 3, G_b p l 3 0, G_b p l 3 1, G_b p l 3 2, Nf_b p l 4 0, Nf_b p l 4 1, Nf_b p l 4 2, Nf_b p l 4 3, Nf_b p l 4 4, G_b p l 4 0, G_b p l 4 1, G_b p l 4 2, G_b p l 4 3, Nf_b p l 5 0, Nf_b p l 5 1, Nf_b p l 5 2, Nf_b p l 5 3, Nf_b p l 5 4, Nf_b p l 5 5, G_b p l 5 0, G_b p l 5 1, G_b p l 5 2, G_b p l 5 3, G_b p l 5 4, Nf_b p l 6 0, Nf_b p l 6 1, Nf_b p l 6 2, Nf_b p l 6 3, Nf_b p l 6 4, Nf_b p l 6 5, Nf_b p l 6 6, G_b p l 6 0, G_b p l 6 1, G_b p l 6 2, G_b p l 6 3, G_b p l 6 4, G_b p l 6 5, Nf_b p l 7 0, Nf_b p l 7 1, Nf_b p l 7 2, Nf_b p l 7 3, Nf_b p l 7 4, Nf_b p l 7 5, Nf_b p l 7 6, Nf_b p l 7 7, hy 0 (by decide), hy 1 (by decide), hy 2 (by decide), hy 3 (by decide), hy 4 (by decide), hy 5 (by decide), hy 6 (by decide), hy 7 (by decide), trivial⟩
set_option maxHeartbeats 4000000 in
set_option maxRecDepth 100000 in
theorem orcOK : @OrcOK (val p y l) (mapE BB en (mapC BB [])) := by
  letI := val p y l
  exact orc_of (all hp hl hy) (fun _ _ => rfl) (by kernel_rfl) rfl ⟨rfl, rfl, ⟨rfl, in64 (Nf_b p l 1 0) (by decide)⟩, ⟨Nf_diag p l 0, in64 (Nf_b p l 1 1) (by decide)⟩, rfl, rfl, ⟨rfl, in64 (Nf_b p l 2 0) (by decide)⟩, ⟨rfl, in64 (G_b p l 1 0) (by decide)⟩, rfl, rfl, ⟨Nf_leftD p l 1, in64 (LD_b p l 1) (by decide)⟩, ⟨Nf_joinD p l 1 0 rfl, in64 (Nf_b p l 2 1) (by decide)⟩, ⟨Nf_diag p l 1, in64 (Nf_b p l 2 2) (by decide)⟩, rfl, rfl, ⟨rfl, in64 (Nf_b p l 3 0) (by decide)⟩, ⟨rfl, in64 (G_b p l 2 0) (by decide)⟩, rfl, rfl, ⟨Nf_left p l 2 1, in64 (L_b p l 2 1) (by decide)⟩, ⟨Nf_join p l 2 0, in64 (Nf_b p l 3 1) (by decide)⟩, ⟨rfl, in64 (G_b p l 2 1) (by decide)⟩, rfl, rfl, ⟨Nf_leftD p l 2, in64 (LD_b p l 2) (by decide)⟩, ⟨Nf_joinD p l 2 1 rfl, in64 (Nf_b p l 3 2) (by decide)⟩, ⟨Nf_diag p l 2, in64 (Nf_b p l 3 3) (by decide)⟩, rfl, rfl, ⟨rfl, in64 (Nf_b p l 4 0) (by decide)⟩, ⟨rfl, in64 (G_b p l 3 0) (by decide)⟩, rfl, rfl, ⟨Nf_left p l 3 1, in64 (L_b p l 3 1) (by decide)⟩, ⟨Nf_join p l 3 0, in64 (Nf_b p l 4 1) (by decide)⟩, ⟨rfl, in64 (G_b p l 3 1) (by decide)⟩, rfl, rfl, ⟨Nf_left p l 3 2, in64 (L_b p l 3 2) (by decide)⟩, ⟨Nf_join p l 3 1, in64 (Nf_b p l 4 2) (by decide)⟩, ⟨rfl, in64 (G_b p l 3 2) (by decide)⟩, rfl, rfl, ⟨Nf_leftD p l 3, in64 (LD_b p l 3) (by decide)⟩, ⟨Nf_joinD p l 3 2 rfl, in64 (Nf_b p l 4 3) (by decide)⟩, ⟨Nf_diag p l 3, in64 (Nf_b p l 4 4) (by decide)⟩, rfl, rfl, ⟨rfl, in64 (Nf_b p l 5 0) (by decide)⟩, ⟨rfl, in64 (G_b p l 4 0) (by decide)⟩, rfl, rfl, ⟨Nf_left p l 4 1, in64 (L_b p l 4 1) (by decide)⟩, ⟨Nf_join p l 4 0, in64 (Nf_b p l 5 1) (by decide)⟩, ⟨rfl, in64 (G_b p l 4 1) (by decide)⟩, rfl, rfl, ⟨Nf_left p l 4 2, in64 (L_b p l 4 2) (by decide)⟩, ⟨Nf_join p l 4 1, in64 (Nf_b p l 5 2) (by decide)⟩, ⟨rfl, in64 (G_b p l 4 2) (by decide)⟩, rfl, rfl, ⟨Nf_left p l 4 3, in64 (L_b p l 4 3) (by decide)⟩, ⟨Nf_join p l 4 2, in64 (Nf_b p l 5 3) (by decide)⟩, ⟨rfl, in64 (G_b p l 4 3) (by decide)⟩, rfl, rfl, ⟨Nf_leftD p l 4, in64 (LD_b p l 4) (by decide)⟩, ⟨Nf_joinD p l 4 3 rfl, in64 (Nf_b p l 5 4) (by decide)⟩, ⟨Nf_diag p l 4, in64 (Nf_b p l 5 5) (by decide)⟩, rfl, rfl, ⟨rfl, in64 (Nf_b p l 6 0) (by decide)⟩, ⟨rfl, in64 (G_b p l 5 0) (by decide)⟩, rfl, rfl, ⟨Nf_left p l 5 1, in64 (L_b p l 5 1) (by decide)⟩, ⟨Nf_join p l 5 0, in64 (Nf_b p l 6 1) (by decide)⟩, ⟨rfl, in64 (G_b p l 5 1) (by decide)⟩, rfl, rfl, ⟨Nf_left p l 5 2, in64 (L_b p l 5 2) (by decide)⟩, ⟨Nf_join p l 5 1, in64 (Nf_b p l 6 2) (by decide)⟩, ⟨rfl, in64 (G_b p l 5 2) (by decide)⟩, rfl, rfl, ⟨Nf_left p l 5 3, in64 (L_b p l 5 3) (by decide)⟩, ⟨Nf_join p l 5 2, in64 (Nf_b p l 6 3) (by decide)⟩, ⟨rfl, in64 (G_b p l 5 3) (by decide)⟩, rfl, rfl, ⟨Nf_left p l 5 4, in64 (L_b p l 5 4) (by decide)⟩, ⟨Nf_join p l 5 3, in64 (Nf_b p l 6 4) (by decide)⟩, ⟨rfl, in64 (G_b p l 5 4) (by decide)⟩, rfl, rfl, ⟨Nf_leftD p l 5, in64 (LD_b p l 5) (by decide)⟩, ⟨Nf_joinD p l 5 4 rfl, in64 (Nf_b p l 6 5) (by decide)⟩, ⟨Nf_diag p l 5, in64 (Nf_b p l 6 6) (by decide)⟩, rfl, rfl, ⟨rfl, in64 (Nf_b p l 7 0) (by decide)⟩, ⟨rfl, in64 (G_b p l 6 0) (by decide)⟩, rfl, rfl, ⟨Nf_left p l 6 1, in64 (L_b p l 6 1) (by decide)⟩, ⟨Nf_join p l 6 0, in64 (Nf_b p l 7 1) (by decide)⟩, ⟨rfl, in64 (G_b p l 6 1) (by decide)⟩, rfl, rfl, ⟨Nf_left p l 6 2, in64 (L_b p l 6 2) (by decide)⟩, ⟨Nf_join p l 6 1, in64 (Nf_b p l 7 2) (by decide)⟩, ⟨rfl, in64 (G_b p l 6 2) (by decide)⟩, rfl, rfl, ⟨Nf_left p l 6 3, in64 (L_b p l 6 3) (by decide)⟩, ⟨Nf_join p l 6 2, in64 (Nf_b p l 7 3) (by decide)⟩, ⟨rfl, in64 (G_b p l 6 3) (by decide)⟩, rfl, rfl, ⟨Nf_left p l 6 4, in64 (L_b p l 6 4) (by decide)⟩, ⟨Nf_join p l 6 3, in64 (Nf_b p l 7 4) (by decide)⟩, ⟨rfl, in64 (G_b p l 6 4) (by decide)⟩, rfl, rfl, ⟨Nf_left p l 6 5, in64 (L_b p l 6 5) (by decide)⟩, ⟨Nf_join p l 6 4, in64 (Nf_b p l 7 5) (by decide)⟩, ⟨rfl, in64 (G_b p l 6 5) (by decide)⟩, rfl, rfl, ⟨Nf_leftD p l 6, in64 (LD_b p l 6) (by decide)⟩, ⟨Nf_joinD p l 6 5 rfl, in64 (Nf_b p l 7 6) (by decide)⟩, ⟨Nf_diag p l 6, in64 (Nf_b p l 7 7) (by decide)⟩, trivial⟩ trivial
end
end S7
end Go.Proofs.YtibmpjhffeinoaaGreat.Kx
