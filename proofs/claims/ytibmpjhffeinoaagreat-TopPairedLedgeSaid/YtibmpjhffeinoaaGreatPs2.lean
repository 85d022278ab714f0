/-
  pins.Ways of a board of so many rows: the runs.
-/
import Derived.Test.YtibmpjhffeinoaaGreatR
namespace Go.Proofs.YtibmpjhffeinoaaGreat.Kx
open Go Go.RowKit

namespace S6
noncomputable section
def BB : List (Int × Int) := [(-5, 5), (0, 10), (0, 10), (0, 10), (0, 10), (0, 10), (0, 10), (0, 10), (0, 10), (0, 10), (0, 10), (0, 10), (0, 10), (0, 10), (0, 10), (0, 10), (0, 10), (0, 10), (0, 10), (0, 10), (0, 10), (0, 10), (0, 15), (0, 15), (0, 15), (0, 15), (0, 15), (0, 15), (0, 15), (0, 15), (0, 15), (0, 15), (0, 15), (0, 15), (0, 15), (0, 15), (0, 15), (0, 15), (0, 15), (0, 15), (0, 15), (0, 15), (0, 15), (0, 10), (0, 10), (0, 10), (0, 10), (0, 10), (0, 10), (0, 10), (0, 10), (0, 10), (0, 10), (0, 10), (0, 10), (0, 10), (0, 10), (0, 10), (0, 10), (0, 10), (0, 10), (0, 10), (0, 10), (0, 10), (0, 10), (0, 10), (0, 100), (0, 100), (0, 100), (0, 100), (0, 1000), (0, 1000), (0, 1000), (0, 1000), (0, 1000), (0, 1000), (0, 10000), (0, 10000), (0, 10000), (0, 10000), (0, 10000), (0, 10000), (0, 10000), (0, 10000), (0, 100000), (0, 100000), (0, 100000), (0, 100000), (0, 100000), (0, 100000), (0, 100000), (0, 100000), (0, 100000), (0, 100000), (0, 1000000), (0, 1000000), (0, 1000000), (0, 1000000), (0, 1000000), (0, 1000000), (0, 1000000), (0, 1000000), (0, 1000000), (0, 1000000), (0, 1000000), (0, 1000000), (0, 500), (0, 500), (0, 500), (0, 500), (0, 500), (0, 500), (0, 500)]
def sls : List AV := [.sl (some (1, 0)) 1 (.u 1), .sl (some (2, 0)) 2 (.u 1), .sl (some (3, 0)) 3 (.u 1), .sl (some (4, 0)) 4 (.u 1), .sl (some (5, 0)) 5 (.u 1), .sl (some (6, 0)) 6 (.u 1)]
def r0 : List AV := sy BB [1]
def r1 : List AV := sy BB [2, 3]
def r2 : List AV := sy BB [4, 5, 6]
def r3 : List AV := sy BB [7, 8, 9, 10]
def r4 : List AV := sy BB [11, 12, 13, 14, 15]
def r5 : List AV := sy BB [16, 17, 18, 19, 20, 21]
def py : List AV := sy BB [106, 107, 108, 109, 110, 111, 112]
def hb : AH := ⟨8, (.n (.n (.n (.n (.n (.n (.n (.n (.n (.n (.n (.n (.n (.n (.n (.l (.froz sls)) .e) .e) .e) .e) .e) .e) .e) .e) .e) .e) .e) .e) (.n (.n (.n (.n (.n (.n (.n (.n (.n (.n (.n (.n (.l (.froz r3)) .e) .e) .e) .e) .e) .e) .e) .e) .e) .e) .e) .e)) (.n (.n (.n (.n (.n (.n (.n (.n (.n (.n (.n (.n (.n (.l (.froz r1)) .e) .e) .e) .e) .e) .e) .e) .e) .e) .e) .e) .e) (.n (.n (.n (.n (.n (.n (.n (.n (.n (.n (.n (.n (.l (.froz r5)) .e) .e) .e) .e) .e) .e) .e) .e) .e) .e) .e) .e))) (.n (.n (.n (.n (.n (.n (.n (.n (.n (.n (.n (.n (.n (.n (.l (.froz r0)) .e) .e) .e) .e) .e) .e) .e) .e) .e) .e) .e) .e) (.n (.n (.n (.n (.n (.n (.n (.n (.n (.n (.n (.n (.l (.froz r4)) .e) .e) .e) .e) .e) .e) .e) .e) .e) .e) .e) .e)) (.n (.n (.n (.n (.n (.n (.n (.n (.n (.n (.n (.n (.n (.l (.froz r2)) .e) .e) .e) .e) .e) .e) .e) .e) .e) .e) .e) .e) (.n (.n (.n (.n (.n (.n (.n (.n (.n (.n (.n (.n (.l (.froz py)) .e) .e) .e) .e) .e) .e) .e) .e) .e) .e) .e) .e))))⟩
def ll : List (List AV) := [sls, r0, r1, r2, r3, r4, r5, py]
def en : List En := [(101, .n 0, .a 0 1, .s 22),
  (100, .n 10, .s 22, .s 43),
  (2, .n 1, .m 10 43, .s 64),
  (2, .n 1, .s 43, .s 65),
  (101, .n 0, .a 0 2, .s 23),
  (100, .n 10, .s 23, .s 44),
  (2, .s 64, .m 10 44, .s 67),
  (2, .s 64, .s 44, .s 66),
  (101, .n 0, .a 0 3, .s 24),
  (100, .n 10, .s 24, .s 45),
  (2, .s 65, .m 10 45, .t 65 69),
  (0, .s 66, .t 65 69, .s 68),
  (2, .s 65, .s 45, .s 69),
  (101, .n 0, .a 0 4, .s 25),
  (100, .n 10, .s 25, .s 46),
  (2, .s 67, .m 10 46, .s 72),
  (2, .s 67, .s 46, .s 70),
  (101, .n 0, .a 0 5, .s 26),
  (100, .n 10, .s 26, .s 47),
  (2, .s 68, .m 10 47, .t 68 71),
  (0, .s 70, .t 68 71, .s 73),
  (2, .s 68, .s 47, .s 71),
  (101, .n 0, .a 0 6, .s 27),
  (100, .n 10, .s 27, .s 48),
  (2, .s 69, .m 10 48, .t 69 75),
  (0, .s 71, .t 69 75, .s 74),
  (2, .s 69, .s 48, .s 75),
  (101, .n 0, .a 0 7, .s 28),
  (100, .n 10, .s 28, .s 49),
  (2, .s 72, .m 10 49, .s 79),
  (2, .s 72, .s 49, .s 76),
  (101, .n 0, .a 0 8, .s 29),
  (100, .n 10, .s 29, .s 50),
  (2, .s 73, .m 10 50, .t 73 77),
  (0, .s 76, .t 73 77, .s 80),
  (2, .s 73, .s 50, .s 77),
  (101, .n 0, .a 0 9, .s 30),
  (100, .n 10, .s 30, .s 51),
  (2, .s 74, .m 10 51, .t 74 78),
  (0, .s 77, .t 74 78, .s 81),
  (2, .s 74, .s 51, .s 78),
  (101, .n 0, .a 0 10, .s 31),
  (100, .n 10, .s 31, .s 52),
  (2, .s 75, .m 10 52, .t 75 83),
  (0, .s 78, .t 75 83, .s 82),
  (2, .s 75, .s 52, .s 83),
  (101, .n 0, .a 0 11, .s 32),
  (100, .n 10, .s 32, .s 53),
  (2, .s 79, .m 10 53, .s 88),
  (2, .s 79, .s 53, .s 84),
  (101, .n 0, .a 0 12, .s 33),
  (100, .n 10, .s 33, .s 54),
  (2, .s 80, .m 10 54, .t 80 85),
  (0, .s 84, .t 80 85, .s 89),
  (2, .s 80, .s 54, .s 85),
  (101, .n 0, .a 0 13, .s 34),
  (100, .n 10, .s 34, .s 55),
  (2, .s 81, .m 10 55, .t 81 86),
  (0, .s 85, .t 81 86, .s 90),
  (2, .s 81, .s 55, .s 86),
  (101, .n 0, .a 0 14, .s 35),
  (100, .n 10, .s 35, .s 56),
  (2, .s 82, .m 10 56, .t 82 87),
  (0, .s 86, .t 82 87, .s 91),
  (2, .s 82, .s 56, .s 87),
  (101, .n 0, .a 0 15, .s 36),
  (100, .n 10, .s 36, .s 57),
  (2, .s 83, .m 10 57, .t 83 93),
  (0, .s 87, .t 83 93, .s 92),
  (2, .s 83, .s 57, .s 93),
  (101, .n 0, .a 0 16, .s 37),
  (100, .n 10, .s 37, .s 58),
  (2, .s 88, .m 10 58, .s 99),
  (2, .s 88, .s 58, .s 94),
  (101, .n 0, .a 0 17, .s 38),
  (100, .n 10, .s 38, .s 59),
  (2, .s 89, .m 10 59, .t 89 95),
  (0, .s 94, .t 89 95, .s 100),
  (2, .s 89, .s 59, .s 95),
  (101, .n 0, .a 0 18, .s 39),
  (100, .n 10, .s 39, .s 60),
  (2, .s 90, .m 10 60, .t 90 96),
  (0, .s 95, .t 90 96, .s 101),
  (2, .s 90, .s 60, .s 96),
  (101, .n 0, .a 0 19, .s 40),
  (100, .n 10, .s 40, .s 61),
  (2, .s 91, .m 10 61, .t 91 97),
  (0, .s 96, .t 91 97, .s 102),
  (2, .s 91, .s 61, .s 97),
  (101, .n 0, .a 0 20, .s 41),
  (100, .n 10, .s 41, .s 62),
  (2, .s 92, .m 10 62, .t 92 98),
  (0, .s 97, .t 92 98, .s 103),
  (2, .s 92, .s 62, .s 98),
  (101, .n 0, .a 0 21, .s 42),
  (100, .n 10, .s 42, .s 63),
  (2, .s 93, .m 10 63, .t 93 105),
  (0, .s 98, .t 93 105, .s 104),
  (2, .s 93, .s 63, .s 105)]
def args : List AV := [.agg [.sl (some (0, 0)) 6 (.u 1), .sl (some (7, 0)) 7 (.u 1)], fo BB 0 [(0, 1)]]
def cs : List AV := sy BB [99, 100, 101, 102, 103, 104, 105]
theorem mk : mkH (ll.map AO.froz) noH = some hb := by kernel_rfl
theorem wr : waysB (run (exeO (mapE BB en (mapC BB [])) [] []) 100000 (.call (.func 18) args hb)) 7 cs = true := by decide +kernel
end
section
variable (p : Nat → Nat → Int) (y : Nat → Int) (l : Int)
def lst : List Int := [l, p 0 0, p 1 0, p 1 1, p 2 0, p 2 1, p 2 2, p 3 0, p 3 1, p 3 2, p 3 3, p 4 0, p 4 1, p 4 2, p 4 3, p 4 4, p 5 0, p 5 1, p 5 2, p 5 3, p 5 4, p 5 5, mx1 (p 0 0 + l), mx1 (p 1 0 + l), mx1 (p 1 1 + l), mx1 (p 2 0 + l), mx1 (p 2 1 + l), mx1 (p 2 2 + l), mx1 (p 3 0 + l), mx1 (p 3 1 + l), mx1 (p 3 2 + l), mx1 (p 3 3 + l), mx1 (p 4 0 + l), mx1 (p 4 1 + l), mx1 (p 4 2 + l), mx1 (p 4 3 + l), mx1 (p 4 4 + l), mx1 (p 5 0 + l), mx1 (p 5 1 + l), mx1 (p 5 2 + l), mx1 (p 5 3 + l), mx1 (p 5 4 + l), mx1 (p 5 5 + l), Rq p l 0 0, Rq p l 1 0, Rq p l 1 1, Rq p l 2 0, Rq p l 2 1, Rq p l 2 2, Rq p l 3 0, Rq p l 3 1, Rq p l 3 2, Rq p l 3 3, Rq p l 4 0, Rq p l 4 1, Rq p l 4 2, Rq p l 4 3, Rq p l 4 4, Rq p l 5 0, Rq p l 5 1, Rq p l 5 2, Rq p l 5 3, Rq p l 5 4, Rq p l 5 5, Nf p l 1 0, Nf p l 1 1, Nf p l 1 0 * Rq p l 1 0, Nf p l 2 0, Nf p l 2 1, Nf p l 2 2, Nf p l 2 0 * Rq p l 2 0, Nf p l 2 1 * Rq p l 2 1, Nf p l 3 0, Nf p l 3 1, Nf p l 3 2, Nf p l 3 3, Nf p l 3 0 * Rq p l 3 0, Nf p l 3 1 * Rq p l 3 1, Nf p l 3 2 * Rq p l 3 2, Nf p l 4 0, Nf p l 4 1, Nf p l 4 2, Nf p l 4 3, Nf p l 4 4, Nf p l 4 0 * Rq p l 4 0, Nf p l 4 1 * Rq p l 4 1, Nf p l 4 2 * Rq p l 4 2, Nf p l 4 3 * Rq p l 4 3, Nf p l 5 0, Nf p l 5 1, Nf p l 5 2, Nf p l 5 3, Nf p l 5 4, Nf p l 5 5, Nf p l 5 0 * Rq p l 5 0, Nf p l 5 1 * Rq p l 5 1, Nf p l 5 2 * Rq p l 5 2, Nf p l 5 3 * Rq p l 5 3, Nf p l 5 4 * Rq p l 5 4, Nf p l 6 0, Nf p l 6 1, Nf p l 6 2, Nf p l 6 3, Nf p l 6 4, Nf p l 6 5, Nf p l 6 6, y 0, y 1, y 2, y 3, y 4, y 5, y 6]
abbrev val : Val := ⟨nth (lst p y l), fun _ => .nilFunc⟩
variable {p y l}
theorem mb (hp : ∀ r k, r < 6 → k ≤ r → 0 ≤ p r k ∧ p r k ≤ 10) (hl : -5 ≤ l ∧ l ≤ 5) (r k : Nat) (h1 : r < 6) (h2 : k ≤ r) : 0 ≤ mx1 (p r k + l) ∧ mx1 (p r k + l) ≤ 15 := mx1_b (by have := hp r k h1 h2; omega)
variable (hp : ∀ r k, r < 6 → k ≤ r → 0 ≤ p r k ∧ p r k ≤ 10) (hl : -5 ≤ l ∧ l ≤ 5) (hy : ∀ i, i < 7 → 0 ≤ y i ∧ y i ≤ 500)
include hp hl hy
theorem all : AllB BB (lst p y l) := ⟨hl, hp 0 0 (by decide) (by decide), hp 1 0 (by decide) (by decide), hp 1 1 (by decide) (by decide), hp 2 0 (by decide) (by decide), hp 2 1 (by decide) (by decide), hp 2 2 (by decide) (by decide), hp 3 0 (by decide) (by decide), hp 3 1 (by decide) (by decide), hp 3 2 (by decide) (by decide), hp 3 3 (by decide) (by decide), hp 4 0 (by decide) (by decide), hp 4 1 (by decide) (by decide), hp 4 2 (by decide) (by decide), hp 4 3 (by decide) (by decide), hp 4 4 (by decide) (by decide), hp 5 0 (by decide) (by decide), hp 5 1 (by decide) (by decide), hp 5 2 (by decide) (by decide), hp 5 3 (by decide) (by decide), hp 5 4 (by decide) (by decide), hp 5 5 (by decide) (by decide), mb hp hl 0 0 (by decide) (by decide), mb hp hl 1 0 (by decide) (by decide), mb hp hl 1 1 (by decide) (by decide), mb hp hl 2 0 (by decide) (by decide), mb hp hl 2 1 (by decide) (by decide), mb hp hl 2 2 (by decide) (by decide), mb hp hl 3 0 (by decide) (by decide), mb hp hl 3 1 (by decide) (by decide), mb hp hl 3 2 (by decide) (by decide), mb hp hl 3 3 (by decide) (by decide), mb hp hl 4 0 (by decide) (by decide), mb hp hl 4 1 (by decide) (by decide), mb hp hl 4 2 (by decide) (by decide), mb hp hl 4 3 (by decide) (by decide), mb hp hl 4 4 (by decide) (by decide), mb hp hl 5 0 (by decide) (by decide), mb hp hl 5 1 (by decide) (by decide), mb hp hl 5 2 (by decide) (by decide), mb hp hl 5 3 (by decide) (by decide), mb hp hl 5 4 (by decide) (by decide), mb hp hl 5 5 (by decide) (by decide), Rq_b p l 0 0, Rq_b p l 1 0, Rq_b p l 1 1, Rq_b p l 2 0, Rq_b p l 2 1, Rq_b p l 2 2, Rq_b p l 3 0, Rq_b p l 3 1, Rq_b p l 3 2, Rq_b p l 3 3, Rq_b p l 4 0, Rq_b p l 4 1, Rq_b p l 4 2, Rq_b p l 4 3, Rq_b p l 4 4, Rq_b p l 5 0, Rq_b p l 5 1, Rq_b p l 5 2, Rq_b p l 5 3, Rq_b p l 5 4, Rq_b p l 5 5, Nf_b p l 1 0, Nf_b p l 1 1, G_b p l 1 0, Nf_b p l 2 0, Nf_b p l 2 1, Nf_b p l 2 2, G_b p l 2 0, G_b p l 2 1, Nf_b p l 3 0, Nf_b p l 3 1, Nf_b p l 3 2, Nf_b p l 3 3, G_b p l 3 0, G_b p l 3 1, G_b p l 3 2, Nf_b p l 4 0, Nf_b p l 4 1, Nf_b p l 4 2, Nf_b p l 4 3, Nf_b p l 4 4, G_b p l 4 0, G_b p l 4 1, G_b p l 4 2, G_b p l 4 3, Nf_b p l 5 0, Nf_b p l 5 1, Nf_b p l 5 2, Nf_b p l 5 3, Nf_b p l 5 4, Nf_b p l 5 5, G_b p l 5 0, G_b p l 5 1, G_b p l 5 2, G_b p l 5 3, G_b p l 5 4, Nf_b p l 6 0, Nf_b p l 6 1, Nf_b p l 6 2, Nf_b p l 6 3, Nf_b p l 6 4, Nf_b p l 6 5, Nf_b p l 6 6, hy 0 (by decide), hy 1 (by decide), hy 2 (by decide), hy 3 (by decide), hy 4 (by decide), hy 5 (by decide), hy 6 (by decide), trivial⟩
set_option maxHeartbeats 4000000 in
set_option maxRecDepth 100000 in
theorem orcOK : @OrcOK (val p y l) (mapE BB en (mapC BB [])) := by
  letI := val p y l
  exact orc_of (all hp hl hy) (fun _ _ => rfl) (by kernel_rfl) rfl ⟨rfl, rfl, ⟨rfl, in64 (Nf_b p l 1 0) (by decide)⟩, ⟨Nf_diag p l 0, in64 (Nf_b p l 1 1) (by decide)⟩, rfl, rfl, ⟨rfl, in64 (Nf_b p l 2 0) (by decide)⟩, ⟨rfl, in64 (G_b p l 1 0) (by decide)⟩, rfl, rfl, ⟨Nf_leftD p l 1, in64 (LD_b p l 1) (by decide)⟩, ⟨Nf_joinD p l 1 0 rfl, in64 (Nf_b p l 2 1) (by decide)⟩, ⟨Nf_diag p l 1, in64 (Nf_b p l 2 2) (by decide)⟩, rfl, rfl, ⟨rfl, in64 (Nf_b p l 3 0) (by decide)⟩, ⟨rfl, in64 (G_b p l 2 0) (by decide)⟩, rfl, rfl, ⟨Nf_left p l 2 1, in64 (L_b p l 2 1) (by decide)⟩, ⟨Nf_join p l 2 0, in64 (Nf_b p l 3 1) (by decide)⟩, ⟨rfl, in64 (G_b p l 2 1) (by decide)⟩, rfl, rfl, ⟨Nf_leftD p l 2, in64 (LD_b p l 2) (by decide)⟩, ⟨Nf_joinD p l 2 1 rfl, in64 (Nf_b p l 3 2) (by decide)⟩, ⟨Nf_diag p l 2, in64 (Nf_b p l 3 3) (by decide)⟩, rfl, rfl, ⟨rfl, in64 (Nf_b p l 4 0) (by decide)⟩, ⟨rfl, in64 (G_b p l 3 0) (by decide)⟩, rfl, rfl, ⟨Nf_left p l 3 1, in64 (L_b p l 3 1) (by decide)⟩, ⟨Nf_join p l 3 0, in64 (Nf_b p l 4 1) (by decide)⟩, ⟨rfl, in64 (G_b p l 3 1) (by decide)⟩, rfl, rfl, ⟨Nf_left p l 3 2, in64 (L_b p l 3 2) (by decide)⟩, ⟨Nf_join p l 3 1, in64 (Nf_b p l 4 2) (by decide)⟩, ⟨rfl, in64 (G_b p l 3 2) (by decide)⟩, rfl, rfl, ⟨Nf_leftD p l 3, in64 (LD_b p l 3) (by decide)⟩, ⟨Nf_joinD p l 3 2 rfl, in64 (Nf_b p l 4 3) (by decide)⟩, ⟨Nf_diag p l 3, in64 (Nf_b p l 4 4) (by decide)⟩, rfl, rfl, ⟨rfl, in64 (Nf_b p l 5 0) (by decide)⟩, ⟨rfl, in64 (G_b p l 4 0) (by decide)⟩, rfl, rfl, ⟨Nf_left p l 4 1, in64 (L_b p l 4 1) (by decide)⟩, ⟨Nf_join p l 4 0, in64 (Nf_b p l 5 1) (by decide)⟩, ⟨rfl, in64 (G_b p l 4 1) (by decide)⟩, rfl, rfl, ⟨Nf_left p l 4 2, in64 (L_b p l 4 2) (by decide)⟩, ⟨Nf_join p l 4 1, in64 (Nf_b p l 5 2) (by decide)⟩, ⟨rfl, in64 (G_b p l 4 2) (by decide)⟩, rfl, rfl, ⟨Nf_left p l 4 3, in64 (L_b p l 4 3) (by decide)⟩, ⟨Nf_join p l 4 2, in64 (Nf_b p l 5 3) (by decide)⟩, ⟨rfl, in64 (G_b p l 4 3) (by decide)⟩, rfl, rfl, ⟨Nf_leftD p l 4, in64 (LD_b p l 4) (by decide)⟩, ⟨Nf_joinD p l 4 3 rfl, in64 (Nf_b p l 5 4) (by decide)⟩, ⟨Nf_diag p l 4, in64 (Nf_b p l 5 5) (by decide)⟩, rfl, rfl, ⟨rfl, in64 (Nf_b p l 6 0) (by decide)⟩, ⟨rfl, in64 (G_b p l 5 0) (by decide)⟩, rfl, rfl, ⟨Nf_left p l 5 1, in64 (L_b p l 5 1) (by decide)⟩, ⟨Nf_join p l 5 0, in64 (Nf_b p l 6 1) (by decide)⟩, ⟨rfl, in64 (G_b p l 5 1) (by decide)⟩, rfl, rfl, ⟨Nf_left p l 5 2, in64 (L_b p l 5 2) (by decide)⟩, ⟨Nf_join p l 5 1, in64 (Nf_b p l 6 2) (by decide)⟩, ⟨rfl, in64 (G_b p l 5 2) (by decide)⟩, rfl, rfl, ⟨Nf_left p l 5 3, in64 (L_b p l 5 3) (by decide)⟩, ⟨Nf_join p l 5 2, in64 (Nf_b p l 6 3) (by decide)⟩, ⟨rfl, in64 (G_b p l 5 3) (by decide)⟩, rfl, rfl, ⟨Nf_left p l 5 4, in64 (L_b p l 5 4) (by decide)⟩, ⟨Nf_join p l 5 3, in64 (Nf_b p l 6 4) (by decide)⟩, ⟨rfl, in64 (G_b p l 5 4) (by decide)⟩, rfl, rfl, ⟨Nf_leftD p l 5, in64 (LD_b p l 5) (by decide)⟩, ⟨Nf_joinD p l 5 4 rfl, in64 (Nf_b p l 6 5) (by decide)⟩, ⟨Nf_diag p l 5, in64 (Nf_b p l 6 6) (by decide)⟩, trivial⟩ trivial
end
end S6
end Go.Proofs.YtibmpjhffeinoaaGreat.Kx
