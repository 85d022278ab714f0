/-
  pins.Ways of a board of so many rows: the runs.
-/
import Derived.Test.YtibmpjhffeinoaaGreatR
namespace Go.Proofs.YtibmpjhffeinoaaGreat.Kx
open Go Go.RowKit

namespace S5
noncomputable section
def BB : List (Int × Int) := [(-5, 5), (0, 10), (0, 10), (0, 10), (0, 10), (0, 10), (0, 10), (0, 10), (0, 10), (0, 10), (0, 10), (0, 10), (0, 10), (0, 10), (0, 10), (0, 10), (0, 15), (0, 15), (0, 15), (0, 15), (0, 15), (0, 15), (0, 15), (0, 15), (0, 15), (0, 15), (0, 15), (0, 15), (0, 15), (0, 15), (0, 15), (0, 10), (0, 10), (0, 10), (0, 10), (0, 10), (0, 10), (0, 10), (0, 10), (0, 10), (0, 10), (0, 10), (0, 10), (0, 10), (0, 10), (0, 10), (0, 10), (0, 10), (0, 100), (0, 100), (0, 100), (0, 100), (0, 1000), (0, 1000), (0, 1000), (0, 1000), (0, 1000), (0, 1000), (0, 10000), (0, 10000), (0, 10000), (0, 10000), (0, 10000), (0, 10000), (0, 10000), (0, 10000), (0, 100000), (0, 100000), (0, 100000), (0, 100000), (0, 100000), (0, 100000), (0, 100000), (0, 100000), (0, 100000), (0, 100000), (0, 500), (0, 500), (0, 500), (0, 500), (0, 500), (0, 500)]
def sls : List AV := [.sl (some (1, 0)) 1 (.u 1), .sl (some (2, 0)) 2 (.u 1), .sl (some (3, 0)) 3 (.u 1), .sl (some (4, 0)) 4 (.u 1), .sl (some (5, 0)) 5 (.u 1)]
def r0 : List AV := sy BB [1]
def r1 : List AV := sy BB [2, 3]
def r2 : List AV := sy BB [4, 5, 6]
def r3 : List AV := sy BB [7, 8, 9, 10]
def r4 : List AV := sy BB [11, 12, 13, 14, 15]
def py : List AV := sy BB [76, 77, 78, 79, 80, 81]
def hb : AH := ⟨7, (.n (.n (.n (.n (.n (.n (.n (.n (.n (.n (.n (.n (.n (.n (.n (.l (.froz sls)) .e) .e) .e) .e) .e) .e) .e) .e) .e) .e) .e) .e) (.n (.n (.n (.n (.n (.n (.n (.n (.n (.n (.n (.n (.l (.froz r3)) .e) .e) .e) .e) .e) .e) .e) .e) .e) .e) .e) .e)) (.n (.n (.n (.n (.n (.n (.n (.n (.n (.n (.n (.n (.n (.l (.froz r1)) .e) .e) .e) .e) .e) .e) .e) .e) .e) .e) .e) .e) (.n (.n (.n (.n (.n (.n (.n (.n (.n (.n (.n (.n (.l (.froz py)) .e) .e) .e) .e) .e) .e) .e) .e) .e) .e) .e) .e))) (.n (.n (.n (.n (.n (.n (.n (.n (.n (.n (.n (.n (.n (.n (.l (.froz r0)) .e) .e) .e) .e) .e) .e) .e) .e) .e) .e) .e) .e) (.n (.n (.n (.n (.n (.n (.n (.n (.n (.n (.n (.n (.l (.froz r4)) .e) .e) .e) .e) .e) .e) .e) .e) .e) .e) .e) .e)) (.n (.n (.n (.n (.n (.n (.n (.n (.n (.n (.n (.n (.n (.l (.froz r2)) .e) .e) .e) .e) .e) .e) .e) .e) .e) .e) .e) .e) .e)))⟩
def ll : List (List AV) := [sls, r0, r1, r2, r3, r4, py]
def en : List En := [(101, .n 0, .a 0 1, .s 16),
  (100, .n 10, .s 16, .s 31),
  (2, .n 1, .m 10 31, .s 46),
  (2, .n 1, .s 31, .s 47),
  (101, .n 0, .a 0 2, .s 17),
  (100, .n 10, .s 17, .s 32),
  (2, .s 46, .m 10 32, .s 49),
  (2, .s 46, .s 32, .s 48),
  (101, .n 0, .a 0 3, .s 18),
  (100, .n 10, .s 18, .s 33),
  (2, .s 47, .m 10 33, .t 47 51),
  (0, .s 48, .t 47 51, .s 50),
  (2, .s 47, .s 33, .s 51),
  (101, .n 0, .a 0 4, .s 19),
  (100, .n 10, .s 19, .s 34),
  (2, .s 49, .m 10 34, .s 54),
  (2, .s 49, .s 34, .s 52),
  (101, .n 0, .a 0 5, .s 20),
  (100, .n 10, .s 20, .s 35),
  (2, .s 50, .m 10 35, .t 50 53),
  (0, .s 52, .t 50 53, .s 55),
  (2, .s 50, .s 35, .s 53),
  (101, .n 0, .a 0 6, .s 21),
  (100, .n 10, .s 21, .s 36),
  (2, .s 51, .m 10 36, .t 51 57),
  (0, .s 53, .t 51 57, .s 56),
  (2, .s 51, .s 36, .s 57),
  (101, .n 0, .a 0 7, .s 22),
  (100, .n 10, .s 22, .s 37),
  (2, .s 54, .m 10 37, .s 61),
  (2, .s 54, .s 37, .s 58),
  (101, .n 0, .a 0 8, .s 23),
  (100, .n 10, .s 23, .s 38),
  (2, .s 55, .m 10 38, .t 55 59),
  (0, .s 58, .t 55 59, .s 62),
  (2, .s 55, .s 38, .s 59),
  (101, .n 0, .a 0 9, .s 24),
  (100, .n 10, .s 24, .s 39),
  (2, .s 56, .m 10 39, .t 56 60),
  (0, .s 59, .t 56 60, .s 63),
  (2, .s 56, .s 39, .s 60),
  (101, .n 0, .a 0 10, .s 25),
  (100, .n 10, .s 25, .s 40),
  (2, .s 57, .m 10 40, .t 57 65),
  (0, .s 60, .t 57 65, .s 64),
  (2, .s 57, .s 40, .s 65),
  (101, .n 0, .a 0 11, .s 26),
  (100, .n 10, .s 26, .s 41),
  (2, .s 61, .m 10 41, .s 70),
  (2, .s 61, .s 41, .s 66),
  (101, .n 0, .a 0 12, .s 27),
  (100, .n 10, .s 27, .s 42),
  (2, .s 62, .m 10 42, .t 62 67),
  (0, .s 66, .t 62 67, .s 71),
  (2, .s 62, .s 42, .s 67),
  (101, .n 0, .a 0 13, .s 28),
  (100, .n 10, .s 28, .s 43),
  (2, .s 63, .m 10 43, .t 63 68),
  (0, .s 67, .t 63 68, .s 72),
  (2, .s 63, .s 43, .s 68),
  (101, .n 0, .a 0 14, .s 29),
  (100, .n 10, .s 29, .s 44),
  (2, .s 64, .m 10 44, .t 64 69),
  (0, .s 68, .t 64 69, .s 73),
  (2, .s 64, .s 44, .s 69),
  (101, .n 0, .a 0 15, .s 30),
  (100, .n 10, .s 30, .s 45),
  (2, .s 65, .m 10 45, .t 65 75),
  (0, .s 69, .t 65 75, .s 74),
  (2, .s 65, .s 45, .s 75)]
def args : List AV := [.agg [.sl (some (0, 0)) 5 (.u 1), .sl (some (6, 0)) 6 (.u 1)], fo BB 0 [(0, 1)]]
def cs : List AV := sy BB [70, 71, 72, 73, 74, 75]
theorem mk : mkH (ll.map AO.froz) noH = some hb := by kernel_rfl
theorem wr : waysB (run (exeO (mapE BB en (mapC BB [])) [] []) 100000 (.call (.func 18) args hb)) 6 cs = true := by decide +kernel
end
section
variable (p : Nat → Nat → Int) (y : Nat → Int) (l : Int)
def lst : List Int := [l, p 0 0, p 1 0, p 1 1, p 2 0, p 2 1, p 2 2, p 3 0, p 3 1, p 3 2, p 3 3, p 4 0, p 4 1, p 4 2, p 4 3, p 4 4, mx1 (p 0 0 + l), mx1 (p 1 0 + l), mx1 (p 1 1 + l), mx1 (p 2 0 + l), mx1 (p 2 1 + l), mx1 (p 2 2 + l), mx1 (p 3 0 + l), mx1 (p 3 1 + l), mx1 (p 3 2 + l), mx1 (p 3 3 + l), mx1 (p 4 0 + l), mx1 (p 4 1 + l), mx1 (p 4 2 + l), mx1 (p 4 3 + l), mx1 (p 4 4 + l), Rq p l 0 0, Rq p l 1 0, Rq p l 1 1, Rq p l 2 0, Rq p l 2 1, Rq p l 2 2, Rq p l 3 0, Rq p l 3 1, Rq p l 3 2, Rq p l 3 3, Rq p l 4 0, Rq p l 4 1, Rq p l 4 2, Rq p l 4 3, Rq p l 4 4, Nf p l 1 0, Nf p l 1 1, Nf p l 1 0 * Rq p l 1 0, Nf p l 2 0, Nf p l 2 1, Nf p l 2 2, Nf p l 2 0 * Rq p l 2 0, Nf p l 2 1 * Rq p l 2 1, Nf p l 3 0, Nf p l 3 1, Nf p l 3 2, Nf p l 3 3, Nf p l 3 0 * Rq p l 3 0, Nf p l 3 1 * Rq p l 3 1, Nf p l 3 2 * Rq p l 3 2, Nf p l 4 0, Nf p l 4 1, Nf p l 4 2, Nf p l 4 3, Nf p l 4 4, Nf p l 4 0 * Rq p l 4 0, Nf p l 4 1 * Rq p l 4 1, Nf p l 4 2 * Rq p l 4 2, Nf p l 4 3 * Rq p l 4 3, Nf p l 5 0, Nf p l 5 1, Nf p l 5 2, Nf p l 5 3, Nf p l 5 4, Nf p l 5 5, y 0, y 1, y 2, y 3, y 4, y 5]
abbrev val : Val := ⟨nth (lst p y l), fun _ => .nilFunc⟩
variable {p y l}
theorem mb (hp : ∀ r k, r < 5 → k ≤ r → 0 ≤ p r k ∧ p r k ≤ 10) (hl : -5 ≤ l ∧ l ≤ 5) (r k : Nat) (h1 : r < 5) (h2 : k ≤ r) : 0 ≤ mx1 (p r k + l) ∧ mx1 (p r k + l) ≤ 15 := mx1_b (by have := hp r k h1 h2; omega)
variable (hp : ∀ r k, r < 5 → k ≤ r → 0 ≤ p r k ∧ p r k ≤ 10) (hl : -5 ≤ l ∧ l ≤ 5) (hy : ∀ i, i < 6 → 0 ≤ y i ∧ y i ≤ 500)
include hp hl hy
theorem all : AllB BB (lst p y l) := ⟨hl, hp 0 0 (by decide) (by decide), hp 1 0 (by decide) (by decide), hp 1 1 (by decide) (by decide), hp 2 0 (by decide) (by decide), hp 2 1 (by decide) (by decide), hp 2 2 (by decide) (by decide), hp 3 0 (by decide) (by decide), hp 3 1 (by decide) (by decide), hp 3 2 (by decide) (by decide), hp 3 3 (by decide) (by decide), hp 4 0 (by decide) (by decide), hp 4 1 (by decide) (by decide), hp 4 2 (by decide) (by decide), hp 4 3 (by decide) (by decide), hp 4 4 (by decide) (by decide), mb hp hl 0 0 (by decide) (by decide), mb hp hl 1 0 (by decide) (by decide), mb hp hl 1 1 (by decide) (by decide), mb hp hl 2 0 (by decide) (by decide), mb hp hl 2 1 (by decide) (by decide), mb hp hl 2 2 (by decide) (by decide), mb hp hl 3 0 (by decide) (by decide), mb hp hl 3 1 (by decide) (by decide), mb hp hl 3 2 (by decide) (by decide), mb hp hl 3 3 (by decide) (by decide), mb hp hl 4 0 (by decide) (by decide), mb hp hl 4 1 (by decide) (by decide), mb hp hl 4 2 (by decide) (by decide), mb hp hl 4 3 (by decide) (by decide), mb hp hl 4 4 (by decide) (by decide), Rq_b p l 0 0, Rq_b p l 1 0, Rq_b p l 1 1, Rq_b p l 2 0, Rq_b p l 2 1, Rq_b p l 2 2, Rq_b p l 3 0, Rq_b p l 3 1, Rq_b p l 3 2, Rq_b p l 3 3, Rq_b p l 4 0, Rq_b p l 4 1, Rq_b p l 4 2, Rq_b p l 4 3, Rq_b p l 4 4, Nf_b p l 1 0, Nf_b p l 1 1, G_b p l 1 0, Nf_b p l 2 0, Nf_b p l 2 1, Nf_b p l 2 2, G_b p l 2 0, G_b p l 2 1, Nf_b p l 3 0, Nf_b p l 3 1, Nf_b p l 3 2, Nf_b p l 3 3, G_b p l 3 0, G_b p l 3 1, G_b p l 3 2, Nf_b p l 4 0, Nf_b p l 4 1, Nf_b p l 4 2, Nf_b p l 4 3, Nf_b p l 4 4, G_b p l 4 0, G_b p l 4 1, G_b p l 4 2, G_b p l 4 3, Nf_b p l 5 0, Nf_b p l 5 1, Nf_b p l 5 2, Nf_b p l 5 3, Nf_b p l 5 4, Nf_b p l 5 5, hy 0 (by decide), hy 1 (by decide), hy 2 (by decide), hy 3 (by decide), hy 4 (by decide), hy 5 (by decide), trivial⟩
set_option maxHeartbeats 4000000 in
set_option maxRecDepth 100000 in
theorem orcOK : @OrcOK (val p y l) (mapE BB en (mapC BB [])) := by
  letI := val p y l
  exact orc_of (all hp hl hy) (fun _ _ => rfl) (by kernel_rfl) rfl ⟨rfl, rfl, ⟨rfl, in64 (Nf_b p l 1 0) (by decide)⟩, ⟨Nf_diag p l 0, in64 (Nf_b p l 1 1) (by decide)⟩, rfl, rfl, ⟨rfl, in64 (Nf_b p l 2 0) (by decide)⟩, ⟨rfl, in64 (G_b p l 1 0) (by decide)⟩, rfl, rfl, ⟨Nf_leftD p l 1, in64 (LD_b p l 1) (by decide)⟩, ⟨Nf_joinD p l 1 0 rfl, in64 (Nf_b p l 2 1) (by decide)⟩, ⟨Nf_diag p l 1, in64 (Nf_b p l 2 2) (by decide)⟩, rfl, rfl, ⟨rfl, in64 (Nf_b p l 3 0) (by decide)⟩, ⟨rfl, in64 (G_b p l 2 0) (by decide)⟩, rfl, rfl, ⟨Nf_left p l 2 1, in64 (L_b p l 2 1) (by decide)⟩, ⟨Nf_join p l 2 0, in64 (Nf_b p l 3 1) (by decide)⟩, ⟨rfl, in64 (G_b p l 2 1) (by decide)⟩, rfl, rfl, ⟨Nf_leftD p l 2, in64 (LD_b p l 2) (by decide)⟩, ⟨Nf_joinD p l 2 1 rfl, in64 (Nf_b p l 3 2) (by decide)⟩, ⟨Nf_diag p l 2, in64 (Nf_b p l 3 3) (by decide)⟩, rfl, rfl, ⟨rfl, in64 (Nf_b p l 4 0) (by decide)⟩, ⟨rfl, in64 (G_b p l 3 0) (by decide)⟩, rfl, rfl, ⟨Nf_left p l 3 1, in64 (L_b p l 3 1) (by decide)⟩, ⟨Nf_join p l 3 0, in64 (Nf_b p l 4 1) (by decide)⟩, ⟨rfl, in64 (G_b p l 3 1) (by decide)⟩, rfl, rfl, ⟨Nf_left p l 3 2, in64 (L_b p l 3 2) (by decide)⟩, ⟨Nf_join p l 3 1, in64 (Nf_b p l 4 2) (by decide)⟩, ⟨rfl, in64 (G_b p l 3 2) (by decide)⟩, rfl, rfl, ⟨Nf_leftD p l 3, in64 (LD_b p l 3) (by decide)⟩, ⟨Nf_joinD p l 3 2 rfl, in64 (Nf_b p l 4 3) (by decide)⟩, ⟨Nf_diag p l 3, in64 (Nf_b p l 4 4) (by decide)⟩, rfl, rfl, ⟨rfl, in64 (Nf_b p l 5 0) (by decide)⟩, ⟨rfl, in64 (G_b p l 4 0) (by decide)⟩, rfl, rfl, ⟨Nf_left p l 4 1, in64 (L_b p l 4 1) (by decide)⟩, ⟨Nf_join p l 4 0, in64 (Nf_b p l 5 1) (by decide)⟩, ⟨rfl, in64 (G_b p l 4 1) (by decide)⟩, rfl, rfl, ⟨Nf_left p l 4 2, in64 (L_b p l 4 2) (by decide)⟩, ⟨Nf_join p l 4 1, in64 (Nf_b p l 5 2) (by decide)⟩, ⟨rfl, in64 (G_b p l 4 2) (by decide)⟩, rfl, rfl, ⟨Nf_left p l 4 3, in64 (L_b p l 4 3) (by decide)⟩, ⟨Nf_join p l 4 2, in64 (Nf_b p l 5 3) (by decide)⟩, ⟨rfl, in64 (G_b p l 4 3) (by decide)⟩, rfl, rfl, ⟨Nf_leftD p l 4, in64 (LD_b p l 4) (by decide)⟩, ⟨Nf_joinD p l 4 3 rfl, in64 (Nf_b p l 5 4) (by decide)⟩, ⟨Nf_diag p l 4, in64 (Nf_b p l 5 5) (by decide)⟩, trivial⟩ trivial
end
end S5
end Go.Proofs.YtibmpjhffeinoaaGreat.Kx
