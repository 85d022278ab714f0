/-
  pins.Ways of a board of so many rows: the runs.
-/
import Derived.Test.YtibmpjhffeinoaaGreatR
namespace Go.Proofs.YtibmpjhffeinoaaGreat.Kx
open Go Go.RowKit

namespace S1
noncomputable section
def BB : List (Int × Int) := [(-5, 5), (0, 10), (0, 15), (0, 10), (0, 10), (0, 10), (0, 500), (0, 500)]
def sls : List AV := [.sl (some (1, 0)) 1 (.u 1)]
def r0 : List AV := sy BB [1]
def py : List AV := sy BB [6, 7]
def hb : AH := ⟨3, (.n (.n (.n (.n (.n (.n (.n (.n (.n (.n (.n (.n (.n (.n (.n (.l (.froz sls)) .e) .e) .e) .e) .e) .e) .e) .e) .e) .e) .e) .e) .e) (.n (.n (.n (.n (.n (.n (.n (.n (.n (.n (.n (.n (.n (.l (.froz py)) .e) .e) .e) .e) .e) .e) .e) .e) .e) .e) .e) .e) .e)) (.n (.n (.n (.n (.n (.n (.n (.n (.n (.n (.n (.n (.n (.n (.l (.froz r0)) .e) .e) .e) .e) .e) .e) .e) .e) .e) .e) .e) .e) .e) .e))⟩
def ll : List (List AV) := [sls, r0, py]
def en : List En := [(101, .n 0, .a 0 1, .s 2),
  (100, .n 10, .s 2, .s 3),
  (2, .n 1, .m 10 3, .s 4),
  (2, .n 1, .s 3, .s 5)]
def args : List AV := [.agg [.sl (some (0, 0)) 1 (.u 1), .sl (some (2, 0)) 2 (.u 1)], fo BB 0 [(0, 1)]]
def cs : List AV := sy BB [4, 5]
theorem mk : mkH (ll.map AO.froz) noH = some hb := by kernel_rfl
theorem wr : waysB (run (exeO (mapE BB en (mapC BB [])) [] []) 100000 (.call (.func 18) args hb)) 2 cs = true := by decide +kernel
end
section
variable (p : Nat → Nat → Int) (y : Nat → Int) (l : Int)
def lst : List Int := [l, p 0 0, mx1 (p 0 0 + l), Rq p l 0 0, Nf p l 1 0, Nf p l 1 1, y 0, y 1]
abbrev val : Val := ⟨nth (lst p y l), fun _ => .nilFunc⟩
variable {p y l}
theorem mb (hp : ∀ r k, r < 1 → k ≤ r → 0 ≤ p r k ∧ p r k ≤ 10) (hl : -5 ≤ l ∧ l ≤ 5) (r k : Nat) (h1 : r < 1) (h2 : k ≤ r) : 0 ≤ mx1 (p r k + l) ∧ mx1 (p r k + l) ≤ 15 := mx1_b (by have := hp r k h1 h2; omega)
variable (hp : ∀ r k, r < 1 → k ≤ r → 0 ≤ p r k ∧ p r k ≤ 10) (hl : -5 ≤ l ∧ l ≤ 5) (hy : ∀ i, i < 2 → 0 ≤ y i ∧ y i ≤ 500)
include hp hl hy
theorem all : AllB BB (lst p y l) := ⟨hl, hp 0 0 (by decide) (by decide), mb hp hl 0 0 (by decide) (by decide), Rq_b p l 0 0, Nf_b p l 1 0, Nf_b p l 1 1, hy 0 (by decide), hy 1 (by decide), trivial⟩
set_option maxHeartbeats 4000000 in
set_option maxRecDepth 100000 in
theorem orcOK : @OrcOK (val p y l) (mapE BB en (mapC BB [])) := by
  letI := val p y l
  exact orc_of (all hp hl hy) (fun _ _ => rfl) (by kernel_rfl) rfl ⟨rfl, rfl, ⟨rfl, in64 (Nf_b p l 1 0) (by decide)⟩, ⟨Nf_diag p l 0, in64 (Nf_b p l 1 1) (by decide)⟩, trivial⟩ trivial
end
end S1
namespace S2
noncomputable section
def BB : List (Int × Int) := [(-5, 5), (0, 10), (0, 10), (0, 10), (0, 15), (0, 15), (0, 15), (0, 10), (0, 10), (0, 10), (0, 10), (0, 10), (0, 100), (0, 100), (0, 100), (0, 100), (0, 500), (0, 500), (0, 500)]
def sls : List AV := [.sl (some (1, 0)) 1 (.u 1), .sl (some (2, 0)) 2 (.u 1)]
def r0 : List AV := sy BB [1]
def r1 : List AV := sy BB [2, 3]
def py : List AV := sy BB [16, 17, 18]
def hb : AH := ⟨4, (.n (.n (.n (.n (.n (.n (.n (.n (.n (.n (.n (.n (.n (.n (.n (.l (.froz sls)) .e) .e) .e) .e) .e) .e) .e) .e) .e) .e) .e) .e) .e) (.n (.n (.n (.n (.n (.n (.n (.n (.n (.n (.n (.n (.n (.l (.froz r1)) .e) .e) .e) .e) .e) .e) .e) .e) .e) .e) .e) .e) .e)) (.n (.n (.n (.n (.n (.n (.n (.n (.n (.n (.n (.n (.n (.n (.l (.froz r0)) .e) .e) .e) .e) .e) .e) .e) .e) .e) .e) .e) .e) .e) (.n (.n (.n (.n (.n (.n (.n (.n (.n (.n (.n (.n (.n (.l (.froz py)) .e) .e) .e) .e) .e) .e) .e) .e) .e) .e) .e) .e) .e)))⟩
def ll : List (List AV) := [sls, r0, r1, py]
def en : List En := [(101, .n 0, .a 0 1, .s 4),
  (100, .n 10, .s 4, .s 7),
  (2, .n 1, .m 10 7, .s 10),
  (2, .n 1, .s 7, .s 11),
  (101, .n 0, .a 0 2, .s 5),
  (100, .n 10, .s 5, .s 8),
  (2, .s 10, .m 10 8, .s 13),
  (2, .s 10, .s 8, .s 12),
  (101, .n 0, .a 0 3, .s 6),
  (100, .n 10, .s 6, .s 9),
  (2, .s 11, .m 10 9, .t 11 15),
  (0, .s 12, .t 11 15, .s 14),
  (2, .s 11, .s 9, .s 15)]
def args : List AV := [.agg [.sl (some (0, 0)) 2 (.u 1), .sl (some (3, 0)) 3 (.u 1)], fo BB 0 [(0, 1)]]
def cs : List AV := sy BB [13, 14, 15]
theorem mk : mkH (ll.map AO.froz) noH = some hb := by kernel_rfl
theorem wr : waysB (run (exeO (mapE BB en (mapC BB [])) [] []) 100000 (.call (.func 18) args hb)) 3 cs = true := by decide +kernel
end
section
variable (p : Nat → Nat → Int) (y : Nat → Int) (l : Int)
def lst : List Int := [l, p 0 0, p 1 0, p 1 1, mx1 (p 0 0 + l), mx1 (p 1 0 + l), mx1 (p 1 1 + l), Rq p l 0 0, Rq p l 1 0, Rq p l 1 1, Nf p l 1 0, Nf p l 1 1, Nf p l 1 0 * Rq p l 1 0, Nf p l 2 0, Nf p l 2 1, Nf p l 2 2, y 0, y 1, y 2]
abbrev val : Val := ⟨nth (lst p y l), fun _ => .nilFunc⟩
variable {p y l}
theorem mb (hp : ∀ r k, r < 2 → k ≤ r → 0 ≤ p r k ∧ p r k ≤ 10) (hl : -5 ≤ l ∧ l ≤ 5) (r k : Nat) (h1 : r < 2) (h2 : k ≤ r) : 0 ≤ mx1 (p r k + l) ∧ mx1 (p r k + l) ≤ 15 := mx1_b (by have := hp r k h1 h2; omega)
variable (hp : ∀ r k, r < 2 → k ≤ r → 0 ≤ p r k ∧ p r k ≤ 10) (hl : -5 ≤ l ∧ l ≤ 5) (hy : ∀ i, i < 3 → 0 ≤ y i ∧ y i ≤ 500)
include hp hl hy
theorem all : AllB BB (lst p y l) := ⟨hl, hp 0 0 (by decide) (by decide), hp 1 0 (by decide) (by decide), hp 1 1 (by decide) (by decide), mb hp hl 0 0 (by decide) (by decide), mb hp hl 1 0 (by decide) (by decide), mb hp hl 1 1 (by decide) (by decide), Rq_b p l 0 0, Rq_b p l 1 0, Rq_b p l 1 1, Nf_b p l 1 0, Nf_b p l 1 1, G_b p l 1 0, Nf_b p l 2 0, Nf_b p l 2 1, Nf_b p l 2 2, hy 0 (by decide), hy 1 (by decide), hy 2 (by decide), trivial⟩
set_option maxHeartbeats 4000000 in
set_option maxRecDepth 100000 in
theorem orcOK : @OrcOK (val p y l) (mapE BB en (mapC BB [])) := by
  letI := val p y l
  exact orc_of (all hp hl hy) (fun _ _ => rfl) (by kernel_rfl) rfl ⟨rfl, rfl, ⟨rfl, in64 (Nf_b p l 1 0) (by decide)⟩, ⟨Nf_diag p l 0, in64 (Nf_b p l 1 1) (by decide)⟩, rfl, rfl, ⟨rfl, in64 (Nf_b p l 2 0) (by decide)⟩, ⟨rfl, in64 (G_b p l 1 0) (by decide)⟩, rfl, rfl, ⟨Nf_leftD p l 1, in64 (LD_b p l 1) (by decide)⟩, ⟨Nf_joinD p l 1 0 rfl, in64 (Nf_b p l 2 1) (by decide)⟩, ⟨Nf_diag p l 1, in64 (Nf_b p l 2 2) (by decide)⟩, trivial⟩ trivial
end
end S2
namespace S3
noncomputable section
def BB : List (Int × Int) := [(-5, 5), (0, 10), (0, 10), (0, 10), (0, 10), (0, 10), (0, 10), (0, 15), (0, 15), (0, 15), (0, 15), (0, 15), (0, 15), (0, 10), (0, 10), (0, 10), (0, 10), (0, 10), (0, 10), (0, 10), (0, 10), (0, 100), (0, 100), (0, 100), (0, 100), (0, 1000), (0, 1000), (0, 1000), (0, 1000), (0, 1000), (0, 1000), (0, 500), (0, 500), (0, 500), (0, 500)]
def sls : List AV := [.sl (some (1, 0)) 1 (.u 1), .sl (some (2, 0)) 2 (.u 1), .sl (some (3, 0)) 3 (.u 1)]
def r0 : List AV := sy BB [1]
def r1 : List AV := sy BB [2, 3]
def r2 : List AV := sy BB [4, 5, 6]
def py : List AV := sy BB [31, 32, 33, 34]
def hb : AH := ⟨5, (.n (.n (.n (.n (.n (.n (.n (.n (.n (.n (.n (.n (.n (.n (.n (.l (.froz sls)) .e) .e) .e) .e) .e) .e) .e) .e) .e) .e) .e) .e) (.n (.n (.n (.n (.n (.n (.n (.n (.n (.n (.n (.n (.l (.froz py)) .e) .e) .e) .e) .e) .e) .e) .e) .e) .e) .e) .e)) (.n (.n (.n (.n (.n (.n (.n (.n (.n (.n (.n (.n (.n (.l (.froz r1)) .e) .e) .e) .e) .e) .e) .e) .e) .e) .e) .e) .e) .e)) (.n (.n (.n (.n (.n (.n (.n (.n (.n (.n (.n (.n (.n (.n (.l (.froz r0)) .e) .e) .e) .e) .e) .e) .e) .e) .e) .e) .e) .e) .e) (.n (.n (.n (.n (.n (.n (.n (.n (.n (.n (.n (.n (.n (.l (.froz r2)) .e) .e) .e) .e) .e) .e) .e) .e) .e) .e) .e) .e) .e)))⟩
def ll : List (List AV) := [sls, r0, r1, r2, py]
def en : List En := [(101, .n 0, .a 0 1, .s 7),
  (100, .n 10, .s 7, .s 13),
  (2, .n 1, .m 10 13, .s 19),
  (2, .n 1, .s 13, .s 20),
  (101, .n 0, .a 0 2, .s 8),
  (100, .n 10, .s 8, .s 14),
  (2, .s 19, .m 10 14, .s 22),
  (2, .s 19, .s 14, .s 21),
  (101, .n 0, .a 0 3, .s 9),
  (100, .n 10, .s 9, .s 15),
  (2, .s 20, .m 10 15, .t 20 24),
  (0, .s 21, .t 20 24, .s 23),
  (2, .s 20, .s 15, .s 24),
  (101, .n 0, .a 0 4, .s 10),
  (100, .n 10, .s 10, .s 16),
  (2, .s 22, .m 10 16, .s 27),
  (2, .s 22, .s 16, .s 25),
  (101, .n 0, .a 0 5, .s 11),
  (100, .n 10, .s 11, .s 17),
  (2, .s 23, .m 10 17, .t 23 26),
  (0, .s 25, .t 23 26, .s 28),
  (2, .s 23, .s 17, .s 26),
  (101, .n 0, .a 0 6, .s 12),
  (100, .n 10, .s 12, .s 18),
  (2, .s 24, .m 10 18, .t 24 30),
  (0, .s 26, .t 24 30, .s 29),
  (2, .s 24, .s 18, .s 30)]
def args : List AV := [.agg [.sl (some (0, 0)) 3 (.u 1), .sl (some (4, 0)) 4 (.u 1)], fo BB 0 [(0, 1)]]
def cs : List AV := sy BB [27, 28, 29, 30]
theorem mk : mkH (ll.map AO.froz) noH = some hb := by kernel_rfl
theorem wr : waysB (run (exeO (mapE BB en (mapC BB [])) [] []) 100000 (.call (.func 18) args hb)) 4 cs = true := by decide +kernel
end
section
variable (p : Nat → Nat → Int) (y : Nat → Int) (l : Int)
def lst : List Int := [l, p 0 0, p 1 0, p 1 1, p 2 0, p 2 1, p 2 2, mx1 (p 0 0 + l), mx1 (p 1 0 + l), mx1 (p 1 1 + l), mx1 (p 2 0 + l), mx1 (p 2 1 + l), mx1 (p 2 2 + l), Rq p l 0 0, Rq p l 1 0, Rq p l 1 1, Rq p l 2 0, Rq p l 2 1, Rq p l 2 2, Nf p l 1 0, Nf p l 1 1, Nf p l 1 0 * Rq p l 1 0, Nf p l 2 0, Nf p l 2 1, Nf p l 2 2, Nf p l 2 0 * Rq p l 2 0, Nf p l 2 1 * Rq p l 2 1, Nf p l 3 0, Nf p l 3 1, Nf p l 3 2, Nf p l 3 3, y 0, y 1, y 2, y 3]
abbrev val : Val := ⟨nth (lst p y l), fun _ => .nilFunc⟩
variable {p y l}
theorem mb (hp : ∀ r k, r < 3 → k ≤ r → 0 ≤ p r k ∧ p r k ≤ 10) (hl : -5 ≤ l ∧ l ≤ 5) (r k : Nat) (h1 : r < 3) (h2 : k ≤ r) : 0 ≤ mx1 (p r k + l) ∧ mx1 (p r k + l) ≤ 15 := mx1_b (by have := hp r k h1 h2; omega)
variable (hp : ∀ r k, r < 3 → k ≤ r → 0 ≤ p r k ∧ p r k ≤ 10) (hl : -5 ≤ l ∧ l ≤ 5) (hy : ∀ i, i < 4 → 0 ≤ y i ∧ y i ≤ 500)
include hp hl hy
theorem all : AllB BB (lst p y l) := ⟨hl, hp 0 0 (by decide) (by decide), hp 1 0 (by decide) (by decide), hp 1 1 (by decide) (by decide), hp 2 0 (by decide) (by decide), hp 2 1 (by decide) (by decide), hp 2 2 (by decide) (by decide), mb hp hl 0 0 (by decide) (by decide), mb hp hl 1 0 (by decide) (by decide), mb hp hl 1 1 (by decide) (by decide), mb hp hl 2 0 (by decide) (by decide), mb hp hl 2 1 (by decide) (by decide), mb hp hl 2 2 (by decide) (by decide), Rq_b p l 0 0, Rq_b p l 1 0, Rq_b p l 1 1, Rq_b p l 2 0, Rq_b p l 2 1, Rq_b p l 2 2, Nf_b p l 1 0, Nf_b p l 1 1, G_b p l 1 0, Nf_b p l 2 0, Nf_b p l 2 1, Nf_b p l 2 2, G_b p l 2 0, G_b p l 2 1, Nf_b p l 3 0, Nf_b p l 3 1, Nf_b p l 3 2, Nf_b p l 3 3, hy 0 (by decide), hy 1 (by decide), hy 2 (by decide), hy 3 (by decide), trivial⟩
set_option maxHeartbeats 4000000 in
set_option maxRecDepth 100000 in
theorem orcOK : @OrcOK (val p y l) (mapE BB en (mapC BB [])) := by
  letI := val p y l
  exact orc_of (all hp hl hy) (fun _ _ => rfl) (by kernel_rfl) rfl ⟨rfl, rfl, ⟨rfl, in64 (Nf_b p l 1 0) (by decide)⟩, ⟨Nf_diag p l 0, in64 (Nf_b p l 1 1) (by decide)⟩, rfl, rfl, ⟨rfl, in64 (Nf_b p l 2 0) (by decide)⟩, ⟨rfl, in64 (G_b p l 1 0) (by decide)⟩, rfl, rfl, ⟨Nf_leftD p l 1, in64 (LD_b p l 1) (by decide)⟩, ⟨Nf_joinD p l 1 0 rfl, in64 (Nf_b p l 2 1) (by decide)⟩, ⟨Nf_diag p l 1, in64 (Nf_b p l 2 2) (by decide)⟩, rfl, rfl, ⟨rfl, in64 (Nf_b p l 3 0) (by decide)⟩, ⟨rfl, in64 (G_b p l 2 0) (by decide)⟩, rfl, rfl, ⟨Nf_left p l 2 1, in64 (L_b p l 2 1) (by decide)⟩, ⟨Nf_join p l 2 0, in64 (Nf_b p l 3 1) (by decide)⟩, ⟨rfl, in64 (G_b p l 2 1) (by decide)⟩, rfl, rfl, ⟨Nf_leftD p l 2, in64 (LD_b p l 2) (by decide)⟩, ⟨Nf_joinD p l 2 1 rfl, in64 (Nf_b p l 3 2) (by decide)⟩, ⟨Nf_diag p l 2, in64 (Nf_b p l 3 3) (by decide)⟩, trivial⟩ trivial
end
end S3
namespace S4
noncomputable section
def BB : List (Int × Int) := [(-5, 5), (0, 10), (0, 10), (0, 10), (0, 10), (0, 10), (0, 10), (0, 10), (0, 10), (0, 10), (0, 10), (0, 15), (0, 15), (0, 15), (0, 15), (0, 15), (0, 15), (0, 15), (0, 15), (0, 15), (0, 15), (0, 10), (0, 10), (0, 10), (0, 10), (0, 10), (0, 10), (0, 10), (0, 10), (0, 10), (0, 10), (0, 10), (0, 10), (0, 100), (0, 100), (0, 100), (0, 100), (0, 1000), (0, 1000), (0, 1000), (0, 1000), (0, 1000), (0, 1000), (0, 10000), (0, 10000), (0, 10000), (0, 10000), (0, 10000), (0, 10000), (0, 10000), (0, 10000), (0, 500), (0, 500), (0, 500), (0, 500), (0, 500)]
def sls : List AV := [.sl (some (1, 0)) 1 (.u 1), .sl (some (2, 0)) 2 (.u 1), .sl (some (3, 0)) 3 (.u 1), .sl (some (4, 0)) 4 (.u 1)]
def r0 : List AV := sy BB [1]
def r1 : List AV := sy BB [2, 3]
def r2 : List AV := sy BB [4, 5, 6]
def r3 : List AV := sy BB [7, 8, 9, 10]
def py : List AV := sy BB [51, 52, 53, 54, 55]
def hb : AH := ⟨6, (.n (.n (.n (.n (.n (.n (.n (.n (.n (.n (.n (.n (.n (.n (.n (.l (.froz sls)) .e) .e) .e) .e) .e) .e) .e) .e) .e) .e) .e) .e) (.n (.n (.n (.n (.n (.n (.n (.n (.n (.n (.n (.n (.l (.froz r3)) .e) .e) .e) .e) .e) .e) .e) .e) .e) .e) .e) .e)) (.n (.n (.n (.n (.n (.n (.n (.n (.n (.n (.n (.n (.n (.l (.froz r1)) .e) .e) .e) .e) .e) .e) .e) .e) .e) .e) .e) .e) .e)) (.n (.n (.n (.n (.n (.n (.n (.n (.n (.n (.n (.n (.n (.n (.l (.froz r0)) .e) .e) .e) .e) .e) .e) .e) .e) .e) .e) .e) .e) (.n (.n (.n (.n (.n (.n (.n (.n (.n (.n (.n (.n (.l (.froz py)) .e) .e) .e) .e) .e) .e) .e) .e) .e) .e) .e) .e)) (.n (.n (.n (.n (.n (.n (.n (.n (.n (.n (.n (.n (.n (.l (.froz r2)) .e) .e) .e) .e) .e) .e) .e) .e) .e) .e) .e) .e) .e)))⟩
def ll : List (List AV) := [sls, r0, r1, r2, r3, py]
def en : List En := [(101, .n 0, .a 0 1, .s 11),
  (100, .n 10, .s 11, .s 21),
  (2, .n 1, .m 10 21, .s 31),
  (2, .n 1, .s 21, .s 32),
  (101, .n 0, .a 0 2, .s 12),
  (100, .n 10, .s 12, .s 22),
  (2, .s 31, .m 10 22, .s 34),
  (2, .s 31, .s 22, .s 33),
  (101, .n 0, .a 0 3, .s 13),
  (100, .n 10, .s 13, .s 23),
  (2, .s 32, .m 10 23, .t 32 36),
  (0, .s 33, .t 32 36, .s 35),
  (2, .s 32, .s 23, .s 36),
  (101, .n 0, .a 0 4, .s 14),
  (100, .n 10, .s 14, .s 24),
  (2, .s 34, .m 10 24, .s 39),
  (2, .s 34, .s 24, .s 37),
  (101, .n 0, .a 0 5, .s 15),
  (100, .n 10, .s 15, .s 25),
  (2, .s 35, .m 10 25, .t 35 38),
  (0, .s 37, .t 35 38, .s 40),
  (2, .s 35, .s 25, .s 38),
  (101, .n 0, .a 0 6, .s 16),
  (100, .n 10, .s 16, .s 26),
  (2, .s 36, .m 10 26, .t 36 42),
  (0, .s 38, .t 36 42, .s 41),
  (2, .s 36, .s 26, .s 42),
  (101, .n 0, .a 0 7, .s 17),
  (100, .n 10, .s 17, .s 27),
  (2, .s 39, .m 10 27, .s 46),
  (2, .s 39, .s 27, .s 43),
  (101, .n 0, .a 0 8, .s 18),
  (100, .n 10, .s 18, .s 28),
  (2, .s 40, .m 10 28, .t 40 44),
  (0, .s 43, .t 40 44, .s 47),
  (2, .s 40, .s 28, .s 44),
  (101, .n 0, .a 0 9, .s 19),
  (100, .n 10, .s 19, .s 29),
  (2, .s 41, .m 10 29, .t 41 45),
  (0, .s 44, .t 41 45, .s 48),
  (2, .s 41, .s 29, .s 45),
  (101, .n 0, .a 0 10, .s 20),
  (100, .n 10, .s 20, .s 30),
  (2, .s 42, .m 10 30, .t 42 50),
  (0, .s 45, .t 42 50, .s 49),
  (2, .s 42, .s 30, .s 50)]
def args : List AV := [.agg [.sl (some (0, 0)) 4 (.u 1), .sl (some (5, 0)) 5 (.u 1)], fo BB 0 [(0, 1)]]
def cs : List AV := sy BB [46, 47, 48, 49, 50]
theorem mk : mkH (ll.map AO.froz) noH = some hb := by kernel_rfl
theorem wr : waysB (run (exeO (mapE BB en (mapC BB [])) [] []) 100000 (.call (.func 18) args hb)) 5 cs = true := by decide +kernel
end
section
variable (p : Nat → Nat → Int) (y : Nat → Int) (l : Int)
def lst : List Int := [l, p 0 0, p 1 0, p 1 1, p 2 0, p 2 1, p 2 2, p 3 0, p 3 1, p 3 2, p 3 3, mx1 (p 0 0 + l), mx1 (p 1 0 + l), mx1 (p 1 1 + l), mx1 (p 2 0 + l), mx1 (p 2 1 + l), mx1 (p 2 2 + l), mx1 (p 3 0 + l), mx1 (p 3 1 + l), mx1 (p 3 2 + l), mx1 (p 3 3 + l), Rq p l 0 0, Rq p l 1 0, Rq p l 1 1, Rq p l 2 0, Rq p l 2 1, Rq p l 2 2, Rq p l 3 0, Rq p l 3 1, Rq p l 3 2, Rq p l 3 3, Nf p l 1 0, Nf p l 1 1, Nf p l 1 0 * Rq p l 1 0, Nf p l 2 0, Nf p l 2 1, Nf p l 2 2, Nf p l 2 0 * Rq p l 2 0, Nf p l 2 1 * Rq p l 2 1, Nf p l 3 0, Nf p l 3 1, Nf p l 3 2, Nf p l 3 3, Nf p l 3 0 * Rq p l 3 0, Nf p l 3 1 * Rq p l 3 1, Nf p l 3 2 * Rq p l 3 2, Nf p l 4 0, Nf p l 4 1, Nf p l 4 2, Nf p l 4 3, Nf p l 4 4, y 0, y 1, y 2, y 3, y 4]
abbrev val : Val := ⟨nth (lst p y l), fun _ => .nilFunc⟩
variable {p y l}
theorem mb (hp : ∀ r k, r < 4 → k ≤ r → 0 ≤ p r k ∧ p r k ≤ 10) (hl : -5 ≤ l ∧ l ≤ 5) (r k : Nat) (h1 : r < 4) (h2 : k ≤ r) : 0 ≤ mx1 (p r k + l) ∧ mx1 (p r k + l) ≤ 15 := mx1_b (by have := hp r k h1 h2; omega)
variable (hp : ∀ r k, r < 4 → k ≤ r → 0 ≤ p r k ∧ p r k ≤ 10) (hl : -5 ≤ l ∧ l ≤ 5) (hy : ∀ i, i < 5 → 0 ≤ y i ∧ y i ≤ 500)
include hp hl hy
theorem all : AllB BB (lst p y l) := ⟨hl, hp 0 0 (by decide) (by decide), hp 1 0 (by decide) (by decide), hp 1 1 (by decide) (by decide), hp 2 0 (by decide) (by decide), hp 2 1 (by decide) (by decide), hp 2 2 (by decide) (by decide), hp 3 0 (by decide) (by decide), hp 3 1 (by decide) (by decide), hp 3 2 (by decide) (by decide), hp 3 3 (by decide) (by decide), mb hp hl 0 0 (by decide) (by decide), mb hp hl 1 0 (by decide) (by decide), mb hp hl 1 1 (by decide) (by decide), mb hp hl 2 0 (by decide) (by decide), mb hp hl 2 1 (by decide) (by decide), mb hp hl 2 2 (by decide) (by decide), mb hp hl 3 0 (by decide) (by decide), mb hp hl 3 1 (by decide) (by decide), mb hp hl 3 2 (by decide) (by decide), mb hp hl 3 3 (by decide) (by decide), Rq_b p l 0 0, Rq_b p l 1 0, Rq_b p l 1 1, Rq_b p l 2 0, Rq_b p l 2 1, Rq_b p l 2 2, Rq_b p l 3 0, Rq_b p l 3 1, Rq_b p l 3 2, Rq_b p l 3 3, Nf_b p l 1 0, Nf_b p l 1 1, G_b p l 1 0, Nf_b p l 2 0, Nf_b p l 2 1, Nf_b p l 2 2, G_b p l 2 0, G_b p l 2 1, Nf_b p l 3 0, Nf_b p l 3 1, Nf_b p l 3 2, Nf_b p l 3 3, G_b p l 3 0, G_b p l 3 1, G_b p l 3 2, Nf_b p l 4 0, Nf_b p l 4 1, Nf_b p l 4 2, Nf_b p l 4 3, Nf_b p l 4 4, hy 0 (by decide), hy 1 (by decide), hy 2 (by decide), hy 3 (by decide), hy 4 (by decide), trivial⟩
set_option maxHeartbeats 4000000 in
set_option maxRecDepth 100000 in
theorem orcOK : @OrcOK (val p y l) (mapE BB en (mapC BB [])) := by
  letI := val p y l
  exact orc_of (all hp hl hy) (fun _ _ => rfl) (by kernel_rfl) rfl ⟨rfl, rfl, ⟨rfl, in64 (Nf_b p l 1 0) (by decide)⟩, ⟨Nf_diag p l 0, in64 (Nf_b p l 1 1) (by decide)⟩, rfl, rfl, ⟨rfl, in64 (Nf_b p l 2 0) (by decide)⟩, ⟨rfl, in64 (G_b p l 1 0) (by decide)⟩, rfl, rfl, ⟨Nf_leftD p l 1, in64 (LD_b p l 1) (by decide)⟩, ⟨Nf_joinD p l 1 0 rfl, in64 (Nf_b p l 2 1) (by decide)⟩, ⟨Nf_diag p l 1, in64 (Nf_b p l 2 2) (by decide)⟩, rfl, rfl, ⟨rfl, in64 (Nf_b p l 3 0) (by decide)⟩, ⟨rfl, in64 (G_b p l 2 0) (by decide)⟩, rfl, rfl, ⟨Nf_left p l 2 1, in64 (L_b p l 2 1) (by decide)⟩, ⟨Nf_join p l 2 0, in64 (Nf_b p l 3 1) (by decide)⟩, ⟨rfl, in64 (G_b p l 2 1) (by decide)⟩, rfl, rfl, ⟨Nf_leftD p l 2, in64 (LD_b p l 2) (by decide)⟩, ⟨Nf_joinD p l 2 1 rfl, in64 (Nf_b p l 3 2) (by decide)⟩, ⟨Nf_diag p l 2, in64 (Nf_b p l 3 3) (by decide)⟩, rfl, rfl, ⟨rfl, in64 (Nf_b p l 4 0) (by decide)⟩, ⟨rfl, in64 (G_b p l 3 0) (by decide)⟩, rfl, rfl, ⟨Nf_left p l 3 1, in64 (L_b p l 3 1) (by decide)⟩, ⟨Nf_join p l 3 0, in64 (Nf_b p l 4 1) (by decide)⟩, ⟨rfl, in64 (G_b p l 3 1) (by decide)⟩, rfl, rfl, ⟨Nf_left p l 3 2, in64 (L_b p l 3 2) (by decide)⟩, ⟨Nf_join p l 3 1, in64 (Nf_b p l 4 2) (by decide)⟩, ⟨rfl, in64 (G_b p l 3 2) (by decide)⟩, rfl, rfl, ⟨Nf_leftD p l 3, in64 (LD_b p l 3) (by decide)⟩, ⟨Nf_joinD p l 3 2 rfl, in64 (Nf_b p l 4 3) (by decide)⟩, ⟨Nf_diag p l 3, in64 (Nf_b p l 4 4) (by decide)⟩, trivial⟩ trivial
end
end S4
end Go.Proofs.YtibmpjhffeinoaaGreat.Kx
