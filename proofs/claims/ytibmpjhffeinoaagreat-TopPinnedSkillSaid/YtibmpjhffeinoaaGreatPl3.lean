/-
  pins.Back and pins.Ways of a board of so many rows: the runs.
-/
import Derived.Test.YtibmpjhffeinoaaGreatPl1
namespace Go.Proofs.YtibmpjhffeinoaaGreat.Kx
open Go Go.RowKit

namespace S3
section
variable {p : Nat → Nat → Int} {y : Nat → Int} {l : Int}
noncomputable def fs : List Fo := [.s 27, .s 28, .s 29, .s 30]
theorem mk2 : mkH (.froz (slices 3) :: (([r0, r1, r2] : List (List AV)).map AO.froz ++ [.froz py])) noH = some hb := by kernel_rfl
theorem ck : isVal (run (exeO [] [] []) 100000 (.call (.func 17) [.agg [.sl (some (0, 0)) 3 (.u 1), .sl (some (4, 0)) 4 (.u 1)]] hb)) isZ = true := by decide +kernel
variable (hp : ∀ r k, r < 3 → k ≤ r → 0 ≤ p r k ∧ p r k ≤ 10) (hl : -5 ≤ l ∧ l ≤ 5) (hy : ∀ i, i < 4 → 0 ≤ y i ∧ y i ≤ 500)
include hp hl hy
theorem fin {W : World} {A A' : Addr} {As : Nat → Addr} {c c' : Nat} {cs : Nat → Nat} (hb : BrdN W 3 A A' As c c' cs p y) :
    Calls Tryz.prog 18 #[.agg #[.slice (some A) 3 c, .slice (some A') 4 c'], .int .i64 l] W fun e w' => ∃ A2, e = .returned (.tuple #[.slice A2 4 4, .int .i64 0]) ∧ bRow w' A2 4 (Nf p l 3) ∧ Below W.heap.size W w' := by
  letI : Val := val p y l
  letI : Bet := bet0
  have hA := all hp hl hy
  have g0 : VRs phi0 r0 ((List.range 1).map fun k => Value.int .i64 (p 0 k)) := vrs_sy (ns := [p 0 0]) hA (fun _ _ => rfl) (by kernel_rfl) ⟨rfl, trivial⟩
  have g1 : VRs phi0 r1 ((List.range 2).map fun k => Value.int .i64 (p 1 k)) := vrs_sy (ns := [p 1 0, p 1 1]) hA (fun _ _ => rfl) (by kernel_rfl) ⟨rfl, rfl, trivial⟩
  have g2 : VRs phi0 r2 ((List.range 3).map fun k => Value.int .i64 (p 2 k)) := vrs_sy (ns := [p 2 0, p 2 1, p 2 2]) hA (fun _ _ => rfl) (by kernel_rfl) ⟨rfl, rfl, rfl, trivial⟩
  have gy : VRs phi0 py ((List.range 4).map fun i => Value.int .i64 (y i)) := vrs_sy (ns := [y 0, y 1, y 2, y 3]) hA (fun _ _ => rfl) (by kernel_rfl) ⟨rfl, rfl, rfl, rfl, trivial⟩
  obtain ⟨hR, hz, hg⟩ := hb.r (rs := [r0, r1, r2]) (py := py) mk2 rfl (fun r xs h => by
    match r, h with
    | 0, h => cases h; exact g0
    | 1, h => cases h; exact g1
    | 2, h => cases h; exact g2
    | r + 3, h => simp at h) gy
  exact CallsIn.calls (ways_row (fs := fs) (B := BB) (b := Nf p l 3) (orcOK hp hl hy) wr rfl (by kernel_rfl) ⟨rfl, rfl, rfl, rfl, trivial⟩ hR hz (.cons _ _ _ _ hg (.cons _ _ _ _ (.lin _ _ _ _ (by
    rw [dn_S BB _ 0 (by kernel_rfl)]
    show l = 0 + (1 * l + 0)
    omega) (dn_B BB _ _ 0 hA fun j _ => by rw [Nat.zero_add]; rfl)) .nil)) 0) fun k => room_wide k
set_option maxRecDepth 100000 in
theorem chk {W : World} {A A' : Addr} {As : Nat → Addr} {c c' : Nat} {cs : Nat → Nat} (hb : BrdN W 3 A A' As c c' cs p y) :
    Calls Tryz.prog 17 #[.agg #[.slice (some A) 3 c, .slice (some A') 4 c']] W fun e w' => e = .returned (.int .i64 0) ∧ Below W.heap.size W w' := by
  letI : Val := val p y l
  letI : Bet := bet0
  have hA := all hp hl hy
  have g0 : VRs phi0 r0 ((List.range 1).map fun k => Value.int .i64 (p 0 k)) := vrs_sy (ns := [p 0 0]) hA (fun _ _ => rfl) (by kernel_rfl) ⟨rfl, trivial⟩
  have g1 : VRs phi0 r1 ((List.range 2).map fun k => Value.int .i64 (p 1 k)) := vrs_sy (ns := [p 1 0, p 1 1]) hA (fun _ _ => rfl) (by kernel_rfl) ⟨rfl, rfl, trivial⟩
  have g2 : VRs phi0 r2 ((List.range 3).map fun k => Value.int .i64 (p 2 k)) := vrs_sy (ns := [p 2 0, p 2 1, p 2 2]) hA (fun _ _ => rfl) (by kernel_rfl) ⟨rfl, rfl, rfl, trivial⟩
  have gy : VRs phi0 py ((List.range 4).map fun i => Value.int .i64 (y i)) := vrs_sy (ns := [y 0, y 1, y 2, y 3]) hA (fun _ _ => rfl) (by kernel_rfl) ⟨rfl, rfl, rfl, rfl, trivial⟩
  obtain ⟨hR, hz, hg⟩ := hb.r (rs := [r0, r1, r2]) (py := py) mk2 rfl (fun r xs h => by
    match r, h with
    | 0, h => cases h; exact g0
    | 1, h => cases h; exact g1
    | 2, h => cases h; exact g2
    | r + 3, h => simp at h) gy
  exact CallsIn.calls (zero_call exeV_nil ck hR hz (.cons _ _ _ _ hg .nil) 0) fun k => room_wide k
end
end S3
namespace B3_0
noncomputable section
def BB : List (Int × Int) := [(-5, 5), (0, 10), (0, 10), (0, 10), (0, 10), (0, 10), (0, 10), (0, 15), (0, 15), (0, 15), (0, 15), (0, 15), (0, 15), (0, 10), (0, 10), (0, 10), (0, 10), (0, 10), (0, 10), (0, 100), (0, 1000), (0, 500), (0, 500), (0, 500), (0, 500)]
def sls : List AV := [.sl (some (1, 0)) 1 (.u 1), .sl (some (2, 0)) 2 (.u 1), .sl (some (3, 0)) 3 (.u 1)]
def r0 : List AV := sy BB [1]
def r1 : List AV := sy BB [2, 3]
def r2 : List AV := sy BB [4, 5, 6]
def py : List AV := sy BB [21, 22, 23, 24]
def hb : AH := ⟨5, (.n (.n (.n (.n (.n (.n (.n (.n (.n (.n (.n (.n (.n (.n (.n (.l (.froz sls)) .e) .e) .e) .e) .e) .e) .e) .e) .e) .e) .e) .e) (.n (.n (.n (.n (.n (.n (.n (.n (.n (.n (.n (.n (.l (.froz py)) .e) .e) .e) .e) .e) .e) .e) .e) .e) .e) .e) .e)) (.n (.n (.n (.n (.n (.n (.n (.n (.n (.n (.n (.n (.n (.l (.froz r1)) .e) .e) .e) .e) .e) .e) .e) .e) .e) .e) .e) .e) .e)) (.n (.n (.n (.n (.n (.n (.n (.n (.n (.n (.n (.n (.n (.n (.l (.froz r0)) .e) .e) .e) .e) .e) .e) .e) .e) .e) .e) .e) .e) .e) (.n (.n (.n (.n (.n (.n (.n (.n (.n (.n (.n (.n (.n (.l (.froz r2)) .e) .e) .e) .e) .e) .e) .e) .e) .e) .e) .e) .e) .e)))⟩
def ll : List (List AV) := [sls, r0, r1, r2, py]
def en : List En := [(101, .n 0, .a 0 4, .s 10),
  (100, .n 10, .s 10, .s 16),
  (101, .n 0, .a 0 5, .s 11),
  (100, .n 10, .s 11, .s 17),
  (101, .n 0, .a 0 6, .s 12),
  (100, .n 10, .s 12, .s 18),
  (101, .n 0, .a 0 2, .s 8),
  (100, .n 10, .s 8, .s 14),
  (2, .m 10 14, .m 10 16, .s 19),
  (101, .n 0, .a 0 3, .s 9),
  (100, .n 10, .s 9, .s 15),
  (101, .n 0, .a 0 1, .s 7),
  (100, .n 10, .s 7, .s 13),
  (2, .m 10 13, .s 19, .s 20)]
def args : List AV := [.agg [.sl (some (0, 0)) 3 (.u 1), .sl (some (4, 0)) 4 (.u 1)], fo BB 0 [(0, 1)], .int .i64 0]
def fs : List (List Fo) := [[.s 20], [.s 19, .n 0], [.m 10 16, .n 0, .n 0]]
theorem mk : mkH (.froz (slices 3) :: (([r0, r1, r2] : List (List AV)).map AO.froz ++ [.froz py])) noH = some hb := by kernel_rfl
theorem wr : backB (run (exeO (mapE BB en (mapC BB [])) [] []) 100000 (.call (.func 19) args hb)) 3 (avF BB fs) = true := by decide +kernel
end
section
variable (p : Nat → Nat → Int) (y : Nat → Int) (l : Int)
def lst : List Int := [l, p 0 0, p 1 0, p 1 1, p 2 0, p 2 1, p 2 2, mx1 (p 0 0 + l), mx1 (p 1 0 + l), mx1 (p 1 1 + l), mx1 (p 2 0 + l), mx1 (p 2 1 + l), mx1 (p 2 2 + l), Rq p l 0 0, Rq p l 1 0, Rq p l 1 1, Rq p l 2 0, Rq p l 2 1, Rq p l 2 2, (10 - Rq p l 1 0) * Bv (Rq p l) 3 0 2 0, (10 - Rq p l 0 0) * Bv (Rq p l) 3 0 1 0, y 0, y 1, y 2, y 3]
abbrev val : Val := ⟨nth (lst p y l), fun _ => .nilFunc⟩
variable {p y l}
theorem mb (hp : ∀ r k, r < 3 → k ≤ r → 0 ≤ p r k ∧ p r k ≤ 10) (hl : -5 ≤ l ∧ l ≤ 5) (r k : Nat) (h1 : r < 3) (h2 : k ≤ r) : 0 ≤ mx1 (p r k + l) ∧ mx1 (p r k + l) ≤ 15 := mx1_b (by have := hp r k h1 h2; omega)
variable (hp : ∀ r k, r < 3 → k ≤ r → 0 ≤ p r k ∧ p r k ≤ 10) (hl : -5 ≤ l ∧ l ≤ 5) (hy : ∀ i, i < 4 → 0 ≤ y i ∧ y i ≤ 500)
include hp hl hy
theorem all : AllB BB (lst p y l) := ⟨hl, hp 0 0 (by decide) (by decide), hp 1 0 (by decide) (by decide), hp 1 1 (by decide) (by decide), hp 2 0 (by decide) (by decide), hp 2 1 (by decide) (by decide), hp 2 2 (by decide) (by decide), mb hp hl 0 0 (by decide) (by decide), mb hp hl 1 0 (by decide) (by decide), mb hp hl 1 1 (by decide) (by decide), mb hp hl 2 0 (by decide) (by decide), mb hp hl 2 1 (by decide) (by decide), mb hp hl 2 2 (by decide) (by decide), Rq_b p l 0 0, Rq_b p l 1 0, Rq_b p l 1 1, Rq_b p l 2 0, Rq_b p l 2 1, Rq_b p l 2 2, X_b p l 3 0 1 0 (by decide), X_b p l 3 0 0 0 (by decide), hy 0 (by decide), hy 1 (by decide), hy 2 (by decide), hy 3 (by decide), trivial⟩
set_option maxHeartbeats 4000000 in
set_option maxRecDepth 100000 in
theorem orcOK : @OrcOK (val p y l) (mapE BB en (mapC BB [])) := by
  letI := val p y l
  exact orc_of (all hp hl hy) (fun _ _ => rfl) (by kernel_rfl) rfl ⟨rfl, rfl, rfl, rfl, rfl, rfl, rfl, rfl, ⟨by show (10 - Rq p l 1 0) * (10 - Rq p l 2 0) = (10 - Rq p l 1 0) * Bv (Rq p l) 3 0 2 0; simp [Bv, Bd], in64 (X_b p l 3 0 1 0 (by decide)) (by decide)⟩, rfl, rfl, rfl, rfl, ⟨by show (10 - Rq p l 0 0) * ((10 - Rq p l 1 0) * Bv (Rq p l) 3 0 2 0) = (10 - Rq p l 0 0) * Bv (Rq p l) 3 0 1 0; simp [Bv, Bd], in64 (X_b p l 3 0 0 0 (by decide)) (by decide)⟩, trivial⟩ trivial
omit hp hl hy in
theorem vs : @ValR (val p y l) (fun r k => Bv (Rq p l) 3 0 r k) 0 fs := ⟨rfl, ⟨by show (10 - Rq p l 0 0) * Bv (Rq p l) 3 0 1 0 = Bv (Rq p l) 3 0 0 0; simp [Bv, Bd], trivial⟩, rfl, ⟨by show (10 - Rq p l 1 0) * Bv (Rq p l) 3 0 2 0 = Bv (Rq p l) 3 0 1 0; simp [Bv, Bd], by show 0 = Bv (Rq p l) 3 0 1 1; simp [Bv, Bd], trivial⟩, rfl, ⟨by show 10 - Rq p l 2 0 = Bv (Rq p l) 3 0 2 0; simp [Bv, Bd], by show 0 = Bv (Rq p l) 3 0 2 1; simp [Bv, Bd], by show 0 = Bv (Rq p l) 3 0 2 2; simp [Bv, Bd], trivial⟩, trivial⟩
theorem fin {W : World} {A A' : Addr} {As : Nat → Addr} {c c' : Nat} {cs : Nat → Nat} (hb : BrdN W 3 A A' As c c' cs p y) :
    Calls Tryz.prog 19 #[.agg #[.slice (some A) 3 c, .slice (some A') 4 c'], .int .i64 l, .int .i64 0] W fun e w' => ∃ A2, e = .returned (.tuple #[.slice A2 3 3, .int .i64 0]) ∧ bRows w' A2 3 (fun r k => Bv (Rq p l) 3 0 r k) ∧ Below W.heap.size W w' := by
  letI : Val := val p y l
  letI : Bet := bet0
  have hA := all hp hl hy
  have g0 : VRs phi0 r0 ((List.range 1).map fun k => Value.int .i64 (p 0 k)) := vrs_sy (ns := [p 0 0]) hA (fun _ _ => rfl) (by kernel_rfl) ⟨rfl, trivial⟩
  have g1 : VRs phi0 r1 ((List.range 2).map fun k => Value.int .i64 (p 1 k)) := vrs_sy (ns := [p 1 0, p 1 1]) hA (fun _ _ => rfl) (by kernel_rfl) ⟨rfl, rfl, trivial⟩
  have g2 : VRs phi0 r2 ((List.range 3).map fun k => Value.int .i64 (p 2 k)) := vrs_sy (ns := [p 2 0, p 2 1, p 2 2]) hA (fun _ _ => rfl) (by kernel_rfl) ⟨rfl, rfl, rfl, trivial⟩
  have gy : VRs phi0 py ((List.range 4).map fun i => Value.int .i64 (y i)) := vrs_sy (ns := [y 0, y 1, y 2, y 3]) hA (fun _ _ => rfl) (by kernel_rfl) ⟨rfl, rfl, rfl, rfl, trivial⟩
  obtain ⟨hR, hz, hg⟩ := hb.r (rs := [r0, r1, r2]) (py := py) mk rfl (fun r xs h => by
    match r, h with
    | 0, h => cases h; exact g0
    | 1, h => cases h; exact g1
    | 2, h => cases h; exact g2
    | r + 3, h => simp at h) gy
  exact CallsIn.calls (back_rows (fss := fs) (B := BB) (b := fun r k => Bv (Rq p l) 3 0 r k) (orcOK hp hl hy) wr rfl (by kernel_rfl) vs hR hz (.cons _ _ _ _ hg (.cons _ _ _ _ (.lin _ _ _ _ (by
    rw [dn_S BB _ 0 (by kernel_rfl)]
    show l = 0 + (1 * l + 0)
    omega) (dn_B BB _ _ 0 hA fun j _ => by rw [Nat.zero_add]; rfl)) (.cons _ _ _ _ (.int _ _) .nil))) 0) fun k => room_wide k
end
end B3_0
namespace B3_1
noncomputable section
def BB : List (Int × Int) := [(-5, 5), (0, 10), (0, 10), (0, 10), (0, 10), (0, 10), (0, 10), (0, 15), (0, 15), (0, 15), (0, 15), (0, 15), (0, 15), (0, 10), (0, 10), (0, 10), (0, 10), (0, 10), (0, 10), (0, 100), (0, 100), (0, 100), (0, 100), (0, 1000), (0, 1000), (0, 1000), (0, 500), (0, 500), (0, 500), (0, 500)]
def sls : List AV := [.sl (some (1, 0)) 1 (.u 1), .sl (some (2, 0)) 2 (.u 1), .sl (some (3, 0)) 3 (.u 1)]
def r0 : List AV := sy BB [1]
def r1 : List AV := sy BB [2, 3]
def r2 : List AV := sy BB [4, 5, 6]
def py : List AV := sy BB [26, 27, 28, 29]
def hb : AH := ⟨5, (.n (.n (.n (.n (.n (.n (.n (.n (.n (.n (.n (.n (.n (.n (.n (.l (.froz sls)) .e) .e) .e) .e) .e) .e) .e) .e) .e) .e) .e) .e) (.n (.n (.n (.n (.n (.n (.n (.n (.n (.n (.n (.n (.l (.froz py)) .e) .e) .e) .e) .e) .e) .e) .e) .e) .e) .e) .e)) (.n (.n (.n (.n (.n (.n (.n (.n (.n (.n (.n (.n (.n (.l (.froz r1)) .e) .e) .e) .e) .e) .e) .e) .e) .e) .e) .e) .e) .e)) (.n (.n (.n (.n (.n (.n (.n (.n (.n (.n (.n (.n (.n (.n (.l (.froz r0)) .e) .e) .e) .e) .e) .e) .e) .e) .e) .e) .e) .e) .e) (.n (.n (.n (.n (.n (.n (.n (.n (.n (.n (.n (.n (.n (.l (.froz r2)) .e) .e) .e) .e) .e) .e) .e) .e) .e) .e) .e) .e) .e)))⟩
def ll : List (List AV) := [sls, r0, r1, r2, py]
def en : List En := [(101, .n 0, .a 0 4, .s 10),
  (100, .n 10, .s 10, .s 16),
  (101, .n 0, .a 0 5, .s 11),
  (100, .n 10, .s 11, .s 17),
  (101, .n 0, .a 0 6, .s 12),
  (100, .n 10, .s 12, .s 18),
  (101, .n 0, .a 0 2, .s 8),
  (100, .n 10, .s 8, .s 14),
  (2, .m 10 14, .s 16, .s 19),
  (2, .s 14, .m 10 17, .s 20),
  (0, .s 19, .s 20, .s 21),
  (101, .n 0, .a 0 3, .s 9),
  (100, .n 10, .s 9, .s 15),
  (2, .m 10 15, .m 10 17, .s 22),
  (101, .n 0, .a 0 1, .s 7),
  (100, .n 10, .s 7, .s 13),
  (2, .m 10 13, .s 21, .s 23),
  (2, .s 13, .s 22, .s 24),
  (0, .s 23, .s 24, .s 25)]
def args : List AV := [.agg [.sl (some (0, 0)) 3 (.u 1), .sl (some (4, 0)) 4 (.u 1)], fo BB 0 [(0, 1)], .int .i64 1]
def fs : List (List Fo) := [[.s 25], [.s 21, .s 22], [.s 16, .m 10 17, .n 0]]
theorem mk : mkH (.froz (slices 3) :: (([r0, r1, r2] : List (List AV)).map AO.froz ++ [.froz py])) noH = some hb := by kernel_rfl
theorem wr : backB (run (exeO (mapE BB en (mapC BB [])) [] []) 100000 (.call (.func 19) args hb)) 3 (avF BB fs) = true := by decide +kernel
end
section
variable (p : Nat → Nat → Int) (y : Nat → Int) (l : Int)
def lst : List Int := [l, p 0 0, p 1 0, p 1 1, p 2 0, p 2 1, p 2 2, mx1 (p 0 0 + l), mx1 (p 1 0 + l), mx1 (p 1 1 + l), mx1 (p 2 0 + l), mx1 (p 2 1 + l), mx1 (p 2 2 + l), Rq p l 0 0, Rq p l 1 0, Rq p l 1 1, Rq p l 2 0, Rq p l 2 1, Rq p l 2 2, (10 - Rq p l 1 0) * Bv (Rq p l) 3 1 2 0, Rq p l 1 0 * Bv (Rq p l) 3 1 2 1, Bv (Rq p l) 3 1 1 0, (10 - Rq p l 1 1) * Bv (Rq p l) 3 1 2 1, (10 - Rq p l 0 0) * Bv (Rq p l) 3 1 1 0, Rq p l 0 0 * Bv (Rq p l) 3 1 1 1, Bv (Rq p l) 3 1 0 0, y 0, y 1, y 2, y 3]
abbrev val : Val := ⟨nth (lst p y l), fun _ => .nilFunc⟩
variable {p y l}
theorem mb (hp : ∀ r k, r < 3 → k ≤ r → 0 ≤ p r k ∧ p r k ≤ 10) (hl : -5 ≤ l ∧ l ≤ 5) (r k : Nat) (h1 : r < 3) (h2 : k ≤ r) : 0 ≤ mx1 (p r k + l) ∧ mx1 (p r k + l) ≤ 15 := mx1_b (by have := hp r k h1 h2; omega)
variable (hp : ∀ r k, r < 3 → k ≤ r → 0 ≤ p r k ∧ p r k ≤ 10) (hl : -5 ≤ l ∧ l ≤ 5) (hy : ∀ i, i < 4 → 0 ≤ y i ∧ y i ≤ 500)
include hp hl hy
theorem all : AllB BB (lst p y l) := ⟨hl, hp 0 0 (by decide) (by decide), hp 1 0 (by decide) (by decide), hp 1 1 (by decide) (by decide), hp 2 0 (by decide) (by decide), hp 2 1 (by decide) (by decide), hp 2 2 (by decide) (by decide), mb hp hl 0 0 (by decide) (by decide), mb hp hl 1 0 (by decide) (by decide), mb hp hl 1 1 (by decide) (by decide), mb hp hl 2 0 (by decide) (by decide), mb hp hl 2 1 (by decide) (by decide), mb hp hl 2 2 (by decide) (by decide), Rq_b p l 0 0, Rq_b p l 1 0, Rq_b p l 1 1, Rq_b p l 2 0, Rq_b p l 2 1, Rq_b p l 2 2, X_b p l 3 1 1 0 (by decide), Y_b p l 3 1 1 0 (by decide), B_b p l 3 1 1 0, X_b p l 3 1 1 1 (by decide), X_b p l 3 1 0 0 (by decide), Y_b p l 3 1 0 0 (by decide), B_b p l 3 1 0 0, hy 0 (by decide), hy 1 (by decide), hy 2 (by decide), hy 3 (by decide), trivial⟩
set_option maxHeartbeats 4000000 in
set_option maxRecDepth 100000 in
theorem orcOK : @OrcOK (val p y l) (mapE BB en (mapC BB [])) := by
  letI := val p y l
  exact orc_of (all hp hl hy) (fun _ _ => rfl) (by kernel_rfl) rfl ⟨rfl, rfl, rfl, rfl, rfl, rfl, rfl, rfl, ⟨by show (10 - Rq p l 1 0) * (Rq p l 2 0) = (10 - Rq p l 1 0) * Bv (Rq p l) 3 1 2 0; simp [Bv, Bd], in64 (X_b p l 3 1 1 0 (by decide)) (by decide)⟩, ⟨by show (Rq p l 1 0) * (10 - Rq p l 2 1) = Rq p l 1 0 * Bv (Rq p l) 3 1 2 1; simp [Bv, Bd], in64 (Y_b p l 3 1 1 0 (by decide)) (by decide)⟩, ⟨rfl, in64 (B_b p l 3 1 1 0) (by decide)⟩, rfl, rfl, ⟨by show (10 - Rq p l 1 1) * (10 - Rq p l 2 1) = (10 - Rq p l 1 1) * Bv (Rq p l) 3 1 2 1; simp [Bv, Bd], in64 (X_b p l 3 1 1 1 (by decide)) (by decide)⟩, rfl, rfl, ⟨by show (10 - Rq p l 0 0) * (Bv (Rq p l) 3 1 1 0) = (10 - Rq p l 0 0) * Bv (Rq p l) 3 1 1 0; simp [Bv, Bd], in64 (X_b p l 3 1 0 0 (by decide)) (by decide)⟩, ⟨by show (Rq p l 0 0) * ((10 - Rq p l 1 1) * Bv (Rq p l) 3 1 2 1) = Rq p l 0 0 * Bv (Rq p l) 3 1 1 1; simp [Bv, Bd], in64 (Y_b p l 3 1 0 0 (by decide)) (by decide)⟩, ⟨rfl, in64 (B_b p l 3 1 0 0) (by decide)⟩, trivial⟩ trivial
omit hp hl hy in
theorem vs : @ValR (val p y l) (fun r k => Bv (Rq p l) 3 1 r k) 0 fs := ⟨rfl, ⟨by show Bv (Rq p l) 3 1 0 0 = Bv (Rq p l) 3 1 0 0; simp [Bv, Bd], trivial⟩, rfl, ⟨by show Bv (Rq p l) 3 1 1 0 = Bv (Rq p l) 3 1 1 0; simp [Bv, Bd], by show (10 - Rq p l 1 1) * Bv (Rq p l) 3 1 2 1 = Bv (Rq p l) 3 1 1 1; simp [Bv, Bd], trivial⟩, rfl, ⟨by show Rq p l 2 0 = Bv (Rq p l) 3 1 2 0; simp [Bv, Bd], by show 10 - Rq p l 2 1 = Bv (Rq p l) 3 1 2 1; simp [Bv, Bd], by show 0 = Bv (Rq p l) 3 1 2 2; simp [Bv, Bd], trivial⟩, trivial⟩
theorem fin {W : World} {A A' : Addr} {As : Nat → Addr} {c c' : Nat} {cs : Nat → Nat} (hb : BrdN W 3 A A' As c c' cs p y) :
    Calls Tryz.prog 19 #[.agg #[.slice (some A) 3 c, .slice (some A') 4 c'], .int .i64 l, .int .i64 1] W fun e w' => ∃ A2, e = .returned (.tuple #[.slice A2 3 3, .int .i64 0]) ∧ bRows w' A2 3 (fun r k => Bv (Rq p l) 3 1 r k) ∧ Below W.heap.size W w' := by
  letI : Val := val p y l
  letI : Bet := bet0
  have hA := all hp hl hy
  have g0 : VRs phi0 r0 ((List.range 1).map fun k => Value.int .i64 (p 0 k)) := vrs_sy (ns := [p 0 0]) hA (fun _ _ => rfl) (by kernel_rfl) ⟨rfl, trivial⟩
  have g1 : VRs phi0 r1 ((List.range 2).map fun k => Value.int .i64 (p 1 k)) := vrs_sy (ns := [p 1 0, p 1 1]) hA (fun _ _ => rfl) (by kernel_rfl) ⟨rfl, rfl, trivial⟩
  have g2 : VRs phi0 r2 ((List.range 3).map fun k => Value.int .i64 (p 2 k)) := vrs_sy (ns := [p 2 0, p 2 1, p 2 2]) hA (fun _ _ => rfl) (by kernel_rfl) ⟨rfl, rfl, rfl, trivial⟩
  have gy : VRs phi0 py ((List.range 4).map fun i => Value.int .i64 (y i)) := vrs_sy (ns := [y 0, y 1, y 2, y 3]) hA (fun _ _ => rfl) (by kernel_rfl) ⟨rfl, rfl, rfl, rfl, trivial⟩
  obtain ⟨hR, hz, hg⟩ := hb.r (rs := [r0, r1, r2]) (py := py) mk rfl (fun r xs h => by
    match r, h with
    | 0, h => cases h; exact g0
    | 1, h => cases h; exact g1
    | 2, h => cases h; exact g2
    | r + 3, h => simp at h) gy
  exact CallsIn.calls (back_rows (fss := fs) (B := BB) (b := fun r k => Bv (Rq p l) 3 1 r k) (orcOK hp hl hy) wr rfl (by kernel_rfl) vs hR hz (.cons _ _ _ _ hg (.cons _ _ _ _ (.lin _ _ _ _ (by
    rw [dn_S BB _ 0 (by kernel_rfl)]
    show l = 0 + (1 * l + 0)
    omega) (dn_B BB _ _ 0 hA fun j _ => by rw [Nat.zero_add]; rfl)) (.cons _ _ _ _ (.int _ _) .nil))) 0) fun k => room_wide k
end
end B3_1
namespace B3_2
noncomputable section
def BB : List (Int × Int) := [(-5, 5), (0, 10), (0, 10), (0, 10), (0, 10), (0, 10), (0, 10), (0, 15), (0, 15), (0, 15), (0, 15), (0, 15), (0, 15), (0, 10), (0, 10), (0, 10), (0, 10), (0, 10), (0, 10), (0, 100), (0, 100), (0, 100), (0, 100), (0, 1000), (0, 1000), (0, 1000), (0, 500), (0, 500), (0, 500), (0, 500)]
def sls : List AV := [.sl (some (1, 0)) 1 (.u 1), .sl (some (2, 0)) 2 (.u 1), .sl (some (3, 0)) 3 (.u 1)]
def r0 : List AV := sy BB [1]
def r1 : List AV := sy BB [2, 3]
def r2 : List AV := sy BB [4, 5, 6]
def py : List AV := sy BB [26, 27, 28, 29]
def hb : AH := ⟨5, (.n (.n (.n (.n (.n (.n (.n (.n (.n (.n (.n (.n (.n (.n (.n (.l (.froz sls)) .e) .e) .e) .e) .e) .e) .e) .e) .e) .e) .e) .e) (.n (.n (.n (.n (.n (.n (.n (.n (.n (.n (.n (.n (.l (.froz py)) .e) .e) .e) .e) .e) .e) .e) .e) .e) .e) .e) .e)) (.n (.n (.n (.n (.n (.n (.n (.n (.n (.n (.n (.n (.n (.l (.froz r1)) .e) .e) .e) .e) .e) .e) .e) .e) .e) .e) .e) .e) .e)) (.n (.n (.n (.n (.n (.n (.n (.n (.n (.n (.n (.n (.n (.n (.l (.froz r0)) .e) .e) .e) .e) .e) .e) .e) .e) .e) .e) .e) .e) .e) (.n (.n (.n (.n (.n (.n (.n (.n (.n (.n (.n (.n (.n (.l (.froz r2)) .e) .e) .e) .e) .e) .e) .e) .e) .e) .e) .e) .e) .e)))⟩
def ll : List (List AV) := [sls, r0, r1, r2, py]
def en : List En := [(101, .n 0, .a 0 4, .s 10),
  (100, .n 10, .s 10, .s 16),
  (101, .n 0, .a 0 5, .s 11),
  (100, .n 10, .s 11, .s 17),
  (101, .n 0, .a 0 6, .s 12),
  (100, .n 10, .s 12, .s 18),
  (101, .n 0, .a 0 2, .s 8),
  (100, .n 10, .s 8, .s 14),
  (2, .s 14, .s 17, .s 19),
  (101, .n 0, .a 0 3, .s 9),
  (100, .n 10, .s 9, .s 15),
  (2, .m 10 15, .s 17, .s 20),
  (2, .s 15, .m 10 18, .s 21),
  (0, .s 20, .s 21, .s 22),
  (101, .n 0, .a 0 1, .s 7),
  (100, .n 10, .s 7, .s 13),
  (2, .m 10 13, .s 19, .s 23),
  (2, .s 13, .s 22, .s 24),
  (0, .s 23, .s 24, .s 25)]
def args : List AV := [.agg [.sl (some (0, 0)) 3 (.u 1), .sl (some (4, 0)) 4 (.u 1)], fo BB 0 [(0, 1)], .int .i64 2]
def fs : List (List Fo) := [[.s 25], [.s 19, .s 22], [.n 0, .s 17, .m 10 18]]
theorem mk : mkH (.froz (slices 3) :: (([r0, r1, r2] : List (List AV)).map AO.froz ++ [.froz py])) noH = some hb := by kernel_rfl
theorem wr : backB (run (exeO (mapE BB en (mapC BB [])) [] []) 100000 (.call (.func 19) args hb)) 3 (avF BB fs) = true := by decide +kernel
end
section
variable (p : Nat → Nat → Int) (y : Nat → Int) (l : Int)
def lst : List Int := [l, p 0 0, p 1 0, p 1 1, p 2 0, p 2 1, p 2 2, mx1 (p 0 0 + l), mx1 (p 1 0 + l), mx1 (p 1 1 + l), mx1 (p 2 0 + l), mx1 (p 2 1 + l), mx1 (p 2 2 + l), Rq p l 0 0, Rq p l 1 0, Rq p l 1 1, Rq p l 2 0, Rq p l 2 1, Rq p l 2 2, Rq p l 1 0 * Bv (Rq p l) 3 2 2 1, (10 - Rq p l 1 1) * Bv (Rq p l) 3 2 2 1, Rq p l 1 1 * Bv (Rq p l) 3 2 2 2, Bv (Rq p l) 3 2 1 1, (10 - Rq p l 0 0) * Bv (Rq p l) 3 2 1 0, Rq p l 0 0 * Bv (Rq p l) 3 2 1 1, Bv (Rq p l) 3 2 0 0, y 0, y 1, y 2, y 3]
abbrev val : Val := ⟨nth (lst p y l), fun _ => .nilFunc⟩
variable {p y l}
theorem mb (hp : ∀ r k, r < 3 → k ≤ r → 0 ≤ p r k ∧ p r k ≤ 10) (hl : -5 ≤ l ∧ l ≤ 5) (r k : Nat) (h1 : r < 3) (h2 : k ≤ r) : 0 ≤ mx1 (p r k + l) ∧ mx1 (p r k + l) ≤ 15 := mx1_b (by have := hp r k h1 h2; omega)
variable (hp : ∀ r k, r < 3 → k ≤ r → 0 ≤ p r k ∧ p r k ≤ 10) (hl : -5 ≤ l ∧ l ≤ 5) (hy : ∀ i, i < 4 → 0 ≤ y i ∧ y i ≤ 500)
include hp hl hy
theorem all : AllB BB (lst p y l) := ⟨hl, hp 0 0 (by decide) (by decide), hp 1 0 (by decide) (by decide), hp 1 1 (by decide) (by decide), hp 2 0 (by decide) (by decide), hp 2 1 (by decide) (by decide), hp 2 2 (by decide) (by decide), mb hp hl 0 0 (by decide) (by decide), mb hp hl 1 0 (by decide) (by decide), mb hp hl 1 1 (by decide) (by decide), mb hp hl 2 0 (by decide) (by decide), mb hp hl 2 1 (by decide) (by decide), mb hp hl 2 2 (by decide) (by decide), Rq_b p l 0 0, Rq_b p l 1 0, Rq_b p l 1 1, Rq_b p l 2 0, Rq_b p l 2 1, Rq_b p l 2 2, Y_b p l 3 2 1 0 (by decide), X_b p l 3 2 1 1 (by decide), Y_b p l 3 2 1 1 (by decide), B_b p l 3 2 1 1, X_b p l 3 2 0 0 (by decide), Y_b p l 3 2 0 0 (by decide), B_b p l 3 2 0 0, hy 0 (by decide), hy 1 (by decide), hy 2 (by decide), hy 3 (by decide), trivial⟩
set_option maxHeartbeats 4000000 in
set_option maxRecDepth 100000 in
theorem orcOK : @OrcOK (val p y l) (mapE BB en (mapC BB [])) := by
  letI := val p y l
  exact orc_of (all hp hl hy) (fun _ _ => rfl) (by kernel_rfl) rfl ⟨rfl, rfl, rfl, rfl, rfl, rfl, rfl, rfl, ⟨by show (Rq p l 1 0) * (Rq p l 2 1) = Rq p l 1 0 * Bv (Rq p l) 3 2 2 1; simp [Bv, Bd], in64 (Y_b p l 3 2 1 0 (by decide)) (by decide)⟩, rfl, rfl, ⟨by show (10 - Rq p l 1 1) * (Rq p l 2 1) = (10 - Rq p l 1 1) * Bv (Rq p l) 3 2 2 1; simp [Bv, Bd], in64 (X_b p l 3 2 1 1 (by decide)) (by decide)⟩, ⟨by show (Rq p l 1 1) * (10 - Rq p l 2 2) = Rq p l 1 1 * Bv (Rq p l) 3 2 2 2; simp [Bv, Bd], in64 (Y_b p l 3 2 1 1 (by decide)) (by decide)⟩, ⟨rfl, in64 (B_b p l 3 2 1 1) (by decide)⟩, rfl, rfl, ⟨by show (10 - Rq p l 0 0) * (Rq p l 1 0 * Bv (Rq p l) 3 2 2 1) = (10 - Rq p l 0 0) * Bv (Rq p l) 3 2 1 0; simp [Bv, Bd], in64 (X_b p l 3 2 0 0 (by decide)) (by decide)⟩, ⟨by show (Rq p l 0 0) * (Bv (Rq p l) 3 2 1 1) = Rq p l 0 0 * Bv (Rq p l) 3 2 1 1; simp [Bv, Bd], in64 (Y_b p l 3 2 0 0 (by decide)) (by decide)⟩, ⟨rfl, in64 (B_b p l 3 2 0 0) (by decide)⟩, trivial⟩ trivial
omit hp hl hy in
theorem vs : @ValR (val p y l) (fun r k => Bv (Rq p l) 3 2 r k) 0 fs := ⟨rfl, ⟨by show Bv (Rq p l) 3 2 0 0 = Bv (Rq p l) 3 2 0 0; simp [Bv, Bd], trivial⟩, rfl, ⟨by show Rq p l 1 0 * Bv (Rq p l) 3 2 2 1 = Bv (Rq p l) 3 2 1 0; simp [Bv, Bd], by show Bv (Rq p l) 3 2 1 1 = Bv (Rq p l) 3 2 1 1; simp [Bv, Bd], trivial⟩, rfl, ⟨by show 0 = Bv (Rq p l) 3 2 2 0; simp [Bv, Bd], by show Rq p l 2 1 = Bv (Rq p l) 3 2 2 1; simp [Bv, Bd], by show 10 - Rq p l 2 2 = Bv (Rq p l) 3 2 2 2; simp [Bv, Bd], trivial⟩, trivial⟩
theorem fin {W : World} {A A' : Addr} {As : Nat → Addr} {c c' : Nat} {cs : Nat → Nat} (hb : BrdN W 3 A A' As c c' cs p y) :
    Calls Tryz.prog 19 #[.agg #[.slice (some A) 3 c, .slice (some A') 4 c'], .int .i64 l, .int .i64 2] W fun e w' => ∃ A2, e = .returned (.tuple #[.slice A2 3 3, .int .i64 0]) ∧ bRows w' A2 3 (fun r k => Bv (Rq p l) 3 2 r k) ∧ Below W.heap.size W w' := by
  letI : Val := val p y l
  letI : Bet := bet0
  have hA := all hp hl hy
  have g0 : VRs phi0 r0 ((List.range 1).map fun k => Value.int .i64 (p 0 k)) := vrs_sy (ns := [p 0 0]) hA (fun _ _ => rfl) (by kernel_rfl) ⟨rfl, trivial⟩
  have g1 : VRs phi0 r1 ((List.range 2).map fun k => Value.int .i64 (p 1 k)) := vrs_sy (ns := [p 1 0, p 1 1]) hA (fun _ _ => rfl) (by kernel_rfl) ⟨rfl, rfl, trivial⟩
  have g2 : VRs phi0 r2 ((List.range 3).map fun k => Value.int .i64 (p 2 k)) := vrs_sy (ns := [p 2 0, p 2 1, p 2 2]) hA (fun _ _ => rfl) (by kernel_rfl) ⟨rfl, rfl, rfl, trivial⟩
  have gy : VRs phi0 py ((List.range 4).map fun i => Value.int .i64 (y i)) := vrs_sy (ns := [y 0, y 1, y 2, y 3]) hA (fun _ _ => rfl) (by kernel_rfl) ⟨rfl, rfl, rfl, rfl, trivial⟩
  obtain ⟨hR, hz, hg⟩ := hb.r (rs := [r0, r1, r2]) (py := py) mk rfl (fun r xs h => by
    match r, h with
    | 0, h => cases h; exact g0
    | 1, h => cases h; exact g1
    | 2, h => cases h; exact g2
    | r + 3, h => simp at h) gy
  exact CallsIn.calls (back_rows (fss := fs) (B := BB) (b := fun r k => Bv (Rq p l) 3 2 r k) (orcOK hp hl hy) wr rfl (by kernel_rfl) vs hR hz (.cons _ _ _ _ hg (.cons _ _ _ _ (.lin _ _ _ _ (by
    rw [dn_S BB _ 0 (by kernel_rfl)]
    show l = 0 + (1 * l + 0)
    omega) (dn_B BB _ _ 0 hA fun j _ => by rw [Nat.zero_add]; rfl)) (.cons _ _ _ _ (.int _ _) .nil))) 0) fun k => room_wide k
end
end B3_2
namespace B3_3
noncomputable section
def BB : List (Int × Int) := [(-5, 5), (0, 10), (0, 10), (0, 10), (0, 10), (0, 10), (0, 10), (0, 15), (0, 15), (0, 15), (0, 15), (0, 15), (0, 15), (0, 10), (0, 10), (0, 10), (0, 10), (0, 10), (0, 10), (0, 100), (0, 1000), (0, 500), (0, 500), (0, 500), (0, 500)]
def sls : List AV := [.sl (some (1, 0)) 1 (.u 1), .sl (some (2, 0)) 2 (.u 1), .sl (some (3, 0)) 3 (.u 1)]
def r0 : List AV := sy BB [1]
def r1 : List AV := sy BB [2, 3]
def r2 : List AV := sy BB [4, 5, 6]
def py : List AV := sy BB [21, 22, 23, 24]
def hb : AH := ⟨5, (.n (.n (.n (.n (.n (.n (.n (.n (.n (.n (.n (.n (.n (.n (.n (.l (.froz sls)) .e) .e) .e) .e) .e) .e) .e) .e) .e) .e) .e) .e) (.n (.n (.n (.n (.n (.n (.n (.n (.n (.n (.n (.n (.l (.froz py)) .e) .e) .e) .e) .e) .e) .e) .e) .e) .e) .e) .e)) (.n (.n (.n (.n (.n (.n (.n (.n (.n (.n (.n (.n (.n (.l (.froz r1)) .e) .e) .e) .e) .e) .e) .e) .e) .e) .e) .e) .e) .e)) (.n (.n (.n (.n (.n (.n (.n (.n (.n (.n (.n (.n (.n (.n (.l (.froz r0)) .e) .e) .e) .e) .e) .e) .e) .e) .e) .e) .e) .e) .e) (.n (.n (.n (.n (.n (.n (.n (.n (.n (.n (.n (.n (.n (.l (.froz r2)) .e) .e) .e) .e) .e) .e) .e) .e) .e) .e) .e) .e) .e)))⟩
def ll : List (List AV) := [sls, r0, r1, r2, py]
def en : List En := [(101, .n 0, .a 0 4, .s 10),
  (100, .n 10, .s 10, .s 16),
  (101, .n 0, .a 0 5, .s 11),
  (100, .n 10, .s 11, .s 17),
  (101, .n 0, .a 0 6, .s 12),
  (100, .n 10, .s 12, .s 18),
  (101, .n 0, .a 0 2, .s 8),
  (100, .n 10, .s 8, .s 14),
  (101, .n 0, .a 0 3, .s 9),
  (100, .n 10, .s 9, .s 15),
  (2, .s 15, .s 18, .s 19),
  (101, .n 0, .a 0 1, .s 7),
  (100, .n 10, .s 7, .s 13),
  (2, .s 13, .s 19, .s 20)]
def args : List AV := [.agg [.sl (some (0, 0)) 3 (.u 1), .sl (some (4, 0)) 4 (.u 1)], fo BB 0 [(0, 1)], .int .i64 3]
def fs : List (List Fo) := [[.s 20], [.n 0, .s 19], [.n 0, .n 0, .s 18]]
theorem mk : mkH (.froz (slices 3) :: (([r0, r1, r2] : List (List AV)).map AO.froz ++ [.froz py])) noH = some hb := by kernel_rfl
theorem wr : backB (run (exeO (mapE BB en (mapC BB [])) [] []) 100000 (.call (.func 19) args hb)) 3 (avF BB fs) = true := by decide +kernel
end
section
variable (p : Nat → Nat → Int) (y : Nat → Int) (l : Int)
def lst : List Int := [l, p 0 0, p 1 0, p 1 1, p 2 0, p 2 1, p 2 2, mx1 (p 0 0 + l), mx1 (p 1 0 + l), mx1 (p 1 1 + l), mx1 (p 2 0 + l), mx1 (p 2 1 + l), mx1 (p 2 2 + l), Rq p l 0 0, Rq p l 1 0, Rq p l 1 1, Rq p l 2 0, Rq p l 2 1, Rq p l 2 2, Rq p l 1 1 * Bv (Rq p l) 3 3 2 2, Rq p l 0 0 * Bv (Rq p l) 3 3 1 1, y 0, y 1, y 2, y 3]
abbrev val : Val := ⟨nth (lst p y l), fun _ => .nilFunc⟩
variable {p y l}
theorem mb (hp : ∀ r k, r < 3 → k ≤ r → 0 ≤ p r k ∧ p r k ≤ 10) (hl : -5 ≤ l ∧ l ≤ 5) (r k : Nat) (h1 : r < 3) (h2 : k ≤ r) : 0 ≤ mx1 (p r k + l) ∧ mx1 (p r k + l) ≤ 15 := mx1_b (by have := hp r k h1 h2; omega)
variable (hp : ∀ r k, r < 3 → k ≤ r → 0 ≤ p r k ∧ p r k ≤ 10) (hl : -5 ≤ l ∧ l ≤ 5) (hy : ∀ i, i < 4 → 0 ≤ y i ∧ y i ≤ 500)
include hp hl hy
theorem all : AllB BB (lst p y l) := ⟨hl, hp 0 0 (by decide) (by decide), hp 1 0 (by decide) (by decide), hp 1 1 (by decide) (by decide), hp 2 0 (by decide) (by decide), hp 2 1 (by decide) (by decide), hp 2 2 (by decide) (by decide), mb hp hl 0 0 (by decide) (by decide), mb hp hl 1 0 (by decide) (by decide), mb hp hl 1 1 (by decide) (by decide), mb hp hl 2 0 (by decide) (by decide), mb hp hl 2 1 (by decide) (by decide), mb hp hl 2 2 (by decide) (by decide), Rq_b p l 0 0, Rq_b p l 1 0, Rq_b p l 1 1, Rq_b p l 2 0, Rq_b p l 2 1, Rq_b p l 2 2, Y_b p l 3 3 1 1 (by decide), Y_b p l 3 3 0 0 (by decide), hy 0 (by decide), hy 1 (by decide), hy 2 (by decide), hy 3 (by decide), trivial⟩
set_option maxHeartbeats 4000000 in
set_option maxRecDepth 100000 in
theorem orcOK : @OrcOK (val p y l) (mapE BB en (mapC BB [])) := by
  letI := val p y l
  exact orc_of (all hp hl hy) (fun _ _ => rfl) (by kernel_rfl) rfl ⟨rfl, rfl, rfl, rfl, rfl, rfl, rfl, rfl, rfl, rfl, ⟨by show (Rq p l 1 1) * (Rq p l 2 2) = Rq p l 1 1 * Bv (Rq p l) 3 3 2 2; simp [Bv, Bd], in64 (Y_b p l 3 3 1 1 (by decide)) (by decide)⟩, rfl, rfl, ⟨by show (Rq p l 0 0) * (Rq p l 1 1 * Bv (Rq p l) 3 3 2 2) = Rq p l 0 0 * Bv (Rq p l) 3 3 1 1; simp [Bv, Bd], in64 (Y_b p l 3 3 0 0 (by decide)) (by decide)⟩, trivial⟩ trivial
omit hp hl hy in
theorem vs : @ValR (val p y l) (fun r k => Bv (Rq p l) 3 3 r k) 0 fs := ⟨rfl, ⟨by show Rq p l 0 0 * Bv (Rq p l) 3 3 1 1 = Bv (Rq p l) 3 3 0 0; simp [Bv, Bd], trivial⟩, rfl, ⟨by show 0 = Bv (Rq p l) 3 3 1 0; simp [Bv, Bd], by show Rq p l 1 1 * Bv (Rq p l) 3 3 2 2 = Bv (Rq p l) 3 3 1 1; simp [Bv, Bd], trivial⟩, rfl, ⟨by show 0 = Bv (Rq p l) 3 3 2 0; simp [Bv, Bd], by show 0 = Bv (Rq p l) 3 3 2 1; simp [Bv, Bd], by show Rq p l 2 2 = Bv (Rq p l) 3 3 2 2; simp [Bv, Bd], trivial⟩, trivial⟩
theorem fin {W : World} {A A' : Addr} {As : Nat → Addr} {c c' : Nat} {cs : Nat → Nat} (hb : BrdN W 3 A A' As c c' cs p y) :
    Calls Tryz.prog 19 #[.agg #[.slice (some A) 3 c, .slice (some A') 4 c'], .int .i64 l, .int .i64 3] W fun e w' => ∃ A2, e = .returned (.tuple #[.slice A2 3 3, .int .i64 0]) ∧ bRows w' A2 3 (fun r k => Bv (Rq p l) 3 3 r k) ∧ Below W.heap.size W w' := by
  letI : Val := val p y l
  letI : Bet := bet0
  have hA := all hp hl hy
  have g0 : VRs phi0 r0 ((List.range 1).map fun k => Value.int .i64 (p 0 k)) := vrs_sy (ns := [p 0 0]) hA (fun _ _ => rfl) (by kernel_rfl) ⟨rfl, trivial⟩
  have g1 : VRs phi0 r1 ((List.range 2).map fun k => Value.int .i64 (p 1 k)) := vrs_sy (ns := [p 1 0, p 1 1]) hA (fun _ _ => rfl) (by kernel_rfl) ⟨rfl, rfl, trivial⟩
  have g2 : VRs phi0 r2 ((List.range 3).map fun k => Value.int .i64 (p 2 k)) := vrs_sy (ns := [p 2 0, p 2 1, p 2 2]) hA (fun _ _ => rfl) (by kernel_rfl) ⟨rfl, rfl, rfl, trivial⟩
  have gy : VRs phi0 py ((List.range 4).map fun i => Value.int .i64 (y i)) := vrs_sy (ns := [y 0, y 1, y 2, y 3]) hA (fun _ _ => rfl) (by kernel_rfl) ⟨rfl, rfl, rfl, rfl, trivial⟩
  obtain ⟨hR, hz, hg⟩ := hb.r (rs := [r0, r1, r2]) (py := py) mk rfl (fun r xs h => by
    match r, h with
    | 0, h => cases h; exact g0
    | 1, h => cases h; exact g1
    | 2, h => cases h; exact g2
    | r + 3, h => simp at h) gy
  exact CallsIn.calls (back_rows (fss := fs) (B := BB) (b := fun r k => Bv (Rq p l) 3 3 r k) (orcOK hp hl hy) wr rfl (by kernel_rfl) vs hR hz (.cons _ _ _ _ hg (.cons _ _ _ _ (.lin _ _ _ _ (by
    rw [dn_S BB _ 0 (by kernel_rfl)]
    show l = 0 + (1 * l + 0)
    omega) (dn_B BB _ _ 0 hA fun j _ => by rw [Nat.zero_add]; rfl)) (.cons _ _ _ _ (.int _ _) .nil))) 0) fun k => room_wide k
end
end B3_3
end Go.Proofs.YtibmpjhffeinoaaGreat.Kx
