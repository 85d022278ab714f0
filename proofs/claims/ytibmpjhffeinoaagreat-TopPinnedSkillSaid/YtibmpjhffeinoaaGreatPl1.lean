/-
  pins.Back and pins.Ways of a board of so many rows: the runs.
-/
import Derived.Test.YtibmpjhffeinoaaGreatPk
import Derived.Test.YtibmpjhffeinoaaGreatPs0
import Derived.Test.YtibmpjhffeinoaaGreatKq
namespace Go.Proofs.YtibmpjhffeinoaaGreat.Kx
open Go Go.RowKit

theorem X_b (p : Nat → Nat → Int) (l : Int) (n s r k : Nat) (h : r < n) : 0 ≤ (10 - Rq p l r k) * Bv (Rq p l) n s (r + 1) k ∧ (10 - Rq p l r k) * Bv (Rq p l) n s (r + 1) k ≤ (10 : Int) ^ (n - r) := by
  have h1 := Rq_b p l r k
  have h2 := Bv_0 (rows := n) (s := s) (Rq_b p l) (r + 1) k
  have h3 := Bv_le (rows := n) (s := s) (Rq_b p l) (r + 1) k
  rw [show n - r = (n - (r + 1)) + 1 from by omega, Int.pow_succ, Int.mul_comm _ 10]
  exact ⟨Int.mul_nonneg (by omega) h2, Int.mul_le_mul (by omega) h3 h2 (by omega)⟩
theorem Y_b (p : Nat → Nat → Int) (l : Int) (n s r k : Nat) (h : r < n) : 0 ≤ Rq p l r k * Bv (Rq p l) n s (r + 1) (k + 1) ∧ Rq p l r k * Bv (Rq p l) n s (r + 1) (k + 1) ≤ (10 : Int) ^ (n - r) := by
  have h1 := Rq_b p l r k
  have h2 := Bv_0 (rows := n) (s := s) (Rq_b p l) (r + 1) (k + 1)
  have h3 := Bv_le (rows := n) (s := s) (Rq_b p l) (r + 1) (k + 1)
  rw [show n - r = (n - (r + 1)) + 1 from by omega, Int.pow_succ, Int.mul_comm _ 10]
  exact ⟨Int.mul_nonneg h1.1 h2, Int.mul_le_mul h1.2 h3 h2 (by omega)⟩
theorem B_b (p : Nat → Nat → Int) (l : Int) (n s r k : Nat) : 0 ≤ Bv (Rq p l) n s r k ∧ Bv (Rq p l) n s r k ≤ (10 : Int) ^ (n - r) := ⟨Bv_0 (Rq_b p l) r k, Bv_le (Rq_b p l) r k⟩
namespace S1
section
variable {p : Nat → Nat → Int} {y : Nat → Int} {l : Int}
noncomputable def fs : List Fo := [.s 4, .s 5]
theorem mk2 : mkH (.froz (slices 1) :: (([r0] : List (List AV)).map AO.froz ++ [.froz py])) noH = some hb := by kernel_rfl
theorem ck : isVal (run (exeO [] [] []) 100000 (.call (.func 17) [.agg [.sl (some (0, 0)) 1 (.u 1), .sl (some (2, 0)) 2 (.u 1)]] hb)) isZ = true := by decide +kernel
variable (hp : ∀ r k, r < 1 → k ≤ r → 0 ≤ p r k ∧ p r k ≤ 10) (hl : -5 ≤ l ∧ l ≤ 5) (hy : ∀ i, i < 2 → 0 ≤ y i ∧ y i ≤ 500)
include hp hl hy
theorem fin {W : World} {A A' : Addr} {As : Nat → Addr} {c c' : Nat} {cs : Nat → Nat} (hb : BrdN W 1 A A' As c c' cs p y) :
    Calls Tryz.prog 18 #[.agg #[.slice (some A) 1 c, .slice (some A') 2 c'], .int .i64 l] W fun e w' => ∃ A2, e = .returned (.tuple #[.slice A2 2 2, .int .i64 0]) ∧ bRow w' A2 2 (Nf p l 1) ∧ Below W.heap.size W w' := by
  letI : Val := val p y l
  letI : Bet := bet0
  have hA := all hp hl hy
  have g0 : VRs phi0 r0 ((List.range 1).map fun k => Value.int .i64 (p 0 k)) := vrs_sy (ns := [p 0 0]) hA (fun _ _ => rfl) (by kernel_rfl) ⟨rfl, trivial⟩
  have gy : VRs phi0 py ((List.range 2).map fun i => Value.int .i64 (y i)) := vrs_sy (ns := [y 0, y 1]) hA (fun _ _ => rfl) (by kernel_rfl) ⟨rfl, rfl, trivial⟩
  obtain ⟨hR, hz, hg⟩ := hb.r (rs := [r0]) (py := py) mk2 rfl (fun r xs h => by
    match r, h with
    | 0, h => cases h; exact g0
    | r + 1, h => simp at h) gy
  exact CallsIn.calls (ways_row (fs := fs) (B := BB) (b := Nf p l 1) (orcOK hp hl hy) wr rfl (by kernel_rfl) ⟨rfl, rfl, trivial⟩ hR hz (.cons _ _ _ _ hg (.cons _ _ _ _ (.lin _ _ _ _ (by
    rw [dn_S BB _ 0 (by kernel_rfl)]
    show l = 0 + (1 * l + 0)
    omega) (dn_B BB _ _ 0 hA fun j _ => by rw [Nat.zero_add]; rfl)) .nil)) 0) fun k => room_wide k
set_option maxRecDepth 100000 in
theorem chk {W : World} {A A' : Addr} {As : Nat → Addr} {c c' : Nat} {cs : Nat → Nat} (hb : BrdN W 1 A A' As c c' cs p y) :
    Calls Tryz.prog 17 #[.agg #[.slice (some A) 1 c, .slice (some A') 2 c']] W fun e w' => e = .returned (.int .i64 0) ∧ Below W.heap.size W w' := by
  letI : Val := val p y l
  letI : Bet := bet0
  have hA := all hp hl hy
  have g0 : VRs phi0 r0 ((List.range 1).map fun k => Value.int .i64 (p 0 k)) := vrs_sy (ns := [p 0 0]) hA (fun _ _ => rfl) (by kernel_rfl) ⟨rfl, trivial⟩
  have gy : VRs phi0 py ((List.range 2).map fun i => Value.int .i64 (y i)) := vrs_sy (ns := [y 0, y 1]) hA (fun _ _ => rfl) (by kernel_rfl) ⟨rfl, rfl, trivial⟩
  obtain ⟨hR, hz, hg⟩ := hb.r (rs := [r0]) (py := py) mk2 rfl (fun r xs h => by
    match r, h with
    | 0, h => cases h; exact g0
    | r + 1, h => simp at h) gy
  exact CallsIn.calls (zero_call exeV_nil ck hR hz (.cons _ _ _ _ hg .nil) 0) fun k => room_wide k
end
end S1
namespace B1_0
noncomputable section
def BB : List (Int × Int) := [(-5, 5), (0, 10), (0, 15), (0, 10), (0, 500), (0, 500)]
def sls : List AV := [.sl (some (1, 0)) 1 (.u 1)]
def r0 : List AV := sy BB [1]
def py : List AV := sy BB [4, 5]
def hb : AH := ⟨3, (.n (.n (.n (.n (.n (.n (.n (.n (.n (.n (.n (.n (.n (.n (.n (.l (.froz sls)) .e) .e) .e) .e) .e) .e) .e) .e) .e) .e) .e) .e) .e) (.n (.n (.n (.n (.n (.n (.n (.n (.n (.n (.n (.n (.n (.l (.froz py)) .e) .e) .e) .e) .e) .e) .e) .e) .e) .e) .e) .e) .e)) (.n (.n (.n (.n (.n (.n (.n (.n (.n (.n (.n (.n (.n (.n (.l (.froz r0)) .e) .e) .e) .e) .e) .e) .e) .e) .e) .e) .e) .e) .e) .e))⟩
def ll : List (List AV) := [sls, r0, py]
def en : List En := [(101, .n 0, .a 0 1, .s 2),
  (100, .n 10, .s 2, .s 3)]
def args : List AV := [.agg [.sl (some (0, 0)) 1 (.u 1), .sl (some (2, 0)) 2 (.u 1)], fo BB 0 [(0, 1)], .int .i64 0]
def fs : List (List Fo) := [[.m 10 3]]
theorem mk : mkH (.froz (slices 1) :: (([r0] : List (List AV)).map AO.froz ++ [.froz py])) noH = some hb := by kernel_rfl
theorem wr : backB (run (exeO (mapE BB en (mapC BB [])) [] []) 100000 (.call (.func 19) args hb)) 1 (avF BB fs) = true := by decide +kernel
end
section
variable (p : Nat → Nat → Int) (y : Nat → Int) (l : Int)
def lst : List Int := [l, p 0 0, mx1 (p 0 0 + l), Rq p l 0 0, y 0, y 1]
abbrev val : Val := ⟨nth (lst p y l), fun _ => .nilFunc⟩
variable {p y l}
theorem mb (hp : ∀ r k, r < 1 → k ≤ r → 0 ≤ p r k ∧ p r k ≤ 10) (hl : -5 ≤ l ∧ l ≤ 5) (r k : Nat) (h1 : r < 1) (h2 : k ≤ r) : 0 ≤ mx1 (p r k + l) ∧ mx1 (p r k + l) ≤ 15 := mx1_b (by have := hp r k h1 h2; omega)
variable (hp : ∀ r k, r < 1 → k ≤ r → 0 ≤ p r k ∧ p r k ≤ 10) (hl : -5 ≤ l ∧ l ≤ 5) (hy : ∀ i, i < 2 → 0 ≤ y i ∧ y i ≤ 500)
include hp hl hy
theorem all : AllB BB (lst p y l) := ⟨hl, hp 0 0 (by decide) (by decide), mb hp hl 0 0 (by decide) (by decide), Rq_b p l 0 0, hy 0 (by decide), hy 1 (by decide), trivial⟩
set_option maxHeartbeats 4000000 in
set_option maxRecDepth 100000 in
theorem orcOK : @OrcOK (val p y l) (mapE BB en (mapC BB [])) := by
  letI := val p y l
  exact orc_of (all hp hl hy) (fun _ _ => rfl) (by kernel_rfl) rfl ⟨rfl, rfl, trivial⟩ trivial
omit hp hl hy in
theorem vs : @ValR (val p y l) (fun r k => Bv (Rq p l) 1 0 r k) 0 fs := ⟨rfl, ⟨by show 10 - Rq p l 0 0 = Bv (Rq p l) 1 0 0 0; simp [Bv, Bd], trivial⟩, trivial⟩
theorem fin {W : World} {A A' : Addr} {As : Nat → Addr} {c c' : Nat} {cs : Nat → Nat} (hb : BrdN W 1 A A' As c c' cs p y) :
    Calls Tryz.prog 19 #[.agg #[.slice (some A) 1 c, .slice (some A') 2 c'], .int .i64 l, .int .i64 0] W fun e w' => ∃ A2, e = .returned (.tuple #[.slice A2 1 1, .int .i64 0]) ∧ bRows w' A2 1 (fun r k => Bv (Rq p l) 1 0 r k) ∧ Below W.heap.size W w' := by
  letI : Val := val p y l
  letI : Bet := bet0
  have hA := all hp hl hy
  have g0 : VRs phi0 r0 ((List.range 1).map fun k => Value.int .i64 (p 0 k)) := vrs_sy (ns := [p 0 0]) hA (fun _ _ => rfl) (by kernel_rfl) ⟨rfl, trivial⟩
  have gy : VRs phi0 py ((List.range 2).map fun i => Value.int .i64 (y i)) := vrs_sy (ns := [y 0, y 1]) hA (fun _ _ => rfl) (by kernel_rfl) ⟨rfl, rfl, trivial⟩
  obtain ⟨hR, hz, hg⟩ := hb.r (rs := [r0]) (py := py) mk rfl (fun r xs h => by
    match r, h with
    | 0, h => cases h; exact g0
    | r + 1, h => simp at h) gy
  exact CallsIn.calls (back_rows (fss := fs) (B := BB) (b := fun r k => Bv (Rq p l) 1 0 r k) (orcOK hp hl hy) wr rfl (by kernel_rfl) vs hR hz (.cons _ _ _ _ hg (.cons _ _ _ _ (.lin _ _ _ _ (by
    rw [dn_S BB _ 0 (by kernel_rfl)]
    show l = 0 + (1 * l + 0)
    omega) (dn_B BB _ _ 0 hA fun j _ => by rw [Nat.zero_add]; rfl)) (.cons _ _ _ _ (.int _ _) .nil))) 0) fun k => room_wide k
end
end B1_0
namespace B1_1
noncomputable section
def BB : List (Int × Int) := [(-5, 5), (0, 10), (0, 15), (0, 10), (0, 500), (0, 500)]
def sls : List AV := [.sl (some (1, 0)) 1 (.u 1)]
def r0 : List AV := sy BB [1]
def py : List AV := sy BB [4, 5]
def hb : AH := ⟨3, (.n (.n (.n (.n (.n (.n (.n (.n (.n (.n (.n (.n (.n (.n (.n (.l (.froz sls)) .e) .e) .e) .e) .e) .e) .e) .e) .e) .e) .e) .e) .e) (.n (.n (.n (.n (.n (.n (.n (.n (.n (.n (.n (.n (.n (.l (.froz py)) .e) .e) .e) .e) .e) .e) .e) .e) .e) .e) .e) .e) .e)) (.n (.n (.n (.n (.n (.n (.n (.n (.n (.n (.n (.n (.n (.n (.l (.froz r0)) .e) .e) .e) .e) .e) .e) .e) .e) .e) .e) .e) .e) .e) .e))⟩
def ll : List (List AV) := [sls, r0, py]
def en : List En := [(101, .n 0, .a 0 1, .s 2),
  (100, .n 10, .s 2, .s 3)]
def args : List AV := [.agg [.sl (some (0, 0)) 1 (.u 1), .sl (some (2, 0)) 2 (.u 1)], fo BB 0 [(0, 1)], .int .i64 1]
def fs : List (List Fo) := [[.s 3]]
theorem mk : mkH (.froz (slices 1) :: (([r0] : List (List AV)).map AO.froz ++ [.froz py])) noH = some hb := by kernel_rfl
theorem wr : backB (run (exeO (mapE BB en (mapC BB [])) [] []) 100000 (.call (.func 19) args hb)) 1 (avF BB fs) = true := by decide +kernel
end
section
variable (p : Nat → Nat → Int) (y : Nat → Int) (l : Int)
def lst : List Int := [l, p 0 0, mx1 (p 0 0 + l), Rq p l 0 0, y 0, y 1]
abbrev val : Val := ⟨nth (lst p y l), fun _ => .nilFunc⟩
variable {p y l}
theorem mb (hp : ∀ r k, r < 1 → k ≤ r → 0 ≤ p r k ∧ p r k ≤ 10) (hl : -5 ≤ l ∧ l ≤ 5) (r k : Nat) (h1 : r < 1) (h2 : k ≤ r) : 0 ≤ mx1 (p r k + l) ∧ mx1 (p r k + l) ≤ 15 := mx1_b (by have := hp r k h1 h2; omega)
variable (hp : ∀ r k, r < 1 → k ≤ r → 0 ≤ p r k ∧ p r k ≤ 10) (hl : -5 ≤ l ∧ l ≤ 5) (hy : ∀ i, i < 2 → 0 ≤ y i ∧ y i ≤ 500)
include hp hl hy
theorem all : AllB BB (lst p y l) := ⟨hl, hp 0 0 (by decide) (by decide), mb hp hl 0 0 (by decide) (by decide), Rq_b p l 0 0, hy 0 (by decide), hy 1 (by decide), trivial⟩
set_option maxHeartbeats 4000000 in
set_option maxRecDepth 100000 in
theorem orcOK : @OrcOK (val p y l) (mapE BB en (mapC BB [])) := by
  letI := val p y l
  exact orc_of (all hp hl hy) (fun _ _ => rfl) (by kernel_rfl) rfl ⟨rfl, rfl, trivial⟩ trivial
omit hp hl hy in
theorem vs : @ValR (val p y l) (fun r k => Bv (Rq p l) 1 1 r k) 0 fs := ⟨rfl, ⟨by show Rq p l 0 0 = Bv (Rq p l) 1 1 0 0; simp [Bv, Bd], trivial⟩, trivial⟩
theorem fin {W : World} {A A' : Addr} {As : Nat → Addr} {c c' : Nat} {cs : Nat → Nat} (hb : BrdN W 1 A A' As c c' cs p y) :
    Calls Tryz.prog 19 #[.agg #[.slice (some A) 1 c, .slice (some A') 2 c'], .int .i64 l, .int .i64 1] W fun e w' => ∃ A2, e = .returned (.tuple #[.slice A2 1 1, .int .i64 0]) ∧ bRows w' A2 1 (fun r k => Bv (Rq p l) 1 1 r k) ∧ Below W.heap.size W w' := by
  letI : Val := val p y l
  letI : Bet := bet0
  have hA := all hp hl hy
  have g0 : VRs phi0 r0 ((List.range 1).map fun k => Value.int .i64 (p 0 k)) := vrs_sy (ns := [p 0 0]) hA (fun _ _ => rfl) (by kernel_rfl) ⟨rfl, trivial⟩
  have gy : VRs phi0 py ((List.range 2).map fun i => Value.int .i64 (y i)) := vrs_sy (ns := [y 0, y 1]) hA (fun _ _ => rfl) (by kernel_rfl) ⟨rfl, rfl, trivial⟩
  obtain ⟨hR, hz, hg⟩ := hb.r (rs := [r0]) (py := py) mk rfl (fun r xs h => by
    match r, h with
    | 0, h => cases h; exact g0
    | r + 1, h => simp at h) gy
  exact CallsIn.calls (back_rows (fss := fs) (B := BB) (b := fun r k => Bv (Rq p l) 1 1 r k) (orcOK hp hl hy) wr rfl (by kernel_rfl) vs hR hz (.cons _ _ _ _ hg (.cons _ _ _ _ (.lin _ _ _ _ (by
    rw [dn_S BB _ 0 (by kernel_rfl)]
    show l = 0 + (1 * l + 0)
    omega) (dn_B BB _ _ 0 hA fun j _ => by rw [Nat.zero_add]; rfl)) (.cons _ _ _ _ (.int _ _) .nil))) 0) fun k => room_wide k
end
end B1_1
end Go.Proofs.YtibmpjhffeinoaaGreat.Kx
