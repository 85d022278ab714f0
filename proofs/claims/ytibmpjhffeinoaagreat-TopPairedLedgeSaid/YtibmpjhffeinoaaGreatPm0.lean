/-
  TopPairedLedge for a valid board of so many rows: the runs.
-/
import Derived.Test.YtibmpjhffeinoaaGreatPs0
import Derived.Test.YtibmpjhffeinoaaGreatPe0
namespace Go.Proofs.YtibmpjhffeinoaaGreat.Kx
open Go Go.RowKit

namespace M1
noncomputable section
def BB : List (Int × Int) := [(0, 10), (0, 10), (0, 10), (0, 10), (0, 100), (0, 100), (0, 100), (0, 100), (0, 100), (0, 100), (0, 10), (0, 10), (0, 23), (0, 23), (0, 10), (0, 10), (0, 10), (0, 500), (0, 500)]
def sls : List AV := [.sl (some (1, 0)) 1 (.u 1)]
def r0 : List AV := sy BB [16]
def py : List AV := sy BB [17, 18]
def hb : AH := ⟨3, (.n (.n (.n (.n (.n (.n (.n (.n (.n (.n (.n (.n (.n (.n (.n (.l (.froz sls)) .e) .e) .e) .e) .e) .e) .e) .e) .e) .e) .e) .e) .e) (.n (.n (.n (.n (.n (.n (.n (.n (.n (.n (.n (.n (.n (.l (.froz py)) .e) .e) .e) .e) .e) .e) .e) .e) .e) .e) .e) .e) .e)) (.n (.n (.n (.n (.n (.n (.n (.n (.n (.n (.n (.n (.n (.n (.l (.froz r0)) .e) .e) .e) .e) .e) .e) .e) .e) .e) .e) .e) .e) .e) .e))⟩
def ll : List (List AV) := [sls, r0, py]
def en : List En := [(100, .s 14, .s 15, .s 10),
  (101, .s 14, .s 15, .s 11),
  (2, .s 0, .s 0, .s 4),
  (2, .s 0, .s 1, .s 5),
  (2, .s 1, .s 0, .s 5),
  (2, .s 1, .s 1, .s 6),
  (2, .s 2, .s 2, .s 7),
  (2, .s 2, .s 3, .s 8),
  (2, .s 3, .s 2, .s 8),
  (2, .s 3, .s 3, .s 9)]
def ec : List Ec := [(4, .g 0 [(4, 1), (0, 2)], .m 100 6, false), (4, .g 0 [(7, 1), (0, 2)], .m 100 9, false), (6, .g 0 [(7, 1), (0, 2)], .g 0 [(4, 1), (0, 2)], true)]
def args : List AV := [.agg [.sl (some (0, 0)) 1 (.u 1), .sl (some (2, 0)) 2 (.u 1)], .lin .u8 0 (dn BB [(12, 11), (1, 1)]), .lin .u8 0 (dn BB [(13, 11), (1, 1)])]
theorem mk : mkH (.froz (slices 1) :: (([r0] : List (List AV)).map AO.froz ++ [.froz py])) noH = some hb := by kernel_rfl
def wlo : WP := ⟨18, [.agg [.sl (some (0, 0)) 1 (.u 1), .sl (some (2, 0)) 2 (.u 1)], fo BB (-5) [(10, 1)]], hb, 2, sy BB [0, 1]⟩
def whi : WP := ⟨18, [.agg [.sl (some (0, 0)) 1 (.u 1), .sl (some (2, 0)) 2 (.u 1)], fo BB (-5) [(11, 1)]], hb, 2, sy BB [2, 3]⟩
theorem rn : isVal (run (exeW (mapE BB en (mapC BB ec)) [21] E2.ms E2.ns [wlo, whi]) 200000 (.call (.func 5) args hb)) isTrue = true := by decide +kernel
end
theorem sq (w0 w1 : Int) (h : w0 + w1 = 10) : 0 + (1 * (w0 * w0) + (2 * (w0 * w1) + 0)) = 100 - w1 * w1 := by
  have e : (w0 + w1) * (w0 + w1) = 10 * 10 := by rw [h]
  simp only [Int.add_mul, Int.mul_add] at e
  have c0_1 : w1 * w0 = w0 * w1 := Int.mul_comm _ _
  omega
theorem sm (p : Nat → Nat → Int) (l : Int) : Nf p l 1 0 + Nf p l 1 1 = 10 := by
  have := sumN_all p l 1
  have e : (10 : Int) ^ 1 = 10 := by decide
  rw [e] at this
  simp only [sumN] at this
  omega
section
variable (p : Nat → Nat → Int) (y : Nat → Int) (x1 x2 : Int)
abbrev a (i : Nat) : Int := Nf p (lvLo x1 x2 - 5) 1 i
abbrev b (i : Nat) : Int := Nf p (lvHi x1 x2 - 5) 1 i
def lst : List Int := [a p x1 x2 0, a p x1 x2 1, b p x1 x2 0, b p x1 x2 1, a p x1 x2 0 * a p x1 x2 0, a p x1 x2 0 * a p x1 x2 1, a p x1 x2 1 * a p x1 x2 1, b p x1 x2 0 * b p x1 x2 0, b p x1 x2 0 * b p x1 x2 1, b p x1 x2 1 * b p x1 x2 1, lvLo x1 x2, lvHi x1 x2, x1 / 11, x2 / 11, x1 % 11, x2 % 11, p 0 0, y 0, y 1]
abbrev val : Val := ⟨nth (lst p y x1 x2), fun _ => .nilFunc⟩
theorem ha (i : Nat) : 0 ≤ a p x1 x2 i ∧ a p x1 x2 i ≤ 10 := Nf_b p (lvLo x1 x2 - 5) 1 i
theorem hb' (i : Nat) : 0 ≤ b p x1 x2 i ∧ b p x1 x2 i ≤ 10 := Nf_b p (lvHi x1 x2 - 5) 1 i
variable {p y x1 x2} (hp : ∀ r k, r < 1 → k ≤ r → 0 ≤ p r k ∧ p r k ≤ 10) (hy : ∀ i, i < 2 → 0 ≤ y i ∧ y i ≤ 500) (h1 : 0 ≤ x1 ∧ x1 ≤ 255) (h2 : 0 ≤ x2 ∧ x2 ≤ 255)
theorem gp (i j : Nat) : In64 (a p x1 x2 i * a p x1 x2 j) := in64 (PB (ha p x1 x2 i) (ha p x1 x2 j)) (by decide)
theorem gq (i j : Nat) : In64 (b p x1 x2 i * b p x1 x2 j) := in64 (PB (hb' p x1 x2 i) (hb' p x1 x2 j)) (by decide)
include hp hy h1 h2
theorem all : AllB BB (lst p y x1 x2) := ⟨ha p x1 x2 0, ha p x1 x2 1, hb' p x1 x2 0, hb' p x1 x2 1, PB (ha p x1 x2 0) (ha p x1 x2 0), PB (ha p x1 x2 0) (ha p x1 x2 1), PB (ha p x1 x2 1) (ha p x1 x2 1), PB (hb' p x1 x2 0) (hb' p x1 x2 0), PB (hb' p x1 x2 0) (hb' p x1 x2 1), PB (hb' p x1 x2 1) (hb' p x1 x2 1), lvLo_b x1 x2, lvHi_b x1 x2, ⟨by show _ ≤ _; omega, by show _ ≤ _; omega⟩, ⟨by show _ ≤ _; omega, by show _ ≤ _; omega⟩, ⟨by show _ ≤ _; omega, by show _ ≤ _; omega⟩, ⟨by show _ ≤ _; omega, by show _ ≤ _; omega⟩, hp 0 0 (by decide) (by decide), hy 0 (by decide), hy 1 (by decide), trivial⟩
set_option maxHeartbeats 4000000 in
set_option maxRecDepth 100000 in
theorem orcOK : @OrcOK (val p y x1 x2) (mapE BB en (mapC BB ec)) := by
  letI := val p y x1 x2
  exact orc_of (all hp hy h1 h2) (fun _ _ => rfl) (by kernel_rfl) (by kernel_rfl) ⟨rfl, rfl, ⟨rfl, gp 0 0⟩, ⟨rfl, gp 0 1⟩, ⟨Int.mul_comm _ _, gp 0 1⟩, ⟨rfl, gp 1 1⟩, ⟨rfl, gq 0 0⟩, ⟨rfl, gq 0 1⟩, ⟨Int.mul_comm _ _, gq 0 1⟩, ⟨rfl, gq 1 1⟩, trivial⟩ ⟨(sq _ _ (sm p (lvLo x1 x2 - 5))), (sq _ _ (sm p (lvHi x1 x2 - 5))), sqle2 (sq _ _ (sm p (lvHi x1 x2 - 5))) (sq _ _ (sm p (lvLo x1 x2 - 5))) (ha p x1 x2 1).1 (Nf_mono p (lohi x1 x2) 1), trivial⟩
set_option maxHeartbeats 2000000 in
theorem ok_wlo [Bet] : @WOK (val p y x1 x2) _ Tryz.prog wlo :=
  wok_of (e := wlo) (V1 := val p y x1 x2) (V2 := S1.val p y (lvLo x1 x2 - 5)) (l1 := ll) (l2 := S1.ll) (args2 := S1.args) (cs2 := S1.cs) (S1.orcOK hp (lo5 x1 x2) hy) S1.wr rfl (by kernel_rfl) S1.mk
    ⟨⟨Imp.sl _ _ _, trivial⟩,
    imps_sy (S1.all hp (lo5 x1 x2) hy) (fun _ _ => rfl) (by kernel_rfl) (by kernel_rfl) ⟨rfl, trivial⟩,
    imps_sy (S1.all hp (lo5 x1 x2) hy) (fun _ _ => rfl) (by kernel_rfl) (by kernel_rfl) ⟨rfl, rfl, trivial⟩,
    trivial⟩
    ⟨Imp.agg ⟨Imp.sl _ _ _, Imp.sl _ _ _, trivial⟩, Imp.num rfl rfl (@Fo.bnd (S1.val p y (lvLo x1 x2 - 5)) _ _ (S1.all hp (lo5 x1 x2) hy) (fun _ _ => rfl) (.s 0)) (by
      rw [@fo_num (val p y x1 x2) _ _ _ (by kernel_rfl), @fo_num (S1.val p y (lvLo x1 x2 - 5)) _ _ _ (by kernel_rfl)]
      show -5 + (1 * lvLo x1 x2 + 0) = 0 + (1 * (lvLo x1 x2 - 5) + 0)
      omega), trivial⟩
    (imps_sy (B1 := S1.BB) (B2 := BB) (is := [4, 5]) (js := [0, 1]) (all hp hy h1 h2) (fun _ _ => rfl) (by kernel_rfl) (by kernel_rfl) ⟨rfl, rfl, trivial⟩) rfl (by kernel_rfl) (by kernel_rfl) (by kernel_rfl)
set_option maxHeartbeats 2000000 in
theorem ok_whi [Bet] : @WOK (val p y x1 x2) _ Tryz.prog whi :=
  wok_of (e := whi) (V1 := val p y x1 x2) (V2 := S1.val p y (lvHi x1 x2 - 5)) (l1 := ll) (l2 := S1.ll) (args2 := S1.args) (cs2 := S1.cs) (S1.orcOK hp (hi5 x1 x2) hy) S1.wr rfl (by kernel_rfl) S1.mk
    ⟨⟨Imp.sl _ _ _, trivial⟩,
    imps_sy (S1.all hp (hi5 x1 x2) hy) (fun _ _ => rfl) (by kernel_rfl) (by kernel_rfl) ⟨rfl, trivial⟩,
    imps_sy (S1.all hp (hi5 x1 x2) hy) (fun _ _ => rfl) (by kernel_rfl) (by kernel_rfl) ⟨rfl, rfl, trivial⟩,
    trivial⟩
    ⟨Imp.agg ⟨Imp.sl _ _ _, Imp.sl _ _ _, trivial⟩, Imp.num rfl rfl (@Fo.bnd (S1.val p y (lvHi x1 x2 - 5)) _ _ (S1.all hp (hi5 x1 x2) hy) (fun _ _ => rfl) (.s 0)) (by
      rw [@fo_num (val p y x1 x2) _ _ _ (by kernel_rfl), @fo_num (S1.val p y (lvHi x1 x2 - 5)) _ _ _ (by kernel_rfl)]
      show -5 + (1 * lvHi x1 x2 + 0) = 0 + (1 * (lvHi x1 x2 - 5) + 0)
      omega), trivial⟩
    (imps_sy (B1 := S1.BB) (B2 := BB) (is := [4, 5]) (js := [2, 3]) (all hp hy h1 h2) (fun _ _ => rfl) (by kernel_rfl) (by kernel_rfl) ⟨rfl, rfl, trivial⟩) rfl (by kernel_rfl) (by kernel_rfl) (by kernel_rfl)
theorem fin (hl : ∀ f ∈ [21], YesFn Tryz.prog f) {W : World} {A A' : Addr} {As : Nat → Addr} {c c' : Nat} {cs : Nat → Nat} (hb : BrdN W 1 A A' As c c' cs p y) :
    CallsIn (Fro none) 0 Tryz.prog 5 #[.agg #[.slice (some A) 1 c, .slice (some A') 2 c'], .int .u8 x1, .int .u8 x2] W (Yes W) := by
  letI : Val := val p y x1 x2
  letI : Bet := bet0
  have hA := all hp hy h1 h2
  have g0 : VRs phi0 r0 ((List.range 1).map fun k => Value.int .i64 (p 0 k)) := vrs_sy (ns := [p 0 0]) hA (fun _ _ => rfl) (by kernel_rfl) ⟨rfl, trivial⟩
  have gy : VRs phi0 py ((List.range 2).map fun i => Value.int .i64 (y i)) := vrs_sy (ns := [y 0, y 1]) hA (fun _ _ => rfl) (by kernel_rfl) ⟨rfl, rfl, trivial⟩
  obtain ⟨hR, hz, hg⟩ := hb.r (rs := [r0]) (py := py) mk rfl (fun r xs h => by
    match r, h with
    | 0, h => cases h; exact g0
    | r + 1, h => simp at h) gy
  exact callsIn_frzW (orcOK hp hy h1 h2) hl E2.hms E2.hns (fun e he => by
    simp only [List.mem_cons, List.not_mem_nil, or_false] at he
    rcases he with rfl | rfl
    · exact ok_wlo hp hy h1 h2
    · exact ok_whi hp hy h1 h2) hR hz rn (.cons _ _ _ _ hg (.cons _ _ _ _ (.lin _ _ _ _ (by
      rw [dn_S BB _ 0 (by kernel_rfl)]
      show x1 = 0 + (11 * (x1 / 11) + (1 * (x1 % 11) + 0))
      omega) (dn_B BB _ _ 0 hA fun j _ => by rw [Nat.zero_add]; rfl)) (.cons _ _ _ _ (.lin _ _ _ _ (by
      rw [dn_S BB _ 0 (by kernel_rfl)]
      show x2 = 0 + (11 * (x2 / 11) + (1 * (x2 % 11) + 0))
      omega) (dn_B BB _ _ 0 hA fun j _ => by rw [Nat.zero_add]; rfl)) .nil))) 0
end
end M1
namespace M2
noncomputable section
def BB : List (Int × Int) := [(0, 100), (0, 100), (0, 100), (0, 100), (0, 100), (0, 100), (0, 10000), (0, 10000), (0, 10000), (0, 10000), (0, 10000), (0, 10000), (0, 10000), (0, 10000), (0, 10000), (0, 10000), (0, 10000), (0, 10000), (0, 10), (0, 10), (0, 23), (0, 23), (0, 10), (0, 10), (0, 10), (0, 10), (0, 10), (0, 500), (0, 500), (0, 500)]
def sls : List AV := [.sl (some (1, 0)) 1 (.u 1), .sl (some (2, 0)) 2 (.u 1)]
def r0 : List AV := sy BB [24]
def r1 : List AV := sy BB [25, 26]
def py : List AV := sy BB [27, 28, 29]
def hb : AH := ⟨4, (.n (.n (.n (.n (.n (.n (.n (.n (.n (.n (.n (.n (.n (.n (.n (.l (.froz sls)) .e) .e) .e) .e) .e) .e) .e) .e) .e) .e) .e) .e) .e) (.n (.n (.n (.n (.n (.n (.n (.n (.n (.n (.n (.n (.n (.l (.froz r1)) .e) .e) .e) .e) .e) .e) .e) .e) .e) .e) .e) .e) .e)) (.n (.n (.n (.n (.n (.n (.n (.n (.n (.n (.n (.n (.n (.n (.l (.froz r0)) .e) .e) .e) .e) .e) .e) .e) .e) .e) .e) .e) .e) .e) (.n (.n (.n (.n (.n (.n (.n (.n (.n (.n (.n (.n (.n (.l (.froz py)) .e) .e) .e) .e) .e) .e) .e) .e) .e) .e) .e) .e) .e)))⟩
def ll : List (List AV) := [sls, r0, r1, py]
def en : List En := [(100, .s 22, .s 23, .s 18),
  (101, .s 22, .s 23, .s 19),
  (2, .s 0, .s 0, .s 6),
  (2, .s 0, .s 1, .s 7),
  (2, .s 0, .s 2, .s 8),
  (2, .s 1, .s 0, .s 7),
  (2, .s 1, .s 1, .s 9),
  (2, .s 1, .s 2, .s 10),
  (2, .s 2, .s 0, .s 8),
  (2, .s 2, .s 1, .s 10),
  (2, .s 2, .s 2, .s 11),
  (2, .s 3, .s 3, .s 12),
  (2, .s 3, .s 4, .s 13),
  (2, .s 3, .s 5, .s 14),
  (2, .s 4, .s 3, .s 13),
  (2, .s 4, .s 4, .s 15),
  (2, .s 4, .s 5, .s 16),
  (2, .s 5, .s 3, .s 14),
  (2, .s 5, .s 4, .s 16),
  (2, .s 5, .s 5, .s 17)]
def ec : List Ec := [(4, .g 0 [(6, 1), (0, 2), (0, 2), (0, 1), (0, 2)], .m 10000 11, false), (4, .g 0 [(12, 1), (0, 2), (0, 2), (0, 1), (0, 2)], .m 10000 17, false), (6, .g 0 [(12, 1), (0, 2), (0, 2), (0, 1), (0, 2)], .g 0 [(6, 1), (0, 2), (0, 2), (0, 1), (0, 2)], true)]
def args : List AV := [.agg [.sl (some (0, 0)) 2 (.u 1), .sl (some (3, 0)) 3 (.u 1)], .lin .u8 0 (dn BB [(20, 11), (1, 1)]), .lin .u8 0 (dn BB [(21, 11), (1, 1)])]
theorem mk : mkH (.froz (slices 2) :: (([r0, r1] : List (List AV)).map AO.froz ++ [.froz py])) noH = some hb := by kernel_rfl
def wlo : WP := ⟨18, [.agg [.sl (some (0, 0)) 2 (.u 1), .sl (some (3, 0)) 3 (.u 1)], fo BB (-5) [(18, 1)]], hb, 3, sy BB [0, 1, 2]⟩
def whi : WP := ⟨18, [.agg [.sl (some (0, 0)) 2 (.u 1), .sl (some (3, 0)) 3 (.u 1)], fo BB (-5) [(19, 1)]], hb, 3, sy BB [3, 4, 5]⟩
theorem rn : isVal (run (exeW (mapE BB en (mapC BB ec)) [21] E3.ms E3.ns [wlo, whi]) 200000 (.call (.func 5) args hb)) isTrue = true := by decide +kernel
end
theorem sq (w0 w1 w2 : Int) (h : w0 + w1 + w2 = 100) : 0 + (1 * (w0 * w0) + (2 * (w0 * w1) + (2 * (w0 * w2) + (1 * (w1 * w1) + (2 * (w1 * w2) + 0))))) = 10000 - w2 * w2 := by
  have e : (w0 + w1 + w2) * (w0 + w1 + w2) = 100 * 100 := by rw [h]
  simp only [Int.add_mul, Int.mul_add] at e
  have c0_1 : w1 * w0 = w0 * w1 := Int.mul_comm _ _
  have c0_2 : w2 * w0 = w0 * w2 := Int.mul_comm _ _
  have c1_2 : w2 * w1 = w1 * w2 := Int.mul_comm _ _
  omega
theorem sm (p : Nat → Nat → Int) (l : Int) : Nf p l 2 0 + Nf p l 2 1 + Nf p l 2 2 = 100 := by
  have := sumN_all p l 2
  have e : (10 : Int) ^ 2 = 100 := by decide
  rw [e] at this
  simp only [sumN] at this
  omega
section
variable (p : Nat → Nat → Int) (y : Nat → Int) (x1 x2 : Int)
abbrev a (i : Nat) : Int := Nf p (lvLo x1 x2 - 5) 2 i
abbrev b (i : Nat) : Int := Nf p (lvHi x1 x2 - 5) 2 i
def lst : List Int := [a p x1 x2 0, a p x1 x2 1, a p x1 x2 2, b p x1 x2 0, b p x1 x2 1, b p x1 x2 2, a p x1 x2 0 * a p x1 x2 0, a p x1 x2 0 * a p x1 x2 1, a p x1 x2 0 * a p x1 x2 2, a p x1 x2 1 * a p x1 x2 1, a p x1 x2 1 * a p x1 x2 2, a p x1 x2 2 * a p x1 x2 2, b p x1 x2 0 * b p x1 x2 0, b p x1 x2 0 * b p x1 x2 1, b p x1 x2 0 * b p x1 x2 2, b p x1 x2 1 * b p x1 x2 1, b p x1 x2 1 * b p x1 x2 2, b p x1 x2 2 * b p x1 x2 2, lvLo x1 x2, lvHi x1 x2, x1 / 11, x2 / 11, x1 % 11, x2 % 11, p 0 0, p 1 0, p 1 1, y 0, y 1, y 2]
abbrev val : Val := ⟨nth (lst p y x1 x2), fun _ => .nilFunc⟩
theorem ha (i : Nat) : 0 ≤ a p x1 x2 i ∧ a p x1 x2 i ≤ 100 := Nf_b p (lvLo x1 x2 - 5) 2 i
theorem hb' (i : Nat) : 0 ≤ b p x1 x2 i ∧ b p x1 x2 i ≤ 100 := Nf_b p (lvHi x1 x2 - 5) 2 i
variable {p y x1 x2} (hp : ∀ r k, r < 2 → k ≤ r → 0 ≤ p r k ∧ p r k ≤ 10) (hy : ∀ i, i < 3 → 0 ≤ y i ∧ y i ≤ 500) (h1 : 0 ≤ x1 ∧ x1 ≤ 255) (h2 : 0 ≤ x2 ∧ x2 ≤ 255)
theorem gp (i j : Nat) : In64 (a p x1 x2 i * a p x1 x2 j) := in64 (PB (ha p x1 x2 i) (ha p x1 x2 j)) (by decide)
theorem gq (i j : Nat) : In64 (b p x1 x2 i * b p x1 x2 j) := in64 (PB (hb' p x1 x2 i) (hb' p x1 x2 j)) (by decide)
include hp hy h1 h2
theorem all : AllB BB (lst p y x1 x2) := ⟨ha p x1 x2 0, ha p x1 x2 1, ha p x1 x2 2, hb' p x1 x2 0, hb' p x1 x2 1, hb' p x1 x2 2, PB (ha p x1 x2 0) (ha p x1 x2 0), PB (ha p x1 x2 0) (ha p x1 x2 1), PB (ha p x1 x2 0) (ha p x1 x2 2), PB (ha p x1 x2 1) (ha p x1 x2 1), PB (ha p x1 x2 1) (ha p x1 x2 2), PB (ha p x1 x2 2) (ha p x1 x2 2), PB (hb' p x1 x2 0) (hb' p x1 x2 0), PB (hb' p x1 x2 0) (hb' p x1 x2 1), PB (hb' p x1 x2 0) (hb' p x1 x2 2), PB (hb' p x1 x2 1) (hb' p x1 x2 1), PB (hb' p x1 x2 1) (hb' p x1 x2 2), PB (hb' p x1 x2 2) (hb' p x1 x2 2), lvLo_b x1 x2, lvHi_b x1 x2, ⟨by show _ ≤ _; omega, by show _ ≤ _; omega⟩, ⟨by show _ ≤ _; omega, by show _ ≤ _; omega⟩, ⟨by show _ ≤ _; omega, by show _ ≤ _; omega⟩, ⟨by show _ ≤ _; omega, by show _ ≤ _; omega⟩, hp 0 0 (by decide) (by decide), hp 1 0 (by decide) (by decide), hp 1 1 (by decide) (by decide), hy 0 (by decide), hy 1 (by decide), hy 2 (by decide), trivial⟩
set_option maxHeartbeats 4000000 in
set_option maxRecDepth 100000 in
theorem orcOK : @OrcOK (val p y x1 x2) (mapE BB en (mapC BB ec)) := by
  letI := val p y x1 x2
  exact orc_of (all hp hy h1 h2) (fun _ _ => rfl) (by kernel_rfl) (by kernel_rfl) ⟨rfl, rfl, ⟨rfl, gp 0 0⟩, ⟨rfl, gp 0 1⟩, ⟨rfl, gp 0 2⟩, ⟨Int.mul_comm _ _, gp 0 1⟩, ⟨rfl, gp 1 1⟩, ⟨rfl, gp 1 2⟩, ⟨Int.mul_comm _ _, gp 0 2⟩, ⟨Int.mul_comm _ _, gp 1 2⟩, ⟨rfl, gp 2 2⟩, ⟨rfl, gq 0 0⟩, ⟨rfl, gq 0 1⟩, ⟨rfl, gq 0 2⟩, ⟨Int.mul_comm _ _, gq 0 1⟩, ⟨rfl, gq 1 1⟩, ⟨rfl, gq 1 2⟩, ⟨Int.mul_comm _ _, gq 0 2⟩, ⟨Int.mul_comm _ _, gq 1 2⟩, ⟨rfl, gq 2 2⟩, trivial⟩ ⟨(sq _ _ _ (sm p (lvLo x1 x2 - 5))), (sq _ _ _ (sm p (lvHi x1 x2 - 5))), sqle2 (sq _ _ _ (sm p (lvHi x1 x2 - 5))) (sq _ _ _ (sm p (lvLo x1 x2 - 5))) (ha p x1 x2 2).1 (Nf_mono p (lohi x1 x2) 2), trivial⟩
set_option maxHeartbeats 2000000 in
theorem ok_wlo [Bet] : @WOK (val p y x1 x2) _ Tryz.prog wlo :=
  wok_of (e := wlo) (V1 := val p y x1 x2) (V2 := S2.val p y (lvLo x1 x2 - 5)) (l1 := ll) (l2 := S2.ll) (args2 := S2.args) (cs2 := S2.cs) (S2.orcOK hp (lo5 x1 x2) hy) S2.wr rfl (by kernel_rfl) S2.mk
    ⟨⟨Imp.sl _ _ _, Imp.sl _ _ _, trivial⟩,
    imps_sy (S2.all hp (lo5 x1 x2) hy) (fun _ _ => rfl) (by kernel_rfl) (by kernel_rfl) ⟨rfl, trivial⟩,
    imps_sy (S2.all hp (lo5 x1 x2) hy) (fun _ _ => rfl) (by kernel_rfl) (by kernel_rfl) ⟨rfl, rfl, trivial⟩,
    imps_sy (S2.all hp (lo5 x1 x2) hy) (fun _ _ => rfl) (by kernel_rfl) (by kernel_rfl) ⟨rfl, rfl, rfl, trivial⟩,
    trivial⟩
    ⟨Imp.agg ⟨Imp.sl _ _ _, Imp.sl _ _ _, trivial⟩, Imp.num rfl rfl (@Fo.bnd (S2.val p y (lvLo x1 x2 - 5)) _ _ (S2.all hp (lo5 x1 x2) hy) (fun _ _ => rfl) (.s 0)) (by
      rw [@fo_num (val p y x1 x2) _ _ _ (by kernel_rfl), @fo_num (S2.val p y (lvLo x1 x2 - 5)) _ _ _ (by kernel_rfl)]
      show -5 + (1 * lvLo x1 x2 + 0) = 0 + (1 * (lvLo x1 x2 - 5) + 0)
      omega), trivial⟩
    (imps_sy (B1 := S2.BB) (B2 := BB) (is := [13, 14, 15]) (js := [0, 1, 2]) (all hp hy h1 h2) (fun _ _ => rfl) (by kernel_rfl) (by kernel_rfl) ⟨rfl, rfl, rfl, trivial⟩) rfl (by kernel_rfl) (by kernel_rfl) (by kernel_rfl)
set_option maxHeartbeats 2000000 in
theorem ok_whi [Bet] : @WOK (val p y x1 x2) _ Tryz.prog whi :=
  wok_of (e := whi) (V1 := val p y x1 x2) (V2 := S2.val p y (lvHi x1 x2 - 5)) (l1 := ll) (l2 := S2.ll) (args2 := S2.args) (cs2 := S2.cs) (S2.orcOK hp (hi5 x1 x2) hy) S2.wr rfl (by kernel_rfl) S2.mk
    ⟨⟨Imp.sl _ _ _, Imp.sl _ _ _, trivial⟩,
    imps_sy (S2.all hp (hi5 x1 x2) hy) (fun _ _ => rfl) (by kernel_rfl) (by kernel_rfl) ⟨rfl, trivial⟩,
    imps_sy (S2.all hp (hi5 x1 x2) hy) (fun _ _ => rfl) (by kernel_rfl) (by kernel_rfl) ⟨rfl, rfl, trivial⟩,
    imps_sy (S2.all hp (hi5 x1 x2) hy) (fun _ _ => rfl) (by kernel_rfl) (by kernel_rfl) ⟨rfl, rfl, rfl, trivial⟩,
    trivial⟩
    ⟨Imp.agg ⟨Imp.sl _ _ _, Imp.sl _ _ _, trivial⟩, Imp.num rfl rfl (@Fo.bnd (S2.val p y (lvHi x1 x2 - 5)) _ _ (S2.all hp (hi5 x1 x2) hy) (fun _ _ => rfl) (.s 0)) (by
      rw [@fo_num (val p y x1 x2) _ _ _ (by kernel_rfl), @fo_num (S2.val p y (lvHi x1 x2 - 5)) _ _ _ (by kernel_rfl)]
      show -5 + (1 * lvHi x1 x2 + 0) = 0 + (1 * (lvHi x1 x2 - 5) + 0)
      omega), trivial⟩
    (imps_sy (B1 := S2.BB) (B2 := BB) (is := [13, 14, 15]) (js := [3, 4, 5]) (all hp hy h1 h2) (fun _ _ => rfl) (by kernel_rfl) (by kernel_rfl) ⟨rfl, rfl, rfl, trivial⟩) rfl (by kernel_rfl) (by kernel_rfl) (by kernel_rfl)
theorem fin (hl : ∀ f ∈ [21], YesFn Tryz.prog f) {W : World} {A A' : Addr} {As : Nat → Addr} {c c' : Nat} {cs : Nat → Nat} (hb : BrdN W 2 A A' As c c' cs p y) :
    CallsIn (Fro none) 0 Tryz.prog 5 #[.agg #[.slice (some A) 2 c, .slice (some A') 3 c'], .int .u8 x1, .int .u8 x2] W (Yes W) := by
  letI : Val := val p y x1 x2
  letI : Bet := bet0
  have hA := all hp hy h1 h2
  have g0 : VRs phi0 r0 ((List.range 1).map fun k => Value.int .i64 (p 0 k)) := vrs_sy (ns := [p 0 0]) hA (fun _ _ => rfl) (by kernel_rfl) ⟨rfl, trivial⟩
  have g1 : VRs phi0 r1 ((List.range 2).map fun k => Value.int .i64 (p 1 k)) := vrs_sy (ns := [p 1 0, p 1 1]) hA (fun _ _ => rfl) (by kernel_rfl) ⟨rfl, rfl, trivial⟩
  have gy : VRs phi0 py ((List.range 3).map fun i => Value.int .i64 (y i)) := vrs_sy (ns := [y 0, y 1, y 2]) hA (fun _ _ => rfl) (by kernel_rfl) ⟨rfl, rfl, rfl, trivial⟩
  obtain ⟨hR, hz, hg⟩ := hb.r (rs := [r0, r1]) (py := py) mk rfl (fun r xs h => by
    match r, h with
    | 0, h => cases h; exact g0
    | 1, h => cases h; exact g1
    | r + 2, h => simp at h) gy
  exact callsIn_frzW (orcOK hp hy h1 h2) hl E3.hms E3.hns (fun e he => by
    simp only [List.mem_cons, List.not_mem_nil, or_false] at he
    rcases he with rfl | rfl
    · exact ok_wlo hp hy h1 h2
    · exact ok_whi hp hy h1 h2) hR hz rn (.cons _ _ _ _ hg (.cons _ _ _ _ (.lin _ _ _ _ (by
      rw [dn_S BB _ 0 (by kernel_rfl)]
      show x1 = 0 + (11 * (x1 / 11) + (1 * (x1 % 11) + 0))
      omega) (dn_B BB _ _ 0 hA fun j _ => by rw [Nat.zero_add]; rfl)) (.cons _ _ _ _ (.lin _ _ _ _ (by
      rw [dn_S BB _ 0 (by kernel_rfl)]
      show x2 = 0 + (11 * (x2 / 11) + (1 * (x2 % 11) + 0))
      omega) (dn_B BB _ _ 0 hA fun j _ => by rw [Nat.zero_add]; rfl)) .nil))) 0
end
end M2
namespace M3
noncomputable section
def BB : List (Int × Int) := [(0, 1000), (0, 1000), (0, 1000), (0, 1000), (0, 1000), (0, 1000), (0, 1000), (0, 1000), (0, 1000000), (0, 1000000), (0, 1000000), (0, 1000000), (0, 1000000), (0, 1000000), (0, 1000000), (0, 1000000), (0, 1000000), (0, 1000000), (0, 1000000), (0, 1000000), (0, 1000000), (0, 1000000), (0, 1000000), (0, 1000000), (0, 1000000), (0, 1000000), (0, 1000000), (0, 1000000), (0, 10), (0, 10), (0, 23), (0, 23), (0, 10), (0, 10), (0, 10), (0, 10), (0, 10), (0, 10), (0, 10), (0, 10), (0, 500), (0, 500), (0, 500), (0, 500)]
def sls : List AV := [.sl (some (1, 0)) 1 (.u 1), .sl (some (2, 0)) 2 (.u 1), .sl (some (3, 0)) 3 (.u 1)]
def r0 : List AV := sy BB [34]
def r1 : List AV := sy BB [35, 36]
def r2 : List AV := sy BB [37, 38, 39]
def py : List AV := sy BB [40, 41, 42, 43]
def hb : AH := ⟨5, (.n (.n (.n (.n (.n (.n (.n (.n (.n (.n (.n (.n (.n (.n (.n (.l (.froz sls)) .e) .e) .e) .e) .e) .e) .e) .e) .e) .e) .e) .e) (.n (.n (.n (.n (.n (.n (.n (.n (.n (.n (.n (.n (.l (.froz py)) .e) .e) .e) .e) .e) .e) .e) .e) .e) .e) .e) .e)) (.n (.n (.n (.n (.n (.n (.n (.n (.n (.n (.n (.n (.n (.l (.froz r1)) .e) .e) .e) .e) .e) .e) .e) .e) .e) .e) .e) .e) .e)) (.n (.n (.n (.n (.n (.n (.n (.n (.n (.n (.n (.n (.n (.n (.l (.froz r0)) .e) .e) .e) .e) .e) .e) .e) .e) .e) .e) .e) .e) .e) (.n (.n (.n (.n (.n (.n (.n (.n (.n (.n (.n (.n (.n (.l (.froz r2)) .e) .e) .e) .e) .e) .e) .e) .e) .e) .e) .e) .e) .e)))⟩
def ll : List (List AV) := [sls, r0, r1, r2, py]
def en : List En := [(100, .s 32, .s 33, .s 28),
  (101, .s 32, .s 33, .s 29),
  (2, .s 0, .s 0, .s 8),
  (2, .s 0, .s 1, .s 9),
  (2, .s 0, .s 2, .s 10),
  (2, .s 0, .s 3, .s 11),
  (2, .s 1, .s 0, .s 9),
  (2, .s 1, .s 1, .s 12),
  (2, .s 1, .s 2, .s 13),
  (2, .s 1, .s 3, .s 14),
  (2, .s 2, .s 0, .s 10),
  (2, .s 2, .s 1, .s 13),
  (2, .s 2, .s 2, .s 15),
  (2, .s 2, .s 3, .s 16),
  (2, .s 3, .s 0, .s 11),
  (2, .s 3, .s 1, .s 14),
  (2, .s 3, .s 2, .s 16),
  (2, .s 3, .s 3, .s 17),
  (2, .s 4, .s 4, .s 18),
  (2, .s 4, .s 5, .s 19),
  (2, .s 4, .s 6, .s 20),
  (2, .s 4, .s 7, .s 21),
  (2, .s 5, .s 4, .s 19),
  (2, .s 5, .s 5, .s 22),
  (2, .s 5, .s 6, .s 23),
  (2, .s 5, .s 7, .s 24),
  (2, .s 6, .s 4, .s 20),
  (2, .s 6, .s 5, .s 23),
  (2, .s 6, .s 6, .s 25),
  (2, .s 6, .s 7, .s 26),
  (2, .s 7, .s 4, .s 21),
  (2, .s 7, .s 5, .s 24),
  (2, .s 7, .s 6, .s 26),
  (2, .s 7, .s 7, .s 27)]
def ec : List Ec := [(4, .g 0 [(8, 1), (0, 2), (0, 2), (0, 2), (0, 1), (0, 2), (0, 2), (0, 1), (0, 2)], .m 1000000 17, false), (4, .g 0 [(18, 1), (0, 2), (0, 2), (0, 2), (0, 1), (0, 2), (0, 2), (0, 1), (0, 2)], .m 1000000 27, false), (6, .g 0 [(18, 1), (0, 2), (0, 2), (0, 2), (0, 1), (0, 2), (0, 2), (0, 1), (0, 2)], .g 0 [(8, 1), (0, 2), (0, 2), (0, 2), (0, 1), (0, 2), (0, 2), (0, 1), (0, 2)], true)]
def args : List AV := [.agg [.sl (some (0, 0)) 3 (.u 1), .sl (some (4, 0)) 4 (.u 1)], .lin .u8 0 (dn BB [(30, 11), (1, 1)]), .lin .u8 0 (dn BB [(31, 11), (1, 1)])]
theorem mk : mkH (.froz (slices 3) :: (([r0, r1, r2] : List (List AV)).map AO.froz ++ [.froz py])) noH = some hb := by kernel_rfl
def wlo : WP := ⟨18, [.agg [.sl (some (0, 0)) 3 (.u 1), .sl (some (4, 0)) 4 (.u 1)], fo BB (-5) [(28, 1)]], hb, 4, sy BB [0, 1, 2, 3]⟩
def whi : WP := ⟨18, [.agg [.sl (some (0, 0)) 3 (.u 1), .sl (some (4, 0)) 4 (.u 1)], fo BB (-5) [(29, 1)]], hb, 4, sy BB [4, 5, 6, 7]⟩
theorem rn : isVal (run (exeW (mapE BB en (mapC BB ec)) [21] E4.ms E4.ns [wlo, whi]) 200000 (.call (.func 5) args hb)) isTrue = true := by decide +kernel
end
theorem sq (w0 w1 w2 w3 : Int) (h : w0 + w1 + w2 + w3 = 1000) : 0 + (1 * (w0 * w0) + (2 * (w0 * w1) + (2 * (w0 * w2) + (2 * (w0 * w3) + (1 * (w1 * w1) + (2 * (w1 * w2) + (2 * (w1 * w3) + (1 * (w2 * w2) + (2 * (w2 * w3) + 0))))))))) = 1000000 - w3 * w3 := by
  have e : (w0 + w1 + w2 + w3) * (w0 + w1 + w2 + w3) = 1000 * 1000 := by rw [h]
  simp only [Int.add_mul, Int.mul_add] at e
  have c0_1 : w1 * w0 = w0 * w1 := Int.mul_comm _ _
  have c0_2 : w2 * w0 = w0 * w2 := Int.mul_comm _ _
  have c0_3 : w3 * w0 = w0 * w3 := Int.mul_comm _ _
  have c1_2 : w2 * w1 = w1 * w2 := Int.mul_comm _ _
  have c1_3 : w3 * w1 = w1 * w3 := Int.mul_comm _ _
  have c2_3 : w3 * w2 = w2 * w3 := Int.mul_comm _ _
  omega
theorem sm (p : Nat → Nat → Int) (l : Int) : Nf p l 3 0 + Nf p l 3 1 + Nf p l 3 2 + Nf p l 3 3 = 1000 := by
  have := sumN_all p l 3
  have e : (10 : Int) ^ 3 = 1000 := by decide
  rw [e] at this
  simp only [sumN] at this
  omega
section
variable (p : Nat → Nat → Int) (y : Nat → Int) (x1 x2 : Int)
abbrev a (i : Nat) : Int := Nf p (lvLo x1 x2 - 5) 3 i
abbrev b (i : Nat) : Int := Nf p (lvHi x1 x2 - 5) 3 i
def lst : List Int := [a p x1 x2 0, a p x1 x2 1, a p x1 x2 2, a p x1 x2 3, b p x1 x2 0, b p x1 x2 1, b p x1 x2 2, b p x1 x2 3, a p x1 x2 0 * a p x1 x2 0, a p x1 x2 0 * a p x1 x2 1, a p x1 x2 0 * a p x1 x2 2, a p x1 x2 0 * a p x1 x2 3, a p x1 x2 1 * a p x1 x2 1, a p x1 x2 1 * a p x1 x2 2, a p x1 x2 1 * a p x1 x2 3, a p x1 x2 2 * a p x1 x2 2, a p x1 x2 2 * a p x1 x2 3, a p x1 x2 3 * a p x1 x2 3, b p x1 x2 0 * b p x1 x2 0, b p x1 x2 0 * b p x1 x2 1, b p x1 x2 0 * b p x1 x2 2, b p x1 x2 0 * b p x1 x2 3, b p x1 x2 1 * b p x1 x2 1, b p x1 x2 1 * b p x1 x2 2, b p x1 x2 1 * b p x1 x2 3, b p x1 x2 2 * b p x1 x2 2, b p x1 x2 2 * b p x1 x2 3, b p x1 x2 3 * b p x1 x2 3, lvLo x1 x2, lvHi x1 x2, x1 / 11, x2 / 11, x1 % 11, x2 % 11, p 0 0, p 1 0, p 1 1, p 2 0, p 2 1, p 2 2, y 0, y 1, y 2, y 3]
abbrev val : Val := ⟨nth (lst p y x1 x2), fun _ => .nilFunc⟩
theorem ha (i : Nat) : 0 ≤ a p x1 x2 i ∧ a p x1 x2 i ≤ 1000 := Nf_b p (lvLo x1 x2 - 5) 3 i
theorem hb' (i : Nat) : 0 ≤ b p x1 x2 i ∧ b p x1 x2 i ≤ 1000 := Nf_b p (lvHi x1 x2 - 5) 3 i
variable {p y x1 x2} (hp : ∀ r k, r < 3 → k ≤ r → 0 ≤ p r k ∧ p r k ≤ 10) (hy : ∀ i, i < 4 → 0 ≤ y i ∧ y i ≤ 500) (h1 : 0 ≤ x1 ∧ x1 ≤ 255) (h2 : 0 ≤ x2 ∧ x2 ≤ 255)
theorem gp (i j : Nat) : In64 (a p x1 x2 i * a p x1 x2 j) := in64 (PB (ha p x1 x2 i) (ha p x1 x2 j)) (by decide)
theorem gq (i j : Nat) : In64 (b p x1 x2 i * b p x1 x2 j) := in64 (PB (hb' p x1 x2 i) (hb' p x1 x2 j)) (by decide)
include hp hy h1 h2
theorem all : AllB BB (lst p y x1 x2) := ⟨ha p x1 x2 0, ha p x1 x2 1, ha p x1 x2 2, ha p x1 x2 3, hb' p x1 x2 0, hb' p x1 x2 1, hb' p x1 x2 2, hb' p x1 x2 3, PB (ha p x1 x2 0) (ha p x1 x2 0), PB (ha p x1 x2 0) (ha p x1 x2 1), PB (ha p x1 x2 0) (ha p x1 x2 2), PB (ha p x1 x2 0) (ha p x1 x2 3), PB (ha p x1 x2 1) (ha p x1 x2 1), PB (ha p x1 x2 1) (ha p x1 x2 2), PB (ha p x1 x2 1) (ha p x1 x2 3), PB (ha p x1 x2 2) (ha p x1 x2 2), PB (ha p x1 x2 2) (ha p x1 x2 3), PB (ha p x1 x2 3) (ha p x1 x2 3), PB (hb' p x1 x2 0) (hb' p x1 x2 0), PB (hb' p x1 x2 0) (hb' p x1 x2 1), PB (hb' p x1 x2 0) (hb' p x1 x2 2), PB (hb' p x1 x2 0) (hb' p x1 x2 3), PB (hb' p x1 x2 1) (hb' p x1 x2 1), PB (hb' p x1 x2 1) (hb' p x1 x2 2), PB (hb' p x1 x2 1) (hb' p x1 x2 3), PB (hb' p x1 x2 2) (hb' p x1 x2 2), PB (hb' p x1 x2 2) (hb' p x1 x2 3), PB (hb' p x1 x2 3) (hb' p x1 x2 3), lvLo_b x1 x2, lvHi_b x1 x2, ⟨by show _ ≤ _; omega, by show _ ≤ _; omega⟩, ⟨by show _ ≤ _; omega, by show _ ≤ _; omega⟩, ⟨by show _ ≤ _; omega, by show _ ≤ _; omega⟩, ⟨by show _ ≤ _; omega, by show _ ≤ _; omega⟩, hp 0 0 (by decide) (by decide), hp 1 0 (by decide) (by decide), hp 1 1 (by decide) (by decide), hp 2 0 (by decide) (by decide), hp 2 1 (by decide) (by decide), hp 2 2 (by decide) (by decide), hy 0 (by decide), hy 1 (by decide), hy 2 (by decide), hy 3 (by decide), trivial⟩
set_option maxHeartbeats 4000000 in
set_option maxRecDepth 100000 in
theorem orcOK : @OrcOK (val p y x1 x2) (mapE BB en (mapC BB ec)) := by
  letI := val p y x1 x2
  exact orc_of (all hp hy h1 h2) (fun _ _ => rfl) (by kernel_rfl) (by kernel_rfl) ⟨rfl, rfl, ⟨rfl, gp 0 0⟩, ⟨rfl, gp 0 1⟩, ⟨rfl, gp 0 2⟩, ⟨rfl, gp 0 3⟩, ⟨Int.mul_comm _ _, gp 0 1⟩, ⟨rfl, gp 1 1⟩, ⟨rfl, gp 1 2⟩, ⟨rfl, gp 1 3⟩, ⟨Int.mul_comm _ _, gp 0 2⟩, ⟨Int.mul_comm _ _, gp 1 2⟩, ⟨rfl, gp 2 2⟩, ⟨rfl, gp 2 3⟩, ⟨Int.mul_comm _ _, gp 0 3⟩, ⟨Int.mul_comm _ _, gp 1 3⟩, ⟨Int.mul_comm _ _, gp 2 3⟩, ⟨rfl, gp 3 3⟩, ⟨rfl, gq 0 0⟩, ⟨rfl, gq 0 1⟩, ⟨rfl, gq 0 2⟩, ⟨rfl, gq 0 3⟩, ⟨Int.mul_comm _ _, gq 0 1⟩, ⟨rfl, gq 1 1⟩, ⟨rfl, gq 1 2⟩, ⟨rfl, gq 1 3⟩, ⟨Int.mul_comm _ _, gq 0 2⟩, ⟨Int.mul_comm _ _, gq 1 2⟩, ⟨rfl, gq 2 2⟩, ⟨rfl, gq 2 3⟩, ⟨Int.mul_comm _ _, gq 0 3⟩, ⟨Int.mul_comm _ _, gq 1 3⟩, ⟨Int.mul_comm _ _, gq 2 3⟩, ⟨rfl, gq 3 3⟩, trivial⟩ ⟨(sq _ _ _ _ (sm p (lvLo x1 x2 - 5))), (sq _ _ _ _ (sm p (lvHi x1 x2 - 5))), sqle2 (sq _ _ _ _ (sm p (lvHi x1 x2 - 5))) (sq _ _ _ _ (sm p (lvLo x1 x2 - 5))) (ha p x1 x2 3).1 (Nf_mono p (lohi x1 x2) 3), trivial⟩
set_option maxHeartbeats 2000000 in
theorem ok_wlo [Bet] : @WOK (val p y x1 x2) _ Tryz.prog wlo :=
  wok_of (e := wlo) (V1 := val p y x1 x2) (V2 := S3.val p y (lvLo x1 x2 - 5)) (l1 := ll) (l2 := S3.ll) (args2 := S3.args) (cs2 := S3.cs) (S3.orcOK hp (lo5 x1 x2) hy) S3.wr rfl (by kernel_rfl) S3.mk
    ⟨⟨Imp.sl _ _ _, Imp.sl _ _ _, Imp.sl _ _ _, trivial⟩,
    imps_sy (S3.all hp (lo5 x1 x2) hy) (fun _ _ => rfl) (by kernel_rfl) (by kernel_rfl) ⟨rfl, trivial⟩,
    imps_sy (S3.all hp (lo5 x1 x2) hy) (fun _ _ => rfl) (by kernel_rfl) (by kernel_rfl) ⟨rfl, rfl, trivial⟩,
    imps_sy (S3.all hp (lo5 x1 x2) hy) (fun _ _ => rfl) (by kernel_rfl) (by kernel_rfl) ⟨rfl, rfl, rfl, trivial⟩,
    imps_sy (S3.all hp (lo5 x1 x2) hy) (fun _ _ => rfl) (by kernel_rfl) (by kernel_rfl) ⟨rfl, rfl, rfl, rfl, trivial⟩,
    trivial⟩
    ⟨Imp.agg ⟨Imp.sl _ _ _, Imp.sl _ _ _, trivial⟩, Imp.num rfl rfl (@Fo.bnd (S3.val p y (lvLo x1 x2 - 5)) _ _ (S3.all hp (lo5 x1 x2) hy) (fun _ _ => rfl) (.s 0)) (by
      rw [@fo_num (val p y x1 x2) _ _ _ (by kernel_rfl), @fo_num (S3.val p y (lvLo x1 x2 - 5)) _ _ _ (by kernel_rfl)]
      show -5 + (1 * lvLo x1 x2 + 0) = 0 + (1 * (lvLo x1 x2 - 5) + 0)
      omega), trivial⟩
    (imps_sy (B1 := S3.BB) (B2 := BB) (is := [27, 28, 29, 30]) (js := [0, 1, 2, 3]) (all hp hy h1 h2) (fun _ _ => rfl) (by kernel_rfl) (by kernel_rfl) ⟨rfl, rfl, rfl, rfl, trivial⟩) rfl (by kernel_rfl) (by kernel_rfl) (by kernel_rfl)
set_option maxHeartbeats 2000000 in
theorem ok_whi [Bet] : @WOK (val p y x1 x2) _ Tryz.prog whi :=
  wok_of (e := whi) (V1 := val p y x1 x2) (V2 := S3.val p y (lvHi x1 x2 - 5)) (l1 := ll) (l2 := S3.ll) (args2 := S3.args) (cs2 := S3.cs) (S3.orcOK hp (hi5 x1 x2) hy) S3.wr rfl (by kernel_rfl) S3.mk
    ⟨⟨Imp.sl _ _ _, Imp.sl _ _ _, Imp.sl _ _ _, trivial⟩,
    imps_sy (S3.all hp (hi5 x1 x2) hy) (fun _ _ => rfl) (by kernel_rfl) (by kernel_rfl) ⟨rfl, trivial⟩,
    imps_sy (S3.all hp (hi5 x1 x2) hy) (fun _ _ => rfl) (by kernel_rfl) (by kernel_rfl) ⟨rfl, rfl, trivial⟩,
    imps_sy (S3.all hp (hi5 x1 x2) hy) (fun _ _ => rfl) (by kernel_rfl) (by kernel_rfl) ⟨rfl, rfl, rfl, trivial⟩,
    imps_sy (S3.all hp (hi5 x1 x2) hy) (fun _ _ => rfl) (by kernel_rfl) (by kernel_rfl) ⟨rfl, rfl, rfl, rfl, trivial⟩,
    trivial⟩
    ⟨Imp.agg ⟨Imp.sl _ _ _, Imp.sl _ _ _, trivial⟩, Imp.num rfl rfl (@Fo.bnd (S3.val p y (lvHi x1 x2 - 5)) _ _ (S3.all hp (hi5 x1 x2) hy) (fun _ _ => rfl) (.s 0)) (by
      rw [@fo_num (val p y x1 x2) _ _ _ (by kernel_rfl), @fo_num (S3.val p y (lvHi x1 x2 - 5)) _ _ _ (by kernel_rfl)]
      show -5 + (1 * lvHi x1 x2 + 0) = 0 + (1 * (lvHi x1 x2 - 5) + 0)
      omega), trivial⟩
    (imps_sy (B1 := S3.BB) (B2 := BB) (is := [27, 28, 29, 30]) (js := [4, 5, 6, 7]) (all hp hy h1 h2) (fun _ _ => rfl) (by kernel_rfl) (by kernel_rfl) ⟨rfl, rfl, rfl, rfl, trivial⟩) rfl (by kernel_rfl) (by kernel_rfl) (by kernel_rfl)
theorem fin (hl : ∀ f ∈ [21], YesFn Tryz.prog f) {W : World} {A A' : Addr} {As : Nat → Addr} {c c' : Nat} {cs : Nat → Nat} (hb : BrdN W 3 A A' As c c' cs p y) :
    CallsIn (Fro none) 0 Tryz.prog 5 #[.agg #[.slice (some A) 3 c, .slice (some A') 4 c'], .int .u8 x1, .int .u8 x2] W (Yes W) := by
  letI : Val := val p y x1 x2
  letI : Bet := bet0
  have hA := all hp hy h1 h2
  have g0 : VRs phi0 r0 ((List.range 1).map fun k => Value.int .i64 (p 0 k)) := vrs_sy (ns := [p 0 0]) hA (fun _ _ => rfl) (by kernel_rfl) ⟨rfl, trivial⟩
  have g1 : VRs phi0 r1 ((List.range 2).map fun k => Value.int .i64 (p 1 k)) := vrs_sy (ns := [p 1 0, p 1 1]) hA (fun _ _ => rfl) (by kernel_rfl) ⟨rfl, rfl, trivial⟩
  have g2 : VRs phi0 r2 ((List.range 3).map fun k => Value.int .i64 (p 2 k)) := vrs_sy (ns := [p 2 0, p 2 1, p 2 2]) hA (fun _ _ => rfl) (by kernel_rfl) ⟨rfl, rfl, rfl, trivial⟩
  have gy : VRs phi0 py ((List.range 4).map fun i => Value.int .i64 (y i)) := vrs_sy (ns := [y 0, y 1, y 2, y 3]) hA (fun _ _ => rfl) (by kernel_rfl) ⟨rfl, rfl, rfl, rfl, trivial⟩
  obtain ⟨hR, hz, hg⟩ := hb.r (rs := [r0, r1, r2]) (py := py) mk rfl (fun r xs h => by
    match r, h with
    | 0, h => cases h; exact g0
    | 1, h => cases h; exact g1
    | 2, h => cases h; exact g2
    | r + 3, h => simp at h) gy
  exact callsIn_frzW (orcOK hp hy h1 h2) hl E4.hms E4.hns (fun e he => by
    simp only [List.mem_cons, List.not_mem_nil, or_false] at he
    rcases he with rfl | rfl
    · exact ok_wlo hp hy h1 h2
    · exact ok_whi hp hy h1 h2) hR hz rn (.cons _ _ _ _ hg (.cons _ _ _ _ (.lin _ _ _ _ (by
      rw [dn_S BB _ 0 (by kernel_rfl)]
      show x1 = 0 + (11 * (x1 / 11) + (1 * (x1 % 11) + 0))
      omega) (dn_B BB _ _ 0 hA fun j _ => by rw [Nat.zero_add]; rfl)) (.cons _ _ _ _ (.lin _ _ _ _ (by
      rw [dn_S BB _ 0 (by kernel_rfl)]
      show x2 = 0 + (11 * (x2 / 11) + (1 * (x2 % 11) + 0))
      omega) (dn_B BB _ _ 0 hA fun j _ => by rw [Nat.zero_add]; rfl)) .nil))) 0
end
end M3
namespace M4
noncomputable section
def BB : List (Int × Int) := [(0, 10000), (0, 10000), (0, 10000), (0, 10000), (0, 10000), (0, 10000), (0, 10000), (0, 10000), (0, 10000), (0, 10000), (0, 100000000), (0, 100000000), (0, 100000000), (0, 100000000), (0, 100000000), (0, 100000000), (0, 100000000), (0, 100000000), (0, 100000000), (0, 100000000), (0, 100000000), (0, 100000000), (0, 100000000), (0, 100000000), (0, 100000000), (0, 100000000), (0, 100000000), (0, 100000000), (0, 100000000), (0, 100000000), (0, 100000000), (0, 100000000), (0, 100000000), (0, 100000000), (0, 100000000), (0, 100000000), (0, 100000000), (0, 100000000), (0, 100000000), (0, 100000000), (0, 10), (0, 10), (0, 23), (0, 23), (0, 10), (0, 10), (0, 10), (0, 10), (0, 10), (0, 10), (0, 10), (0, 10), (0, 10), (0, 10), (0, 10), (0, 10), (0, 500), (0, 500), (0, 500), (0, 500), (0, 500)]
def sls : List AV := [.sl (some (1, 0)) 1 (.u 1), .sl (some (2, 0)) 2 (.u 1), .sl (some (3, 0)) 3 (.u 1), .sl (some (4, 0)) 4 (.u 1)]
def r0 : List AV := sy BB [46]
def r1 : List AV := sy BB [47, 48]
def r2 : List AV := sy BB [49, 50, 51]
def r3 : List AV := sy BB [52, 53, 54, 55]
def py : List AV := sy BB [56, 57, 58, 59, 60]
def hb : AH := ⟨6, (.n (.n (.n (.n (.n (.n (.n (.n (.n (.n (.n (.n (.n (.n (.n (.l (.froz sls)) .e) .e) .e) .e) .e) .e) .e) .e) .e) .e) .e) .e) (.n (.n (.n (.n (.n (.n (.n (.n (.n (.n (.n (.n (.l (.froz r3)) .e) .e) .e) .e) .e) .e) .e) .e) .e) .e) .e) .e)) (.n (.n (.n (.n (.n (.n (.n (.n (.n (.n (.n (.n (.n (.l (.froz r1)) .e) .e) .e) .e) .e) .e) .e) .e) .e) .e) .e) .e) .e)) (.n (.n (.n (.n (.n (.n (.n (.n (.n (.n (.n (.n (.n (.n (.l (.froz r0)) .e) .e) .e) .e) .e) .e) .e) .e) .e) .e) .e) .e) (.n (.n (.n (.n (.n (.n (.n (.n (.n (.n (.n (.n (.l (.froz py)) .e) .e) .e) .e) .e) .e) .e) .e) .e) .e) .e) .e)) (.n (.n (.n (.n (.n (.n (.n (.n (.n (.n (.n (.n (.n (.l (.froz r2)) .e) .e) .e) .e) .e) .e) .e) .e) .e) .e) .e) .e) .e)))⟩
def ll : List (List AV) := [sls, r0, r1, r2, r3, py]
def en : List En := [(100, .s 44, .s 45, .s 40),
  (101, .s 44, .s 45, .s 41),
  (2, .s 0, .s 0, .s 10),
  (2, .s 0, .s 1, .s 11),
  (2, .s 0, .s 2, .s 12),
  (2, .s 0, .s 3, .s 13),
  (2, .s 0, .s 4, .s 14),
  (2, .s 1, .s 0, .s 11),
  (2, .s 1, .s 1, .s 15),
  (2, .s 1, .s 2, .s 16),
  (2, .s 1, .s 3, .s 17),
  (2, .s 1, .s 4, .s 18),
  (2, .s 2, .s 0, .s 12),
  (2, .s 2, .s 1, .s 16),
  (2, .s 2, .s 2, .s 19),
  (2, .s 2, .s 3, .s 20),
  (2, .s 2, .s 4, .s 21),
  (2, .s 3, .s 0, .s 13),
  (2, .s 3, .s 1, .s 17),
  (2, .s 3, .s 2, .s 20),
  (2, .s 3, .s 3, .s 22),
  (2, .s 3, .s 4, .s 23),
  (2, .s 4, .s 0, .s 14),
  (2, .s 4, .s 1, .s 18),
  (2, .s 4, .s 2, .s 21),
  (2, .s 4, .s 3, .s 23),
  (2, .s 4, .s 4, .s 24),
  (2, .s 5, .s 5, .s 25),
  (2, .s 5, .s 6, .s 26),
  (2, .s 5, .s 7, .s 27),
  (2, .s 5, .s 8, .s 28),
  (2, .s 5, .s 9, .s 29),
  (2, .s 6, .s 5, .s 26),
  (2, .s 6, .s 6, .s 30),
  (2, .s 6, .s 7, .s 31),
  (2, .s 6, .s 8, .s 32),
  (2, .s 6, .s 9, .s 33),
  (2, .s 7, .s 5, .s 27),
  (2, .s 7, .s 6, .s 31),
  (2, .s 7, .s 7, .s 34),
  (2, .s 7, .s 8, .s 35),
  (2, .s 7, .s 9, .s 36),
  (2, .s 8, .s 5, .s 28),
  (2, .s 8, .s 6, .s 32),
  (2, .s 8, .s 7, .s 35),
  (2, .s 8, .s 8, .s 37),
  (2, .s 8, .s 9, .s 38),
  (2, .s 9, .s 5, .s 29),
  (2, .s 9, .s 6, .s 33),
  (2, .s 9, .s 7, .s 36),
  (2, .s 9, .s 8, .s 38),
  (2, .s 9, .s 9, .s 39)]
def ec : List Ec := [(4, .g 0 [(10, 1), (0, 2), (0, 2), (0, 2), (0, 2), (0, 1), (0, 2), (0, 2), (0, 2), (0, 1), (0, 2), (0, 2), (0, 1), (0, 2)], .m 100000000 24, false), (4, .g 0 [(25, 1), (0, 2), (0, 2), (0, 2), (0, 2), (0, 1), (0, 2), (0, 2), (0, 2), (0, 1), (0, 2), (0, 2), (0, 1), (0, 2)], .m 100000000 39, false), (6, .g 0 [(25, 1), (0, 2), (0, 2), (0, 2), (0, 2), (0, 1), (0, 2), (0, 2), (0, 2), (0, 1), (0, 2), (0, 2), (0, 1), (0, 2)], .g 0 [(10, 1), (0, 2), (0, 2), (0, 2), (0, 2), (0, 1), (0, 2), (0, 2), (0, 2), (0, 1), (0, 2), (0, 2), (0, 1), (0, 2)], true)]
def args : List AV := [.agg [.sl (some (0, 0)) 4 (.u 1), .sl (some (5, 0)) 5 (.u 1)], .lin .u8 0 (dn BB [(42, 11), (1, 1)]), .lin .u8 0 (dn BB [(43, 11), (1, 1)])]
theorem mk : mkH (.froz (slices 4) :: (([r0, r1, r2, r3] : List (List AV)).map AO.froz ++ [.froz py])) noH = some hb := by kernel_rfl
def wlo : WP := ⟨18, [.agg [.sl (some (0, 0)) 4 (.u 1), .sl (some (5, 0)) 5 (.u 1)], fo BB (-5) [(40, 1)]], hb, 5, sy BB [0, 1, 2, 3, 4]⟩
def whi : WP := ⟨18, [.agg [.sl (some (0, 0)) 4 (.u 1), .sl (some (5, 0)) 5 (.u 1)], fo BB (-5) [(41, 1)]], hb, 5, sy BB [5, 6, 7, 8, 9]⟩
theorem rn : isVal (run (exeW (mapE BB en (mapC BB ec)) [21] E5.ms E5.ns [wlo, whi]) 200000 (.call (.func 5) args hb)) isTrue = true := by decide +kernel
end
theorem sq (w0 w1 w2 w3 w4 : Int) (h : w0 + w1 + w2 + w3 + w4 = 10000) : 0 + (1 * (w0 * w0) + (2 * (w0 * w1) + (2 * (w0 * w2) + (2 * (w0 * w3) + (2 * (w0 * w4) + (1 * (w1 * w1) + (2 * (w1 * w2) + (2 * (w1 * w3) + (2 * (w1 * w4) + (1 * (w2 * w2) + (2 * (w2 * w3) + (2 * (w2 * w4) + (1 * (w3 * w3) + (2 * (w3 * w4) + 0)))))))))))))) = 100000000 - w4 * w4 := by
  have e : (w0 + w1 + w2 + w3 + w4) * (w0 + w1 + w2 + w3 + w4) = 10000 * 10000 := by rw [h]
  simp only [Int.add_mul, Int.mul_add] at e
  have c0_1 : w1 * w0 = w0 * w1 := Int.mul_comm _ _
  have c0_2 : w2 * w0 = w0 * w2 := Int.mul_comm _ _
  have c0_3 : w3 * w0 = w0 * w3 := Int.mul_comm _ _
  have c0_4 : w4 * w0 = w0 * w4 := Int.mul_comm _ _
  have c1_2 : w2 * w1 = w1 * w2 := Int.mul_comm _ _
  have c1_3 : w3 * w1 = w1 * w3 := Int.mul_comm _ _
  have c1_4 : w4 * w1 = w1 * w4 := Int.mul_comm _ _
  have c2_3 : w3 * w2 = w2 * w3 := Int.mul_comm _ _
  have c2_4 : w4 * w2 = w2 * w4 := Int.mul_comm _ _
  have c3_4 : w4 * w3 = w3 * w4 := Int.mul_comm _ _
  omega
theorem sm (p : Nat → Nat → Int) (l : Int) : Nf p l 4 0 + Nf p l 4 1 + Nf p l 4 2 + Nf p l 4 3 + Nf p l 4 4 = 10000 := by
  have := sumN_all p l 4
  have e : (10 : Int) ^ 4 = 10000 := by decide
  rw [e] at this
  simp only [sumN] at this
  omega
section
variable (p : Nat → Nat → Int) (y : Nat → Int) (x1 x2 : Int)
abbrev a (i : Nat) : Int := Nf p (lvLo x1 x2 - 5) 4 i
abbrev b (i : Nat) : Int := Nf p (lvHi x1 x2 - 5) 4 i
def lst : List Int := [a p x1 x2 0, a p x1 x2 1, a p x1 x2 2, a p x1 x2 3, a p x1 x2 4, b p x1 x2 0, b p x1 x2 1, b p x1 x2 2, b p x1 x2 3, b p x1 x2 4, a p x1 x2 0 * a p x1 x2 0, a p x1 x2 0 * a p x1 x2 1, a p x1 x2 0 * a p x1 x2 2, a p x1 x2 0 * a p x1 x2 3, a p x1 x2 0 * a p x1 x2 4, a p x1 x2 1 * a p x1 x2 1, a p x1 x2 1 * a p x1 x2 2, a p x1 x2 1 * a p x1 x2 3, a p x1 x2 1 * a p x1 x2 4, a p x1 x2 2 * a p x1 x2 2, a p x1 x2 2 * a p x1 x2 3, a p x1 x2 2 * a p x1 x2 4, a p x1 x2 3 * a p x1 x2 3, a p x1 x2 3 * a p x1 x2 4, a p x1 x2 4 * a p x1 x2 4, b p x1 x2 0 * b p x1 x2 0, b p x1 x2 0 * b p x1 x2 1, b p x1 x2 0 * b p x1 x2 2, b p x1 x2 0 * b p x1 x2 3, b p x1 x2 0 * b p x1 x2 4, b p x1 x2 1 * b p x1 x2 1, b p x1 x2 1 * b p x1 x2 2, b p x1 x2 1 * b p x1 x2 3, b p x1 x2 1 * b p x1 x2 4, b p x1 x2 2 * b p x1 x2 2, b p x1 x2 2 * b p x1 x2 3, b p x1 x2 2 * b p x1 x2 4, b p x1 x2 3 * b p x1 x2 3, b p x1 x2 3 * b p x1 x2 4, b p x1 x2 4 * b p x1 x2 4, lvLo x1 x2, lvHi x1 x2, x1 / 11, x2 / 11, x1 % 11, x2 % 11, p 0 0, p 1 0, p 1 1, p 2 0, p 2 1, p 2 2, p 3 0, p 3 1, p 3 2, p 3 3, y 0, y 1, y 2, y 3, y 4]
abbrev val : Val := ⟨nth (lst p y x1 x2), fun _ => .nilFunc⟩
theorem ha (i : Nat) : 0 ≤ a p x1 x2 i ∧ a p x1 x2 i ≤ 10000 := Nf_b p (lvLo x1 x2 - 5) 4 i
theorem hb' (i : Nat) : 0 ≤ b p x1 x2 i ∧ b p x1 x2 i ≤ 10000 := Nf_b p (lvHi x1 x2 - 5) 4 i
variable {p y x1 x2} (hp : ∀ r k, r < 4 → k ≤ r → 0 ≤ p r k ∧ p r k ≤ 10) (hy : ∀ i, i < 5 → 0 ≤ y i ∧ y i ≤ 500) (h1 : 0 ≤ x1 ∧ x1 ≤ 255) (h2 : 0 ≤ x2 ∧ x2 ≤ 255)
theorem gp (i j : Nat) : In64 (a p x1 x2 i * a p x1 x2 j) := in64 (PB (ha p x1 x2 i) (ha p x1 x2 j)) (by decide)
theorem gq (i j : Nat) : In64 (b p x1 x2 i * b p x1 x2 j) := in64 (PB (hb' p x1 x2 i) (hb' p x1 x2 j)) (by decide)
include hp hy h1 h2
theorem all : AllB BB (lst p y x1 x2) := ⟨ha p x1 x2 0, ha p x1 x2 1, ha p x1 x2 2, ha p x1 x2 3, ha p x1 x2 4, hb' p x1 x2 0, hb' p x1 x2 1, hb' p x1 x2 2, hb' p x1 x2 3, hb' p x1 x2 4, PB (ha p x1 x2 0) (ha p x1 x2 0), PB (ha p x1 x2 0) (ha p x1 x2 1), PB (ha p x1 x2 0) (ha p x1 x2 2), PB (ha p x1 x2 0) (ha p x1 x2 3), PB (ha p x1 x2 0) (ha p x1 x2 4), PB (ha p x1 x2 1) (ha p x1 x2 1), PB (ha p x1 x2 1) (ha p x1 x2 2), PB (ha p x1 x2 1) (ha p x1 x2 3), PB (ha p x1 x2 1) (ha p x1 x2 4), PB (ha p x1 x2 2) (ha p x1 x2 2), PB (ha p x1 x2 2) (ha p x1 x2 3), PB (ha p x1 x2 2) (ha p x1 x2 4), PB (ha p x1 x2 3) (ha p x1 x2 3), PB (ha p x1 x2 3) (ha p x1 x2 4), PB (ha p x1 x2 4) (ha p x1 x2 4), PB (hb' p x1 x2 0) (hb' p x1 x2 0), PB (hb' p x1 x2 0) (hb' p x1 x2 1), PB (hb' p x1 x2 0) (hb' p x1 x2 2), PB (hb' p x1 x2 0) (hb' p x1 x2 3), PB (hb' p x1 x2 0) (hb' p x1 x2 4), PB (hb' p x1 x2 1) (hb' p x1 x2 1), PB (hb' p x1 x2 1) (hb' p x1 x2 2), PB (hb' p x1 x2 1) (hb' p x1 x2 3), PB (hb' p x1 x2 1) (hb' p x1 x2 4), PB (hb' p x1 x2 2) (hb' p x1 x2 2), PB (hb' p x1 x2 2) (hb' p x1 x2 3), PB (hb' p x1 x2 2) (hb' p x1 x2 4), PB (hb' p x1 x2 3) (hb' p x1 x2 3), PB (hb' p x1 x2 3) (hb' p x1 x2 4), PB (hb' p x1 x2 4) (hb' p x1 x2 4), lvLo_b x1 x2, lvHi_b x1 x2, ⟨by show _ ≤ _; omega, by show _ ≤ _; omega⟩, ⟨by show _ ≤ _; omega, by show _ ≤ _; omega⟩, ⟨by show _ ≤ _; omega, by show _ ≤ _; omega⟩, ⟨by show _ ≤ _; omega, by show _ ≤ _; omega⟩, hp 0 0 (by decide) (by decide), hp 1 0 (by decide) (by decide), hp 1 1 (by decide) (by decide), hp 2 0 (by decide) (by decide), hp 2 1 (by decide) (by decide), hp 2 2 (by decide) (by decide), hp 3 0 (by decide) (by decide), hp 3 1 (by decide) (by decide), hp 3 2 (by decide) (by decide), hp 3 3 (by decide) (by decide), hy 0 (by decide), hy 1 (by decide), hy 2 (by decide), hy 3 (by decide), hy 4 (by decide), trivial⟩
set_option maxHeartbeats 4000000 in
set_option maxRecDepth 100000 in
theorem orcOK : @OrcOK (val p y x1 x2) (mapE BB en (mapC BB ec)) := by
  letI := val p y x1 x2
  exact orc_of (all hp hy h1 h2) (fun _ _ => rfl) (by kernel_rfl) (by kernel_rfl) ⟨rfl, rfl, ⟨rfl, gp 0 0⟩, ⟨rfl, gp 0 1⟩, ⟨rfl, gp 0 2⟩, ⟨rfl, gp 0 3⟩, ⟨rfl, gp 0 4⟩, ⟨Int.mul_comm _ _, gp 0 1⟩, ⟨rfl, gp 1 1⟩, ⟨rfl, gp 1 2⟩, ⟨rfl, gp 1 3⟩, ⟨rfl, gp 1 4⟩, ⟨Int.mul_comm _ _, gp 0 2⟩, ⟨Int.mul_comm _ _, gp 1 2⟩, ⟨rfl, gp 2 2⟩, ⟨rfl, gp 2 3⟩, ⟨rfl, gp 2 4⟩, ⟨Int.mul_comm _ _, gp 0 3⟩, ⟨Int.mul_comm _ _, gp 1 3⟩, ⟨Int.mul_comm _ _, gp 2 3⟩, ⟨rfl, gp 3 3⟩, ⟨rfl, gp 3 4⟩, ⟨Int.mul_comm _ _, gp 0 4⟩, ⟨Int.mul_comm _ _, gp 1 4⟩, ⟨Int.mul_comm _ _, gp 2 4⟩, ⟨Int.mul_comm _ _, gp 3 4⟩, ⟨rfl, gp 4 4⟩, ⟨rfl, gq 0 0⟩, ⟨rfl, gq 0 1⟩, ⟨rfl, gq 0 2⟩, ⟨rfl, gq 0 3⟩, ⟨rfl, gq 0 4⟩, ⟨Int.mul_comm _ _, gq 0 1⟩, ⟨rfl, gq 1 1⟩, ⟨rfl, gq 1 2⟩, ⟨rfl, gq 1 3⟩, ⟨rfl, gq 1 4⟩, ⟨Int.mul_comm _ _, gq 0 2⟩, ⟨Int.mul_comm _ _, gq 1 2⟩, ⟨rfl, gq 2 2⟩, ⟨rfl, gq 2 3⟩, ⟨rfl, gq 2 4⟩, ⟨Int.mul_comm _ _, gq 0 3⟩, ⟨Int.mul_comm _ _, gq 1 3⟩, ⟨Int.mul_comm _ _, gq 2 3⟩, ⟨rfl, gq 3 3⟩, ⟨rfl, gq 3 4⟩, ⟨Int.mul_comm _ _, gq 0 4⟩, ⟨Int.mul_comm _ _, gq 1 4⟩, ⟨Int.mul_comm _ _, gq 2 4⟩, ⟨Int.mul_comm _ _, gq 3 4⟩, ⟨rfl, gq 4 4⟩, trivial⟩ ⟨(sq _ _ _ _ _ (sm p (lvLo x1 x2 - 5))), (sq _ _ _ _ _ (sm p (lvHi x1 x2 - 5))), sqle2 (sq _ _ _ _ _ (sm p (lvHi x1 x2 - 5))) (sq _ _ _ _ _ (sm p (lvLo x1 x2 - 5))) (ha p x1 x2 4).1 (Nf_mono p (lohi x1 x2) 4), trivial⟩
set_option maxHeartbeats 2000000 in
theorem ok_wlo [Bet] : @WOK (val p y x1 x2) _ Tryz.prog wlo :=
  wok_of (e := wlo) (V1 := val p y x1 x2) (V2 := S4.val p y (lvLo x1 x2 - 5)) (l1 := ll) (l2 := S4.ll) (args2 := S4.args) (cs2 := S4.cs) (S4.orcOK hp (lo5 x1 x2) hy) S4.wr rfl (by kernel_rfl) S4.mk
    ⟨⟨Imp.sl _ _ _, Imp.sl _ _ _, Imp.sl _ _ _, Imp.sl _ _ _, trivial⟩,
    imps_sy (S4.all hp (lo5 x1 x2) hy) (fun _ _ => rfl) (by kernel_rfl) (by kernel_rfl) ⟨rfl, trivial⟩,
    imps_sy (S4.all hp (lo5 x1 x2) hy) (fun _ _ => rfl) (by kernel_rfl) (by kernel_rfl) ⟨rfl, rfl, trivial⟩,
    imps_sy (S4.all hp (lo5 x1 x2) hy) (fun _ _ => rfl) (by kernel_rfl) (by kernel_rfl) ⟨rfl, rfl, rfl, trivial⟩,
    imps_sy (S4.all hp (lo5 x1 x2) hy) (fun _ _ => rfl) (by kernel_rfl) (by kernel_rfl) ⟨rfl, rfl, rfl, rfl, trivial⟩,
    imps_sy (S4.all hp (lo5 x1 x2) hy) (fun _ _ => rfl) (by kernel_rfl) (by kernel_rfl) ⟨rfl, rfl, rfl, rfl, rfl, trivial⟩,
    trivial⟩
    ⟨Imp.agg ⟨Imp.sl _ _ _, Imp.sl _ _ _, trivial⟩, Imp.num rfl rfl (@Fo.bnd (S4.val p y (lvLo x1 x2 - 5)) _ _ (S4.all hp (lo5 x1 x2) hy) (fun _ _ => rfl) (.s 0)) (by
      rw [@fo_num (val p y x1 x2) _ _ _ (by kernel_rfl), @fo_num (S4.val p y (lvLo x1 x2 - 5)) _ _ _ (by kernel_rfl)]
      show -5 + (1 * lvLo x1 x2 + 0) = 0 + (1 * (lvLo x1 x2 - 5) + 0)
      omega), trivial⟩
    (imps_sy (B1 := S4.BB) (B2 := BB) (is := [46, 47, 48, 49, 50]) (js := [0, 1, 2, 3, 4]) (all hp hy h1 h2) (fun _ _ => rfl) (by kernel_rfl) (by kernel_rfl) ⟨rfl, rfl, rfl, rfl, rfl, trivial⟩) rfl (by kernel_rfl) (by kernel_rfl) (by kernel_rfl)
set_option maxHeartbeats 2000000 in
theorem ok_whi [Bet] : @WOK (val p y x1 x2) _ Tryz.prog whi :=
  wok_of (e := whi) (V1 := val p y x1 x2) (V2 := S4.val p y (lvHi x1 x2 - 5)) (l1 := ll) (l2 := S4.ll) (args2 := S4.args) (cs2 := S4.cs) (S4.orcOK hp (hi5 x1 x2) hy) S4.wr rfl (by kernel_rfl) S4.mk
    ⟨⟨Imp.sl _ _ _, Imp.sl _ _ _, Imp.sl _ _ _, Imp.sl _ _ _, trivial⟩,
    imps_sy (S4.all hp (hi5 x1 x2) hy) (fun _ _ => rfl) (by kernel_rfl) (by kernel_rfl) ⟨rfl, trivial⟩,
    imps_sy (S4.all hp (hi5 x1 x2) hy) (fun _ _ => rfl) (by kernel_rfl) (by kernel_rfl) ⟨rfl, rfl, trivial⟩,
    imps_sy (S4.all hp (hi5 x1 x2) hy) (fun _ _ => rfl) (by kernel_rfl) (by kernel_rfl) ⟨rfl, rfl, rfl, trivial⟩,
    imps_sy (S4.all hp (hi5 x1 x2) hy) (fun _ _ => rfl) (by kernel_rfl) (by kernel_rfl) ⟨rfl, rfl, rfl, rfl, trivial⟩,
    imps_sy (S4.all hp (hi5 x1 x2) hy) (fun _ _ => rfl) (by kernel_rfl) (by kernel_rfl) ⟨rfl, rfl, rfl, rfl, rfl, trivial⟩,
    trivial⟩
    ⟨Imp.agg ⟨Imp.sl _ _ _, Imp.sl _ _ _, trivial⟩, Imp.num rfl rfl (@Fo.bnd (S4.val p y (lvHi x1 x2 - 5)) _ _ (S4.all hp (hi5 x1 x2) hy) (fun _ _ => rfl) (.s 0)) (by
      rw [@fo_num (val p y x1 x2) _ _ _ (by kernel_rfl), @fo_num (S4.val p y (lvHi x1 x2 - 5)) _ _ _ (by kernel_rfl)]
      show -5 + (1 * lvHi x1 x2 + 0) = 0 + (1 * (lvHi x1 x2 - 5) + 0)
      omega), trivial⟩
    (imps_sy (B1 := S4.BB) (B2 := BB) (is := [46, 47, 48, 49, 50]) (js := [5, 6, 7, 8, 9]) (all hp hy h1 h2) (fun _ _ => rfl) (by kernel_rfl) (by kernel_rfl) ⟨rfl, rfl, rfl, rfl, rfl, trivial⟩) rfl (by kernel_rfl) (by kernel_rfl) (by kernel_rfl)
theorem fin (hl : ∀ f ∈ [21], YesFn Tryz.prog f) {W : World} {A A' : Addr} {As : Nat → Addr} {c c' : Nat} {cs : Nat → Nat} (hb : BrdN W 4 A A' As c c' cs p y) :
    CallsIn (Fro none) 0 Tryz.prog 5 #[.agg #[.slice (some A) 4 c, .slice (some A') 5 c'], .int .u8 x1, .int .u8 x2] W (Yes W) := by
  letI : Val := val p y x1 x2
  letI : Bet := bet0
  have hA := all hp hy h1 h2
  have g0 : VRs phi0 r0 ((List.range 1).map fun k => Value.int .i64 (p 0 k)) := vrs_sy (ns := [p 0 0]) hA (fun _ _ => rfl) (by kernel_rfl) ⟨rfl, trivial⟩
  have g1 : VRs phi0 r1 ((List.range 2).map fun k => Value.int .i64 (p 1 k)) := vrs_sy (ns := [p 1 0, p 1 1]) hA (fun _ _ => rfl) (by kernel_rfl) ⟨rfl, rfl, trivial⟩
  have g2 : VRs phi0 r2 ((List.range 3).map fun k => Value.int .i64 (p 2 k)) := vrs_sy (ns := [p 2 0, p 2 1, p 2 2]) hA (fun _ _ => rfl) (by kernel_rfl) ⟨rfl, rfl, rfl, trivial⟩
  have g3 : VRs phi0 r3 ((List.range 4).map fun k => Value.int .i64 (p 3 k)) := vrs_sy (ns := [p 3 0, p 3 1, p 3 2, p 3 3]) hA (fun _ _ => rfl) (by kernel_rfl) ⟨rfl, rfl, rfl, rfl, trivial⟩
  have gy : VRs phi0 py ((List.range 5).map fun i => Value.int .i64 (y i)) := vrs_sy (ns := [y 0, y 1, y 2, y 3, y 4]) hA (fun _ _ => rfl) (by kernel_rfl) ⟨rfl, rfl, rfl, rfl, rfl, trivial⟩
  obtain ⟨hR, hz, hg⟩ := hb.r (rs := [r0, r1, r2, r3]) (py := py) mk rfl (fun r xs h => by
    match r, h with
    | 0, h => cases h; exact g0
    | 1, h => cases h; exact g1
    | 2, h => cases h; exact g2
    | 3, h => cases h; exact g3
    | r + 4, h => simp at h) gy
  exact callsIn_frzW (orcOK hp hy h1 h2) hl E5.hms E5.hns (fun e he => by
    simp only [List.mem_cons, List.not_mem_nil, or_false] at he
    rcases he with rfl | rfl
    · exact ok_wlo hp hy h1 h2
    · exact ok_whi hp hy h1 h2) hR hz rn (.cons _ _ _ _ hg (.cons _ _ _ _ (.lin _ _ _ _ (by
      rw [dn_S BB _ 0 (by kernel_rfl)]
      show x1 = 0 + (11 * (x1 / 11) + (1 * (x1 % 11) + 0))
      omega) (dn_B BB _ _ 0 hA fun j _ => by rw [Nat.zero_add]; rfl)) (.cons _ _ _ _ (.lin _ _ _ _ (by
      rw [dn_S BB _ 0 (by kernel_rfl)]
      show x2 = 0 + (11 * (x2 / 11) + (1 * (x2 % 11) + 0))
      omega) (dn_B BB _ _ 0 hA fun j _ => by rw [Nat.zero_add]; rfl)) .nil))) 0
end
end M4
end Go.Proofs.YtibmpjhffeinoaaGreat.Kx
