import Derived.Test.YtloibnmhgocboaaLw1
import Derived.Test.YtloibnmhgocboaaFaP
namespace Go.Proofs.Ytloibnmhgocboaa
open Go.RowKit

/-- A slice of uint8 that is read. -/
def Ru (w : World) (B : Nat) (A : Option Addr) (n : Nat) (xs : List Int) : Prop := Rd w B 1 A n (xs.map (Value.int .u8)) ∧ ∀ x ∈ xs, 0 ≤ x ∧ x ≤ 255
section
variable {w w' : World} {B B' n : Nat} {A : Option Addr} {xs : List Int}
theorem Ru.len (h : Ru w B A n xs) : xs.length = n := by have := h.1.1; rw [List.length_map, Nat.mul_one] at this; exact this
theorem Ru.at_ (h : Ru w B A n xs) {k : Nat} (hk : k < n) : ∃ ad x, A = some ad ∧ ad.block < B ∧ w.cell? (ad.add k) = some (.int .u8 x) ∧ 0 ≤ x ∧ x ≤ 255 ∧ Hid (xs[k]? = some x) := by
  obtain ⟨ad, e, hb, hc⟩ := h.1.2 (Nat.lt_of_le_of_lt (Nat.zero_le _) hk)
  have hl : k < xs.length := by rw [h.len]; exact hk
  have hl' : k < (xs.map (Value.int .u8)).length := by rw [List.length_map]; exact hl
  have hbd := h.2 xs[k] (List.getElem_mem hl)
  refine ⟨ad, xs[k], e, hb, ?_, hbd.1, hbd.2, Lib.hid (List.getElem?_eq_getElem hl)⟩
  rw [hc k hl']
  simp
theorem Ru.below (h : Ru w B A n xs) (hb : Below B w w') : Ru w' B A n xs := ⟨h.1.below hb, h.2⟩
theorem Ru.next (h : Ru w B A n xs) (hb : Below B' w w') (hle : B ≤ B') (hle2 : B' ≤ w'.heap.size) : Ru w' w'.heap.size A n xs := ⟨h.1.next hb hle hle2, h.2⟩
end
theorem u8_bd {x : Int} (h : (Lit.int .u8 x).wf = true) : 0 ≤ x ∧ x ≤ 255 := by
  simp [Lit.wf] at h
  have h1 : IntKind.u8.min = 0 := by decide
  have h2 : IntKind.u8.max = 255 := by decide
  omega
theorem u8_lo {x : Int} (h : (Lit.int .u8 x).wf = true) : 0 ≤ x := (u8_bd h).1
theorem u8_hi {x : Int} (h : (Lit.int .u8 x).wf = true) : x ≤ 255 := (u8_bd h).2
theorem Ru.of_row {w : World} {B n : Nat} {A : Option Addr} {xs : List Int} (h : Rd w B 1 A n (xs.map (Value.int .u8))) (hw : ∀ x ∈ xs, (Lit.int .u8 x).wf = true) : Ru w B A n xs := ⟨h, fun x hx => by
  have := hw x hx
  simp [Lit.wf] at this
  have h1 : IntKind.u8.min = 0 := by decide
  have h2 : IntKind.u8.max = 255 := by decide
  omega⟩
theorem u16_bd {x : Int} (h : (Lit.int .u16 x).wf = true) : 0 ≤ x ∧ x ≤ 65535 := by
  simp [Lit.wf] at h
  have h1 : IntKind.u16.min = 0 := by decide
  have h2 : IntKind.u16.max = 65535 := by decide
  omega
theorem u16_lo {x : Int} (h : (Lit.int .u16 x).wf = true) : 0 ≤ x := (u16_bd h).1
theorem u16_hi {x : Int} (h : (Lit.int .u16 x).wf = true) : x ≤ 65535 := (u16_bd h).2
theorem aFin (A : Option Addr) (n c B : Nat) (cs : List Int) (w : World) (hx : Ri w B A n cs) (r : Bool) (HR : Hid (decide (checkCoins cs = 0) = r)) : Calls Try.prog 49 #[.slice A n c] w fun e w' => e = .returned (.bool r) ∧ ∃ d, w' = w.drewN d := by
  have HL := Lib.hid hx.len
  by_cases hg : 10 < n
  · have HG : Hid (decide (10 < n) = true) := Lib.hid (decide_eq_true hg)
    have HE : Hid (r = false) := Lib.hid (by
      rw [← HR.out]
      refine decide_eq_false fun h => ?_
      have := (checkCoins_good.1 h).hi
      rw [HL.out] at this
      omega)
    go_enter Try.func49, Try.ntmps49
    go_wp2_with fail
    refine (aGreat _ _ _ _ _ HG).mono ?_
    rintro e w' ⟨rfl, rfl⟩
    go_wp2
    go_ret
    exact ⟨ret_b HE.out.symm, 0, rfl⟩
  · exact aFine A n c B cs w hx (by omega) r HR
theorem aAmt (x : Int) (h0 : 0 ≤ x) (h1 : x ≤ 65535) (N : Nat) (HN : Hid (x % 301 = (N : Int))) (w : World) : Calls Try.prog 50 #[.int .u16 x] w fun e w' => e = .returned (.int .i64 (N : Int)) ∧ w = w' := by
  have hw0 : IntKind.i64.wrap x = x := IntWalk.i64_in _ (by omega)
  have e1 : x.tmod 301 = (N : Int) := (Int.tmod_eq_emod_of_nonneg h0).trans HN.out
  have hw1 : IntKind.i64.wrap (N : Int) = (N : Int) := IntWalk.i64_in _ (by have := HN.out; omega)
  have e2 : x % 301 = (N : Int) := HN.out
  go_enter Try.func50, Try.ntmps50
  go_wp2
  go_ret
  exact ⟨rfl, rfl⟩
theorem Ri.take_ {w : World} {B n k : Nat} {A : Option Addr} {xs : List Int} (h : Ri w B A n xs) (hk : k ≤ n) : Ri w B A k (xs.take k) := by
  have hl := h.len
  refine ⟨by rw [ints_length, List.length_take]; omega, fun h0 => ?_⟩
  obtain ⟨ad, e, hb, hc⟩ := h.2 (by omega)
  refine ⟨ad, e, hb, fun j hj => ?_⟩
  have hj2 : j < (ints xs).length := by rw [ints_length, List.length_take] at hj; rw [ints_length]; omega
  rw [hc j hj2]
  simp [ints]
/-- The greatest number that divides both. -/
theorem aGcd (a b : Nat) (ha : a ≤ 1000) (hb : b ≤ 1000) (w : World) (g : Nat) (HGC : Hid (Nat.gcd a b = g)) : Calls Try.prog 52 #[.int .i64 a, .int .i64 b] w fun e w' => e = .returned (.int .i64 g) ∧ ∃ d, w' = w.drewN d := by
  go_enter Try.func52, Try.ntmps52
  go_wp2
  go_loopw [0, 1] (fun s t wr => ∃ p q d : Nat, p ≤ 1000 ∧ q ≤ 1000 ∧ s = .int .i64 (p : Int) ∧ t = .int .i64 (q : Int) ∧ wr = w.drewN d ∧ Hid (Nat.gcd p q = g)) (fun _ t _ => (intOf t).toNat)
  case atStart => exact ⟨a, b, 0, ha, hb, rfl, rfl, rfl, HGC⟩
  case round =>
    obtain ⟨p, q, d, hp, hq, rfl, rfl, rfl, HI⟩ := hrel
    by_cases h0 : q = 0
    · subst h0
      have HE : Hid (p = g) := Lib.hid (by rw [← HI.out, Nat.gcd_zero_right])
      go_wp2
      go_ret
      exact ⟨ret_i (by rw [HE.out]), d, rfl⟩
    · obtain ⟨r, HRR⟩ : ∃ r, Hid (p % q = r) := ⟨_, Lib.hid rfl⟩
      have hr : r < q := by rw [← HRR.out]; exact Nat.mod_lt _ (by omega)
      have hq0 : ((q : Int) == 0) = false := by simp; omega
      have hq1 : ((q : Int) != 0) = true := by simp; omega
      have hm1 : (p : Int).tmod (q : Int) = (r : Int) := by rw [Int.tmod_eq_emod_of_nonneg (by omega), ← HRR.out]; simp
      have hm2 : (p : Int) % (q : Int) = (r : Int) := by rw [← HRR.out]; simp
      have hm3 : IntKind.i64.wrap (r : Int) = r := IntWalk.i64_in _ (by omega)
      have HI2 : Hid (Nat.gcd q r = g) := Lib.hid (by rw [← HRR.out, ← HI.out, Nat.gcd_comm p q, Nat.gcd_rec q p, Nat.gcd_comm])
      go_wp2
      go_quiet (fail)
      go_wp2
      go_roundw
      case rel => exact ⟨q, r, _, hq, by omega, rfl, rfl, drew2 _ _ _, HI2⟩
      case measure => simp [intOf]; omega
end Go.Proofs.Ytloibnmhgocboaa
