/-
  The reference's Bound, and the law's stocks.
-/
import Derived.Test.YtloibnmhgocboaaR3
import Derived.Test.YtloibnmhgocboaaQuiet
import Derived.Test.YtloibnmhgocboaaLw2
import Derived.Test.YtloibnmhgocboaaFaS
namespace Go.Proofs.Ytloibnmhgocboaa
open Go.RowKit

set_option maxRecDepth 100000 in
set_option maxHeartbeats 2000000 in
theorem rBoundNo (A : Option Addr) (n c B : Nat) (v : List Int) (D : Option Addr) (c2 B2 : Nat) (st : List Int) (w : World) (hx : Ri w B A n v) (hy : Ri w B2 D n st) (hn : n ≤ 1048576) (HB : Hid (∀ i : Nat, i < n → nth v i ≤ nth st i)) :
    Calls Try.prog 55 #[.slice A n c, .slice D n c2] w fun e w' => e = .returned (.bool false) ∧ ∃ d, w' = w.drewN d := by
  go_enter Try.func55, Try.ntmps55
  go_wp2
  go_loopw [5] (fun i wr => ∃ k d : Nat, k ≤ n ∧ i = .int .i64 k ∧ wr = w.drewN d) (fun i _ => n - (intOf i).toNat)
  case atStart => exact ⟨0, 0, Nat.zero_le _, rfl, rfl⟩
  case round =>
    obtain ⟨k, d, hk, rfl, rfl⟩ := hrel
    by_cases hlt : k < n
    · obtain ⟨ad, x, hA, _, hcx, hxk, _⟩ := hx.at_ hlt
      subst hA
      obtain ⟨ad2, y, hD, _, hcy, hyk, _⟩ := hy.at_ hlt
      subst hD
      have hxy : x ≤ y := by rw [← nth_some hxk.out, ← nth_some hyk.out]; exact HB.out k hlt
      have hxy2 : ¬ y < x := by omega
      go_wp2
      go_quiet (fail)
      go_wp2
      go_roundw
      case rel => exact ⟨k + 1, _, by omega, by go_num, rfl⟩
      case measure => simp [intOf]; omega
    · go_wp2
      go_ret
      exact ⟨rfl, d, rfl⟩

set_option maxRecDepth 100000 in
set_option maxHeartbeats 2000000 in
theorem aStocked (A : Option Addr) (n c : Nat) (D : Option Addr) (nb cb : Nat) (bs : List Int) (w : World) (hy : Ru w w.heap.size D nb bs) (hn : n ≤ 1048576) (hnb : nb ≤ 10) :
    Calls Try.prog 54 #[.slice A n c, .slice D nb cb] w (RetL w (stockL n bs)) := by
  have HL := Lib.hid hy.len
  go_enter Try.func54, Try.ntmps54
  go_wp2
  go_loopw [5, 6] (fun o i wr => ∃ (k c' : Nat) (A' : Option Addr), k ≤ n ∧ i = .int .i64 k ∧ o = .slice A' k c' ∧ Oi wr w.heap.size A' k c' (stockL k bs) ∧ Below w.heap.size w wr) (fun _ i _ => n - (intOf i).toNat)
  case atStart => exact ⟨0, 0, none, Nat.zero_le _, rfl, rfl, Oi.nil_ _ _, Below.refl _ _⟩
  case round =>
    obtain ⟨k, c', A', hk, rfl, rfl, ho, hb⟩ := hrel
    have hsz := hb.size
    by_cases hlt : k < n
    · have HS := Lib.hid (stockL_succ k bs)
      obtain ⟨L, HLE⟩ : ∃ L, Hid (stockL k bs = L) := ⟨_, Lib.hid rfl⟩
      rw [HLE.out] at ho
      by_cases hb0 : nb = 0
      · subst hb0
        have HS2 : Hid (stockL (k + 1) bs = L ++ [0]) := Lib.hid (by rw [HS.out, HLE.out, if_pos HL.out])
        go_wp2_with (at_builtin; refine push_int rfl (.tmp 26) (.tmp 28) rfl (w.heap.size) A' k c' (L) rfl (ho.alloc _) ⟨wr.heap.size, 0, none⟩ 1 _ rfl (cell_new1 _ _ _) (by omega) (by simp only [World.size_alloc]; omega) ?_; intro g cap w1 hown1 hgrow1)
        go_roundw
        case rel => exact ⟨k + 1, _, _, by omega, by go_num, rfl, by rw [HS2.out]; exact hown1, ho.pushed hb hsz (Nat.le_refl _) hgrow1⟩
        case measure => simp [intOf]; omega
      · obtain ⟨p, HP⟩ : ∃ p, Hid (k % nb = p) := ⟨_, Lib.hid rfl⟩
        have hp : p < nb := by rw [← HP.out]; exact Nat.mod_lt _ (by omega)
        have hm2 : (k : Int) % (nb : Int) = (p : Int) := by rw [← HP.out]; simp
        have hm1 : (k : Int).tmod (nb : Int) = (p : Int) := (Int.tmod_eq_emod_of_nonneg (by omega)).trans hm2
        have hm3 : IntKind.i64.wrap (p : Int) = p := IntWalk.i64_in _ (by omega)
        have hf0 : ((nb : Int) == 0) = false := by simp; omega
        have hnp : (0 : Int) < (nb : Int) := by omega
        obtain ⟨ad, x, hD, hadb, hcx, hx0, hx1, hxp⟩ := hy.at_ hp
        subst hD
        have hcx1 : wr.cell? (ad.add p) = some (.int .u8 x) := (hb.cell (by rw [addr_block]; exact hadb)).trans hcx
        clear hcx
        obtain ⟨y, HY⟩ : ∃ y, Hid (x % 21 = y) := ⟨_, Lib.hid rfl⟩
        have hy2 : x % 21 = y := HY.out
        have hy1 : x.tmod 21 = y := (Int.tmod_eq_emod_of_nonneg hx0).trans HY.out
        have hyb : 0 ≤ y ∧ y ≤ 20 := by rw [← HY.out]; omega
        have hwx : IntKind.i64.wrap x = x := IntWalk.i64_in _ (by omega)
        have hwy : IntKind.i64.wrap y = y := IntWalk.i64_in _ (by omega)
        have HS2 : Hid (stockL (k + 1) bs = L ++ [y]) := Lib.hid (by rw [HS.out, HLE.out, if_neg (by rw [HL.out]; exact hb0), HL.out, HP.out, nth_some hxp.out, HY.out])
        go_wp2_with (at_builtin; refine push_int rfl (.tmp 26) (.tmp 28) rfl (w.heap.size) A' k c' (L) rfl (ho.alloc _) ⟨wr.heap.size, 0, none⟩ 1 _ rfl (cell_new1 _ _ _) (by omega) (by simp only [World.size_alloc]; omega) ?_; intro g cap w1 hown1 hgrow1)
        go_roundw
        case rel => exact ⟨k + 1, _, _, by omega, by go_num, rfl, by rw [HS2.out]; exact hown1, ho.pushed hb hsz (Nat.le_refl _) hgrow1⟩
        case measure => simp [intOf]; omega
    · obtain rfl : k = n := by omega
      go_wp2
      go_ret
      exact ⟨_, _, _, rfl, ho, hb⟩
end Go.Proofs.Ytloibnmhgocboaa
