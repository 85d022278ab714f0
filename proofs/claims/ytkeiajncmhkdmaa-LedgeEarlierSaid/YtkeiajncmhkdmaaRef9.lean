import Derived.Test.YtkeiajncmhkdmaaRefA
import Derived.Test.YtkeiajncmhkdmaaPL
namespace Go.Proofs.Ytkeiajncmhkdmaa
open Go.RowKit

set_option maxHeartbeats 1000000 in
theorem rRoundOf (b : Nat) (A : Option Addr) (n c : Nat) (ds : List Int) (w : World) (hx : Ri w w.heap.size A n ds) (hv : Valid (b : Int) ds) (hnb : n ≤ b) :
    Calls Try.prog 68 #[.int .i64 (b : Int), .slice A n c] w fun e w' =>
      ∃ (A' : Option Addr) (c' : Nat), e = .returned (.tuple #[.slice A' n c', .int .i64 (runW true (b : Int) ds).2]) ∧ Oi w' w.heap.size A' n c' (runW true (b : Int) ds).1 ∧ Below w.heap.size w w' := by
  have HL := Lib.hid hx.len
  have h1 := hv.lo
  have h2 := hv.hi
  have hb8 : b ≤ 8 := by omega
  have HIN : Hid (∀ d ∈ ds, 0 ≤ d ∧ d < (b : Int)) := Lib.hid hv.all
  go_enter Try.func68, Try.ntmps68
  go_wp2
  go_loopw [6, 7, 8, 9] (fun o s i _ wr => ∃ (k : Nat) (A' : Option Addr) (c' : Nat), k ≤ n ∧ i = .int .i64 k ∧ s = .int .i64 (runW true (b : Int) (ds.take k)).2 ∧ o = .slice A' k c' ∧
      Oi wr w.heap.size A' k c' (runW true (b : Int) (ds.take k)).1 ∧ Below w.heap.size w wr) (fun _ _ i _ _ => n - (intOf i).toNat)
  case atStart => exact ⟨0, none, 0, Nat.zero_le _, rfl, rfl, rfl, Oi.nil_ _ _, Below.refl _ _⟩
  case round =>
    obtain ⟨k, A', c', hk, rfl, rfl, rfl, ho, hb⟩ := hrel
    by_cases hlt : k < n
    · obtain ⟨ad, d, rfl, hadb, hc0, hxk, _⟩ := hx.at_ hlt
      have hc : wr.cell? (ad.add k) = some (.int .i64 d) := (hb.cell (by rw [addr_block]; exact hadb)).trans hc0
      have hd := HIN.out d (List.mem_of_getElem? hxk.out)
      clear hc0
      have hfb := runW_far hb8 true (ds.take k) (fun x hx => HIN.out x (List.mem_of_mem_take hx))
      have hkl : (ds.take k).length ≤ 12 := by rw [List.length_take]; omega
      obtain ⟨L, HLE⟩ : ∃ L, Hid (L = (runW true (b : Int) (ds.take k)).1) := ⟨_, Lib.hid rfl⟩
      obtain ⟨s, HSE⟩ : ∃ s, Hid (s = (runW true (b : Int) (ds.take k)).2) := ⟨_, Lib.hid rfl⟩
      have HX : Hid (runW true (b : Int) (ds.take (k + 1)) = (L ++ [wlie (b : Int) L d], s + wfar (b : Int) L d)) := Lib.hid (by rw [runW_step hxk.out, HLE.out, HSE.out]; rfl)
      rw [← HLE.out] at ho
      rw [← HSE.out] at hfb ⊢
      have hroom : L.length < b := by rw [ho.len]; omega
      have hbpos : 1 ≤ (b : Int) := by omega
      have hsz := hb.size
      go_wp2
      go_loop [9, 7] (fun t r => ∃ q z : Int, t = .int .i64 q ∧ r = .int .i64 z ∧ 0 ≤ q ∧ q < (b : Int) ∧ s ≤ z ∧ z < s + 2 * (b : Int) ∧ Hid (WGo (b : Int) L d s q z)) (fun _ r => (s + 2 * (b : Int) - intOf r).toNat)
      case atStart => exact ⟨d, s, rfl, rfl, by omega, by omega, by omega, by omega, Lib.hid (WGo.start hd)⟩
      case round =>
        obtain ⟨q, z, rfl, rfl, hq1, hq2, hz1, hz2, hgo⟩ := hrel
        by_cases hm : q ∈ L
        · have HN := Lib.hid (hgo.out.step hm hroom)
          have hbd := HN.out.bd hd
          go_wp2_with (go_at_call 45; refine (has_any _ _ _ _ _ _ _ ho.ri (by omega)).mono ?_; rintro e w' ⟨rfl, rfl⟩)
          go_round
          case rel => exact ⟨_, _, rfl, rfl, HN.out.1, HN.out.2.1, by omega, by omega, HN⟩
          case measure => simp [intOf]; omega
        · have HD := Lib.hid (hgo.out.done hm)
          go_wp2_with (first
            | (go_at_call 45; refine (has_any _ _ _ _ _ _ _ ho.ri (by omega)).mono ?_; rintro e w' ⟨rfl, rfl⟩)
            | (at_builtin; refine push_int rfl (.tmp 29) (.tmp 31) rfl (w.heap.size) A' k c' (L) rfl (ho.alloc _) ⟨wr.heap.size, 0, none⟩ 1 _ rfl (cell_new1 _ _ _) (by omega) (by simp only [World.size_alloc]; omega) ?_; intro g cap w1 hown1 hgrow1))
          go_roundw
          case rel => exact ⟨k + 1, _, _, by omega, by go_num, by rw [HX.out, HD.out.2], rfl, by rw [HX.out, HD.out.1]; exact hown1, ho.pushed hb (by have := hb.size; omega) (Nat.le_refl _) hgrow1⟩
          case measure => simp [intOf]; omega
    · have HK : Hid (k = n) := Lib.hid (by omega)
      have HT : Hid (ds.take k = ds) := Lib.hid (List.take_of_length_le (by rw [HL.out, HK.out]; exact Nat.le_refl _))
      rw [HT.out] at ho ⊢
      go_wp2
      go_ret2
      rw [HK.out] at ho ⊢
      exact ⟨A', c', rfl, ho, hb⟩

set_option maxHeartbeats 400000 in
theorem rRound_err (p : Int) (A : Option Addr) (n c B : Nat) (ds : List Int) (w : World) (hx : Ri w B A n ds) (hn : n ≤ 1099511627776) (r : Int) (HR : Hid (checkDrops p ds = r)) (h0 : (r != 0) = true) :
    Calls Try.prog 41 #[.int .i64 p, .slice A n c] w fun e w' => e = .returned (.tuple #[.slice none 0 0, .int .i64 0, .int .i64 r]) ∧ w = w' := by
  go_enter Try.func41, Try.ntmps41
  go_wp2_with (go_at_call 24; refine (rCheckDrops _ _ _ _ _ _ _ hx hn _ HR).mono ?_; rintro e w' ⟨rfl, rfl⟩)
  go_ret3
  exact ⟨rfl, rfl⟩
set_option maxHeartbeats 400000 in
theorem rRound_many (p : Int) (A : Option Addr) (n c B : Nat) (ds : List Int) (w : World) (hx : Ri w B A n ds) (hn : n ≤ 1099511627776) (HR : Hid (checkDrops p ds = 0)) (h0 : p < (n : Int)) :
    Calls Try.prog 41 #[.int .i64 p, .slice A n c] w fun e w' => e = .returned (.tuple #[.slice none 0 0, .int .i64 0, .int .i64 10]) ∧ w = w' := by
  go_enter Try.func41, Try.ntmps41
  go_wp2_with (go_at_call 24; refine (rCheckDrops _ _ _ _ _ _ _ hx hn _ HR).mono ?_; rintro e w' ⟨rfl, rfl⟩)
  go_ret3
  exact ⟨rfl, rfl⟩
set_option maxHeartbeats 400000 in
theorem rRound_ok (b : Nat) (A : Option Addr) (n c : Nat) (ds : List Int) (w : World) (hx : Ri w w.heap.size A n ds) (hv : Valid (b : Int) ds) (hnb : n ≤ b) :
    Calls Try.prog 41 #[.int .i64 (b : Int), .slice A n c] w fun e w' => ∃ (A' : Option Addr) (c' : Nat), e = .returned (.tuple #[.slice A' n c', .int .i64 (runW true (b : Int) ds).2, .int .i64 0]) ∧ Oi w' w.heap.size A' n c' (runW true (b : Int) ds).1 ∧ Below w.heap.size w w' := by
  have HR : Hid (checkDrops (b : Int) ds = 0) := Lib.hid (checkDrops_valid.2 hv)
  have h3 : n ≤ 12 := by rw [← hx.len]; exact hv.many
  go_enter Try.func41, Try.ntmps41
  go_wp2_with (first
    | (go_at_call 24; refine (rCheckDrops _ _ _ _ _ _ _ hx (by omega) _ HR).mono ?_; rintro e w' ⟨rfl, rfl⟩)
    | (go_at_call 68; refine (rRoundOf _ _ _ _ _ _ hx hv hnb).mono ?_; rintro e w1 ⟨A', c', rfl, ho, hb⟩))
  go_ret3
  exact ⟨A', c', rfl, ho, hb⟩
end Go.Proofs.Ytkeiajncmhkdmaa
