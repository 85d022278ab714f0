import Derived.Test.YtkeiajncmhkdmaaRefC
import Derived.Test.YtkeiajncmhkdmaaL17
import Derived.Test.YtkeiajncmhkdmaaQuiet
namespace Go.Proofs.Ytkeiajncmhkdmaa
open Go.RowKit Go.Shelf

theorem rWays_many (p : Int) (A : Option Addr) (n c : Nat) (w : World) (hp : p < 1 ∨ 8 < p) :
    Calls Try.prog 39 #[.int .i64 p, .slice A n c] w fun e w' => e = .returned (.tuple #[.int .i64 0, .int .i64 6]) ∧ w = w' := by
  go_enter Try.func39, Try.ntmps39
  go_wp2_with (go_at_call 53; refine (rCheckPlaces_bad _ hp _).mono ?_; rintro e w' ⟨rfl, rfl⟩)
  go_ret2
  exact ⟨rfl, rfl⟩
set_option maxHeartbeats 400000 in
theorem rWays_range (b : Nat) (A : Option Addr) (n c B : Nat) (xs : List Int) (w : World) (hx : Ri w B A n xs) (hn : n ≤ 1099511627776) (hb1 : 1 ≤ b) (hb8 : b ≤ 8) (HC : Hid (xs.any (outB 0 ((b : Int) - 1)) = true)) :
    Calls Try.prog 39 #[.int .i64 (b : Int), .slice A n c] w fun e w' => e = .returned (.tuple #[.int .i64 0, .int .i64 3]) ∧ w = w' := by
  have HL := Lib.hid hx.len
  have hpn : ¬ ((b : Int) < 1 ∨ 8 < (b : Int)) := by omega
  have HP := Lib.hid hpn
  clear hpn
  go_enter Try.func39, Try.ntmps39
  go_wp2_with (go_at_call 53; refine (rCheckPlaces_ok _ HP.out _).mono ?_; rintro e w' ⟨rfl, rfl⟩)
  go_loop [6] (fun i => ∃ k : Nat, k ≤ n ∧ i = .int .i64 k ∧ Hid ((xs.take k).any (outB 0 ((b : Int) - 1)) = false)) (fun i => n - (intOf i).toNat)
  case atStart => exact ⟨0, Nat.zero_le _, rfl, Lib.hid rfl⟩
  case round =>
    obtain ⟨k, hk, rfl, hall⟩ := hrel
    by_cases hlt : k < n
    · obtain ⟨ad, d, rfl, _, hc, hxk, _⟩ := hx.at_ hlt
      by_cases h0 : d < 0
      · go_wp2
        go_ret2
        exact ⟨rfl, rfl⟩
      · by_cases h8 : d < (b : Int)
        · go_wp2
          go_round
          case rel => exact ⟨k + 1, by omega, by go_num, Lib.hid (by rw [take_snoc hxk.out, List.any_append, hall.out]; simp [outB]; omega)⟩
          case measure => simp [intOf]; omega
        · go_wp2
          go_ret2
          exact ⟨rfl, rfl⟩
    · exfalso
      have h := hall.out
      rw [List.take_of_length_le (by rw [HL.out]; omega), HC.out] at h
      cases h

set_option maxHeartbeats 1000000 in
theorem rWays_ok (b : Nat) (A : Option Addr) (n c B : Nat) (xs : List Int) (w : World) (hx : Ri w B A n xs) (hn : n ≤ 1048576) (hnc : n ≤ c) (hb1 : 1 ≤ b) (hb8 : b ≤ 8) (HC : Hid (xs.any (outB 0 ((b : Int) - 1)) = false)) :
    Calls Try.prog 39 #[.int .i64 (b : Int), .slice A n c] w fun e w' => ∃ v r : Int, e = .returned (.tuple #[.int .i64 v, .int .i64 r]) ∧ waysR xs v r ∧ ∃ d, w' = w.drewN d := by
  have HL := Lib.hid hx.len
  have hpn : ¬ ((b : Int) < 1 ∨ 8 < (b : Int)) := by omega
  have HP := Lib.hid hpn
  clear hpn
  have HIN : Hid (∀ x ∈ xs, 0 ≤ x ∧ x < (b : Int)) := Lib.hid (fun x hm => by
    have h := List.any_eq_false.1 HC.out x hm
    rw [Bool.not_eq_true, outB_false] at h
    omega)
  go_enter Try.func39, Try.ntmps39
  go_wp2_with (go_at_call 53; refine (rCheckPlaces_ok _ HP.out _).mono ?_; rintro e w' ⟨rfl, rfl⟩)
  go_loop [6] (fun i => ∃ k : Nat, k ≤ n ∧ i = .int .i64 k) (fun i => n - (intOf i).toNat)
  case atStart => exact ⟨0, Nat.zero_le _, rfl⟩
  case round =>
    obtain ⟨k, hk, rfl⟩ := hrel
    by_cases hlt : k < n
    · obtain ⟨ad, d, rfl, _, hc, hxk, _⟩ := hx.at_ hlt
      obtain ⟨h0, h8⟩ := HIN.out d (List.mem_of_getElem? hxk.out)
      go_wp2
      go_round
      case rel => exact ⟨k + 1, by omega, by go_num⟩
      case measure => simp [intOf]; omega
    · go_wp2
      go_loopw [7] (fun i wr => ∃ k d : Nat, k ≤ n ∧ i = .int .i64 k ∧ wr = w.drewN d ∧ Hid (Fresh xs k)) (fun i _ => n - (intOf i).toNat)
      case atStart => exact ⟨0, 0, Nat.zero_le _, rfl, rfl, Lib.hid (fun i h => by omega)⟩
      case round =>
        obtain ⟨k2, d, hk2, rfl, rfl, HF⟩ := hrel
        by_cases hlt2 : k2 < n
        · obtain ⟨ad, x, rfl, _, hc, hxk, _⟩ := hx.at_ hlt2
          have HN : Hid (nth xs k2 = x) := Lib.hid (by rw [nth, hxk.out]; rfl)
          have htk := (hx.take (k := k2) (by omega))
          have hkc : k2 ≤ c := by omega
          by_cases hm : x ∈ xs.take k2
          · have HR : Hid (waysR xs 0 11) := Lib.hid (.inl ⟨k2, by rw [HL.out]; exact hlt2, HF.out, by rw [HN.out]; exact hm, rfl, rfl⟩)
            have hd : decide (x ∈ xs.take k2) = true := decide_eq_true hm
            have HM := Lib.hid hd
            clear hm hd
            go_wp2
            go_quiet ((go_at_call 45; exact still_in2 (has_any _ _ _ _ _ _ _ (htk.drewN _) (by omega))))
            rw [HM.out]
            go_wp2
            go_ret2
            exact ⟨0, 11, rfl, HR.out, _, drewN_add _ _ _⟩
          · have HF2 : Hid (Fresh xs (k2 + 1)) := Lib.hid (fresh_succ HF.out (by rw [HN.out]; exact hm))
            have hd : decide (x ∈ xs.take k2) = false := decide_eq_false hm
            have HM := Lib.hid hd
            clear hm hd
            go_wp2
            go_quiet ((go_at_call 45; exact still_in2 (has_any _ _ _ _ _ _ _ (htk.drewN _) (by omega))))
            rw [HM.out]
            go_wp2
            go_roundw
            case rel => exact ⟨k2 + 1, _, by omega, by go_num, rfl, HF2⟩
            case measure => simp [intOf]; omega
        · have HK : Hid (k2 = n) := Lib.hid (by omega)
          have HFA : Hid (Fresh xs n) := Lib.hid (by have := HF.out; rw [HK.out] at this; exact this)
          clear HF
          go_wp2
          go_loopw [8, 9] (fun o i wr => ∃ k d : Nat, k ≤ n ∧ i = .int .i64 k ∧ o = .int .i64 (waysIn xs k) ∧ wr = w.drewN d) (fun _ i _ => n - (intOf i).toNat)
          case atStart => exact ⟨0, d, Nat.zero_le _, rfl, rfl, rfl⟩
          case round =>
            obtain ⟨k3, d3, hk3, rfl, rfl, rfl⟩ := hrel
            by_cases hlt3 : k3 < n
            · obtain ⟨ad, x, rfl, _, hc, hxk, _⟩ := hx.at_ hlt3
              have hin := HIN.out x (List.mem_of_getElem? hxk.out)
              have HN : Hid (nth xs k3 = x) := Lib.hid (by rw [nth, hxk.out]; rfl)
              have htk := (hx.take (k := k3) (by omega))
              have hkc : k3 ≤ c := by omega
              have HW : Hid (waysIn xs (k3 + 1) = waysIn xs k3 * runR (xs.take k3) x) := Lib.hid (by rw [waysIn_succ, HN.out])
              have hk8 : k3 + 1 ≤ 8 := Nat.le_trans (fresh_le (b := b) HIN.out (by rw [HL.out]; omega) (fun i hi => HFA.out i (by omega))) hb8
              have hbd : waysIn xs k3 * runR (xs.take k3) x ≤ 16777216 ∧ 0 ≤ waysIn xs k3 * runR (xs.take k3) x := by
                have h := waysIn_bd hb8 HIN.out (k3 + 1) (by rw [HL.out]; omega)
                have h2 := pow8_le hk8
                rw [HW.out] at h
                omega
              have HPOS : Hid (∀ y ∈ xs.take k3, 0 ≤ y) := Lib.hid (fun y hy => (HIN.out y (List.mem_of_mem_take hy)).1)
              have HRUN : Hid (∀ w' : World, Ri w' B (some ad) k3 (xs.take k3) → Calls Try.prog 67 #[.slice (some ad) k3 c, .int .i64 x] w' fun e w'' => e = .returned (.int .i64 (runR (xs.take k3) x)) ∧ w' = w'') := Lib.hid (fun w' h => rRun x (some ad) k3 c B (xs.take k3) w' h (by omega) (by omega) HPOS.out)
              obtain ⟨v, HV⟩ : ∃ v, Hid (v = waysIn xs k3) := ⟨_, Lib.hid rfl⟩
              obtain ⟨r, HRV⟩ : ∃ r, Hid (r = runR (xs.take k3) x) := ⟨_, Lib.hid rfl⟩
              rw [← HV.out, ← HRV.out] at hbd
              rw [← HV.out]
              have HRUN2 : Hid (∀ w' : World, Ri w' B (some ad) k3 (xs.take k3) → Calls Try.prog 67 #[.slice (some ad) k3 c, .int .i64 x] w' fun e w'' => e = .returned (.int .i64 r) ∧ w' = w'') := Lib.hid (by rw [HRV.out]; exact HRUN.out)
              have hwr : IntKind.i64.wrap (v * r) = v * r := IntWalk.i64_in _ (by omega)
              have hwr2 : wrap64 (v * r) = v * r := IntWalk.wrap64_in _ (by omega)
              go_wp2
              go_quiet ((go_at_call 67; exact still_in2 (HRUN2.out _ (htk.drewN _))))
              go_wp2
              go_roundw
              case rel => exact ⟨k3 + 1, _, by omega, by go_num, by rw [HW.out, ← HV.out, ← HRV.out], rfl⟩
              case measure => simp [intOf]; omega
            · have HK3 : Hid (k3 = n) := Lib.hid (by omega)
              go_wp2
              go_ret2
              exact ⟨waysIn xs k3, 0, rfl, .inr ⟨by rw [HL.out]; exact HFA.out, by rw [HL.out, HK3.out], rfl⟩, d3, rfl⟩
end Go.Proofs.Ytkeiajncmhkdmaa
