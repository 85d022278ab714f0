import Derived.Test.YtkeiajncmhkdmaaBase
import Derived.Test.YtkeiajncmhkdmaaSpec
namespace Go.Proofs.Ytkeiajncmhkdmaa
open Go.RowKit

set_option maxHeartbeats 400000 in
theorem has_any (A : Option Addr) (n c B : Nat) (xs : List Int) (z : Int) (w : World) (hx : Ri w B A n xs) (hn : n ≤ 1099511627776) :
    Calls Try.prog 45 #[.slice A n c, .int .i64 z] w fun e w' => e = .returned (.bool (decide (z ∈ xs))) ∧ w = w' := by
  have HL := Lib.hid hx.len
  go_enter Try.func45, Try.ntmps45
  go_wp2
  go_loop [5] (fun i => ∃ k : Nat, k ≤ n ∧ i = .int .i64 k ∧ Hid (z ∉ xs.take k)) (fun i => n - (intOf i).toNat)
  case atStart => exact ⟨0, Nat.zero_le _, rfl, Lib.hid (by simp)⟩
  case round =>
    obtain ⟨k, hk, rfl, hno⟩ := hrel
    by_cases hlt : k < n
    · obtain ⟨ad, x, rfl, _, hc, hxk, _⟩ := hx.at_ hlt
      by_cases hz : x = z
      · subst hz
        go_wp2
        go_ret
        exact ⟨by have := List.mem_of_getElem? hxk.out; simp [this], rfl⟩
      · go_wp2
        go_round
        case rel => exact ⟨k + 1, by omega, by go_num, Lib.hid (by rw [List.take_add_one, hxk.out]; simp; exact ⟨hno.out, fun e => hz e.symm⟩)⟩
        case measure => simp [intOf]; omega
    · go_wp2
      go_ret
      exact ⟨by have := hno.out; rw [List.take_of_length_le (by rw [HL.out]; omega)] at this; simp [this], rfl⟩

end Go.Proofs.Ytkeiajncmhkdmaa

namespace Go.Proofs.Ytkeiajncmhkdmaa
open Go.RowKit

set_option maxHeartbeats 1000000 in
theorem lieOf_any (places : Int) (A : Option Addr) (n c : Nat) (ds : List Int) (w : World) (hx : Ri w w.heap.size A n ds) (hv : Valid places ds) :
    Calls Try.prog 50 #[.int .i64 places, .slice A n c] w fun e w' =>
      ∃ (A' : Option Addr) (c' : Nat), e = .returned (.tuple #[.slice A' n c', .int .i64 (farOf places ds)]) ∧ Oi w' w.heap.size A' n c' (lieOf places ds) ∧ Below w.heap.size w w' := by
  have HL := Lib.hid hx.len
  have h1 := hv.lo
  have h2 := hv.hi
  have h3 : n ≤ 12 := by rw [← HL.out]; exact hv.many
  go_enter Try.func50, Try.ntmps50
  go_wp2
  go_loopw [6, 7, 8, 9] (fun o s i _ wr => ∃ (k : Nat) (A' : Option Addr) (c' : Nat), k ≤ n ∧ i = .int .i64 k ∧ s = .int .i64 (farOf places (ds.take k)) ∧ o = .slice A' k c' ∧
      Oi wr w.heap.size A' k c' (lieOf places (ds.take k)) ∧ Below w.heap.size w wr) (fun _ _ i _ _ => n - (intOf i).toNat)
  case atStart => exact ⟨0, none, 0, Nat.zero_le _, rfl, rfl, rfl, Oi.nil_ _ _, Below.refl _ _⟩
  case round =>
    obtain ⟨k, A', c', hk, rfl, rfl, rfl, ho, hb⟩ := hrel
    by_cases hlt : k < n
    · obtain ⟨ad, d, rfl, hadb, hc0, hxk, _⟩ := hx.at_ hlt
      have hc : wr.cell? (ad.add k) = some (.int .i64 d) := (hb.cell (by rw [addr_block]; exact hadb)).trans hc0
      have hd := hv.all d (List.mem_of_getElem? hxk.out)
      clear hc0
      have hfb := far_bd h2 (ds.take k) (fun x hx => hv.all x (List.mem_of_mem_take hx))
      have hkl : (ds.take k).length ≤ 12 := by rw [List.length_take]; omega
      obtain ⟨L, HLE⟩ : ∃ L, Hid (L = lieOf places (ds.take k)) := ⟨_, Lib.hid rfl⟩
      obtain ⟨s, HSE⟩ : ∃ s, Hid (s = farOf places (ds.take k)) := ⟨_, Lib.hid rfl⟩
      have HX1 : Hid (lieOf places (ds.take (k + 1)) = L ++ [lie1 places L d]) := Lib.hid (by rw [take_snoc hxk.out, lieOf_snoc, HLE.out])
      have HX2 : Hid (farOf places (ds.take (k + 1)) = s + (slid1 places L d - d)) := Lib.hid (by rw [take_snoc hxk.out, farOf_snoc, HLE.out, HSE.out])
      rw [← HLE.out] at ho
      rw [← HSE.out] at hfb ⊢
      go_wp2
      go_loop [9] (fun t => ∃ q : Int, t = .int .i64 q ∧ d ≤ q ∧ q ≤ places ∧ Hid (slid1 places L d = slid1 places L q)) (fun t => (places - intOf t).toNat)
      case atStart => exact ⟨d, rfl, by omega, by omega, Lib.hid rfl⟩
      case round =>
        obtain ⟨q, rfl, hq1, hq2, hs⟩ := hrel
        by_cases hgo : q < places ∧ q ∈ L
        · obtain ⟨hq, hm⟩ := hgo
          go_wp2_with (go_at_call 45; refine (has_any _ _ _ _ _ _ _ ho.ri (by omega)).mono ?_; rintro e w' ⟨rfl, rfl⟩)
          go_round
          case rel => exact ⟨q + 1, rfl, by omega, by omega, Lib.hid (hs.out.trans (slid1_go ⟨hq, hm⟩))⟩
          case measure => simp [intOf]; omega
        · have HF : Hid (slid1 places L d = q) := Lib.hid (hs.out.trans (slid1_stop hgo))
          have hcase : q = places ∨ (q < places ∧ q ∉ L) := by
            rcases Int.lt_or_eq_of_le hq2 with h | h
            · exact .inr ⟨h, fun hm => hgo ⟨h, hm⟩⟩
            · exact .inl h
          clear hgo
          rcases hcase with rfl | ⟨hq, hm⟩
          all_goals
            go_wp2_with (first
              | (go_at_call 45; refine (has_any _ _ _ _ _ _ _ ho.ri (by omega)).mono ?_; rintro e w' ⟨rfl, rfl⟩)
              | (at_builtin; go_must (refine push_int rfl (.tmp 41) (.tmp 43) rfl w.heap.size A' k c' L rfl (ho.alloc _) ⟨wr.heap.size, 0, none⟩ 1 _ rfl (cell_new1 _ _ _) (by omega) (by have := hb.size; simp; omega) ?_; intro g cap w1 hown1 hgrow1)))
            go_roundw
            case rel => exact ⟨k + 1, _, _, by omega, by go_num, by rw [HX2.out, HF.out], rfl, by rw [HX1.out]; unfold lie1; rw [HF.out]; first | (rw [if_pos rfl]; exact hown1) | (rw [if_neg (by omega)]; exact hown1), ho.pushed hb (by have := hb.size; omega) (Nat.le_refl _) hgrow1⟩
            case measure => simp [intOf]; omega
    · have hk : k = n := by omega
      subst hk
      have ht : ds.take k = ds := List.take_of_length_le (by rw [HL.out]; omega)
      rw [ht] at ho ⊢
      clear ht
      go_wp2
      go_ret2
      exact ⟨A', c', rfl, ho, hb⟩
end Go.Proofs.Ytkeiajncmhkdmaa

namespace Go.Proofs.Ytkeiajncmhkdmaa
open Go.RowKit

set_option maxHeartbeats 400000 in
theorem rCheckPlaces (p : Int) (w : World) : Calls Try.prog 53 #[.int .i64 p] w fun e w' => e = .returned (.int .i64 (checkPlaces p)) ∧ w = w' := by
  by_cases h1 : p < 1
  · go_enter Try.func53, Try.ntmps53
    go_wp2
    go_ret
    exact ⟨ret_i (by rw [checkPlaces, if_pos (by omega)]), rfl⟩
  · by_cases h2 : 8 < p
    · go_enter Try.func53, Try.ntmps53
      go_wp2
      go_ret
      exact ⟨ret_i (by rw [checkPlaces, if_pos (by omega)]), rfl⟩
    · go_enter Try.func53, Try.ntmps53
      go_wp2
      go_ret
      exact ⟨ret_i (by rw [checkPlaces, if_neg (by omega)]), rfl⟩

theorem rCheckPlaces_bad (p : Int) (h : p < 1 ∨ 8 < p) (w : World) : Calls Try.prog 53 #[.int .i64 p] w fun e w' => e = .returned (.int .i64 6) ∧ w = w' :=
  (rCheckPlaces p w).mono fun e w' ⟨he, hw⟩ => ⟨by rw [he, checkPlaces, if_pos h], hw⟩
theorem rCheckPlaces_ok (p : Int) (h : ¬ (p < 1 ∨ 8 < p)) (w : World) : Calls Try.prog 53 #[.int .i64 p] w fun e w' => e = .returned (.int .i64 0) ∧ w = w' :=
  (rCheckPlaces p w).mono fun e w' ⟨he, hw⟩ => ⟨by rw [he, checkPlaces, if_neg h], hw⟩

set_option maxHeartbeats 400000 in
theorem rCheckDrops (p : Int) (A : Option Addr) (n c B : Nat) (ds : List Int) (w : World) (hx : Ri w B A n ds) (hn : n ≤ 1099511627776) (r : Int) (HR : Hid (checkDrops p ds = r)) :
    Calls Try.prog 24 #[.int .i64 p, .slice A n c] w fun e w' => e = .returned (.int .i64 r) ∧ w = w' := by
  have HL := Lib.hid hx.len
  by_cases h1 : p < 1 ∨ 8 < p
  · have HE : Hid (r = 6) := Lib.hid (HR.out.symm.trans (checkDrops_many (by omega)))
    go_enter Try.func24, Try.ntmps24
    go_wp2_with (go_at_call 53; refine (rCheckPlaces_bad _ h1 _).mono ?_; rintro e w' ⟨rfl, rfl⟩)
    go_ret
    exact ⟨ret_i HE.out.symm, rfl⟩
  · by_cases h2 : 12 < n
    · have HE : Hid (r = 6) := Lib.hid (HR.out.symm.trans (checkDrops_many (by rw [HL.out]; omega)))
      go_enter Try.func24, Try.ntmps24
      go_wp2_with (go_at_call 53; refine (rCheckPlaces_ok _ h1 _).mono ?_; rintro e w' ⟨rfl, rfl⟩)
      go_ret
      exact ⟨ret_i HE.out.symm, rfl⟩
    · have HB : Hid (¬ (p < 1 ∨ 8 < p ∨ 12 < ds.length)) := Lib.hid (by rw [HL.out]; omega)
      go_enter Try.func24, Try.ntmps24
      go_wp2_with (go_at_call 53; refine (rCheckPlaces_ok _ h1 _).mono ?_; rintro e w' ⟨rfl, rfl⟩)
      go_loop [5] (fun i => ∃ k : Nat, k ≤ n ∧ i = .int .i64 k ∧ Hid ((ds.take k).all (okDrop p) = true)) (fun i => n - (intOf i).toNat)
      case atStart => exact ⟨0, Nat.zero_le _, rfl, Lib.hid rfl⟩
      case round =>
        obtain ⟨k, hk, rfl, hall⟩ := hrel
        by_cases hlt : k < n
        · obtain ⟨ad, d, rfl, _, hc, hxk, _⟩ := hx.at_ hlt
          by_cases h0 : d < 0
          · have HE : Hid (r = 3) := Lib.hid (HR.out.symm.trans (checkDrops_bad HB.out (List.mem_of_getElem? hxk.out) (by omega)))
            go_wp2
            go_ret
            exact ⟨ret_i HE.out.symm, rfl⟩
          · by_cases h8 : d < p
            · go_wp2
              go_round
              case rel => exact ⟨k + 1, by omega, by go_num, Lib.hid (by rw [take_snoc hxk.out, List.all_append, hall.out]; simp [okDrop]; omega)⟩
              case measure => simp [intOf]; omega
            · have HE : Hid (r = 3) := Lib.hid (HR.out.symm.trans (checkDrops_bad HB.out (List.mem_of_getElem? hxk.out) (by omega)))
              go_wp2
              go_ret
              exact ⟨ret_i HE.out.symm, rfl⟩
        · have HE : Hid (r = 0) := Lib.hid (HR.out.symm.trans (checkDrops_ok HB.out (by have := hall.out; rw [List.take_of_length_le (by rw [HL.out]; omega)] at this; exact this)))
          go_wp2
          go_ret
          exact ⟨ret_i HE.out.symm, rfl⟩

set_option maxHeartbeats 400000 in
theorem rLie_err (p : Int) (A : Option Addr) (n c B : Nat) (ds : List Int) (w : World) (hx : Ri w B A n ds) (hn : n ≤ 1099511627776) (r : Int) (HR : Hid (checkDrops p ds = r)) (h0 : (r != 0) = true) :
    Calls Try.prog 20 #[.int .i64 p, .slice A n c] w fun e w' => e = .returned (.tuple #[.slice none 0 0, .int .i64 0, .int .i64 r]) ∧ w = w' := by
  go_enter Try.func20, Try.ntmps20
  go_wp2_with (go_at_call 24; refine (rCheckDrops _ _ _ _ _ _ _ hx hn _ HR).mono ?_; rintro e w' ⟨rfl, rfl⟩)
  go_ret3
  exact ⟨rfl, rfl⟩

set_option maxHeartbeats 400000 in
theorem rLie_ok (p : Int) (A : Option Addr) (n c : Nat) (ds : List Int) (w : World) (hx : Ri w w.heap.size A n ds) (hv : Valid p ds) :
    Calls Try.prog 20 #[.int .i64 p, .slice A n c] w fun e w' => ∃ (A' : Option Addr) (c' : Nat), e = .returned (.tuple #[.slice A' n c', .int .i64 (farOf p ds), .int .i64 0]) ∧ Oi w' w.heap.size A' n c' (lieOf p ds) ∧ Below w.heap.size w w' := by
  have HR : Hid (checkDrops p ds = 0) := Lib.hid (checkDrops_valid.2 hv)
  have h3 : n ≤ 12 := by rw [← hx.len]; exact hv.many
  go_enter Try.func20, Try.ntmps20
  go_wp2_with (first
    | (go_at_call 24; refine (rCheckDrops _ _ _ _ _ _ _ hx (by omega) _ HR).mono ?_; rintro e w' ⟨rfl, rfl⟩)
    | (go_at_call 50; refine (lieOf_any _ _ _ _ _ _ hx hv).mono ?_; rintro e w1 ⟨A', c', rfl, ho, hb⟩))
  go_ret3
  exact ⟨A', c', rfl, ho, hb⟩
end Go.Proofs.Ytkeiajncmhkdmaa

namespace Go.Proofs.Ytkeiajncmhkdmaa
open Go.RowKit

set_option maxHeartbeats 1000000 in
theorem rFullOf (p : Int) (A : Option Addr) (n c : Nat) (ds : List Int) (w : World) (hx : Ri w w.heap.size A n ds) (hv : Valid p ds) :
    Calls Try.prog 51 #[.int .i64 p, .slice A n c] w fun e w' => ∃ (A' : Option Addr) (n' c' : Nat), e = .returned (.tuple #[.slice A' n' c', .int .i64 (fellOf p ds)]) ∧ Oi w' w.heap.size A' n' c' (fullOf p ds) ∧ Below w.heap.size w w' := by
  have HL := Lib.hid hx.len
  have h1 := hv.lo
  have h2 := hv.hi
  have h3 : n ≤ 12 := by rw [← HL.out]; exact hv.many
  go_enter Try.func51, Try.ntmps51
  go_wp2_with (go_at_call 50; refine (lieOf_any _ _ _ _ _ _ hx hv).mono ?_; rintro e w1 ⟨A1, c1, rfl, ho1, hb1⟩)
  obtain ⟨L, HLE⟩ : ∃ L, Hid (L = lieOf p ds) := ⟨_, Lib.hid rfl⟩
  rw [← HLE.out] at ho1
  have hs1 := hb1.size
  have hr1 := ho1.ri
  go_loopw [8, 9] (fun o i wr => ∃ (k m c2 : Nat) (A2 : Option Addr), (k : Int) ≤ p ∧ i = .int .i64 k ∧ o = .slice A2 m c2 ∧ m ≤ k ∧
      Oi wr w1.heap.size A2 m c2 (fullIn L k) ∧ Below w1.heap.size w1 wr) (fun _ i _ => (p - intOf i).toNat)
  case atStart => exact ⟨0, 0, 0, none, by omega, rfl, rfl, Nat.le_refl _, Oi.nil_ _ _, Below.refl _ _⟩
  case round =>
    obtain ⟨k, m, c2, A2, hk, rfl, rfl, hmk, ho, hb⟩ := hrel
    have hsz := hb.size
    by_cases hlt : (k : Int) < p
    · by_cases hm : (k : Int) ∈ L
      · have HX := Lib.hid (fullIn_yes hm)
        go_wp2_with (first
          | (go_at_call 45; refine (has_any _ _ _ _ _ _ _ (hr1.below hb) (by omega)).mono ?_; rintro e w' ⟨rfl, rfl⟩)
          | (at_builtin; refine push_int rfl (.tmp 24) (.tmp 26) rfl (w1.heap.size) A2 m c2 (fullIn L k) rfl (ho.alloc _) ⟨wr.heap.size, 0, none⟩ 1 _ rfl (cell_new1 _ _ _) (by omega) (by simp only [World.size_alloc]; omega) ?_; intro g cap w1 hown1 hgrow1))
        go_roundw
        case rel => exact ⟨k + 1, m + 1, _, _, by omega, by go_num, rfl, by omega, by rw [HX.out]; exact hown1, ho.pushed hb hsz (Nat.le_refl _) hgrow1⟩
        case measure => simp [intOf]; omega
      · have HX := Lib.hid (fullIn_no hm)
        go_wp2_with (go_at_call 45; refine (has_any _ _ _ _ _ _ _ (hr1.below hb) (by omega)).mono ?_; rintro e w' ⟨rfl, rfl⟩)
        go_roundw
        case rel => exact ⟨k + 1, m, _, _, by omega, by go_num, rfl, by omega, by rw [HX.out]; exact ho, hb⟩
        case measure => simp [intOf]; omega
    · have HK : Hid (k = p.toNat) := Lib.hid (by omega)
      go_wp2
      go_ret2
      have e1 : fullIn L k = fullOf p ds := by rw [HK.out, HLE.out]; rfl
      rw [e1] at ho
      have e2 : (n : Int) - m = fellOf p ds := by unfold fellOf; rw [HL.out, ho.len]
      exact ⟨A2, m, c2, by rw [← e2]; rfl, ho.base hs1, hb1.trans (hb.mono hs1)⟩
end Go.Proofs.Ytkeiajncmhkdmaa

namespace Go.Proofs.Ytkeiajncmhkdmaa
open Go.RowKit

set_option maxHeartbeats 400000 in
theorem rFull_err (p : Int) (A : Option Addr) (n c B : Nat) (ds : List Int) (w : World) (hx : Ri w B A n ds) (hn : n ≤ 1099511627776) (r : Int) (HR : Hid (checkDrops p ds = r)) (h0 : (r != 0) = true) :
    Calls Try.prog 22 #[.int .i64 p, .slice A n c] w fun e w' => e = .returned (.tuple #[.slice none 0 0, .int .i64 0, .int .i64 r]) ∧ w = w' := by
  go_enter Try.func22, Try.ntmps22
  go_wp2_with (go_at_call 24; refine (rCheckDrops _ _ _ _ _ _ _ hx hn _ HR).mono ?_; rintro e w' ⟨rfl, rfl⟩)
  go_ret3
  exact ⟨rfl, rfl⟩

set_option maxHeartbeats 400000 in
theorem rFull_ok (p : Int) (A : Option Addr) (n c : Nat) (ds : List Int) (w : World) (hx : Ri w w.heap.size A n ds) (hv : Valid p ds) :
    Calls Try.prog 22 #[.int .i64 p, .slice A n c] w fun e w' => ∃ (A' : Option Addr) (n' c' : Nat), e = .returned (.tuple #[.slice A' n' c', .int .i64 (fellOf p ds), .int .i64 0]) ∧ Oi w' w.heap.size A' n' c' (fullOf p ds) ∧ Below w.heap.size w w' := by
  have HR : Hid (checkDrops p ds = 0) := Lib.hid (checkDrops_valid.2 hv)
  have h3 : n ≤ 12 := by rw [← hx.len]; exact hv.many
  go_enter Try.func22, Try.ntmps22
  go_wp2_with (first
    | (go_at_call 24; refine (rCheckDrops _ _ _ _ _ _ _ hx (by omega) _ HR).mono ?_; rintro e w' ⟨rfl, rfl⟩)
    | (go_at_call 51; refine (rFullOf _ _ _ _ _ _ hx hv).mono ?_; rintro e w1 ⟨A', n', c', rfl, ho, hb⟩))
  go_ret3
  exact ⟨A', n', c', rfl, ho, hb⟩

set_option maxHeartbeats 400000 in
theorem rOverOf (p q : Int) (A : Option Addr) (n c B : Nat) (ds : List Int) (w : World) (hx : Ri w B A n ds) (hn : n ≤ 1099511627776) (hp : -1099511627776 ≤ p ∧ p ≤ 1099511627776) (hq : -1099511627776 ≤ q ∧ q ≤ 1099511627776) :
    Calls Try.prog 55 #[.int .i64 p, .slice A n c, .int .i64 q] w fun e w' => e = .returned (.int .i64 (overOf p ds q)) ∧ w = w' := by
  have HL := Lib.hid hx.len
  obtain ⟨hp1, hp2⟩ := hp
  obtain ⟨hq1, hq2⟩ := hq
  go_enter Try.func55, Try.ntmps55
  go_wp2
  go_loop [7, 8] (fun t i => ∃ k : Nat, k ≤ n ∧ i = .int .i64 k ∧ t = .int .i64 (overOf p (ds.take k) q)) (fun _ i => n - (intOf i).toNat)
  case atStart => exact ⟨0, Nat.zero_le _, rfl, by simp [overOf, cntGe]⟩
  case round =>
    obtain ⟨k, hk, rfl, rfl⟩ := hrel
    by_cases hlt : k < n
    · obtain ⟨ad, d, rfl, _, hc, hxk, _⟩ := hx.at_ hlt
      obtain ⟨hb1, hb2⟩ := cntGe_bd q (ds.take k)
      have hl : (ds.take k).length ≤ 1099511627776 := by rw [List.length_take]; omega
      obtain ⟨s, HSE⟩ : ∃ s, Hid (s = cntGe q (ds.take k)) := ⟨_, Lib.hid rfl⟩
      have HO : Hid (overOf p (ds.take k) q = q - p + s) := Lib.hid (by rw [HSE.out]; rfl)
      rw [← HSE.out] at hb1 hb2
      rw [HO.out]
      by_cases hge : q ≤ d
      · have HX : Hid (overOf p (ds.take (k + 1)) q = q - p + s + 1) := Lib.hid (by rw [take_snoc hxk.out, overOf, cntGe_yes hge, HSE.out]; omega)
        go_wp2
        go_round
        case rel => exact ⟨k + 1, by omega, by go_num, by rw [HX.out]⟩
        case measure => simp [intOf]; omega
      · have HX : Hid (overOf p (ds.take (k + 1)) q = q - p + s) := Lib.hid (by rw [take_snoc hxk.out, overOf, cntGe_no hge, HSE.out])
        go_wp2
        go_round
        case rel => exact ⟨k + 1, by omega, by go_num, by rw [HX.out]⟩
        case measure => simp [intOf]; omega
    · have hk : k = n := by omega
      subst hk
      have ht : ds.take k = ds := List.take_of_length_le (by rw [HL.out]; omega)
      rw [ht]
      clear ht
      go_wp2
      go_ret
      exact ⟨rfl, rfl⟩

set_option maxHeartbeats 400000 in
theorem rCheckOver_err (p q : Int) (A : Option Addr) (n c B : Nat) (ds : List Int) (w : World) (hx : Ri w B A n ds) (hn : n ≤ 1099511627776) (r : Int) (HR : Hid (checkDrops p ds = r)) (h0 : (r != 0) = true) :
    Calls Try.prog 27 #[.int .i64 p, .slice A n c, .int .i64 q] w fun e w' => e = .returned (.tuple #[.int .i64 0, .int .i64 r]) ∧ w = w' := by
  go_enter Try.func27, Try.ntmps27
  go_wp2_with (go_at_call 24; refine (rCheckDrops _ _ _ _ _ _ _ hx hn _ HR).mono ?_; rintro e w' ⟨rfl, rfl⟩)
  go_ret2
  exact ⟨rfl, rfl⟩
set_option maxHeartbeats 400000 in
theorem rCheckOver_arg (p q : Int) (A : Option Addr) (n c : Nat) (ds : List Int) (w : World) (hx : Ri w w.heap.size A n ds) (hv : Valid p ds) (hq : q < 0 ∨ (0 ≤ q ∧ p ≤ q)) :
    Calls Try.prog 27 #[.int .i64 p, .slice A n c, .int .i64 q] w fun e w' => e = .returned (.tuple #[.int .i64 0, .int .i64 2]) ∧ w = w' := by
  have HR : Hid (checkDrops p ds = 0) := Lib.hid (checkDrops_valid.2 hv)
  have h3 : n ≤ 12 := by rw [← hx.len]; exact hv.many
  rcases hq with hq | ⟨hq0, hq⟩
  · go_enter Try.func27, Try.ntmps27
    go_wp2_with (go_at_call 24; refine (rCheckDrops _ _ _ _ _ _ _ hx (by omega) _ HR).mono ?_; rintro e w' ⟨rfl, rfl⟩)
    go_ret2
    exact ⟨rfl, rfl⟩
  · go_enter Try.func27, Try.ntmps27
    go_wp2_with (go_at_call 24; refine (rCheckDrops _ _ _ _ _ _ _ hx (by omega) _ HR).mono ?_; rintro e w' ⟨rfl, rfl⟩)
    go_ret2
    exact ⟨rfl, rfl⟩
set_option maxHeartbeats 400000 in
theorem rCheckOver_ok (p q : Int) (A : Option Addr) (n c : Nat) (ds : List Int) (w : World) (hx : Ri w w.heap.size A n ds) (hv : Valid p ds) (hq1 : 0 ≤ q) (hq2 : q < p) :
    Calls Try.prog 27 #[.int .i64 p, .slice A n c, .int .i64 q] w fun e w' => e = .returned (.tuple #[.int .i64 (overOf p ds q), .int .i64 0]) ∧ w = w' := by
  have HR : Hid (checkDrops p ds = 0) := Lib.hid (checkDrops_valid.2 hv)
  have h3 : n ≤ 12 := by rw [← hx.len]; exact hv.many
  have h8 := hv.hi
  go_enter Try.func27, Try.ntmps27
  go_wp2_with (first
    | (go_at_call 24; refine (rCheckDrops _ _ _ _ _ _ _ hx (by omega) _ HR).mono ?_; rintro e w' ⟨rfl, rfl⟩)
    | (go_at_call 55; refine (rOverOf _ _ _ _ _ _ _ _ hx (by omega) (by omega) (by omega)).mono ?_; rintro e w' ⟨rfl, rfl⟩))
  go_ret2
  exact ⟨rfl, rfl⟩

set_option maxHeartbeats 400000 in
theorem rCheckRow_err (p : Int) (A : Option Addr) (n c B : Nat) (ds : List Int) (w : World) (hx : Ri w B A n ds) (hn : n ≤ 1099511627776) (r : Int) (HR : Hid (checkDrops p ds = r)) (h0 : (r != 0) = true) :
    Calls Try.prog 33 #[.int .i64 p, .slice A n c] w fun e w' => e = .returned (.int .i64 r) ∧ w = w' := by
  go_enter Try.func33, Try.ntmps33
  go_wp2_with (go_at_call 24; refine (rCheckDrops _ _ _ _ _ _ _ hx hn _ HR).mono ?_; rintro e w' ⟨rfl, rfl⟩)
  go_ret
  exact ⟨rfl, rfl⟩
def rowErr (m : Int) : Int := if 0 < m then 20 else 0
set_option maxHeartbeats 400000 in
theorem rCheckRow_ok (p : Int) (A : Option Addr) (n c : Nat) (ds : List Int) (w : World) (hx : Ri w w.heap.size A n ds) (hv : Valid p ds) (r : Int) (HQ : Hid (rowErr (fellOf p ds) = r)) :
    Calls Try.prog 33 #[.int .i64 p, .slice A n c] w fun e w' => e = .returned (.int .i64 r) ∧ Below w.heap.size w w' := by
  have HR : Hid (checkDrops p ds = 0) := Lib.hid (checkDrops_valid.2 hv)
  have h3 : n ≤ 12 := by rw [← hx.len]; exact hv.many
  by_cases hm : 0 < fellOf p ds
  · have HE : Hid (r = 20) := Lib.hid (by rw [← HQ.out, rowErr, if_pos hm])
    go_enter Try.func33, Try.ntmps33
    go_wp2_with (first
      | (go_at_call 24; refine (rCheckDrops _ _ _ _ _ _ _ hx (by omega) _ HR).mono ?_; rintro e w' ⟨rfl, rfl⟩)
      | (go_at_call 51; refine (rFullOf _ _ _ _ _ _ hx hv).mono ?_; rintro e w1 ⟨A', n', c', rfl, ho, hb⟩))
    go_ret
    exact ⟨ret_i HE.out.symm, hb⟩
  · have HE : Hid (r = 0) := Lib.hid (by rw [← HQ.out, rowErr, if_neg hm])
    go_enter Try.func33, Try.ntmps33
    go_wp2_with (first
      | (go_at_call 24; refine (rCheckDrops _ _ _ _ _ _ _ hx (by omega) _ HR).mono ?_; rintro e w' ⟨rfl, rfl⟩)
      | (go_at_call 51; refine (rFullOf _ _ _ _ _ _ hx hv).mono ?_; rintro e w1 ⟨A', n', c', rfl, ho, hb⟩))
    go_ret
    exact ⟨ret_i HE.out.symm, hb⟩
end Go.Proofs.Ytkeiajncmhkdmaa

namespace Go.Proofs.Ytkeiajncmhkdmaa
open Go.RowKit

set_option maxHeartbeats 400000 in
theorem rOver_err (p : Int) (A : Option Addr) (n c B : Nat) (ds : List Int) (w : World) (hx : Ri w B A n ds) (hn : n ≤ 1099511627776) (r : Int) (HR : Hid (checkDrops p ds = r)) (h0 : (r != 0) = true) :
    Calls Try.prog 29 #[.int .i64 p, .slice A n c] w fun e w' => e = .returned (.tuple #[.int .i64 0, .int .i64 r]) ∧ w = w' := by
  go_enter Try.func29, Try.ntmps29
  go_wp2_with (go_at_call 24; refine (rCheckDrops _ _ _ _ _ _ _ hx hn _ HR).mono ?_; rintro e w' ⟨rfl, rfl⟩)
  go_ret2
  exact ⟨rfl, rfl⟩

theorem ret_ii {a b c d : Int} (h : a = c) (k : b = d) : Ending.returned (.tuple #[.int .i64 a, .int .i64 b]) = .returned (.tuple #[.int .i64 c, .int .i64 d]) := by rw [h, k]

set_option maxHeartbeats 1000000 in
theorem rOver_ok (p : Int) (A : Option Addr) (n c : Nat) (ds : List Int) (w : World) (hx : Ri w w.heap.size A n ds) (hv : Valid p ds) :
    Calls Try.prog 29 #[.int .i64 p, .slice A n c] w fun e w' => e = .returned (.tuple #[.int .i64 (overR p ds).1, .int .i64 (overR p ds).2]) ∧ Below w.heap.size w w' := by
  have HR : Hid (checkDrops p ds = 0) := Lib.hid (checkDrops_valid.2 hv)
  have h3 : n ≤ 12 := by rw [← hx.len]; exact hv.many
  have h8 := hv.hi
  have hp1 := hv.lo
  by_cases hm : 0 < fellOf p ds
  · have HO : Hid (overR p ds = firstOver p ds (fellOf p ds) 9 0) := Lib.hid (by rw [overR, if_pos hm])
    obtain ⟨R, HRR⟩ : ∃ R, Hid (overR p ds = R) := ⟨_, Lib.hid rfl⟩
    rw [HRR.out] at HO ⊢
    obtain ⟨m, HM⟩ : ∃ m, Hid (fellOf p ds = m) := ⟨_, Lib.hid rfl⟩
    rw [HM.out] at HO hm
    go_enter Try.func29, Try.ntmps29
    go_wp2_with (first
      | (go_at_call 24; refine (rCheckDrops _ _ _ _ _ _ _ hx (by omega) _ HR).mono ?_; rintro e w' ⟨rfl, rfl⟩)
      | (go_at_call 51; refine (rFullOf _ _ _ _ _ _ hx hv).mono ?_; rintro e w1 ⟨A', n', c', rfl, ho, hb⟩; rw [HM.out]))
    have hx1 := hx.below hb
    go_loop [8] (fun i => ∃ k : Nat, (k : Int) ≤ p ∧ i = .int .i64 k ∧ Hid (R = firstOver p ds m (9 - k) k)) (fun i => (p - intOf i).toNat)
    case atStart => exact ⟨0, by omega, rfl, HO⟩
    case round =>
      obtain ⟨k, hk, rfl, hrest⟩ := hrel
      by_cases hlt : (k : Int) < p
      · obtain ⟨f, hf⟩ : ∃ f, 9 - k = f + 1 := ⟨8 - k, by omega⟩
        have hf' : 9 - (k + 1) = f := by omega
        rw [hf] at hrest
        by_cases he : overOf p ds k = m
        · have HE : Hid (R = ((k : Int), 0)) := Lib.hid (by rw [hrest.out, firstOver, if_pos hlt, if_pos he])
          have hee : (overOf p ds k == m) = true := by simp [he]
          clear he
          go_wp2_with (go_at_call 55; refine (rOverOf _ _ _ _ _ _ _ _ hx1 (by omega) (by omega) (by omega)).mono ?_; rintro e w' ⟨rfl, rfl⟩)
          go_ret2
          exact ⟨ret_ii (by rw [HE.out]) (by rw [HE.out]), hb⟩
        · have HE : Hid (R = firstOver p ds m (9 - (k + 1)) (k + 1)) := Lib.hid (by rw [hf', hrest.out, firstOver, if_pos hlt, if_neg he])
          have hee : (overOf p ds k == m) = false := by simp [he]
          clear he hf hf'
          go_wp2_with (go_at_call 55; refine (rOverOf _ _ _ _ _ _ _ _ hx1 (by omega) (by omega) (by omega)).mono ?_; rintro e w' ⟨rfl, rfl⟩)
          go_round
          case rel => exact ⟨k + 1, by omega, by go_num, HE⟩
          case measure => simp [intOf]; omega
      · have HE : Hid (R = (0, 20)) := Lib.hid (by rw [hrest.out]; cases 9 - k <;> simp [firstOver, hlt])
        go_wp2
        go_ret2
        exact ⟨ret_ii (by rw [HE.out]) (by rw [HE.out]), hb⟩
  · have HE : Hid (overR p ds = (0, 20)) := Lib.hid (by rw [overR, if_neg hm])
    obtain ⟨R, HRR⟩ : ∃ R, Hid (overR p ds = R) := ⟨_, Lib.hid rfl⟩
    rw [HRR.out] at HE ⊢
    go_enter Try.func29, Try.ntmps29
    go_wp2_with (first
      | (go_at_call 24; refine (rCheckDrops _ _ _ _ _ _ _ hx (by omega) _ HR).mono ?_; rintro e w' ⟨rfl, rfl⟩)
      | (go_at_call 51; refine (rFullOf _ _ _ _ _ _ hx hv).mono ?_; rintro e w1 ⟨A', n', c', rfl, ho, hb⟩))
    refine wp_loop_rounds 1 ?_
    rw [rounds_succ]
    go_wp2
    go_ret2
    exact ⟨ret_ii (by rw [HE.out]) (by rw [HE.out]), hb⟩

set_option maxHeartbeats 400000 in
theorem rMay_err (p : Int) (A : Option Addr) (n c B : Nat) (ds : List Int) (w : World) (hx : Ri w B A n ds) (hn : n ≤ 1099511627776) (r : Int) (HR : Hid (checkDrops p ds = r)) (h0 : (r != 0) = true) :
    Calls Try.prog 31 #[.int .i64 p, .slice A n c] w fun e w' => e = .returned (.tuple #[.slice none 0 0, .int .i64 r]) ∧ w = w' := by
  go_enter Try.func31, Try.ntmps31
  go_wp2_with (go_at_call 33; refine (rCheckRow_err _ _ _ _ _ _ _ hx hn _ HR h0).mono ?_; rintro e w' ⟨rfl, rfl⟩)
  go_ret2
  exact ⟨rfl, rfl⟩

set_option maxHeartbeats 400000 in
theorem rMay_fell (p : Int) (A : Option Addr) (n c : Nat) (ds : List Int) (w : World) (hx : Ri w w.heap.size A n ds) (hv : Valid p ds) (h0 : 0 < fellOf p ds) :
    Calls Try.prog 31 #[.int .i64 p, .slice A n c] w fun e w' => e = .returned (.tuple #[.slice none 0 0, .int .i64 20]) ∧ Below w.heap.size w w' := by
  have HQ : Hid (rowErr (fellOf p ds) = 20) := Lib.hid (by rw [rowErr, if_pos h0])
  go_enter Try.func31, Try.ntmps31
  go_wp2_with fail
  refine (rCheckRow_ok _ _ _ _ _ _ hx hv _ HQ).mono ?_
  rintro e w1 ⟨rfl, hb⟩
  have hs1 := hb.size
  go_wp2_with fail
  refine (rCheckRow_ok _ _ _ _ _ _ ((hx.below hb).more hs1) hv _ HQ).mono ?_
  rintro e w2 ⟨rfl, hb2⟩
  go_wp2_with fail
  go_ret2
  exact ⟨rfl, hb.trans (hb2.mono hs1)⟩

set_option maxHeartbeats 1000000 in
theorem rMay_ok (p : Int) (A : Option Addr) (n c : Nat) (ds : List Int) (w : World) (hx : Ri w w.heap.size A n ds) (hv : Valid p ds) (h0 : fellOf p ds = 0) :
    Calls Try.prog 31 #[.int .i64 p, .slice A n c] w fun e w' => ∃ (A' : Option Addr) (n' c' : Nat), e = .returned (.tuple #[.slice A' n' c', .int .i64 0]) ∧ Oi w' w.heap.size A' n' c' (mayIn p ds p.toNat) ∧ Below w.heap.size w w' := by
  have HQ : Hid (rowErr (fellOf p ds) = 0) := Lib.hid (by rw [rowErr, if_neg (by omega)])
  have H0 := Lib.hid h0
  clear h0
  have h3 : n ≤ 12 := by rw [← hx.len]; exact hv.many
  have h8 := hv.hi
  have hp1 := hv.lo
  go_enter Try.func31, Try.ntmps31
  go_wp2_with fail
  refine (rCheckRow_ok _ _ _ _ _ _ hx hv _ HQ).mono ?_
  rintro e w1 ⟨rfl, hb⟩
  have hs1 := hb.size
  go_wp2_with fail
  go_loopw [6, 7, 8, 9] (fun o i _ _ wr => ∃ (k m c2 : Nat) (A2 : Option Addr), (k : Int) ≤ p ∧ i = .int .i64 k ∧ o = .slice A2 m c2 ∧ m ≤ k ∧
      Oi wr w.heap.size A2 m c2 (mayIn p ds k) ∧ Below w.heap.size w wr) (fun _ i _ _ _ => (p - intOf i).toNat)
  case atStart => exact ⟨0, 0, 0, none, by omega, rfl, rfl, Nat.le_refl _, Oi.nil_ _ _, hb⟩
  case round =>
    obtain ⟨k, m, c2, A2, hk, rfl, rfl, hmk, ho, hbr⟩ := hrel
    have hsz := hbr.size
    by_cases hlt : (k : Int) < p
    · have hxr := hx.below hbr
      obtain ⟨f, HFE⟩ : ∃ f, Hid (fellOf p (ds ++ [(k : Int)]) = f) := ⟨_, Lib.hid rfl⟩
      have hv2 : Valid p (ds ++ [(k : Int)]) := fell_snoc_valid hv H0.out (by omega)
      by_cases hf : f = 0
      · have HX := Lib.hid (mayIn_yes (HFE.out.trans hf))
        go_wp2_with (first
          | (at_builtin; refine push_ints rfl (.tmp 24) (.tmp 25) rfl wr.heap.size (some ⟨wr.heap.size, 0, none⟩) 0 0 [] rfl (Oi.lit0 wr) _ A n c ds rfl (hxr.alloc hsz _) (by omega) (by omega) (by simp) ?_; intro A3 c3 w3 ho3 hg3; simp only [Nat.zero_add, List.nil_append] at ho3; have hb3 := (Oi.lit0 wr).grew ((Below.refl wr.heap.size wr).alloc (Nat.le_refl _) _) (by simp) (Nat.le_refl _) hg3; have hs3 := hb3.size)
          | (at_builtin; refine push_int rfl (.tmp 26) (.tmp 28) rfl wr.heap.size A3 n c3 ds rfl (ho3.alloc _) ⟨w3.heap.size, 0, none⟩ 1 _ rfl (cell_new1 _ _ _) (by omega) (by simp only [World.size_alloc]; omega) ?_; intro g4 cap4 w4 ho4 hg4; have hb4 := ho3.pushed hb3 hs3 (Nat.le_refl _) hg4; have hs4 := hb4.size)
          | (go_at_call 51; refine (rFullOf _ _ _ _ _ _ ho4.ri hv2).mono ?_; rintro e w5 ⟨A5, n5, c5, rfl, ho5, hb5⟩; rw [HFE.out]; have ho6 := (ho.below hb4).below (hb5.mono (Nat.le_refl _)); have hb6 := (hbr.trans (hb4.mono hsz)).trans (hb5.mono (Nat.le_trans hsz hs4)); have hs6 := hb6.size)
          | (at_builtin; refine push_int rfl (.tmp 35) (.tmp 37) rfl (w.heap.size) A2 m c2 (mayIn p ds k) rfl (ho6.alloc _) ⟨w5.heap.size, 0, none⟩ 1 _ rfl (cell_new1 _ _ _) (by omega) (by simp only [World.size_alloc]; omega) ?_; intro g cap w1 hown1 hgrow1))
        go_roundw
        case rel => exact ⟨k + 1, m + 1, _, _, by omega, by go_num, rfl, by omega, by rw [HX.out]; exact hown1, ho6.pushed hb6 hs6 (Nat.le_refl _) hgrow1⟩
        case measure => simp [intOf]; omega
      · have HX := Lib.hid (mayIn_no (fun h => hf (HFE.out.symm.trans h)))
        go_wp2_with (first
          | (at_builtin; refine push_ints rfl (.tmp 24) (.tmp 25) rfl wr.heap.size (some ⟨wr.heap.size, 0, none⟩) 0 0 [] rfl (Oi.lit0 wr) _ A n c ds rfl (hxr.alloc hsz _) (by omega) (by omega) (by simp) ?_; intro A3 c3 w3 ho3 hg3; simp only [Nat.zero_add, List.nil_append] at ho3; have hb3 := (Oi.lit0 wr).grew ((Below.refl wr.heap.size wr).alloc (Nat.le_refl _) _) (by simp) (Nat.le_refl _) hg3; have hs3 := hb3.size)
          | (at_builtin; refine push_int rfl (.tmp 26) (.tmp 28) rfl wr.heap.size A3 n c3 ds rfl (ho3.alloc _) ⟨w3.heap.size, 0, none⟩ 1 _ rfl (cell_new1 _ _ _) (by omega) (by simp only [World.size_alloc]; omega) ?_; intro g4 cap4 w4 ho4 hg4; have hb4 := ho3.pushed hb3 hs3 (Nat.le_refl _) hg4; have hs4 := hb4.size)
          | (go_at_call 51; refine (rFullOf _ _ _ _ _ _ ho4.ri hv2).mono ?_; rintro e w5 ⟨A5, n5, c5, rfl, ho5, hb5⟩; rw [HFE.out]; have ho6 := (ho.below hb4).below (hb5.mono (Nat.le_refl _)); have hb6 := (hbr.trans (hb4.mono hsz)).trans (hb5.mono (Nat.le_trans hsz hs4))))
        go_roundw
        case rel => exact ⟨k + 1, m, _, _, by omega, by go_num, rfl, by omega, by rw [HX.out]; exact ho6, hb6⟩
        case measure => simp [intOf]; omega
    · have HK : Hid (k = p.toNat) := Lib.hid (by omega)
      go_wp2
      go_ret2
      exact ⟨A2, m, c2, rfl, by rw [← HK.out]; exact ho, hbr⟩
end Go.Proofs.Ytkeiajncmhkdmaa
