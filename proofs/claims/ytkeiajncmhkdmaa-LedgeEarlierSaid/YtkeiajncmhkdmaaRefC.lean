import Derived.Test.YtkeiajncmhkdmaaRefB
import Derived.Test.YtkeiajncmhkdmaaInc
import Derived.Deep.QuietTactic
import Derived.BigQuiet
namespace Go.Proofs.Ytkeiajncmhkdmaa
open Go.RowKit

theorem leftC_get {N s : Nat} (hs : s < N) (hN : N ≤ 256) : (leftC.take N)[s]? = some (leftAt s) := by
  have hk2 : s < leftC.length := by rw [leftC_length]; omega
  unfold leftAt
  rw [List.getElem?_take, if_pos hs, List.getElem?_eq_getElem hk2]
  rfl

set_option maxHeartbeats 400000 in
theorem rCountOf (p : Nat) (m : Int) (w : World) (hp1 : 1 ≤ p) (hp : p ≤ 8) :
    Calls Try.prog 61 #[.int .i64 (p : Int), .int .i64 m] w fun e w' => e = .returned (.int .i64 (countIn m (2 ^ p))) ∧ Below w.heap.size w w' := by
  obtain ⟨N, HN⟩ : ∃ N, Hid (N = 2 ^ p) := ⟨_, Lib.hid rfl⟩
  have hN : N ≤ 256 := by rw [HN.out]; exact two8 hp
  have HL := Lib.hid (rLeft p w hp1 hp)
  rw [← HN.out] at HL ⊢
  go_enter Try.func61, Try.ntmps61
  go_wp2_with (go_at_call 64; refine (HL.out).mono ?_; rintro e w1 ⟨g, rfl, hr, hb⟩)
  have hs1 := hb.size
  go_loopw [6, 7] (fun t i wr => ∃ k : Nat, k ≤ N ∧ i = .int .i64 k ∧ t = .int .i64 (countIn m k) ∧ Ol wr w.heap.size g N (leftC.take N) ∧ Below w.heap.size w wr) (fun _ i _ => N - (intOf i).toNat)
  case atStart => exact ⟨0, by omega, rfl, rfl, hr, hb⟩
  case round =>
    obtain ⟨k, hk, rfl, rfl, hr2, hb2⟩ := hrel
    have hs2 := hb2.size
    by_cases hlt : k < N
    · have HLL := Lib.hid (rListed k wr (by omega))
      obtain ⟨c1, c2⟩ := countIn_bd (m := m) k (by omega)
      obtain ⟨d1, d2⟩ := leftAt_bd (s := k) (by omega)
      have hkN : (k : Int) ≤ 256 := by omega
      by_cases hm : ((listed k).length : Int) = m
      · have HX := Lib.hid (countIn_yes hm)
        have HM := Lib.hid hm
        clear hm
        go_wp2_with (go_at_call 46; refine (HLL.out).mono ?_; rintro e w2 ⟨A', n', c', rfl, ho, hb3⟩; have hr3 := hr2.below hb3; have cc := hr3.cell (leftC_get hlt hN); have he : ((n' : Int) == m) = true := beq_iff_eq.2 (by rw [← HM.out, ho.len]))
        go_roundw
        case rel => exact ⟨k + 1, by omega, by go_num, by rw [HX.out], hr3, hb2.trans (hb3.mono hs2)⟩
        case measure => simp [intOf]; omega
      · have HX := Lib.hid (countIn_no hm)
        have HM := Lib.hid hm
        clear hm
        go_wp2_with (go_at_call 46; refine (HLL.out).mono ?_; rintro e w2 ⟨A', n', c', rfl, ho, hb3⟩; have hr3 := hr2.below hb3; have he : ((n' : Int) == m) = false := beq_eq_false_iff_ne.2 (by have := HM.out; rw [ho.len] at this; exact this))
        go_roundw
        case rel => exact ⟨k + 1, by omega, by go_num, by rw [HX.out], hr3, hb2.trans (hb3.mono hs2)⟩
        case measure => simp [intOf]; omega
    · have HK : Hid (k = N) := Lib.hid (by omega)
      go_wp2
      go_ret
      exact ⟨ret_i (by rw [HK.out]), hb2⟩

theorem rCount_many (p k : Int) (w : World) (hp : p < 1 ∨ 8 < p) :
    Calls Try.prog 35 #[.int .i64 p, .int .i64 k] w fun e w' => e = .returned (.tuple #[.int .i64 0, .int .i64 6]) ∧ w = w' := by
  go_enter Try.func35, Try.ntmps35
  go_wp2_with (go_at_call 53; refine (rCheckPlaces_bad _ hp _).mono ?_; rintro e w' ⟨rfl, rfl⟩)
  go_ret2
  exact ⟨rfl, rfl⟩
theorem rCount_range (p k : Int) (w : World) (hp : ¬ (p < 1 ∨ 8 < p)) (hk : k < 0 ∨ (0 ≤ k ∧ 12 < k)) :
    Calls Try.prog 35 #[.int .i64 p, .int .i64 k] w fun e w' => e = .returned (.tuple #[.int .i64 0, .int .i64 3]) ∧ w = w' := by
  rcases hk with hk | ⟨hk0, hk⟩
  · go_enter Try.func35, Try.ntmps35
    go_wp2_with (go_at_call 53; refine (rCheckPlaces_ok _ hp _).mono ?_; rintro e w' ⟨rfl, rfl⟩)
    go_ret2
    exact ⟨rfl, rfl⟩
  · go_enter Try.func35, Try.ntmps35
    go_wp2_with (go_at_call 53; refine (rCheckPlaces_ok _ hp _).mono ?_; rintro e w' ⟨rfl, rfl⟩)
    go_ret2
    exact ⟨rfl, rfl⟩
theorem rCount_ok (p : Nat) (k : Int) (w : World) (hp1 : 1 ≤ p) (hp : p ≤ 8) (hk0 : 0 ≤ k) (hk : k ≤ 12) :
    Calls Try.prog 35 #[.int .i64 (p : Int), .int .i64 k] w fun e w' => e = .returned (.tuple #[.int .i64 (countIn k (2 ^ p)), .int .i64 0]) ∧ Below w.heap.size w w' := by
  have hpn : ¬ ((p : Int) < 1 ∨ 8 < (p : Int)) := by omega
  have HP := Lib.hid hpn
  clear hpn
  go_enter Try.func35, Try.ntmps35
  go_wp2_with (first
    | (go_at_call 53; refine (rCheckPlaces_ok _ HP.out _).mono ?_; rintro e w' ⟨rfl, rfl⟩)
    | (go_at_call 61; refine (rCountOf _ _ _ hp1 hp).mono ?_; rintro e w1 ⟨rfl, hb⟩))
  go_ret2
  exact ⟨rfl, hb⟩
end Go.Proofs.Ytkeiajncmhkdmaa

namespace Go.Proofs.Ytkeiajncmhkdmaa
open Go.RowKit

theorem rLeave_many (p : Int) (A : Option Addr) (n c : Nat) (w : World) (hp : p < 1 ∨ 8 < p) :
    Calls Try.prog 37 #[.int .i64 p, .slice A n c] w fun e w' => e = .returned (.tuple #[.int .i64 0, .int .i64 6]) ∧ w = w' := by
  go_enter Try.func37, Try.ntmps37
  go_wp2_with (go_at_call 53; refine (rCheckPlaces_bad _ hp _).mono ?_; rintro e w' ⟨rfl, rfl⟩)
  go_ret2
  exact ⟨rfl, rfl⟩

/-- What Leave's loop comes to. -/
def leaveR (p : Nat) (l : List Int) : Int × Int := if (incR (p : Int) l).1 = true then (leftAt (setBits l), 0) else (0, 3)
theorem leaveR_bad {p : Nat} {l : List Int} (h : (incR (p : Int) l).1 = false) : leaveR p l = (0, 3) := by unfold leaveR; rw [h]; rfl
theorem leaveR_ok {p : Nat} {l : List Int} (h : (incR (p : Int) l).1 = true) : leaveR p l = (leftAt (setBits l), 0) := by unfold leaveR; rw [if_pos h]
theorem inc_prev {p : Int} {l : List Int} {k : Nat} {y : Int} (h : l[k]? = some y) : (incR p (l.take (k + 1))).2 = y + 1 := incR_next h

set_option maxHeartbeats 1000000 in
theorem rLeave_ok (p : Nat) (A : Option Addr) (n c : Nat) (xs : List Int) (w : World) (hp1 : 1 ≤ p) (hp : p ≤ 8) (hx : Ri w w.heap.size A n xs) (hn : n ≤ 1048576) :
    Calls Try.prog 37 #[.int .i64 (p : Int), .slice A n c] w fun e w' => e = .returned (.tuple #[.int .i64 (leaveR p xs).1, .int .i64 (leaveR p xs).2]) ∧ Below w.heap.size w w' := by
  have HL := Lib.hid hx.len
  have hpn : ¬ ((p : Int) < 1 ∨ 8 < (p : Int)) := by omega
  have HP := Lib.hid hpn
  clear hpn
  obtain ⟨N, HN⟩ : ∃ N, Hid (N = 2 ^ p) := ⟨_, Lib.hid rfl⟩
  have hN : N ≤ 256 := by rw [HN.out]; exact two8 hp
  have HLF := Lib.hid (rLeft p w hp1 hp)
  rw [← HN.out] at HLF
  have hp8 : (p : Int) ≤ 8 := by omega
  obtain ⟨R, HR⟩ : ∃ R, Hid (R = leaveR p xs) := ⟨_, Lib.hid rfl⟩
  rw [← HR.out]
  go_enter Try.func37, Try.ntmps37
  go_wp2_with (go_at_call 53; refine (rCheckPlaces_ok _ HP.out _).mono ?_; rintro e w' ⟨rfl, rfl⟩)
  go_loopw [6, 7] (fun t i wr => ∃ (k d s : Nat), k ≤ n ∧ i = .int .i64 k ∧ wr = w.drewN d ∧ t = .int .i64 (s : Int) ∧ s < 256 ∧ Hid ((incR (p : Int) (xs.take k)).1 = true ∧ s = setBits (xs.take k))) (fun _ i _ => n - (intOf i).toNat)
  case atStart => exact ⟨0, 0, 0, by omega, rfl, rfl, rfl, by omega, Lib.hid ⟨rfl, rfl⟩⟩
  case round =>
    obtain ⟨k, d, s, hk, rfl, rfl, rfl, hs, HI⟩ := hrel
    by_cases hlt : k < n
    · obtain ⟨ad, x, rfl, hadb, hc, hxk, _⟩ := hx.at_ hlt
      have HST := Lib.hid (incR_step (p := (p : Int)) hxk.out)
      have hbad : (x < 0 ∨ (p : Int) ≤ x ∨ x < (incR (p : Int) (xs.take k)).2) → Hid (R = (0, 3)) := fun h => Lib.hid (by
        rw [HR.out]
        refine leaveR_bad (incR_bad (k := k + 1) ?_)
        rw [HST.out]
        simp only [stepI, Bool.and_eq_false_iff, decide_eq_false_iff_not]
        have := (inc_listed (p := (p : Int)) (by omega) _ HI.out.1).1
        rcases h with h | h | h
        · exact .inl (.inr (by omega))
        · exact .inr (by omega)
        · exact .inl (.inr (by omega)))
      have HBAD := Lib.hid hbad
      clear hbad
      by_cases h0 : x < 0
      · have HE := HBAD.out (.inl h0)
        go_wp2
        go_quiet (fail)
        go_wp2
        go_ret2
        rw [HE.out]
        exact ⟨rfl, below_drewN (below_drewN (Below.refl _ _) _) _⟩
      · by_cases h1 : (p : Int) ≤ x
        · have HE := HBAD.out (.inr (.inl h1))
          have hd0 : decide (x < 0) = false := by simpa using h0
          go_wp2
          go_quiet (fail)
          go_wp2
          go_ret2
          rw [HE.out]
          exact ⟨rfl, below_drewN (below_drewN (Below.refl _ _) _) _⟩
        · have hd0 : decide (x < 0) = false := by simpa using h0
          have hd1 : decide ((p : Int) ≤ x) = false := by simpa using h1
          obtain ⟨q, hq⟩ := Int.eq_ofNat_of_zero_le (Int.not_lt.1 h0)
          have hq8 : q < 8 := by omega
          have HORD : Hid ((incR (p : Int) (xs.take k)).2 ≤ x → (incR (p : Int) (xs.take (k + 1))).1 = true ∧ s < 2 ^ q ∧ s ||| 2 ^ q = setBits (xs.take (k + 1))) := Lib.hid (fun h => by
            refine ⟨by rw [HST.out]; simp [stepI, HI.out.1]; omega, ?_, ?_⟩
            · have i3 := (inc_listed (p := (p : Int)) (by omega) _ HI.out.1).2.2.1
              rw [← HI.out.2] at i3
              exact Nat.lt_of_lt_of_le i3 (Nat.pow_le_pow_right (by omega) (by omega))
            · rw [setBits_step hxk.out, HI.out.2, hq]; rfl)
          have HQ := Lib.hid hq
          clear hq
          have hbs : s < 4611686018427387904 := by omega
          have h2q : 2 ^ q ≤ 128 := Nat.le_trans (Nat.pow_le_pow_right (by omega) (by omega : q ≤ 7)) (by decide)
          have hor : bits .or .i64 (s : Int) (((2 ^ q : Nat) : Nat) : Int) = ((s ||| 2 ^ q : Nat) : Int) := or_int s (2 ^ q) hbs (by omega)
          obtain ⟨E, HEE⟩ : ∃ E, Hid (E = 2 ^ q) := ⟨_, Lib.hid rfl⟩
          have eE : ((2 : Int) ^ q) = (E : Int) := by rw [HEE.out]; simp
          rw [← HEE.out] at hor h2q
          have hsh : IntKind.i64.wrap (2 ^ q) = (E : Int) := by
            rw [eE]
            exact IntWalk.i64_in _ (by omega)
          clear eE
          have hsh2 : wrap64 (2 ^ q) = (E : Int) := by rw [← IntWalk.i64_left]; exact hsh
          by_cases hk0 : k = 0
          · have hdk : decide (0 < k) = false := by simp [hk0]
            have HF := HORD.out (by rw [hk0, List.take_zero, incR_nil]; omega)
            rw [← HEE.out] at HF
            obtain ⟨z, HZ⟩ : ∃ z, Hid (z = s ||| E) := ⟨_, Lib.hid rfl⟩
            rw [← HZ.out] at hor HF
            have hz : z < 256 := by rw [HF.2.2]; exact Nat.lt_of_lt_of_le (inc_lt hp _ HF.1) (two8 hp)
            have HFF := Lib.hid HF
            have HK0 := Lib.hid hk0
            clear HF hk0
            go_wp2
            go_quiet (fail)
            obtain rfl := HQ.out
            go_wp2
            go_roundw
            case rel => exact ⟨k + 1, _, z, by omega, by go_num, rfl, rfl, hz, Lib.hid ⟨HFF.out.1, HFF.out.2.2⟩⟩
            case measure => simp [intOf]; omega
          · have hdk : decide (0 < k) = true := by simp; omega
            obtain ⟨j, hj⟩ : ∃ j, k = j + 1 := ⟨k - 1, by omega⟩
            obtain ⟨ad', y, hA, _, hcy, hyk, _⟩ := hx.at_ (k := j) (by omega)
            cases hA
            have HNX := Lib.hid (inc_prev (p := (p : Int)) hyk.out)
            have hix : IntKind.i64.wrap ((k : Int) - 1) = (j : Int) := by
              rw [show (k : Int) - 1 = (j : Int) by omega]
              exact IntWalk.i64_in _ (by omega)
            have hcy2 : w.cell? (ad.add (k - 1)) = some (.int .i64 y) := by rw [show k - 1 = j by omega]; exact hcy
            have HJ := Lib.hid hj
            have hjn : j < n := by omega
            have hk1 : 1 ≤ k := by omega
            clear hj hk0
            by_cases hle : x ≤ y
            · have hd3 : decide (x ≤ y) = true := by simpa using hle
              have HE := HBAD.out (.inr (.inr (by rw [HJ.out, HNX.out]; omega)))
              go_wp2
              go_quiet (fail)
              go_wp2
              go_ret2
              rw [HE.out]
              exact ⟨rfl, below_drewN (below_drewN (Below.refl _ _) _) _⟩
            · have hd3 : decide (x ≤ y) = false := by simpa using hle
              have HF := HORD.out (by rw [HJ.out, HNX.out]; omega)
              rw [← HEE.out] at HF
              obtain ⟨z, HZ⟩ : ∃ z, Hid (z = s ||| E) := ⟨_, Lib.hid rfl⟩
              rw [← HZ.out] at hor HF
              have hz : z < 256 := by rw [HF.2.2]; exact Nat.lt_of_lt_of_le (inc_lt hp _ HF.1) (two8 hp)
              have HFF := Lib.hid HF
              clear HF
              go_wp2
              go_quiet (fail)
              obtain rfl := HQ.out
              go_wp2
              go_roundw
              case rel => exact ⟨k + 1, _, z, by omega, by go_num, rfl, rfl, hz, Lib.hid ⟨HFF.out.1, HFF.out.2.2⟩⟩
              case measure => simp [intOf]; omega
    · have HK : Hid (k = n) := Lib.hid (by omega)
      have HT : Hid (xs.take k = xs) := Lib.hid (List.take_of_length_le (by rw [HL.out, HK.out]; exact Nat.le_refl _))
      have HII : Hid ((incR (p : Int) xs).1 = true ∧ s = setBits xs) := Lib.hid (by have := HI.out; rw [HT.out] at this; exact this)
      have hsN : s < N := by rw [HN.out, HII.out.2]; exact inc_lt hp _ HII.out.1
      have HE : Hid (R = (leftAt s, 0)) := Lib.hid (by rw [HR.out, HII.out.2]; exact leaveR_ok HII.out.1)
      have HLF2 := Lib.hid (rLeft p (w.drewN d) hp1 hp)
      rw [← HN.out] at HLF2
      go_wp2_with (go_at_call 64; refine (HLF2.out).mono ?_; rintro e w1 ⟨g, rfl, hr, hb⟩; have cc := hr.cell (leftC_get hsN hN))
      go_ret2
      rw [HE.out]
      exact ⟨rfl, (below_drewN (Below.refl w.heap.size w) d).trans hb⟩
end Go.Proofs.Ytkeiajncmhkdmaa
