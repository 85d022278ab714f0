import Derived.Test.YtkeiajncmhkdmaaQuiet
import Derived.Test.YtkeiajncmhkdmaaSpec
import Derived.Test.YtkeiajncmhkdmaaPost
namespace Go.Proofs.Ytkeiajncmhkdmaa
open Go.RowKit

theorem aOf (v : Value) (w : World) : Calls Try.prog 48 #[v] w fun e w' => e = .returned v ∧ w = w' := by
  go_enter Try.func48, Try.ntmps48
  go_wp2
  go_ret
  exact ⟨rfl, rfl⟩
theorem aGreat (A : Option Addr) (n c : Nat) (w : World) (r : Bool) (HR : Hid (decide (20 < n) = r)) : Calls Try.prog 17 #[.slice A n c] w fun e w' => e = .returned (.bool r) ∧ w = w' := by
  by_cases h : 20 < n
  · have HE : Hid (r = true) := Lib.hid (by rw [← HR.out]; exact decide_eq_true h)
    go_enter Try.func17, Try.ntmps17
    go_wp2
    go_ret
    exact ⟨ret_b (by rw [HE.out]; simp; omega), rfl⟩
  · have HE : Hid (r = false) := Lib.hid (by rw [← HR.out]; exact decide_eq_false h)
    go_enter Try.func17, Try.ntmps17
    go_wp2
    go_ret
    exact ⟨ret_b (by rw [HE.out]; simp; omega), rfl⟩

set_option maxHeartbeats 400000 in
theorem aInts (A1 A2 : Option Addr) (n1 c1 n2 c2 B1 B2 : Nat) (xs ys : List Int) (w : World) (hx : Ri w B1 A1 n1 xs) (hy : Ri w B2 A2 n2 ys) (hn : n1 ≤ 9223372036854775807) (hn2 : n2 ≤ 9223372036854775807) (r : Bool) (HR : Hid (decide (xs = ys) = r)) :
    Calls Try.prog 25 #[.slice A1 n1 c1, .slice A2 n2 c2] w fun e w' => e = .returned (.bool r) ∧ ∃ d, w' = w.drewN d := by
  have HLX := Lib.hid hx.len
  have HLY := Lib.hid hy.len
  by_cases hl : n1 = n2
  · subst hl
    go_enter Try.func25, Try.ntmps25
    go_wp2
    go_loopw [5] (fun i wr => ∃ k d : Nat, k ≤ n1 ∧ i = .int .i64 k ∧ wr = w.drewN d ∧ Hid (xs.take k = ys.take k)) (fun i _ => n1 - (intOf i).toNat)
    case atStart => exact ⟨0, 0, Nat.zero_le _, rfl, rfl, Lib.hid rfl⟩
    case round =>
      obtain ⟨k, d, hk, rfl, rfl, HT⟩ := hrel
      by_cases hlt : k < n1
      · obtain ⟨ad, x, rfl, _, hc, hxk, _⟩ := hx.at_ hlt
        obtain ⟨ad2, y, rfl, _, hc2, hyk, _⟩ := hy.at_ hlt
        by_cases he : x = y
        · have hb : (x != y) = false := by simp [he]
          have HT2 : Hid (xs.take (k + 1) = ys.take (k + 1)) := Lib.hid (by rw [take_snoc hxk.out, take_snoc hyk.out, HT.out, he])
          clear he
          go_wp2
          go_quiet (fail)
          go_wp2
          go_roundw
          case rel => exact ⟨k + 1, _, by omega, by go_num, rfl, HT2⟩
          case measure => simp [intOf]; omega
        · have hb : (x != y) = true := by simp [he]
          have HE : Hid (r = false) := Lib.hid (by
            rw [← HR.out]
            refine decide_eq_false fun e => he ?_
            have h1 := hxk.out
            rw [e, hyk.out] at h1
            exact (Option.some.inj h1).symm)
          clear he
          go_wp2
          go_quiet (fail)
          go_wp2
          go_ret
          exact ⟨ret_b HE.out.symm, d + _, by simp [World.drewN, Nat.add_assoc]; rfl⟩
      · have HE : Hid (r = true) := Lib.hid (by
          rw [← HR.out]
          refine decide_eq_true ?_
          have h := HT.out
          rwa [List.take_of_length_le (by rw [HLX.out]; omega), List.take_of_length_le (by rw [HLY.out]; omega)] at h)
        go_wp2
        go_ret
        exact ⟨ret_b HE.out.symm, d, rfl⟩
  · have HE : Hid (r = false) := Lib.hid (by
      rw [← HR.out]
      refine decide_eq_false fun e => hl ?_
      rw [← HLX.out, ← HLY.out, e])
    go_enter Try.func25, Try.ntmps25
    go_wp2
    go_ret
    exact ⟨ret_b HE.out.symm, 0, rfl⟩
theorem Oi.most {w : World} {base n c : Nat} {A : Option Addr} {xs : List Int} (h : Oi w base A n c xs) : n ≤ 9223372036854775807 := by
  rcases h.2 with ⟨h', h0⟩ | ⟨g, cap, cur, h1, _, _, h2, h3, _⟩
  · omega
  · injection h1 with _ e2 e3
    subst e3
    unfold maxLen at h3
    omega
theorem aIntsT (A1 A2 : Option Addr) (n1 c1 n2 c2 B1 B2 : Nat) (xs ys : List Int) (w : World) (hx : Ri w B1 A1 n1 xs) (hy : Ri w B2 A2 n2 ys) (hn : n1 ≤ 9223372036854775807) (hn2 : n2 ≤ 9223372036854775807) (r : Bool) (HR : Hid (decide (xs = ys) = r)) :
    Calls Try.prog 25 #[.slice A1 n1 c1, .slice A2 n2 c2] w (RetB w r) :=
  (aInts A1 A2 n1 c1 n2 c2 B1 B2 xs ys w hx hy hn hn2 r HR).mono fun _ _ ⟨h1, _, h2⟩ => ⟨h1, h2 ▸ below_drewN (Below.refl _ _) _⟩
end Go.Proofs.Ytkeiajncmhkdmaa
