/-
  The reference: 'IsList'.
-/
import Derived.Test.YtaekjnjignlmoaaR12
import Derived.Test.YtaekjnjignlmoaaClash
namespace Go.Proofs.Ytaekjnjignlmoaa
open Go.RowKit Go.Shelf

set_option maxRecDepth 100000 in
set_option maxHeartbeats 2000000 in
theorem rIsList (B : Option Addr) (m d : Nat) (xs : List Int) (p : Nat) (w : World) (hl : Ri w w.heap.size B m xs) (hm : m ≤ 1048576) (_hp : p ≤ 100) (r : Bool) (HR : Hid ((!(List.range m).any (badC xs p)) = r)) :
    Calls Try.prog 94 #[.slice B m d, .int .i64 (p : Int)] w (RetB w r) := by
  have HB : ∀ k : Nat, k < m → badC xs p k = true → Hid (r = false) := fun k hk h => Lib.hid (by
    rw [← HR.out, Bool.not_eq_false']
    exact List.any_eq_true.2 ⟨k, List.mem_range.2 hk, h⟩)
  go_enter Try.func94, Try.ntmps94
  go_wp2
  go_loopw [5] (fun i wr => ∃ k dd : Nat, k ≤ m ∧ i = .int .i64 (k : Int) ∧ Hid ((List.range k).any (badC xs p) = false) ∧ wr = w.drewN dd) (fun i _ => m - (intOf i).toNat)
  case atStart => exact ⟨0, 0, Nat.zero_le _, rfl, Lib.hid rfl, rfl⟩
  case round =>
    obtain ⟨k, dd, hk, rfl, HNO, rfl⟩ := hrel
    by_cases hlt : k < m
    · obtain ⟨ad, x, rfl, _, cl, hx, _⟩ := hl.at_ hlt
      have HX : Hid (nth xs k = x) := Lib.hid (nth_some hx.out)
      have HSN : Hid ((List.range (k + 1)).any (badC xs p) = badC xs p k) := Lib.hid (by
        rw [List.range_succ, List.any_append, HNO.out]
        simp)
      have HLO : Hid (∀ j : Nat, j < k → 0 ≤ nth xs j) := Lib.hid (fun j hj => by
        have hle : m = xs.length := hl.len.symm
        have h1 : ∀ j : Nat, j < k → nextAt xs j ≤ nth xs j := fun j hj => by
          have h1 := List.any_eq_false.1 HNO.out j (List.mem_range.2 hj)
          unfold badC at h1
          rw [Bool.not_eq_true, outB_false] at h1
          exact h1.1
        induction j with
        | zero => exact h1 0 hj
        | succ j ih =>
          have h2 := h1 (j + 1) hj
          have h3 := ih (by omega)
          unfold nextAt at h2
          rw [if_neg (by omega), Nat.add_sub_cancel] at h2
          omega)
      have HTX : badC xs p k = true → Hid (r = false) := HB k hlt
      clear HB hx
      by_cases h1 : x < 0
      · have HE := HTX (by
          unfold badC
          rw [← Bool.not_eq_false, outB_false, HX.out]
          intro h
          have h2 := h.1
          unfold nextAt at h2
          by_cases h0 : k = 0
          · rw [if_pos h0] at h2; omega
          · rw [if_neg h0] at h2
            have := HLO.out (k - 1) (by omega)
            omega)
        have d1 : decide (x < 0) = true := decide_eq_true h1
        clear h1
        go_wp2
        go_quiet (fail)
        go_wp2
        go_ret
        exact ⟨ret_b HE.out.symm, below_drewN (below_drewN (Below.refl _ _) _) _⟩
      · have d1 : decide (x < 0) = false := decide_eq_false h1
        by_cases h2 : (p : Int) ≤ x
        · have HE := HTX (by
            unfold badC
            rw [← Bool.not_eq_false, outB_false, HX.out]
            intro h
            have h2 := h.2
            omega)
          have d2 : decide ((p : Int) ≤ x) = true := decide_eq_true h2
          clear h1 h2
          go_wp2
          go_quiet (fail)
          go_wp2
          go_ret
          exact ⟨ret_b HE.out.symm, below_drewN (below_drewN (Below.refl _ _) _) _⟩
        · have d2 : decide ((p : Int) ≤ x) = false := decide_eq_false h2
          by_cases h0 : k = 0
          · have HG : Hid ((List.range (k + 1)).any (badC xs p) = false) := Lib.hid (by
              rw [HSN.out]
              unfold badC
              rw [outB_false, HX.out]
              unfold nextAt
              rw [if_pos h0]
              omega)
            have d3 : decide (0 < (k : Int)) = false := decide_eq_false (by omega)
            have n3 : ¬ 0 < k := by omega
            clear h1 h2 h0
            go_wp2
            go_quiet (fail)
            go_wp2
            go_roundw
            case rel => exact ⟨k + 1, _, by omega, by go_num, HG, rfl⟩
            case measure => simp [intOf]; omega
          · obtain ⟨k1, HK1⟩ : ∃ k1, Hid (k - 1 = k1) := ⟨_, Lib.hid rfl⟩
            have hk1 : k1 < m := by have := HK1.out; omega
            obtain ⟨ad2, y, hA, _, cl2, hy, _⟩ := hl.at_ hk1
            cases hA
            have HY : Hid (nth xs k1 = y) := Lib.hid (nth_some hy.out)
            have hw1 : IntKind.i64.wrap ((k : Int) - 1) = (k1 : Int) := by rw [IntWalk.i64_in _ (by omega)]; have := HK1.out; omega
            have n3 : 0 < k := by omega
            obtain ⟨q, HQ⟩ : ∃ q, Hid (decide (x ≤ y) = q) := ⟨_, Lib.hid rfl⟩
            have HS : Hid (badC xs p k = q) := Lib.hid (by
              rw [← HQ.out]
              unfold badC
              have e : nextAt xs k = y + 1 := by
                unfold nextAt
                rw [if_neg h0, HK1.out, HY.out]
              rw [HX.out, e]
              by_cases h : x ≤ y
              · rw [decide_eq_true h, ← Bool.not_eq_false, outB_false]
                omega
              · rw [decide_eq_false h, outB_false]
                omega)
            have d4 := HQ.out
            clear h1 h2 h0 hy
            cases q
            · have HG : Hid ((List.range (k + 1)).any (badC xs p) = false) := Lib.hid (HSN.out.trans HS.out)
              go_wp2
              go_quiet (fail)
              go_wp2
              go_roundw
              case rel => exact ⟨k + 1, _, by omega, by go_num, HG, rfl⟩
              case measure => simp [intOf]; omega
            · have HE := HTX HS.out
              go_wp2
              go_quiet (fail)
              go_wp2
              go_ret
              exact ⟨ret_b HE.out.symm, below_drewN (below_drewN (Below.refl _ _) _) _⟩
    · have HE : Hid (r = true) := Lib.hid (by
        have hkm : k = m := by omega
        rw [← HR.out, ← hkm, HNO.out]
        rfl)
      go_wp2
      go_ret
      exact ⟨ret_b HE.out.symm, below_drewN (Below.refl _ _) _⟩
end Go.Proofs.Ytaekjnjignlmoaa
