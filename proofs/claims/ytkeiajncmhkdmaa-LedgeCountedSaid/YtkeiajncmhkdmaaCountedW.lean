/-
  LedgeCounted: there are as many rows of m coppers on n places as n + 1 - m times n + 1 to the power of m - 1; 1 of no coppers, and none of more than n: for all numbers of places and coppers, told by numbers; no condition.
-/
import Derived.Test.YtkeiajncmhkdmaaWorks
import Derived.Test.YtkeiajncmhkdmaaRow
import Derived.Test.YtkeiajncmhkdmaaLaw2
import Derived.Test.YtkeiajncmhkdmaaFactS
import Derived.Test.YtkeiajncmhkdmaaLib2
namespace Go.Proofs.Ytkeiajncmhkdmaa
open Go.ChangeShapes Go.WideShapes Go.ChangeAt Go.RowKit

set_option maxRecDepth 100000 in
set_option maxHeartbeats 4000000 in
theorem wCounted (x : Int) (hx0 : 0 ≤ x) (hx1 : x ≤ 255) (y : Int) (hy0 : 0 ≤ y) (hy1 : y ≤ 255) (w : World) : Calls Try.prog 12 #[.int .u8 x, .int .u8 y] w (RetB w true) := by
  obtain ⟨b, hbx, hb1, hb8⟩ := placed_ex hx0
  have HB := Lib.hid hbx
  clear hbx
  obtain ⟨m, hm⟩ : ∃ m : Nat, y % 13 = (m : Int) := ⟨(y % 13).toNat, by omega⟩
  have hm12 : m ≤ 12 := by omega
  obtain ⟨v, HVC⟩ : ∃ v, Hid (countC (b : Int) (m : Int) = v) := ⟨_, Lib.hid rfl⟩
  have HC : Hid (countS (b : Int) (m : Int) = (v, 0)) := Lib.hid (by
    unfold countS
    rw [if_neg (by omega), if_neg (by omega), Int.toNat_natCast, ← count_closed hb1 hb8 hm12, HVC.out])
  go_enter Try.func12, Try.ntmps12
  go_wp2_with fail
  refine (aPlaced x hx0 hx1 b HB _).mono ?_
  rintro e w' ⟨rfl, rfl⟩
  go_wp2_with fail
  refine (lCountT (b : Int) (m : Int) _ v 0 HC).mono ?_
  rintro e w1_ ⟨rfl, hb1⟩
  have B1 : Below w.heap.size w w1_ := (Below.refl _ _).trans (hb1.mono (Nat.le_refl _))
  have S1 : w.heap.size ≤ w1_.heap.size := B1.size
  clear hb1
  by_cases hm0 : m = 0
  · have HV1 : Hid (v = 1) := Lib.hid (by rw [← HVC.out]; unfold countC; rw [if_pos (by omega)])
    obtain rfl := HV1.out
    have he : ((m : Int) == 0) = true := beq_iff_eq.2 (by omega)
    clear hm0
    go_wp2_with fail
    refine (aWorks _).mono ?_
    rintro e w2_ ⟨rfl, hb2⟩
    have B2 : Below w.heap.size w w2_ := B1.trans (hb2.mono S1)
    have S2 : w.heap.size ≤ w2_.heap.size := B2.size
    clear B1 S1
    clear hb2
    go_wp2
    go_ret
    exact ⟨rfl, B2⟩
  · have he : ((m : Int) == 0) = false := beq_eq_false_iff_ne.2 (by omega)
    clear hm0
    by_cases hbm : b < m
    · have HV0 : Hid (v = 0) := Lib.hid (by rw [← HVC.out]; unfold countC; rw [if_neg (by have := beq_eq_false_iff_ne.1 he; exact this), if_pos (by omega)])
      obtain rfl := HV0.out
      have hd : decide (b < m) = true := decide_eq_true hbm
      go_wp2_with fail
      refine (aWorks _).mono ?_
      rintro e w2_ ⟨rfl, hb2⟩
      have B2 : Below w.heap.size w w2_ := B1.trans (hb2.mono S1)
      have S2 : w.heap.size ≤ w2_.heap.size := B2.size
      clear B1 S1
      clear hb2
      go_wp2
      go_ret
      exact ⟨rfl, B2⟩
    · have hd : decide (b < m) = false := decide_eq_false hbm
      have HM0 : Hid (¬ ((m : Int) = 0)) := Lib.hid (beq_eq_false_iff_ne.1 he)
      have hm1 : 1 ≤ m := by have := HM0.out; omega
      have HVV : Hid (v = ((b : Int) + 1 - (m : Int)) * (((b + 1) ^ (m - 1) : Nat) : Int)) := Lib.hid (by
        rw [← HVC.out]; unfold countC
        rw [if_neg HM0.out, if_neg (by omega), show ((b : Int) + 1).toNat = b + 1 by omega, show ((m : Int) - 1).toNat = m - 1 by omega])
      go_wp2
      go_loop [9, 10] (fun o i => ∃ (j E : Nat), j + 1 ≤ m ∧ i = .int .i64 ((j : Int) + 1) ∧ o = .int .i64 (((b : Int) + 1 - (m : Int)) * (E : Int)) ∧ Hid (E = (b + 1) ^ j)) (fun _ i => (m : Int).toNat + 1 - (intOf i).toNat)
      case atStart => exact ⟨0, 1, by omega, rfl, by simp, Lib.hid rfl⟩
      case round =>
        obtain ⟨j, E, hj, rfl, rfl, HE⟩ := hrel
        have hE : E ≤ 282429536481 := by rw [HE.out]; exact pow_bd (by omega) (by omega)
        have hm0 : 0 ≤ ((b : Int) + 1 - (m : Int)) * (E : Int) := Int.mul_nonneg (by omega) (by omega)
        have hm9 : ((b : Int) + 1 - (m : Int)) * (E : Int) ≤ 9 * 282429536481 := Int.mul_le_mul (by omega) (by omega) (by omega) (by omega)
        by_cases hlt : (j : Int) + 1 < (m : Int)
        · have HE2 : Hid (E * (b + 1) = (b + 1) ^ (j + 1)) := Lib.hid (by rw [HE.out, Nat.pow_succ])
          obtain ⟨P, HPP⟩ : ∃ P, Hid (P = ((b : Int) + 1 - (m : Int)) * (E : Int)) := ⟨_, Lib.hid rfl⟩
          rw [← HPP.out] at hm0 hm9 ⊢
          have q0 : 0 ≤ P * ((b : Int) + 1) := Int.mul_nonneg hm0 (by omega)
          have q1 : P * ((b : Int) + 1) ≤ (9 * 282429536481) * 9 := Int.mul_le_mul hm9 (by omega) (by omega) (by omega)
          have hw : IntKind.i64.wrap (P * ((b : Int) + 1)) = P * ((b : Int) + 1) := IntWalk.i64_in _ (by omega)
          have hw' : wrap64 (P * ((b : Int) + 1)) = P * ((b : Int) + 1) := IntWalk.wrap64_in _ (by omega)
          have HNX : Hid (P * ((b : Int) + 1) = ((b : Int) + 1 - (m : Int)) * ((E * (b + 1) : Nat) : Int)) := Lib.hid (by rw [HPP.out, Int.mul_assoc, Int.natCast_mul]; rfl)
          go_wp2
          go_round
          case rel => exact ⟨j + 1, E * (b + 1), by omega, by go_num, by rw [HNX.out], HE2⟩
          case measure => simp [intOf]; omega
        · have HK : Hid (j = m - 1) := Lib.hid (by omega)
          have HVE : Hid (v = ((b : Int) + 1 - (m : Int)) * (E : Int)) := Lib.hid (by rw [HVV.out, HE.out, HK.out])
          obtain ⟨P, HPP⟩ : ∃ P, Hid (((b : Int) + 1 - (m : Int)) * (E : Int) = P) := ⟨_, Lib.hid rfl⟩
          rw [HPP.out] at HVE ⊢
          obtain rfl := HVE.out
          clear hm0 hm9

          go_wp2_with fail
          refine (aWorks _).mono ?_
          rintro e w2_ ⟨rfl, hb2⟩
          have B2 : Below w.heap.size w w2_ := B1.trans (hb2.mono S1)
          have S2 : w.heap.size ≤ w2_.heap.size := B2.size
          clear B1 S1
          clear hb2
          go_wp2
          go_ret
          exact ⟨rfl, B2⟩

set_option maxRecDepth 100000 in
theorem LedgeCounted_lifted (os : Os) (started : os.Started) (H : Type) (enc : TypeId × Value → H) :
    ReturnsInHanded {} Try.checked os 12 .any (Rows.ledgeCountedSpec.pre6 enc Try.prog Try.f12 Rows.ledgeCountedRow.domain false) (Rows.ledgeCountedSpec.post enc Try.prog Try.f12 false true false false) := by
  refine returnsInHanded_of_change (C := Try.checked) row_own started (by kernel_rfl) Try.func12
    (ChangeSpec.witness6 (enc := enc) (C := Try.checked) false ⟨#[], #[.int .u8 0, .int .u8 0], []⟩ 8 (by kernel_rfl) (by kernel_rfl) (by kernel_rfl) (by kernel_rfl)) ?_
  intro W base args ds gs before hval0 hW _ _
  have hval : ∀ (j : Nat) t v, Try.f12.params[j]? = some t → args[j]? = some v → Value.okWide Try.prog W .any base t v := hval0
  have hW' := hW
  obtain ⟨p, q, hA0, hV, rfl, _, _⟩ := hW
  have hA : DataW.TrodAll enc Try.prog W 0 (fun _ => true) true Try.f12.params.toList args.toList ds p := hA0
  rw [Try.params12] at hA hval
  obtain ⟨v0, v1, d0, d1, p0, p1, rfl, rfl, rfl, h0, h1⟩ := trodAll_two hA
  obtain ⟨rfl, rfl⟩ := trodVars_none hV
  clear hA0 hval0
  simp only [List.append_nil] at hW'
  have hlt : ∀ x ∈ (p0 ++ p1), x.block < W.heap.size := fun x hx => by simpa using hW'.lt x hx
  have a0 := fun W' (hb : Below W.heap.size W W') => row_stays (t := 5) (by kernel_rfl) (of_decide_eq_true (by kernel_rfl)) h0 (fun x hx => hlt x (by simp [hx])) hb
  have a1 := fun W' (hb : Below W.heap.size W W') => row_stays (t := 5) (by kernel_rfl) (of_decide_eq_true (by kernel_rfl)) h1 (fun x hx => hlt x (by simp [hx])) hb
  obtain ⟨x0, rfl, _, _, wx0⟩ := open_int (P := Try.prog) (k := .u8) (t := 5) (by kernel_rfl) (hval 0 5 v0 rfl rfl) h0
  obtain ⟨x1, rfl, _, _, wx1⟩ := open_int (P := Try.prog) (k := .u8) (t := 5) (by kernel_rfl) (hval 1 5 v1 rfl rfl) h1
  refine (wCounted x0 (u8_lo wx0) (u8_hi wx0) x1 (u8_lo wx1) (u8_hi wx1) W).mono fun e W' ⟨he, hb⟩ => ?_
  subst he
  exact ⟨_, rfl, _, _, _, [], (p0 ++ p1), [], hW', trodAll_mk1 (shut_bool Try.underlying4 true), trodAll_mk2 (a0 _ hb) (a1 _ hb), rfl, hb.frame _, fun h => by cases h⟩
theorem LedgeCounted_holds : Rows.LedgeCountedSaid :=
  OpenClaim.holds_of_wide 12 Try.f12 rfl rfl rfl rfl rfl rfl rfl ⟨rfl, rfl, rfl, rfl, rfl⟩ rfl rfl rfl rfl rfl (by kernel_rfl) Try.func12 (by kernel_rfl)
    (of_decide_eq_true (by kernel_rfl)) (by unfold Func.isWrapper; first | (rw [if_pos (by decide +kernel)]; kernel_rfl) | (rw [if_neg (by decide +kernel)]; exact ⟨rfl, rfl⟩))
    (fun os started H enc _ => LedgeCounted_lifted os started H enc)
#print axioms LedgeCounted_holds
end Go.Proofs.Ytkeiajncmhkdmaa
