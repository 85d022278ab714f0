/-
  LedgeWheel: round a wheel with one place more, drops on the places of a ledge leave the last place free just if they are a row, and then all lie as on the ledge, and slide as far: for every number of places and all drops, told by numbers; no condition.
-/
import Derived.Test.YtkeiajncmhkdmaaWorks
import Derived.Test.YtkeiajncmhkdmaaRow
import Derived.Test.YtkeiajncmhkdmaaLaw2
import Derived.Test.YtkeiajncmhkdmaaFactS
import Derived.Test.YtkeiajncmhkdmaaLib2
namespace Go.Proofs.Ytkeiajncmhkdmaa
open Go.ChangeShapes Go.WideShapes Go.ChangeAt Go.RowKit

set_option maxRecDepth 100000 in
set_option maxHeartbeats 4000000 in
theorem wWheel (x : Int) (hx0 : 0 ≤ x) (hx1 : x ≤ 255) (A1 : Option Addr) (n1 c1 : Nat) (ys1 : List Int) (w : World) (h1 : Ru w w.heap.size A1 n1 ys1) (hn1 : n1 ≤ 9223372036854775807) :
    Calls Try.prog 13 #[.int .u8 x, .slice A1 n1 c1] w (RetB w true) := by
  obtain ⟨b, hbx, hb1, hb7⟩ : ∃ b : Nat, 1 + x % 7 = (b : Int) ∧ 1 ≤ b ∧ b ≤ 7 := ⟨(1 + x % 7).toNat, by omega, by omega, by omega⟩
  by_cases hg : b < n1
  · have hd : decide (b < n1) = true := decide_eq_true hg
    go_enter Try.func13, Try.ntmps13
    go_wp2_with (go_at_call 18; refine (aWorks _).mono ?_; rintro e w1 ⟨rfl, hb⟩)
    go_ret
    exact ⟨rfl, hb⟩
  · have hd : decide (b < n1) = false := decide_eq_false hg
    have h_by := h1
    obtain ⟨D, HD⟩ : ∃ D, Hid (drp (b : Int) ys1 = D) := ⟨_, Lib.hid rfl⟩
    have HV : Hid (Valid (b : Int) D) := Lib.hid (by rw [← HD.out]; exact valid_drp hb1 (by omega) ys1)
    have HIN : Hid (∀ d ∈ D, 0 ≤ d ∧ d < (b : Int)) := Lib.hid HV.out.all
    have HLEN : Hid (D.length ≤ 12) := Lib.hid HV.out.many
    have HLB : Hid (D.length ≤ b) := Lib.hid (by rw [← HD.out, drp_len, h1.len]; omega)
    have HOK : Hid (checkDrops (b : Int) D = 0) := Lib.hid (checkDrops_valid.2 HV.out)
    have HOK1 : Hid (checkDrops ((b : Int) + 1) D = 0) := Lib.hid (checkDrops_valid.2 ⟨by omega, by omega, HV.out.many, fun d hd => by have := HIN.out d hd; omega⟩)
    obtain ⟨L, HLE⟩ : ∃ L, Hid (lieOf (b : Int) D = L) := ⟨_, Lib.hid rfl⟩
    obtain ⟨s, HSE⟩ : ∃ s, Hid (farOf (b : Int) D = s) := ⟨_, Lib.hid rfl⟩
    have HL : Hid (lieS (b : Int) D = (L, s, 0)) := Lib.hid (by unfold lieS; rw [if_pos HOK.out, HLE.out, HSE.out])
    have HWR := Lib.hid (wheel_row (b := b) D HIN.out)
    have hbx' := hbx
    go_enter Try.func13, Try.ntmps13
    go_wp2_with fail
    refine (aDropped b A1 n1 c1 ys1 _ h_by (by omega) hb1 (by omega) D HD).mono ?_
    rintro e w1_ ⟨A, nd, c, rfl, ho1, hb1⟩
    have B1 : Below w.heap.size w w1_ := (Below.refl _ _).trans (hb1.mono (Nat.le_refl _))
    have S1 : w.heap.size ≤ w1_.heap.size := B1.size
    replace h_by := Ru.next h_by hb1 (Nat.le_refl _) hb1.size
    have h_d := ho1.ri
    have m_d := ho1.most
    clear ho1
    clear hb1
    clear h_by
    have HDL := Lib.hid h_d.len
    obtain rfl : nd = D.length := HDL.out.symm
    have hnd : D.length ≤ 12 := HLEN.out
    rcases HWR.out with ⟨q1, q2, q3⟩ | ⟨q1, q2⟩
    · have HRW : Hid (rowS (b : Int) D = 0) := Lib.hid (by unfold rowS; rw [if_pos HOK.out, q1]; rfl)
      have HR : Hid (roundS ((b : Int) + 1) D = (L, s, 0)) := Lib.hid (by
        unfold roundS
        rw [if_pos HOK1.out, if_neg (by have := HLB.out; omega), q2, ← HLE.out, ← HSE.out]
        rfl)
      have HRL : Hid (L.length = D.length) := Lib.hid (by rw [← HLE.out, lieOf_length])
      have HIB : Hid (decide ((b : Int) ∈ L) = false) := Lib.hid (by rw [← HLE.out]; exact decide_eq_false q3)
      clear q1 q2 q3
      go_wp2_with fail
      refine (lCheckRowT (b : Int) A D.length c D _ h_d (by omega) 0 HRW).mono ?_
      rintro e w2_ ⟨rfl, hb2⟩
      have B2 : Below w.heap.size w w2_ := B1.trans (hb2.mono S1)
      have S2 : w.heap.size ≤ w2_.heap.size := B2.size
      replace h_d := Ri.next h_d hb2 (Nat.le_refl _) hb2.size
      clear B1 S1
      clear hb2
      go_wp2_with fail
      refine (lLieT ((b : Int)) A D.length c D _ h_d (by omega) (L) (s) (0) HL).mono ?_
      rintro e w3_ ⟨A3, n3, c3, rfl, ho3, hb3⟩
      have B3 : Below w.heap.size w w3_ := B2.trans (hb3.mono S2)
      have S3 : w.heap.size ≤ w3_.heap.size := B3.size
      replace h_d := Ri.next h_d hb3 (Nat.le_refl _) hb3.size
      clear B2 S2
      have h_a := ho3.ri
      have m_a := ho3.most
      clear ho3
      clear hb3
      go_wp2_with fail
      refine (lRoundT ((b : Int) + 1) A D.length c D _ h_d (by omega) (L) (s) (0) HR).mono ?_
      rintro e w4_ ⟨A4, n4, c4, rfl, ho4, hb4⟩
      have B4 : Below w.heap.size w w4_ := B3.trans (hb4.mono S3)
      have S4 : w.heap.size ≤ w4_.heap.size := B4.size
      replace h_d := Ri.next h_d hb4 (Nat.le_refl _) hb4.size
      replace h_a := Ri.next h_a hb4 (Nat.le_refl _) hb4.size
      clear B3 S3
      have h_r := ho4.ri
      have m_r := ho4.most
      clear ho4
      clear hb4
      obtain rfl : n4 = D.length := by rw [← h_r.len]; exact HRL.out
      go_wp2_with fail
      refine (has_any _ _ _ _ L (b : Int) _ h_r (by omega)).mono ?_
      rintro e w' ⟨rfl, rfl⟩
      rw [HIB.out]
      go_wp2_with fail
      refine (aIntsT _ _ _ _ _ _ _ _ L L _ h_a h_r (by omega) (by omega) true (Lib.hid (decide_eq_true rfl))).mono ?_
      rintro e w5_ ⟨rfl, hb5⟩
      have B5 : Below w.heap.size w w5_ := B4.trans (hb5.mono S4)
      have S5 : w.heap.size ≤ w5_.heap.size := B5.size
      replace h_d := Ri.next h_d hb5 (Nat.le_refl _) hb5.size
      replace h_a := Ri.next h_a hb5 (Nat.le_refl _) hb5.size
      replace h_r := Ri.next h_r hb5 (Nat.le_refl _) hb5.size
      clear B4 S4
      clear hb5
      go_wp2_with fail
      refine (aWorks _).mono ?_
      rintro e w6_ ⟨rfl, hb6⟩
      have B6 : Below w.heap.size w w6_ := B5.trans (hb6.mono S5)
      have S6 : w.heap.size ≤ w6_.heap.size := B6.size
      replace h_d := Ri.next h_d hb6 (Nat.le_refl _) hb6.size
      replace h_a := Ri.next h_a hb6 (Nat.le_refl _) hb6.size
      replace h_r := Ri.next h_r hb6 (Nat.le_refl _) hb6.size
      clear B5 S5
      clear hb6
      go_wp2
      go_ret
      exact ⟨rfl, B6⟩
    · have HRW : Hid (rowS (b : Int) D = 20) := Lib.hid (by unfold rowS; rw [if_pos HOK.out]; unfold rowErrS; rw [if_pos q1])
      obtain ⟨R, HRE⟩ : ∃ R, Hid ((runW true ((b : Int) + 1) D).1 = R) := ⟨_, Lib.hid rfl⟩
      obtain ⟨t, HTE⟩ : ∃ t, Hid ((runW true ((b : Int) + 1) D).2 = t) := ⟨_, Lib.hid rfl⟩
      have HR : Hid (roundS ((b : Int) + 1) D = (R, t, 0)) := Lib.hid (by
        unfold roundS
        rw [if_pos HOK1.out, if_neg (by have := HLB.out; omega), HRE.out, HTE.out])
      have HRL : Hid (R.length = D.length) := Lib.hid (by rw [← HRE.out, runW_len])
      have HIB : Hid (decide ((b : Int) ∈ R) = true) := Lib.hid (by rw [← HRE.out]; exact decide_eq_true q2)
      clear q1 q2
      go_wp2_with fail
      refine (lCheckRowT (b : Int) A D.length c D _ h_d (by omega) 20 HRW).mono ?_
      rintro e w2_ ⟨rfl, hb2⟩
      have B2 : Below w.heap.size w w2_ := B1.trans (hb2.mono S1)
      have S2 : w.heap.size ≤ w2_.heap.size := B2.size
      replace h_d := Ri.next h_d hb2 (Nat.le_refl _) hb2.size
      clear B1 S1
      clear hb2
      go_wp2_with fail
      refine (lLieT ((b : Int)) A D.length c D _ h_d (by omega) (L) (s) (0) HL).mono ?_
      rintro e w3_ ⟨A3, n3, c3, rfl, ho3, hb3⟩
      have B3 : Below w.heap.size w w3_ := B2.trans (hb3.mono S2)
      have S3 : w.heap.size ≤ w3_.heap.size := B3.size
      replace h_d := Ri.next h_d hb3 (Nat.le_refl _) hb3.size
      clear B2 S2
      have h_a := ho3.ri
      have m_a := ho3.most
      clear ho3
      clear hb3
      go_wp2_with fail
      refine (lRoundT ((b : Int) + 1) A D.length c D _ h_d (by omega) (R) (t) (0) HR).mono ?_
      rintro e w4_ ⟨A4, n4, c4, rfl, ho4, hb4⟩
      have B4 : Below w.heap.size w w4_ := B3.trans (hb4.mono S3)
      have S4 : w.heap.size ≤ w4_.heap.size := B4.size
      replace h_d := Ri.next h_d hb4 (Nat.le_refl _) hb4.size
      replace h_a := Ri.next h_a hb4 (Nat.le_refl _) hb4.size
      clear B3 S3
      have h_r := ho4.ri
      have m_r := ho4.most
      clear ho4
      clear hb4
      obtain rfl : n4 = D.length := by rw [← h_r.len]; exact HRL.out
      go_wp2_with fail
      refine (has_any _ _ _ _ R (b : Int) _ h_r (by omega)).mono ?_
      rintro e w' ⟨rfl, rfl⟩
      rw [HIB.out]
      go_wp2_with fail
      refine (aWorks _).mono ?_
      rintro e w5_ ⟨rfl, hb5⟩
      have B5 : Below w.heap.size w w5_ := B4.trans (hb5.mono S4)
      have S5 : w.heap.size ≤ w5_.heap.size := B5.size
      replace h_d := Ri.next h_d hb5 (Nat.le_refl _) hb5.size
      replace h_a := Ri.next h_a hb5 (Nat.le_refl _) hb5.size
      replace h_r := Ri.next h_r hb5 (Nat.le_refl _) hb5.size
      clear B4 S4
      clear hb5
      go_wp2
      go_ret
      exact ⟨rfl, B5⟩

set_option maxRecDepth 100000 in
theorem LedgeWheel_lifted (os : Os) (started : os.Started) (H : Type) (enc : TypeId × Value → H) :
    ReturnsInHanded {} Try.checked os 13 .any (Rows.ledgeWheelSpec.pre6 enc Try.prog Try.f13 Rows.ledgeWheelRow.domain false) (Rows.ledgeWheelSpec.post enc Try.prog Try.f13 false true false false) := by
  refine returnsInHanded_of_change (C := Try.checked) row_own started (by kernel_rfl) Try.func13
    (ChangeSpec.witness6 (enc := enc) (C := Try.checked) false ⟨#[], #[.int .u8 0, .slice none 0 0], []⟩ 8 (by kernel_rfl) (by kernel_rfl) (by kernel_rfl) (by kernel_rfl)) ?_
  intro W base args ds gs before hval0 hW _ _
  have hval : ∀ (j : Nat) t v, Try.f13.params[j]? = some t → args[j]? = some v → Value.okWide Try.prog W .any base t v := hval0
  have hW' := hW
  obtain ⟨p, q, hA0, hV, rfl, _, _⟩ := hW
  have hA : DataW.TrodAll enc Try.prog W 0 (fun _ => true) true Try.f13.params.toList args.toList ds p := hA0
  rw [Try.params13] at hA hval
  obtain ⟨v0, v1, d0, d1, p0, p1, rfl, rfl, rfl, h0, h1⟩ := trodAll_two hA
  obtain ⟨rfl, rfl⟩ := trodVars_none hV
  clear hA0 hval0
  simp only [List.append_nil] at hW'
  have hlt : ∀ x ∈ (p0 ++ p1), x.block < W.heap.size := fun x hx => by simpa using hW'.lt x hx
  have a0 := fun W' (hb : Below W.heap.size W W') => row_stays (t := 5) (by kernel_rfl) (of_decide_eq_true (by kernel_rfl)) h0 (fun x hx => hlt x (by simp [hx])) hb
  have a1 := fun W' (hb : Below W.heap.size W W') => row_stays (t := 41) (by kernel_rfl) (of_decide_eq_true (by kernel_rfl)) h1 (fun x hx => hlt x (by simp [hx])) hb
  obtain ⟨x0, rfl, _, _, wx0⟩ := open_int (P := Try.prog) (k := .u8) (t := 5) (by kernel_rfl) (hval 0 5 v0 rfl rfl) h0
  obtain ⟨A1, n1, c1, xs1, rfl, hc1, hm1, hx1, hw1⟩ := row_ints (t := 41) (e := 5) (k := .u8) (by kernel_rfl) (by kernel_rfl) (by kernel_rfl) (hval 1 41 v1 rfl rfl) h1 (fun x hx => hlt x (by simp [hx]))
  refine (wWheel x0 (u8_lo wx0) (u8_hi wx0) A1 n1 c1 xs1 W (Ru.of_row hx1 hw1) (by omega)).mono fun e W' ⟨he, hb⟩ => ?_
  subst he
  exact ⟨_, rfl, _, _, _, [], (p0 ++ p1), [], hW', trodAll_mk1 (shut_bool Try.underlying4 true), trodAll_mk2 (a0 _ hb) (a1 _ hb), rfl, hb.frame _, fun h => by cases h⟩
theorem LedgeWheel_holds : Rows.LedgeWheelSaid :=
  OpenClaim.holds_of_wide 13 Try.f13 rfl rfl rfl rfl rfl rfl rfl ⟨rfl, rfl, rfl, rfl, rfl⟩ rfl rfl rfl rfl rfl (by kernel_rfl) Try.func13 (by kernel_rfl)
    (of_decide_eq_true (by kernel_rfl)) (by unfold Func.isWrapper; first | (rw [if_pos (by decide +kernel)]; kernel_rfl) | (rw [if_neg (by decide +kernel)]; exact ⟨rfl, rfl⟩))
    (fun os started H enc _ => LedgeWheel_lifted os started H enc)
#print axioms LedgeWheel_holds
end Go.Proofs.Ytkeiajncmhkdmaa
