/-
  LedgeOrder: in whatever order the same drops come, the same places are full, as many coppers fall, and all slide as far together; so it is round a wheel: for every number of places, all drops and orders told by numbers; no condition.
-/
import Derived.Test.YtkeiajncmhkdmaaWorks
import Derived.Test.YtkeiajncmhkdmaaRow
import Derived.Test.YtkeiajncmhkdmaaLaw2
import Derived.Test.YtkeiajncmhkdmaaFactS
import Derived.Test.YtkeiajncmhkdmaaLib2
namespace Go.Proofs.Ytkeiajncmhkdmaa
open Go.ChangeShapes Go.WideShapes Go.ChangeAt Go.RowKit

set_option maxRecDepth 100000 in
set_option maxHeartbeats 4000000 in
theorem wOrder (x : Int) (hx0 : 0 ≤ x) (hx1 : x ≤ 255) (A1 : Option Addr) (n1 c1 : Nat) (ys1 : List Int) (A2 : Option Addr) (n2 c2 : Nat) (ys2 : List Int) (w : World) (h1 : Ru w w.heap.size A1 n1 ys1) (h2 : Ru w w.heap.size A2 n2 ys2)
    (hn1 : n1 ≤ 9223372036854775807) (hn2 : n2 ≤ 9223372036854775807) : Calls Try.prog 7 #[.int .u8 x, .slice A1 n1 c1, .slice A2 n2 c2] w (RetB w true) := by
  by_cases hg1 : 30 < n1
  · go_enter Try.func7, Try.ntmps7
    go_wp2_with (go_at_call 18; refine (aWorks _).mono ?_; rintro e w1 ⟨rfl, hb⟩)
    go_ret
    exact ⟨rfl, hb⟩
  · by_cases hg2 : 30 < n2
    · go_enter Try.func7, Try.ntmps7
      go_wp2_with (go_at_call 18; refine (aWorks _).mono ?_; rintro e w1 ⟨rfl, hb⟩)
      go_ret
      exact ⟨rfl, hb⟩
    · have h_by := h1
      have h_or := h2
      obtain ⟨b, hbx, hb1, hb8⟩ := placed_ex hx0
      have HB := Lib.hid hbx
      clear hbx
      obtain ⟨D, HD⟩ : ∃ D, Hid (drp (b : Int) ys1 = D) := ⟨_, Lib.hid rfl⟩
      have HV : Hid (Valid (b : Int) D) := Lib.hid (by rw [← HD.out]; exact valid_drp hb1 hb8 ys1)
      have HIN : Hid (∀ d ∈ D, 0 ≤ d ∧ d < (b : Int)) := Lib.hid HV.out.all
      have HLEN : Hid (D.length ≤ 12) := Lib.hid HV.out.many
      have HOK : Hid (checkDrops (b : Int) D = 0) := Lib.hid (checkDrops_valid.2 HV.out)
      obtain ⟨F, fe, HF⟩ : ∃ F fe, Hid (fullS (b : Int) D = (F, fe, 0)) := ⟨_, _, Lib.hid (by unfold fullS; rw [if_pos HOK.out])⟩
      obtain ⟨L1, s, HL1⟩ : ∃ L s, Hid (lieS (b : Int) D = (L, s, 0)) := ⟨_, _, Lib.hid (by unfold lieS; rw [if_pos HOK.out])⟩
      go_enter Try.func7, Try.ntmps7
      go_wp2_with fail
      refine (aPlaced x hx0 hx1 b HB _).mono ?_
      rintro e w' ⟨rfl, rfl⟩
      go_wp2_with fail
      refine (aDropped b A1 n1 c1 ys1 _ h_by (by omega) hb1 hb8 D HD).mono ?_
      rintro e w1_ ⟨A1, nd, c1, rfl, ho1, hb1⟩
      have B1 : Below w.heap.size w w1_ := (Below.refl _ _).trans (hb1.mono (Nat.le_refl _))
      have S1 : w.heap.size ≤ w1_.heap.size := B1.size
      replace h_by := Ru.next h_by hb1 (Nat.le_refl _) hb1.size
      replace h_or := Ru.next h_or hb1 (Nat.le_refl _) hb1.size
      have h_d := ho1.ri
      have m_d := ho1.most
      clear ho1
      clear hb1
      clear h_by
      have hnd : nd ≤ 12 := by have h1 := h_d.len; have h2 := HLEN.out; omega
      go_wp2_with fail
      refine (aMixed A1 nd c1 D A2 n2 c2 ys2 _ h_d h_or (by omega) (by omega)).mono ?_
      rintro e w2_ ⟨A2, nx, c2, M, rfl, hM, ho2, hb2⟩
      have B2 : Below w.heap.size w w2_ := B1.trans (hb2.mono S1)
      have S2 : w.heap.size ≤ w2_.heap.size := B2.size
      replace h_or := Ru.next h_or hb2 (Nat.le_refl _) hb2.size
      replace h_d := Ri.next h_d hb2 (Nat.le_refl _) hb2.size
      clear B1 S1
      have h_x := ho2.ri
      have m_x := ho2.most
      clear ho2
      clear hb2
      clear h_or
      have HM := Lib.hid hM
      obtain rfl : nx = nd := by rw [← h_x.len, ← h_d.len]; exact hM.length_eq
      clear hM
      have HPL := Lib.hid (perm_ledge (b := b) HM.out.symm HIN.out)
      have HF2 : Hid (fullS (b : Int) M = (F, fe, 0)) := Lib.hid (by
        have h := HF.out
        unfold fullS at h ⊢
        rw [if_pos HOK.out] at h
        rw [if_pos (checkDrops_valid.2 (valid_perm HM.out.symm (checkDrops_valid.1 HOK.out))), ← HPL.out.1, ← HPL.out.2.1]
        exact h)
      obtain ⟨L2, HL2⟩ : ∃ L2, Hid (lieS (b : Int) M = (L2, s, 0)) := ⟨lieOf (b : Int) M, Lib.hid (by
        have h := HL1.out
        unfold lieS at h ⊢
        rw [if_pos HOK.out] at h
        rw [if_pos (checkDrops_valid.2 (valid_perm HM.out.symm (checkDrops_valid.1 HOK.out))), ← HPL.out.2.2]
        cases h
        rfl)⟩
      go_wp2_with fail
      refine (lFullT (b : Int) A1 nx c1 D _ h_d (by omega) F fe 0 HF).mono ?_
      rintro e w3_ ⟨A3, n3, c3, rfl, ho3, hb3⟩
      have B3 : Below w.heap.size w w3_ := B2.trans (hb3.mono S2)
      have S3 : w.heap.size ≤ w3_.heap.size := B3.size
      replace h_d := Ri.next h_d hb3 (Nat.le_refl _) hb3.size
      replace h_x := Ri.next h_x hb3 (Nat.le_refl _) hb3.size
      clear B2 S2
      have h_a := ho3.ri
      have m_a := ho3.most
      clear ho3
      clear hb3
      go_wp2_with fail
      refine (lFullT (b : Int) A2 nx c2 M _ h_x (by omega) F fe 0 HF2).mono ?_
      rintro e w4_ ⟨A4, n4, c4, rfl, ho4, hb4⟩
      have B4 : Below w.heap.size w w4_ := B3.trans (hb4.mono S3)
      have S4 : w.heap.size ≤ w4_.heap.size := B4.size
      replace h_d := Ri.next h_d hb4 (Nat.le_refl _) hb4.size
      replace h_x := Ri.next h_x hb4 (Nat.le_refl _) hb4.size
      replace h_a := Ri.next h_a hb4 (Nat.le_refl _) hb4.size
      clear B3 S3
      have h_b := ho4.ri
      have m_b := ho4.most
      clear ho4
      clear hb4
      go_wp2_with fail
      refine (lLieT (b : Int) A1 nx c1 D _ h_d (by omega) L1 s 0 HL1).mono ?_
      rintro e w5_ ⟨A5, n5, c5, rfl, ho5, hb5⟩
      have B5 : Below w.heap.size w w5_ := B4.trans (hb5.mono S4)
      have S5 : w.heap.size ≤ w5_.heap.size := B5.size
      replace h_d := Ri.next h_d hb5 (Nat.le_refl _) hb5.size
      replace h_x := Ri.next h_x hb5 (Nat.le_refl _) hb5.size
      replace h_a := Ri.next h_a hb5 (Nat.le_refl _) hb5.size
      replace h_b := Ri.next h_b hb5 (Nat.le_refl _) hb5.size
      clear B4 S4
      have h_u := ho5.ri
      have m_u := ho5.most
      clear ho5
      clear hb5
      clear h_u
      go_wp2_with fail
      refine (lLieT (b : Int) A2 nx c2 M _ h_x (by omega) L2 s 0 HL2).mono ?_
      rintro e w6_ ⟨A6, n6, c6, rfl, ho6, hb6⟩
      have B6 : Below w.heap.size w w6_ := B5.trans (hb6.mono S5)
      have S6 : w.heap.size ≤ w6_.heap.size := B6.size
      replace h_d := Ri.next h_d hb6 (Nat.le_refl _) hb6.size
      replace h_x := Ri.next h_x hb6 (Nat.le_refl _) hb6.size
      replace h_a := Ri.next h_a hb6 (Nat.le_refl _) hb6.size
      replace h_b := Ri.next h_b hb6 (Nat.le_refl _) hb6.size
      clear B5 S5
      have h_v := ho6.ri
      have m_v := ho6.most
      clear ho6
      clear hb6
      clear h_v
      go_wp2_with fail
      refine (aIntsT _ _ _ _ _ _ _ _ F F _ h_a h_b (by omega) (by omega) true (Lib.hid (decide_eq_true rfl))).mono ?_
      rintro e w7_ ⟨rfl, hb7⟩
      have B7 : Below w.heap.size w w7_ := B6.trans (hb7.mono S6)
      have S7 : w.heap.size ≤ w7_.heap.size := B7.size
      replace h_d := Ri.next h_d hb7 (Nat.le_refl _) hb7.size
      replace h_x := Ri.next h_x hb7 (Nat.le_refl _) hb7.size
      replace h_a := Ri.next h_a hb7 (Nat.le_refl _) hb7.size
      replace h_b := Ri.next h_b hb7 (Nat.le_refl _) hb7.size
      clear B6 S6
      clear hb7
      clear h_a
      clear h_b
      by_cases hbn : b < nx
      · skip
        have hdl : decide (b < nx) = true := decide_eq_true hbn
        have HR1 : Hid (roundS (b : Int) D = ([], 0, 10)) := Lib.hid (by unfold roundS; rw [if_pos HOK.out, if_pos (by have := h_d.len; omega)])
        have HR2 : Hid (roundS (b : Int) M = ([], 0, 10)) := Lib.hid (by unfold roundS; rw [if_pos (checkDrops_valid.2 (valid_perm HM.out.symm (checkDrops_valid.1 HOK.out))), if_pos (by have := h_x.len; omega)])
        go_wp2_with fail
        refine (lRoundT (b : Int) A1 nx c1 D _ h_d (by omega) [] 0 10 HR1).mono ?_
        rintro e w8_ ⟨A8, n8, c8, rfl, ho8, hb8⟩
        have B8 : Below w.heap.size w w8_ := B7.trans (hb8.mono S7)
        have S8 : w.heap.size ≤ w8_.heap.size := B8.size
        replace h_d := Ri.next h_d hb8 (Nat.le_refl _) hb8.size
        replace h_x := Ri.next h_x hb8 (Nat.le_refl _) hb8.size
        clear B7 S7
        have h_l := ho8.ri
        have m_l := ho8.most
        clear ho8
        clear hb8
        clear h_l
        go_wp2_with fail
        refine (lRoundT (b : Int) A2 nx c2 M _ h_x (by omega) [] 0 10 HR2).mono ?_
        rintro e w9_ ⟨A9, n9, c9, rfl, ho9, hb9⟩
        have B9 : Below w.heap.size w w9_ := B8.trans (hb9.mono S8)
        have S9 : w.heap.size ≤ w9_.heap.size := B9.size
        replace h_d := Ri.next h_d hb9 (Nat.le_refl _) hb9.size
        replace h_x := Ri.next h_x hb9 (Nat.le_refl _) hb9.size
        clear B8 S8
        have h_m := ho9.ri
        have m_m := ho9.most
        clear ho9
        clear hb9
        clear h_m
        go_wp2_with fail
        refine (aWorks _).mono ?_
        rintro e w10_ ⟨rfl, hb10⟩
        have B10 : Below w.heap.size w w10_ := B9.trans (hb10.mono S9)
        have S10 : w.heap.size ≤ w10_.heap.size := B10.size
        replace h_d := Ri.next h_d hb10 (Nat.le_refl _) hb10.size
        replace h_x := Ri.next h_x hb10 (Nat.le_refl _) hb10.size
        clear B9 S9
        clear hb10
        go_wp2
        go_ret
        exact ⟨rfl, B10⟩
      · skip
        have hdl : decide (b < nx) = false := decide_eq_false hbn
        have HDL : Hid (D.length = nx) := Lib.hid h_d.len
        have HMV : Hid (checkDrops (b : Int) M = 0) := Lib.hid (checkDrops_valid.2 (valid_perm HM.out.symm (checkDrops_valid.1 HOK.out)))
        have HML : Hid (M.length = nx) := Lib.hid h_x.len
        have HPW := Lib.hid (perm_wheel (b := b) HM.out.symm HIN.out (by rw [HDL.out]; omega))
        obtain ⟨R1, HRE1⟩ : ∃ R, Hid ((runW true (b : Int) D).1 = R) := ⟨_, Lib.hid rfl⟩
        obtain ⟨R2, HRE2⟩ : ∃ R, Hid ((runW true (b : Int) M).1 = R) := ⟨_, Lib.hid rfl⟩
        obtain ⟨t, HT⟩ : ∃ t, Hid ((runW true (b : Int) D).2 = t) := ⟨_, Lib.hid rfl⟩
        have HR1 : Hid (roundS (b : Int) D = (R1, t, 0)) := Lib.hid (by unfold roundS; rw [if_pos HOK.out, if_neg (by rw [HDL.out]; omega), HRE1.out, HT.out])
        have HR2 : Hid (roundS (b : Int) M = (R2, t, 0)) := Lib.hid (by unfold roundS; rw [if_pos HMV.out, if_neg (by rw [HML.out]; omega), HRE2.out, ← HPW.out.2, HT.out])
        have HSAME : Hid (Same R1 R2) := Lib.hid (by rw [← HRE1.out, ← HRE2.out]; exact HPW.out.1)
        have HRL1 : Hid (R1.length = nx) := Lib.hid (by rw [← HRE1.out, runW_len, HDL.out])
        have HRL2 : Hid (R2.length = nx) := Lib.hid (by rw [← HRE2.out, runW_len, HML.out])
        go_wp2_with fail
        refine (lRoundT (b : Int) A1 nx c1 D _ h_d (by omega) R1 t 0 HR1).mono ?_
        rintro e w8_ ⟨A8, n8, c8, rfl, ho8, hb8⟩
        have B8 : Below w.heap.size w w8_ := B7.trans (hb8.mono S7)
        have S8 : w.heap.size ≤ w8_.heap.size := B8.size
        replace h_d := Ri.next h_d hb8 (Nat.le_refl _) hb8.size
        replace h_x := Ri.next h_x hb8 (Nat.le_refl _) hb8.size
        clear B7 S7
        have h_l := ho8.ri
        have m_l := ho8.most
        clear ho8
        clear hb8
        obtain rfl : nx = n8 := by rw [← h_l.len, HRL1.out]
        go_wp2_with fail
        refine (lRoundT (b : Int) A2 nx c2 M _ h_x (by omega) R2 t 0 HR2).mono ?_
        rintro e w9_ ⟨A9, n9, c9, rfl, ho9, hb9⟩
        have B9 : Below w.heap.size w w9_ := B8.trans (hb9.mono S8)
        have S9 : w.heap.size ≤ w9_.heap.size := B9.size
        replace h_d := Ri.next h_d hb9 (Nat.le_refl _) hb9.size
        replace h_x := Ri.next h_x hb9 (Nat.le_refl _) hb9.size
        replace h_l := Ri.next h_l hb9 (Nat.le_refl _) hb9.size
        clear B8 S8
        have h_m := ho9.ri
        have m_m := ho9.most
        clear ho9
        clear hb9
        obtain rfl : nx = n9 := by rw [← h_m.len, HRL2.out]
        clear h_d h_x hnd
        go_wp2
        go_loop [24] (fun i => ∃ k : Nat, k ≤ b ∧ i = .int .i64 k) (fun i => b - (intOf i).toNat)
        case atStart => exact ⟨0, Nat.zero_le _, rfl⟩
        case round =>
          obtain ⟨k, hk, rfl⟩ := hrel
          by_cases hlt : k < b
          · have HEQ : Hid (decide ((k : Int) ∈ R1) = decide ((k : Int) ∈ R2)) := Lib.hid (by simp only [HSAME.out (k : Int)])
            obtain ⟨z, HZ1⟩ : ∃ z, Hid (decide ((k : Int) ∈ R1) = z) := ⟨_, Lib.hid rfl⟩
            have HZ2 : Hid (decide ((k : Int) ∈ R2) = z) := Lib.hid (HEQ.out.symm.trans HZ1.out)
            go_wp2_with fail
            refine (has_any _ _ _ _ R1 (k : Int) _ h_l (by omega)).mono ?_
            rintro e w' ⟨rfl, rfl⟩
            go_wp2_with fail
            refine (has_any _ _ _ _ R2 (k : Int) _ h_m (by omega)).mono ?_
            rintro e w' ⟨rfl, rfl⟩
            rw [HZ1.out, HZ2.out]
            go_wp2
            go_round
            case rel => exact ⟨k + 1, by omega, by go_num⟩
            case measure => simp [intOf]; omega
          · go_wp2_with fail
            refine (aWorks _).mono ?_
            rintro e wz ⟨rfl, hbz⟩
            go_wp2
            go_ret
            exact ⟨rfl, B9.trans (hbz.mono S9)⟩

set_option maxRecDepth 100000 in
theorem LedgeOrder_lifted (os : Os) (started : os.Started) (H : Type) (enc : TypeId × Value → H) :
    ReturnsInHanded {} Try.checked os 7 .any (Rows.ledgeOrderSpec.pre6 enc Try.prog Try.f7 Rows.ledgeOrderRow.domain false) (Rows.ledgeOrderSpec.post enc Try.prog Try.f7 false true false false) := by
  refine returnsInHanded_of_change (C := Try.checked) row_own started (by kernel_rfl) Try.func7
    (ChangeSpec.witness6 (enc := enc) (C := Try.checked) false ⟨#[], #[.int .u8 0, .slice none 0 0, .slice none 0 0], []⟩ 8 (by kernel_rfl) (by kernel_rfl) (by kernel_rfl) (by kernel_rfl)) ?_
  intro W base args ds gs before hval0 hW _ _
  have hval : ∀ (j : Nat) t v, Try.f7.params[j]? = some t → args[j]? = some v → Value.okWide Try.prog W .any base t v := hval0
  have hW' := hW
  obtain ⟨p, q, hA0, hV, rfl, _, _⟩ := hW
  have hA : DataW.TrodAll enc Try.prog W 0 (fun _ => true) true Try.f7.params.toList args.toList ds p := hA0
  rw [Try.params7] at hA hval
  obtain ⟨v0, v1, v2, d0, d1, d2, p0, p1, p2, rfl, rfl, rfl, h0, h1, h2⟩ := trodAll_three hA
  obtain ⟨rfl, rfl⟩ := trodVars_none hV
  clear hA0 hval0
  simp only [List.append_nil] at hW'
  have hlt : ∀ x ∈ (p0 ++ p1 ++ p2), x.block < W.heap.size := fun x hx => by simpa using hW'.lt x hx
  have a0 := fun W' (hb : Below W.heap.size W W') => row_stays (t := 5) (by kernel_rfl) (of_decide_eq_true (by kernel_rfl)) h0 (fun x hx => hlt x (by simp [hx])) hb
  have a1 := fun W' (hb : Below W.heap.size W W') => row_stays (t := 41) (by kernel_rfl) (of_decide_eq_true (by kernel_rfl)) h1 (fun x hx => hlt x (by simp [hx])) hb
  have a2 := fun W' (hb : Below W.heap.size W W') => row_stays (t := 41) (by kernel_rfl) (of_decide_eq_true (by kernel_rfl)) h2 (fun x hx => hlt x (by simp [hx])) hb
  obtain ⟨x0, rfl, _, _, wx0⟩ := open_int (P := Try.prog) (k := .u8) (t := 5) (by kernel_rfl) (hval 0 5 v0 rfl rfl) h0
  obtain ⟨A1, n1, c1, xs1, rfl, hc1, hm1, hx1, hw1⟩ := row_ints (t := 41) (e := 5) (k := .u8) (by kernel_rfl) (by kernel_rfl) (by kernel_rfl) (hval 1 41 v1 rfl rfl) h1 (fun x hx => hlt x (by simp [hx]))
  obtain ⟨A2, n2, c2, xs2, rfl, hc2, hm2, hx2, hw2⟩ := row_ints (t := 41) (e := 5) (k := .u8) (by kernel_rfl) (by kernel_rfl) (by kernel_rfl) (hval 2 41 v2 rfl rfl) h2 (fun x hx => hlt x (by simp [hx]))
  refine (wOrder x0 (u8_lo wx0) (u8_hi wx0) A1 n1 c1 xs1 A2 n2 c2 xs2 W (Ru.of_row hx1 hw1) (Ru.of_row hx2 hw2) (by omega) (by omega)).mono fun e W' ⟨he, hb⟩ => ?_
  subst he
  exact ⟨_, rfl, _, _, _, [], (p0 ++ p1 ++ p2), [], hW', trodAll_mk1 (shut_bool Try.underlying4 true), (by simp only [List.append_assoc]; exact trodAll_mk3 (a0 _ hb) (a1 _ hb) (a2 _ hb)), rfl, hb.frame _, fun h => by cases h⟩
theorem LedgeOrder_holds : Rows.LedgeOrderSaid :=
  OpenClaim.holds_of_wide 7 Try.f7 rfl rfl rfl rfl rfl rfl rfl ⟨rfl, rfl, rfl, rfl, rfl⟩ rfl rfl rfl rfl rfl (by kernel_rfl) Try.func7 (by kernel_rfl)
    (of_decide_eq_true (by kernel_rfl)) (by unfold Func.isWrapper; first | (rw [if_pos (by decide +kernel)]; kernel_rfl) | (rw [if_neg (by decide +kernel)]; exact ⟨rfl, rfl⟩))
    (fun os started H enc _ => LedgeOrder_lifted os started H enc)
#print axioms LedgeOrder_holds
end Go.Proofs.Ytkeiajncmhkdmaa
