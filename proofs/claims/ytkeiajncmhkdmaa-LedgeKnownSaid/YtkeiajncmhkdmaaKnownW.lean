/-
  LedgeKnown: the examples of the chapter; a closed statement.
-/
import Derived.Test.YtkeiajncmhkdmaaWorks
import Derived.Test.YtkeiajncmhkdmaaRow
namespace Go.Proofs.Ytkeiajncmhkdmaa
open Go.ChangeShapes Go.WideShapes Go.ChangeAt Go.RowKit

set_option maxRecDepth 100000 in
set_option maxHeartbeats 4000000 in
theorem wKnown (w : World) : Calls Try.prog 16 #[] w (RetB w true) := by
  go_enter Try.func16, Try.ntmps16
  go_wp2_with fail
  obtain ⟨w1_, hW1⟩ : ∃ W : World, w.alloc (.cells #[.int .i64 2, .int .i64 0, .int .i64 2, .int .i64 1] 3) = W := ⟨_, rfl⟩
  have hb1 : Below w.heap.size w w1_ := by rw [← hW1]; exact (Below.refl _ _).alloc (Nat.le_refl _) _
  have h_d : Ri w1_ w1_.heap.size (some ⟨w.heap.size, 0, none⟩) 4 ([2, 0, 2, 1] : List Int) := by rw [← hW1]; exact (Oi.lit w #[.int .i64 2, .int .i64 0, .int .i64 2, .int .i64 1] 4 [2, 0, 2, 1] rfl rfl (by omega)).ri
  rw [hW1]
  clear hW1
  have B1 : Below w.heap.size w w1_ := (Below.refl _ _).trans (hb1.mono (Nat.le_refl _))
  have S1 : w.heap.size ≤ w1_.heap.size := B1.size
  clear hb1
  refine (aOf _ _).mono ?_
  rintro e w' ⟨rfl, rfl⟩
  go_wp2_with fail
  obtain ⟨w2_, hW2⟩ : ∃ W : World, w1_.alloc (.cells #[.int .i64 3, .int .i64 4, .int .i64 3, .int .i64 4] 3) = W := ⟨_, rfl⟩
  have hb2 : Below w1_.heap.size w1_ w2_ := by rw [← hW2]; exact (Below.refl _ _).alloc (Nat.le_refl _) _
  have h_e : Ri w2_ w2_.heap.size (some ⟨w1_.heap.size, 0, none⟩) 4 ([3, 4, 3, 4] : List Int) := by rw [← hW2]; exact (Oi.lit w1_ #[.int .i64 3, .int .i64 4, .int .i64 3, .int .i64 4] 4 [3, 4, 3, 4] rfl rfl (by omega)).ri
  rw [hW2]
  clear hW2
  have B2 : Below w.heap.size w w2_ := B1.trans (hb2.mono S1)
  have S2 : w.heap.size ≤ w2_.heap.size := B2.size
  replace h_d := Ri.next h_d hb2 (Nat.le_refl _) hb2.size
  clear B1 S1
  clear hb2
  refine (aOf _ _).mono ?_
  rintro e w' ⟨rfl, rfl⟩
  go_wp2_with fail
  refine (lFullT (5) _ _ _ ([2, 0, 2, 1]) _ h_d (by omega) ([0, 1, 2, 3]) (0) (0) (Lib.hid (by decide +kernel))).mono ?_
  rintro e w3_ ⟨A3, n3, c3, rfl, ho3, hb3⟩
  have B3 : Below w.heap.size w w3_ := B2.trans (hb3.mono S2)
  have S3 : w.heap.size ≤ w3_.heap.size := B3.size
  replace h_d := Ri.next h_d hb3 (Nat.le_refl _) hb3.size
  replace h_e := Ri.next h_e hb3 (Nat.le_refl _) hb3.size
  clear B2 S2
  have h_a := ho3.ri
  have m_a := ho3.most
  clear ho3
  clear hb3
  go_wp2_with fail
  refine (lCheckOverT (5) _ _ _ ([3, 4, 3, 4]) _ h_e (by omega) 3 (2) (0) (Lib.hid (by decide +kernel))).mono ?_
  rintro e w4_ ⟨rfl, hb4⟩
  have B4 : Below w.heap.size w w4_ := B3.trans (hb4.mono S3)
  have S4 : w.heap.size ≤ w4_.heap.size := B4.size
  replace h_d := Ri.next h_d hb4 (Nat.le_refl _) hb4.size
  replace h_e := Ri.next h_e hb4 (Nat.le_refl _) hb4.size
  replace h_a := Ri.next h_a hb4 (Nat.le_refl _) hb4.size
  clear B3 S3
  clear hb4
  go_wp2_with fail
  refine (lCheckOverT (5) _ _ _ ([3, 4, 3, 4]) _ h_e (by omega) 4 (1) (0) (Lib.hid (by decide +kernel))).mono ?_
  rintro e w5_ ⟨rfl, hb5⟩
  have B5 : Below w.heap.size w w5_ := B4.trans (hb5.mono S4)
  have S5 : w.heap.size ≤ w5_.heap.size := B5.size
  replace h_d := Ri.next h_d hb5 (Nat.le_refl _) hb5.size
  replace h_e := Ri.next h_e hb5 (Nat.le_refl _) hb5.size
  replace h_a := Ri.next h_a hb5 (Nat.le_refl _) hb5.size
  clear B4 S4
  clear hb5
  clear h_e
  go_wp2_with fail
  refine (lMayT (5) _ _ _ ([2, 0, 2, 1]) _ h_d (by omega) ([0, 1, 2, 3, 4]) (0) (Lib.hid (by decide +kernel))).mono ?_
  rintro e w6_ ⟨A6, n6, c6, rfl, ho6, hb6⟩
  have B6 : Below w.heap.size w w6_ := B5.trans (hb6.mono S5)
  have S6 : w.heap.size ≤ w6_.heap.size := B6.size
  replace h_d := Ri.next h_d hb6 (Nat.le_refl _) hb6.size
  replace h_a := Ri.next h_a hb6 (Nat.le_refl _) hb6.size
  clear B5 S5
  have h_b := ho6.ri
  have m_b := ho6.most
  clear ho6
  clear hb6
  go_wp2_with fail
  obtain ⟨w7_, hW7⟩ : ∃ W : World, w6_.alloc (.cells #[.int .i64 0, .int .i64 3] 3) = W := ⟨_, rfl⟩
  have hb7 : Below w6_.heap.size w6_ w7_ := by rw [← hW7]; exact (Below.refl _ _).alloc (Nat.le_refl _) _
  have h_x1 : Ri w7_ w7_.heap.size (some ⟨w6_.heap.size, 0, none⟩) 2 ([0, 3] : List Int) := by rw [← hW7]; exact (Oi.lit w6_ #[.int .i64 0, .int .i64 3] 2 [0, 3] rfl rfl (by omega)).ri
  rw [hW7]
  clear hW7
  have B7 : Below w.heap.size w w7_ := B6.trans (hb7.mono S6)
  have S7 : w.heap.size ≤ w7_.heap.size := B7.size
  replace h_d := Ri.next h_d hb7 (Nat.le_refl _) hb7.size
  replace h_a := Ri.next h_a hb7 (Nat.le_refl _) hb7.size
  replace h_b := Ri.next h_b hb7 (Nat.le_refl _) hb7.size
  clear B6 S6
  clear hb7
  refine (aOf _ _).mono ?_
  rintro e w' ⟨rfl, rfl⟩
  go_wp2_with fail
  refine (lMayT (5) _ _ _ ([0, 3]) _ h_x1 (by omega) ([0, 1, 2, 3, 4]) (0) (Lib.hid (by decide +kernel))).mono ?_
  rintro e w8_ ⟨A8, n8, c8, rfl, ho8, hb8⟩
  have B8 : Below w.heap.size w w8_ := B7.trans (hb8.mono S7)
  have S8 : w.heap.size ≤ w8_.heap.size := B8.size
  replace h_d := Ri.next h_d hb8 (Nat.le_refl _) hb8.size
  replace h_a := Ri.next h_a hb8 (Nat.le_refl _) hb8.size
  replace h_b := Ri.next h_b hb8 (Nat.le_refl _) hb8.size
  replace h_x1 := Ri.next h_x1 hb8 (Nat.le_refl _) hb8.size
  clear B7 S7
  have h_c := ho8.ri
  have m_c := ho8.most
  clear ho8
  clear hb8
  clear h_x1
  go_wp2_with fail
  refine (lCountT 5 6 _ 0 0 (Lib.hid (by decide +kernel))).mono ?_
  rintro e w9_ ⟨rfl, hb9⟩
  have B9 : Below w.heap.size w w9_ := B8.trans (hb9.mono S8)
  have S9 : w.heap.size ≤ w9_.heap.size := B9.size
  replace h_d := Ri.next h_d hb9 (Nat.le_refl _) hb9.size
  replace h_a := Ri.next h_a hb9 (Nat.le_refl _) hb9.size
  replace h_b := Ri.next h_b hb9 (Nat.le_refl _) hb9.size
  replace h_c := Ri.next h_c hb9 (Nat.le_refl _) hb9.size
  clear B8 S8
  clear hb9
  go_wp2_with fail
  refine (lCountT 5 13 _ 0 3 (Lib.hid (by decide +kernel))).mono ?_
  rintro e w10_ ⟨rfl, hb10⟩
  have B10 : Below w.heap.size w w10_ := B9.trans (hb10.mono S9)
  have S10 : w.heap.size ≤ w10_.heap.size := B10.size
  replace h_d := Ri.next h_d hb10 (Nat.le_refl _) hb10.size
  replace h_a := Ri.next h_a hb10 (Nat.le_refl _) hb10.size
  replace h_b := Ri.next h_b hb10 (Nat.le_refl _) hb10.size
  replace h_c := Ri.next h_c hb10 (Nat.le_refl _) hb10.size
  clear B9 S9
  clear hb10
  go_wp2_with fail
  obtain ⟨w11_, hW11⟩ : ∃ W : World, w10_.alloc (.cells #[.int .i64 0, .int .i64 1, .int .i64 2, .int .i64 3] 3) = W := ⟨_, rfl⟩
  have hb11 : Below w10_.heap.size w10_ w11_ := by rw [← hW11]; exact (Below.refl _ _).alloc (Nat.le_refl _) _
  have h_x2 : Ri w11_ w11_.heap.size (some ⟨w10_.heap.size, 0, none⟩) 4 ([0, 1, 2, 3] : List Int) := by rw [← hW11]; exact (Oi.lit w10_ #[.int .i64 0, .int .i64 1, .int .i64 2, .int .i64 3] 4 [0, 1, 2, 3] rfl rfl (by omega)).ri
  rw [hW11]
  clear hW11
  have B11 : Below w.heap.size w w11_ := B10.trans (hb11.mono S10)
  have S11 : w.heap.size ≤ w11_.heap.size := B11.size
  replace h_d := Ri.next h_d hb11 (Nat.le_refl _) hb11.size
  replace h_a := Ri.next h_a hb11 (Nat.le_refl _) hb11.size
  replace h_b := Ri.next h_b hb11 (Nat.le_refl _) hb11.size
  replace h_c := Ri.next h_c hb11 (Nat.le_refl _) hb11.size
  clear B10 S10
  clear hb11
  refine (aOf _ _).mono ?_
  rintro e w' ⟨rfl, rfl⟩
  go_wp2_with fail
  refine (lLeaveT (5) _ _ _ ([0, 1, 2, 3]) _ h_x2 (by omega)  (125) (0) (Lib.hid (by decide +kernel))).mono ?_
  rintro e w12_ ⟨rfl, hb12⟩
  have B12 : Below w.heap.size w w12_ := B11.trans (hb12.mono S11)
  have S12 : w.heap.size ≤ w12_.heap.size := B12.size
  replace h_d := Ri.next h_d hb12 (Nat.le_refl _) hb12.size
  replace h_a := Ri.next h_a hb12 (Nat.le_refl _) hb12.size
  replace h_b := Ri.next h_b hb12 (Nat.le_refl _) hb12.size
  replace h_c := Ri.next h_c hb12 (Nat.le_refl _) hb12.size
  replace h_x2 := Ri.next h_x2 hb12 (Nat.le_refl _) hb12.size
  clear B11 S11
  clear hb12
  clear h_x2
  go_wp2_with fail
  refine (lLeaveT 5 none 0 0 [] _ (Oi.nil_ _ 0).ri (by omega) 1 0 (Lib.hid (by decide +kernel))).mono ?_
  rintro e w13_ ⟨rfl, hb13⟩
  have B13 : Below w.heap.size w w13_ := B12.trans (hb13.mono S12)
  have S13 : w.heap.size ≤ w13_.heap.size := B13.size
  replace h_d := Ri.next h_d hb13 (Nat.le_refl _) hb13.size
  replace h_a := Ri.next h_a hb13 (Nat.le_refl _) hb13.size
  replace h_b := Ri.next h_b hb13 (Nat.le_refl _) hb13.size
  replace h_c := Ri.next h_c hb13 (Nat.le_refl _) hb13.size
  clear B12 S12
  clear hb13
  go_wp2_with fail
  obtain ⟨w14_, hW14⟩ : ∃ W : World, w13_.alloc (.cells #[.int .i64 0, .int .i64 1] 3) = W := ⟨_, rfl⟩
  have hb14 : Below w13_.heap.size w13_ w14_ := by rw [← hW14]; exact (Below.refl _ _).alloc (Nat.le_refl _) _
  have h_x3 : Ri w14_ w14_.heap.size (some ⟨w13_.heap.size, 0, none⟩) 2 ([0, 1] : List Int) := by rw [← hW14]; exact (Oi.lit w13_ #[.int .i64 0, .int .i64 1] 2 [0, 1] rfl rfl (by omega)).ri
  rw [hW14]
  clear hW14
  have B14 : Below w.heap.size w w14_ := B13.trans (hb14.mono S13)
  have S14 : w.heap.size ≤ w14_.heap.size := B14.size
  replace h_d := Ri.next h_d hb14 (Nat.le_refl _) hb14.size
  replace h_a := Ri.next h_a hb14 (Nat.le_refl _) hb14.size
  replace h_b := Ri.next h_b hb14 (Nat.le_refl _) hb14.size
  replace h_c := Ri.next h_c hb14 (Nat.le_refl _) hb14.size
  clear B13 S13
  clear hb14
  refine (aOf _ _).mono ?_
  rintro e w' ⟨rfl, rfl⟩
  go_wp2_with fail
  refine (lWaysT (5) _ _ _ ([0, 1]) _ h_x3 (by omega) (by omega) (2) (0) (Lib.hid (by decide +kernel))).mono ?_
  rintro e w15_ ⟨rfl, hb15⟩
  have B15 : Below w.heap.size w w15_ := B14.trans (hb15.mono S14)
  have S15 : w.heap.size ≤ w15_.heap.size := B15.size
  replace h_d := Ri.next h_d hb15 (Nat.le_refl _) hb15.size
  replace h_a := Ri.next h_a hb15 (Nat.le_refl _) hb15.size
  replace h_b := Ri.next h_b hb15 (Nat.le_refl _) hb15.size
  replace h_c := Ri.next h_c hb15 (Nat.le_refl _) hb15.size
  replace h_x3 := Ri.next h_x3 hb15 (Nat.le_refl _) hb15.size
  clear B14 S14
  clear hb15
  clear h_x3
  go_wp2_with fail
  obtain ⟨w16_, hW16⟩ : ∃ W : World, w15_.alloc (.cells #[.int .i64 5] 3) = W := ⟨_, rfl⟩
  have hb16 : Below w15_.heap.size w15_ w16_ := by rw [← hW16]; exact (Below.refl _ _).alloc (Nat.le_refl _) _
  have h_x4 : Ri w16_ w16_.heap.size (some ⟨w15_.heap.size, 0, none⟩) 1 ([5] : List Int) := by rw [← hW16]; exact (Oi.lit w15_ #[.int .i64 5] 1 [5] rfl rfl (by omega)).ri
  rw [hW16]
  clear hW16
  have B16 : Below w.heap.size w w16_ := B15.trans (hb16.mono S15)
  have S16 : w.heap.size ≤ w16_.heap.size := B16.size
  replace h_d := Ri.next h_d hb16 (Nat.le_refl _) hb16.size
  replace h_a := Ri.next h_a hb16 (Nat.le_refl _) hb16.size
  replace h_b := Ri.next h_b hb16 (Nat.le_refl _) hb16.size
  replace h_c := Ri.next h_c hb16 (Nat.le_refl _) hb16.size
  clear B15 S15
  clear hb16
  refine (aOf _ _).mono ?_
  rintro e w' ⟨rfl, rfl⟩
  go_wp2_with fail
  refine (lWaysT (5) _ _ _ ([5]) _ h_x4 (by omega) (by omega) (0) (3) (Lib.hid (by decide +kernel))).mono ?_
  rintro e w17_ ⟨rfl, hb17⟩
  have B17 : Below w.heap.size w w17_ := B16.trans (hb17.mono S16)
  have S17 : w.heap.size ≤ w17_.heap.size := B17.size
  replace h_d := Ri.next h_d hb17 (Nat.le_refl _) hb17.size
  replace h_a := Ri.next h_a hb17 (Nat.le_refl _) hb17.size
  replace h_b := Ri.next h_b hb17 (Nat.le_refl _) hb17.size
  replace h_c := Ri.next h_c hb17 (Nat.le_refl _) hb17.size
  replace h_x4 := Ri.next h_x4 hb17 (Nat.le_refl _) hb17.size
  clear B16 S16
  clear hb17
  clear h_x4
  go_wp2_with fail
  obtain ⟨w18_, hW18⟩ : ∃ W : World, w17_.alloc (.cells #[.int .i64 2, .int .i64 2, .int .i64 2] 3) = W := ⟨_, rfl⟩
  have hb18 : Below w17_.heap.size w17_ w18_ := by rw [← hW18]; exact (Below.refl _ _).alloc (Nat.le_refl _) _
  have h_x5 : Ri w18_ w18_.heap.size (some ⟨w17_.heap.size, 0, none⟩) 3 ([2, 2, 2] : List Int) := by rw [← hW18]; exact (Oi.lit w17_ #[.int .i64 2, .int .i64 2, .int .i64 2] 3 [2, 2, 2] rfl rfl (by omega)).ri
  rw [hW18]
  clear hW18
  have B18 : Below w.heap.size w w18_ := B17.trans (hb18.mono S17)
  have S18 : w.heap.size ≤ w18_.heap.size := B18.size
  replace h_d := Ri.next h_d hb18 (Nat.le_refl _) hb18.size
  replace h_a := Ri.next h_a hb18 (Nat.le_refl _) hb18.size
  replace h_b := Ri.next h_b hb18 (Nat.le_refl _) hb18.size
  replace h_c := Ri.next h_c hb18 (Nat.le_refl _) hb18.size
  clear B17 S17
  clear hb18
  refine (aOf _ _).mono ?_
  rintro e w' ⟨rfl, rfl⟩
  go_wp2_with fail
  refine (lRoundT (3) _ _ _ ([2, 2, 2]) _ h_x5 (by omega) ([2, 0, 1]) (3) (0) (Lib.hid (by decide +kernel))).mono ?_
  rintro e w19_ ⟨A19, n19, c19, rfl, ho19, hb19⟩
  have B19 : Below w.heap.size w w19_ := B18.trans (hb19.mono S18)
  have S19 : w.heap.size ≤ w19_.heap.size := B19.size
  replace h_d := Ri.next h_d hb19 (Nat.le_refl _) hb19.size
  replace h_a := Ri.next h_a hb19 (Nat.le_refl _) hb19.size
  replace h_b := Ri.next h_b hb19 (Nat.le_refl _) hb19.size
  replace h_c := Ri.next h_c hb19 (Nat.le_refl _) hb19.size
  replace h_x5 := Ri.next h_x5 hb19 (Nat.le_refl _) hb19.size
  clear B18 S18
  have h_f := ho19.ri
  have m_f := ho19.most
  clear ho19
  clear hb19
  clear h_x5
  go_wp2_with fail
  obtain ⟨w20_, hW20⟩ : ∃ W : World, w19_.alloc (.cells #[.int .i64 0, .int .i64 1, .int .i64 2, .int .i64 3] 3) = W := ⟨_, rfl⟩
  have hb20 : Below w19_.heap.size w19_ w20_ := by rw [← hW20]; exact (Below.refl _ _).alloc (Nat.le_refl _) _
  have h_y1 : Ri w20_ w20_.heap.size (some ⟨w19_.heap.size, 0, none⟩) 4 ([0, 1, 2, 3] : List Int) := by rw [← hW20]; exact (Oi.lit w19_ #[.int .i64 0, .int .i64 1, .int .i64 2, .int .i64 3] 4 [0, 1, 2, 3] rfl rfl (by omega)).ri
  rw [hW20]
  clear hW20
  have B20 : Below w.heap.size w w20_ := B19.trans (hb20.mono S19)
  have S20 : w.heap.size ≤ w20_.heap.size := B20.size
  replace h_d := Ri.next h_d hb20 (Nat.le_refl _) hb20.size
  replace h_a := Ri.next h_a hb20 (Nat.le_refl _) hb20.size
  replace h_b := Ri.next h_b hb20 (Nat.le_refl _) hb20.size
  replace h_c := Ri.next h_c hb20 (Nat.le_refl _) hb20.size
  replace h_f := Ri.next h_f hb20 (Nat.le_refl _) hb20.size
  clear B19 S19
  clear hb20
  refine (aOf _ _).mono ?_
  rintro e w' ⟨rfl, rfl⟩
  go_wp2_with fail
  refine (aIntsT _ _ _ _ _ _ _ _ ([0, 1, 2, 3]) ([0, 1, 2, 3]) _ h_a h_y1 (by omega) (by omega) true (Lib.hid (by decide +kernel))).mono ?_
  rintro e w21_ ⟨rfl, hb21⟩
  have B21 : Below w.heap.size w w21_ := B20.trans (hb21.mono S20)
  have S21 : w.heap.size ≤ w21_.heap.size := B21.size
  replace h_d := Ri.next h_d hb21 (Nat.le_refl _) hb21.size
  replace h_a := Ri.next h_a hb21 (Nat.le_refl _) hb21.size
  replace h_b := Ri.next h_b hb21 (Nat.le_refl _) hb21.size
  replace h_c := Ri.next h_c hb21 (Nat.le_refl _) hb21.size
  replace h_f := Ri.next h_f hb21 (Nat.le_refl _) hb21.size
  replace h_y1 := Ri.next h_y1 hb21 (Nat.le_refl _) hb21.size
  clear B20 S20
  clear hb21
  clear h_a
  clear h_y1
  go_wp2_with fail
  obtain ⟨w22_, hW22⟩ : ∃ W : World, w21_.alloc (.cells #[.int .i64 0, .int .i64 1, .int .i64 2, .int .i64 3, .int .i64 4] 3) = W := ⟨_, rfl⟩
  have hb22 : Below w21_.heap.size w21_ w22_ := by rw [← hW22]; exact (Below.refl _ _).alloc (Nat.le_refl _) _
  have h_y2 : Ri w22_ w22_.heap.size (some ⟨w21_.heap.size, 0, none⟩) 5 ([0, 1, 2, 3, 4] : List Int) := by rw [← hW22]; exact (Oi.lit w21_ #[.int .i64 0, .int .i64 1, .int .i64 2, .int .i64 3, .int .i64 4] 5 [0, 1, 2, 3, 4] rfl rfl (by omega)).ri
  rw [hW22]
  clear hW22
  have B22 : Below w.heap.size w w22_ := B21.trans (hb22.mono S21)
  have S22 : w.heap.size ≤ w22_.heap.size := B22.size
  replace h_d := Ri.next h_d hb22 (Nat.le_refl _) hb22.size
  replace h_b := Ri.next h_b hb22 (Nat.le_refl _) hb22.size
  replace h_c := Ri.next h_c hb22 (Nat.le_refl _) hb22.size
  replace h_f := Ri.next h_f hb22 (Nat.le_refl _) hb22.size
  clear B21 S21
  clear hb22
  refine (aOf _ _).mono ?_
  rintro e w' ⟨rfl, rfl⟩
  go_wp2_with fail
  refine (aIntsT _ _ _ _ _ _ _ _ ([0, 1, 2, 3, 4]) ([0, 1, 2, 3, 4]) _ h_b h_y2 (by omega) (by omega) true (Lib.hid (by decide +kernel))).mono ?_
  rintro e w23_ ⟨rfl, hb23⟩
  have B23 : Below w.heap.size w w23_ := B22.trans (hb23.mono S22)
  have S23 : w.heap.size ≤ w23_.heap.size := B23.size
  replace h_d := Ri.next h_d hb23 (Nat.le_refl _) hb23.size
  replace h_b := Ri.next h_b hb23 (Nat.le_refl _) hb23.size
  replace h_c := Ri.next h_c hb23 (Nat.le_refl _) hb23.size
  replace h_f := Ri.next h_f hb23 (Nat.le_refl _) hb23.size
  replace h_y2 := Ri.next h_y2 hb23 (Nat.le_refl _) hb23.size
  clear B22 S22
  clear hb23
  clear h_b
  clear h_y2
  go_wp2_with fail
  obtain ⟨w24_, hW24⟩ : ∃ W : World, w23_.alloc (.cells #[.int .i64 0, .int .i64 1, .int .i64 2, .int .i64 3, .int .i64 4] 3) = W := ⟨_, rfl⟩
  have hb24 : Below w23_.heap.size w23_ w24_ := by rw [← hW24]; exact (Below.refl _ _).alloc (Nat.le_refl _) _
  have h_y3 : Ri w24_ w24_.heap.size (some ⟨w23_.heap.size, 0, none⟩) 5 ([0, 1, 2, 3, 4] : List Int) := by rw [← hW24]; exact (Oi.lit w23_ #[.int .i64 0, .int .i64 1, .int .i64 2, .int .i64 3, .int .i64 4] 5 [0, 1, 2, 3, 4] rfl rfl (by omega)).ri
  rw [hW24]
  clear hW24
  have B24 : Below w.heap.size w w24_ := B23.trans (hb24.mono S23)
  have S24 : w.heap.size ≤ w24_.heap.size := B24.size
  replace h_d := Ri.next h_d hb24 (Nat.le_refl _) hb24.size
  replace h_c := Ri.next h_c hb24 (Nat.le_refl _) hb24.size
  replace h_f := Ri.next h_f hb24 (Nat.le_refl _) hb24.size
  clear B23 S23
  clear hb24
  refine (aOf _ _).mono ?_
  rintro e w' ⟨rfl, rfl⟩
  go_wp2_with fail
  refine (aIntsT _ _ _ _ _ _ _ _ ([0, 1, 2, 3, 4]) ([0, 1, 2, 3, 4]) _ h_c h_y3 (by omega) (by omega) true (Lib.hid (by decide +kernel))).mono ?_
  rintro e w25_ ⟨rfl, hb25⟩
  have B25 : Below w.heap.size w w25_ := B24.trans (hb25.mono S24)
  have S25 : w.heap.size ≤ w25_.heap.size := B25.size
  replace h_d := Ri.next h_d hb25 (Nat.le_refl _) hb25.size
  replace h_c := Ri.next h_c hb25 (Nat.le_refl _) hb25.size
  replace h_f := Ri.next h_f hb25 (Nat.le_refl _) hb25.size
  replace h_y3 := Ri.next h_y3 hb25 (Nat.le_refl _) hb25.size
  clear B24 S24
  clear hb25
  clear h_c
  clear h_y3
  go_wp2_with fail
  obtain ⟨w26_, hW26⟩ : ∃ W : World, w25_.alloc (.cells #[.int .i64 2, .int .i64 0, .int .i64 1] 3) = W := ⟨_, rfl⟩
  have hb26 : Below w25_.heap.size w25_ w26_ := by rw [← hW26]; exact (Below.refl _ _).alloc (Nat.le_refl _) _
  have h_y4 : Ri w26_ w26_.heap.size (some ⟨w25_.heap.size, 0, none⟩) 3 ([2, 0, 1] : List Int) := by rw [← hW26]; exact (Oi.lit w25_ #[.int .i64 2, .int .i64 0, .int .i64 1] 3 [2, 0, 1] rfl rfl (by omega)).ri
  rw [hW26]
  clear hW26
  have B26 : Below w.heap.size w w26_ := B25.trans (hb26.mono S25)
  have S26 : w.heap.size ≤ w26_.heap.size := B26.size
  replace h_d := Ri.next h_d hb26 (Nat.le_refl _) hb26.size
  replace h_f := Ri.next h_f hb26 (Nat.le_refl _) hb26.size
  clear B25 S25
  clear hb26
  refine (aOf _ _).mono ?_
  rintro e w' ⟨rfl, rfl⟩
  go_wp2_with fail
  refine (aIntsT _ _ _ _ _ _ _ _ ([2, 0, 1]) ([2, 0, 1]) _ h_f h_y4 (by omega) (by omega) true (Lib.hid (by decide +kernel))).mono ?_
  rintro e w27_ ⟨rfl, hb27⟩
  have B27 : Below w.heap.size w w27_ := B26.trans (hb27.mono S26)
  have S27 : w.heap.size ≤ w27_.heap.size := B27.size
  replace h_d := Ri.next h_d hb27 (Nat.le_refl _) hb27.size
  replace h_f := Ri.next h_f hb27 (Nat.le_refl _) hb27.size
  replace h_y4 := Ri.next h_y4 hb27 (Nat.le_refl _) hb27.size
  clear B26 S26
  clear hb27
  clear h_f
  clear h_y4
  go_wp2_with fail
  refine (lCheckDropsT (5) _ _ _ ([2, 0, 2, 1]) _ h_d (by omega) (0) (Lib.hid (by decide +kernel))).mono ?_
  rintro e w28_ ⟨rfl, hb28⟩
  have B28 : Below w.heap.size w w28_ := B27.trans (hb28.mono S27)
  have S28 : w.heap.size ≤ w28_.heap.size := B28.size
  replace h_d := Ri.next h_d hb28 (Nat.le_refl _) hb28.size
  clear B27 S27
  clear hb28
  clear h_d
  go_wp2_with fail
  refine (aWorks _).mono ?_
  rintro e w29_ ⟨rfl, hb29⟩
  have B29 : Below w.heap.size w w29_ := B28.trans (hb29.mono S28)
  have S29 : w.heap.size ≤ w29_.heap.size := B29.size
  clear B28 S28
  clear hb29
  go_wp2
  go_ret
  exact ⟨rfl, B29⟩

set_option maxRecDepth 100000 in
theorem LedgeKnown_lifted (os : Os) (started : os.Started) (H : Type) (enc : TypeId × Value → H) :
    ReturnsInHanded {} Try.checked os 16 .any (Rows.ledgeKnownSpec.pre6 enc Try.prog Try.f16 Rows.ledgeKnownRow.domain false) (Rows.ledgeKnownSpec.post enc Try.prog Try.f16 false true false false) := by
  refine returnsInHanded_of_change (C := Try.checked) row_own started (by kernel_rfl) Try.func16
    (ChangeSpec.witness6 (enc := enc) (C := Try.checked) false ⟨#[], #[], []⟩ 8 (by kernel_rfl) (by kernel_rfl) (by kernel_rfl) (by kernel_rfl)) ?_
  intro W base args ds gs before hval0 hW _ _
  have hW' := hW
  obtain ⟨p, q, hA0, hV, rfl, _, _⟩ := hW
  have hA : DataW.TrodAll enc Try.prog W 0 (fun _ => true) true Try.f16.params.toList args.toList ds p := hA0
  rw [Try.params16] at hA
  obtain ⟨rfl, rfl, rfl⟩ := trodAll_none hA
  obtain ⟨rfl, rfl⟩ := trodVars_none hV
  clear hA0 hval0

  refine (wKnown W).mono fun e W' ⟨he, hb⟩ => ?_
  subst he
  exact ⟨_, rfl, _, _, _, [], (([] : List MemPlace)), [], hW', trodAll_mk1 (shut_bool Try.underlying4 true), trodAll_mk0, rfl, hb.frame _, fun h => by cases h⟩
theorem LedgeKnown_holds : Rows.LedgeKnownSaid :=
  OpenClaim.holds_of_wide 16 Try.f16 rfl rfl rfl rfl rfl rfl rfl ⟨rfl, rfl, rfl, rfl, rfl⟩ rfl rfl rfl rfl rfl (by kernel_rfl) Try.func16 (by kernel_rfl)
    (of_decide_eq_true (by kernel_rfl)) (by unfold Func.isWrapper; first | (rw [if_pos (by decide +kernel)]; kernel_rfl) | (rw [if_neg (by decide +kernel)]; exact ⟨rfl, rfl⟩))
    (fun os started H enc _ => LedgeKnown_lifted os started H enc)
#print axioms LedgeKnown_holds
end Go.Proofs.Ytkeiajncmhkdmaa
