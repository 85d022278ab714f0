import Derived.Test.YtkeiajncmhkdmaaTot1
import Derived.Test.YtkeiajncmhkdmaaLaw1
namespace Go.Proofs.Ytkeiajncmhkdmaa
open Go.RowKit Go.Shelf

set_option maxRecDepth 100000 in
set_option maxHeartbeats 4000000 in
theorem aWorks (w : World) : Calls Try.prog 18 #[] w (RetB w true) := by
  go_enter Try.func18, Try.ntmps18
  go_wp2_with fail
  obtain ⟨w1_, hW1⟩ : ∃ W : World, w.alloc (.cells #[.int .i64 2, .int .i64 0, .int .i64 2, .int .i64 1] 3) = W := ⟨_, rfl⟩
  have hb1 : Below w.heap.size w w1_ := by rw [← hW1]; exact (Below.refl _ _).alloc (Nat.le_refl _) _
  have h_d : Ri w1_ w1_.heap.size (some ⟨w.heap.size, 0, none⟩) 4 ([2, 0, 2, 1] : List Int) := by rw [← hW1]; exact (Oi.lit w #[.int .i64 2, .int .i64 0, .int .i64 2, .int .i64 1] 4 [2, 0, 2, 1] rfl rfl (by omega)).ri
  rw [hW1]
  clear hW1
  have B1 : Below w.heap.size w w1_ := (Below.refl _ _).trans (hb1.mono (Nat.le_refl _))
  have S1 : w.heap.size ≤ w1_.heap.size := B1.size
  clear hb1
  refine (aOf _ _).mono ?_
  rintro e w' ⟨rfl, rfl⟩
  go_wp2_with fail
  obtain ⟨w2_, hW2⟩ : ∃ W : World, w1_.alloc (.cells #[.int .i64 3, .int .i64 4, .int .i64 3, .int .i64 4] 3) = W := ⟨_, rfl⟩
  have hb2 : Below w1_.heap.size w1_ w2_ := by rw [← hW2]; exact (Below.refl _ _).alloc (Nat.le_refl _) _
  have h_e : Ri w2_ w2_.heap.size (some ⟨w1_.heap.size, 0, none⟩) 4 ([3, 4, 3, 4] : List Int) := by rw [← hW2]; exact (Oi.lit w1_ #[.int .i64 3, .int .i64 4, .int .i64 3, .int .i64 4] 4 [3, 4, 3, 4] rfl rfl (by omega)).ri
  rw [hW2]
  clear hW2
  have B2 : Below w.heap.size w w2_ := B1.trans (hb2.mono S1)
  have S2 : w.heap.size ≤ w2_.heap.size := B2.size
  replace h_d := Ri.next h_d hb2 (Nat.le_refl _) hb2.size
  clear B1 S1
  clear hb2
  refine (aOf _ _).mono ?_
  rintro e w' ⟨rfl, rfl⟩
  go_wp2_with fail
  refine (lLieT (5) _ _ _ ([2, 0, 2, 1]) _ h_d (by omega) ([2, 0, 3, 1]) (1) (0) (Lib.hid (by decide +kernel))).mono ?_
  rintro e w3_ ⟨A3, n3, c3, rfl, ho3, hb3⟩
  have B3 : Below w.heap.size w w3_ := B2.trans (hb3.mono S2)
  have S3 : w.heap.size ≤ w3_.heap.size := B3.size
  replace h_d := Ri.next h_d hb3 (Nat.le_refl _) hb3.size
  replace h_e := Ri.next h_e hb3 (Nat.le_refl _) hb3.size
  clear B2 S2
  have h_a := ho3.ri
  have m_a := ho3.most
  clear ho3
  clear hb3
  go_wp2_with fail
  refine (lLieT (5) _ _ _ ([3, 4, 3, 4]) _ h_e (by omega) ([3, 4, -1, -1]) (3) (0) (Lib.hid (by decide +kernel))).mono ?_
  rintro e w4_ ⟨A4, n4, c4, rfl, ho4, hb4⟩
  have B4 : Below w.heap.size w w4_ := B3.trans (hb4.mono S3)
  have S4 : w.heap.size ≤ w4_.heap.size := B4.size
  replace h_d := Ri.next h_d hb4 (Nat.le_refl _) hb4.size
  replace h_e := Ri.next h_e hb4 (Nat.le_refl _) hb4.size
  replace h_a := Ri.next h_a hb4 (Nat.le_refl _) hb4.size
  clear B3 S3
  have h_b := ho4.ri
  have m_b := ho4.most
  clear ho4
  clear hb4
  go_wp2_with fail
  refine (lFullT (5) _ _ _ ([3, 4, 3, 4]) _ h_e (by omega) ([3, 4]) (2) (0) (Lib.hid (by decide +kernel))).mono ?_
  rintro e w5_ ⟨A5, n5, c5, rfl, ho5, hb5⟩
  have B5 : Below w.heap.size w w5_ := B4.trans (hb5.mono S4)
  have S5 : w.heap.size ≤ w5_.heap.size := B5.size
  replace h_d := Ri.next h_d hb5 (Nat.le_refl _) hb5.size
  replace h_e := Ri.next h_e hb5 (Nat.le_refl _) hb5.size
  replace h_a := Ri.next h_a hb5 (Nat.le_refl _) hb5.size
  replace h_b := Ri.next h_b hb5 (Nat.le_refl _) hb5.size
  clear B4 S4
  have h_c := ho5.ri
  have m_c := ho5.most
  clear ho5
  clear hb5
  go_wp2_with fail
  refine (lCheckOverT (5) _ _ _ ([3, 4, 3, 4]) _ h_e (by omega) 0 (-1) (0) (Lib.hid (by decide +kernel))).mono ?_
  rintro e w6_ ⟨rfl, hb6⟩
  have B6 : Below w.heap.size w w6_ := B5.trans (hb6.mono S5)
  have S6 : w.heap.size ≤ w6_.heap.size := B6.size
  replace h_d := Ri.next h_d hb6 (Nat.le_refl _) hb6.size
  replace h_e := Ri.next h_e hb6 (Nat.le_refl _) hb6.size
  replace h_a := Ri.next h_a hb6 (Nat.le_refl _) hb6.size
  replace h_b := Ri.next h_b hb6 (Nat.le_refl _) hb6.size
  replace h_c := Ri.next h_c hb6 (Nat.le_refl _) hb6.size
  clear B5 S5
  clear hb6
  go_wp2_with fail
  refine (lCheckOverT (5) _ _ _ ([3, 4, 3, 4]) _ h_e (by omega) 5 (0) (2) (Lib.hid (by decide +kernel))).mono ?_
  rintro e w7_ ⟨rfl, hb7⟩
  have B7 : Below w.heap.size w w7_ := B6.trans (hb7.mono S6)
  have S7 : w.heap.size ≤ w7_.heap.size := B7.size
  replace h_d := Ri.next h_d hb7 (Nat.le_refl _) hb7.size
  replace h_e := Ri.next h_e hb7 (Nat.le_refl _) hb7.size
  replace h_a := Ri.next h_a hb7 (Nat.le_refl _) hb7.size
  replace h_b := Ri.next h_b hb7 (Nat.le_refl _) hb7.size
  replace h_c := Ri.next h_c hb7 (Nat.le_refl _) hb7.size
  clear B6 S6
  clear hb7
  go_wp2_with fail
  refine (lOverT (5) _ _ _ ([3, 4, 3, 4]) _ h_e (by omega)  (3) (0) (Lib.hid (by decide +kernel))).mono ?_
  rintro e w8_ ⟨rfl, hb8⟩
  have B8 : Below w.heap.size w w8_ := B7.trans (hb8.mono S7)
  have S8 : w.heap.size ≤ w8_.heap.size := B8.size
  replace h_d := Ri.next h_d hb8 (Nat.le_refl _) hb8.size
  replace h_e := Ri.next h_e hb8 (Nat.le_refl _) hb8.size
  replace h_a := Ri.next h_a hb8 (Nat.le_refl _) hb8.size
  replace h_b := Ri.next h_b hb8 (Nat.le_refl _) hb8.size
  replace h_c := Ri.next h_c hb8 (Nat.le_refl _) hb8.size
  clear B7 S7
  clear hb8
  go_wp2_with fail
  refine (lOverT (5) _ _ _ ([2, 0, 2, 1]) _ h_d (by omega)  (0) (20) (Lib.hid (by decide +kernel))).mono ?_
  rintro e w9_ ⟨rfl, hb9⟩
  have B9 : Below w.heap.size w w9_ := B8.trans (hb9.mono S8)
  have S9 : w.heap.size ≤ w9_.heap.size := B9.size
  replace h_d := Ri.next h_d hb9 (Nat.le_refl _) hb9.size
  replace h_e := Ri.next h_e hb9 (Nat.le_refl _) hb9.size
  replace h_a := Ri.next h_a hb9 (Nat.le_refl _) hb9.size
  replace h_b := Ri.next h_b hb9 (Nat.le_refl _) hb9.size
  replace h_c := Ri.next h_c hb9 (Nat.le_refl _) hb9.size
  clear B8 S8
  clear hb9
  go_wp2_with fail
  refine (lCheckRowT (5) _ _ _ ([2, 0, 2, 1]) _ h_d (by omega) (0) (Lib.hid (by decide +kernel))).mono ?_
  rintro e w10_ ⟨rfl, hb10⟩
  have B10 : Below w.heap.size w w10_ := B9.trans (hb10.mono S9)
  have S10 : w.heap.size ≤ w10_.heap.size := B10.size
  replace h_d := Ri.next h_d hb10 (Nat.le_refl _) hb10.size
  replace h_e := Ri.next h_e hb10 (Nat.le_refl _) hb10.size
  replace h_a := Ri.next h_a hb10 (Nat.le_refl _) hb10.size
  replace h_b := Ri.next h_b hb10 (Nat.le_refl _) hb10.size
  replace h_c := Ri.next h_c hb10 (Nat.le_refl _) hb10.size
  clear B9 S9
  clear hb10
  go_wp2_with fail
  refine (lCheckRowT (5) _ _ _ ([3, 4, 3, 4]) _ h_e (by omega) (20) (Lib.hid (by decide +kernel))).mono ?_
  rintro e w11_ ⟨rfl, hb11⟩
  have B11 : Below w.heap.size w w11_ := B10.trans (hb11.mono S10)
  have S11 : w.heap.size ≤ w11_.heap.size := B11.size
  replace h_d := Ri.next h_d hb11 (Nat.le_refl _) hb11.size
  replace h_e := Ri.next h_e hb11 (Nat.le_refl _) hb11.size
  replace h_a := Ri.next h_a hb11 (Nat.le_refl _) hb11.size
  replace h_b := Ri.next h_b hb11 (Nat.le_refl _) hb11.size
  replace h_c := Ri.next h_c hb11 (Nat.le_refl _) hb11.size
  clear B10 S10
  clear hb11
  clear h_d
  clear h_e
  go_wp2_with fail
  obtain ⟨w12_, hW12⟩ : ∃ W : World, w11_.alloc (.cells #[.int .i64 4, .int .i64 1] 3) = W := ⟨_, rfl⟩
  have hb12 : Below w11_.heap.size w11_ w12_ := by rw [← hW12]; exact (Below.refl _ _).alloc (Nat.le_refl _) _
  have h_x1 : Ri w12_ w12_.heap.size (some ⟨w11_.heap.size, 0, none⟩) 2 ([4, 1] : List Int) := by rw [← hW12]; exact (Oi.lit w11_ #[.int .i64 4, .int .i64 1] 2 [4, 1] rfl rfl (by omega)).ri
  rw [hW12]
  clear hW12
  have B12 : Below w.heap.size w w12_ := B11.trans (hb12.mono S11)
  have S12 : w.heap.size ≤ w12_.heap.size := B12.size
  replace h_a := Ri.next h_a hb12 (Nat.le_refl _) hb12.size
  replace h_b := Ri.next h_b hb12 (Nat.le_refl _) hb12.size
  replace h_c := Ri.next h_c hb12 (Nat.le_refl _) hb12.size
  clear B11 S11
  clear hb12
  refine (aOf _ _).mono ?_
  rintro e w' ⟨rfl, rfl⟩
  go_wp2_with fail
  refine (lMayT (5) _ _ _ ([4, 1]) _ h_x1 (by omega) ([0, 1, 2, 3]) (0) (Lib.hid (by decide +kernel))).mono ?_
  rintro e w13_ ⟨A13, n13, c13, rfl, ho13, hb13⟩
  have B13 : Below w.heap.size w w13_ := B12.trans (hb13.mono S12)
  have S13 : w.heap.size ≤ w13_.heap.size := B13.size
  replace h_a := Ri.next h_a hb13 (Nat.le_refl _) hb13.size
  replace h_b := Ri.next h_b hb13 (Nat.le_refl _) hb13.size
  replace h_c := Ri.next h_c hb13 (Nat.le_refl _) hb13.size
  replace h_x1 := Ri.next h_x1 hb13 (Nat.le_refl _) hb13.size
  clear B12 S12
  have h_f := ho13.ri
  have m_f := ho13.most
  clear ho13
  clear hb13
  clear h_x1
  go_wp2_with fail
  refine (lCountT 5 4 _ 432 0 (Lib.hid (by decide +kernel))).mono ?_
  rintro e w14_ ⟨rfl, hb14⟩
  have B14 : Below w.heap.size w w14_ := B13.trans (hb14.mono S13)
  have S14 : w.heap.size ≤ w14_.heap.size := B14.size
  replace h_a := Ri.next h_a hb14 (Nat.le_refl _) hb14.size
  replace h_b := Ri.next h_b hb14 (Nat.le_refl _) hb14.size
  replace h_c := Ri.next h_c hb14 (Nat.le_refl _) hb14.size
  replace h_f := Ri.next h_f hb14 (Nat.le_refl _) hb14.size
  clear B13 S13
  clear hb14
  go_wp2_with fail
  refine (lCountT 3 3 _ 16 0 (Lib.hid (by decide +kernel))).mono ?_
  rintro e w15_ ⟨rfl, hb15⟩
  have B15 : Below w.heap.size w w15_ := B14.trans (hb15.mono S14)
  have S15 : w.heap.size ≤ w15_.heap.size := B15.size
  replace h_a := Ri.next h_a hb15 (Nat.le_refl _) hb15.size
  replace h_b := Ri.next h_b hb15 (Nat.le_refl _) hb15.size
  replace h_c := Ri.next h_c hb15 (Nat.le_refl _) hb15.size
  replace h_f := Ri.next h_f hb15 (Nat.le_refl _) hb15.size
  clear B14 S14
  clear hb15
  go_wp2_with fail
  obtain ⟨w16_, hW16⟩ : ∃ W : World, w15_.alloc (.cells #[.int .i64 0, .int .i64 1, .int .i64 3] 3) = W := ⟨_, rfl⟩
  have hb16 : Below w15_.heap.size w15_ w16_ := by rw [← hW16]; exact (Below.refl _ _).alloc (Nat.le_refl _) _
  have h_x2 : Ri w16_ w16_.heap.size (some ⟨w15_.heap.size, 0, none⟩) 3 ([0, 1, 3] : List Int) := by rw [← hW16]; exact (Oi.lit w15_ #[.int .i64 0, .int .i64 1, .int .i64 3] 3 [0, 1, 3] rfl rfl (by omega)).ri
  rw [hW16]
  clear hW16
  have B16 : Below w.heap.size w w16_ := B15.trans (hb16.mono S15)
  have S16 : w.heap.size ≤ w16_.heap.size := B16.size
  replace h_a := Ri.next h_a hb16 (Nat.le_refl _) hb16.size
  replace h_b := Ri.next h_b hb16 (Nat.le_refl _) hb16.size
  replace h_c := Ri.next h_c hb16 (Nat.le_refl _) hb16.size
  replace h_f := Ri.next h_f hb16 (Nat.le_refl _) hb16.size
  clear B15 S15
  clear hb16
  refine (aOf _ _).mono ?_
  rintro e w' ⟨rfl, rfl⟩
  go_wp2_with fail
  refine (lLeaveT (5) _ _ _ ([0, 1, 3]) _ h_x2 (by omega)  (9) (0) (Lib.hid (by decide +kernel))).mono ?_
  rintro e w17_ ⟨rfl, hb17⟩
  have B17 : Below w.heap.size w w17_ := B16.trans (hb17.mono S16)
  have S17 : w.heap.size ≤ w17_.heap.size := B17.size
  replace h_a := Ri.next h_a hb17 (Nat.le_refl _) hb17.size
  replace h_b := Ri.next h_b hb17 (Nat.le_refl _) hb17.size
  replace h_c := Ri.next h_c hb17 (Nat.le_refl _) hb17.size
  replace h_f := Ri.next h_f hb17 (Nat.le_refl _) hb17.size
  replace h_x2 := Ri.next h_x2 hb17 (Nat.le_refl _) hb17.size
  clear B16 S16
  clear hb17
  clear h_x2
  go_wp2_with fail
  obtain ⟨w18_, hW18⟩ : ∃ W : World, w17_.alloc (.cells #[.int .i64 1, .int .i64 0] 3) = W := ⟨_, rfl⟩
  have hb18 : Below w17_.heap.size w17_ w18_ := by rw [← hW18]; exact (Below.refl _ _).alloc (Nat.le_refl _) _
  have h_x3 : Ri w18_ w18_.heap.size (some ⟨w17_.heap.size, 0, none⟩) 2 ([1, 0] : List Int) := by rw [← hW18]; exact (Oi.lit w17_ #[.int .i64 1, .int .i64 0] 2 [1, 0] rfl rfl (by omega)).ri
  rw [hW18]
  clear hW18
  have B18 : Below w.heap.size w w18_ := B17.trans (hb18.mono S17)
  have S18 : w.heap.size ≤ w18_.heap.size := B18.size
  replace h_a := Ri.next h_a hb18 (Nat.le_refl _) hb18.size
  replace h_b := Ri.next h_b hb18 (Nat.le_refl _) hb18.size
  replace h_c := Ri.next h_c hb18 (Nat.le_refl _) hb18.size
  replace h_f := Ri.next h_f hb18 (Nat.le_refl _) hb18.size
  clear B17 S17
  clear hb18
  refine (aOf _ _).mono ?_
  rintro e w' ⟨rfl, rfl⟩
  go_wp2_with fail
  refine (lLeaveT (5) _ _ _ ([1, 0]) _ h_x3 (by omega)  (0) (3) (Lib.hid (by decide +kernel))).mono ?_
  rintro e w19_ ⟨rfl, hb19⟩
  have B19 : Below w.heap.size w w19_ := B18.trans (hb19.mono S18)
  have S19 : w.heap.size ≤ w19_.heap.size := B19.size
  replace h_a := Ri.next h_a hb19 (Nat.le_refl _) hb19.size
  replace h_b := Ri.next h_b hb19 (Nat.le_refl _) hb19.size
  replace h_c := Ri.next h_c hb19 (Nat.le_refl _) hb19.size
  replace h_f := Ri.next h_f hb19 (Nat.le_refl _) hb19.size
  replace h_x3 := Ri.next h_x3 hb19 (Nat.le_refl _) hb19.size
  clear B18 S18
  clear hb19
  clear h_x3
  go_wp2_with fail
  obtain ⟨w20_, hW20⟩ : ∃ W : World, w19_.alloc (.cells #[.int .i64 2, .int .i64 0, .int .i64 3, .int .i64 1] 3) = W := ⟨_, rfl⟩
  have hb20 : Below w19_.heap.size w19_ w20_ := by rw [← hW20]; exact (Below.refl _ _).alloc (Nat.le_refl _) _
  have h_x4 : Ri w20_ w20_.heap.size (some ⟨w19_.heap.size, 0, none⟩) 4 ([2, 0, 3, 1] : List Int) := by rw [← hW20]; exact (Oi.lit w19_ #[.int .i64 2, .int .i64 0, .int .i64 3, .int .i64 1] 4 [2, 0, 3, 1] rfl rfl (by omega)).ri
  rw [hW20]
  clear hW20
  have B20 : Below w.heap.size w w20_ := B19.trans (hb20.mono S19)
  have S20 : w.heap.size ≤ w20_.heap.size := B20.size
  replace h_a := Ri.next h_a hb20 (Nat.le_refl _) hb20.size
  replace h_b := Ri.next h_b hb20 (Nat.le_refl _) hb20.size
  replace h_c := Ri.next h_c hb20 (Nat.le_refl _) hb20.size
  replace h_f := Ri.next h_f hb20 (Nat.le_refl _) hb20.size
  clear B19 S19
  clear hb20
  refine (aOf _ _).mono ?_
  rintro e w' ⟨rfl, rfl⟩
  go_wp2_with fail
  refine (lWaysT (5) _ _ _ ([2, 0, 3, 1]) _ h_x4 (by omega) (by omega) (4) (0) (Lib.hid (by decide +kernel))).mono ?_
  rintro e w21_ ⟨rfl, hb21⟩
  have B21 : Below w.heap.size w w21_ := B20.trans (hb21.mono S20)
  have S21 : w.heap.size ≤ w21_.heap.size := B21.size
  replace h_a := Ri.next h_a hb21 (Nat.le_refl _) hb21.size
  replace h_b := Ri.next h_b hb21 (Nat.le_refl _) hb21.size
  replace h_c := Ri.next h_c hb21 (Nat.le_refl _) hb21.size
  replace h_f := Ri.next h_f hb21 (Nat.le_refl _) hb21.size
  replace h_x4 := Ri.next h_x4 hb21 (Nat.le_refl _) hb21.size
  clear B20 S20
  clear hb21
  clear h_x4
  go_wp2_with fail
  obtain ⟨w22_, hW22⟩ : ∃ W : World, w21_.alloc (.cells #[.int .i64 1, .int .i64 1] 3) = W := ⟨_, rfl⟩
  have hb22 : Below w21_.heap.size w21_ w22_ := by rw [← hW22]; exact (Below.refl _ _).alloc (Nat.le_refl _) _
  have h_x5 : Ri w22_ w22_.heap.size (some ⟨w21_.heap.size, 0, none⟩) 2 ([1, 1] : List Int) := by rw [← hW22]; exact (Oi.lit w21_ #[.int .i64 1, .int .i64 1] 2 [1, 1] rfl rfl (by omega)).ri
  rw [hW22]
  clear hW22
  have B22 : Below w.heap.size w w22_ := B21.trans (hb22.mono S21)
  have S22 : w.heap.size ≤ w22_.heap.size := B22.size
  replace h_a := Ri.next h_a hb22 (Nat.le_refl _) hb22.size
  replace h_b := Ri.next h_b hb22 (Nat.le_refl _) hb22.size
  replace h_c := Ri.next h_c hb22 (Nat.le_refl _) hb22.size
  replace h_f := Ri.next h_f hb22 (Nat.le_refl _) hb22.size
  clear B21 S21
  clear hb22
  refine (aOf _ _).mono ?_
  rintro e w' ⟨rfl, rfl⟩
  go_wp2_with fail
  refine (lWaysT (5) _ _ _ ([1, 1]) _ h_x5 (by omega) (by omega) (0) (11) (Lib.hid (by decide +kernel))).mono ?_
  rintro e w23_ ⟨rfl, hb23⟩
  have B23 : Below w.heap.size w w23_ := B22.trans (hb23.mono S22)
  have S23 : w.heap.size ≤ w23_.heap.size := B23.size
  replace h_a := Ri.next h_a hb23 (Nat.le_refl _) hb23.size
  replace h_b := Ri.next h_b hb23 (Nat.le_refl _) hb23.size
  replace h_c := Ri.next h_c hb23 (Nat.le_refl _) hb23.size
  replace h_f := Ri.next h_f hb23 (Nat.le_refl _) hb23.size
  replace h_x5 := Ri.next h_x5 hb23 (Nat.le_refl _) hb23.size
  clear B22 S22
  clear hb23
  clear h_x5
  go_wp2_with fail
  obtain ⟨w24_, hW24⟩ : ∃ W : World, w23_.alloc (.cells #[.int .i64 4, .int .i64 4, .int .i64 3] 3) = W := ⟨_, rfl⟩
  have hb24 : Below w23_.heap.size w23_ w24_ := by rw [← hW24]; exact (Below.refl _ _).alloc (Nat.le_refl _) _
  have h_x6 : Ri w24_ w24_.heap.size (some ⟨w23_.heap.size, 0, none⟩) 3 ([4, 4, 3] : List Int) := by rw [← hW24]; exact (Oi.lit w23_ #[.int .i64 4, .int .i64 4, .int .i64 3] 3 [4, 4, 3] rfl rfl (by omega)).ri
  rw [hW24]
  clear hW24
  have B24 : Below w.heap.size w w24_ := B23.trans (hb24.mono S23)
  have S24 : w.heap.size ≤ w24_.heap.size := B24.size
  replace h_a := Ri.next h_a hb24 (Nat.le_refl _) hb24.size
  replace h_b := Ri.next h_b hb24 (Nat.le_refl _) hb24.size
  replace h_c := Ri.next h_c hb24 (Nat.le_refl _) hb24.size
  replace h_f := Ri.next h_f hb24 (Nat.le_refl _) hb24.size
  clear B23 S23
  clear hb24
  refine (aOf _ _).mono ?_
  rintro e w' ⟨rfl, rfl⟩
  go_wp2_with fail
  refine (lRoundT (5) _ _ _ ([4, 4, 3]) _ h_x6 (by omega) ([4, 0, 3]) (1) (0) (Lib.hid (by decide +kernel))).mono ?_
  rintro e w25_ ⟨A25, n25, c25, rfl, ho25, hb25⟩
  have B25 : Below w.heap.size w w25_ := B24.trans (hb25.mono S24)
  have S25 : w.heap.size ≤ w25_.heap.size := B25.size
  replace h_a := Ri.next h_a hb25 (Nat.le_refl _) hb25.size
  replace h_b := Ri.next h_b hb25 (Nat.le_refl _) hb25.size
  replace h_c := Ri.next h_c hb25 (Nat.le_refl _) hb25.size
  replace h_f := Ri.next h_f hb25 (Nat.le_refl _) hb25.size
  replace h_x6 := Ri.next h_x6 hb25 (Nat.le_refl _) hb25.size
  clear B24 S24
  have h_g := ho25.ri
  have m_g := ho25.most
  clear ho25
  clear hb25
  clear h_x6
  go_wp2_with fail
  obtain ⟨w26_, hW26⟩ : ∃ W : World, w25_.alloc (.cells #[.int .i64 0, .int .i64 0, .int .i64 0, .int .i64 0] 3) = W := ⟨_, rfl⟩
  have hb26 : Below w25_.heap.size w25_ w26_ := by rw [← hW26]; exact (Below.refl _ _).alloc (Nat.le_refl _) _
  have h_x7 : Ri w26_ w26_.heap.size (some ⟨w25_.heap.size, 0, none⟩) 4 ([0, 0, 0, 0] : List Int) := by rw [← hW26]; exact (Oi.lit w25_ #[.int .i64 0, .int .i64 0, .int .i64 0, .int .i64 0] 4 [0, 0, 0, 0] rfl rfl (by omega)).ri
  rw [hW26]
  clear hW26
  have B26 : Below w.heap.size w w26_ := B25.trans (hb26.mono S25)
  have S26 : w.heap.size ≤ w26_.heap.size := B26.size
  replace h_a := Ri.next h_a hb26 (Nat.le_refl _) hb26.size
  replace h_b := Ri.next h_b hb26 (Nat.le_refl _) hb26.size
  replace h_c := Ri.next h_c hb26 (Nat.le_refl _) hb26.size
  replace h_f := Ri.next h_f hb26 (Nat.le_refl _) hb26.size
  replace h_g := Ri.next h_g hb26 (Nat.le_refl _) hb26.size
  clear B25 S25
  clear hb26
  refine (aOf _ _).mono ?_
  rintro e w' ⟨rfl, rfl⟩
  go_wp2_with fail
  refine (lRoundT (3) _ _ _ ([0, 0, 0, 0]) _ h_x7 (by omega) ([]) (0) (10) (Lib.hid (by decide +kernel))).mono ?_
  rintro e w27_ ⟨A27, n27, c27, rfl, ho27, hb27⟩
  have B27 : Below w.heap.size w w27_ := B26.trans (hb27.mono S26)
  have S27 : w.heap.size ≤ w27_.heap.size := B27.size
  replace h_a := Ri.next h_a hb27 (Nat.le_refl _) hb27.size
  replace h_b := Ri.next h_b hb27 (Nat.le_refl _) hb27.size
  replace h_c := Ri.next h_c hb27 (Nat.le_refl _) hb27.size
  replace h_f := Ri.next h_f hb27 (Nat.le_refl _) hb27.size
  replace h_g := Ri.next h_g hb27 (Nat.le_refl _) hb27.size
  replace h_x7 := Ri.next h_x7 hb27 (Nat.le_refl _) hb27.size
  clear B26 S26
  have h_z := ho27.ri
  have m_z := ho27.most
  clear ho27
  clear hb27
  clear h_x7
  clear h_z
  go_wp2_with fail
  obtain ⟨w28_, hW28⟩ : ∃ W : World, w27_.alloc (.cells #[.int .i64 2, .int .i64 0, .int .i64 3, .int .i64 1] 3) = W := ⟨_, rfl⟩
  have hb28 : Below w27_.heap.size w27_ w28_ := by rw [← hW28]; exact (Below.refl _ _).alloc (Nat.le_refl _) _
  have h_y1 : Ri w28_ w28_.heap.size (some ⟨w27_.heap.size, 0, none⟩) 4 ([2, 0, 3, 1] : List Int) := by rw [← hW28]; exact (Oi.lit w27_ #[.int .i64 2, .int .i64 0, .int .i64 3, .int .i64 1] 4 [2, 0, 3, 1] rfl rfl (by omega)).ri
  rw [hW28]
  clear hW28
  have B28 : Below w.heap.size w w28_ := B27.trans (hb28.mono S27)
  have S28 : w.heap.size ≤ w28_.heap.size := B28.size
  replace h_a := Ri.next h_a hb28 (Nat.le_refl _) hb28.size
  replace h_b := Ri.next h_b hb28 (Nat.le_refl _) hb28.size
  replace h_c := Ri.next h_c hb28 (Nat.le_refl _) hb28.size
  replace h_f := Ri.next h_f hb28 (Nat.le_refl _) hb28.size
  replace h_g := Ri.next h_g hb28 (Nat.le_refl _) hb28.size
  clear B27 S27
  clear hb28
  refine (aOf _ _).mono ?_
  rintro e w' ⟨rfl, rfl⟩
  go_wp2_with fail
  refine (aIntsT _ _ _ _ _ _ _ _ ([2, 0, 3, 1]) ([2, 0, 3, 1]) _ h_a h_y1 (by omega) (by omega) true (Lib.hid (by decide +kernel))).mono ?_
  rintro e w29_ ⟨rfl, hb29⟩
  have B29 : Below w.heap.size w w29_ := B28.trans (hb29.mono S28)
  have S29 : w.heap.size ≤ w29_.heap.size := B29.size
  replace h_a := Ri.next h_a hb29 (Nat.le_refl _) hb29.size
  replace h_b := Ri.next h_b hb29 (Nat.le_refl _) hb29.size
  replace h_c := Ri.next h_c hb29 (Nat.le_refl _) hb29.size
  replace h_f := Ri.next h_f hb29 (Nat.le_refl _) hb29.size
  replace h_g := Ri.next h_g hb29 (Nat.le_refl _) hb29.size
  replace h_y1 := Ri.next h_y1 hb29 (Nat.le_refl _) hb29.size
  clear B28 S28
  clear hb29
  clear h_a
  clear h_y1
  go_wp2_with fail
  obtain ⟨w30_, hW30⟩ : ∃ W : World, w29_.alloc (.cells #[.int .i64 3, .int .i64 4, .int .i64 (-1), .int .i64 (-1)] 3) = W := ⟨_, rfl⟩
  have hb30 : Below w29_.heap.size w29_ w30_ := by rw [← hW30]; exact (Below.refl _ _).alloc (Nat.le_refl _) _
  have h_y2 : Ri w30_ w30_.heap.size (some ⟨w29_.heap.size, 0, none⟩) 4 ([3, 4, -1, -1] : List Int) := by rw [← hW30]; exact (Oi.lit w29_ #[.int .i64 3, .int .i64 4, .int .i64 (-1), .int .i64 (-1)] 4 [3, 4, -1, -1] rfl rfl (by omega)).ri
  rw [hW30]
  clear hW30
  have B30 : Below w.heap.size w w30_ := B29.trans (hb30.mono S29)
  have S30 : w.heap.size ≤ w30_.heap.size := B30.size
  replace h_b := Ri.next h_b hb30 (Nat.le_refl _) hb30.size
  replace h_c := Ri.next h_c hb30 (Nat.le_refl _) hb30.size
  replace h_f := Ri.next h_f hb30 (Nat.le_refl _) hb30.size
  replace h_g := Ri.next h_g hb30 (Nat.le_refl _) hb30.size
  clear B29 S29
  clear hb30
  refine (aOf _ _).mono ?_
  rintro e w' ⟨rfl, rfl⟩
  go_wp2_with fail
  refine (aIntsT _ _ _ _ _ _ _ _ ([3, 4, -1, -1]) ([3, 4, -1, -1]) _ h_b h_y2 (by omega) (by omega) true (Lib.hid (by decide +kernel))).mono ?_
  rintro e w31_ ⟨rfl, hb31⟩
  have B31 : Below w.heap.size w w31_ := B30.trans (hb31.mono S30)
  have S31 : w.heap.size ≤ w31_.heap.size := B31.size
  replace h_b := Ri.next h_b hb31 (Nat.le_refl _) hb31.size
  replace h_c := Ri.next h_c hb31 (Nat.le_refl _) hb31.size
  replace h_f := Ri.next h_f hb31 (Nat.le_refl _) hb31.size
  replace h_g := Ri.next h_g hb31 (Nat.le_refl _) hb31.size
  replace h_y2 := Ri.next h_y2 hb31 (Nat.le_refl _) hb31.size
  clear B30 S30
  clear hb31
  clear h_b
  clear h_y2
  go_wp2_with fail
  obtain ⟨w32_, hW32⟩ : ∃ W : World, w31_.alloc (.cells #[.int .i64 3, .int .i64 4] 3) = W := ⟨_, rfl⟩
  have hb32 : Below w31_.heap.size w31_ w32_ := by rw [← hW32]; exact (Below.refl _ _).alloc (Nat.le_refl _) _
  have h_y3 : Ri w32_ w32_.heap.size (some ⟨w31_.heap.size, 0, none⟩) 2 ([3, 4] : List Int) := by rw [← hW32]; exact (Oi.lit w31_ #[.int .i64 3, .int .i64 4] 2 [3, 4] rfl rfl (by omega)).ri
  rw [hW32]
  clear hW32
  have B32 : Below w.heap.size w w32_ := B31.trans (hb32.mono S31)
  have S32 : w.heap.size ≤ w32_.heap.size := B32.size
  replace h_c := Ri.next h_c hb32 (Nat.le_refl _) hb32.size
  replace h_f := Ri.next h_f hb32 (Nat.le_refl _) hb32.size
  replace h_g := Ri.next h_g hb32 (Nat.le_refl _) hb32.size
  clear B31 S31
  clear hb32
  refine (aOf _ _).mono ?_
  rintro e w' ⟨rfl, rfl⟩
  go_wp2_with fail
  refine (aIntsT _ _ _ _ _ _ _ _ ([3, 4]) ([3, 4]) _ h_c h_y3 (by omega) (by omega) true (Lib.hid (by decide +kernel))).mono ?_
  rintro e w33_ ⟨rfl, hb33⟩
  have B33 : Below w.heap.size w w33_ := B32.trans (hb33.mono S32)
  have S33 : w.heap.size ≤ w33_.heap.size := B33.size
  replace h_c := Ri.next h_c hb33 (Nat.le_refl _) hb33.size
  replace h_f := Ri.next h_f hb33 (Nat.le_refl _) hb33.size
  replace h_g := Ri.next h_g hb33 (Nat.le_refl _) hb33.size
  replace h_y3 := Ri.next h_y3 hb33 (Nat.le_refl _) hb33.size
  clear B32 S32
  clear hb33
  clear h_c
  clear h_y3
  go_wp2_with fail
  obtain ⟨w34_, hW34⟩ : ∃ W : World, w33_.alloc (.cells #[.int .i64 0, .int .i64 1, .int .i64 2, .int .i64 3] 3) = W := ⟨_, rfl⟩
  have hb34 : Below w33_.heap.size w33_ w34_ := by rw [← hW34]; exact (Below.refl _ _).alloc (Nat.le_refl _) _
  have h_y4 : Ri w34_ w34_.heap.size (some ⟨w33_.heap.size, 0, none⟩) 4 ([0, 1, 2, 3] : List Int) := by rw [← hW34]; exact (Oi.lit w33_ #[.int .i64 0, .int .i64 1, .int .i64 2, .int .i64 3] 4 [0, 1, 2, 3] rfl rfl (by omega)).ri
  rw [hW34]
  clear hW34
  have B34 : Below w.heap.size w w34_ := B33.trans (hb34.mono S33)
  have S34 : w.heap.size ≤ w34_.heap.size := B34.size
  replace h_f := Ri.next h_f hb34 (Nat.le_refl _) hb34.size
  replace h_g := Ri.next h_g hb34 (Nat.le_refl _) hb34.size
  clear B33 S33
  clear hb34
  refine (aOf _ _).mono ?_
  rintro e w' ⟨rfl, rfl⟩
  go_wp2_with fail
  refine (aIntsT _ _ _ _ _ _ _ _ ([0, 1, 2, 3]) ([0, 1, 2, 3]) _ h_f h_y4 (by omega) (by omega) true (Lib.hid (by decide +kernel))).mono ?_
  rintro e w35_ ⟨rfl, hb35⟩
  have B35 : Below w.heap.size w w35_ := B34.trans (hb35.mono S34)
  have S35 : w.heap.size ≤ w35_.heap.size := B35.size
  replace h_f := Ri.next h_f hb35 (Nat.le_refl _) hb35.size
  replace h_g := Ri.next h_g hb35 (Nat.le_refl _) hb35.size
  replace h_y4 := Ri.next h_y4 hb35 (Nat.le_refl _) hb35.size
  clear B34 S34
  clear hb35
  clear h_f
  clear h_y4
  go_wp2_with fail
  obtain ⟨w36_, hW36⟩ : ∃ W : World, w35_.alloc (.cells #[.int .i64 4, .int .i64 0, .int .i64 3] 3) = W := ⟨_, rfl⟩
  have hb36 : Below w35_.heap.size w35_ w36_ := by rw [← hW36]; exact (Below.refl _ _).alloc (Nat.le_refl _) _
  have h_y5 : Ri w36_ w36_.heap.size (some ⟨w35_.heap.size, 0, none⟩) 3 ([4, 0, 3] : List Int) := by rw [← hW36]; exact (Oi.lit w35_ #[.int .i64 4, .int .i64 0, .int .i64 3] 3 [4, 0, 3] rfl rfl (by omega)).ri
  rw [hW36]
  clear hW36
  have B36 : Below w.heap.size w w36_ := B35.trans (hb36.mono S35)
  have S36 : w.heap.size ≤ w36_.heap.size := B36.size
  replace h_g := Ri.next h_g hb36 (Nat.le_refl _) hb36.size
  clear B35 S35
  clear hb36
  refine (aOf _ _).mono ?_
  rintro e w' ⟨rfl, rfl⟩
  go_wp2_with fail
  refine (aIntsT _ _ _ _ _ _ _ _ ([4, 0, 3]) ([4, 0, 3]) _ h_g h_y5 (by omega) (by omega) true (Lib.hid (by decide +kernel))).mono ?_
  rintro e w37_ ⟨rfl, hb37⟩
  have B37 : Below w.heap.size w w37_ := B36.trans (hb37.mono S36)
  have S37 : w.heap.size ≤ w37_.heap.size := B37.size
  replace h_g := Ri.next h_g hb37 (Nat.le_refl _) hb37.size
  replace h_y5 := Ri.next h_y5 hb37 (Nat.le_refl _) hb37.size
  clear B36 S36
  clear hb37
  clear h_g
  clear h_y5
  go_wp2
  go_ret
  exact ⟨rfl, B37⟩
end Go.Proofs.Ytkeiajncmhkdmaa
