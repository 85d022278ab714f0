/-
  FloatKnown: the examples of the chapter are as they are told; a closed statement, no condition.
-/
import Derived.Test.YtloibnmhgocboaaWorks
import Derived.Test.YtloibnmhgocboaaRow
namespace Go.Proofs.Ytloibnmhgocboaa
open Go.Shelf Go.ChangeShapes Go.WideShapes Go.ChangeAt Go.RowKit

set_option maxRecDepth 100000 in
set_option maxHeartbeats 8000000 in
theorem wKnown (w : World) : Calls Try.prog 17 #[] w (RetB w true) := by
  go_enter Try.func17, Try.ntmps17
  go_wp2_with fail
  refine (aK _).mono ?_
  rintro e w1_ ⟨rfl, hr1, hb1⟩
  have B1 : Below w.heap.size w w1_ := (Below.refl _ _).trans (hb1.mono (Nat.le_refl _))
  have S1 : w.heap.size ≤ w1_.heap.size := B1.size
  clear hb1
  have h_q1 := hr1
  clear hr1
  go_wp2_with fail
  obtain ⟨w2_, hW2⟩ : ∃ W : World, w1_.alloc (.cells #[.int .i64 0, .int .i64 0, .int .i64 1001] 2) = W := ⟨_, rfl⟩
  have hb2 : Below w1_.heap.size w1_ w2_ := by rw [← hW2]; exact (Below.refl _ _).alloc (Nat.le_refl _) _
  have h_q2 : Ri w2_ w2_.heap.size (some ⟨w1_.heap.size, 0, none⟩) 3 ([0, 0, 1001] : List Int) := by rw [← hW2]; exact (Oi.lit w1_ #[.int .i64 0, .int .i64 0, .int .i64 1001] 3 [0, 0, 1001] rfl rfl (by omega)).ri
  rw [hW2]
  clear hW2
  have B2 : Below w.heap.size w w2_ := B1.trans (hb2.mono S1)
  have S2 : w.heap.size ≤ w2_.heap.size := B2.size
  replace h_q1 := Ri.next h_q1 hb2 (Nat.le_refl _) hb2.size
  clear B1 S1
  clear hb2
  refine (aLongsOf _ _).mono ?_
  rintro e w' ⟨rfl, rfl⟩
  go_wp2_with fail
  refine (fCheckChangeT _ _ _ ([1, 4, 6]) _ _ _ ([0, 0, 1001]) _ h_q1 h_q2 (by omega) (by omega) (Nat.le_refl _) (0) (0) (3) (Lib.hid (by decide +kernel))).mono ?_
  rintro e w3_ ⟨rfl, hb3⟩
  have B3 : Below w.heap.size w w3_ := B2.trans (hb3.mono S2)
  have S3 : w.heap.size ≤ w3_.heap.size := B3.size
  replace h_q1 := Ri.next h_q1 hb3 (Nat.le_refl _) hb3.size
  replace h_q2 := Ri.next h_q2 hb3 (Nat.le_refl _) hb3.size
  clear B2 S2
  clear hb3
  clear h_q1
  clear h_q2
  go_wp2_with fail
  refine (aK _).mono ?_
  rintro e w4_ ⟨rfl, hr4, hb4⟩
  have B4 : Below w.heap.size w w4_ := B3.trans (hb4.mono S3)
  have S4 : w.heap.size ≤ w4_.heap.size := B4.size
  clear B3 S3
  clear hb4
  have h_q3 := hr4
  clear hr4
  go_wp2_with fail
  refine (fFewestT _ _ _ ([1, 4, 6]) (8) _ h_q3 (by omega) (Nat.le_refl _) (2) (0) (Lib.hid (by decide +kernel))).mono ?_
  rintro e w5_ ⟨rfl, hb5⟩
  have B5 : Below w.heap.size w w5_ := B4.trans (hb5.mono S4)
  have S5 : w.heap.size ≤ w5_.heap.size := B5.size
  replace h_q3 := Ri.next h_q3 hb5 (Nat.le_refl _) hb5.size
  clear B4 S4
  clear hb5
  clear h_q3
  go_wp2_with fail
  refine (aK _).mono ?_
  rintro e w6_ ⟨rfl, hr6, hb6⟩
  have B6 : Below w.heap.size w w6_ := B5.trans (hb6.mono S5)
  have S6 : w.heap.size ≤ w6_.heap.size := B6.size
  clear B5 S5
  clear hb6
  have h_q4 := hr6
  clear hr6
  have hnil : Ri w6_ w6_.heap.size none 0 [] := Ri.nil_ _
  go_wp2_with fail
  refine (fCheckHeightsT _ _ _ ([1, 4, 6]) none 0 0 [] _ h_q4 hnil (by omega) (by omega) (Nat.le_refl _) (Nat.le_refl _) 6 (Lib.hid (by decide +kernel))).mono ?_
  rintro e w7_ ⟨rfl, hb7⟩
  have B7 : Below w.heap.size w w7_ := B6.trans (hb7.mono S6)
  have S7 : w.heap.size ≤ w7_.heap.size := B7.size
  replace h_q4 := Ri.next h_q4 hb7 (Nat.le_refl _) hb7.size
  clear B6 S6
  clear hb7
  clear h_q4
  clear hnil
  go_wp2_with fail
  refine (aK _).mono ?_
  rintro e w8_ ⟨rfl, hr8, hb8⟩
  have B8 : Below w.heap.size w w8_ := B7.trans (hb8.mono S7)
  have S8 : w.heap.size ≤ w8_.heap.size := B8.size
  clear B7 S7
  clear hb8
  have h_q5 := hr8
  clear hr8
  go_wp2_with fail
  refine (fGreedyT _ _ _ ([1, 4, 6]) (8) _ h_q5 (by omega) (Nat.le_refl _) ([2, 0, 1]) (0) (0) (Lib.hid (by decide +kernel))).mono ?_
  rintro e w9_ ⟨A9, n9, c9, rfl, ho9, hb9⟩
  have B9 : Below w.heap.size w w9_ := B8.trans (hb9.mono S8)
  have S9 : w.heap.size ≤ w9_.heap.size := B9.size
  replace h_q5 := Ri.next h_q5 hb9 (Nat.le_refl _) hb9.size
  clear B8 S8
  have h_g := ho9.ri
  have m_g := ho9.most
  clear ho9
  clear hb9
  clear h_q5
  go_wp2_with fail
  refine (aT _).mono ?_
  rintro e w10_ ⟨rfl, hr10, hb10⟩
  have B10 : Below w.heap.size w w10_ := B9.trans (hb10.mono S9)
  have S10 : w.heap.size ≤ w10_.heap.size := B10.size
  replace h_g := Ri.next h_g hb10 (Nat.le_refl _) hb10.size
  clear B9 S9
  clear hb10
  have h_q6 := hr10
  clear hr10
  go_wp2_with fail
  refine (fCheckBadT _ _ _ ([5, 8]) _ h_q6 (by omega) (Nat.le_refl _) (27) (5) (Lib.hid (by decide +kernel))).mono ?_
  rintro e w11_ ⟨rfl, hb11⟩
  have B11 : Below w.heap.size w w11_ := B10.trans (hb11.mono S10)
  have S11 : w.heap.size ≤ w11_.heap.size := B11.size
  replace h_g := Ri.next h_g hb11 (Nat.le_refl _) hb11.size
  replace h_q6 := Ri.next h_q6 hb11 (Nat.le_refl _) hb11.size
  clear B10 S10
  clear hb11
  clear h_q6
  go_wp2_with fail
  refine (aE _).mono ?_
  rintro e w12_ ⟨rfl, hr12, hb12⟩
  have B12 : Below w.heap.size w w12_ := B11.trans (hb12.mono S11)
  have S12 : w.heap.size ≤ w12_.heap.size := B12.size
  replace h_g := Ri.next h_g hb12 (Nat.le_refl _) hb12.size
  clear B11 S11
  clear hb12
  have h_q7 := hr12
  clear hr12
  go_wp2_with fail
  refine (fRestsT _ _ _ ([4, 6]) _ h_q7 (by omega) (Nat.le_refl _) ([0, -1, 6, -1]) (0) (Lib.hid restsS_e)).mono ?_
  rintro e w13_ ⟨A13, n13, c13, rfl, ho13, hb13⟩
  have B13 : Below w.heap.size w w13_ := B12.trans (hb13.mono S12)
  have S13 : w.heap.size ≤ w13_.heap.size := B13.size
  replace h_g := Ri.next h_g hb13 (Nat.le_refl _) hb13.size
  replace h_q7 := Ri.next h_q7 hb13 (Nat.le_refl _) hb13.size
  clear B12 S12
  have h_l := ho13.ri
  have m_l := ho13.most
  clear ho13
  clear hb13
  clear h_q7
  go_wp2_with fail
  refine (aK _).mono ?_
  rintro e w14_ ⟨rfl, hr14, hb14⟩
  have B14 : Below w.heap.size w w14_ := B13.trans (hb14.mono S13)
  have S14 : w.heap.size ≤ w14_.heap.size := B14.size
  replace h_g := Ri.next h_g hb14 (Nat.le_refl _) hb14.size
  replace h_l := Ri.next h_l hb14 (Nat.le_refl _) hb14.size
  clear B13 S13
  clear hb14
  have h_q8 := hr14
  clear hr14
  go_wp2_with fail
  refine (fGreatestT _ _ _ ([1, 4, 6]) _ h_q8 (by omega) (Nat.le_refl _) (0) (5) (Lib.hid great_k)).mono ?_
  rintro e w15_ ⟨rfl, hb15⟩
  have B15 : Below w.heap.size w w15_ := B14.trans (hb15.mono S14)
  have S15 : w.heap.size ≤ w15_.heap.size := B15.size
  replace h_g := Ri.next h_g hb15 (Nat.le_refl _) hb15.size
  replace h_l := Ri.next h_l hb15 (Nat.le_refl _) hb15.size
  replace h_q8 := Ri.next h_q8 hb15 (Nat.le_refl _) hb15.size
  clear B14 S14
  clear hb15
  clear h_q8
  go_wp2_with fail
  refine (aE _).mono ?_
  rintro e w16_ ⟨rfl, hr16, hb16⟩
  have B16 : Below w.heap.size w w16_ := B15.trans (hb16.mono S15)
  have S16 : w.heap.size ≤ w16_.heap.size := B16.size
  replace h_g := Ri.next h_g hb16 (Nat.le_refl _) hb16.size
  replace h_l := Ri.next h_l hb16 (Nat.le_refl _) hb16.size
  clear B15 S15
  clear hb16
  have h_q9 := hr16
  clear hr16
  go_wp2_with fail
  refine (fManyT _ _ _ ([4, 6]) _ h_q9 (by omega) (Nat.le_refl _) (0) (4) (Lib.hid many_e)).mono ?_
  rintro e w17_ ⟨rfl, hb17⟩
  have B17 : Below w.heap.size w w17_ := B16.trans (hb17.mono S16)
  have S17 : w.heap.size ≤ w17_.heap.size := B17.size
  replace h_g := Ri.next h_g hb17 (Nat.le_refl _) hb17.size
  replace h_l := Ri.next h_l hb17 (Nat.le_refl _) hb17.size
  replace h_q9 := Ri.next h_q9 hb17 (Nat.le_refl _) hb17.size
  clear B16 S16
  clear hb17
  clear h_q9
  go_wp2_with fail
  refine (aK _).mono ?_
  rintro e w18_ ⟨rfl, hr18, hb18⟩
  have B18 : Below w.heap.size w w18_ := B17.trans (hb18.mono S17)
  have S18 : w.heap.size ≤ w18_.heap.size := B18.size
  replace h_g := Ri.next h_g hb18 (Nat.le_refl _) hb18.size
  replace h_l := Ri.next h_l hb18 (Nat.le_refl _) hb18.size
  clear B17 S17
  clear hb18
  have h_q10 := hr18
  clear hr18
  go_wp2_with fail
  refine (fManyT _ _ _ ([1, 4, 6]) _ h_q10 (by omega) (Nat.le_refl _) (0) (0) (Lib.hid many_k)).mono ?_
  rintro e w19_ ⟨rfl, hb19⟩
  have B19 : Below w.heap.size w w19_ := B18.trans (hb19.mono S18)
  have S19 : w.heap.size ≤ w19_.heap.size := B19.size
  replace h_g := Ri.next h_g hb19 (Nat.le_refl _) hb19.size
  replace h_l := Ri.next h_l hb19 (Nat.le_refl _) hb19.size
  replace h_q10 := Ri.next h_q10 hb19 (Nat.le_refl _) hb19.size
  clear B18 S18
  clear hb19
  clear h_q10
  go_wp2_with fail
  refine (aT _).mono ?_
  rintro e w20_ ⟨rfl, hr20, hb20⟩
  have B20 : Below w.heap.size w w20_ := B19.trans (hb20.mono S19)
  have S20 : w.heap.size ≤ w20_.heap.size := B20.size
  replace h_g := Ri.next h_g hb20 (Nat.le_refl _) hb20.size
  replace h_l := Ri.next h_l hb20 (Nat.le_refl _) hb20.size
  clear B19 S19
  clear hb20
  have h_q11 := hr20
  clear hr20
  go_wp2_with fail
  refine (fWaysT _ _ _ ([5, 8]) (40) _ h_q11 (by omega) (Nat.le_refl _) (2) (0) (Lib.hid (by decide +kernel))).mono ?_
  rintro e w21_ ⟨rfl, hb21⟩
  have B21 : Below w.heap.size w w21_ := B20.trans (hb21.mono S20)
  have S21 : w.heap.size ≤ w21_.heap.size := B21.size
  replace h_g := Ri.next h_g hb21 (Nat.le_refl _) hb21.size
  replace h_l := Ri.next h_l hb21 (Nat.le_refl _) hb21.size
  replace h_q11 := Ri.next h_q11 hb21 (Nat.le_refl _) hb21.size
  clear B20 S20
  clear hb21
  clear h_q11
  go_wp2_with fail
  refine (aT _).mono ?_
  rintro e w22_ ⟨rfl, hr22, hb22⟩
  have B22 : Below w.heap.size w w22_ := B21.trans (hb22.mono S21)
  have S22 : w.heap.size ≤ w22_.heap.size := B22.size
  replace h_g := Ri.next h_g hb22 (Nat.le_refl _) hb22.size
  replace h_l := Ri.next h_l hb22 (Nat.le_refl _) hb22.size
  clear B21 S21
  clear hb22
  have h_q12 := hr22
  clear hr22
  go_wp2_with fail
  refine (fWaysT _ _ _ ([5, 8]) (27) _ h_q12 (by omega) (Nat.le_refl _) (0) (0) (Lib.hid (by decide +kernel))).mono ?_
  rintro e w23_ ⟨rfl, hb23⟩
  have B23 : Below w.heap.size w w23_ := B22.trans (hb23.mono S22)
  have S23 : w.heap.size ≤ w23_.heap.size := B23.size
  replace h_g := Ri.next h_g hb23 (Nat.le_refl _) hb23.size
  replace h_l := Ri.next h_l hb23 (Nat.le_refl _) hb23.size
  replace h_q12 := Ri.next h_q12 hb23 (Nat.le_refl _) hb23.size
  clear B22 S22
  clear hb23
  clear h_q12
  go_wp2_with fail
  refine (aK _).mono ?_
  rintro e w24_ ⟨rfl, hr24, hb24⟩
  have B24 : Below w.heap.size w w24_ := B23.trans (hb24.mono S23)
  have S24 : w.heap.size ≤ w24_.heap.size := B24.size
  replace h_g := Ri.next h_g hb24 (Nat.le_refl _) hb24.size
  replace h_l := Ri.next h_l hb24 (Nat.le_refl _) hb24.size
  clear B23 S23
  clear hb24
  have h_q13 := hr24
  clear hr24
  go_wp2_with fail
  obtain ⟨w25_, hW25⟩ : ∃ W : World, w24_.alloc (.cells #[.int .i64 1, .int .i64 2, .int .i64 1] 2) = W := ⟨_, rfl⟩
  have hb25 : Below w24_.heap.size w24_ w25_ := by rw [← hW25]; exact (Below.refl _ _).alloc (Nat.le_refl _) _
  have h_q14 : Ri w25_ w25_.heap.size (some ⟨w24_.heap.size, 0, none⟩) 3 ([1, 2, 1] : List Int) := by rw [← hW25]; exact (Oi.lit w24_ #[.int .i64 1, .int .i64 2, .int .i64 1] 3 [1, 2, 1] rfl rfl (by omega)).ri
  rw [hW25]
  clear hW25
  have B25 : Below w.heap.size w w25_ := B24.trans (hb25.mono S24)
  have S25 : w.heap.size ≤ w25_.heap.size := B25.size
  replace h_g := Ri.next h_g hb25 (Nat.le_refl _) hb25.size
  replace h_l := Ri.next h_l hb25 (Nat.le_refl _) hb25.size
  replace h_q13 := Ri.next h_q13 hb25 (Nat.le_refl _) hb25.size
  clear B24 S24
  clear hb25
  refine (aLongsOf _ _).mono ?_
  rintro e w' ⟨rfl, rfl⟩
  go_wp2_with fail
  refine (fPayT _ _ _ ([1, 4, 6]) _ _ _ ([1, 2, 1]) (8) _ h_q13 h_q14 (by omega) (by omega) (Nat.le_refl _) ([0, 2, 0]) (0) (Lib.hid (by decide +kernel))).mono ?_
  rintro e w26_ ⟨A26, n26, c26, rfl, ho26, hb26⟩
  have B26 : Below w.heap.size w w26_ := B25.trans (hb26.mono S25)
  have S26 : w.heap.size ≤ w26_.heap.size := B26.size
  replace h_g := Ri.next h_g hb26 (Nat.le_refl _) hb26.size
  replace h_l := Ri.next h_l hb26 (Nat.le_refl _) hb26.size
  replace h_q13 := Ri.next h_q13 hb26 (Nat.le_refl _) hb26.size
  replace h_q14 := Ri.next h_q14 hb26 (Nat.le_refl _) hb26.size
  clear B25 S25
  have h_p := ho26.ri
  have m_p := ho26.most
  clear ho26
  clear hb26
  clear h_q13
  clear h_q14
  go_wp2_with fail
  refine (aK _).mono ?_
  rintro e w27_ ⟨rfl, hr27, hb27⟩
  have B27 : Below w.heap.size w w27_ := B26.trans (hb27.mono S26)
  have S27 : w.heap.size ≤ w27_.heap.size := B27.size
  replace h_g := Ri.next h_g hb27 (Nat.le_refl _) hb27.size
  replace h_l := Ri.next h_l hb27 (Nat.le_refl _) hb27.size
  replace h_p := Ri.next h_p hb27 (Nat.le_refl _) hb27.size
  clear B26 S26
  clear hb27
  have h_q15 := hr27
  clear hr27
  go_wp2_with fail
  obtain ⟨w28_, hW28⟩ : ∃ W : World, w27_.alloc (.cells #[.int .i64 1, .int .i64 2] 2) = W := ⟨_, rfl⟩
  have hb28 : Below w27_.heap.size w27_ w28_ := by rw [← hW28]; exact (Below.refl _ _).alloc (Nat.le_refl _) _
  have h_q16 : Ri w28_ w28_.heap.size (some ⟨w27_.heap.size, 0, none⟩) 2 ([1, 2] : List Int) := by rw [← hW28]; exact (Oi.lit w27_ #[.int .i64 1, .int .i64 2] 2 [1, 2] rfl rfl (by omega)).ri
  rw [hW28]
  clear hW28
  have B28 : Below w.heap.size w w28_ := B27.trans (hb28.mono S27)
  have S28 : w.heap.size ≤ w28_.heap.size := B28.size
  replace h_g := Ri.next h_g hb28 (Nat.le_refl _) hb28.size
  replace h_l := Ri.next h_l hb28 (Nat.le_refl _) hb28.size
  replace h_p := Ri.next h_p hb28 (Nat.le_refl _) hb28.size
  replace h_q15 := Ri.next h_q15 hb28 (Nat.le_refl _) hb28.size
  clear B27 S27
  clear hb28
  refine (aLongsOf _ _).mono ?_
  rintro e w' ⟨rfl, rfl⟩
  go_wp2_with fail
  refine (fPayT _ _ _ ([1, 4, 6]) _ _ _ ([1, 2]) (8) _ h_q15 h_q16 (by omega) (by omega) (Nat.le_refl _) ([]) (15) (Lib.hid (by decide +kernel))).mono ?_
  rintro e w29_ ⟨A29, n29, c29, rfl, ho29, hb29⟩
  have B29 : Below w.heap.size w w29_ := B28.trans (hb29.mono S28)
  have S29 : w.heap.size ≤ w29_.heap.size := B29.size
  replace h_g := Ri.next h_g hb29 (Nat.le_refl _) hb29.size
  replace h_l := Ri.next h_l hb29 (Nat.le_refl _) hb29.size
  replace h_p := Ri.next h_p hb29 (Nat.le_refl _) hb29.size
  replace h_q15 := Ri.next h_q15 hb29 (Nat.le_refl _) hb29.size
  replace h_q16 := Ri.next h_q16 hb29 (Nat.le_refl _) hb29.size
  clear B28 S28
  have h_z := ho29.ri
  have m_z := ho29.most
  clear ho29
  clear hb29
  clear h_q15
  clear h_q16
  clear h_z
  go_wp2_with fail
  refine (aK _).mono ?_
  rintro e w30_ ⟨rfl, hr30, hb30⟩
  have B30 : Below w.heap.size w w30_ := B29.trans (hb30.mono S29)
  have S30 : w.heap.size ≤ w30_.heap.size := B30.size
  replace h_g := Ri.next h_g hb30 (Nat.le_refl _) hb30.size
  replace h_l := Ri.next h_l hb30 (Nat.le_refl _) hb30.size
  replace h_p := Ri.next h_p hb30 (Nat.le_refl _) hb30.size
  clear B29 S29
  clear hb30
  have h_q17 := hr30
  clear hr30
  go_wp2_with fail
  obtain ⟨w31_, hW31⟩ : ∃ W : World, w30_.alloc (.cells #[.int .i64 1, .int .i64 2, .int .i64 21] 2) = W := ⟨_, rfl⟩
  have hb31 : Below w30_.heap.size w30_ w31_ := by rw [← hW31]; exact (Below.refl _ _).alloc (Nat.le_refl _) _
  have h_q18 : Ri w31_ w31_.heap.size (some ⟨w30_.heap.size, 0, none⟩) 3 ([1, 2, 21] : List Int) := by rw [← hW31]; exact (Oi.lit w30_ #[.int .i64 1, .int .i64 2, .int .i64 21] 3 [1, 2, 21] rfl rfl (by omega)).ri
  rw [hW31]
  clear hW31
  have B31 : Below w.heap.size w w31_ := B30.trans (hb31.mono S30)
  have S31 : w.heap.size ≤ w31_.heap.size := B31.size
  replace h_g := Ri.next h_g hb31 (Nat.le_refl _) hb31.size
  replace h_l := Ri.next h_l hb31 (Nat.le_refl _) hb31.size
  replace h_p := Ri.next h_p hb31 (Nat.le_refl _) hb31.size
  replace h_q17 := Ri.next h_q17 hb31 (Nat.le_refl _) hb31.size
  clear B30 S30
  clear hb31
  refine (aLongsOf _ _).mono ?_
  rintro e w' ⟨rfl, rfl⟩
  go_wp2_with fail
  refine (fPayT _ _ _ ([1, 4, 6]) _ _ _ ([1, 2, 21]) (8) _ h_q17 h_q18 (by omega) (by omega) (Nat.le_refl _) ([]) (2) (Lib.hid (by decide +kernel))).mono ?_
  rintro e w32_ ⟨A32, n32, c32, rfl, ho32, hb32⟩
  have B32 : Below w.heap.size w w32_ := B31.trans (hb32.mono S31)
  have S32 : w.heap.size ≤ w32_.heap.size := B32.size
  replace h_g := Ri.next h_g hb32 (Nat.le_refl _) hb32.size
  replace h_l := Ri.next h_l hb32 (Nat.le_refl _) hb32.size
  replace h_p := Ri.next h_p hb32 (Nat.le_refl _) hb32.size
  replace h_q17 := Ri.next h_q17 hb32 (Nat.le_refl _) hb32.size
  replace h_q18 := Ri.next h_q18 hb32 (Nat.le_refl _) hb32.size
  clear B31 S31
  have h_z := ho32.ri
  have m_z := ho32.most
  clear ho32
  clear hb32
  clear h_q17
  clear h_q18
  clear h_z
  go_wp2_with fail
  obtain ⟨w33_, hW33⟩ : ∃ W : World, w32_.alloc (.cells #[.int .i64 2, .int .i64 0, .int .i64 1] 2) = W := ⟨_, rfl⟩
  have hb33 : Below w32_.heap.size w32_ w33_ := by rw [← hW33]; exact (Below.refl _ _).alloc (Nat.le_refl _) _
  have h_q19 : Ri w33_ w33_.heap.size (some ⟨w32_.heap.size, 0, none⟩) 3 ([2, 0, 1] : List Int) := by rw [← hW33]; exact (Oi.lit w32_ #[.int .i64 2, .int .i64 0, .int .i64 1] 3 [2, 0, 1] rfl rfl (by omega)).ri
  rw [hW33]
  clear hW33
  have B33 : Below w.heap.size w w33_ := B32.trans (hb33.mono S32)
  have S33 : w.heap.size ≤ w33_.heap.size := B33.size
  replace h_g := Ri.next h_g hb33 (Nat.le_refl _) hb33.size
  replace h_l := Ri.next h_l hb33 (Nat.le_refl _) hb33.size
  replace h_p := Ri.next h_p hb33 (Nat.le_refl _) hb33.size
  clear B32 S32
  clear hb33
  refine (aLongsOf _ _).mono ?_
  rintro e w' ⟨rfl, rfl⟩
  go_wp2_with fail
  refine (aLongsT _ _ _ _ _ _ _ _ ([2, 0, 1]) ([2, 0, 1]) _ h_g h_q19 (by omega) (by omega) true (Lib.hid (by decide +kernel))).mono ?_
  rintro e w34_ ⟨rfl, hb34⟩
  have B34 : Below w.heap.size w w34_ := B33.trans (hb34.mono S33)
  have S34 : w.heap.size ≤ w34_.heap.size := B34.size
  replace h_g := Ri.next h_g hb34 (Nat.le_refl _) hb34.size
  replace h_l := Ri.next h_l hb34 (Nat.le_refl _) hb34.size
  replace h_p := Ri.next h_p hb34 (Nat.le_refl _) hb34.size
  replace h_q19 := Ri.next h_q19 hb34 (Nat.le_refl _) hb34.size
  clear B33 S33
  clear hb34
  clear h_g
  clear h_q19
  go_wp2_with fail
  obtain ⟨w35_, hW35⟩ : ∃ W : World, w34_.alloc (.cells #[.int .i64 0, .int .i64 (-1), .int .i64 6, .int .i64 (-1)] 2) = W := ⟨_, rfl⟩
  have hb35 : Below w34_.heap.size w34_ w35_ := by rw [← hW35]; exact (Below.refl _ _).alloc (Nat.le_refl _) _
  have h_q20 : Ri w35_ w35_.heap.size (some ⟨w34_.heap.size, 0, none⟩) 4 ([0, -1, 6, -1] : List Int) := by rw [← hW35]; exact (Oi.lit w34_ #[.int .i64 0, .int .i64 (-1), .int .i64 6, .int .i64 (-1)] 4 [0, -1, 6, -1] rfl rfl (by omega)).ri
  rw [hW35]
  clear hW35
  have B35 : Below w.heap.size w w35_ := B34.trans (hb35.mono S34)
  have S35 : w.heap.size ≤ w35_.heap.size := B35.size
  replace h_l := Ri.next h_l hb35 (Nat.le_refl _) hb35.size
  replace h_p := Ri.next h_p hb35 (Nat.le_refl _) hb35.size
  clear B34 S34
  clear hb35
  refine (aLongsOf _ _).mono ?_
  rintro e w' ⟨rfl, rfl⟩
  go_wp2_with fail
  refine (aLongsT _ _ _ _ _ _ _ _ ([0, -1, 6, -1]) ([0, -1, 6, -1]) _ h_l h_q20 (by omega) (by omega) true (Lib.hid (by decide +kernel))).mono ?_
  rintro e w36_ ⟨rfl, hb36⟩
  have B36 : Below w.heap.size w w36_ := B35.trans (hb36.mono S35)
  have S36 : w.heap.size ≤ w36_.heap.size := B36.size
  replace h_l := Ri.next h_l hb36 (Nat.le_refl _) hb36.size
  replace h_p := Ri.next h_p hb36 (Nat.le_refl _) hb36.size
  replace h_q20 := Ri.next h_q20 hb36 (Nat.le_refl _) hb36.size
  clear B35 S35
  clear hb36
  clear h_l
  clear h_q20
  go_wp2_with fail
  obtain ⟨w37_, hW37⟩ : ∃ W : World, w36_.alloc (.cells #[.int .i64 0, .int .i64 2, .int .i64 0] 2) = W := ⟨_, rfl⟩
  have hb37 : Below w36_.heap.size w36_ w37_ := by rw [← hW37]; exact (Below.refl _ _).alloc (Nat.le_refl _) _
  have h_q21 : Ri w37_ w37_.heap.size (some ⟨w36_.heap.size, 0, none⟩) 3 ([0, 2, 0] : List Int) := by rw [← hW37]; exact (Oi.lit w36_ #[.int .i64 0, .int .i64 2, .int .i64 0] 3 [0, 2, 0] rfl rfl (by omega)).ri
  rw [hW37]
  clear hW37
  have B37 : Below w.heap.size w w37_ := B36.trans (hb37.mono S36)
  have S37 : w.heap.size ≤ w37_.heap.size := B37.size
  replace h_p := Ri.next h_p hb37 (Nat.le_refl _) hb37.size
  clear B36 S36
  clear hb37
  refine (aLongsOf _ _).mono ?_
  rintro e w' ⟨rfl, rfl⟩
  go_wp2_with fail
  refine (aLongsT _ _ _ _ _ _ _ _ ([0, 2, 0]) ([0, 2, 0]) _ h_p h_q21 (by omega) (by omega) true (Lib.hid (by decide +kernel))).mono ?_
  rintro e w38_ ⟨rfl, hb38⟩
  have B38 : Below w.heap.size w w38_ := B37.trans (hb38.mono S37)
  have S38 : w.heap.size ≤ w38_.heap.size := B38.size
  replace h_p := Ri.next h_p hb38 (Nat.le_refl _) hb38.size
  replace h_q21 := Ri.next h_q21 hb38 (Nat.le_refl _) hb38.size
  clear B37 S37
  clear hb38
  clear h_p
  clear h_q21
  go_wp2_with fail
  refine (aE _).mono ?_
  rintro e w39_ ⟨rfl, hr39, hb39⟩
  have B39 : Below w.heap.size w w39_ := B38.trans (hb39.mono S38)
  have S39 : w.heap.size ≤ w39_.heap.size := B39.size
  clear B38 S38
  clear hb39
  have h_q22 := hr39
  clear hr39
  go_wp2_with fail
  refine (fCheckCoins _ _ _ ([4, 6]) _ h_q22 (by omega) (Nat.le_refl _) 0 (Lib.hid (by decide +kernel))).mono ?_
  rintro e w40_ ⟨rfl, hb40⟩
  have B40 : Below w.heap.size w w40_ := B39.trans (hb40.mono S39)
  have S40 : w.heap.size ≤ w40_.heap.size := B40.size
  replace h_q22 := Ri.next h_q22 hb40 (Nat.le_refl _) hb40.size
  clear B39 S39
  clear hb40
  clear h_q22
  go_wp2_with fail
  refine (aWorks _).mono ?_
  rintro e w41_ ⟨rfl, hb41⟩
  have B41 : Below w.heap.size w w41_ := B40.trans (hb41.mono S40)
  have S41 : w.heap.size ≤ w41_.heap.size := B41.size
  clear B40 S40
  clear hb41
  go_wp2
  go_ret
  exact ⟨rfl, B41⟩

set_option maxRecDepth 100000 in
theorem FloatKnown_lifted (os : Os) (started : os.Started) (H : Type) (enc : TypeId × Value → H) :
    ReturnsInHanded {} Try.checked os 17 .any (Rows.floatKnownSpec.pre6 enc Try.prog Try.f17 Rows.floatKnownRow.domain false) (Rows.floatKnownSpec.post enc Try.prog Try.f17 false true false false) := by
  refine returnsInHanded_of_change (C := Try.checked) row_own started (by kernel_rfl) Try.func17
    (ChangeSpec.witness6 (enc := enc) (C := Try.checked) false ⟨#[], #[], []⟩ 8 (by kernel_rfl) (by kernel_rfl) (by kernel_rfl) (by kernel_rfl)) ?_
  intro W base args ds gs before hval0 hW _ _
  have hW' := hW
  obtain ⟨p, q, hA0, hV, rfl, _, _⟩ := hW
  have hA : DataW.TrodAll enc Try.prog W 0 (fun _ => true) true Try.f17.params.toList args.toList ds p := hA0
  rw [Try.params17] at hA
  obtain ⟨rfl, rfl, rfl⟩ := trodAll_none hA
  obtain ⟨rfl, rfl⟩ := trodVars_none hV
  clear hA0 hval0

  refine (wKnown W).mono fun e W' ⟨he, hb⟩ => ?_
  subst he
  exact ⟨_, rfl, _, _, _, [], (([] : List MemPlace)), [], hW', trodAll_mk1 (shut_bool Try.underlying4 true), trodAll_mk0, rfl, hb.frame _, fun h => by cases h⟩
theorem FloatKnown_holds : Rows.FloatKnownSaid :=
  OpenClaim.holds_of_wide 17 Try.f17 rfl rfl rfl rfl rfl rfl rfl ⟨rfl, rfl, rfl, rfl, rfl⟩ rfl rfl rfl rfl rfl (by kernel_rfl) Try.func17 (by kernel_rfl)
    (of_decide_eq_true (by kernel_rfl)) (by unfold Func.isWrapper; first | (rw [if_pos (by decide +kernel)]; kernel_rfl) | (rw [if_neg (by decide +kernel)]; exact ⟨rfl, rfl⟩))
    (fun os started H enc _ => FloatKnown_lifted os started H enc)
#print axioms FloatKnown_holds
end Go.Proofs.Ytloibnmhgocboaa
