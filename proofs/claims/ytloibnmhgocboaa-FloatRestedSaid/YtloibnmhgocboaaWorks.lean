import Derived.Test.YtloibnmhgocboaaLw1
import Derived.Test.YtloibnmhgocboaaLwK
import Derived.Test.YtloibnmhgocboaaF1
import Derived.Test.YtloibnmhgocboaaF7
import Derived.Test.YtloibnmhgocboaaF6
import Derived.Test.YtloibnmhgocboaaF5
import Derived.Test.YtloibnmhgocboaaF3
namespace Go.Proofs.Ytloibnmhgocboaa
open Go.RowKit Go.Shelf

set_option maxRecDepth 100000 in
set_option maxHeartbeats 8000000 in
theorem aWorks (w : World) : Calls Try.prog 19 #[] w (RetB w true) := by
  go_enter Try.func19, Try.ntmps19
  go_wp2_with fail
  refine (aK _).mono ?_
  rintro e w1_ ⟨rfl, hr1, hb1⟩
  have B1 : Below w.heap.size w w1_ := (Below.refl _ _).trans (hb1.mono (Nat.le_refl _))
  have S1 : w.heap.size ≤ w1_.heap.size := B1.size
  clear hb1
  have h_q1 := hr1
  clear hr1
  go_wp2_with fail
  obtain ⟨w2_, hW2⟩ : ∃ W : World, w1_.alloc (.cells #[.int .i64 2, .int .i64 0, .int .i64 1] 2) = W := ⟨_, rfl⟩
  have hb2 : Below w1_.heap.size w1_ w2_ := by rw [← hW2]; exact (Below.refl _ _).alloc (Nat.le_refl _) _
  have h_q2 : Ri w2_ w2_.heap.size (some ⟨w1_.heap.size, 0, none⟩) 3 ([2, 0, 1] : List Int) := by rw [← hW2]; exact (Oi.lit w1_ #[.int .i64 2, .int .i64 0, .int .i64 1] 3 [2, 0, 1] rfl rfl (by omega)).ri
  rw [hW2]
  clear hW2
  have B2 : Below w.heap.size w w2_ := B1.trans (hb2.mono S1)
  have S2 : w.heap.size ≤ w2_.heap.size := B2.size
  replace h_q1 := Ri.next h_q1 hb2 (Nat.le_refl _) hb2.size
  clear B1 S1
  clear hb2
  refine (aLongsOf _ _).mono ?_
  rintro e w' ⟨rfl, rfl⟩
  go_wp2_with fail
  refine (fCheckChangeT _ _ _ ([1, 4, 6]) _ _ _ ([2, 0, 1]) _ h_q1 h_q2 (by omega) (by omega) (Nat.le_refl _) (8) (3) (0) (Lib.hid (by decide +kernel))).mono ?_
  rintro e w3_ ⟨rfl, hb3⟩
  have B3 : Below w.heap.size w w3_ := B2.trans (hb3.mono S2)
  have S3 : w.heap.size ≤ w3_.heap.size := B3.size
  replace h_q1 := Ri.next h_q1 hb3 (Nat.le_refl _) hb3.size
  replace h_q2 := Ri.next h_q2 hb3 (Nat.le_refl _) hb3.size
  clear B2 S2
  clear hb3
  clear h_q1
  clear h_q2
  go_wp2_with fail
  refine (aK _).mono ?_
  rintro e w4_ ⟨rfl, hr4, hb4⟩
  have B4 : Below w.heap.size w w4_ := B3.trans (hb4.mono S3)
  have S4 : w.heap.size ≤ w4_.heap.size := B4.size
  clear B3 S3
  clear hb4
  have h_q3 := hr4
  clear hr4
  go_wp2_with fail
  obtain ⟨w5_, hW5⟩ : ∃ W : World, w4_.alloc (.cells #[.int .i64 1, .int .i64 1] 2) = W := ⟨_, rfl⟩
  have hb5 : Below w4_.heap.size w4_ w5_ := by rw [← hW5]; exact (Below.refl _ _).alloc (Nat.le_refl _) _
  have h_q4 : Ri w5_ w5_.heap.size (some ⟨w4_.heap.size, 0, none⟩) 2 ([1, 1] : List Int) := by rw [← hW5]; exact (Oi.lit w4_ #[.int .i64 1, .int .i64 1] 2 [1, 1] rfl rfl (by omega)).ri
  rw [hW5]
  clear hW5
  have B5 : Below w.heap.size w w5_ := B4.trans (hb5.mono S4)
  have S5 : w.heap.size ≤ w5_.heap.size := B5.size
  replace h_q3 := Ri.next h_q3 hb5 (Nat.le_refl _) hb5.size
  clear B4 S4
  clear hb5
  refine (aLongsOf _ _).mono ?_
  rintro e w' ⟨rfl, rfl⟩
  go_wp2_with fail
  refine (fCheckChangeT _ _ _ ([1, 4, 6]) _ _ _ ([1, 1]) _ h_q3 h_q4 (by omega) (by omega) (Nat.le_refl _) (0) (0) (15) (Lib.hid (by decide +kernel))).mono ?_
  rintro e w6_ ⟨rfl, hb6⟩
  have B6 : Below w.heap.size w w6_ := B5.trans (hb6.mono S5)
  have S6 : w.heap.size ≤ w6_.heap.size := B6.size
  replace h_q3 := Ri.next h_q3 hb6 (Nat.le_refl _) hb6.size
  replace h_q4 := Ri.next h_q4 hb6 (Nat.le_refl _) hb6.size
  clear B5 S5
  clear hb6
  clear h_q3
  clear h_q4
  go_wp2_with fail
  refine (aT _).mono ?_
  rintro e w7_ ⟨rfl, hr7, hb7⟩
  have B7 : Below w.heap.size w w7_ := B6.trans (hb7.mono S6)
  have S7 : w.heap.size ≤ w7_.heap.size := B7.size
  clear B6 S6
  clear hb7
  have h_q5 := hr7
  clear hr7
  go_wp2_with fail
  refine (fFewestT _ _ _ ([5, 8]) (28) _ h_q5 (by omega) (Nat.le_refl _) (5) (0) (Lib.hid (by decide +kernel))).mono ?_
  rintro e w8_ ⟨rfl, hb8⟩
  have B8 : Below w.heap.size w w8_ := B7.trans (hb8.mono S7)
  have S8 : w.heap.size ≤ w8_.heap.size := B8.size
  replace h_q5 := Ri.next h_q5 hb8 (Nat.le_refl _) hb8.size
  clear B7 S7
  clear hb8
  clear h_q5
  go_wp2_with fail
  refine (aT _).mono ?_
  rintro e w9_ ⟨rfl, hr9, hb9⟩
  have B9 : Below w.heap.size w w9_ := B8.trans (hb9.mono S8)
  have S9 : w.heap.size ≤ w9_.heap.size := B9.size
  clear B8 S8
  clear hb9
  have h_q6 := hr9
  clear hr9
  go_wp2_with fail
  refine (fFewestT _ _ _ ([5, 8]) (27) _ h_q6 (by omega) (Nat.le_refl _) (0) (5) (Lib.hid (by decide +kernel))).mono ?_
  rintro e w10_ ⟨rfl, hb10⟩
  have B10 : Below w.heap.size w w10_ := B9.trans (hb10.mono S9)
  have S10 : w.heap.size ≤ w10_.heap.size := B10.size
  replace h_q6 := Ri.next h_q6 hb10 (Nat.le_refl _) hb10.size
  clear B9 S9
  clear hb10
  clear h_q6
  go_wp2_with fail
  refine (aK _).mono ?_
  rintro e w11_ ⟨rfl, hr11, hb11⟩
  have B11 : Below w.heap.size w w11_ := B10.trans (hb11.mono S10)
  have S11 : w.heap.size ≤ w11_.heap.size := B11.size
  clear B10 S10
  clear hb11
  have h_q7 := hr11
  clear hr11
  go_wp2_with fail
  refine (fChangeT _ _ _ ([1, 4, 6]) (8) _ h_q7 (by omega) (Nat.le_refl _) ([0, 2, 0]) (0) (Lib.hid (by decide +kernel))).mono ?_
  rintro e w12_ ⟨A12, n12, c12, rfl, ho12, hb12⟩
  have B12 : Below w.heap.size w w12_ := B11.trans (hb12.mono S11)
  have S12 : w.heap.size ≤ w12_.heap.size := B12.size
  replace h_q7 := Ri.next h_q7 hb12 (Nat.le_refl _) hb12.size
  clear B11 S11
  have h_c := ho12.ri
  have m_c := ho12.most
  clear ho12
  clear hb12
  clear h_q7
  go_wp2_with fail
  refine (aK _).mono ?_
  rintro e w13_ ⟨rfl, hr13, hb13⟩
  have B13 : Below w.heap.size w w13_ := B12.trans (hb13.mono S12)
  have S13 : w.heap.size ≤ w13_.heap.size := B13.size
  replace h_c := Ri.next h_c hb13 (Nat.le_refl _) hb13.size
  clear B12 S12
  clear hb13
  have h_q8 := hr13
  clear hr13
  go_wp2_with fail
  refine (fChangeT _ _ _ ([1, 4, 6]) (301) _ h_q8 (by omega) (Nat.le_refl _) ([]) (3) (Lib.hid (by decide +kernel))).mono ?_
  rintro e w14_ ⟨A14, n14, c14, rfl, ho14, hb14⟩
  have B14 : Below w.heap.size w w14_ := B13.trans (hb14.mono S13)
  have S14 : w.heap.size ≤ w14_.heap.size := B14.size
  replace h_c := Ri.next h_c hb14 (Nat.le_refl _) hb14.size
  replace h_q8 := Ri.next h_q8 hb14 (Nat.le_refl _) hb14.size
  clear B13 S13
  have h_z := ho14.ri
  have m_z := ho14.most
  clear ho14
  clear hb14
  clear h_q8
  clear h_z
  go_wp2_with fail
  refine (aK _).mono ?_
  rintro e w15_ ⟨rfl, hr15, hb15⟩
  have B15 : Below w.heap.size w w15_ := B14.trans (hb15.mono S14)
  have S15 : w.heap.size ≤ w15_.heap.size := B15.size
  replace h_c := Ri.next h_c hb15 (Nat.le_refl _) hb15.size
  clear B14 S14
  clear hb15
  have h_q9 := hr15
  clear hr15
  go_wp2_with fail
  refine (fHeightsT _ _ _ ([1, 4, 6]) (8) _ h_q9 (by omega) (Nat.le_refl _) ([0, 1, 2, 3, 1, 2, 1, 2, 2]) (0) (Lib.hid (by decide +kernel))).mono ?_
  rintro e w16_ ⟨A16, n16, c16, rfl, ho16, hb16⟩
  have B16 : Below w.heap.size w w16_ := B15.trans (hb16.mono S15)
  have S16 : w.heap.size ≤ w16_.heap.size := B16.size
  replace h_c := Ri.next h_c hb16 (Nat.le_refl _) hb16.size
  replace h_q9 := Ri.next h_q9 hb16 (Nat.le_refl _) hb16.size
  clear B15 S15
  have h_h := ho16.ri
  have m_h := ho16.most
  clear ho16
  clear hb16
  clear h_q9
  go_wp2_with fail
  refine (aK _).mono ?_
  rintro e w17_ ⟨rfl, hr17, hb17⟩
  have B17 : Below w.heap.size w w17_ := B16.trans (hb17.mono S16)
  have S17 : w.heap.size ≤ w17_.heap.size := B17.size
  replace h_c := Ri.next h_c hb17 (Nat.le_refl _) hb17.size
  replace h_h := Ri.next h_h hb17 (Nat.le_refl _) hb17.size
  clear B16 S16
  clear hb17
  have h_q10 := hr17
  clear hr17
  go_wp2_with fail
  obtain ⟨w18_, hW18⟩ : ∃ W : World, w17_.alloc (.cells #[.int .i64 0, .int .i64 1, .int .i64 2, .int .i64 3, .int .i64 1] 2) = W := ⟨_, rfl⟩
  have hb18 : Below w17_.heap.size w17_ w18_ := by rw [← hW18]; exact (Below.refl _ _).alloc (Nat.le_refl _) _
  have h_q11 : Ri w18_ w18_.heap.size (some ⟨w17_.heap.size, 0, none⟩) 5 ([0, 1, 2, 3, 1] : List Int) := by rw [← hW18]; exact (Oi.lit w17_ #[.int .i64 0, .int .i64 1, .int .i64 2, .int .i64 3, .int .i64 1] 5 [0, 1, 2, 3, 1] rfl rfl (by omega)).ri
  rw [hW18]
  clear hW18
  have B18 : Below w.heap.size w w18_ := B17.trans (hb18.mono S17)
  have S18 : w.heap.size ≤ w18_.heap.size := B18.size
  replace h_c := Ri.next h_c hb18 (Nat.le_refl _) hb18.size
  replace h_h := Ri.next h_h hb18 (Nat.le_refl _) hb18.size
  replace h_q10 := Ri.next h_q10 hb18 (Nat.le_refl _) hb18.size
  clear B17 S17
  clear hb18
  refine (aLongsOf _ _).mono ?_
  rintro e w' ⟨rfl, rfl⟩
  go_wp2_with fail
  refine (fCheckHeightsT _ _ _ ([1, 4, 6]) _ _ _ ([0, 1, 2, 3, 1]) _ h_q10 h_q11 (by omega) (by omega) (Nat.le_refl _) (Nat.le_refl _) (0) (Lib.hid (by decide +kernel))).mono ?_
  rintro e w19_ ⟨rfl, hb19⟩
  have B19 : Below w.heap.size w w19_ := B18.trans (hb19.mono S18)
  have S19 : w.heap.size ≤ w19_.heap.size := B19.size
  replace h_c := Ri.next h_c hb19 (Nat.le_refl _) hb19.size
  replace h_h := Ri.next h_h hb19 (Nat.le_refl _) hb19.size
  replace h_q10 := Ri.next h_q10 hb19 (Nat.le_refl _) hb19.size
  replace h_q11 := Ri.next h_q11 hb19 (Nat.le_refl _) hb19.size
  clear B18 S18
  clear hb19
  clear h_q10
  clear h_q11
  go_wp2_with fail
  refine (aK _).mono ?_
  rintro e w20_ ⟨rfl, hr20, hb20⟩
  have B20 : Below w.heap.size w w20_ := B19.trans (hb20.mono S19)
  have S20 : w.heap.size ≤ w20_.heap.size := B20.size
  replace h_c := Ri.next h_c hb20 (Nat.le_refl _) hb20.size
  replace h_h := Ri.next h_h hb20 (Nat.le_refl _) hb20.size
  clear B19 S19
  clear hb20
  have h_q12 := hr20
  clear hr20
  go_wp2_with fail
  obtain ⟨w21_, hW21⟩ : ∃ W : World, w20_.alloc (.cells #[.int .i64 0, .int .i64 1, .int .i64 2, .int .i64 3, .int .i64 2] 2) = W := ⟨_, rfl⟩
  have hb21 : Below w20_.heap.size w20_ w21_ := by rw [← hW21]; exact (Below.refl _ _).alloc (Nat.le_refl _) _
  have h_q13 : Ri w21_ w21_.heap.size (some ⟨w20_.heap.size, 0, none⟩) 5 ([0, 1, 2, 3, 2] : List Int) := by rw [← hW21]; exact (Oi.lit w20_ #[.int .i64 0, .int .i64 1, .int .i64 2, .int .i64 3, .int .i64 2] 5 [0, 1, 2, 3, 2] rfl rfl (by omega)).ri
  rw [hW21]
  clear hW21
  have B21 : Below w.heap.size w w21_ := B20.trans (hb21.mono S20)
  have S21 : w.heap.size ≤ w21_.heap.size := B21.size
  replace h_c := Ri.next h_c hb21 (Nat.le_refl _) hb21.size
  replace h_h := Ri.next h_h hb21 (Nat.le_refl _) hb21.size
  replace h_q12 := Ri.next h_q12 hb21 (Nat.le_refl _) hb21.size
  clear B20 S20
  clear hb21
  refine (aLongsOf _ _).mono ?_
  rintro e w' ⟨rfl, rfl⟩
  go_wp2_with fail
  refine (fCheckHeightsT _ _ _ ([1, 4, 6]) _ _ _ ([0, 1, 2, 3, 2]) _ h_q12 h_q13 (by omega) (by omega) (Nat.le_refl _) (Nat.le_refl _) (14) (Lib.hid (by decide +kernel))).mono ?_
  rintro e w22_ ⟨rfl, hb22⟩
  have B22 : Below w.heap.size w w22_ := B21.trans (hb22.mono S21)
  have S22 : w.heap.size ≤ w22_.heap.size := B22.size
  replace h_c := Ri.next h_c hb22 (Nat.le_refl _) hb22.size
  replace h_h := Ri.next h_h hb22 (Nat.le_refl _) hb22.size
  replace h_q12 := Ri.next h_q12 hb22 (Nat.le_refl _) hb22.size
  replace h_q13 := Ri.next h_q13 hb22 (Nat.le_refl _) hb22.size
  clear B21 S21
  clear hb22
  clear h_q12
  clear h_q13
  go_wp2_with fail
  refine (aT _).mono ?_
  rintro e w23_ ⟨rfl, hr23, hb23⟩
  have B23 : Below w.heap.size w w23_ := B22.trans (hb23.mono S22)
  have S23 : w.heap.size ≤ w23_.heap.size := B23.size
  replace h_c := Ri.next h_c hb23 (Nat.le_refl _) hb23.size
  replace h_h := Ri.next h_h hb23 (Nat.le_refl _) hb23.size
  clear B22 S22
  clear hb23
  have h_q14 := hr23
  clear hr23
  go_wp2_with fail
  refine (fGreedyT _ _ _ ([5, 8]) (27) _ h_q14 (by omega) (Nat.le_refl _) ([0, 3]) (3) (0) (Lib.hid (by decide +kernel))).mono ?_
  rintro e w24_ ⟨A24, n24, c24, rfl, ho24, hb24⟩
  have B24 : Below w.heap.size w w24_ := B23.trans (hb24.mono S23)
  have S24 : w.heap.size ≤ w24_.heap.size := B24.size
  replace h_c := Ri.next h_c hb24 (Nat.le_refl _) hb24.size
  replace h_h := Ri.next h_h hb24 (Nat.le_refl _) hb24.size
  replace h_q14 := Ri.next h_q14 hb24 (Nat.le_refl _) hb24.size
  clear B23 S23
  have h_g := ho24.ri
  have m_g := ho24.most
  clear ho24
  clear hb24
  clear h_q14
  go_wp2_with fail
  refine (aK _).mono ?_
  rintro e w25_ ⟨rfl, hr25, hb25⟩
  have B25 : Below w.heap.size w w25_ := B24.trans (hb25.mono S24)
  have S25 : w.heap.size ≤ w25_.heap.size := B25.size
  replace h_c := Ri.next h_c hb25 (Nat.le_refl _) hb25.size
  replace h_h := Ri.next h_h hb25 (Nat.le_refl _) hb25.size
  replace h_g := Ri.next h_g hb25 (Nat.le_refl _) hb25.size
  clear B24 S24
  clear hb25
  have h_q15 := hr25
  clear hr25
  go_wp2_with fail
  refine (fCheckBadT _ _ _ ([1, 4, 6]) _ h_q15 (by omega) (Nat.le_refl _) (8) (0) (Lib.hid (by decide +kernel))).mono ?_
  rintro e w26_ ⟨rfl, hb26⟩
  have B26 : Below w.heap.size w w26_ := B25.trans (hb26.mono S25)
  have S26 : w.heap.size ≤ w26_.heap.size := B26.size
  replace h_c := Ri.next h_c hb26 (Nat.le_refl _) hb26.size
  replace h_h := Ri.next h_h hb26 (Nat.le_refl _) hb26.size
  replace h_g := Ri.next h_g hb26 (Nat.le_refl _) hb26.size
  replace h_q15 := Ri.next h_q15 hb26 (Nat.le_refl _) hb26.size
  clear B25 S25
  clear hb26
  clear h_q15
  go_wp2_with fail
  refine (aK _).mono ?_
  rintro e w27_ ⟨rfl, hr27, hb27⟩
  have B27 : Below w.heap.size w w27_ := B26.trans (hb27.mono S26)
  have S27 : w.heap.size ≤ w27_.heap.size := B27.size
  replace h_c := Ri.next h_c hb27 (Nat.le_refl _) hb27.size
  replace h_h := Ri.next h_h hb27 (Nat.le_refl _) hb27.size
  replace h_g := Ri.next h_g hb27 (Nat.le_refl _) hb27.size
  clear B26 S26
  clear hb27
  have h_q16 := hr27
  clear hr27
  go_wp2_with fail
  refine (fCheckBadT _ _ _ ([1, 4, 6]) _ h_q16 (by omega) (Nat.le_refl _) (10) (16) (Lib.hid (by decide +kernel))).mono ?_
  rintro e w28_ ⟨rfl, hb28⟩
  have B28 : Below w.heap.size w w28_ := B27.trans (hb28.mono S27)
  have S28 : w.heap.size ≤ w28_.heap.size := B28.size
  replace h_c := Ri.next h_c hb28 (Nat.le_refl _) hb28.size
  replace h_h := Ri.next h_h hb28 (Nat.le_refl _) hb28.size
  replace h_g := Ri.next h_g hb28 (Nat.le_refl _) hb28.size
  replace h_q16 := Ri.next h_q16 hb28 (Nat.le_refl _) hb28.size
  clear B27 S27
  clear hb28
  clear h_q16
  go_wp2_with fail
  refine (aK _).mono ?_
  rintro e w29_ ⟨rfl, hr29, hb29⟩
  have B29 : Below w.heap.size w w29_ := B28.trans (hb29.mono S28)
  have S29 : w.heap.size ≤ w29_.heap.size := B29.size
  replace h_c := Ri.next h_c hb29 (Nat.le_refl _) hb29.size
  replace h_h := Ri.next h_h hb29 (Nat.le_refl _) hb29.size
  replace h_g := Ri.next h_g hb29 (Nat.le_refl _) hb29.size
  clear B28 S28
  clear hb29
  have h_q17 := hr29
  clear hr29
  go_wp2_with fail
  refine (fBadT _ _ _ ([1, 4, 6]) _ h_q17 (by omega) (Nat.le_refl _) (8) (0) (Lib.hid (by decide +kernel))).mono ?_
  rintro e w30_ ⟨rfl, hb30⟩
  have B30 : Below w.heap.size w w30_ := B29.trans (hb30.mono S29)
  have S30 : w.heap.size ≤ w30_.heap.size := B30.size
  replace h_c := Ri.next h_c hb30 (Nat.le_refl _) hb30.size
  replace h_h := Ri.next h_h hb30 (Nat.le_refl _) hb30.size
  replace h_g := Ri.next h_g hb30 (Nat.le_refl _) hb30.size
  replace h_q17 := Ri.next h_q17 hb30 (Nat.le_refl _) hb30.size
  clear B29 S29
  clear hb30
  clear h_q17
  go_wp2_with fail
  refine (aT _).mono ?_
  rintro e w31_ ⟨rfl, hr31, hb31⟩
  have B31 : Below w.heap.size w w31_ := B30.trans (hb31.mono S30)
  have S31 : w.heap.size ≤ w31_.heap.size := B31.size
  replace h_c := Ri.next h_c hb31 (Nat.le_refl _) hb31.size
  replace h_h := Ri.next h_h hb31 (Nat.le_refl _) hb31.size
  replace h_g := Ri.next h_g hb31 (Nat.le_refl _) hb31.size
  clear B30 S30
  clear hb31
  have h_q18 := hr31
  clear hr31
  go_wp2_with fail
  refine (fBadT _ _ _ ([5, 8]) _ h_q18 (by omega) (Nat.le_refl _) (0) (2) (Lib.hid (by decide +kernel))).mono ?_
  rintro e w32_ ⟨rfl, hb32⟩
  have B32 : Below w.heap.size w w32_ := B31.trans (hb32.mono S31)
  have S32 : w.heap.size ≤ w32_.heap.size := B32.size
  replace h_c := Ri.next h_c hb32 (Nat.le_refl _) hb32.size
  replace h_h := Ri.next h_h hb32 (Nat.le_refl _) hb32.size
  replace h_g := Ri.next h_g hb32 (Nat.le_refl _) hb32.size
  replace h_q18 := Ri.next h_q18 hb32 (Nat.le_refl _) hb32.size
  clear B31 S31
  clear hb32
  clear h_q18
  go_wp2_with fail
  obtain ⟨w33_, hW33⟩ : ∃ W : World, w32_.alloc (.cells #[.int .i64 1, .int .i64 5, .int .i64 10] 2) = W := ⟨_, rfl⟩
  have hb33 : Below w32_.heap.size w32_ w33_ := by rw [← hW33]; exact (Below.refl _ _).alloc (Nat.le_refl _) _
  have h_q19 : Ri w33_ w33_.heap.size (some ⟨w32_.heap.size, 0, none⟩) 3 ([1, 5, 10] : List Int) := by rw [← hW33]; exact (Oi.lit w32_ #[.int .i64 1, .int .i64 5, .int .i64 10] 3 [1, 5, 10] rfl rfl (by omega)).ri
  rw [hW33]
  clear hW33
  have B33 : Below w.heap.size w w33_ := B32.trans (hb33.mono S32)
  have S33 : w.heap.size ≤ w33_.heap.size := B33.size
  replace h_c := Ri.next h_c hb33 (Nat.le_refl _) hb33.size
  replace h_h := Ri.next h_h hb33 (Nat.le_refl _) hb33.size
  replace h_g := Ri.next h_g hb33 (Nat.le_refl _) hb33.size
  clear B32 S32
  clear hb33
  refine (aLongsOf _ _).mono ?_
  rintro e w' ⟨rfl, rfl⟩
  go_wp2_with fail
  refine (fBadT _ _ _ ([1, 5, 10]) _ h_q19 (by omega) (Nat.le_refl _) (0) (5) (Lib.hid (by decide +kernel))).mono ?_
  rintro e w34_ ⟨rfl, hb34⟩
  have B34 : Below w.heap.size w w34_ := B33.trans (hb34.mono S33)
  have S34 : w.heap.size ≤ w34_.heap.size := B34.size
  replace h_c := Ri.next h_c hb34 (Nat.le_refl _) hb34.size
  replace h_h := Ri.next h_h hb34 (Nat.le_refl _) hb34.size
  replace h_g := Ri.next h_g hb34 (Nat.le_refl _) hb34.size
  replace h_q19 := Ri.next h_q19 hb34 (Nat.le_refl _) hb34.size
  clear B33 S33
  clear hb34
  clear h_q19
  go_wp2_with fail
  refine (aT _).mono ?_
  rintro e w35_ ⟨rfl, hr35, hb35⟩
  have B35 : Below w.heap.size w w35_ := B34.trans (hb35.mono S34)
  have S35 : w.heap.size ≤ w35_.heap.size := B35.size
  replace h_c := Ri.next h_c hb35 (Nat.le_refl _) hb35.size
  replace h_h := Ri.next h_h hb35 (Nat.le_refl _) hb35.size
  replace h_g := Ri.next h_g hb35 (Nat.le_refl _) hb35.size
  clear B34 S34
  clear hb35
  have h_q20 := hr35
  clear hr35
  go_wp2_with fail
  refine (fRestsT _ _ _ ([5, 8]) _ h_q20 (by omega) (Nat.le_refl _) ([0, 16, 32, 8, 24]) (0) (Lib.hid restsS_t)).mono ?_
  rintro e w36_ ⟨A36, n36, c36, rfl, ho36, hb36⟩
  have B36 : Below w.heap.size w w36_ := B35.trans (hb36.mono S35)
  have S36 : w.heap.size ≤ w36_.heap.size := B36.size
  replace h_c := Ri.next h_c hb36 (Nat.le_refl _) hb36.size
  replace h_h := Ri.next h_h hb36 (Nat.le_refl _) hb36.size
  replace h_g := Ri.next h_g hb36 (Nat.le_refl _) hb36.size
  replace h_q20 := Ri.next h_q20 hb36 (Nat.le_refl _) hb36.size
  clear B35 S35
  have h_l := ho36.ri
  have m_l := ho36.most
  clear ho36
  clear hb36
  clear h_q20
  go_wp2_with fail
  refine (aT _).mono ?_
  rintro e w37_ ⟨rfl, hr37, hb37⟩
  have B37 : Below w.heap.size w w37_ := B36.trans (hb37.mono S36)
  have S37 : w.heap.size ≤ w37_.heap.size := B37.size
  replace h_c := Ri.next h_c hb37 (Nat.le_refl _) hb37.size
  replace h_h := Ri.next h_h hb37 (Nat.le_refl _) hb37.size
  replace h_g := Ri.next h_g hb37 (Nat.le_refl _) hb37.size
  replace h_l := Ri.next h_l hb37 (Nat.le_refl _) hb37.size
  clear B36 S36
  clear hb37
  have h_q21 := hr37
  clear hr37
  go_wp2_with fail
  refine (fGreatestT _ _ _ ([5, 8]) _ h_q21 (by omega) (Nat.le_refl _) (27) (0) (Lib.hid great_t)).mono ?_
  rintro e w38_ ⟨rfl, hb38⟩
  have B38 : Below w.heap.size w w38_ := B37.trans (hb38.mono S37)
  have S38 : w.heap.size ≤ w38_.heap.size := B38.size
  replace h_c := Ri.next h_c hb38 (Nat.le_refl _) hb38.size
  replace h_h := Ri.next h_h hb38 (Nat.le_refl _) hb38.size
  replace h_g := Ri.next h_g hb38 (Nat.le_refl _) hb38.size
  replace h_l := Ri.next h_l hb38 (Nat.le_refl _) hb38.size
  replace h_q21 := Ri.next h_q21 hb38 (Nat.le_refl _) hb38.size
  clear B37 S37
  clear hb38
  clear h_q21
  go_wp2_with fail
  refine (aE _).mono ?_
  rintro e w39_ ⟨rfl, hr39, hb39⟩
  have B39 : Below w.heap.size w w39_ := B38.trans (hb39.mono S38)
  have S39 : w.heap.size ≤ w39_.heap.size := B39.size
  replace h_c := Ri.next h_c hb39 (Nat.le_refl _) hb39.size
  replace h_h := Ri.next h_h hb39 (Nat.le_refl _) hb39.size
  replace h_g := Ri.next h_g hb39 (Nat.le_refl _) hb39.size
  replace h_l := Ri.next h_l hb39 (Nat.le_refl _) hb39.size
  clear B38 S38
  clear hb39
  have h_q22 := hr39
  clear hr39
  go_wp2_with fail
  refine (fGreatestT _ _ _ ([4, 6]) _ h_q22 (by omega) (Nat.le_refl _) (0) (4) (Lib.hid great_e)).mono ?_
  rintro e w40_ ⟨rfl, hb40⟩
  have B40 : Below w.heap.size w w40_ := B39.trans (hb40.mono S39)
  have S40 : w.heap.size ≤ w40_.heap.size := B40.size
  replace h_c := Ri.next h_c hb40 (Nat.le_refl _) hb40.size
  replace h_h := Ri.next h_h hb40 (Nat.le_refl _) hb40.size
  replace h_g := Ri.next h_g hb40 (Nat.le_refl _) hb40.size
  replace h_l := Ri.next h_l hb40 (Nat.le_refl _) hb40.size
  replace h_q22 := Ri.next h_q22 hb40 (Nat.le_refl _) hb40.size
  clear B39 S39
  clear hb40
  clear h_q22
  go_wp2_with fail
  refine (aT _).mono ?_
  rintro e w41_ ⟨rfl, hr41, hb41⟩
  have B41 : Below w.heap.size w w41_ := B40.trans (hb41.mono S40)
  have S41 : w.heap.size ≤ w41_.heap.size := B41.size
  replace h_c := Ri.next h_c hb41 (Nat.le_refl _) hb41.size
  replace h_h := Ri.next h_h hb41 (Nat.le_refl _) hb41.size
  replace h_g := Ri.next h_g hb41 (Nat.le_refl _) hb41.size
  replace h_l := Ri.next h_l hb41 (Nat.le_refl _) hb41.size
  clear B40 S40
  clear hb41
  have h_q23 := hr41
  clear hr41
  go_wp2_with fail
  refine (fManyT _ _ _ ([5, 8]) _ h_q23 (by omega) (Nat.le_refl _) (14) (0) (Lib.hid many_t)).mono ?_
  rintro e w42_ ⟨rfl, hb42⟩
  have B42 : Below w.heap.size w w42_ := B41.trans (hb42.mono S41)
  have S42 : w.heap.size ≤ w42_.heap.size := B42.size
  replace h_c := Ri.next h_c hb42 (Nat.le_refl _) hb42.size
  replace h_h := Ri.next h_h hb42 (Nat.le_refl _) hb42.size
  replace h_g := Ri.next h_g hb42 (Nat.le_refl _) hb42.size
  replace h_l := Ri.next h_l hb42 (Nat.le_refl _) hb42.size
  replace h_q23 := Ri.next h_q23 hb42 (Nat.le_refl _) hb42.size
  clear B41 S41
  clear hb42
  clear h_q23
  go_wp2_with fail
  refine (aK _).mono ?_
  rintro e w43_ ⟨rfl, hr43, hb43⟩
  have B43 : Below w.heap.size w w43_ := B42.trans (hb43.mono S42)
  have S43 : w.heap.size ≤ w43_.heap.size := B43.size
  replace h_c := Ri.next h_c hb43 (Nat.le_refl _) hb43.size
  replace h_h := Ri.next h_h hb43 (Nat.le_refl _) hb43.size
  replace h_g := Ri.next h_g hb43 (Nat.le_refl _) hb43.size
  replace h_l := Ri.next h_l hb43 (Nat.le_refl _) hb43.size
  clear B42 S42
  clear hb43
  have h_q24 := hr43
  clear hr43
  go_wp2_with fail
  refine (fWaysT _ _ _ ([1, 4, 6]) (8) _ h_q24 (by omega) (Nat.le_refl _) (4) (0) (Lib.hid (by decide +kernel))).mono ?_
  rintro e w44_ ⟨rfl, hb44⟩
  have B44 : Below w.heap.size w w44_ := B43.trans (hb44.mono S43)
  have S44 : w.heap.size ≤ w44_.heap.size := B44.size
  replace h_c := Ri.next h_c hb44 (Nat.le_refl _) hb44.size
  replace h_h := Ri.next h_h hb44 (Nat.le_refl _) hb44.size
  replace h_g := Ri.next h_g hb44 (Nat.le_refl _) hb44.size
  replace h_l := Ri.next h_l hb44 (Nat.le_refl _) hb44.size
  replace h_q24 := Ri.next h_q24 hb44 (Nat.le_refl _) hb44.size
  clear B43 S43
  clear hb44
  clear h_q24
  go_wp2_with fail
  refine (aK _).mono ?_
  rintro e w45_ ⟨rfl, hr45, hb45⟩
  have B45 : Below w.heap.size w w45_ := B44.trans (hb45.mono S44)
  have S45 : w.heap.size ≤ w45_.heap.size := B45.size
  replace h_c := Ri.next h_c hb45 (Nat.le_refl _) hb45.size
  replace h_h := Ri.next h_h hb45 (Nat.le_refl _) hb45.size
  replace h_g := Ri.next h_g hb45 (Nat.le_refl _) hb45.size
  replace h_l := Ri.next h_l hb45 (Nat.le_refl _) hb45.size
  clear B44 S44
  clear hb45
  have h_q25 := hr45
  clear hr45
  go_wp2_with fail
  obtain ⟨w46_, hW46⟩ : ∃ W : World, w45_.alloc (.cells #[.int .i64 1, .int .i64 2, .int .i64 1] 2) = W := ⟨_, rfl⟩
  have hb46 : Below w45_.heap.size w45_ w46_ := by rw [← hW46]; exact (Below.refl _ _).alloc (Nat.le_refl _) _
  have h_q26 : Ri w46_ w46_.heap.size (some ⟨w45_.heap.size, 0, none⟩) 3 ([1, 2, 1] : List Int) := by rw [← hW46]; exact (Oi.lit w45_ #[.int .i64 1, .int .i64 2, .int .i64 1] 3 [1, 2, 1] rfl rfl (by omega)).ri
  rw [hW46]
  clear hW46
  have B46 : Below w.heap.size w w46_ := B45.trans (hb46.mono S45)
  have S46 : w.heap.size ≤ w46_.heap.size := B46.size
  replace h_c := Ri.next h_c hb46 (Nat.le_refl _) hb46.size
  replace h_h := Ri.next h_h hb46 (Nat.le_refl _) hb46.size
  replace h_g := Ri.next h_g hb46 (Nat.le_refl _) hb46.size
  replace h_l := Ri.next h_l hb46 (Nat.le_refl _) hb46.size
  replace h_q25 := Ri.next h_q25 hb46 (Nat.le_refl _) hb46.size
  clear B45 S45
  clear hb46
  refine (aLongsOf _ _).mono ?_
  rintro e w' ⟨rfl, rfl⟩
  go_wp2_with fail
  refine (fPayT _ _ _ ([1, 4, 6]) _ _ _ ([1, 2, 1]) (9) _ h_q25 h_q26 (by omega) (by omega) (Nat.le_refl _) ([1, 2, 0]) (0) (Lib.hid (by decide +kernel))).mono ?_
  rintro e w47_ ⟨A47, n47, c47, rfl, ho47, hb47⟩
  have B47 : Below w.heap.size w w47_ := B46.trans (hb47.mono S46)
  have S47 : w.heap.size ≤ w47_.heap.size := B47.size
  replace h_c := Ri.next h_c hb47 (Nat.le_refl _) hb47.size
  replace h_h := Ri.next h_h hb47 (Nat.le_refl _) hb47.size
  replace h_g := Ri.next h_g hb47 (Nat.le_refl _) hb47.size
  replace h_l := Ri.next h_l hb47 (Nat.le_refl _) hb47.size
  replace h_q25 := Ri.next h_q25 hb47 (Nat.le_refl _) hb47.size
  replace h_q26 := Ri.next h_q26 hb47 (Nat.le_refl _) hb47.size
  clear B46 S46
  have h_p := ho47.ri
  have m_p := ho47.most
  clear ho47
  clear hb47
  clear h_q25
  clear h_q26
  go_wp2_with fail
  refine (aK _).mono ?_
  rintro e w48_ ⟨rfl, hr48, hb48⟩
  have B48 : Below w.heap.size w w48_ := B47.trans (hb48.mono S47)
  have S48 : w.heap.size ≤ w48_.heap.size := B48.size
  replace h_c := Ri.next h_c hb48 (Nat.le_refl _) hb48.size
  replace h_h := Ri.next h_h hb48 (Nat.le_refl _) hb48.size
  replace h_g := Ri.next h_g hb48 (Nat.le_refl _) hb48.size
  replace h_l := Ri.next h_l hb48 (Nat.le_refl _) hb48.size
  replace h_p := Ri.next h_p hb48 (Nat.le_refl _) hb48.size
  clear B47 S47
  clear hb48
  have h_q27 := hr48
  clear hr48
  go_wp2_with fail
  obtain ⟨w49_, hW49⟩ : ∃ W : World, w48_.alloc (.cells #[.int .i64 1, .int .i64 2, .int .i64 1] 2) = W := ⟨_, rfl⟩
  have hb49 : Below w48_.heap.size w48_ w49_ := by rw [← hW49]; exact (Below.refl _ _).alloc (Nat.le_refl _) _
  have h_q28 : Ri w49_ w49_.heap.size (some ⟨w48_.heap.size, 0, none⟩) 3 ([1, 2, 1] : List Int) := by rw [← hW49]; exact (Oi.lit w48_ #[.int .i64 1, .int .i64 2, .int .i64 1] 3 [1, 2, 1] rfl rfl (by omega)).ri
  rw [hW49]
  clear hW49
  have B49 : Below w.heap.size w w49_ := B48.trans (hb49.mono S48)
  have S49 : w.heap.size ≤ w49_.heap.size := B49.size
  replace h_c := Ri.next h_c hb49 (Nat.le_refl _) hb49.size
  replace h_h := Ri.next h_h hb49 (Nat.le_refl _) hb49.size
  replace h_g := Ri.next h_g hb49 (Nat.le_refl _) hb49.size
  replace h_l := Ri.next h_l hb49 (Nat.le_refl _) hb49.size
  replace h_p := Ri.next h_p hb49 (Nat.le_refl _) hb49.size
  replace h_q27 := Ri.next h_q27 hb49 (Nat.le_refl _) hb49.size
  clear B48 S48
  clear hb49
  refine (aLongsOf _ _).mono ?_
  rintro e w' ⟨rfl, rfl⟩
  go_wp2_with fail
  refine (fPayT _ _ _ ([1, 4, 6]) _ _ _ ([1, 2, 1]) (3) _ h_q27 h_q28 (by omega) (by omega) (Nat.le_refl _) ([]) (5) (Lib.hid (by decide +kernel))).mono ?_
  rintro e w50_ ⟨A50, n50, c50, rfl, ho50, hb50⟩
  have B50 : Below w.heap.size w w50_ := B49.trans (hb50.mono S49)
  have S50 : w.heap.size ≤ w50_.heap.size := B50.size
  replace h_c := Ri.next h_c hb50 (Nat.le_refl _) hb50.size
  replace h_h := Ri.next h_h hb50 (Nat.le_refl _) hb50.size
  replace h_g := Ri.next h_g hb50 (Nat.le_refl _) hb50.size
  replace h_l := Ri.next h_l hb50 (Nat.le_refl _) hb50.size
  replace h_p := Ri.next h_p hb50 (Nat.le_refl _) hb50.size
  replace h_q27 := Ri.next h_q27 hb50 (Nat.le_refl _) hb50.size
  replace h_q28 := Ri.next h_q28 hb50 (Nat.le_refl _) hb50.size
  clear B49 S49
  have h_z := ho50.ri
  have m_z := ho50.most
  clear ho50
  clear hb50
  clear h_q27
  clear h_q28
  clear h_z
  go_wp2_with fail
  obtain ⟨w51_, hW51⟩ : ∃ W : World, w50_.alloc (.cells #[.int .i64 0, .int .i64 2, .int .i64 0] 2) = W := ⟨_, rfl⟩
  have hb51 : Below w50_.heap.size w50_ w51_ := by rw [← hW51]; exact (Below.refl _ _).alloc (Nat.le_refl _) _
  have h_q29 : Ri w51_ w51_.heap.size (some ⟨w50_.heap.size, 0, none⟩) 3 ([0, 2, 0] : List Int) := by rw [← hW51]; exact (Oi.lit w50_ #[.int .i64 0, .int .i64 2, .int .i64 0] 3 [0, 2, 0] rfl rfl (by omega)).ri
  rw [hW51]
  clear hW51
  have B51 : Below w.heap.size w w51_ := B50.trans (hb51.mono S50)
  have S51 : w.heap.size ≤ w51_.heap.size := B51.size
  replace h_c := Ri.next h_c hb51 (Nat.le_refl _) hb51.size
  replace h_h := Ri.next h_h hb51 (Nat.le_refl _) hb51.size
  replace h_g := Ri.next h_g hb51 (Nat.le_refl _) hb51.size
  replace h_l := Ri.next h_l hb51 (Nat.le_refl _) hb51.size
  replace h_p := Ri.next h_p hb51 (Nat.le_refl _) hb51.size
  clear B50 S50
  clear hb51
  refine (aLongsOf _ _).mono ?_
  rintro e w' ⟨rfl, rfl⟩
  go_wp2_with fail
  refine (aLongsT _ _ _ _ _ _ _ _ ([0, 2, 0]) ([0, 2, 0]) _ h_c h_q29 (by omega) (by omega) true (Lib.hid (by decide +kernel))).mono ?_
  rintro e w52_ ⟨rfl, hb52⟩
  have B52 : Below w.heap.size w w52_ := B51.trans (hb52.mono S51)
  have S52 : w.heap.size ≤ w52_.heap.size := B52.size
  replace h_c := Ri.next h_c hb52 (Nat.le_refl _) hb52.size
  replace h_h := Ri.next h_h hb52 (Nat.le_refl _) hb52.size
  replace h_g := Ri.next h_g hb52 (Nat.le_refl _) hb52.size
  replace h_l := Ri.next h_l hb52 (Nat.le_refl _) hb52.size
  replace h_p := Ri.next h_p hb52 (Nat.le_refl _) hb52.size
  replace h_q29 := Ri.next h_q29 hb52 (Nat.le_refl _) hb52.size
  clear B51 S51
  clear hb52
  clear h_c
  clear h_q29
  go_wp2_with fail
  obtain ⟨w53_, hW53⟩ : ∃ W : World, w52_.alloc (.cells #[.int .i64 0, .int .i64 1, .int .i64 2, .int .i64 3, .int .i64 1, .int .i64 2, .int .i64 1, .int .i64 2, .int .i64 2] 2) = W := ⟨_, rfl⟩
  have hb53 : Below w52_.heap.size w52_ w53_ := by rw [← hW53]; exact (Below.refl _ _).alloc (Nat.le_refl _) _
  have h_q30 : Ri w53_ w53_.heap.size (some ⟨w52_.heap.size, 0, none⟩) 9 ([0, 1, 2, 3, 1, 2, 1, 2, 2] : List Int) := by rw [← hW53]; exact (Oi.lit w52_ #[.int .i64 0, .int .i64 1, .int .i64 2, .int .i64 3, .int .i64 1, .int .i64 2, .int .i64 1, .int .i64 2, .int .i64 2] 9 [0, 1, 2, 3, 1, 2, 1, 2, 2] rfl rfl (by omega)).ri
  rw [hW53]
  clear hW53
  have B53 : Below w.heap.size w w53_ := B52.trans (hb53.mono S52)
  have S53 : w.heap.size ≤ w53_.heap.size := B53.size
  replace h_h := Ri.next h_h hb53 (Nat.le_refl _) hb53.size
  replace h_g := Ri.next h_g hb53 (Nat.le_refl _) hb53.size
  replace h_l := Ri.next h_l hb53 (Nat.le_refl _) hb53.size
  replace h_p := Ri.next h_p hb53 (Nat.le_refl _) hb53.size
  clear B52 S52
  clear hb53
  refine (aLongsOf _ _).mono ?_
  rintro e w' ⟨rfl, rfl⟩
  go_wp2_with fail
  refine (aLongsT _ _ _ _ _ _ _ _ ([0, 1, 2, 3, 1, 2, 1, 2, 2]) ([0, 1, 2, 3, 1, 2, 1, 2, 2]) _ h_h h_q30 (by omega) (by omega) true (Lib.hid (by decide +kernel))).mono ?_
  rintro e w54_ ⟨rfl, hb54⟩
  have B54 : Below w.heap.size w w54_ := B53.trans (hb54.mono S53)
  have S54 : w.heap.size ≤ w54_.heap.size := B54.size
  replace h_h := Ri.next h_h hb54 (Nat.le_refl _) hb54.size
  replace h_g := Ri.next h_g hb54 (Nat.le_refl _) hb54.size
  replace h_l := Ri.next h_l hb54 (Nat.le_refl _) hb54.size
  replace h_p := Ri.next h_p hb54 (Nat.le_refl _) hb54.size
  replace h_q30 := Ri.next h_q30 hb54 (Nat.le_refl _) hb54.size
  clear B53 S53
  clear hb54
  clear h_h
  clear h_q30
  go_wp2_with fail
  obtain ⟨w55_, hW55⟩ : ∃ W : World, w54_.alloc (.cells #[.int .i64 0, .int .i64 3] 2) = W := ⟨_, rfl⟩
  have hb55 : Below w54_.heap.size w54_ w55_ := by rw [← hW55]; exact (Below.refl _ _).alloc (Nat.le_refl _) _
  have h_q31 : Ri w55_ w55_.heap.size (some ⟨w54_.heap.size, 0, none⟩) 2 ([0, 3] : List Int) := by rw [← hW55]; exact (Oi.lit w54_ #[.int .i64 0, .int .i64 3] 2 [0, 3] rfl rfl (by omega)).ri
  rw [hW55]
  clear hW55
  have B55 : Below w.heap.size w w55_ := B54.trans (hb55.mono S54)
  have S55 : w.heap.size ≤ w55_.heap.size := B55.size
  replace h_g := Ri.next h_g hb55 (Nat.le_refl _) hb55.size
  replace h_l := Ri.next h_l hb55 (Nat.le_refl _) hb55.size
  replace h_p := Ri.next h_p hb55 (Nat.le_refl _) hb55.size
  clear B54 S54
  clear hb55
  refine (aLongsOf _ _).mono ?_
  rintro e w' ⟨rfl, rfl⟩
  go_wp2_with fail
  refine (aLongsT _ _ _ _ _ _ _ _ ([0, 3]) ([0, 3]) _ h_g h_q31 (by omega) (by omega) true (Lib.hid (by decide +kernel))).mono ?_
  rintro e w56_ ⟨rfl, hb56⟩
  have B56 : Below w.heap.size w w56_ := B55.trans (hb56.mono S55)
  have S56 : w.heap.size ≤ w56_.heap.size := B56.size
  replace h_g := Ri.next h_g hb56 (Nat.le_refl _) hb56.size
  replace h_l := Ri.next h_l hb56 (Nat.le_refl _) hb56.size
  replace h_p := Ri.next h_p hb56 (Nat.le_refl _) hb56.size
  replace h_q31 := Ri.next h_q31 hb56 (Nat.le_refl _) hb56.size
  clear B55 S55
  clear hb56
  clear h_g
  clear h_q31
  go_wp2_with fail
  obtain ⟨w57_, hW57⟩ : ∃ W : World, w56_.alloc (.cells #[.int .i64 0, .int .i64 16, .int .i64 32, .int .i64 8, .int .i64 24] 2) = W := ⟨_, rfl⟩
  have hb57 : Below w56_.heap.size w56_ w57_ := by rw [← hW57]; exact (Below.refl _ _).alloc (Nat.le_refl _) _
  have h_q32 : Ri w57_ w57_.heap.size (some ⟨w56_.heap.size, 0, none⟩) 5 ([0, 16, 32, 8, 24] : List Int) := by rw [← hW57]; exact (Oi.lit w56_ #[.int .i64 0, .int .i64 16, .int .i64 32, .int .i64 8, .int .i64 24] 5 [0, 16, 32, 8, 24] rfl rfl (by omega)).ri
  rw [hW57]
  clear hW57
  have B57 : Below w.heap.size w w57_ := B56.trans (hb57.mono S56)
  have S57 : w.heap.size ≤ w57_.heap.size := B57.size
  replace h_l := Ri.next h_l hb57 (Nat.le_refl _) hb57.size
  replace h_p := Ri.next h_p hb57 (Nat.le_refl _) hb57.size
  clear B56 S56
  clear hb57
  refine (aLongsOf _ _).mono ?_
  rintro e w' ⟨rfl, rfl⟩
  go_wp2_with fail
  refine (aLongsT _ _ _ _ _ _ _ _ ([0, 16, 32, 8, 24]) ([0, 16, 32, 8, 24]) _ h_l h_q32 (by omega) (by omega) true (Lib.hid (by decide +kernel))).mono ?_
  rintro e w58_ ⟨rfl, hb58⟩
  have B58 : Below w.heap.size w w58_ := B57.trans (hb58.mono S57)
  have S58 : w.heap.size ≤ w58_.heap.size := B58.size
  replace h_l := Ri.next h_l hb58 (Nat.le_refl _) hb58.size
  replace h_p := Ri.next h_p hb58 (Nat.le_refl _) hb58.size
  replace h_q32 := Ri.next h_q32 hb58 (Nat.le_refl _) hb58.size
  clear B57 S57
  clear hb58
  clear h_l
  clear h_q32
  go_wp2_with fail
  obtain ⟨w59_, hW59⟩ : ∃ W : World, w58_.alloc (.cells #[.int .i64 1, .int .i64 2, .int .i64 0] 2) = W := ⟨_, rfl⟩
  have hb59 : Below w58_.heap.size w58_ w59_ := by rw [← hW59]; exact (Below.refl _ _).alloc (Nat.le_refl _) _
  have h_q33 : Ri w59_ w59_.heap.size (some ⟨w58_.heap.size, 0, none⟩) 3 ([1, 2, 0] : List Int) := by rw [← hW59]; exact (Oi.lit w58_ #[.int .i64 1, .int .i64 2, .int .i64 0] 3 [1, 2, 0] rfl rfl (by omega)).ri
  rw [hW59]
  clear hW59
  have B59 : Below w.heap.size w w59_ := B58.trans (hb59.mono S58)
  have S59 : w.heap.size ≤ w59_.heap.size := B59.size
  replace h_p := Ri.next h_p hb59 (Nat.le_refl _) hb59.size
  clear B58 S58
  clear hb59
  refine (aLongsOf _ _).mono ?_
  rintro e w' ⟨rfl, rfl⟩
  go_wp2_with fail
  refine (aLongsT _ _ _ _ _ _ _ _ ([1, 2, 0]) ([1, 2, 0]) _ h_p h_q33 (by omega) (by omega) true (Lib.hid (by decide +kernel))).mono ?_
  rintro e w60_ ⟨rfl, hb60⟩
  have B60 : Below w.heap.size w w60_ := B59.trans (hb60.mono S59)
  have S60 : w.heap.size ≤ w60_.heap.size := B60.size
  replace h_p := Ri.next h_p hb60 (Nat.le_refl _) hb60.size
  replace h_q33 := Ri.next h_q33 hb60 (Nat.le_refl _) hb60.size
  clear B59 S59
  clear hb60
  clear h_p
  clear h_q33
  go_wp2
  go_ret
  exact ⟨rfl, B60⟩
end Go.Proofs.Ytloibnmhgocboaa
