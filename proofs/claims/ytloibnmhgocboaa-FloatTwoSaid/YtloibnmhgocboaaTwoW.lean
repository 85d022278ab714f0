/-
  FloatTwo: of two kinds, with the values a and b, which have no divisor in common, and are greater than 1, the greatest amount that cannot be paid is a times b, less a, less b, and half of the amounts up to it cannot be paid; of an amount and what is left of the greatest one just one can be paid: for all values and amounts, told by numbers; no condition.
-/
import Derived.Test.YtloibnmhgocboaaWorks
import Derived.Test.YtloibnmhgocboaaRow
import Derived.Test.YtloibnmhgocboaaLw2
import Derived.Test.YtloibnmhgocboaaFaR
namespace Go.Proofs.Ytloibnmhgocboaa
open Go.Shelf Go.ChangeShapes Go.WideShapes Go.ChangeAt Go.RowKit

set_option maxRecDepth 100000 in
set_option maxHeartbeats 8000000 in
theorem wTwo (x y v0 : Int) (hx0 : 0 ≤ x) (hx1 : x ≤ 255) (hy0 : 0 ≤ y) (hy1 : y ≤ 255) (hv0 : 0 ≤ v0) (hv1 : v0 ≤ 65535) (w : World) :
    Calls Try.prog 12 #[.int .u8 x, .int .u8 y, .int .u16 v0] w (RetB w true) := by
  obtain ⟨oa, HOA⟩ : ∃ r : Int, Hid (x % 48 = r) := ⟨_, Lib.hid rfl⟩
  have hoa0 : 0 ≤ oa := by rw [← HOA.out]; omega
  have hoa1 : oa ≤ 47 := by rw [← HOA.out]; omega
  obtain ⟨a, ha⟩ : ∃ a : Nat, 2 + oa = (a : Int) := ⟨(2 + oa).toNat, by omega⟩
  have ha2 : 2 ≤ a := by omega
  have ha49 : a ≤ 49 := by omega
  obtain ⟨dd, hdd⟩ : ∃ d : Int, 50 - (a : Int) = d := ⟨_, rfl⟩
  have hdd0 : 1 ≤ dd := by omega
  have hdd1 : dd ≤ 48 := by omega
  obtain ⟨ob, HOB⟩ : ∃ r : Int, Hid (y % dd = r) := ⟨_, Lib.hid rfl⟩
  have hob0 : 0 ≤ ob := by rw [← HOB.out]; exact Int.emod_nonneg _ (by omega)
  have hob1 : ob < dd := by rw [← HOB.out]; exact Int.emod_lt_of_pos _ (by omega)
  obtain ⟨b, hb⟩ : ∃ b : Nat, (a : Int) + 1 + ob = (b : Int) := ⟨((a : Int) + 1 + ob).toNat, by omega⟩
  have hab : a < b := by omega
  have hb50 : b ≤ 50 := by omega
  have hwx : IntKind.i64.wrap x = x := IntWalk.i64_in _ (by omega)
  have hwy : IntKind.i64.wrap y = y := IntWalk.i64_in _ (by omega)
  have hwv : IntKind.i64.wrap v0 = v0 := IntWalk.i64_in _ (by omega)
  have hx3 : x.tmod 48 = oa := (Int.tmod_eq_emod_of_nonneg hx0).trans HOA.out
  have hx4 : x % 48 = oa := HOA.out
  have hy3 : y.tmod dd = ob := (Int.tmod_eq_emod_of_nonneg hy0).trans HOB.out
  have hy4 : y % dd = ob := HOB.out
  have hwoa : IntKind.i64.wrap oa = oa := IntWalk.i64_in _ (by omega)
  have hwob : IntKind.i64.wrap ob = ob := IntWalk.i64_in _ (by omega)
  have hwa : IntKind.i64.wrap (a : Int) = a := IntWalk.i64_in _ (by omega)
  have hwa1 : IntKind.i64.wrap ((a : Int) + 1) = (a : Int) + 1 := IntWalk.i64_in _ (by omega)
  have hwb : IntKind.i64.wrap (b : Int) = b := IntWalk.i64_in _ (by omega)
  have hwdd : IntKind.i64.wrap dd = dd := IntWalk.i64_in _ (by omega)
  have hdz : (dd == 0) = false := by simp; omega
  have HG : Hid (Good [(a : Int), (b : Int)]) := Lib.hid (good_two ha2 hab hb50)
  obtain ⟨gc, HGC⟩ : ∃ g, Hid (Nat.gcd a b = g) := ⟨_, Lib.hid rfl⟩
  by_cases hgc : gc = 1
  · have hgcf : ((gc : Int) != 1) = false := by simp; omega
    have HLO := Lib.hid (two_low ha2 hab)
    obtain ⟨pr, hpr⟩ : ∃ p, (a : Int) * (b : Int) = p := ⟨_, rfl⟩
    have hpr1 : pr ≤ 2500 := by
      have h1 : (a : Int) * b ≤ 50 * b := Int.mul_le_mul_of_nonneg_right (by omega) (by omega)
      omega
    rw [hpr] at HLO
    have hlo := HLO.out
    obtain ⟨g, hg⟩ : ∃ g : Nat, pr - (a : Int) - (b : Int) = (g : Int) := ⟨(pr - (a : Int) - (b : Int)).toNat, by omega⟩
    have hg1 : 1 ≤ g := by omega
    have hg2 : g ≤ 2500 := by omega
    have hwpr : IntKind.i64.wrap pr = pr := IntWalk.i64_in _ (by omega)
    have hwp1 : IntKind.i64.wrap (pr - (a : Int)) = pr - (a : Int) := IntWalk.i64_in _ (by omega)
    have hwg : IntKind.i64.wrap (g : Int) = g := IntWalk.i64_in _ (by omega)
    have HTW := Lib.hid (two_all ha2 (by omega) hab hb50 (by rw [HGC.out]; exact hgc) (g := g) (by rw [hpr]; exact hg))
    obtain ⟨v, HV⟩ : ∃ v, Hid (manyS [(a : Int), (b : Int)] = (v, 0) ∧ 2 * v = (g : Int) + 1) := let ⟨v, h⟩ := HTW.out.2.1; ⟨v, Lib.hid h⟩
    have HGR : Hid (greatestS [(a : Int), (b : Int)] = ((g : Int), 0)) := Lib.hid HTW.out.1
    have HMA : Hid (manyS [(a : Int), (b : Int)] = (v, 0)) := Lib.hid HV.out.1
    have hv2 : 2 * v = (g : Int) + 1 := HV.out.2
    have hwg1 : IntKind.i64.wrap ((g : Int) + 1) = (g : Int) + 1 := IntWalk.i64_in _ (by omega)
    by_cases hsm : (g : Int) ≤ 300
    · have hmin : min (g : Int) 300 = g := by omega
      obtain ⟨X, HXX⟩ : ∃ X : Nat, Hid (v0 % ((g : Int) + 1) = X) := ⟨(v0 % ((g : Int) + 1)).toNat, Lib.hid (by rw [Int.toNat_of_nonneg (Int.emod_nonneg _ (by omega))])⟩
      have hXg : (X : Int) < (g : Int) + 1 := by rw [← HXX.out]; exact Int.emod_lt_of_pos _ (by omega)
      have hX300 : X ≤ 300 := by omega
      have hXg2 : X ≤ g := by omega
      have hm1 : v0.tmod ((g : Int) + 1) = (X : Int) := (Int.tmod_eq_emod_of_nonneg hv0).trans HXX.out
      have hm2 : v0 % ((g : Int) + 1) = (X : Int) := HXX.out
      have hwX : IntKind.i64.wrap (X : Int) = X := IntWalk.i64_in _ (by omega)
      have hwgX : IntKind.i64.wrap ((g : Int) - (X : Int)) = (g : Int) - (X : Int) := IntWalk.i64_in _ (by omega)
      have hgz : ((g : Int) + 1 == 0) = false := by simp; omega
      go_enter Try.func12, Try.ntmps12
      go_wp2_with fail
      refine (aGcd a b (by omega) (by omega) _ gc HGC).mono ?_
      rintro e w1_ ⟨rfl, d1, hd1⟩
      have hb1 : Below w.heap.size w w1_ := hd1 ▸ below_drewN (Below.refl _ _) _
      clear hd1
      have B1 : Below w.heap.size w w1_ := (Below.refl _ _).trans (hb1.mono (Nat.le_refl _))
      have S1 : w.heap.size ≤ w1_.heap.size := B1.size
      clear hb1
      go_wp2_with fail
      obtain ⟨w2_, hW2⟩ : ∃ W : World, w1_.alloc (.cells #[.int .i64 (a : Int), .int .i64 (b : Int)] 2) = W := ⟨_, rfl⟩
      have hb2 : Below w1_.heap.size w1_ w2_ := by rw [← hW2]; exact (Below.refl _ _).alloc (Nat.le_refl _) _
      have h_z : Ri w2_ w2_.heap.size (some ⟨w1_.heap.size, 0, none⟩) 2 ([(a : Int), (b : Int)] : List Int) := by rw [← hW2]; exact (Oi.lit w1_ #[.int .i64 (a : Int), .int .i64 (b : Int)] 2 [(a : Int), (b : Int)] rfl rfl (by omega)).ri
      rw [hW2]
      clear hW2
      have B2 : Below w.heap.size w w2_ := B1.trans (hb2.mono S1)
      have S2 : w.heap.size ≤ w2_.heap.size := B2.size
      clear B1 S1
      clear hb2
      refine (aLongsOf _ _).mono ?_
      rintro e w' ⟨rfl, rfl⟩
      go_wp2_with fail
      refine (fGreatestT (some ⟨w1_.heap.size, 0, none⟩) 2 2 [(a : Int), (b : Int)] _ h_z (by omega) (Nat.le_refl _) ((g : Int)) (0) HGR).mono ?_
      rintro e w3_ ⟨rfl, hb3⟩
      have B3 : Below w.heap.size w w3_ := B2.trans (hb3.mono S2)
      have S3 : w.heap.size ≤ w3_.heap.size := B3.size
      replace h_z := Ri.next h_z hb3 (Nat.le_refl _) hb3.size
      clear B2 S2
      clear hb3
      clear h_z
      go_wp2_with fail
      obtain ⟨w4_, hW4⟩ : ∃ W : World, w3_.alloc (.cells #[.int .i64 (a : Int), .int .i64 (b : Int)] 2) = W := ⟨_, rfl⟩
      have hb4 : Below w3_.heap.size w3_ w4_ := by rw [← hW4]; exact (Below.refl _ _).alloc (Nat.le_refl _) _
      have h_z : Ri w4_ w4_.heap.size (some ⟨w3_.heap.size, 0, none⟩) 2 ([(a : Int), (b : Int)] : List Int) := by rw [← hW4]; exact (Oi.lit w3_ #[.int .i64 (a : Int), .int .i64 (b : Int)] 2 [(a : Int), (b : Int)] rfl rfl (by omega)).ri
      rw [hW4]
      clear hW4
      have B4 : Below w.heap.size w w4_ := B3.trans (hb4.mono S3)
      have S4 : w.heap.size ≤ w4_.heap.size := B4.size
      clear B3 S3
      clear hb4
      refine (aLongsOf _ _).mono ?_
      rintro e w' ⟨rfl, rfl⟩
      go_wp2_with fail
      refine (fManyT (some ⟨w3_.heap.size, 0, none⟩) 2 2 [(a : Int), (b : Int)] _ h_z (by omega) (Nat.le_refl _) (v) (0) HMA).mono ?_
      rintro e w5_ ⟨rfl, hb5⟩
      have B5 : Below w.heap.size w w5_ := B4.trans (hb5.mono S4)
      have S5 : w.heap.size ≤ w5_.heap.size := B5.size
      replace h_z := Ri.next h_z hb5 (Nat.le_refl _) hb5.size
      clear B4 S4
      clear hb5
      clear h_z
      by_cases hbig : 300 < (g : Int) - X
      · skip
        omega
      · skip
        obtain ⟨Y, HYY⟩ : ∃ Y : Nat, Hid (X + Y = g) := ⟨g - X, Lib.hid (by omega)⟩
        have hY1 : (g : Int) - X = (Y : Int) := by have := HYY.out; omega
        have hY : Y ≤ 300 := by omega
        obtain ⟨m1, HP1⟩ : ∃ m, Hid (paidV [(a : Int), (b : Int)] (X : Int) = (m, decide (0 ≤ few [(a : Int), (b : Int)] X))) := let ⟨m, h⟩ := paid_can; ⟨m, Lib.hid h⟩
        obtain ⟨m2, HP2⟩ : ∃ m, Hid (paidV [(a : Int), (b : Int)] (Y : Int) = (m, decide (0 ≤ few [(a : Int), (b : Int)] Y))) := let ⟨m, h⟩ := paid_can; ⟨m, Lib.hid h⟩
        have HFL := Lib.hid (HTW.out.2.2 X Y HYY.out)
        have hwY : IntKind.i64.wrap (Y : Int) = Y := IntWalk.i64_in _ (by omega)
        have HAX : Hid (amountE [(a : Int), (b : Int)] (X : Int) = 0) := Lib.hid (amountE_nat HG.out (by omega))
        have HAY : Hid (amountE [(a : Int), (b : Int)] (Y : Int) = 0) := Lib.hid (amountE_nat HG.out hY)
        obtain ⟨p1, HB1⟩ : ∃ z, Hid (decide (0 ≤ few [(a : Int), (b : Int)] X) = z) := ⟨_, Lib.hid rfl⟩
        obtain ⟨p2, HB2⟩ : ∃ z, Hid (decide (0 ≤ few [(a : Int), (b : Int)] Y) = z) := ⟨_, Lib.hid rfl⟩
        rw [HB1.out] at HP1
        rw [HB2.out] at HP2
        have HNE : Hid (p2 = !p1) := Lib.hid (by
          have h := HFL.out
          unfold can at h
          rw [← HB1.out, ← HB2.out]
          by_cases h2 : 0 ≤ few [(a : Int), (b : Int)] Y
          · rw [decide_eq_true h2, decide_eq_false (fun h3 => h.1 h3 h2)]; rfl
          · rw [decide_eq_false h2, decide_eq_true (h.2 h2)]; rfl)
        obtain rfl : p2 = !p1 := HNE.out
        clear HB2
        go_wp2_with fail
        obtain ⟨w6_, hW6⟩ : ∃ W : World, w5_.alloc (.cells #[.int .i64 (a : Int), .int .i64 (b : Int)] 2) = W := ⟨_, rfl⟩
        have hb6 : Below w5_.heap.size w5_ w6_ := by rw [← hW6]; exact (Below.refl _ _).alloc (Nat.le_refl _) _
        have h_z : Ri w6_ w6_.heap.size (some ⟨w5_.heap.size, 0, none⟩) 2 ([(a : Int), (b : Int)] : List Int) := by rw [← hW6]; exact (Oi.lit w5_ #[.int .i64 (a : Int), .int .i64 (b : Int)] 2 [(a : Int), (b : Int)] rfl rfl (by omega)).ri
        rw [hW6]
        clear hW6
        have B6 : Below w.heap.size w w6_ := B5.trans (hb6.mono S5)
        have S6 : w.heap.size ≤ w6_.heap.size := B6.size
        clear B5 S5
        clear hb6
        refine (aLongsOf _ _).mono ?_
        rintro e w' ⟨rfl, rfl⟩
        go_wp2_with fail
        refine (aPaid (some ⟨w5_.heap.size, 0, none⟩) 2 2 [(a : Int), (b : Int)] (X : Int) _ h_z (by omega) (Nat.le_refl _) HAX (m1) (p1) HP1).mono ?_
        rintro e w7_ ⟨rfl, hb7⟩
        have B7 : Below w.heap.size w w7_ := B6.trans (hb7.mono S6)
        have S7 : w.heap.size ≤ w7_.heap.size := B7.size
        replace h_z := Ri.next h_z hb7 (Nat.le_refl _) hb7.size
        clear B6 S6
        clear hb7
        clear h_z
        go_wp2_with fail
        obtain ⟨w8_, hW8⟩ : ∃ W : World, w7_.alloc (.cells #[.int .i64 (a : Int), .int .i64 (b : Int)] 2) = W := ⟨_, rfl⟩
        have hb8 : Below w7_.heap.size w7_ w8_ := by rw [← hW8]; exact (Below.refl _ _).alloc (Nat.le_refl _) _
        have h_z : Ri w8_ w8_.heap.size (some ⟨w7_.heap.size, 0, none⟩) 2 ([(a : Int), (b : Int)] : List Int) := by rw [← hW8]; exact (Oi.lit w7_ #[.int .i64 (a : Int), .int .i64 (b : Int)] 2 [(a : Int), (b : Int)] rfl rfl (by omega)).ri
        rw [hW8]
        clear hW8
        have B8 : Below w.heap.size w w8_ := B7.trans (hb8.mono S7)
        have S8 : w.heap.size ≤ w8_.heap.size := B8.size
        clear B7 S7
        clear hb8
        refine (aLongsOf _ _).mono ?_
        rintro e w' ⟨rfl, rfl⟩
        go_wp2_with fail
        refine (aPaid (some ⟨w7_.heap.size, 0, none⟩) 2 2 [(a : Int), (b : Int)] (Y : Int) _ h_z (by omega) (Nat.le_refl _) HAY (m2) (!p1) HP2).mono ?_
        rintro e w9_ ⟨rfl, hb9⟩
        have B9 : Below w.heap.size w w9_ := B8.trans (hb9.mono S8)
        have S9 : w.heap.size ≤ w9_.heap.size := B9.size
        replace h_z := Ri.next h_z hb9 (Nat.le_refl _) hb9.size
        clear B8 S8
        clear hb9
        clear h_z
        have hbn : (p1 != !p1) = true := by cases p1 <;> rfl
        go_wp2_with fail
        refine (aWorks _).mono ?_
        rintro e w10_ ⟨rfl, hb10⟩
        have B10 : Below w.heap.size w w10_ := B9.trans (hb10.mono S9)
        have S10 : w.heap.size ≤ w10_.heap.size := B10.size
        clear B9 S9
        clear hb10
        go_wp2
        go_ret
        exact ⟨rfl, B10⟩
    · have hmin : min (g : Int) 300 = 300 := by omega
      obtain ⟨X, HXX⟩ : ∃ X : Nat, Hid (v0 % 301 = X) := ⟨(v0 % 301).toNat, Lib.hid (by omega)⟩
      have hX300 : X ≤ 300 := by have := HXX.out; omega
      have hXg2 : X ≤ g := by omega
      have hm1 : v0.tmod 301 = (X : Int) := (Int.tmod_eq_emod_of_nonneg hv0).trans HXX.out
      have hm2 : v0 % 301 = (X : Int) := HXX.out
      have hwX : IntKind.i64.wrap (X : Int) = X := IntWalk.i64_in _ (by omega)
      have hwgX : IntKind.i64.wrap ((g : Int) - (X : Int)) = (g : Int) - (X : Int) := IntWalk.i64_in _ (by omega)
      go_enter Try.func12, Try.ntmps12
      go_wp2_with fail
      refine (aGcd a b (by omega) (by omega) _ gc HGC).mono ?_
      rintro e w1_ ⟨rfl, d1, hd1⟩
      have hb1 : Below w.heap.size w w1_ := hd1 ▸ below_drewN (Below.refl _ _) _
      clear hd1
      have B1 : Below w.heap.size w w1_ := (Below.refl _ _).trans (hb1.mono (Nat.le_refl _))
      have S1 : w.heap.size ≤ w1_.heap.size := B1.size
      clear hb1
      go_wp2_with fail
      obtain ⟨w2_, hW2⟩ : ∃ W : World, w1_.alloc (.cells #[.int .i64 (a : Int), .int .i64 (b : Int)] 2) = W := ⟨_, rfl⟩
      have hb2 : Below w1_.heap.size w1_ w2_ := by rw [← hW2]; exact (Below.refl _ _).alloc (Nat.le_refl _) _
      have h_z : Ri w2_ w2_.heap.size (some ⟨w1_.heap.size, 0, none⟩) 2 ([(a : Int), (b : Int)] : List Int) := by rw [← hW2]; exact (Oi.lit w1_ #[.int .i64 (a : Int), .int .i64 (b : Int)] 2 [(a : Int), (b : Int)] rfl rfl (by omega)).ri
      rw [hW2]
      clear hW2
      have B2 : Below w.heap.size w w2_ := B1.trans (hb2.mono S1)
      have S2 : w.heap.size ≤ w2_.heap.size := B2.size
      clear B1 S1
      clear hb2
      refine (aLongsOf _ _).mono ?_
      rintro e w' ⟨rfl, rfl⟩
      go_wp2_with fail
      refine (fGreatestT (some ⟨w1_.heap.size, 0, none⟩) 2 2 [(a : Int), (b : Int)] _ h_z (by omega) (Nat.le_refl _) ((g : Int)) (0) HGR).mono ?_
      rintro e w3_ ⟨rfl, hb3⟩
      have B3 : Below w.heap.size w w3_ := B2.trans (hb3.mono S2)
      have S3 : w.heap.size ≤ w3_.heap.size := B3.size
      replace h_z := Ri.next h_z hb3 (Nat.le_refl _) hb3.size
      clear B2 S2
      clear hb3
      clear h_z
      go_wp2_with fail
      obtain ⟨w4_, hW4⟩ : ∃ W : World, w3_.alloc (.cells #[.int .i64 (a : Int), .int .i64 (b : Int)] 2) = W := ⟨_, rfl⟩
      have hb4 : Below w3_.heap.size w3_ w4_ := by rw [← hW4]; exact (Below.refl _ _).alloc (Nat.le_refl _) _
      have h_z : Ri w4_ w4_.heap.size (some ⟨w3_.heap.size, 0, none⟩) 2 ([(a : Int), (b : Int)] : List Int) := by rw [← hW4]; exact (Oi.lit w3_ #[.int .i64 (a : Int), .int .i64 (b : Int)] 2 [(a : Int), (b : Int)] rfl rfl (by omega)).ri
      rw [hW4]
      clear hW4
      have B4 : Below w.heap.size w w4_ := B3.trans (hb4.mono S3)
      have S4 : w.heap.size ≤ w4_.heap.size := B4.size
      clear B3 S3
      clear hb4
      refine (aLongsOf _ _).mono ?_
      rintro e w' ⟨rfl, rfl⟩
      go_wp2_with fail
      refine (fManyT (some ⟨w3_.heap.size, 0, none⟩) 2 2 [(a : Int), (b : Int)] _ h_z (by omega) (Nat.le_refl _) (v) (0) HMA).mono ?_
      rintro e w5_ ⟨rfl, hb5⟩
      have B5 : Below w.heap.size w w5_ := B4.trans (hb5.mono S4)
      have S5 : w.heap.size ≤ w5_.heap.size := B5.size
      replace h_z := Ri.next h_z hb5 (Nat.le_refl _) hb5.size
      clear B4 S4
      clear hb5
      clear h_z
      by_cases hbig : 300 < (g : Int) - X
      · skip
        go_wp2_with fail
        refine (aWorks _).mono ?_
        rintro e w6_ ⟨rfl, hb6⟩
        have B6 : Below w.heap.size w w6_ := B5.trans (hb6.mono S5)
        have S6 : w.heap.size ≤ w6_.heap.size := B6.size
        clear B5 S5
        clear hb6
        go_wp2
        go_ret
        exact ⟨rfl, B6⟩
      · skip
        obtain ⟨Y, HYY⟩ : ∃ Y : Nat, Hid (X + Y = g) := ⟨g - X, Lib.hid (by omega)⟩
        have hY1 : (g : Int) - X = (Y : Int) := by have := HYY.out; omega
        have hY : Y ≤ 300 := by omega
        obtain ⟨m1, HP1⟩ : ∃ m, Hid (paidV [(a : Int), (b : Int)] (X : Int) = (m, decide (0 ≤ few [(a : Int), (b : Int)] X))) := let ⟨m, h⟩ := paid_can; ⟨m, Lib.hid h⟩
        obtain ⟨m2, HP2⟩ : ∃ m, Hid (paidV [(a : Int), (b : Int)] (Y : Int) = (m, decide (0 ≤ few [(a : Int), (b : Int)] Y))) := let ⟨m, h⟩ := paid_can; ⟨m, Lib.hid h⟩
        have HFL := Lib.hid (HTW.out.2.2 X Y HYY.out)
        have hwY : IntKind.i64.wrap (Y : Int) = Y := IntWalk.i64_in _ (by omega)
        have HAX : Hid (amountE [(a : Int), (b : Int)] (X : Int) = 0) := Lib.hid (amountE_nat HG.out (by omega))
        have HAY : Hid (amountE [(a : Int), (b : Int)] (Y : Int) = 0) := Lib.hid (amountE_nat HG.out hY)
        obtain ⟨p1, HB1⟩ : ∃ z, Hid (decide (0 ≤ few [(a : Int), (b : Int)] X) = z) := ⟨_, Lib.hid rfl⟩
        obtain ⟨p2, HB2⟩ : ∃ z, Hid (decide (0 ≤ few [(a : Int), (b : Int)] Y) = z) := ⟨_, Lib.hid rfl⟩
        rw [HB1.out] at HP1
        rw [HB2.out] at HP2
        have HNE : Hid (p2 = !p1) := Lib.hid (by
          have h := HFL.out
          unfold can at h
          rw [← HB1.out, ← HB2.out]
          by_cases h2 : 0 ≤ few [(a : Int), (b : Int)] Y
          · rw [decide_eq_true h2, decide_eq_false (fun h3 => h.1 h3 h2)]; rfl
          · rw [decide_eq_false h2, decide_eq_true (h.2 h2)]; rfl)
        obtain rfl : p2 = !p1 := HNE.out
        clear HB2
        go_wp2_with fail
        obtain ⟨w6_, hW6⟩ : ∃ W : World, w5_.alloc (.cells #[.int .i64 (a : Int), .int .i64 (b : Int)] 2) = W := ⟨_, rfl⟩
        have hb6 : Below w5_.heap.size w5_ w6_ := by rw [← hW6]; exact (Below.refl _ _).alloc (Nat.le_refl _) _
        have h_z : Ri w6_ w6_.heap.size (some ⟨w5_.heap.size, 0, none⟩) 2 ([(a : Int), (b : Int)] : List Int) := by rw [← hW6]; exact (Oi.lit w5_ #[.int .i64 (a : Int), .int .i64 (b : Int)] 2 [(a : Int), (b : Int)] rfl rfl (by omega)).ri
        rw [hW6]
        clear hW6
        have B6 : Below w.heap.size w w6_ := B5.trans (hb6.mono S5)
        have S6 : w.heap.size ≤ w6_.heap.size := B6.size
        clear B5 S5
        clear hb6
        refine (aLongsOf _ _).mono ?_
        rintro e w' ⟨rfl, rfl⟩
        go_wp2_with fail
        refine (aPaid (some ⟨w5_.heap.size, 0, none⟩) 2 2 [(a : Int), (b : Int)] (X : Int) _ h_z (by omega) (Nat.le_refl _) HAX (m1) (p1) HP1).mono ?_
        rintro e w7_ ⟨rfl, hb7⟩
        have B7 : Below w.heap.size w w7_ := B6.trans (hb7.mono S6)
        have S7 : w.heap.size ≤ w7_.heap.size := B7.size
        replace h_z := Ri.next h_z hb7 (Nat.le_refl _) hb7.size
        clear B6 S6
        clear hb7
        clear h_z
        go_wp2_with fail
        obtain ⟨w8_, hW8⟩ : ∃ W : World, w7_.alloc (.cells #[.int .i64 (a : Int), .int .i64 (b : Int)] 2) = W := ⟨_, rfl⟩
        have hb8 : Below w7_.heap.size w7_ w8_ := by rw [← hW8]; exact (Below.refl _ _).alloc (Nat.le_refl _) _
        have h_z : Ri w8_ w8_.heap.size (some ⟨w7_.heap.size, 0, none⟩) 2 ([(a : Int), (b : Int)] : List Int) := by rw [← hW8]; exact (Oi.lit w7_ #[.int .i64 (a : Int), .int .i64 (b : Int)] 2 [(a : Int), (b : Int)] rfl rfl (by omega)).ri
        rw [hW8]
        clear hW8
        have B8 : Below w.heap.size w w8_ := B7.trans (hb8.mono S7)
        have S8 : w.heap.size ≤ w8_.heap.size := B8.size
        clear B7 S7
        clear hb8
        refine (aLongsOf _ _).mono ?_
        rintro e w' ⟨rfl, rfl⟩
        go_wp2_with fail
        refine (aPaid (some ⟨w7_.heap.size, 0, none⟩) 2 2 [(a : Int), (b : Int)] (Y : Int) _ h_z (by omega) (Nat.le_refl _) HAY (m2) (!p1) HP2).mono ?_
        rintro e w9_ ⟨rfl, hb9⟩
        have B9 : Below w.heap.size w w9_ := B8.trans (hb9.mono S8)
        have S9 : w.heap.size ≤ w9_.heap.size := B9.size
        replace h_z := Ri.next h_z hb9 (Nat.le_refl _) hb9.size
        clear B8 S8
        clear hb9
        clear h_z
        have hbn : (p1 != !p1) = true := by cases p1 <;> rfl
        go_wp2_with fail
        refine (aWorks _).mono ?_
        rintro e w10_ ⟨rfl, hb10⟩
        have B10 : Below w.heap.size w w10_ := B9.trans (hb10.mono S9)
        have S10 : w.heap.size ≤ w10_.heap.size := B10.size
        clear B9 S9
        clear hb10
        go_wp2
        go_ret
        exact ⟨rfl, B10⟩
  · have hgcf : ((gc : Int) != 1) = true := by simp; omega
    have HE : Hid (greatestS [(a : Int), (b : Int)] = (0, 4)) := Lib.hid (two_end ha2 hab hb50 (by rw [HGC.out]; exact hgc))
    go_enter Try.func12, Try.ntmps12
    go_wp2_with fail
    refine (aGcd a b (by omega) (by omega) _ gc HGC).mono ?_
    rintro e w1_ ⟨rfl, d1, hd1⟩
    have hb1 : Below w.heap.size w w1_ := hd1 ▸ below_drewN (Below.refl _ _) _
    clear hd1
    have B1 : Below w.heap.size w w1_ := (Below.refl _ _).trans (hb1.mono (Nat.le_refl _))
    have S1 : w.heap.size ≤ w1_.heap.size := B1.size
    clear hb1
    go_wp2_with fail
    obtain ⟨w2_, hW2⟩ : ∃ W : World, w1_.alloc (.cells #[.int .i64 (a : Int), .int .i64 (b : Int)] 2) = W := ⟨_, rfl⟩
    have hb2 : Below w1_.heap.size w1_ w2_ := by rw [← hW2]; exact (Below.refl _ _).alloc (Nat.le_refl _) _
    have h_z : Ri w2_ w2_.heap.size (some ⟨w1_.heap.size, 0, none⟩) 2 ([(a : Int), (b : Int)] : List Int) := by rw [← hW2]; exact (Oi.lit w1_ #[.int .i64 (a : Int), .int .i64 (b : Int)] 2 [(a : Int), (b : Int)] rfl rfl (by omega)).ri
    rw [hW2]
    clear hW2
    have B2 : Below w.heap.size w w2_ := B1.trans (hb2.mono S1)
    have S2 : w.heap.size ≤ w2_.heap.size := B2.size
    clear B1 S1
    clear hb2
    refine (aLongsOf _ _).mono ?_
    rintro e w' ⟨rfl, rfl⟩
    go_wp2_with fail
    refine (fGreatestT (some ⟨w1_.heap.size, 0, none⟩) 2 2 [(a : Int), (b : Int)] _ h_z (by omega) (Nat.le_refl _) (0) (4) HE).mono ?_
    rintro e w3_ ⟨rfl, hb3⟩
    have B3 : Below w.heap.size w w3_ := B2.trans (hb3.mono S2)
    have S3 : w.heap.size ≤ w3_.heap.size := B3.size
    replace h_z := Ri.next h_z hb3 (Nat.le_refl _) hb3.size
    clear B2 S2
    clear hb3
    clear h_z
    go_wp2_with fail
    refine (aWorks _).mono ?_
    rintro e w4_ ⟨rfl, hb4⟩
    have B4 : Below w.heap.size w w4_ := B3.trans (hb4.mono S3)
    have S4 : w.heap.size ≤ w4_.heap.size := B4.size
    clear B3 S3
    clear hb4
    go_wp2
    go_ret
    exact ⟨rfl, B4⟩

set_option maxRecDepth 100000 in
theorem FloatTwo_lifted (os : Os) (started : os.Started) (H : Type) (enc : TypeId × Value → H) :
    ReturnsInHanded {} Try.checked os 12 .any (Rows.floatTwoSpec.pre6 enc Try.prog Try.f12 Rows.floatTwoRow.domain false) (Rows.floatTwoSpec.post enc Try.prog Try.f12 false true false false) := by
  refine returnsInHanded_of_change (C := Try.checked) row_own started (by kernel_rfl) Try.func12
    (ChangeSpec.witness6 (enc := enc) (C := Try.checked) false ⟨#[], #[.int .u8 0, .int .u8 0, .int .u16 0], []⟩ 8 (by kernel_rfl) (by kernel_rfl) (by kernel_rfl) (by kernel_rfl)) ?_
  intro W base args ds gs before hval0 hW _ _
  have hval : ∀ (j : Nat) t v, Try.f12.params[j]? = some t → args[j]? = some v → Value.okWide Try.prog W .any base t v := hval0
  have hW' := hW
  obtain ⟨p, q, hA0, hV, rfl, _, _⟩ := hW
  have hA : DataW.TrodAll enc Try.prog W 0 (fun _ => true) true Try.f12.params.toList args.toList ds p := hA0
  rw [Try.params12] at hA hval
  obtain ⟨v0, v1, v2, d0, d1, d2, p0, p1, p2, rfl, rfl, rfl, h0, h1, h2⟩ := trodAll_three hA
  obtain ⟨rfl, rfl⟩ := trodVars_none hV
  clear hA0 hval0
  simp only [List.append_nil] at hW'
  have hlt : ∀ x ∈ (p0 ++ p1 ++ p2), x.block < W.heap.size := fun x hx => by simpa using hW'.lt x hx
  have a0 := fun W' (hb : Below W.heap.size W W') => row_stays (t := 5) (by kernel_rfl) (of_decide_eq_true (by kernel_rfl)) h0 (fun x hx => hlt x (by simp [hx])) hb
  have a1 := fun W' (hb : Below W.heap.size W W') => row_stays (t := 5) (by kernel_rfl) (of_decide_eq_true (by kernel_rfl)) h1 (fun x hx => hlt x (by simp [hx])) hb
  have a2 := fun W' (hb : Below W.heap.size W W') => row_stays (t := 44) (by kernel_rfl) (of_decide_eq_true (by kernel_rfl)) h2 (fun x hx => hlt x (by simp [hx])) hb
  obtain ⟨x0, rfl, _, _, wx0⟩ := open_int (P := Try.prog) (k := .u8) (t := 5) (by kernel_rfl) (hval 0 5 v0 rfl rfl) h0
  obtain ⟨x1, rfl, _, _, wx1⟩ := open_int (P := Try.prog) (k := .u8) (t := 5) (by kernel_rfl) (hval 1 5 v1 rfl rfl) h1
  obtain ⟨x2, rfl, _, _, wx2⟩ := open_int (P := Try.prog) (k := .u16) (t := 44) (by kernel_rfl) (hval 2 44 v2 rfl rfl) h2
  refine (wTwo x0 x1 x2 (u8_lo wx0) (u8_hi wx0) (u8_lo wx1) (u8_hi wx1) (u16_lo wx2) (u16_hi wx2) W).mono fun e W' ⟨he, hb⟩ => ?_
  subst he
  exact ⟨_, rfl, _, _, _, [], (p0 ++ p1 ++ p2), [], hW', trodAll_mk1 (shut_bool Try.underlying4 true), (by simp only [List.append_assoc]; exact trodAll_mk3 (a0 _ hb) (a1 _ hb) (a2 _ hb)), rfl, hb.frame _, fun h => by cases h⟩
theorem FloatTwo_holds : Rows.FloatTwoSaid :=
  OpenClaim.holds_of_wide 12 Try.f12 rfl rfl rfl rfl rfl rfl rfl ⟨rfl, rfl, rfl, rfl, rfl⟩ rfl rfl rfl rfl rfl (by kernel_rfl) Try.func12 (by kernel_rfl)
    (of_decide_eq_true (by kernel_rfl)) (by unfold Func.isWrapper; first | (rw [if_pos (by decide +kernel)]; kernel_rfl) | (rw [if_neg (by decide +kernel)]; exact ⟨rfl, rfl⟩))
    (fun os started H enc _ => FloatTwo_lifted os started H enc)
#print axioms FloatTwo_holds
end Go.Proofs.Ytloibnmhgocboaa
