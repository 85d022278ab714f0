/-
  FloatProved: no given change of an amount has fewer coins than its height, by given right heights, nor than the best change; the heights that are returned are right, and tell how many coins this has: for all lists of coins, change and heights, and every amount, told by a number; no condition.
-/
import Derived.Test.YtloibnmhgocboaaWorks
import Derived.Test.YtloibnmhgocboaaRow
import Derived.Test.YtloibnmhgocboaaLw2
import Derived.Test.YtloibnmhgocboaaR1
import Derived.Test.YtloibnmhgocboaaR2
import Derived.Test.YtloibnmhgocboaaR3
import Derived.Test.YtloibnmhgocboaaR4
import Derived.Test.YtloibnmhgocboaaR5
import Derived.Test.YtloibnmhgocboaaR6
import Derived.Test.YtloibnmhgocboaaR7
import Derived.Test.YtloibnmhgocboaaR8
namespace Go.Proofs.Ytloibnmhgocboaa
open Go.Shelf Go.ChangeShapes Go.WideShapes Go.ChangeAt Go.RowKit

set_option maxRecDepth 100000 in
set_option maxHeartbeats 4000000 in
theorem wProved (A : Option Addr) (n c : Nat) (cs : List Int) (D : Option Addr) (nv cv : Nat) (vs : List Int) (E : Option Addr) (nh ch : Nat) (hs : List Int) (x : Int) (hx0 : 0 ≤ x) (hx1 : x ≤ 65535) (w : World) (hx : Ri w w.heap.size A n cs) (hy : Ri w w.heap.size D nv vs) (hz : Ri w w.heap.size E nh hs) (hc : n ≤ c) (hce : nh ≤ ch) :
    Calls Try.prog 9 #[.slice A n c, .slice D nv cv, .slice E nh ch, .int .u16 x] w (RetB w true) := by
  by_cases hf : checkCoins cs = 0
  · have HF : Hid (decide (checkCoins cs = 0) = true) := Lib.hid (decide_eq_true hf)
    have HG : Hid (Good cs) := Lib.hid (checkCoins_good.1 hf)
    have HL := Lib.hid hx.len
    have hn1 : 1 ≤ n := by rw [← HL.out]; exact HG.out.lo
    have hn5 : n ≤ 5 := by rw [← HL.out]; exact HG.out.hi
    clear hf
    have h_d := hx
    have h_v := hy
    have h_e := hz
    by_cases hg2 : 10 < nv
    · have HG2 : Hid (decide (10 < nv) = true) := Lib.hid (decide_eq_true hg2)
      go_enter Try.func9, Try.ntmps9
      go_wp2_with fail
      refine (aFin A n c _ cs _ h_d _ HF).mono ?_
      rintro e w1_ ⟨rfl, d1, hd1⟩
      have hb1 : Below w.heap.size w w1_ := hd1 ▸ below_drewN (Below.refl _ _) _
      clear hd1
      have B1 : Below w.heap.size w w1_ := (Below.refl _ _).trans (hb1.mono (Nat.le_refl _))
      have S1 : w.heap.size ≤ w1_.heap.size := B1.size
      replace h_d := Ri.next h_d hb1 (Nat.le_refl _) hb1.size
      replace h_v := Ri.next h_v hb1 (Nat.le_refl _) hb1.size
      replace h_e := Ri.next h_e hb1 (Nat.le_refl _) hb1.size
      clear hb1
      go_wp2_with fail
      refine (aGreat _ _ _ _ _ HG2).mono ?_
      rintro e w' ⟨rfl, rfl⟩
      go_wp2_with fail
      refine (aWorks _).mono ?_
      rintro e w2_ ⟨rfl, hb2⟩
      have B2 : Below w.heap.size w w2_ := B1.trans (hb2.mono S1)
      have S2 : w.heap.size ≤ w2_.heap.size := B2.size
      replace h_d := Ri.next h_d hb2 (Nat.le_refl _) hb2.size
      replace h_v := Ri.next h_v hb2 (Nat.le_refl _) hb2.size
      replace h_e := Ri.next h_e hb2 (Nat.le_refl _) hb2.size
      clear B1 S1
      clear hb2
      go_wp2
      go_ret
      exact ⟨rfl, B2⟩
    · have HG2 : Hid (decide (10 < nv) = false) := Lib.hid (decide_eq_false hg2)
      by_cases hg3 : 320 < nh
      · go_enter Try.func9, Try.ntmps9
        go_wp2_with fail
        refine (aFin A n c _ cs _ h_d _ HF).mono ?_
        rintro e w1_ ⟨rfl, d1, hd1⟩
        have hb1 : Below w.heap.size w w1_ := hd1 ▸ below_drewN (Below.refl _ _) _
        clear hd1
        have B1 : Below w.heap.size w w1_ := (Below.refl _ _).trans (hb1.mono (Nat.le_refl _))
        have S1 : w.heap.size ≤ w1_.heap.size := B1.size
        replace h_d := Ri.next h_d hb1 (Nat.le_refl _) hb1.size
        replace h_v := Ri.next h_v hb1 (Nat.le_refl _) hb1.size
        replace h_e := Ri.next h_e hb1 (Nat.le_refl _) hb1.size
        clear hb1
        go_wp2_with fail
        refine (aGreat _ _ _ _ _ HG2).mono ?_
        rintro e w' ⟨rfl, rfl⟩
        go_wp2_with fail
        refine (aWorks _).mono ?_
        rintro e w2_ ⟨rfl, hb2⟩
        have B2 : Below w.heap.size w w2_ := B1.trans (hb2.mono S1)
        have S2 : w.heap.size ≤ w2_.heap.size := B2.size
        replace h_d := Ri.next h_d hb2 (Nat.le_refl _) hb2.size
        replace h_v := Ri.next h_v hb2 (Nat.le_refl _) hb2.size
        replace h_e := Ri.next h_e hb2 (Nat.le_refl _) hb2.size
        clear B1 S1
        clear hb2
        go_wp2
        go_ret
        exact ⟨rfl, B2⟩
      · skip
        obtain ⟨N, HN⟩ : ∃ N : Nat, Hid (x % 301 = (N : Int)) := ⟨(x % 301).toNat, Lib.hid (by omega)⟩
        have hN : N ≤ 300 := by have := HN.out; omega
        have HAN : Hid (amountE cs (N : Int) = 0) := Lib.hid (amountE_nat HG.out hN)
        have HLA := Lib.hid (heights_at HG.out hN)
        obtain ⟨L, HLX⟩ : ∃ L, Hid (heightsL cs N = L) := ⟨_, Lib.hid rfl⟩
        have HH : Hid (heightsS cs (N : Int) = (L, 0)) := Lib.hid (by rw [HLA.out.1, HLX.out])
        have HLL : Hid (L.length = N + 1) := Lib.hid (by rw [← HLX.out]; exact HLA.out.2.1)
        have HLN : Hid (nth L N = highOf (few cs N)) := Lib.hid (by rw [← HLX.out]; exact HLA.out.2.2)
        have HCH : Hid (checkHeights cs L = 0) := Lib.hid (by rw [← HLX.out]; exact heights_right HG.out hN)
        obtain ⟨a, m2, r, HCC⟩ : ∃ a m r, Hid (changeCS cs vs = (a, m, r)) := ⟨_, _, _, Lib.hid rfl⟩
        obtain ⟨q, HQ⟩ : ∃ q, Hid (checkHeights cs hs = q) := ⟨_, Lib.hid rfl⟩
        by_cases hcan : few cs N < 0
        · skip
          have HP : Hid (paidV cs (N : Int) = (0, false)) := Lib.hid (paid_no hcan)
          skip
          go_enter Try.func9, Try.ntmps9
          go_wp2_with fail
          refine (aFin A n c _ cs _ h_d _ HF).mono ?_
          rintro e w1_ ⟨rfl, d1, hd1⟩
          have hb1 : Below w.heap.size w w1_ := hd1 ▸ below_drewN (Below.refl _ _) _
          clear hd1
          have B1 : Below w.heap.size w w1_ := (Below.refl _ _).trans (hb1.mono (Nat.le_refl _))
          have S1 : w.heap.size ≤ w1_.heap.size := B1.size
          replace h_d := Ri.next h_d hb1 (Nat.le_refl _) hb1.size
          replace h_v := Ri.next h_v hb1 (Nat.le_refl _) hb1.size
          replace h_e := Ri.next h_e hb1 (Nat.le_refl _) hb1.size
          clear hb1
          go_wp2_with fail
          refine (aGreat _ _ _ _ _ HG2).mono ?_
          rintro e w' ⟨rfl, rfl⟩
          go_wp2_with fail
          refine (aAmt x hx0 hx1 N HN _).mono ?_
          rintro e w' ⟨rfl, rfl⟩
          go_wp2_with fail
          refine (aPaid A n c cs (N : Int) _ h_d (by omega) hc HAN 0 false HP).mono ?_
          rintro e w2_ ⟨rfl, hb2⟩
          have B2 : Below w.heap.size w w2_ := B1.trans (hb2.mono S1)
          have S2 : w.heap.size ≤ w2_.heap.size := B2.size
          replace h_d := Ri.next h_d hb2 (Nat.le_refl _) hb2.size
          replace h_v := Ri.next h_v hb2 (Nat.le_refl _) hb2.size
          replace h_e := Ri.next h_e hb2 (Nat.le_refl _) hb2.size
          clear B1 S1
          clear hb2
          go_wp2_with fail
          refine (fHeightsT A n c cs (N : Int) _ h_d (by omega) hc L 0 HH).mono ?_
          rintro e w3_ ⟨A3, n3, c3, rfl, ho3, hb3⟩
          have B3 : Below w.heap.size w w3_ := B2.trans (hb3.mono S2)
          have S3 : w.heap.size ≤ w3_.heap.size := B3.size
          replace h_d := Ri.next h_d hb3 (Nat.le_refl _) hb3.size
          replace h_v := Ri.next h_v hb3 (Nat.le_refl _) hb3.size
          replace h_e := Ri.next h_e hb3 (Nat.le_refl _) hb3.size
          clear B2 S2
          have h_l := ho3.ri
          have m_l := ho3.most
          have k_l := ho3.cap
          clear ho3
          clear hb3
          have HNL : Hid (n3 = N + 1) := Lib.hid (by rw [← h_l.len]; exact HLL.out)
          have hs1 : (N : Int) + 1 = (n3 : Int) := by have := HNL.out; omega
          have hnb : n3 ≤ 301 := by omega
          have hs2 : IntKind.i64.wrap (n3 : Int) = (n3 : Int) := IntWalk.i64_in _ (by omega)
          go_wp2_with fail
          refine (fCheckHeightsT A n c cs A3 n3 c3 L _ h_d h_l (by omega) (by omega) hc k_l  0 HCH).mono ?_
          rintro e w4_ ⟨rfl, hb4⟩
          have B4 : Below w.heap.size w w4_ := B3.trans (hb4.mono S3)
          have S4 : w.heap.size ≤ w4_.heap.size := B4.size
          replace h_d := Ri.next h_d hb4 (Nat.le_refl _) hb4.size
          replace h_v := Ri.next h_v hb4 (Nat.le_refl _) hb4.size
          replace h_e := Ri.next h_e hb4 (Nat.le_refl _) hb4.size
          replace h_l := Ri.next h_l hb4 (Nat.le_refl _) hb4.size
          clear B3 S3
          clear hb4
          go_wp2_with fail
          refine (rCheckHeights A n c cs A3 n3 c3 L _ h_d h_l (by omega) (by omega) 0 HCH).mono ?_
          rintro e w5_ ⟨rfl, d5, hd5⟩
          have hb5 : Below w4_.heap.size w4_ w5_ := hd5 ▸ below_drewN (Below.refl _ _) _
          clear hd5
          have B5 : Below w.heap.size w w5_ := B4.trans (hb5.mono S4)
          have S5 : w.heap.size ≤ w5_.heap.size := B5.size
          replace h_d := Ri.next h_d hb5 (Nat.le_refl _) hb5.size
          replace h_v := Ri.next h_v hb5 (Nat.le_refl _) hb5.size
          replace h_e := Ri.next h_e hb5 (Nat.le_refl _) hb5.size
          replace h_l := Ri.next h_l hb5 (Nat.le_refl _) hb5.size
          clear B4 S4
          clear hb5
          obtain ⟨ad3, y, hA3, _, hc3, hy3, _⟩ := h_l.at_ (k := N) (by omega)
          subst hA3
          have HY : Hid (y = 1000) := Lib.hid (by
            have h := nth_some hy3.out
            rw [HLN.out] at h
            rw [← h, highOf, if_pos hcan])
          obtain rfl : y = 1000 := HY.out
          have hlN : N < n3 := by omega
          clear h_l
          go_wp2_with fail
          refine (fCheckChangeT A n c cs D nv cv vs _ h_d h_v (by omega) (by omega) hc a m2 r HCC).mono ?_
          rintro e w6_ ⟨rfl, hb6⟩
          have B6 : Below w.heap.size w w6_ := B5.trans (hb6.mono S5)
          have S6 : w.heap.size ≤ w6_.heap.size := B6.size
          replace h_d := Ri.next h_d hb6 (Nat.le_refl _) hb6.size
          replace h_v := Ri.next h_v hb6 (Nat.le_refl _) hb6.size
          replace h_e := Ri.next h_e hb6 (Nat.le_refl _) hb6.size
          clear B5 S5
          clear hb6
          by_cases hr : r = 0
          · skip
            subst hr
            have HPY : Hid (Pays cs vs a m2) := Lib.hid (change_pays HCC.out)
            have ha0 := HPY.out.amount_ge HG.out.pos
            obtain ⟨K, rfl⟩ : ∃ K : Nat, a = K := ⟨a.toNat, by omega⟩
            have HPF := Lib.hid (pays_few HG.out HPY.out)
            by_cases h300 : 300 < (K : Int)
            · skip
              go_wp2_with fail
              refine (aWorks _).mono ?_
              rintro e w7_ ⟨rfl, hb7⟩
              have B7 : Below w.heap.size w w7_ := B6.trans (hb7.mono S6)
              have S7 : w.heap.size ≤ w7_.heap.size := B7.size
              replace h_d := Ri.next h_d hb7 (Nat.le_refl _) hb7.size
              replace h_v := Ri.next h_v hb7 (Nat.le_refl _) hb7.size
              replace h_e := Ri.next h_e hb7 (Nat.le_refl _) hb7.size
              clear B6 S6
              clear hb7
              go_wp2
              go_ret
              exact ⟨rfl, B7⟩
            · skip
              obtain ⟨f, HFF⟩ : ∃ f, Hid (few cs K = f) := ⟨_, Lib.hid rfl⟩
              have hf0 : 0 ≤ f := by rw [← HFF.out]; exact HPF.out.1
              have hfm : f ≤ m2 := by rw [← HFF.out]; exact HPF.out.2
              have HPK : Hid (paidV cs (K : Int) = (f, true)) := Lib.hid (by rw [← HFF.out]; exact paid_yes HPF.out.1)
              have HAK : Hid (amountE cs (K : Int) = 0) := Lib.hid (amountE_nat HG.out (by omega))
              go_wp2_with fail
              refine (aPaid A n c cs (K : Int) _ h_d (by omega) hc HAK f true HPK).mono ?_
              rintro e w7_ ⟨rfl, hb7⟩
              have B7 : Below w.heap.size w w7_ := B6.trans (hb7.mono S6)
              have S7 : w.heap.size ≤ w7_.heap.size := B7.size
              replace h_d := Ri.next h_d hb7 (Nat.le_refl _) hb7.size
              replace h_v := Ri.next h_v hb7 (Nat.le_refl _) hb7.size
              replace h_e := Ri.next h_e hb7 (Nat.le_refl _) hb7.size
              clear B6 S6
              clear hb7
              go_wp2_with fail
              refine (fCheckHeightsT A n c cs E nh ch hs _ h_d h_e (by omega) (by omega) hc hce  q HQ).mono ?_
              rintro e w8_ ⟨rfl, hb8⟩
              have B8 : Below w.heap.size w w8_ := B7.trans (hb8.mono S7)
              have S8 : w.heap.size ≤ w8_.heap.size := B8.size
              replace h_d := Ri.next h_d hb8 (Nat.le_refl _) hb8.size
              replace h_v := Ri.next h_v hb8 (Nat.le_refl _) hb8.size
              replace h_e := Ri.next h_e hb8 (Nat.le_refl _) hb8.size
              clear B7 S7
              clear hb8
              by_cases hq : q = 0
              · skip
                subst hq
                by_cases hlen : (nh : Int) ≤ K
                · skip
                  go_wp2_with fail
                  refine (aWorks _).mono ?_
                  rintro e w9_ ⟨rfl, hb9⟩
                  have B9 : Below w.heap.size w w9_ := B8.trans (hb9.mono S8)
                  have S9 : w.heap.size ≤ w9_.heap.size := B9.size
                  replace h_d := Ri.next h_d hb9 (Nat.le_refl _) hb9.size
                  replace h_v := Ri.next h_v hb9 (Nat.le_refl _) hb9.size
                  replace h_e := Ri.next h_e hb9 (Nat.le_refl _) hb9.size
                  clear B8 S8
                  clear hb9
                  go_wp2
                  go_ret
                  exact ⟨rfl, B9⟩
                · skip
                  go_wp2_with fail
                  refine (rCheckHeights A n c cs E nh ch hs _ h_d h_e (by omega) (by omega) 0 HQ).mono ?_
                  rintro e w9_ ⟨rfl, d9, hd9⟩
                  have hb9 : Below w8_.heap.size w8_ w9_ := hd9 ▸ below_drewN (Below.refl _ _) _
                  clear hd9
                  have B9 : Below w.heap.size w w9_ := B8.trans (hb9.mono S8)
                  have S9 : w.heap.size ≤ w9_.heap.size := B9.size
                  replace h_d := Ri.next h_d hb9 (Nat.le_refl _) hb9.size
                  replace h_v := Ri.next h_v hb9 (Nat.le_refl _) hb9.size
                  replace h_e := Ri.next h_e hb9 (Nat.le_refl _) hb9.size
                  clear B8 S8
                  clear hb9
                  obtain ⟨ad4, z, hA4, _, hc4, hz4, _⟩ := h_e.at_ (k := K) (by omega)
                  subst hA4
                  have hzf : z ≤ f := by
                    have h := high_few HQ.out HPF.out.1 (by rw [h_e.len]; omega)
                    rwa [nth_some hz4.out, HFF.out] at h
                  have hzm : z ≤ m2 := by omega
                  have hKn : K < nh := by omega
                  go_wp2_with fail
                  refine (aWorks _).mono ?_
                  rintro e w10_ ⟨rfl, hb10⟩
                  have B10 : Below w.heap.size w w10_ := B9.trans (hb10.mono S9)
                  have S10 : w.heap.size ≤ w10_.heap.size := B10.size
                  replace h_d := Ri.next h_d hb10 (Nat.le_refl _) hb10.size
                  replace h_v := Ri.next h_v hb10 (Nat.le_refl _) hb10.size
                  replace h_e := Ri.next h_e hb10 (Nat.le_refl _) hb10.size
                  clear B9 S9
                  clear hb10
                  go_wp2
                  go_ret
                  exact ⟨rfl, B10⟩
              · skip
                have hq1 := ne0 hq
                go_wp2_with fail
                refine (aWorks _).mono ?_
                rintro e w9_ ⟨rfl, hb9⟩
                have B9 : Below w.heap.size w w9_ := B8.trans (hb9.mono S8)
                have S9 : w.heap.size ≤ w9_.heap.size := B9.size
                replace h_d := Ri.next h_d hb9 (Nat.le_refl _) hb9.size
                replace h_v := Ri.next h_v hb9 (Nat.le_refl _) hb9.size
                replace h_e := Ri.next h_e hb9 (Nat.le_refl _) hb9.size
                clear B8 S8
                clear hb9
                go_wp2
                go_ret
                exact ⟨rfl, B9⟩
          · skip
            have hr1 := ne0 hr
            go_wp2_with fail
            refine (aWorks _).mono ?_
            rintro e w7_ ⟨rfl, hb7⟩
            have B7 : Below w.heap.size w w7_ := B6.trans (hb7.mono S6)
            have S7 : w.heap.size ≤ w7_.heap.size := B7.size
            replace h_d := Ri.next h_d hb7 (Nat.le_refl _) hb7.size
            replace h_v := Ri.next h_v hb7 (Nat.le_refl _) hb7.size
            replace h_e := Ri.next h_e hb7 (Nat.le_refl _) hb7.size
            clear B6 S6
            clear hb7
            go_wp2
            go_ret
            exact ⟨rfl, B7⟩
        · skip
          have HP : Hid (paidV cs (N : Int) = (few cs N, true)) := Lib.hid (paid_yes (by omega))
          obtain ⟨m, HM⟩ : ∃ m, Hid (few cs N = m) := ⟨_, Lib.hid rfl⟩
          rw [HM.out] at HP
          go_enter Try.func9, Try.ntmps9
          go_wp2_with fail
          refine (aFin A n c _ cs _ h_d _ HF).mono ?_
          rintro e w1_ ⟨rfl, d1, hd1⟩
          have hb1 : Below w.heap.size w w1_ := hd1 ▸ below_drewN (Below.refl _ _) _
          clear hd1
          have B1 : Below w.heap.size w w1_ := (Below.refl _ _).trans (hb1.mono (Nat.le_refl _))
          have S1 : w.heap.size ≤ w1_.heap.size := B1.size
          replace h_d := Ri.next h_d hb1 (Nat.le_refl _) hb1.size
          replace h_v := Ri.next h_v hb1 (Nat.le_refl _) hb1.size
          replace h_e := Ri.next h_e hb1 (Nat.le_refl _) hb1.size
          clear hb1
          go_wp2_with fail
          refine (aGreat _ _ _ _ _ HG2).mono ?_
          rintro e w' ⟨rfl, rfl⟩
          go_wp2_with fail
          refine (aAmt x hx0 hx1 N HN _).mono ?_
          rintro e w' ⟨rfl, rfl⟩
          go_wp2_with fail
          refine (aPaid A n c cs (N : Int) _ h_d (by omega) hc HAN m true HP).mono ?_
          rintro e w2_ ⟨rfl, hb2⟩
          have B2 : Below w.heap.size w w2_ := B1.trans (hb2.mono S1)
          have S2 : w.heap.size ≤ w2_.heap.size := B2.size
          replace h_d := Ri.next h_d hb2 (Nat.le_refl _) hb2.size
          replace h_v := Ri.next h_v hb2 (Nat.le_refl _) hb2.size
          replace h_e := Ri.next h_e hb2 (Nat.le_refl _) hb2.size
          clear B1 S1
          clear hb2
          go_wp2_with fail
          refine (fHeightsT A n c cs (N : Int) _ h_d (by omega) hc L 0 HH).mono ?_
          rintro e w3_ ⟨A3, n3, c3, rfl, ho3, hb3⟩
          have B3 : Below w.heap.size w w3_ := B2.trans (hb3.mono S2)
          have S3 : w.heap.size ≤ w3_.heap.size := B3.size
          replace h_d := Ri.next h_d hb3 (Nat.le_refl _) hb3.size
          replace h_v := Ri.next h_v hb3 (Nat.le_refl _) hb3.size
          replace h_e := Ri.next h_e hb3 (Nat.le_refl _) hb3.size
          clear B2 S2
          have h_l := ho3.ri
          have m_l := ho3.most
          have k_l := ho3.cap
          clear ho3
          clear hb3
          have HNL : Hid (n3 = N + 1) := Lib.hid (by rw [← h_l.len]; exact HLL.out)
          have hs1 : (N : Int) + 1 = (n3 : Int) := by have := HNL.out; omega
          have hnb : n3 ≤ 301 := by omega
          have hs2 : IntKind.i64.wrap (n3 : Int) = (n3 : Int) := IntWalk.i64_in _ (by omega)
          go_wp2_with fail
          refine (fCheckHeightsT A n c cs A3 n3 c3 L _ h_d h_l (by omega) (by omega) hc k_l  0 HCH).mono ?_
          rintro e w4_ ⟨rfl, hb4⟩
          have B4 : Below w.heap.size w w4_ := B3.trans (hb4.mono S3)
          have S4 : w.heap.size ≤ w4_.heap.size := B4.size
          replace h_d := Ri.next h_d hb4 (Nat.le_refl _) hb4.size
          replace h_v := Ri.next h_v hb4 (Nat.le_refl _) hb4.size
          replace h_e := Ri.next h_e hb4 (Nat.le_refl _) hb4.size
          replace h_l := Ri.next h_l hb4 (Nat.le_refl _) hb4.size
          clear B3 S3
          clear hb4
          go_wp2_with fail
          refine (rCheckHeights A n c cs A3 n3 c3 L _ h_d h_l (by omega) (by omega) 0 HCH).mono ?_
          rintro e w5_ ⟨rfl, d5, hd5⟩
          have hb5 : Below w4_.heap.size w4_ w5_ := hd5 ▸ below_drewN (Below.refl _ _) _
          clear hd5
          have B5 : Below w.heap.size w w5_ := B4.trans (hb5.mono S4)
          have S5 : w.heap.size ≤ w5_.heap.size := B5.size
          replace h_d := Ri.next h_d hb5 (Nat.le_refl _) hb5.size
          replace h_v := Ri.next h_v hb5 (Nat.le_refl _) hb5.size
          replace h_e := Ri.next h_e hb5 (Nat.le_refl _) hb5.size
          replace h_l := Ri.next h_l hb5 (Nat.le_refl _) hb5.size
          clear B4 S4
          clear hb5
          obtain ⟨ad3, y, hA3, _, hc3, hy3, _⟩ := h_l.at_ (k := N) (by omega)
          subst hA3
          have HY : Hid (y = m) := Lib.hid (by
            have h := nth_some hy3.out
            rw [HLN.out] at h
            rw [← h, highOf, HM.out, if_neg (by rw [← HM.out]; omega)])
          obtain rfl : y = m := HY.out
          have hlN : N < n3 := by omega
          clear h_l
          go_wp2_with fail
          refine (fCheckChangeT A n c cs D nv cv vs _ h_d h_v (by omega) (by omega) hc a m2 r HCC).mono ?_
          rintro e w6_ ⟨rfl, hb6⟩
          have B6 : Below w.heap.size w w6_ := B5.trans (hb6.mono S5)
          have S6 : w.heap.size ≤ w6_.heap.size := B6.size
          replace h_d := Ri.next h_d hb6 (Nat.le_refl _) hb6.size
          replace h_v := Ri.next h_v hb6 (Nat.le_refl _) hb6.size
          replace h_e := Ri.next h_e hb6 (Nat.le_refl _) hb6.size
          clear B5 S5
          clear hb6
          by_cases hr : r = 0
          · skip
            subst hr
            have HPY : Hid (Pays cs vs a m2) := Lib.hid (change_pays HCC.out)
            have ha0 := HPY.out.amount_ge HG.out.pos
            obtain ⟨K, rfl⟩ : ∃ K : Nat, a = K := ⟨a.toNat, by omega⟩
            have HPF := Lib.hid (pays_few HG.out HPY.out)
            by_cases h300 : 300 < (K : Int)
            · skip
              go_wp2_with fail
              refine (aWorks _).mono ?_
              rintro e w7_ ⟨rfl, hb7⟩
              have B7 : Below w.heap.size w w7_ := B6.trans (hb7.mono S6)
              have S7 : w.heap.size ≤ w7_.heap.size := B7.size
              replace h_d := Ri.next h_d hb7 (Nat.le_refl _) hb7.size
              replace h_v := Ri.next h_v hb7 (Nat.le_refl _) hb7.size
              replace h_e := Ri.next h_e hb7 (Nat.le_refl _) hb7.size
              clear B6 S6
              clear hb7
              go_wp2
              go_ret
              exact ⟨rfl, B7⟩
            · skip
              obtain ⟨f, HFF⟩ : ∃ f, Hid (few cs K = f) := ⟨_, Lib.hid rfl⟩
              have hf0 : 0 ≤ f := by rw [← HFF.out]; exact HPF.out.1
              have hfm : f ≤ m2 := by rw [← HFF.out]; exact HPF.out.2
              have HPK : Hid (paidV cs (K : Int) = (f, true)) := Lib.hid (by rw [← HFF.out]; exact paid_yes HPF.out.1)
              have HAK : Hid (amountE cs (K : Int) = 0) := Lib.hid (amountE_nat HG.out (by omega))
              go_wp2_with fail
              refine (aPaid A n c cs (K : Int) _ h_d (by omega) hc HAK f true HPK).mono ?_
              rintro e w7_ ⟨rfl, hb7⟩
              have B7 : Below w.heap.size w w7_ := B6.trans (hb7.mono S6)
              have S7 : w.heap.size ≤ w7_.heap.size := B7.size
              replace h_d := Ri.next h_d hb7 (Nat.le_refl _) hb7.size
              replace h_v := Ri.next h_v hb7 (Nat.le_refl _) hb7.size
              replace h_e := Ri.next h_e hb7 (Nat.le_refl _) hb7.size
              clear B6 S6
              clear hb7
              go_wp2_with fail
              refine (fCheckHeightsT A n c cs E nh ch hs _ h_d h_e (by omega) (by omega) hc hce  q HQ).mono ?_
              rintro e w8_ ⟨rfl, hb8⟩
              have B8 : Below w.heap.size w w8_ := B7.trans (hb8.mono S7)
              have S8 : w.heap.size ≤ w8_.heap.size := B8.size
              replace h_d := Ri.next h_d hb8 (Nat.le_refl _) hb8.size
              replace h_v := Ri.next h_v hb8 (Nat.le_refl _) hb8.size
              replace h_e := Ri.next h_e hb8 (Nat.le_refl _) hb8.size
              clear B7 S7
              clear hb8
              by_cases hq : q = 0
              · skip
                subst hq
                by_cases hlen : (nh : Int) ≤ K
                · skip
                  go_wp2_with fail
                  refine (aWorks _).mono ?_
                  rintro e w9_ ⟨rfl, hb9⟩
                  have B9 : Below w.heap.size w w9_ := B8.trans (hb9.mono S8)
                  have S9 : w.heap.size ≤ w9_.heap.size := B9.size
                  replace h_d := Ri.next h_d hb9 (Nat.le_refl _) hb9.size
                  replace h_v := Ri.next h_v hb9 (Nat.le_refl _) hb9.size
                  replace h_e := Ri.next h_e hb9 (Nat.le_refl _) hb9.size
                  clear B8 S8
                  clear hb9
                  go_wp2
                  go_ret
                  exact ⟨rfl, B9⟩
                · skip
                  go_wp2_with fail
                  refine (rCheckHeights A n c cs E nh ch hs _ h_d h_e (by omega) (by omega) 0 HQ).mono ?_
                  rintro e w9_ ⟨rfl, d9, hd9⟩
                  have hb9 : Below w8_.heap.size w8_ w9_ := hd9 ▸ below_drewN (Below.refl _ _) _
                  clear hd9
                  have B9 : Below w.heap.size w w9_ := B8.trans (hb9.mono S8)
                  have S9 : w.heap.size ≤ w9_.heap.size := B9.size
                  replace h_d := Ri.next h_d hb9 (Nat.le_refl _) hb9.size
                  replace h_v := Ri.next h_v hb9 (Nat.le_refl _) hb9.size
                  replace h_e := Ri.next h_e hb9 (Nat.le_refl _) hb9.size
                  clear B8 S8
                  clear hb9
                  obtain ⟨ad4, z, hA4, _, hc4, hz4, _⟩ := h_e.at_ (k := K) (by omega)
                  subst hA4
                  have hzf : z ≤ f := by
                    have h := high_few HQ.out HPF.out.1 (by rw [h_e.len]; omega)
                    rwa [nth_some hz4.out, HFF.out] at h
                  have hzm : z ≤ m2 := by omega
                  have hKn : K < nh := by omega
                  go_wp2_with fail
                  refine (aWorks _).mono ?_
                  rintro e w10_ ⟨rfl, hb10⟩
                  have B10 : Below w.heap.size w w10_ := B9.trans (hb10.mono S9)
                  have S10 : w.heap.size ≤ w10_.heap.size := B10.size
                  replace h_d := Ri.next h_d hb10 (Nat.le_refl _) hb10.size
                  replace h_v := Ri.next h_v hb10 (Nat.le_refl _) hb10.size
                  replace h_e := Ri.next h_e hb10 (Nat.le_refl _) hb10.size
                  clear B9 S9
                  clear hb10
                  go_wp2
                  go_ret
                  exact ⟨rfl, B10⟩
              · skip
                have hq1 := ne0 hq
                go_wp2_with fail
                refine (aWorks _).mono ?_
                rintro e w9_ ⟨rfl, hb9⟩
                have B9 : Below w.heap.size w w9_ := B8.trans (hb9.mono S8)
                have S9 : w.heap.size ≤ w9_.heap.size := B9.size
                replace h_d := Ri.next h_d hb9 (Nat.le_refl _) hb9.size
                replace h_v := Ri.next h_v hb9 (Nat.le_refl _) hb9.size
                replace h_e := Ri.next h_e hb9 (Nat.le_refl _) hb9.size
                clear B8 S8
                clear hb9
                go_wp2
                go_ret
                exact ⟨rfl, B9⟩
          · skip
            have hr1 := ne0 hr
            go_wp2_with fail
            refine (aWorks _).mono ?_
            rintro e w7_ ⟨rfl, hb7⟩
            have B7 : Below w.heap.size w w7_ := B6.trans (hb7.mono S6)
            have S7 : w.heap.size ≤ w7_.heap.size := B7.size
            replace h_d := Ri.next h_d hb7 (Nat.le_refl _) hb7.size
            replace h_v := Ri.next h_v hb7 (Nat.le_refl _) hb7.size
            replace h_e := Ri.next h_e hb7 (Nat.le_refl _) hb7.size
            clear B6 S6
            clear hb7
            go_wp2
            go_ret
            exact ⟨rfl, B7⟩
  · have HF : Hid (decide (checkCoins cs = 0) = false) := Lib.hid (decide_eq_false hf)
    go_enter Try.func9, Try.ntmps9
    go_wp2_with fail
    refine (aFin A n c _ cs _ hx _ HF).mono ?_
    rintro e w1 ⟨rfl, d, rfl⟩
    go_wp2_with fail
    refine (aWorks _).mono ?_
    rintro e w2 ⟨rfl, hb⟩
    go_wp2
    go_ret
    exact ⟨rfl, below_d hb⟩

set_option maxRecDepth 100000 in
theorem FloatProved_lifted (os : Os) (started : os.Started) (H : Type) (enc : TypeId × Value → H) :
    ReturnsInHanded {} Try.checked os 9 .any (Rows.floatProvedSpec.pre6 enc Try.prog Try.f9 Rows.floatProvedRow.domain false) (Rows.floatProvedSpec.post enc Try.prog Try.f9 false true false false) := by
  refine returnsInHanded_of_change (C := Try.checked) row_own started (by kernel_rfl) Try.func9
    (ChangeSpec.witness6 (enc := enc) (C := Try.checked) false ⟨#[], #[.slice none 0 0, .slice none 0 0, .slice none 0 0, .int .u16 0], []⟩ 8 (by kernel_rfl) (by kernel_rfl) (by kernel_rfl) (by kernel_rfl)) ?_
  intro W base args ds gs before hval0 hW _ _
  have hval : ∀ (j : Nat) t v, Try.f9.params[j]? = some t → args[j]? = some v → Value.okWide Try.prog W .any base t v := hval0
  have hW' := hW
  obtain ⟨p, q, hA0, hV, rfl, _, _⟩ := hW
  have hA : DataW.TrodAll enc Try.prog W 0 (fun _ => true) true Try.f9.params.toList args.toList ds p := hA0
  rw [Try.params9] at hA hval
  obtain ⟨v0, v1, v2, v3, d0, d1, d2, d3, p0, p1, p2, p3, rfl, rfl, rfl, h0, h1, h2, h3⟩ := trodAll_four hA
  obtain ⟨rfl, rfl⟩ := trodVars_none hV
  clear hA0 hval0
  simp only [List.append_nil] at hW'
  have hlt : ∀ x ∈ (p0 ++ p1 ++ p2 ++ p3), x.block < W.heap.size := fun x hx => by simpa using hW'.lt x hx
  have a0 := fun W' (hb : Below W.heap.size W W') => row_stays (t := 22) (by kernel_rfl) (of_decide_eq_true (by kernel_rfl)) h0 (fun x hx => hlt x (by simp [hx])) hb
  have a1 := fun W' (hb : Below W.heap.size W W') => row_stays (t := 22) (by kernel_rfl) (of_decide_eq_true (by kernel_rfl)) h1 (fun x hx => hlt x (by simp [hx])) hb
  have a2 := fun W' (hb : Below W.heap.size W W') => row_stays (t := 22) (by kernel_rfl) (of_decide_eq_true (by kernel_rfl)) h2 (fun x hx => hlt x (by simp [hx])) hb
  have a3 := fun W' (hb : Below W.heap.size W W') => row_stays (t := 44) (by kernel_rfl) (of_decide_eq_true (by kernel_rfl)) h3 (fun x hx => hlt x (by simp [hx])) hb
  obtain ⟨A0, n0, c0, xs0, rfl, hc0, hm0, hx0, hw0⟩ := row_ints (t := 22) (e := 2) (k := .i64) (by kernel_rfl) (by kernel_rfl) (by kernel_rfl) (hval 0 22 v0 rfl rfl) h0 (fun x hx => hlt x (by simp [hx]))
  obtain ⟨A1, n1, c1, xs1, rfl, hc1, hm1, hx1, hw1⟩ := row_ints (t := 22) (e := 2) (k := .i64) (by kernel_rfl) (by kernel_rfl) (by kernel_rfl) (hval 1 22 v1 rfl rfl) h1 (fun x hx => hlt x (by simp [hx]))
  obtain ⟨A2, n2, c2, xs2, rfl, hc2, hm2, hx2, hw2⟩ := row_ints (t := 22) (e := 2) (k := .i64) (by kernel_rfl) (by kernel_rfl) (by kernel_rfl) (hval 2 22 v2 rfl rfl) h2 (fun x hx => hlt x (by simp [hx]))
  obtain ⟨x3, rfl, _, _, wx3⟩ := open_int (P := Try.prog) (k := .u16) (t := 44) (by kernel_rfl) (hval 3 44 v3 rfl rfl) h3
  refine (wProved A0 n0 c0 xs0 A1 n1 c1 xs1 A2 n2 c2 xs2 x3 (u16_lo wx3) (u16_hi wx3) W hx0 hx1 hx2 hc0 hc2).mono fun e W' ⟨he, hb⟩ => ?_
  subst he
  exact ⟨_, rfl, _, _, _, [], (p0 ++ p1 ++ p2 ++ p3), [], hW', trodAll_mk1 (shut_bool Try.underlying4 true), (by simp only [List.append_assoc]; exact trodAll_mk4 (a0 _ hb) (a1 _ hb) (a2 _ hb) (a3 _ hb)), rfl, hb.frame _, fun h => by cases h⟩
theorem FloatProved_holds : Rows.FloatProvedSaid :=
  OpenClaim.holds_of_wide 9 Try.f9 rfl rfl rfl rfl rfl rfl rfl ⟨rfl, rfl, rfl, rfl, rfl⟩ rfl rfl rfl rfl rfl (by kernel_rfl) Try.func9 (by kernel_rfl)
    (of_decide_eq_true (by kernel_rfl)) (by unfold Func.isWrapper; first | (rw [if_pos (by decide +kernel)]; kernel_rfl) | (rw [if_neg (by decide +kernel)]; exact ⟨rfl, rfl⟩))
    (fun os started H enc _ => FloatProved_lifted os started H enc)
#print axioms FloatProved_holds
end Go.Proofs.Ytloibnmhgocboaa
