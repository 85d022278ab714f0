/-
  FloatRested: an amount can be paid just if it is not less than the least amount of its rest; each least amount has this rest; the greatest one that cannot be paid, and how many cannot, are told by them: for every list of coins and every amount, told by a number; no condition.
-/
import Derived.Test.YtloibnmhgocboaaWorks
import Derived.Test.YtloibnmhgocboaaRow
import Derived.Test.YtloibnmhgocboaaFaQ
import Derived.Test.YtloibnmhgocboaaR1
import Derived.Test.YtloibnmhgocboaaR2
import Derived.Test.YtloibnmhgocboaaR3
import Derived.Test.YtloibnmhgocboaaR4
import Derived.Test.YtloibnmhgocboaaR5
import Derived.Test.YtloibnmhgocboaaR6
import Derived.Test.YtloibnmhgocboaaR7
import Derived.Test.YtloibnmhgocboaaR8
import Derived.Test.YtloibnmhgocboaaLw2
namespace Go.Proofs.Ytloibnmhgocboaa
open Go.Shelf Go.ChangeShapes Go.WideShapes Go.ChangeAt Go.RowKit

set_option maxRecDepth 100000 in
set_option maxHeartbeats 8000000 in
theorem wRested (A : Option Addr) (n c : Nat) (cs : List Int) (x : Int) (hx0 : 0 ≤ x) (hx1 : x ≤ 65535) (w : World) (hx : Ri w w.heap.size A n cs) (hc : n ≤ c) :
    Calls Try.prog 11 #[.slice A n c, .int .u16 x] w (RetB w true) := by
  by_cases hf : checkCoins cs = 0
  · have HF : Hid (decide (checkCoins cs = 0) = true) := Lib.hid (decide_eq_true hf)
    have HG : Hid (Good cs) := Lib.hid (checkCoins_good.1 hf)
    have HL := Lib.hid hx.len
    have hn1 : 1 ≤ n := by rw [← HL.out]; exact HG.out.lo
    have hn5 : n ≤ 5 := by rw [← HL.out]; exact HG.out.hi
    clear hf
    obtain ⟨N, HN⟩ : ∃ N : Nat, Hid (x % 301 = (N : Int)) := ⟨(x % 301).toNat, Lib.hid (by omega)⟩
    have hN : N ≤ 300 := by have := HN.out; omega
    have HAN : Hid (amountE cs (N : Int) = 0) := Lib.hid (amountE_nat HG.out hN)
    obtain ⟨ad, z, rfl, hadb, hcz, hz, _⟩ := hx.at_ (k := 0) (by omega)
    rw [addr_zero] at hcz
    have HZZ : Hid (nth cs 0 = z) := Lib.hid (nth_some hz.out)
    have hzb : 1 ≤ z ∧ z ≤ 50 := HG.out.all z (List.mem_of_getElem? hz.out)
    obtain ⟨f, rfl⟩ : ∃ f : Nat, z = f := ⟨z.toNat, by omega⟩
    have hf1 : 1 ≤ f := by omega
    have hf50 : f ≤ 50 := by omega
    have HFN : Hid (first cs = f) := Lib.hid (by unfold first; rw [HZZ.out, Int.toNat_natCast])
    obtain ⟨L, HRX⟩ : ∃ L, Hid (restsL cs = L) := ⟨_, Lib.hid rfl⟩
    have HRS : Hid (restsS cs = (L, 0)) := Lib.hid (by rw [restsS_ok HG.out, HRX.out])
    have HLF : Hid (L.length = f) := Lib.hid (by rw [← HRX.out, rests_len HG.out, HFN.out])
    have HL0 : Hid (nth L 0 = 0) := Lib.hid (by rw [← HRX.out]; exact rests_zero HG.out)
    have HOWN : Hid (∀ k : Nat, k < f → 0 ≤ nth L k → nth L k % (f : Int) = k) := Lib.hid (fun k hk h0 => by
      have h := rests_own HG.out (k := k) (by rw [HFN.out]; exact hk) (by rw [HRX.out]; exact h0)
      rwa [HRX.out, HFN.out] at h)
    obtain ⟨m, b, HP⟩ : ∃ m b, Hid (paidV cs (N : Int) = (m, b)) := ⟨_, _, Lib.hid rfl⟩
    have HCAN2 : Hid (b = true ↔ can cs N) := Lib.hid (by
      have h := HP.out
      unfold paidV at h
      rw [Int.toNat_natCast] at h
      unfold can
      split at h <;> cases h <;> simp <;> omega)
    have HCAN : Hid (b = true ↔ 0 ≤ nth L (N % f) ∧ nth L (N % f) ≤ (N : Int)) := Lib.hid (by
      rw [HCAN2.out, can_rest HG.out, HFN.out, HRX.out])
    have h_d := hx
    have hn0 : 0 < n := by omega
    cases hen : endless cs with
    | true =>
      have HEX : Hid (∃ j : Nat, j < f ∧ nth L j < 0) := Lib.hid (by
        have h := end_at HG.out
        rw [hen] at h
        have h2 := of_decide_eq_true h.symm
        rwa [HFN.out, HRX.out] at h2)
      have HGR : Hid (greatestS cs = (0, 4)) := Lib.hid (end_yes HG.out hen).1
      have HMA : Hid (manyS cs = (0, 4)) := Lib.hid (end_yes HG.out hen).2
      have HLB : Hid (∀ x ∈ L, -1 ≤ x ∧ x ≤ 5000) := Lib.hid (fun x hxm => by
        obtain ⟨k, hk, rfl⟩ := List.getElem_of_mem hxm
        have h2 := rests_bd (cs := cs) k
        rw [HRX.out] at h2
        unfold nth at h2
        rwa [List.getElem?_eq_getElem hk] at h2)
      clear hen
      go_enter Try.func11, Try.ntmps11
      go_wp2_with fail
      refine (aFin (some ad) n c _ cs _ h_d _ HF).mono ?_
      rintro e w1_ ⟨rfl, d1, hd1⟩
      have hb1 : Below w.heap.size w w1_ := hd1 ▸ below_drewN (Below.refl _ _) _
      clear hd1
      have B1 : Below w.heap.size w w1_ := (Below.refl _ _).trans (hb1.mono (Nat.le_refl _))
      have S1 : w.heap.size ≤ w1_.heap.size := B1.size
      replace h_d := Ri.next h_d hb1 (Nat.le_refl _) hb1.size
      clear hb1
      go_wp2_with fail
      refine (aAmt x hx0 hx1 N HN _).mono ?_
      rintro e w' ⟨rfl, rfl⟩
      go_wp2_with fail
      refine (fRestsT (some ad) n c cs _ h_d (by omega) hc L 0 HRS).mono ?_
      rintro e w2_ ⟨A2, n2, c2, rfl, ho2, hb2⟩
      have B2 : Below w.heap.size w w2_ := B1.trans (hb2.mono S1)
      have S2 : w.heap.size ≤ w2_.heap.size := B2.size
      replace h_d := Ri.next h_d hb2 (Nat.le_refl _) hb2.size
      clear B1 S1
      have h_l := ho2.ri
      have m_l := ho2.most
      clear ho2
      clear hb2
      go_wp2_with fail
      refine (aPaid (some ad) n c cs (N : Int) _ h_d (by omega) hc HAN m b HP).mono ?_
      rintro e w3_ ⟨rfl, hb3⟩
      have B3 : Below w.heap.size w w3_ := B2.trans (hb3.mono S2)
      have S3 : w.heap.size ≤ w3_.heap.size := B3.size
      replace h_d := Ri.next h_d hb3 (Nat.le_refl _) hb3.size
      replace h_l := Ri.next h_l hb3 (Nat.le_refl _) hb3.size
      clear B2 S2
      clear hb3
      obtain rfl : f = n2 := by rw [← h_l.len, HLF.out]
      have hch : w3_.cell? ad = some (.int .i64 (f : Int)) := (B3.cell hadb).trans hcz
      obtain ⟨ad3, y0, hA0, _, hcl0, hy0, _⟩ := h_l.at_ (k := 0) (by omega)
      subst hA0
      rw [addr_zero] at hcl0
      obtain rfl : y0 = 0 := by rw [← nth_some hy0.out]; exact HL0.out
      have hwf : IntKind.i64.wrap (f : Int) = f := IntWalk.i64_in _ (by omega)
      clear hy0
      go_wp2
      go_loopw [11, 12, 13, 14] (fun s t u i wr => ∃ (k d : Nat) (mo su : Int) (e : Bool), k ≤ f ∧ i = .int .i64 k ∧ s = .int .i64 mo ∧ t = .int .i64 su ∧ -(5001 * (k : Int)) ≤ su ∧ su ≤ 5001 * (k : Int) ∧ u = .bool e ∧ Hid (e = true ↔ ∃ j : Nat, j < k ∧ nth L j < 0) ∧ wr = w3_.drewN d) (fun _ _ _ i _ => f - (intOf i).toNat)
      case atStart => exact ⟨0, 0, -1, 0, false, Nat.zero_le _, rfl, rfl, rfl, by omega, by omega, rfl, Lib.hid ⟨fun h => (by cases h), fun ⟨j, hj, _⟩ => absurd hj (Nat.not_lt_zero j)⟩, rfl⟩
      case round =>
        obtain ⟨k, d, mo, su, e, hk, rfl, rfl, rfl, hsb1, hsb2, rfl, HEI, rfl⟩ := hrel
        by_cases hlt : k < f
        · obtain ⟨ad4, x, hA4, _, hc4, hxk, _⟩ := h_l.at_ hlt
          cases hA4
          have hxb := HLB.out x (List.mem_of_getElem? hxk.out)
          have hx0b : -1 ≤ x := hxb.1
          have hx1b : x ≤ 5000 := hxb.2
          have hf0 : ((f : Int) == 0) = false := by simp; omega
          have hfz : ¬ f = 0 := by omega
          have hw2 : IntKind.i64.wrap (x - (f : Int)) = x - (f : Int) := IntWalk.i64_in _ (by omega)
          obtain ⟨mx, HMX⟩ : ∃ mx, Hid (max mo (x - (f : Int)) = mx) := ⟨_, Lib.hid rfl⟩
          have hmx : max mo (x - (f : Int)) = mx := HMX.out
          have HXN : Hid (nth L k = x) := Lib.hid (nth_some hxk.out)
          obtain ⟨t, HTT⟩ : ∃ t, Hid (Int.tdiv x (f : Int) = t) := ⟨_, Lib.hid rfl⟩
          have hq2 : Int.tdiv x (f : Int) = t := HTT.out
          by_cases hxn : x < 0
          · obtain rfl : x = -1 := by omega
            have ht : -1 ≤ t ∧ t ≤ 0 := by rw [← HTT.out]; exact tdiv_neg1 (by omega)
            have ht0 := ht.1
            have ht1 := ht.2
            have hw0 : IntKind.i64.wrap t = t := IntWalk.i64_in _ (by omega)
            have hw1 : IntKind.i64.wrap (su + t) = su + t := IntWalk.i64_in _ (by omega)
            have HE3 : Hid (∃ j : Nat, j < k + 1 ∧ nth L j < 0) := Lib.hid ⟨k, by omega, by rw [HXN.out]; omega⟩
            by_cases hlz : mo ≤ -1 - (f : Int)
            · go_wp2
              go_quiet (fail)
              go_wp2
              cases e
              · go_quiet (fail)
                go_wp2
                go_roundw
                case rel => exact ⟨k + 1, _, _, su + t, true, by omega, by go_num, rfl, rfl, by omega, by omega, rfl, Lib.hid ⟨fun _ => HE3.out, fun _ => rfl⟩, rfl⟩
                case measure => simp [intOf]; omega
              · go_quiet (fail)
                go_wp2
                go_roundw
                case rel => exact ⟨k + 1, _, _, su + t, true, by omega, by go_num, rfl, rfl, by omega, by omega, rfl, Lib.hid ⟨fun _ => HE3.out, fun _ => rfl⟩, rfl⟩
                case measure => simp [intOf]; omega
            · go_wp2
              go_quiet (fail)
              go_wp2
              cases e
              · go_quiet (fail)
                go_wp2
                go_roundw
                case rel => exact ⟨k + 1, _, _, su + t, true, by omega, by go_num, rfl, rfl, by omega, by omega, rfl, Lib.hid ⟨fun _ => HE3.out, fun _ => rfl⟩, rfl⟩
                case measure => simp [intOf]; omega
              · go_quiet (fail)
                go_wp2
                go_roundw
                case rel => exact ⟨k + 1, _, _, su + t, true, by omega, by go_num, rfl, rfl, by omega, by omega, rfl, Lib.hid ⟨fun _ => HE3.out, fun _ => rfl⟩, rfl⟩
                case measure => simp [intOf]; omega
          · have hxp : 0 ≤ x := by omega
            have hm2 : x % (f : Int) = (k : Int) := by
              have h := HOWN.out k hlt (by rw [nth_some hxk.out]; omega)
              rwa [nth_some hxk.out] at h
            have hm1 : x.tmod (f : Int) = (k : Int) := (Int.tmod_eq_emod_of_nonneg hxp).trans hm2
            have hm3 : IntKind.i64.wrap (k : Int) = k := IntWalk.i64_in _ (by omega)
            have hm4 : ((k : Int) != (k : Int)) = false := by simp
            have hq1 : x / (f : Int) = t := by rw [← HTT.out, Int.tdiv_eq_ediv_of_nonneg hxp]
            have ht0 : 0 ≤ t := by rw [← hq1]; exact Int.ediv_nonneg hxp (by omega)
            have ht1 : t ≤ 5000 := by rw [← hq1]; exact Int.le_trans (Int.ediv_le_self _ hxp) hx1b
            have hw0 : IntKind.i64.wrap t = t := IntWalk.i64_in _ (by omega)
            have hw1 : IntKind.i64.wrap (su + t) = su + t := IntWalk.i64_in _ (by omega)
            have HE2 : Hid (e = true ↔ ∃ j : Nat, j < k + 1 ∧ nth L j < 0) := Lib.hid (by
              rw [HEI.out]
              constructor
              · rintro ⟨j, hj, hj2⟩; exact ⟨j, by omega, hj2⟩
              · rintro ⟨j, hj, hj2⟩
                rcases Nat.eq_or_lt_of_le (Nat.le_of_lt_succ hj) with h | h
                · subst h; rw [HXN.out] at hj2; omega
                · exact ⟨j, h, hj2⟩)
            go_wp2
            go_quiet (fail)
            go_wp2
            cases e
            · go_quiet (fail)
              go_wp2
              go_roundw
              case rel => exact ⟨k + 1, _, _, su + t, false, by omega, by go_num, rfl, rfl, by omega, by omega, (by first | rfl | (simp; omega)), HE2, rfl⟩
              case measure => simp [intOf]; omega
            · go_quiet (fail)
              go_wp2
              go_roundw
              case rel => exact ⟨k + 1, _, _, su + t, true, by omega, by go_num, rfl, rfl, by omega, by omega, rfl, HE2, rfl⟩
              case measure => simp [intOf]; omega
        · skip
          obtain ⟨r, HRR⟩ : ∃ r, Hid (N % f = r) := ⟨_, Lib.hid rfl⟩
          have hrf : r < f := by rw [← HRR.out]; exact Nat.mod_lt _ (by omega)
          have hm2 : (N : Int) % (f : Int) = (r : Int) := by rw [← HRR.out]; simp
          have hm1 : (N : Int).tmod (f : Int) = (r : Int) := (Int.tmod_eq_emod_of_nonneg (by omega)).trans hm2
          have hm3 : IntKind.i64.wrap (r : Int) = r := IntWalk.i64_in _ (by omega)
          have hf0 : ((f : Int) == 0) = false := by simp; omega
          have hfz : ¬ f = 0 := by omega
          obtain ⟨ad5, y, hA5, _, hc5, hyr, _⟩ := h_l.at_ hrf
          cases hA5
          have HYR : Hid (nth L r = y) := Lib.hid (nth_some hyr.out)
          have HBY : Hid (b = true ↔ 0 ≤ y ∧ y ≤ N) := Lib.hid (by
            have h := HCAN.out
            rw [HRR.out, HYR.out] at h
            exact h)
          have hbd : Below w3_.heap.size w3_ (w3_.drewN d) := below_drewN (Below.refl _ _) d
          have B4 : Below w.heap.size w (w3_.drewN d) := B3.trans (hbd.mono S3)
          have S4 : w.heap.size ≤ (w3_.drewN d).heap.size := B4.size
          replace h_d := Ri.next h_d hbd (Nat.le_refl _) hbd.size
          replace h_l := Ri.next h_l hbd (Nat.le_refl _) hbd.size
          clear B3 S3
          clear h_l
          obtain rfl : k = f := by omega
          obtain rfl : e = true := HEI.out.2 HEX.out
          by_cases hy0 : y < 0
          · skip
            obtain rfl : b = false := by cases b with | false => rfl | true => have := HBY.out.1 rfl; omega
            go_wp2_with fail
            refine (fGreatestT (some ad) n c cs _ h_d (by omega) hc 0 4 HGR).mono ?_
            rintro e w5_ ⟨rfl, hb5⟩
            have B5 : Below w.heap.size w w5_ := B4.trans (hb5.mono S4)
            have S5 : w.heap.size ≤ w5_.heap.size := B5.size
            replace h_d := Ri.next h_d hb5 (Nat.le_refl _) hb5.size
            clear B4 S4
            clear hb5
            go_wp2_with fail
            refine (fManyT (some ad) n c cs _ h_d (by omega) hc 0 4 HMA).mono ?_
            rintro e w6_ ⟨rfl, hb6⟩
            have B6 : Below w.heap.size w w6_ := B5.trans (hb6.mono S5)
            have S6 : w.heap.size ≤ w6_.heap.size := B6.size
            replace h_d := Ri.next h_d hb6 (Nat.le_refl _) hb6.size
            clear B5 S5
            clear hb6
            go_wp2_with fail
            refine (aWorks _).mono ?_
            rintro e w7_ ⟨rfl, hb7⟩
            have B7 : Below w.heap.size w w7_ := B6.trans (hb7.mono S6)
            have S7 : w.heap.size ≤ w7_.heap.size := B7.size
            replace h_d := Ri.next h_d hb7 (Nat.le_refl _) hb7.size
            clear B6 S6
            clear hb7
            go_wp2
            go_ret
            exact ⟨rfl, B7⟩
          · have hy1 : 0 ≤ y := by omega
            by_cases hyN : y ≤ (N : Int)
            · skip
              obtain rfl : b = true := HBY.out.2 ⟨by omega, hyN⟩
              go_wp2_with fail
              refine (fGreatestT (some ad) n c cs _ h_d (by omega) hc 0 4 HGR).mono ?_
              rintro e w5_ ⟨rfl, hb5⟩
              have B5 : Below w.heap.size w w5_ := B4.trans (hb5.mono S4)
              have S5 : w.heap.size ≤ w5_.heap.size := B5.size
              replace h_d := Ri.next h_d hb5 (Nat.le_refl _) hb5.size
              clear B4 S4
              clear hb5
              go_wp2_with fail
              refine (fManyT (some ad) n c cs _ h_d (by omega) hc 0 4 HMA).mono ?_
              rintro e w6_ ⟨rfl, hb6⟩
              have B6 : Below w.heap.size w w6_ := B5.trans (hb6.mono S5)
              have S6 : w.heap.size ≤ w6_.heap.size := B6.size
              replace h_d := Ri.next h_d hb6 (Nat.le_refl _) hb6.size
              clear B5 S5
              clear hb6
              go_wp2_with fail
              refine (aWorks _).mono ?_
              rintro e w7_ ⟨rfl, hb7⟩
              have B7 : Below w.heap.size w w7_ := B6.trans (hb7.mono S6)
              have S7 : w.heap.size ≤ w7_.heap.size := B7.size
              replace h_d := Ri.next h_d hb7 (Nat.le_refl _) hb7.size
              clear B6 S6
              clear hb7
              go_wp2
              go_ret
              exact ⟨rfl, B7⟩
            · skip
              obtain rfl : b = false := by cases b with | false => rfl | true => have := HBY.out.1 rfl; omega
              go_wp2_with fail
              refine (fGreatestT (some ad) n c cs _ h_d (by omega) hc 0 4 HGR).mono ?_
              rintro e w5_ ⟨rfl, hb5⟩
              have B5 : Below w.heap.size w w5_ := B4.trans (hb5.mono S4)
              have S5 : w.heap.size ≤ w5_.heap.size := B5.size
              replace h_d := Ri.next h_d hb5 (Nat.le_refl _) hb5.size
              clear B4 S4
              clear hb5
              go_wp2_with fail
              refine (fManyT (some ad) n c cs _ h_d (by omega) hc 0 4 HMA).mono ?_
              rintro e w6_ ⟨rfl, hb6⟩
              have B6 : Below w.heap.size w w6_ := B5.trans (hb6.mono S5)
              have S6 : w.heap.size ≤ w6_.heap.size := B6.size
              replace h_d := Ri.next h_d hb6 (Nat.le_refl _) hb6.size
              clear B5 S5
              clear hb6
              go_wp2_with fail
              refine (aWorks _).mono ?_
              rintro e w7_ ⟨rfl, hb7⟩
              have B7 : Below w.heap.size w w7_ := B6.trans (hb7.mono S6)
              have S7 : w.heap.size ≤ w7_.heap.size := B7.size
              replace h_d := Ri.next h_d hb7 (Nat.le_refl _) hb7.size
              clear B6 S6
              clear hb7
              go_wp2
              go_ret
              exact ⟨rfl, B7⟩
    | false =>
      have HEN := Lib.hid hen
      have HLB : Hid (∀ x ∈ L, 0 ≤ x ∧ x ≤ 5000) := Lib.hid (by rw [← HRX.out]; exact rests_all_bd HG.out hen)
      clear hen
      go_enter Try.func11, Try.ntmps11
      go_wp2_with fail
      refine (aFin (some ad) n c _ cs _ h_d _ HF).mono ?_
      rintro e w1_ ⟨rfl, d1, hd1⟩
      have hb1 : Below w.heap.size w w1_ := hd1 ▸ below_drewN (Below.refl _ _) _
      clear hd1
      have B1 : Below w.heap.size w w1_ := (Below.refl _ _).trans (hb1.mono (Nat.le_refl _))
      have S1 : w.heap.size ≤ w1_.heap.size := B1.size
      replace h_d := Ri.next h_d hb1 (Nat.le_refl _) hb1.size
      clear hb1
      go_wp2_with fail
      refine (aAmt x hx0 hx1 N HN _).mono ?_
      rintro e w' ⟨rfl, rfl⟩
      go_wp2_with fail
      refine (fRestsT (some ad) n c cs _ h_d (by omega) hc L 0 HRS).mono ?_
      rintro e w2_ ⟨A2, n2, c2, rfl, ho2, hb2⟩
      have B2 : Below w.heap.size w w2_ := B1.trans (hb2.mono S1)
      have S2 : w.heap.size ≤ w2_.heap.size := B2.size
      replace h_d := Ri.next h_d hb2 (Nat.le_refl _) hb2.size
      clear B1 S1
      have h_l := ho2.ri
      have m_l := ho2.most
      clear ho2
      clear hb2
      go_wp2_with fail
      refine (aPaid (some ad) n c cs (N : Int) _ h_d (by omega) hc HAN m b HP).mono ?_
      rintro e w3_ ⟨rfl, hb3⟩
      have B3 : Below w.heap.size w w3_ := B2.trans (hb3.mono S2)
      have S3 : w.heap.size ≤ w3_.heap.size := B3.size
      replace h_d := Ri.next h_d hb3 (Nat.le_refl _) hb3.size
      replace h_l := Ri.next h_l hb3 (Nat.le_refl _) hb3.size
      clear B2 S2
      clear hb3
      obtain rfl : f = n2 := by rw [← h_l.len, HLF.out]
      have hch : w3_.cell? ad = some (.int .i64 (f : Int)) := (B3.cell hadb).trans hcz
      obtain ⟨ad3, y0, hA0, _, hcl0, hy0, _⟩ := h_l.at_ (k := 0) (by omega)
      subst hA0
      rw [addr_zero] at hcl0
      obtain rfl : y0 = 0 := by rw [← nth_some hy0.out]; exact HL0.out
      have hwf : IntKind.i64.wrap (f : Int) = f := IntWalk.i64_in _ (by omega)
      clear hy0
      go_wp2
      go_loopw [11, 12, 13, 14] (fun s t u i wr => ∃ (k d : Nat) (mo su : Int), k ≤ f ∧ i = .int .i64 k ∧ s = .int .i64 mo ∧ Hid (maxT (f : Int) L k = mo) ∧ t = .int .i64 su ∧ Hid (divTo (f : Int) L k = su) ∧ u = .bool false ∧ wr = w3_.drewN d) (fun _ _ _ i _ => f - (intOf i).toNat)
      case atStart => exact ⟨0, 0, -1, 0, Nat.zero_le _, rfl, rfl, Lib.hid rfl, rfl, Lib.hid rfl, rfl, rfl⟩
      case round =>
        obtain ⟨k, d, mo, su, hk, rfl, rfl, HMo, rfl, HSu, rfl, rfl⟩ := hrel
        by_cases hlt : k < f
        · obtain ⟨ad4, x, hA4, _, hc4, hxk, _⟩ := h_l.at_ hlt
          cases hA4
          have hxb := HLB.out x (List.mem_of_getElem? hxk.out)
          have hx0b : 0 ≤ x := hxb.1
          have hx1b : x ≤ 5000 := hxb.2
          have hx2b : -1 ≤ x := by omega
          have hm2 : x % (f : Int) = (k : Int) := by
            have h := HOWN.out k hlt (by rw [nth_some hxk.out]; omega)
            rwa [nth_some hxk.out] at h
          have hm1 : x.tmod (f : Int) = (k : Int) := (Int.tmod_eq_emod_of_nonneg hx0b).trans hm2
          have hm3 : IntKind.i64.wrap (k : Int) = k := IntWalk.i64_in _ (by omega)
          have hm4 : ((k : Int) != (k : Int)) = false := by simp
          have hf0 : ((f : Int) == 0) = false := by simp; omega
          have hfz : ¬ f = 0 := by omega
          obtain ⟨t, HTT⟩ : ∃ t, Hid (x / (f : Int) = t) := ⟨_, Lib.hid rfl⟩
          have ht0 : 0 ≤ t := by rw [← HTT.out]; exact Int.ediv_nonneg hx0b (by omega)
          have ht1 : t ≤ 5000 := by rw [← HTT.out]; exact Int.le_trans (Int.ediv_le_self _ hx0b) hx1b
          have hq1 : x / (f : Int) = t := HTT.out
          have hq2 : Int.tdiv x (f : Int) = t := by rw [Int.tdiv_eq_ediv_of_nonneg hx0b]; exact hq1
          have hsb := divTo_bd (c := (f : Int)) (by omega) HLB.out k
          rw [HSu.out] at hsb
          have hw0 : IntKind.i64.wrap t = t := IntWalk.i64_in _ (by omega)
          have hw1 : IntKind.i64.wrap (su + t) = su + t := IntWalk.i64_in _ (by omega)
          have hw2 : IntKind.i64.wrap (x - (f : Int)) = x - (f : Int) := IntWalk.i64_in _ (by omega)
          have HD : Hid (divTo (f : Int) L (k + 1) = su + t) := Lib.hid (by rw [divTo_succ hxk.out, HSu.out, HTT.out])
          have HS : Hid (maxT (f : Int) L (k + 1) = if mo < x - (f : Int) then x - (f : Int) else mo) := Lib.hid (by
            have h := HMo.out
            unfold maxT at h ⊢
            rw [take_snoc hxk.out, maxD_snoc, h])
          by_cases hlz : mo < x - (f : Int)
          · have HS2 : Hid (maxT (f : Int) L (k + 1) = x - (f : Int)) := Lib.hid (by rw [HS.out, if_pos hlz])
            have hmx : max mo (x - (f : Int)) = x - (f : Int) := by omega
            go_wp2
            go_quiet (fail)
            go_wp2
            go_quiet (fail)
            go_wp2
            go_roundw
            case rel => exact ⟨k + 1, _, x - (f : Int), su + t, by omega, by go_num, rfl, HS2, rfl, HD, (by first | rfl | (simp; omega)), rfl⟩
            case measure => simp [intOf]; omega
          · have HS2 : Hid (maxT (f : Int) L (k + 1) = mo) := Lib.hid (by rw [HS.out, if_neg hlz])
            have hmx : max mo (x - (f : Int)) = mo := by omega
            go_wp2
            go_quiet (fail)
            go_wp2
            go_quiet (fail)
            go_wp2
            go_roundw
            case rel => exact ⟨k + 1, _, mo, su + t, by omega, by go_num, rfl, HS2, rfl, HD, (by first | rfl | (simp; omega)), rfl⟩
            case measure => simp [intOf]; omega
        · skip
          obtain ⟨r, HRR⟩ : ∃ r, Hid (N % f = r) := ⟨_, Lib.hid rfl⟩
          have hrf : r < f := by rw [← HRR.out]; exact Nat.mod_lt _ (by omega)
          have hm2 : (N : Int) % (f : Int) = (r : Int) := by rw [← HRR.out]; simp
          have hm1 : (N : Int).tmod (f : Int) = (r : Int) := (Int.tmod_eq_emod_of_nonneg (by omega)).trans hm2
          have hm3 : IntKind.i64.wrap (r : Int) = r := IntWalk.i64_in _ (by omega)
          have hf0 : ((f : Int) == 0) = false := by simp; omega
          have hfz : ¬ f = 0 := by omega
          obtain ⟨ad5, y, hA5, _, hc5, hyr, _⟩ := h_l.at_ hrf
          cases hA5
          have HYR : Hid (nth L r = y) := Lib.hid (nth_some hyr.out)
          have HBY : Hid (b = true ↔ 0 ≤ y ∧ y ≤ N) := Lib.hid (by
            have h := HCAN.out
            rw [HRR.out, HYR.out] at h
            exact h)
          have hbd : Below w3_.heap.size w3_ (w3_.drewN d) := below_drewN (Below.refl _ _) d
          have B4 : Below w.heap.size w (w3_.drewN d) := B3.trans (hbd.mono S3)
          have S4 : w.heap.size ≤ (w3_.drewN d).heap.size := B4.size
          replace h_d := Ri.next h_d hbd (Nat.le_refl _) hbd.size
          replace h_l := Ri.next h_l hbd (Nat.le_refl _) hbd.size
          clear B3 S3
          clear h_l
          obtain rfl : k = f := by omega
          have hy1 : 0 ≤ y := (HLB.out y (List.mem_of_getElem? hyr.out)).1
          have HMF : Hid (maxD (k : Int) L = mo) := Lib.hid (by
            have h := HMo.out
            unfold maxT at h
            rwa [List.take_of_length_le (by rw [HLF.out]; omega)] at h)
          have HDF : Hid (divSum (k : Int) L = su) := Lib.hid (by
            have h := HSu.out
            unfold divTo at h
            rwa [List.take_of_length_le (by rw [HLF.out]; omega)] at h)
          by_cases h1 : k = 1
          · skip
            subst h1
            have HO := Lib.hid (rest_one HG.out HFN.out HRX.out)
            obtain rfl : mo = -1 := by rw [← HMF.out]; exact HO.out.1
            obtain rfl : su = 0 := by rw [← HDF.out]; exact HO.out.2.1
            obtain rfl : y = 0 := by
              obtain rfl : r = 0 := by omega
              rw [← HYR.out]; exact HL0.out
            obtain rfl : b = true := HBY.out.2 ⟨by omega, by omega⟩
            have HGR : Hid (greatestS cs = (0, 5)) := Lib.hid HO.out.2.2.1
            have HMA : Hid (manyS cs = (0, 0)) := Lib.hid HO.out.2.2.2
            go_wp2_with fail
            refine (fGreatestT (some ad) n c cs _ h_d (by omega) hc 0 5 HGR).mono ?_
            rintro e w5_ ⟨rfl, hb5⟩
            have B5 : Below w.heap.size w w5_ := B4.trans (hb5.mono S4)
            have S5 : w.heap.size ≤ w5_.heap.size := B5.size
            replace h_d := Ri.next h_d hb5 (Nat.le_refl _) hb5.size
            clear B4 S4
            clear hb5
            go_wp2_with fail
            refine (fManyT (some ad) n c cs _ h_d (by omega) hc 0 0 HMA).mono ?_
            rintro e w6_ ⟨rfl, hb6⟩
            have B6 : Below w.heap.size w w6_ := B5.trans (hb6.mono S5)
            have S6 : w.heap.size ≤ w6_.heap.size := B6.size
            replace h_d := Ri.next h_d hb6 (Nat.le_refl _) hb6.size
            clear B5 S5
            clear hb6
            go_wp2_with fail
            refine (aWorks _).mono ?_
            rintro e w7_ ⟨rfl, hb7⟩
            have B7 : Below w.heap.size w w7_ := B6.trans (hb7.mono S6)
            have S7 : w.heap.size ≤ w7_.heap.size := B7.size
            replace h_d := Ri.next h_d hb7 (Nat.le_refl _) hb7.size
            clear B6 S6
            clear hb7
            go_wp2
            go_ret
            exact ⟨rfl, B7⟩
          · skip
            have HO := Lib.hid (rest_more HG.out HEN.out HFN.out HRX.out (by omega))
            rw [HMF.out, HDF.out] at HO
            have hmo : 0 ≤ mo := HO.out.1
            have HGR : Hid (greatestS cs = (mo, 0)) := Lib.hid HO.out.2.1
            have HMA : Hid (manyS cs = (su, 0)) := Lib.hid HO.out.2.2.1
            by_cases hyN : y ≤ (N : Int)
            · skip
              obtain rfl : b = true := HBY.out.2 ⟨hy1, hyN⟩
              have hNg : (N : Int) ≠ mo := fun h => by
                have h2 := HO.out.2.2.2.not_
                rw [← h, Int.toNat_natCast] at h2
                exact h2 ((HCAN2.out).1 rfl)
              have hNg2 : ((N : Int) != mo) = true := by simpa using hNg
              go_wp2_with fail
              refine (fGreatestT (some ad) n c cs _ h_d (by omega) hc mo 0 HGR).mono ?_
              rintro e w5_ ⟨rfl, hb5⟩
              have B5 : Below w.heap.size w w5_ := B4.trans (hb5.mono S4)
              have S5 : w.heap.size ≤ w5_.heap.size := B5.size
              replace h_d := Ri.next h_d hb5 (Nat.le_refl _) hb5.size
              clear B4 S4
              clear hb5
              go_wp2_with fail
              refine (fManyT (some ad) n c cs _ h_d (by omega) hc su 0 HMA).mono ?_
              rintro e w6_ ⟨rfl, hb6⟩
              have B6 : Below w.heap.size w w6_ := B5.trans (hb6.mono S5)
              have S6 : w.heap.size ≤ w6_.heap.size := B6.size
              replace h_d := Ri.next h_d hb6 (Nat.le_refl _) hb6.size
              clear B5 S5
              clear hb6
              go_wp2_with fail
              refine (aWorks _).mono ?_
              rintro e w7_ ⟨rfl, hb7⟩
              have B7 : Below w.heap.size w w7_ := B6.trans (hb7.mono S6)
              have S7 : w.heap.size ≤ w7_.heap.size := B7.size
              replace h_d := Ri.next h_d hb7 (Nat.le_refl _) hb7.size
              clear B6 S6
              clear hb7
              go_wp2
              go_ret
              exact ⟨rfl, B7⟩
            · skip
              obtain rfl : b = false := by cases b with | false => rfl | true => have := HBY.out.1 rfl; omega
              have hNg : (N : Int) ≤ mo := by
                apply Classical.byContradiction
                intro h
                have h2 := HO.out.2.2.2.all N (by omega)
                have := HCAN2.out.2 h2
                cases this
              by_cases hNe : (N : Int) = mo
              · skip
                subst hNe
                have hNg2 : ((N : Int) != (N : Int)) = false := by simp
                go_wp2_with fail
                refine (fGreatestT (some ad) n c cs _ h_d (by omega) hc (N : Int) 0 HGR).mono ?_
                rintro e w5_ ⟨rfl, hb5⟩
                have B5 : Below w.heap.size w w5_ := B4.trans (hb5.mono S4)
                have S5 : w.heap.size ≤ w5_.heap.size := B5.size
                replace h_d := Ri.next h_d hb5 (Nat.le_refl _) hb5.size
                clear B4 S4
                clear hb5
                go_wp2_with fail
                refine (fManyT (some ad) n c cs _ h_d (by omega) hc su 0 HMA).mono ?_
                rintro e w6_ ⟨rfl, hb6⟩
                have B6 : Below w.heap.size w w6_ := B5.trans (hb6.mono S5)
                have S6 : w.heap.size ≤ w6_.heap.size := B6.size
                replace h_d := Ri.next h_d hb6 (Nat.le_refl _) hb6.size
                clear B5 S5
                clear hb6
                go_wp2_with fail
                refine (aWorks _).mono ?_
                rintro e w7_ ⟨rfl, hb7⟩
                have B7 : Below w.heap.size w w7_ := B6.trans (hb7.mono S6)
                have S7 : w.heap.size ≤ w7_.heap.size := B7.size
                replace h_d := Ri.next h_d hb7 (Nat.le_refl _) hb7.size
                clear B6 S6
                clear hb7
                go_wp2
                go_ret
                exact ⟨rfl, B7⟩
              · skip
                have hNg2 : ((N : Int) != mo) = true := by simpa using hNe
                go_wp2_with fail
                refine (fGreatestT (some ad) n c cs _ h_d (by omega) hc mo 0 HGR).mono ?_
                rintro e w5_ ⟨rfl, hb5⟩
                have B5 : Below w.heap.size w w5_ := B4.trans (hb5.mono S4)
                have S5 : w.heap.size ≤ w5_.heap.size := B5.size
                replace h_d := Ri.next h_d hb5 (Nat.le_refl _) hb5.size
                clear B4 S4
                clear hb5
                go_wp2_with fail
                refine (fManyT (some ad) n c cs _ h_d (by omega) hc su 0 HMA).mono ?_
                rintro e w6_ ⟨rfl, hb6⟩
                have B6 : Below w.heap.size w w6_ := B5.trans (hb6.mono S5)
                have S6 : w.heap.size ≤ w6_.heap.size := B6.size
                replace h_d := Ri.next h_d hb6 (Nat.le_refl _) hb6.size
                clear B5 S5
                clear hb6
                go_wp2_with fail
                refine (aWorks _).mono ?_
                rintro e w7_ ⟨rfl, hb7⟩
                have B7 : Below w.heap.size w w7_ := B6.trans (hb7.mono S6)
                have S7 : w.heap.size ≤ w7_.heap.size := B7.size
                replace h_d := Ri.next h_d hb7 (Nat.le_refl _) hb7.size
                clear B6 S6
                clear hb7
                go_wp2
                go_ret
                exact ⟨rfl, B7⟩
  · have HF : Hid (decide (checkCoins cs = 0) = false) := Lib.hid (decide_eq_false hf)
    go_enter Try.func11, Try.ntmps11
    go_wp2_with fail
    refine (aFin A n c _ cs _ hx _ HF).mono ?_
    rintro e w1 ⟨rfl, d, rfl⟩
    go_wp2_with fail
    refine (aWorks _).mono ?_
    rintro e w2 ⟨rfl, hb⟩
    go_wp2
    go_ret
    exact ⟨rfl, below_d hb⟩

set_option maxRecDepth 100000 in
theorem FloatRested_lifted (os : Os) (started : os.Started) (H : Type) (enc : TypeId × Value → H) :
    ReturnsInHanded {} Try.checked os 11 .any (Rows.floatRestedSpec.pre6 enc Try.prog Try.f11 Rows.floatRestedRow.domain false) (Rows.floatRestedSpec.post enc Try.prog Try.f11 false true false false) := by
  refine returnsInHanded_of_change (C := Try.checked) row_own started (by kernel_rfl) Try.func11
    (ChangeSpec.witness6 (enc := enc) (C := Try.checked) false ⟨#[], #[.slice none 0 0, .int .u16 0], []⟩ 8 (by kernel_rfl) (by kernel_rfl) (by kernel_rfl) (by kernel_rfl)) ?_
  intro W base args ds gs before hval0 hW _ _
  have hval : ∀ (j : Nat) t v, Try.f11.params[j]? = some t → args[j]? = some v → Value.okWide Try.prog W .any base t v := hval0
  have hW' := hW
  obtain ⟨p, q, hA0, hV, rfl, _, _⟩ := hW
  have hA : DataW.TrodAll enc Try.prog W 0 (fun _ => true) true Try.f11.params.toList args.toList ds p := hA0
  rw [Try.params11] at hA hval
  obtain ⟨v0, v1, d0, d1, p0, p1, rfl, rfl, rfl, h0, h1⟩ := trodAll_two hA
  obtain ⟨rfl, rfl⟩ := trodVars_none hV
  clear hA0 hval0
  simp only [List.append_nil] at hW'
  have hlt : ∀ x ∈ (p0 ++ p1), x.block < W.heap.size := fun x hx => by simpa using hW'.lt x hx
  have a0 := fun W' (hb : Below W.heap.size W W') => row_stays (t := 22) (by kernel_rfl) (of_decide_eq_true (by kernel_rfl)) h0 (fun x hx => hlt x (by simp [hx])) hb
  have a1 := fun W' (hb : Below W.heap.size W W') => row_stays (t := 44) (by kernel_rfl) (of_decide_eq_true (by kernel_rfl)) h1 (fun x hx => hlt x (by simp [hx])) hb
  obtain ⟨A0, n0, c0, xs0, rfl, hc0, hm0, hx0, hw0⟩ := row_ints (t := 22) (e := 2) (k := .i64) (by kernel_rfl) (by kernel_rfl) (by kernel_rfl) (hval 0 22 v0 rfl rfl) h0 (fun x hx => hlt x (by simp [hx]))
  obtain ⟨x1, rfl, _, _, wx1⟩ := open_int (P := Try.prog) (k := .u16) (t := 44) (by kernel_rfl) (hval 1 44 v1 rfl rfl) h1
  refine (wRested A0 n0 c0 xs0 x1 (u16_lo wx1) (u16_hi wx1) W hx0 hc0).mono fun e W' ⟨he, hb⟩ => ?_
  subst he
  exact ⟨_, rfl, _, _, _, [], (p0 ++ p1), [], hW', trodAll_mk1 (shut_bool Try.underlying4 true), trodAll_mk2 (a0 _ hb) (a1 _ hb), rfl, hb.frame _, fun h => by cases h⟩
theorem FloatRested_holds : Rows.FloatRestedSaid :=
  OpenClaim.holds_of_wide 11 Try.f11 rfl rfl rfl rfl rfl rfl rfl ⟨rfl, rfl, rfl, rfl, rfl⟩ rfl rfl rfl rfl rfl (by kernel_rfl) Try.func11 (by kernel_rfl)
    (of_decide_eq_true (by kernel_rfl)) (by unfold Func.isWrapper; first | (rw [if_pos (by decide +kernel)]; kernel_rfl) | (rw [if_neg (by decide +kernel)]; exact ⟨rfl, rfl⟩))
    (fun os started H enc _ => FloatRested_lifted os started H enc)
#print axioms FloatRested_holds
end Go.Proofs.Ytloibnmhgocboaa
