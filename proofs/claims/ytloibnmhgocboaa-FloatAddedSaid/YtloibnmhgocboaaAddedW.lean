/-
  FloatAdded: two amounts together need no more coins than each alone, together; if all values, and the amount, are as many times as great, as many coins are needed: for every list of coins, and amounts and times told by numbers; no condition.
-/
import Derived.Test.YtloibnmhgocboaaWorks
import Derived.Test.YtloibnmhgocboaaRow
import Derived.Test.YtloibnmhgocboaaLw2
import Derived.Test.YtloibnmhgocboaaFaR
namespace Go.Proofs.Ytloibnmhgocboaa
open Go.Shelf Go.ChangeShapes Go.WideShapes Go.ChangeAt Go.RowKit

set_option maxRecDepth 100000 in
set_option maxHeartbeats 8000000 in
theorem wAdded (A : Option Addr) (n c : Nat) (cs : List Int) (x y z : Int) (hx0 : 0 ≤ x) (hx1 : x ≤ 65535) (hy0 : 0 ≤ y) (hy1 : y ≤ 65535) (hz0 : 0 ≤ z) (hz1 : z ≤ 255) (w : World) (hx : Ri w w.heap.size A n cs) (hc : n ≤ c) :
    Calls Try.prog 14 #[.slice A n c, .int .u16 x, .int .u16 y, .int .u8 z] w (RetB w true) := by
  by_cases hf : checkCoins cs = 0
  · have HF : Hid (decide (checkCoins cs = 0) = true) := Lib.hid (decide_eq_true hf)
    have HG : Hid (Good cs) := Lib.hid (checkCoins_good.1 hf)
    have HL := Lib.hid hx.len
    have hn1 : 1 ≤ n := by rw [← HL.out]; exact HG.out.lo
    have hn5 : n ≤ 5 := by rw [← HL.out]; exact HG.out.hi
    clear hf
    obtain ⟨N, HN⟩ : ∃ N : Nat, Hid (x % 301 = (N : Int)) := ⟨(x % 301).toNat, Lib.hid (by omega)⟩
    have hN : N ≤ 300 := by have := HN.out; omega
    have HAN : Hid (amountE cs (N : Int) = 0) := Lib.hid (amountE_nat HG.out hN)
    obtain ⟨M, HM⟩ : ∃ N : Nat, Hid (y % 301 = (N : Int)) := ⟨(y % 301).toNat, Lib.hid (by omega)⟩
    have hM : M ≤ 300 := by have := HM.out; omega
    have HAM : Hid (amountE cs (M : Int) = 0) := Lib.hid (amountE_nat HG.out hM)
    obtain ⟨zr, HZR⟩ : ∃ r : Int, Hid (z % 3 = r) := ⟨_, Lib.hid rfl⟩
    have hz3 : z.tmod 3 = zr := (Int.tmod_eq_emod_of_nonneg hz0).trans HZR.out
    have hz4 : z % 3 = zr := HZR.out
    have hzr0 : 0 ≤ zr ∧ zr ≤ 2 := by rw [← HZR.out]; omega
    obtain ⟨t, ht⟩ : ∃ t : Nat, 1 + zr = (t : Int) := ⟨(1 + zr).toNat, by omega⟩
    have ht1 : 1 ≤ t := by omega
    have ht3 : t ≤ 3 := by omega
    have hwt : IntKind.i64.wrap (t : Int) = t := IntWalk.i64_in _ (by omega)
    have hwz : IntKind.i64.wrap zr = zr := IntWalk.i64_in _ (by omega)
    have hwz8 : IntKind.u8.wrap zr = zr := IntWalk.u8_in _ (by omega)
    obtain ⟨q, HQQ⟩ : ∃ q : Nat, Hid (t * N = q) := ⟨_, Lib.hid rfl⟩
    have hq0 : (t : Int) * (N : Int) = (q : Int) := by rw [← HQQ.out]; simp
    have hqb : q ≤ 900 := by rw [← HQQ.out]; exact Nat.mul_le_mul ht3 hN
    have hwq : IntKind.i64.wrap (q : Int) = q := IntWalk.i64_in _ (by omega)
    obtain ⟨S, hS⟩ : ∃ S : Nat, (N : Int) + (M : Int) = (S : Int) := ⟨N + M, by omega⟩
    have hwS : IntKind.i64.wrap (S : Int) = S := IntWalk.i64_in _ (by omega)
    obtain ⟨X, HXX⟩ : ∃ X, Hid (cs.map ((t : Int) * ·) = X) := ⟨_, Lib.hid rfl⟩
    obtain ⟨bx, HFX⟩ : ∃ b, Hid (decide (checkCoins X = 0) = b) := ⟨_, Lib.hid rfl⟩
    have h_d := hx
    by_cases hcan1 : few cs N < 0
    · have HP1 : Hid (paidV cs (N : Int) = (0, false)) := Lib.hid (paid_no hcan1)
      by_cases hcan2 : few cs M < 0
      · have HP2 : Hid (paidV cs (M : Int) = (0, false)) := Lib.hid (paid_no hcan2)
        go_enter Try.func14, Try.ntmps14
        go_wp2_with fail
        refine (aFin A n c _ cs _ h_d _ HF).mono ?_
        rintro e w1_ ⟨rfl, d1, hd1⟩
        have hb1 : Below w.heap.size w w1_ := hd1 ▸ below_drewN (Below.refl _ _) _
        clear hd1
        have B1 : Below w.heap.size w w1_ := (Below.refl _ _).trans (hb1.mono (Nat.le_refl _))
        have S1 : w.heap.size ≤ w1_.heap.size := B1.size
        replace h_d := Ri.next h_d hb1 (Nat.le_refl _) hb1.size
        clear hb1
        go_wp2_with fail
        refine (aAmt x hx0 hx1 N HN _).mono ?_
        rintro e w' ⟨rfl, rfl⟩
        go_wp2_with fail
        refine (aAmt y hy0 hy1 M HM _).mono ?_
        rintro e w' ⟨rfl, rfl⟩
        go_wp2_with fail
        refine (aPaid A n c cs (N : Int) _ h_d (by omega) hc HAN 0 false HP1).mono ?_
        rintro e w2_ ⟨rfl, hb2⟩
        have B2 : Below w.heap.size w w2_ := B1.trans (hb2.mono S1)
        have S2 : w.heap.size ≤ w2_.heap.size := B2.size
        replace h_d := Ri.next h_d hb2 (Nat.le_refl _) hb2.size
        clear B1 S1
        clear hb2
        go_wp2_with fail
        refine (aPaid A n c cs (M : Int) _ h_d (by omega) hc HAM 0 false HP2).mono ?_
        rintro e w3_ ⟨rfl, hb3⟩
        have B3 : Below w.heap.size w w3_ := B2.trans (hb3.mono S2)
        have S3 : w.heap.size ≤ w3_.heap.size := B3.size
        replace h_d := Ri.next h_d hb3 (Nat.le_refl _) hb3.size
        clear B2 S2
        clear hb3
        go_wp2
        go_loopw [21, 22] (fun o i wr => ∃ (k c' : Nat) (A' : Option Addr), k ≤ n ∧ i = .int .i64 k ∧ o = .slice A' k c' ∧ Oi wr w3_.heap.size A' k c' ((cs.take k).map ((t : Int) * ·)) ∧ Below w3_.heap.size w3_ wr) (fun _ i _ => n - (intOf i).toNat)
        case atStart => exact ⟨0, 0, none, Nat.zero_le _, rfl, rfl, Oi.nil_ _ _, Below.refl _ _⟩
        case round =>
          obtain ⟨k, c', A', hk, rfl, rfl, ho, hb⟩ := hrel
          have hsz := hb.size
          by_cases hlt : k < n
          · obtain ⟨ad, v, hA, hadb, hcv, hv, _⟩ := h_d.at_ hlt
            subst hA
            have hcv1 : wr.cell? (ad.add k) = some (.int .i64 v) := (hb.cell (by rw [addr_block]; exact hadb)).trans hcv
            have hvb : 1 ≤ v ∧ v ≤ 50 := HG.out.all v (List.mem_of_getElem? hv.out)
            obtain ⟨pv, hpv⟩ : ∃ p, (t : Int) * v = p := ⟨_, rfl⟩
            have hpb : 1 ≤ pv ∧ pv ≤ 150 := by
              have h3 : t = 1 ∨ t = 2 ∨ t = 3 := by omega
              rcases h3 with h | h | h <;> subst h <;> omega
            have hwp : IntKind.i64.wrap pv = pv := IntWalk.i64_in _ (by omega)
            have HSN : Hid ((cs.take (k + 1)).map ((t : Int) * ·) = (cs.take k).map ((t : Int) * ·) ++ [pv]) := Lib.hid (by rw [take_snoc hv.out, List.map_append, ← hpv]; rfl)
            go_wp2_with (at_builtin; refine push_int rfl (.tmp 96) (.tmp 103) rfl (w3_.heap.size) A' k c' ((cs.take k).map ((t : Int) * ·)) rfl (ho.alloc _) ⟨wr.heap.size, 0, none⟩ 1 _ rfl (cell_new1 _ _ _) (by omega) (by simp only [World.size_alloc]; omega) ?_; intro g cap w1 hown1 hgrow1)
            go_roundw
            case rel => exact ⟨k + 1, _, _, by omega, by go_num, rfl, by rw [HSN.out]; exact hown1, ho.pushed hb hsz (Nat.le_refl _) hgrow1⟩
            case measure => simp [intOf]; omega
          · skip
            obtain rfl : k = n := by omega
            have HXL : Hid (cs.map ((t : Int) * ·) = X) := HXX
            rw [List.take_of_length_le (by rw [HL.out]; omega), HXL.out] at ho
            have B4 : Below w.heap.size w wr := B3.trans (hb.mono S3)
            have S4 : w.heap.size ≤ wr.heap.size := B4.size
            replace h_d := Ri.next h_d hb (Nat.le_refl _) hb.size
            clear B3 S3
            have h_x := ho.ri
            have k_x := ho.cap
            clear ho
            go_wp2_with fail
            refine (aFin A' k c' _ X _ h_x bx HFX).mono ?_
            rintro e w5_ ⟨rfl, d5, hd5⟩
            have hb5 : Below wr.heap.size wr w5_ := hd5 ▸ below_drewN (Below.refl _ _) _
            clear hd5
            have B5 : Below w.heap.size w w5_ := B4.trans (hb5.mono S4)
            have S5 : w.heap.size ≤ w5_.heap.size := B5.size
            replace h_d := Ri.next h_d hb5 (Nat.le_refl _) hb5.size
            replace h_x := Ri.next h_x hb5 (Nat.le_refl _) hb5.size
            clear B4 S4
            clear hb5
            cases bx
            · skip
              go_wp2_with fail
              refine (aWorks _).mono ?_
              rintro e w6_ ⟨rfl, hb6⟩
              have B6 : Below w.heap.size w w6_ := B5.trans (hb6.mono S5)
              have S6 : w.heap.size ≤ w6_.heap.size := B6.size
              replace h_d := Ri.next h_d hb6 (Nat.le_refl _) hb6.size
              replace h_x := Ri.next h_x hb6 (Nat.le_refl _) hb6.size
              clear B5 S5
              clear hb6
              go_wp2
              go_ret
              exact ⟨rfl, B6⟩
            · skip
              by_cases hbig : 300 < (q : Int)
              · skip
                go_wp2_with fail
                refine (aWorks _).mono ?_
                rintro e w6_ ⟨rfl, hb6⟩
                have B6 : Below w.heap.size w w6_ := B5.trans (hb6.mono S5)
                have S6 : w.heap.size ≤ w6_.heap.size := B6.size
                replace h_d := Ri.next h_d hb6 (Nat.le_refl _) hb6.size
                replace h_x := Ri.next h_x hb6 (Nat.le_refl _) hb6.size
                clear B5 S5
                clear hb6
                go_wp2
                go_ret
                exact ⟨rfl, B6⟩
              · skip
                have hq : q ≤ 300 := by omega
                have HAQ : Hid (amountE X (q : Int) = 0) := Lib.hid (amountE_nat (checkCoins_good.1 (of_decide_eq_true HFX.out)) hq)
                have HPX : Hid (paidV X (q : Int) = (0, false)) := Lib.hid (by rw [← HP1.out, ← HXX.out, ← HQQ.out]; exact paid_scale HG.out ht1 N)
                go_wp2_with fail
                refine (aPaid A' k c' X (q : Int) _ h_x (by omega) k_x HAQ 0 false HPX).mono ?_
                rintro e w6_ ⟨rfl, hb6⟩
                have B6 : Below w.heap.size w w6_ := B5.trans (hb6.mono S5)
                have S6 : w.heap.size ≤ w6_.heap.size := B6.size
                replace h_d := Ri.next h_d hb6 (Nat.le_refl _) hb6.size
                replace h_x := Ri.next h_x hb6 (Nat.le_refl _) hb6.size
                clear B5 S5
                clear hb6
                go_wp2_with fail
                refine (aWorks _).mono ?_
                rintro e w7_ ⟨rfl, hb7⟩
                have B7 : Below w.heap.size w w7_ := B6.trans (hb7.mono S6)
                have S7 : w.heap.size ≤ w7_.heap.size := B7.size
                replace h_d := Ri.next h_d hb7 (Nat.le_refl _) hb7.size
                replace h_x := Ri.next h_x hb7 (Nat.le_refl _) hb7.size
                clear B6 S6
                clear hb7
                go_wp2
                go_ret
                exact ⟨rfl, B7⟩
      · obtain ⟨m2, HM2⟩ : ∃ m, Hid (few cs M = m) := ⟨_, Lib.hid rfl⟩
        have HP2 : Hid (paidV cs (M : Int) = (m2, true)) := Lib.hid (by rw [← HM2.out]; exact paid_yes (by omega))
        go_enter Try.func14, Try.ntmps14
        go_wp2_with fail
        refine (aFin A n c _ cs _ h_d _ HF).mono ?_
        rintro e w1_ ⟨rfl, d1, hd1⟩
        have hb1 : Below w.heap.size w w1_ := hd1 ▸ below_drewN (Below.refl _ _) _
        clear hd1
        have B1 : Below w.heap.size w w1_ := (Below.refl _ _).trans (hb1.mono (Nat.le_refl _))
        have S1 : w.heap.size ≤ w1_.heap.size := B1.size
        replace h_d := Ri.next h_d hb1 (Nat.le_refl _) hb1.size
        clear hb1
        go_wp2_with fail
        refine (aAmt x hx0 hx1 N HN _).mono ?_
        rintro e w' ⟨rfl, rfl⟩
        go_wp2_with fail
        refine (aAmt y hy0 hy1 M HM _).mono ?_
        rintro e w' ⟨rfl, rfl⟩
        go_wp2_with fail
        refine (aPaid A n c cs (N : Int) _ h_d (by omega) hc HAN 0 false HP1).mono ?_
        rintro e w2_ ⟨rfl, hb2⟩
        have B2 : Below w.heap.size w w2_ := B1.trans (hb2.mono S1)
        have S2 : w.heap.size ≤ w2_.heap.size := B2.size
        replace h_d := Ri.next h_d hb2 (Nat.le_refl _) hb2.size
        clear B1 S1
        clear hb2
        go_wp2_with fail
        refine (aPaid A n c cs (M : Int) _ h_d (by omega) hc HAM m2 true HP2).mono ?_
        rintro e w3_ ⟨rfl, hb3⟩
        have B3 : Below w.heap.size w w3_ := B2.trans (hb3.mono S2)
        have S3 : w.heap.size ≤ w3_.heap.size := B3.size
        replace h_d := Ri.next h_d hb3 (Nat.le_refl _) hb3.size
        clear B2 S2
        clear hb3
        go_wp2
        go_loopw [21, 22] (fun o i wr => ∃ (k c' : Nat) (A' : Option Addr), k ≤ n ∧ i = .int .i64 k ∧ o = .slice A' k c' ∧ Oi wr w3_.heap.size A' k c' ((cs.take k).map ((t : Int) * ·)) ∧ Below w3_.heap.size w3_ wr) (fun _ i _ => n - (intOf i).toNat)
        case atStart => exact ⟨0, 0, none, Nat.zero_le _, rfl, rfl, Oi.nil_ _ _, Below.refl _ _⟩
        case round =>
          obtain ⟨k, c', A', hk, rfl, rfl, ho, hb⟩ := hrel
          have hsz := hb.size
          by_cases hlt : k < n
          · obtain ⟨ad, v, hA, hadb, hcv, hv, _⟩ := h_d.at_ hlt
            subst hA
            have hcv1 : wr.cell? (ad.add k) = some (.int .i64 v) := (hb.cell (by rw [addr_block]; exact hadb)).trans hcv
            have hvb : 1 ≤ v ∧ v ≤ 50 := HG.out.all v (List.mem_of_getElem? hv.out)
            obtain ⟨pv, hpv⟩ : ∃ p, (t : Int) * v = p := ⟨_, rfl⟩
            have hpb : 1 ≤ pv ∧ pv ≤ 150 := by
              have h3 : t = 1 ∨ t = 2 ∨ t = 3 := by omega
              rcases h3 with h | h | h <;> subst h <;> omega
            have hwp : IntKind.i64.wrap pv = pv := IntWalk.i64_in _ (by omega)
            have HSN : Hid ((cs.take (k + 1)).map ((t : Int) * ·) = (cs.take k).map ((t : Int) * ·) ++ [pv]) := Lib.hid (by rw [take_snoc hv.out, List.map_append, ← hpv]; rfl)
            go_wp2_with (at_builtin; refine push_int rfl (.tmp 96) (.tmp 103) rfl (w3_.heap.size) A' k c' ((cs.take k).map ((t : Int) * ·)) rfl (ho.alloc _) ⟨wr.heap.size, 0, none⟩ 1 _ rfl (cell_new1 _ _ _) (by omega) (by simp only [World.size_alloc]; omega) ?_; intro g cap w1 hown1 hgrow1)
            go_roundw
            case rel => exact ⟨k + 1, _, _, by omega, by go_num, rfl, by rw [HSN.out]; exact hown1, ho.pushed hb hsz (Nat.le_refl _) hgrow1⟩
            case measure => simp [intOf]; omega
          · skip
            obtain rfl : k = n := by omega
            have HXL : Hid (cs.map ((t : Int) * ·) = X) := HXX
            rw [List.take_of_length_le (by rw [HL.out]; omega), HXL.out] at ho
            have B4 : Below w.heap.size w wr := B3.trans (hb.mono S3)
            have S4 : w.heap.size ≤ wr.heap.size := B4.size
            replace h_d := Ri.next h_d hb (Nat.le_refl _) hb.size
            clear B3 S3
            have h_x := ho.ri
            have k_x := ho.cap
            clear ho
            go_wp2_with fail
            refine (aFin A' k c' _ X _ h_x bx HFX).mono ?_
            rintro e w5_ ⟨rfl, d5, hd5⟩
            have hb5 : Below wr.heap.size wr w5_ := hd5 ▸ below_drewN (Below.refl _ _) _
            clear hd5
            have B5 : Below w.heap.size w w5_ := B4.trans (hb5.mono S4)
            have S5 : w.heap.size ≤ w5_.heap.size := B5.size
            replace h_d := Ri.next h_d hb5 (Nat.le_refl _) hb5.size
            replace h_x := Ri.next h_x hb5 (Nat.le_refl _) hb5.size
            clear B4 S4
            clear hb5
            cases bx
            · skip
              go_wp2_with fail
              refine (aWorks _).mono ?_
              rintro e w6_ ⟨rfl, hb6⟩
              have B6 : Below w.heap.size w w6_ := B5.trans (hb6.mono S5)
              have S6 : w.heap.size ≤ w6_.heap.size := B6.size
              replace h_d := Ri.next h_d hb6 (Nat.le_refl _) hb6.size
              replace h_x := Ri.next h_x hb6 (Nat.le_refl _) hb6.size
              clear B5 S5
              clear hb6
              go_wp2
              go_ret
              exact ⟨rfl, B6⟩
            · skip
              by_cases hbig : 300 < (q : Int)
              · skip
                go_wp2_with fail
                refine (aWorks _).mono ?_
                rintro e w6_ ⟨rfl, hb6⟩
                have B6 : Below w.heap.size w w6_ := B5.trans (hb6.mono S5)
                have S6 : w.heap.size ≤ w6_.heap.size := B6.size
                replace h_d := Ri.next h_d hb6 (Nat.le_refl _) hb6.size
                replace h_x := Ri.next h_x hb6 (Nat.le_refl _) hb6.size
                clear B5 S5
                clear hb6
                go_wp2
                go_ret
                exact ⟨rfl, B6⟩
              · skip
                have hq : q ≤ 300 := by omega
                have HAQ : Hid (amountE X (q : Int) = 0) := Lib.hid (amountE_nat (checkCoins_good.1 (of_decide_eq_true HFX.out)) hq)
                have HPX : Hid (paidV X (q : Int) = (0, false)) := Lib.hid (by rw [← HP1.out, ← HXX.out, ← HQQ.out]; exact paid_scale HG.out ht1 N)
                go_wp2_with fail
                refine (aPaid A' k c' X (q : Int) _ h_x (by omega) k_x HAQ 0 false HPX).mono ?_
                rintro e w6_ ⟨rfl, hb6⟩
                have B6 : Below w.heap.size w w6_ := B5.trans (hb6.mono S5)
                have S6 : w.heap.size ≤ w6_.heap.size := B6.size
                replace h_d := Ri.next h_d hb6 (Nat.le_refl _) hb6.size
                replace h_x := Ri.next h_x hb6 (Nat.le_refl _) hb6.size
                clear B5 S5
                clear hb6
                go_wp2_with fail
                refine (aWorks _).mono ?_
                rintro e w7_ ⟨rfl, hb7⟩
                have B7 : Below w.heap.size w w7_ := B6.trans (hb7.mono S6)
                have S7 : w.heap.size ≤ w7_.heap.size := B7.size
                replace h_d := Ri.next h_d hb7 (Nat.le_refl _) hb7.size
                replace h_x := Ri.next h_x hb7 (Nat.le_refl _) hb7.size
                clear B6 S6
                clear hb7
                go_wp2
                go_ret
                exact ⟨rfl, B7⟩
    · obtain ⟨m1, HM1⟩ : ∃ m, Hid (few cs N = m) := ⟨_, Lib.hid rfl⟩
      have HP1 : Hid (paidV cs (N : Int) = (m1, true)) := Lib.hid (by rw [← HM1.out]; exact paid_yes (by omega))
      by_cases hcan2 : few cs M < 0
      · have HP2 : Hid (paidV cs (M : Int) = (0, false)) := Lib.hid (paid_no hcan2)
        go_enter Try.func14, Try.ntmps14
        go_wp2_with fail
        refine (aFin A n c _ cs _ h_d _ HF).mono ?_
        rintro e w1_ ⟨rfl, d1, hd1⟩
        have hb1 : Below w.heap.size w w1_ := hd1 ▸ below_drewN (Below.refl _ _) _
        clear hd1
        have B1 : Below w.heap.size w w1_ := (Below.refl _ _).trans (hb1.mono (Nat.le_refl _))
        have S1 : w.heap.size ≤ w1_.heap.size := B1.size
        replace h_d := Ri.next h_d hb1 (Nat.le_refl _) hb1.size
        clear hb1
        go_wp2_with fail
        refine (aAmt x hx0 hx1 N HN _).mono ?_
        rintro e w' ⟨rfl, rfl⟩
        go_wp2_with fail
        refine (aAmt y hy0 hy1 M HM _).mono ?_
        rintro e w' ⟨rfl, rfl⟩
        go_wp2_with fail
        refine (aPaid A n c cs (N : Int) _ h_d (by omega) hc HAN m1 true HP1).mono ?_
        rintro e w2_ ⟨rfl, hb2⟩
        have B2 : Below w.heap.size w w2_ := B1.trans (hb2.mono S1)
        have S2 : w.heap.size ≤ w2_.heap.size := B2.size
        replace h_d := Ri.next h_d hb2 (Nat.le_refl _) hb2.size
        clear B1 S1
        clear hb2
        go_wp2_with fail
        refine (aPaid A n c cs (M : Int) _ h_d (by omega) hc HAM 0 false HP2).mono ?_
        rintro e w3_ ⟨rfl, hb3⟩
        have B3 : Below w.heap.size w w3_ := B2.trans (hb3.mono S2)
        have S3 : w.heap.size ≤ w3_.heap.size := B3.size
        replace h_d := Ri.next h_d hb3 (Nat.le_refl _) hb3.size
        clear B2 S2
        clear hb3
        go_wp2
        go_loopw [21, 22] (fun o i wr => ∃ (k c' : Nat) (A' : Option Addr), k ≤ n ∧ i = .int .i64 k ∧ o = .slice A' k c' ∧ Oi wr w3_.heap.size A' k c' ((cs.take k).map ((t : Int) * ·)) ∧ Below w3_.heap.size w3_ wr) (fun _ i _ => n - (intOf i).toNat)
        case atStart => exact ⟨0, 0, none, Nat.zero_le _, rfl, rfl, Oi.nil_ _ _, Below.refl _ _⟩
        case round =>
          obtain ⟨k, c', A', hk, rfl, rfl, ho, hb⟩ := hrel
          have hsz := hb.size
          by_cases hlt : k < n
          · obtain ⟨ad, v, hA, hadb, hcv, hv, _⟩ := h_d.at_ hlt
            subst hA
            have hcv1 : wr.cell? (ad.add k) = some (.int .i64 v) := (hb.cell (by rw [addr_block]; exact hadb)).trans hcv
            have hvb : 1 ≤ v ∧ v ≤ 50 := HG.out.all v (List.mem_of_getElem? hv.out)
            obtain ⟨pv, hpv⟩ : ∃ p, (t : Int) * v = p := ⟨_, rfl⟩
            have hpb : 1 ≤ pv ∧ pv ≤ 150 := by
              have h3 : t = 1 ∨ t = 2 ∨ t = 3 := by omega
              rcases h3 with h | h | h <;> subst h <;> omega
            have hwp : IntKind.i64.wrap pv = pv := IntWalk.i64_in _ (by omega)
            have HSN : Hid ((cs.take (k + 1)).map ((t : Int) * ·) = (cs.take k).map ((t : Int) * ·) ++ [pv]) := Lib.hid (by rw [take_snoc hv.out, List.map_append, ← hpv]; rfl)
            go_wp2_with (at_builtin; refine push_int rfl (.tmp 96) (.tmp 103) rfl (w3_.heap.size) A' k c' ((cs.take k).map ((t : Int) * ·)) rfl (ho.alloc _) ⟨wr.heap.size, 0, none⟩ 1 _ rfl (cell_new1 _ _ _) (by omega) (by simp only [World.size_alloc]; omega) ?_; intro g cap w1 hown1 hgrow1)
            go_roundw
            case rel => exact ⟨k + 1, _, _, by omega, by go_num, rfl, by rw [HSN.out]; exact hown1, ho.pushed hb hsz (Nat.le_refl _) hgrow1⟩
            case measure => simp [intOf]; omega
          · skip
            obtain rfl : k = n := by omega
            have HXL : Hid (cs.map ((t : Int) * ·) = X) := HXX
            rw [List.take_of_length_le (by rw [HL.out]; omega), HXL.out] at ho
            have B4 : Below w.heap.size w wr := B3.trans (hb.mono S3)
            have S4 : w.heap.size ≤ wr.heap.size := B4.size
            replace h_d := Ri.next h_d hb (Nat.le_refl _) hb.size
            clear B3 S3
            have h_x := ho.ri
            have k_x := ho.cap
            clear ho
            go_wp2_with fail
            refine (aFin A' k c' _ X _ h_x bx HFX).mono ?_
            rintro e w5_ ⟨rfl, d5, hd5⟩
            have hb5 : Below wr.heap.size wr w5_ := hd5 ▸ below_drewN (Below.refl _ _) _
            clear hd5
            have B5 : Below w.heap.size w w5_ := B4.trans (hb5.mono S4)
            have S5 : w.heap.size ≤ w5_.heap.size := B5.size
            replace h_d := Ri.next h_d hb5 (Nat.le_refl _) hb5.size
            replace h_x := Ri.next h_x hb5 (Nat.le_refl _) hb5.size
            clear B4 S4
            clear hb5
            cases bx
            · skip
              go_wp2_with fail
              refine (aWorks _).mono ?_
              rintro e w6_ ⟨rfl, hb6⟩
              have B6 : Below w.heap.size w w6_ := B5.trans (hb6.mono S5)
              have S6 : w.heap.size ≤ w6_.heap.size := B6.size
              replace h_d := Ri.next h_d hb6 (Nat.le_refl _) hb6.size
              replace h_x := Ri.next h_x hb6 (Nat.le_refl _) hb6.size
              clear B5 S5
              clear hb6
              go_wp2
              go_ret
              exact ⟨rfl, B6⟩
            · skip
              by_cases hbig : 300 < (q : Int)
              · skip
                go_wp2_with fail
                refine (aWorks _).mono ?_
                rintro e w6_ ⟨rfl, hb6⟩
                have B6 : Below w.heap.size w w6_ := B5.trans (hb6.mono S5)
                have S6 : w.heap.size ≤ w6_.heap.size := B6.size
                replace h_d := Ri.next h_d hb6 (Nat.le_refl _) hb6.size
                replace h_x := Ri.next h_x hb6 (Nat.le_refl _) hb6.size
                clear B5 S5
                clear hb6
                go_wp2
                go_ret
                exact ⟨rfl, B6⟩
              · skip
                have hq : q ≤ 300 := by omega
                have HAQ : Hid (amountE X (q : Int) = 0) := Lib.hid (amountE_nat (checkCoins_good.1 (of_decide_eq_true HFX.out)) hq)
                have HPX : Hid (paidV X (q : Int) = (m1, true)) := Lib.hid (by rw [← HP1.out, ← HXX.out, ← HQQ.out]; exact paid_scale HG.out ht1 N)
                go_wp2_with fail
                refine (aPaid A' k c' X (q : Int) _ h_x (by omega) k_x HAQ m1 true HPX).mono ?_
                rintro e w6_ ⟨rfl, hb6⟩
                have B6 : Below w.heap.size w w6_ := B5.trans (hb6.mono S5)
                have S6 : w.heap.size ≤ w6_.heap.size := B6.size
                replace h_d := Ri.next h_d hb6 (Nat.le_refl _) hb6.size
                replace h_x := Ri.next h_x hb6 (Nat.le_refl _) hb6.size
                clear B5 S5
                clear hb6
                go_wp2_with fail
                refine (aWorks _).mono ?_
                rintro e w7_ ⟨rfl, hb7⟩
                have B7 : Below w.heap.size w w7_ := B6.trans (hb7.mono S6)
                have S7 : w.heap.size ≤ w7_.heap.size := B7.size
                replace h_d := Ri.next h_d hb7 (Nat.le_refl _) hb7.size
                replace h_x := Ri.next h_x hb7 (Nat.le_refl _) hb7.size
                clear B6 S6
                clear hb7
                go_wp2
                go_ret
                exact ⟨rfl, B7⟩
      · obtain ⟨m2, HM2⟩ : ∃ m, Hid (few cs M = m) := ⟨_, Lib.hid rfl⟩
        have HP2 : Hid (paidV cs (M : Int) = (m2, true)) := Lib.hid (by rw [← HM2.out]; exact paid_yes (by omega))
        by_cases hsum : (S : Int) ≤ 300
        · have HAS : Hid (amountE cs (S : Int) = 0) := Lib.hid (amountE_nat HG.out (by omega))
          have HAD := Lib.hid (few_add HG.out.pos (a := N) (b := M) (by omega) (by omega))
          rw [HM1.out, HM2.out, show N + M = S by omega] at HAD
          obtain ⟨m3, HM3⟩ : ∃ m, Hid (few cs S = m) := ⟨_, Lib.hid rfl⟩
          have HP3 : Hid (paidV cs (S : Int) = (m3, true)) := Lib.hid (by rw [← HM3.out]; exact paid_yes HAD.out.1)
          have hm3 : m3 ≤ m1 + m2 := by rw [← HM3.out]; exact HAD.out.2
          have hmb1 : -1 ≤ m1 ∧ m1 ≤ N := by rw [← HM1.out]; exact few_le HG.out.pos N
          have hmb2 : -1 ≤ m2 ∧ m2 ≤ M := by rw [← HM2.out]; exact few_le HG.out.pos M
          have hwm : IntKind.i64.wrap (m1 + m2) = m1 + m2 := IntWalk.i64_in _ (by omega)
          go_enter Try.func14, Try.ntmps14
          go_wp2_with fail
          refine (aFin A n c _ cs _ h_d _ HF).mono ?_
          rintro e w1_ ⟨rfl, d1, hd1⟩
          have hb1 : Below w.heap.size w w1_ := hd1 ▸ below_drewN (Below.refl _ _) _
          clear hd1
          have B1 : Below w.heap.size w w1_ := (Below.refl _ _).trans (hb1.mono (Nat.le_refl _))
          have S1 : w.heap.size ≤ w1_.heap.size := B1.size
          replace h_d := Ri.next h_d hb1 (Nat.le_refl _) hb1.size
          clear hb1
          go_wp2_with fail
          refine (aAmt x hx0 hx1 N HN _).mono ?_
          rintro e w' ⟨rfl, rfl⟩
          go_wp2_with fail
          refine (aAmt y hy0 hy1 M HM _).mono ?_
          rintro e w' ⟨rfl, rfl⟩
          go_wp2_with fail
          refine (aPaid A n c cs (N : Int) _ h_d (by omega) hc HAN m1 true HP1).mono ?_
          rintro e w2_ ⟨rfl, hb2⟩
          have B2 : Below w.heap.size w w2_ := B1.trans (hb2.mono S1)
          have S2 : w.heap.size ≤ w2_.heap.size := B2.size
          replace h_d := Ri.next h_d hb2 (Nat.le_refl _) hb2.size
          clear B1 S1
          clear hb2
          go_wp2_with fail
          refine (aPaid A n c cs (M : Int) _ h_d (by omega) hc HAM m2 true HP2).mono ?_
          rintro e w3_ ⟨rfl, hb3⟩
          have B3 : Below w.heap.size w w3_ := B2.trans (hb3.mono S2)
          have S3 : w.heap.size ≤ w3_.heap.size := B3.size
          replace h_d := Ri.next h_d hb3 (Nat.le_refl _) hb3.size
          clear B2 S2
          clear hb3
          go_wp2_with fail
          refine (aPaid A n c cs (S : Int) _ h_d (by omega) hc HAS m3 true HP3).mono ?_
          rintro e w4_ ⟨rfl, hb4⟩
          have B4 : Below w.heap.size w w4_ := B3.trans (hb4.mono S3)
          have S4 : w.heap.size ≤ w4_.heap.size := B4.size
          replace h_d := Ri.next h_d hb4 (Nat.le_refl _) hb4.size
          clear B3 S3
          clear hb4
          go_wp2
          go_loopw [21, 22] (fun o i wr => ∃ (k c' : Nat) (A' : Option Addr), k ≤ n ∧ i = .int .i64 k ∧ o = .slice A' k c' ∧ Oi wr w4_.heap.size A' k c' ((cs.take k).map ((t : Int) * ·)) ∧ Below w4_.heap.size w4_ wr) (fun _ i _ => n - (intOf i).toNat)
          case atStart => exact ⟨0, 0, none, Nat.zero_le _, rfl, rfl, Oi.nil_ _ _, Below.refl _ _⟩
          case round =>
            obtain ⟨k, c', A', hk, rfl, rfl, ho, hb⟩ := hrel
            have hsz := hb.size
            by_cases hlt : k < n
            · obtain ⟨ad, v, hA, hadb, hcv, hv, _⟩ := h_d.at_ hlt
              subst hA
              have hcv1 : wr.cell? (ad.add k) = some (.int .i64 v) := (hb.cell (by rw [addr_block]; exact hadb)).trans hcv
              have hvb : 1 ≤ v ∧ v ≤ 50 := HG.out.all v (List.mem_of_getElem? hv.out)
              obtain ⟨pv, hpv⟩ : ∃ p, (t : Int) * v = p := ⟨_, rfl⟩
              have hpb : 1 ≤ pv ∧ pv ≤ 150 := by
                have h3 : t = 1 ∨ t = 2 ∨ t = 3 := by omega
                rcases h3 with h | h | h <;> subst h <;> omega
              have hwp : IntKind.i64.wrap pv = pv := IntWalk.i64_in _ (by omega)
              have HSN : Hid ((cs.take (k + 1)).map ((t : Int) * ·) = (cs.take k).map ((t : Int) * ·) ++ [pv]) := Lib.hid (by rw [take_snoc hv.out, List.map_append, ← hpv]; rfl)
              go_wp2_with (at_builtin; refine push_int rfl (.tmp 96) (.tmp 103) rfl (w4_.heap.size) A' k c' ((cs.take k).map ((t : Int) * ·)) rfl (ho.alloc _) ⟨wr.heap.size, 0, none⟩ 1 _ rfl (cell_new1 _ _ _) (by omega) (by simp only [World.size_alloc]; omega) ?_; intro g cap w1 hown1 hgrow1)
              go_roundw
              case rel => exact ⟨k + 1, _, _, by omega, by go_num, rfl, by rw [HSN.out]; exact hown1, ho.pushed hb hsz (Nat.le_refl _) hgrow1⟩
              case measure => simp [intOf]; omega
            · skip
              obtain rfl : k = n := by omega
              have HXL : Hid (cs.map ((t : Int) * ·) = X) := HXX
              rw [List.take_of_length_le (by rw [HL.out]; omega), HXL.out] at ho
              have B5 : Below w.heap.size w wr := B4.trans (hb.mono S4)
              have S5 : w.heap.size ≤ wr.heap.size := B5.size
              replace h_d := Ri.next h_d hb (Nat.le_refl _) hb.size
              clear B4 S4
              have h_x := ho.ri
              have k_x := ho.cap
              clear ho
              go_wp2_with fail
              refine (aFin A' k c' _ X _ h_x bx HFX).mono ?_
              rintro e w6_ ⟨rfl, d6, hd6⟩
              have hb6 : Below wr.heap.size wr w6_ := hd6 ▸ below_drewN (Below.refl _ _) _
              clear hd6
              have B6 : Below w.heap.size w w6_ := B5.trans (hb6.mono S5)
              have S6 : w.heap.size ≤ w6_.heap.size := B6.size
              replace h_d := Ri.next h_d hb6 (Nat.le_refl _) hb6.size
              replace h_x := Ri.next h_x hb6 (Nat.le_refl _) hb6.size
              clear B5 S5
              clear hb6
              cases bx
              · skip
                go_wp2_with fail
                refine (aWorks _).mono ?_
                rintro e w7_ ⟨rfl, hb7⟩
                have B7 : Below w.heap.size w w7_ := B6.trans (hb7.mono S6)
                have S7 : w.heap.size ≤ w7_.heap.size := B7.size
                replace h_d := Ri.next h_d hb7 (Nat.le_refl _) hb7.size
                replace h_x := Ri.next h_x hb7 (Nat.le_refl _) hb7.size
                clear B6 S6
                clear hb7
                go_wp2
                go_ret
                exact ⟨rfl, B7⟩
              · skip
                by_cases hbig : 300 < (q : Int)
                · skip
                  go_wp2_with fail
                  refine (aWorks _).mono ?_
                  rintro e w7_ ⟨rfl, hb7⟩
                  have B7 : Below w.heap.size w w7_ := B6.trans (hb7.mono S6)
                  have S7 : w.heap.size ≤ w7_.heap.size := B7.size
                  replace h_d := Ri.next h_d hb7 (Nat.le_refl _) hb7.size
                  replace h_x := Ri.next h_x hb7 (Nat.le_refl _) hb7.size
                  clear B6 S6
                  clear hb7
                  go_wp2
                  go_ret
                  exact ⟨rfl, B7⟩
                · skip
                  have hq : q ≤ 300 := by omega
                  have HAQ : Hid (amountE X (q : Int) = 0) := Lib.hid (amountE_nat (checkCoins_good.1 (of_decide_eq_true HFX.out)) hq)
                  have HPX : Hid (paidV X (q : Int) = (m1, true)) := Lib.hid (by rw [← HP1.out, ← HXX.out, ← HQQ.out]; exact paid_scale HG.out ht1 N)
                  go_wp2_with fail
                  refine (aPaid A' k c' X (q : Int) _ h_x (by omega) k_x HAQ m1 true HPX).mono ?_
                  rintro e w7_ ⟨rfl, hb7⟩
                  have B7 : Below w.heap.size w w7_ := B6.trans (hb7.mono S6)
                  have S7 : w.heap.size ≤ w7_.heap.size := B7.size
                  replace h_d := Ri.next h_d hb7 (Nat.le_refl _) hb7.size
                  replace h_x := Ri.next h_x hb7 (Nat.le_refl _) hb7.size
                  clear B6 S6
                  clear hb7
                  go_wp2_with fail
                  refine (aWorks _).mono ?_
                  rintro e w8_ ⟨rfl, hb8⟩
                  have B8 : Below w.heap.size w w8_ := B7.trans (hb8.mono S7)
                  have S8 : w.heap.size ≤ w8_.heap.size := B8.size
                  replace h_d := Ri.next h_d hb8 (Nat.le_refl _) hb8.size
                  replace h_x := Ri.next h_x hb8 (Nat.le_refl _) hb8.size
                  clear B7 S7
                  clear hb8
                  go_wp2
                  go_ret
                  exact ⟨rfl, B8⟩
        · skip
          go_enter Try.func14, Try.ntmps14
          go_wp2_with fail
          refine (aFin A n c _ cs _ h_d _ HF).mono ?_
          rintro e w1_ ⟨rfl, d1, hd1⟩
          have hb1 : Below w.heap.size w w1_ := hd1 ▸ below_drewN (Below.refl _ _) _
          clear hd1
          have B1 : Below w.heap.size w w1_ := (Below.refl _ _).trans (hb1.mono (Nat.le_refl _))
          have S1 : w.heap.size ≤ w1_.heap.size := B1.size
          replace h_d := Ri.next h_d hb1 (Nat.le_refl _) hb1.size
          clear hb1
          go_wp2_with fail
          refine (aAmt x hx0 hx1 N HN _).mono ?_
          rintro e w' ⟨rfl, rfl⟩
          go_wp2_with fail
          refine (aAmt y hy0 hy1 M HM _).mono ?_
          rintro e w' ⟨rfl, rfl⟩
          go_wp2_with fail
          refine (aPaid A n c cs (N : Int) _ h_d (by omega) hc HAN m1 true HP1).mono ?_
          rintro e w2_ ⟨rfl, hb2⟩
          have B2 : Below w.heap.size w w2_ := B1.trans (hb2.mono S1)
          have S2 : w.heap.size ≤ w2_.heap.size := B2.size
          replace h_d := Ri.next h_d hb2 (Nat.le_refl _) hb2.size
          clear B1 S1
          clear hb2
          go_wp2_with fail
          refine (aPaid A n c cs (M : Int) _ h_d (by omega) hc HAM m2 true HP2).mono ?_
          rintro e w3_ ⟨rfl, hb3⟩
          have B3 : Below w.heap.size w w3_ := B2.trans (hb3.mono S2)
          have S3 : w.heap.size ≤ w3_.heap.size := B3.size
          replace h_d := Ri.next h_d hb3 (Nat.le_refl _) hb3.size
          clear B2 S2
          clear hb3
          go_wp2
          go_loopw [21, 22] (fun o i wr => ∃ (k c' : Nat) (A' : Option Addr), k ≤ n ∧ i = .int .i64 k ∧ o = .slice A' k c' ∧ Oi wr w3_.heap.size A' k c' ((cs.take k).map ((t : Int) * ·)) ∧ Below w3_.heap.size w3_ wr) (fun _ i _ => n - (intOf i).toNat)
          case atStart => exact ⟨0, 0, none, Nat.zero_le _, rfl, rfl, Oi.nil_ _ _, Below.refl _ _⟩
          case round =>
            obtain ⟨k, c', A', hk, rfl, rfl, ho, hb⟩ := hrel
            have hsz := hb.size
            by_cases hlt : k < n
            · obtain ⟨ad, v, hA, hadb, hcv, hv, _⟩ := h_d.at_ hlt
              subst hA
              have hcv1 : wr.cell? (ad.add k) = some (.int .i64 v) := (hb.cell (by rw [addr_block]; exact hadb)).trans hcv
              have hvb : 1 ≤ v ∧ v ≤ 50 := HG.out.all v (List.mem_of_getElem? hv.out)
              obtain ⟨pv, hpv⟩ : ∃ p, (t : Int) * v = p := ⟨_, rfl⟩
              have hpb : 1 ≤ pv ∧ pv ≤ 150 := by
                have h3 : t = 1 ∨ t = 2 ∨ t = 3 := by omega
                rcases h3 with h | h | h <;> subst h <;> omega
              have hwp : IntKind.i64.wrap pv = pv := IntWalk.i64_in _ (by omega)
              have HSN : Hid ((cs.take (k + 1)).map ((t : Int) * ·) = (cs.take k).map ((t : Int) * ·) ++ [pv]) := Lib.hid (by rw [take_snoc hv.out, List.map_append, ← hpv]; rfl)
              go_wp2_with (at_builtin; refine push_int rfl (.tmp 96) (.tmp 103) rfl (w3_.heap.size) A' k c' ((cs.take k).map ((t : Int) * ·)) rfl (ho.alloc _) ⟨wr.heap.size, 0, none⟩ 1 _ rfl (cell_new1 _ _ _) (by omega) (by simp only [World.size_alloc]; omega) ?_; intro g cap w1 hown1 hgrow1)
              go_roundw
              case rel => exact ⟨k + 1, _, _, by omega, by go_num, rfl, by rw [HSN.out]; exact hown1, ho.pushed hb hsz (Nat.le_refl _) hgrow1⟩
              case measure => simp [intOf]; omega
            · skip
              obtain rfl : k = n := by omega
              have HXL : Hid (cs.map ((t : Int) * ·) = X) := HXX
              rw [List.take_of_length_le (by rw [HL.out]; omega), HXL.out] at ho
              have B4 : Below w.heap.size w wr := B3.trans (hb.mono S3)
              have S4 : w.heap.size ≤ wr.heap.size := B4.size
              replace h_d := Ri.next h_d hb (Nat.le_refl _) hb.size
              clear B3 S3
              have h_x := ho.ri
              have k_x := ho.cap
              clear ho
              go_wp2_with fail
              refine (aFin A' k c' _ X _ h_x bx HFX).mono ?_
              rintro e w5_ ⟨rfl, d5, hd5⟩
              have hb5 : Below wr.heap.size wr w5_ := hd5 ▸ below_drewN (Below.refl _ _) _
              clear hd5
              have B5 : Below w.heap.size w w5_ := B4.trans (hb5.mono S4)
              have S5 : w.heap.size ≤ w5_.heap.size := B5.size
              replace h_d := Ri.next h_d hb5 (Nat.le_refl _) hb5.size
              replace h_x := Ri.next h_x hb5 (Nat.le_refl _) hb5.size
              clear B4 S4
              clear hb5
              cases bx
              · skip
                go_wp2_with fail
                refine (aWorks _).mono ?_
                rintro e w6_ ⟨rfl, hb6⟩
                have B6 : Below w.heap.size w w6_ := B5.trans (hb6.mono S5)
                have S6 : w.heap.size ≤ w6_.heap.size := B6.size
                replace h_d := Ri.next h_d hb6 (Nat.le_refl _) hb6.size
                replace h_x := Ri.next h_x hb6 (Nat.le_refl _) hb6.size
                clear B5 S5
                clear hb6
                go_wp2
                go_ret
                exact ⟨rfl, B6⟩
              · skip
                by_cases hbig : 300 < (q : Int)
                · skip
                  go_wp2_with fail
                  refine (aWorks _).mono ?_
                  rintro e w6_ ⟨rfl, hb6⟩
                  have B6 : Below w.heap.size w w6_ := B5.trans (hb6.mono S5)
                  have S6 : w.heap.size ≤ w6_.heap.size := B6.size
                  replace h_d := Ri.next h_d hb6 (Nat.le_refl _) hb6.size
                  replace h_x := Ri.next h_x hb6 (Nat.le_refl _) hb6.size
                  clear B5 S5
                  clear hb6
                  go_wp2
                  go_ret
                  exact ⟨rfl, B6⟩
                · skip
                  have hq : q ≤ 300 := by omega
                  have HAQ : Hid (amountE X (q : Int) = 0) := Lib.hid (amountE_nat (checkCoins_good.1 (of_decide_eq_true HFX.out)) hq)
                  have HPX : Hid (paidV X (q : Int) = (m1, true)) := Lib.hid (by rw [← HP1.out, ← HXX.out, ← HQQ.out]; exact paid_scale HG.out ht1 N)
                  go_wp2_with fail
                  refine (aPaid A' k c' X (q : Int) _ h_x (by omega) k_x HAQ m1 true HPX).mono ?_
                  rintro e w6_ ⟨rfl, hb6⟩
                  have B6 : Below w.heap.size w w6_ := B5.trans (hb6.mono S5)
                  have S6 : w.heap.size ≤ w6_.heap.size := B6.size
                  replace h_d := Ri.next h_d hb6 (Nat.le_refl _) hb6.size
                  replace h_x := Ri.next h_x hb6 (Nat.le_refl _) hb6.size
                  clear B5 S5
                  clear hb6
                  go_wp2_with fail
                  refine (aWorks _).mono ?_
                  rintro e w7_ ⟨rfl, hb7⟩
                  have B7 : Below w.heap.size w w7_ := B6.trans (hb7.mono S6)
                  have S7 : w.heap.size ≤ w7_.heap.size := B7.size
                  replace h_d := Ri.next h_d hb7 (Nat.le_refl _) hb7.size
                  replace h_x := Ri.next h_x hb7 (Nat.le_refl _) hb7.size
                  clear B6 S6
                  clear hb7
                  go_wp2
                  go_ret
                  exact ⟨rfl, B7⟩
  · have HF : Hid (decide (checkCoins cs = 0) = false) := Lib.hid (decide_eq_false hf)
    go_enter Try.func14, Try.ntmps14
    go_wp2_with fail
    refine (aFin A n c _ cs _ hx _ HF).mono ?_
    rintro e w1 ⟨rfl, d, rfl⟩
    go_wp2_with fail
    refine (aWorks _).mono ?_
    rintro e w2 ⟨rfl, hb⟩
    go_wp2
    go_ret
    exact ⟨rfl, below_d hb⟩

set_option maxRecDepth 100000 in
theorem FloatAdded_lifted (os : Os) (started : os.Started) (H : Type) (enc : TypeId × Value → H) :
    ReturnsInHanded {} Try.checked os 14 .any (Rows.floatAddedSpec.pre6 enc Try.prog Try.f14 Rows.floatAddedRow.domain false) (Rows.floatAddedSpec.post enc Try.prog Try.f14 false true false false) := by
  refine returnsInHanded_of_change (C := Try.checked) row_own started (by kernel_rfl) Try.func14
    (ChangeSpec.witness6 (enc := enc) (C := Try.checked) false ⟨#[], #[.slice none 0 0, .int .u16 0, .int .u16 0, .int .u8 0], []⟩ 8 (by kernel_rfl) (by kernel_rfl) (by kernel_rfl) (by kernel_rfl)) ?_
  intro W base args ds gs before hval0 hW _ _
  have hval : ∀ (j : Nat) t v, Try.f14.params[j]? = some t → args[j]? = some v → Value.okWide Try.prog W .any base t v := hval0
  have hW' := hW
  obtain ⟨p, q, hA0, hV, rfl, _, _⟩ := hW
  have hA : DataW.TrodAll enc Try.prog W 0 (fun _ => true) true Try.f14.params.toList args.toList ds p := hA0
  rw [Try.params14] at hA hval
  obtain ⟨v0, v1, v2, v3, d0, d1, d2, d3, p0, p1, p2, p3, rfl, rfl, rfl, h0, h1, h2, h3⟩ := trodAll_four hA
  obtain ⟨rfl, rfl⟩ := trodVars_none hV
  clear hA0 hval0
  simp only [List.append_nil] at hW'
  have hlt : ∀ x ∈ (p0 ++ p1 ++ p2 ++ p3), x.block < W.heap.size := fun x hx => by simpa using hW'.lt x hx
  have a0 := fun W' (hb : Below W.heap.size W W') => row_stays (t := 22) (by kernel_rfl) (of_decide_eq_true (by kernel_rfl)) h0 (fun x hx => hlt x (by simp [hx])) hb
  have a1 := fun W' (hb : Below W.heap.size W W') => row_stays (t := 44) (by kernel_rfl) (of_decide_eq_true (by kernel_rfl)) h1 (fun x hx => hlt x (by simp [hx])) hb
  have a2 := fun W' (hb : Below W.heap.size W W') => row_stays (t := 44) (by kernel_rfl) (of_decide_eq_true (by kernel_rfl)) h2 (fun x hx => hlt x (by simp [hx])) hb
  have a3 := fun W' (hb : Below W.heap.size W W') => row_stays (t := 5) (by kernel_rfl) (of_decide_eq_true (by kernel_rfl)) h3 (fun x hx => hlt x (by simp [hx])) hb
  obtain ⟨A0, n0, c0, xs0, rfl, hc0, hm0, hx0, hw0⟩ := row_ints (t := 22) (e := 2) (k := .i64) (by kernel_rfl) (by kernel_rfl) (by kernel_rfl) (hval 0 22 v0 rfl rfl) h0 (fun x hx => hlt x (by simp [hx]))
  obtain ⟨x1, rfl, _, _, wx1⟩ := open_int (P := Try.prog) (k := .u16) (t := 44) (by kernel_rfl) (hval 1 44 v1 rfl rfl) h1
  obtain ⟨x2, rfl, _, _, wx2⟩ := open_int (P := Try.prog) (k := .u16) (t := 44) (by kernel_rfl) (hval 2 44 v2 rfl rfl) h2
  obtain ⟨x3, rfl, _, _, wx3⟩ := open_int (P := Try.prog) (k := .u8) (t := 5) (by kernel_rfl) (hval 3 5 v3 rfl rfl) h3
  refine (wAdded A0 n0 c0 xs0 x1 x2 x3 (u16_lo wx1) (u16_hi wx1) (u16_lo wx2) (u16_hi wx2) (u8_lo wx3) (u8_hi wx3) W hx0 hc0).mono fun e W' ⟨he, hb⟩ => ?_
  subst he
  exact ⟨_, rfl, _, _, _, [], (p0 ++ p1 ++ p2 ++ p3), [], hW', trodAll_mk1 (shut_bool Try.underlying4 true), (by simp only [List.append_assoc]; exact trodAll_mk4 (a0 _ hb) (a1 _ hb) (a2 _ hb) (a3 _ hb)), rfl, hb.frame _, fun h => by cases h⟩
theorem FloatAdded_holds : Rows.FloatAddedSaid :=
  OpenClaim.holds_of_wide 14 Try.f14 rfl rfl rfl rfl rfl rfl rfl ⟨rfl, rfl, rfl, rfl, rfl⟩ rfl rfl rfl rfl rfl (by kernel_rfl) Try.func14 (by kernel_rfl)
    (of_decide_eq_true (by kernel_rfl)) (by unfold Func.isWrapper; first | (rw [if_pos (by decide +kernel)]; kernel_rfl) | (rw [if_neg (by decide +kernel)]; exact ⟨rfl, rfl⟩))
    (fun os started H enc _ => FloatAdded_lifted os started H enc)
#print axioms FloatAdded_holds
end Go.Proofs.Ytloibnmhgocboaa
