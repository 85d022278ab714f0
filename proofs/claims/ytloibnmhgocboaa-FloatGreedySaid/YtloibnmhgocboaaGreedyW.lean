/-
  FloatGreedy: what is taken greedily, and the rest, are the amount, and the rest is less than the least coin; if the first kind has the value 1 either an amount less than the last two kinds together is bad, and none less than this, or no given one is: for every list of coins and every amount, told by a number; no condition.
-/
import Derived.Test.YtloibnmhgocboaaWorks
import Derived.Test.YtloibnmhgocboaaRow
import Derived.Test.YtloibnmhgocboaaFaQ
import Derived.Test.YtloibnmhgocboaaR1
import Derived.Test.YtloibnmhgocboaaR2
import Derived.Test.YtloibnmhgocboaaR3
import Derived.Test.YtloibnmhgocboaaR4
import Derived.Test.YtloibnmhgocboaaR5
import Derived.Test.YtloibnmhgocboaaR6
import Derived.Test.YtloibnmhgocboaaR7
import Derived.Test.YtloibnmhgocboaaR8
import Derived.Test.YtloibnmhgocboaaLw2
import Derived.Test.YtloibnmhgocboaaStill
namespace Go.Proofs.Ytloibnmhgocboaa
open Go.Shelf Go.ChangeShapes Go.WideShapes Go.ChangeAt Go.RowKit

set_option maxRecDepth 100000 in
set_option maxHeartbeats 4000000 in
theorem wGreedy (A : Option Addr) (n c : Nat) (cs : List Int) (x : Int) (hx0 : 0 ≤ x) (hx1 : x ≤ 65535) (w : World) (hx : Ri w w.heap.size A n cs) (hc : n ≤ c) :
    Calls Try.prog 10 #[.slice A n c, .int .u16 x] w (RetB w true) := by
  by_cases hf : checkCoins cs = 0
  · have HF : Hid (decide (checkCoins cs = 0) = true) := Lib.hid (decide_eq_true hf)
    have HG : Hid (Good cs) := Lib.hid (checkCoins_good.1 hf)
    have HL := Lib.hid hx.len
    have hn1 : 1 ≤ n := by rw [← HL.out]; exact HG.out.lo
    have hn5 : n ≤ 5 := by rw [← HL.out]; exact HG.out.hi
    clear hf
    obtain ⟨N, HN⟩ : ∃ N : Nat, Hid (x % 301 = (N : Int)) := ⟨(x % 301).toNat, Lib.hid (by omega)⟩
    have hN : N ≤ 300 := by have := HN.out; omega
    have HAN : Hid (amountE cs (N : Int) = 0) := Lib.hid (amountE_nat HG.out hN)
    obtain ⟨ad, z, rfl, hadb, hcz, hz, _⟩ := hx.at_ (k := 0) (by omega)
    rw [addr_zero] at hcz
    have HZZ : Hid (nth cs 0 = z) := Lib.hid (nth_some hz.out)
    have hzb : 1 ≤ z ∧ z ≤ 50 := HG.out.all z (List.mem_of_getElem? hz.out)
    have HGA := Lib.hid (greedy_all HG.out hN)
    have HBO := Lib.hid (bad_of HG.out hN)
    obtain ⟨gl, HGX⟩ : ∃ l, Hid ((greedyL cs (N : Int)).1 = l) := ⟨_, Lib.hid rfl⟩
    obtain ⟨s, HSS⟩ : ∃ s, Hid ((greedyL cs (N : Int)).2 = s) := ⟨_, Lib.hid rfl⟩
    obtain ⟨M, HMM⟩ : ∃ M, Hid ((greedyL cs (N : Int)).1.sum = M) := ⟨_, Lib.hid rfl⟩
    have HGS : Hid (greedyS cs (N : Int) = (gl, s, 0)) := Lib.hid (by rw [HGA.out.1, HGX.out, HSS.out])
    have HGL : Hid (gl.length = n) := Lib.hid (by rw [← HGX.out, HGA.out.2.1, HL.out])
    have hs0 : 0 ≤ s := by rw [← HSS.out]; exact HGA.out.2.2.1
    have hsN : s ≤ N := by rw [← HSS.out]; exact HGA.out.2.2.2.1
    have hsz : s < z := by rw [← HSS.out, ← HZZ.out]; exact HGA.out.2.2.2.2.1
    obtain ⟨t, HT⟩ : ∃ t, Hid ((N : Int) - s = t) := ⟨_, Lib.hid rfl⟩
    have hts : t + s = N := by rw [← HT.out]; omega
    have hwN : IntKind.i64.wrap (N : Int) = N := IntWalk.i64_in _ (by omega)
    have HCC : Hid (changeCS cs gl = (t, M, 0)) := Lib.hid (by rw [← HGX.out, HGA.out.2.2.2.2.2.1, HSS.out, HT.out, HMM.out])
    have hM0 : 0 ≤ M := by rw [← HMM.out]; exact HGA.out.2.2.2.2.2.2.1
    have hM3 : M ≤ 300 := by rw [← HMM.out]; exact HGA.out.2.2.2.2.2.2.2.1
    have HCS := Lib.hid HGA.out.2.2.2.2.2.2.2.2
    have h_d := hx
    by_cases hz1 : z = 1
    · subst hz1
      have HZ : Hid (nth cs 0 = 1) := Lib.hid HZZ.out
      obtain ⟨f, HFF⟩ : ∃ f, Hid (few cs N = f) := ⟨_, Lib.hid rfl⟩
      have hr0 : s = 0 := by rw [← HSS.out]; exact one_rest HG.out HZ.out (N : Int)
      subst hr0
      have hcan : ¬ few cs N < 0 := by have := (HCS.out HSS.out).1; omega
      have hf0 : 0 ≤ f := by rw [← HFF.out]; omega
      have hMf : f ≤ M := by have := (HCS.out HSS.out).2; rw [HMM.out, HFF.out] at this; exact this
      have ht0 : t = N := by omega
      rcases bad_facts HG.out HZ.out with hno | ⟨b, hbx⟩
      · have HBS : Hid (badS cs = (0, 5)) := Lib.hid hno.1
        have hmf : M = f := by
          apply Classical.byContradiction
          intro h
          refine hno.2 N hN ?_
          rw [HBO.out, if_neg hcan, if_neg (fun h2 => h (by rw [← HMM.out, h2.2, HFF.out]))]
        subst hmf
        have HP : Hid (paidV cs (N : Int) = (M, true))  := Lib.hid (by rw [← HFF.out]; exact paid_yes (by omega))
        have HB : Hid (checkBadS cs (N : Int) = 16) := Lib.hid (by rw [HBO.out, if_neg hcan, if_pos ⟨HSS.out, by rw [HMM.out, HFF.out]⟩])
        go_enter Try.func10, Try.ntmps10
        go_wp2_with fail
        refine (aFin (some ad) n c _ cs _ h_d _ HF).mono ?_
        rintro e w1_ ⟨rfl, d1, hd1⟩
        have hb1 : Below w.heap.size w w1_ := hd1 ▸ below_drewN (Below.refl _ _) _
        clear hd1
        have B1 : Below w.heap.size w w1_ := (Below.refl _ _).trans (hb1.mono (Nat.le_refl _))
        have S1 : w.heap.size ≤ w1_.heap.size := B1.size
        replace h_d := Ri.next h_d hb1 (Nat.le_refl _) hb1.size
        clear hb1
        go_wp2_with fail
        refine (aAmt x hx0 hx1 N HN _).mono ?_
        rintro e w' ⟨rfl, rfl⟩
        go_wp2_with fail
        refine (fGreedyT (some ad) n c cs (N : Int) _ h_d (by omega) hc gl 0 0 HGS).mono ?_
        rintro e w2_ ⟨A2, n2, c2, rfl, ho2, hb2⟩
        have B2 : Below w.heap.size w w2_ := B1.trans (hb2.mono S1)
        have S2 : w.heap.size ≤ w2_.heap.size := B2.size
        replace h_d := Ri.next h_d hb2 (Nat.le_refl _) hb2.size
        clear B1 S1
        have h_g := ho2.ri
        have m_g := ho2.most
        clear ho2
        clear hb2
        obtain rfl : n = n2 := by rw [← h_g.len, HGL.out]
        have hch2 : w2_.cell? ad = some (.int .i64 1) := (B2.cell hadb).trans hcz
        go_wp2_with fail
        refine (fCheckChangeT (some ad) n c cs A2 n c2 gl _ h_d h_g (by omega) (by omega) hc t M 0 HCC).mono ?_
        rintro e w3_ ⟨rfl, hb3⟩
        have B3 : Below w.heap.size w w3_ := B2.trans (hb3.mono S2)
        have S3 : w.heap.size ≤ w3_.heap.size := B3.size
        replace h_d := Ri.next h_d hb3 (Nat.le_refl _) hb3.size
        replace h_g := Ri.next h_g hb3 (Nat.le_refl _) hb3.size
        clear B2 S2
        clear hb3
        clear h_g
        go_wp2_with fail
        refine (aPaid (some ad) n c cs (N : Int) _ h_d (by omega) hc HAN M true HP).mono ?_
        rintro e w4_ ⟨rfl, hb4⟩
        have B4 : Below w.heap.size w w4_ := B3.trans (hb4.mono S3)
        have S4 : w.heap.size ≤ w4_.heap.size := B4.size
        replace h_d := Ri.next h_d hb4 (Nat.le_refl _) hb4.size
        clear B3 S3
        clear hb4
        go_wp2_with fail
        refine (fCheckBadT (some ad) n c cs _ h_d (by omega) hc (N : Int) (16) HB).mono ?_
        rintro e w5_ ⟨rfl, hb5⟩
        have B5 : Below w.heap.size w w5_ := B4.trans (hb5.mono S4)
        have S5 : w.heap.size ≤ w5_.heap.size := B5.size
        replace h_d := Ri.next h_d hb5 (Nat.le_refl _) hb5.size
        clear B4 S4
        clear hb5
        go_wp2_with fail
        refine (fBadT (some ad) n c cs _ h_d (by omega) hc 0 5 HBS).mono ?_
        rintro e w6_ ⟨rfl, hb6⟩
        have B6 : Below w.heap.size w w6_ := B5.trans (hb6.mono S5)
        have S6 : w.heap.size ≤ w6_.heap.size := B6.size
        replace h_d := Ri.next h_d hb6 (Nat.le_refl _) hb6.size
        clear B5 S5
        clear hb6
        have hch6 : w6_.cell? ad = some (.int .i64 1) := (B6.cell hadb).trans hcz
        go_wp2_with fail
        refine (aWorks _).mono ?_
        rintro e w7_ ⟨rfl, hb7⟩
        have B7 : Below w.heap.size w w7_ := B6.trans (hb7.mono S6)
        have S7 : w.heap.size ≤ w7_.heap.size := B7.size
        replace h_d := Ri.next h_d hb7 (Nat.le_refl _) hb7.size
        clear B6 S6
        clear hb7
        go_wp2
        go_ret
        exact ⟨rfl, B7⟩
      · have HBX := Lib.hid hbx
        have hb1 : 1 ≤ b := hbx.2.2.1
        have hn3 : 3 ≤ n := by rw [← HL.out]; exact hbx.2.1
        clear hbx
        have HBS : Hid (badS cs = ((b : Int), 0)) := Lib.hid HBX.out.1
        have HBB : Hid (checkBadS cs (b : Int) = 0) := Lib.hid HBX.out.2.2.2.2.1
        obtain ⟨p, HPM⟩ : ∃ p, Hid (n = p + 1) := ⟨n - 1, Lib.hid (by omega)⟩
        obtain ⟨p2, HPM2⟩ : ∃ p, Hid (n = p + 2) := ⟨n - 2, Lib.hid (by omega)⟩
        have hp : p < n := by rw [HPM.out]; omega
        have hp2 : p2 < n := by rw [HPM2.out]; omega
        have hi1 : (n : Int) - 1 = p := by rw [HPM.out]; omega
        have hi2 : (n : Int) - 2 = p2 := by rw [HPM2.out]; omega
        have hi3 : IntKind.i64.wrap (p : Int) = p := IntWalk.i64_in _ (by omega)
        have hi4 : IntKind.i64.wrap (p2 : Int) = p2 := IntWalk.i64_in _ (by omega)
        obtain ⟨ad1, z1, hA1, _, hcz1, hz1, _⟩ := hx.at_ hp
        cases hA1
        obtain ⟨ad2, z2, hA2, _, hcz2, hz2, _⟩ := hx.at_ hp2
        cases hA2
        have hz1b : 1 ≤ z1 ∧ z1 ≤ 50 := HG.out.all z1 (List.mem_of_getElem? hz1.out)
        have hz2b : 1 ≤ z2 ∧ z2 ≤ 50 := HG.out.all z2 (List.mem_of_getElem? hz2.out)
        have hbz : (b : Int) < z1 + z2 := by
          have h := HBX.out.2.2.2.1
          rwa [HL.out, show n - 1 = p by have := HPM.out; omega, show n - 2 = p2 by have := HPM2.out; omega, nth_some hz1.out, nth_some hz2.out] at h
        have hn3i : (3 : Int) ≤ (n : Int) := by omega
        have hb1i : (1 : Int) ≤ (b : Int) := by omega
        have hbz2 : ¬ (z1 + z2 ≤ (b : Int)) := by omega
        have hi5 : IntKind.i64.wrap (z1 + z2) = z1 + z2 := IntWalk.i64_in _ (by omega)
        by_cases hmf : M = f
        · subst hmf
          have HP : Hid (paidV cs (N : Int) = (M, true))  := Lib.hid (by rw [← HFF.out]; exact paid_yes (by omega))
          have HB : Hid (checkBadS cs (N : Int) = 16) := Lib.hid (by rw [HBO.out, if_neg hcan, if_pos ⟨HSS.out, by rw [HMM.out, HFF.out]⟩])
          go_enter Try.func10, Try.ntmps10
          go_wp2_with fail
          refine (aFin (some ad) n c _ cs _ h_d _ HF).mono ?_
          rintro e w1_ ⟨rfl, d1, hd1⟩
          have hb1 : Below w.heap.size w w1_ := hd1 ▸ below_drewN (Below.refl _ _) _
          clear hd1
          have B1 : Below w.heap.size w w1_ := (Below.refl _ _).trans (hb1.mono (Nat.le_refl _))
          have S1 : w.heap.size ≤ w1_.heap.size := B1.size
          replace h_d := Ri.next h_d hb1 (Nat.le_refl _) hb1.size
          clear hb1
          go_wp2_with fail
          refine (aAmt x hx0 hx1 N HN _).mono ?_
          rintro e w' ⟨rfl, rfl⟩
          go_wp2_with fail
          refine (fGreedyT (some ad) n c cs (N : Int) _ h_d (by omega) hc gl 0 0 HGS).mono ?_
          rintro e w2_ ⟨A2, n2, c2, rfl, ho2, hb2⟩
          have B2 : Below w.heap.size w w2_ := B1.trans (hb2.mono S1)
          have S2 : w.heap.size ≤ w2_.heap.size := B2.size
          replace h_d := Ri.next h_d hb2 (Nat.le_refl _) hb2.size
          clear B1 S1
          have h_g := ho2.ri
          have m_g := ho2.most
          clear ho2
          clear hb2
          obtain rfl : n = n2 := by rw [← h_g.len, HGL.out]
          have hch2 : w2_.cell? ad = some (.int .i64 1) := (B2.cell hadb).trans hcz
          go_wp2_with fail
          refine (fCheckChangeT (some ad) n c cs A2 n c2 gl _ h_d h_g (by omega) (by omega) hc t M 0 HCC).mono ?_
          rintro e w3_ ⟨rfl, hb3⟩
          have B3 : Below w.heap.size w w3_ := B2.trans (hb3.mono S2)
          have S3 : w.heap.size ≤ w3_.heap.size := B3.size
          replace h_d := Ri.next h_d hb3 (Nat.le_refl _) hb3.size
          replace h_g := Ri.next h_g hb3 (Nat.le_refl _) hb3.size
          clear B2 S2
          clear hb3
          clear h_g
          go_wp2_with fail
          refine (aPaid (some ad) n c cs (N : Int) _ h_d (by omega) hc HAN M true HP).mono ?_
          rintro e w4_ ⟨rfl, hb4⟩
          have B4 : Below w.heap.size w w4_ := B3.trans (hb4.mono S3)
          have S4 : w.heap.size ≤ w4_.heap.size := B4.size
          replace h_d := Ri.next h_d hb4 (Nat.le_refl _) hb4.size
          clear B3 S3
          clear hb4
          go_wp2_with fail
          refine (fCheckBadT (some ad) n c cs _ h_d (by omega) hc (N : Int) (16) HB).mono ?_
          rintro e w5_ ⟨rfl, hb5⟩
          have B5 : Below w.heap.size w w5_ := B4.trans (hb5.mono S4)
          have S5 : w.heap.size ≤ w5_.heap.size := B5.size
          replace h_d := Ri.next h_d hb5 (Nat.le_refl _) hb5.size
          clear B4 S4
          clear hb5
          go_wp2_with fail
          refine (fBadT (some ad) n c cs _ h_d (by omega) hc (b : Int) 0 HBS).mono ?_
          rintro e w6_ ⟨rfl, hb6⟩
          have B6 : Below w.heap.size w w6_ := B5.trans (hb6.mono S5)
          have S6 : w.heap.size ≤ w6_.heap.size := B6.size
          replace h_d := Ri.next h_d hb6 (Nat.le_refl _) hb6.size
          clear B5 S5
          clear hb6
          have hch6 : w6_.cell? ad = some (.int .i64 1) := (B6.cell hadb).trans hcz
          have hl1 : w6_.cell? (ad.add p) = some (.int .i64 z1) := (B6.cell (by rw [addr_block]; exact hadb)).trans hcz1
          have hl2 : w6_.cell? (ad.add p2) = some (.int .i64 z2) := (B6.cell (by rw [addr_block]; exact hadb)).trans hcz2
          go_wp2
          refine wp_region_still_tail 27 (by kernel_rfl) (by kernel_rfl) ?_
          simp only [List.take_succ_cons, List.take_zero, List.drop_succ_cons, List.drop_zero]
          change wpStill _ _ w6_.drew _ _ _
          have hdr : Below w6_.heap.size w6_ w6_.drew := below_drewN (Below.refl _ _) 1
          have B7 : Below w.heap.size w (w6_.drew) := B6.trans (hdr.mono S6)
          have S7 : w.heap.size ≤ (w6_.drew).heap.size := B7.size
          replace h_d := Ri.next h_d hdr (Nat.le_refl _) hdr.size
          clear B6 S6
          have dl1 : w6_.drew.cell? (ad.add p) = some (.int .i64 z1) := hl1
          have dl2 : w6_.drew.cell? (ad.add p2) = some (.int .i64 z2) := hl2
          iterate 27 still_step
          refine wpStill_nil ?_
          go_wp2_with fail
          refine (fCheckBadT (some ad) n c cs _ h_d (by omega) hc (b : Int) 0 HBB).mono ?_
          rintro e w8_ ⟨rfl, hb8⟩
          have B8 : Below w.heap.size w w8_ := B7.trans (hb8.mono S7)
          have S8 : w.heap.size ≤ w8_.heap.size := B8.size
          replace h_d := Ri.next h_d hb8 (Nat.le_refl _) hb8.size
          clear B7 S7
          clear hb8
          go_wp2_with fail
          refine (aWorks _).mono ?_
          rintro e w9_ ⟨rfl, hb9⟩
          have B9 : Below w.heap.size w w9_ := B8.trans (hb9.mono S8)
          have S9 : w.heap.size ≤ w9_.heap.size := B9.size
          replace h_d := Ri.next h_d hb9 (Nat.le_refl _) hb9.size
          clear B8 S8
          clear hb9
          go_wp2
          go_ret
          exact ⟨rfl, B9⟩
        · have hlt : f < M := by omega
          have HP : Hid (paidV cs (N : Int) = (f, true))  := Lib.hid (by rw [← HFF.out]; exact paid_yes (by omega))
          have HB : Hid (checkBadS cs (N : Int) = 0) := Lib.hid (by rw [HBO.out, if_neg hcan, if_neg (fun h => by have := h.2; rw [HMM.out, HFF.out] at this; omega)])

          have hbN : (b : Int) ≤ N := by have := HBX.out.2.2.2.2.2 N hN HB.out; omega
          go_enter Try.func10, Try.ntmps10
          go_wp2_with fail
          refine (aFin (some ad) n c _ cs _ h_d _ HF).mono ?_
          rintro e w1_ ⟨rfl, d1, hd1⟩
          have hb1 : Below w.heap.size w w1_ := hd1 ▸ below_drewN (Below.refl _ _) _
          clear hd1
          have B1 : Below w.heap.size w w1_ := (Below.refl _ _).trans (hb1.mono (Nat.le_refl _))
          have S1 : w.heap.size ≤ w1_.heap.size := B1.size
          replace h_d := Ri.next h_d hb1 (Nat.le_refl _) hb1.size
          clear hb1
          go_wp2_with fail
          refine (aAmt x hx0 hx1 N HN _).mono ?_
          rintro e w' ⟨rfl, rfl⟩
          go_wp2_with fail
          refine (fGreedyT (some ad) n c cs (N : Int) _ h_d (by omega) hc gl 0 0 HGS).mono ?_
          rintro e w2_ ⟨A2, n2, c2, rfl, ho2, hb2⟩
          have B2 : Below w.heap.size w w2_ := B1.trans (hb2.mono S1)
          have S2 : w.heap.size ≤ w2_.heap.size := B2.size
          replace h_d := Ri.next h_d hb2 (Nat.le_refl _) hb2.size
          clear B1 S1
          have h_g := ho2.ri
          have m_g := ho2.most
          clear ho2
          clear hb2
          obtain rfl : n = n2 := by rw [← h_g.len, HGL.out]
          have hch2 : w2_.cell? ad = some (.int .i64 1) := (B2.cell hadb).trans hcz
          go_wp2_with fail
          refine (fCheckChangeT (some ad) n c cs A2 n c2 gl _ h_d h_g (by omega) (by omega) hc t M 0 HCC).mono ?_
          rintro e w3_ ⟨rfl, hb3⟩
          have B3 : Below w.heap.size w w3_ := B2.trans (hb3.mono S2)
          have S3 : w.heap.size ≤ w3_.heap.size := B3.size
          replace h_d := Ri.next h_d hb3 (Nat.le_refl _) hb3.size
          replace h_g := Ri.next h_g hb3 (Nat.le_refl _) hb3.size
          clear B2 S2
          clear hb3
          clear h_g
          go_wp2_with fail
          refine (aPaid (some ad) n c cs (N : Int) _ h_d (by omega) hc HAN f true HP).mono ?_
          rintro e w4_ ⟨rfl, hb4⟩
          have B4 : Below w.heap.size w w4_ := B3.trans (hb4.mono S3)
          have S4 : w.heap.size ≤ w4_.heap.size := B4.size
          replace h_d := Ri.next h_d hb4 (Nat.le_refl _) hb4.size
          clear B3 S3
          clear hb4
          go_wp2_with fail
          refine (fCheckBadT (some ad) n c cs _ h_d (by omega) hc (N : Int) (0) HB).mono ?_
          rintro e w5_ ⟨rfl, hb5⟩
          have B5 : Below w.heap.size w w5_ := B4.trans (hb5.mono S4)
          have S5 : w.heap.size ≤ w5_.heap.size := B5.size
          replace h_d := Ri.next h_d hb5 (Nat.le_refl _) hb5.size
          clear B4 S4
          clear hb5
          go_wp2_with fail
          refine (fBadT (some ad) n c cs _ h_d (by omega) hc (b : Int) 0 HBS).mono ?_
          rintro e w6_ ⟨rfl, hb6⟩
          have B6 : Below w.heap.size w w6_ := B5.trans (hb6.mono S5)
          have S6 : w.heap.size ≤ w6_.heap.size := B6.size
          replace h_d := Ri.next h_d hb6 (Nat.le_refl _) hb6.size
          clear B5 S5
          clear hb6
          have hch6 : w6_.cell? ad = some (.int .i64 1) := (B6.cell hadb).trans hcz
          have hl1 : w6_.cell? (ad.add p) = some (.int .i64 z1) := (B6.cell (by rw [addr_block]; exact hadb)).trans hcz1
          have hl2 : w6_.cell? (ad.add p2) = some (.int .i64 z2) := (B6.cell (by rw [addr_block]; exact hadb)).trans hcz2
          go_wp2
          refine wp_region_still_tail 27 (by kernel_rfl) (by kernel_rfl) ?_
          simp only [List.take_succ_cons, List.take_zero, List.drop_succ_cons, List.drop_zero]
          change wpStill _ _ w6_.drew _ _ _
          have hdr : Below w6_.heap.size w6_ w6_.drew := below_drewN (Below.refl _ _) 1
          have B7 : Below w.heap.size w (w6_.drew) := B6.trans (hdr.mono S6)
          have S7 : w.heap.size ≤ (w6_.drew).heap.size := B7.size
          replace h_d := Ri.next h_d hdr (Nat.le_refl _) hdr.size
          clear B6 S6
          have dl1 : w6_.drew.cell? (ad.add p) = some (.int .i64 z1) := hl1
          have dl2 : w6_.drew.cell? (ad.add p2) = some (.int .i64 z2) := hl2
          iterate 27 still_step
          refine wpStill_nil ?_
          go_wp2_with fail
          refine (fCheckBadT (some ad) n c cs _ h_d (by omega) hc (b : Int) 0 HBB).mono ?_
          rintro e w8_ ⟨rfl, hb8⟩
          have B8 : Below w.heap.size w w8_ := B7.trans (hb8.mono S7)
          have S8 : w.heap.size ≤ w8_.heap.size := B8.size
          replace h_d := Ri.next h_d hb8 (Nat.le_refl _) hb8.size
          clear B7 S7
          clear hb8
          go_wp2_with fail
          refine (aWorks _).mono ?_
          rintro e w9_ ⟨rfl, hb9⟩
          have B9 : Below w.heap.size w w9_ := B8.trans (hb9.mono S8)
          have S9 : w.heap.size ≤ w9_.heap.size := B9.size
          replace h_d := Ri.next h_d hb9 (Nat.le_refl _) hb9.size
          clear B8 S8
          clear hb9
          go_wp2
          go_ret
          exact ⟨rfl, B9⟩
    · have hzn : (z != 1) = true := by simpa using hz1
      have HBS : Hid (badS cs = (0, 2)) := Lib.hid (by unfold badS; rw [if_pos (checkCoins_good.2 HG.out), if_pos (by rw [HZZ.out]; exact hz1)])
      by_cases hcan : few cs N < 0
      · have hs1 : s ≠ 0 := fun h => by have := HCS.out (by rw [HSS.out]; exact h); omega
        have hs2 : (s == 0) = false := by simpa using hs1
        have hs3 : 0 < s := by omega
        have HP : Hid (paidV cs (N : Int) = (0, false)) := Lib.hid (paid_no hcan)
        have HB : Hid (checkBadS cs (N : Int) = 5) := Lib.hid (by rw [HBO.out, if_pos hcan])
        go_enter Try.func10, Try.ntmps10
        go_wp2_with fail
        refine (aFin (some ad) n c _ cs _ h_d _ HF).mono ?_
        rintro e w1_ ⟨rfl, d1, hd1⟩
        have hb1 : Below w.heap.size w w1_ := hd1 ▸ below_drewN (Below.refl _ _) _
        clear hd1
        have B1 : Below w.heap.size w w1_ := (Below.refl _ _).trans (hb1.mono (Nat.le_refl _))
        have S1 : w.heap.size ≤ w1_.heap.size := B1.size
        replace h_d := Ri.next h_d hb1 (Nat.le_refl _) hb1.size
        clear hb1
        go_wp2_with fail
        refine (aAmt x hx0 hx1 N HN _).mono ?_
        rintro e w' ⟨rfl, rfl⟩
        go_wp2_with fail
        refine (fGreedyT (some ad) n c cs (N : Int) _ h_d (by omega) hc gl s 0 HGS).mono ?_
        rintro e w2_ ⟨A2, n2, c2, rfl, ho2, hb2⟩
        have B2 : Below w.heap.size w w2_ := B1.trans (hb2.mono S1)
        have S2 : w.heap.size ≤ w2_.heap.size := B2.size
        replace h_d := Ri.next h_d hb2 (Nat.le_refl _) hb2.size
        clear B1 S1
        have h_g := ho2.ri
        have m_g := ho2.most
        clear ho2
        clear hb2
        obtain rfl : n = n2 := by rw [← h_g.len, HGL.out]
        have hch2 : w2_.cell? ad = some (.int .i64 z) := (B2.cell hadb).trans hcz
        go_wp2_with fail
        refine (fCheckChangeT (some ad) n c cs A2 n c2 gl _ h_d h_g (by omega) (by omega) hc t M 0 HCC).mono ?_
        rintro e w3_ ⟨rfl, hb3⟩
        have B3 : Below w.heap.size w w3_ := B2.trans (hb3.mono S2)
        have S3 : w.heap.size ≤ w3_.heap.size := B3.size
        replace h_d := Ri.next h_d hb3 (Nat.le_refl _) hb3.size
        replace h_g := Ri.next h_g hb3 (Nat.le_refl _) hb3.size
        clear B2 S2
        clear hb3
        clear h_g
        go_wp2_with fail
        refine (aPaid (some ad) n c cs (N : Int) _ h_d (by omega) hc HAN 0 false HP).mono ?_
        rintro e w4_ ⟨rfl, hb4⟩
        have B4 : Below w.heap.size w w4_ := B3.trans (hb4.mono S3)
        have S4 : w.heap.size ≤ w4_.heap.size := B4.size
        replace h_d := Ri.next h_d hb4 (Nat.le_refl _) hb4.size
        clear B3 S3
        clear hb4
        go_wp2_with fail
        refine (fCheckBadT (some ad) n c cs _ h_d (by omega) hc (N : Int) (5) HB).mono ?_
        rintro e w5_ ⟨rfl, hb5⟩
        have B5 : Below w.heap.size w w5_ := B4.trans (hb5.mono S4)
        have S5 : w.heap.size ≤ w5_.heap.size := B5.size
        replace h_d := Ri.next h_d hb5 (Nat.le_refl _) hb5.size
        clear B4 S4
        clear hb5
        go_wp2_with fail
        refine (fBadT (some ad) n c cs _ h_d (by omega) hc 0 2 HBS).mono ?_
        rintro e w6_ ⟨rfl, hb6⟩
        have B6 : Below w.heap.size w w6_ := B5.trans (hb6.mono S5)
        have S6 : w.heap.size ≤ w6_.heap.size := B6.size
        replace h_d := Ri.next h_d hb6 (Nat.le_refl _) hb6.size
        clear B5 S5
        clear hb6
        have hch6 : w6_.cell? ad = some (.int .i64 z) := (B6.cell hadb).trans hcz
        go_wp2_with fail
        refine (aWorks _).mono ?_
        rintro e w7_ ⟨rfl, hb7⟩
        have B7 : Below w.heap.size w w7_ := B6.trans (hb7.mono S6)
        have S7 : w.heap.size ≤ w7_.heap.size := B7.size
        replace h_d := Ri.next h_d hb7 (Nat.le_refl _) hb7.size
        clear B6 S6
        clear hb7
        go_wp2
        go_ret
        exact ⟨rfl, B7⟩
      · have HCN := Lib.hid hcan
        obtain ⟨f, HFF⟩ : ∃ f, Hid (few cs N = f) := ⟨_, Lib.hid rfl⟩
        have hf0 : 0 ≤ f := by rw [← HFF.out]; omega
        by_cases hs1 : s = 0
        · subst hs1
          have hMf : f ≤ M := by have := (HCS.out HSS.out).2; rw [HMM.out, HFF.out] at this; exact this
          have ht0 : t = N := by omega
          by_cases hmf : M = f
          · subst hmf
            have HP : Hid (paidV cs (N : Int) = (M, true))  := Lib.hid (by rw [← HFF.out]; exact paid_yes (by omega))
            have HB : Hid (checkBadS cs (N : Int) = 16) := Lib.hid (by rw [HBO.out, if_neg hcan, if_pos ⟨HSS.out, by rw [HMM.out, HFF.out]⟩])
            go_enter Try.func10, Try.ntmps10
            go_wp2_with fail
            refine (aFin (some ad) n c _ cs _ h_d _ HF).mono ?_
            rintro e w1_ ⟨rfl, d1, hd1⟩
            have hb1 : Below w.heap.size w w1_ := hd1 ▸ below_drewN (Below.refl _ _) _
            clear hd1
            have B1 : Below w.heap.size w w1_ := (Below.refl _ _).trans (hb1.mono (Nat.le_refl _))
            have S1 : w.heap.size ≤ w1_.heap.size := B1.size
            replace h_d := Ri.next h_d hb1 (Nat.le_refl _) hb1.size
            clear hb1
            go_wp2_with fail
            refine (aAmt x hx0 hx1 N HN _).mono ?_
            rintro e w' ⟨rfl, rfl⟩
            go_wp2_with fail
            refine (fGreedyT (some ad) n c cs (N : Int) _ h_d (by omega) hc gl 0 0 HGS).mono ?_
            rintro e w2_ ⟨A2, n2, c2, rfl, ho2, hb2⟩
            have B2 : Below w.heap.size w w2_ := B1.trans (hb2.mono S1)
            have S2 : w.heap.size ≤ w2_.heap.size := B2.size
            replace h_d := Ri.next h_d hb2 (Nat.le_refl _) hb2.size
            clear B1 S1
            have h_g := ho2.ri
            have m_g := ho2.most
            clear ho2
            clear hb2
            obtain rfl : n = n2 := by rw [← h_g.len, HGL.out]
            have hch2 : w2_.cell? ad = some (.int .i64 z) := (B2.cell hadb).trans hcz
            go_wp2_with fail
            refine (fCheckChangeT (some ad) n c cs A2 n c2 gl _ h_d h_g (by omega) (by omega) hc t M 0 HCC).mono ?_
            rintro e w3_ ⟨rfl, hb3⟩
            have B3 : Below w.heap.size w w3_ := B2.trans (hb3.mono S2)
            have S3 : w.heap.size ≤ w3_.heap.size := B3.size
            replace h_d := Ri.next h_d hb3 (Nat.le_refl _) hb3.size
            replace h_g := Ri.next h_g hb3 (Nat.le_refl _) hb3.size
            clear B2 S2
            clear hb3
            clear h_g
            go_wp2_with fail
            refine (aPaid (some ad) n c cs (N : Int) _ h_d (by omega) hc HAN M true HP).mono ?_
            rintro e w4_ ⟨rfl, hb4⟩
            have B4 : Below w.heap.size w w4_ := B3.trans (hb4.mono S3)
            have S4 : w.heap.size ≤ w4_.heap.size := B4.size
            replace h_d := Ri.next h_d hb4 (Nat.le_refl _) hb4.size
            clear B3 S3
            clear hb4
            go_wp2_with fail
            refine (fCheckBadT (some ad) n c cs _ h_d (by omega) hc (N : Int) (16) HB).mono ?_
            rintro e w5_ ⟨rfl, hb5⟩
            have B5 : Below w.heap.size w w5_ := B4.trans (hb5.mono S4)
            have S5 : w.heap.size ≤ w5_.heap.size := B5.size
            replace h_d := Ri.next h_d hb5 (Nat.le_refl _) hb5.size
            clear B4 S4
            clear hb5
            go_wp2_with fail
            refine (fBadT (some ad) n c cs _ h_d (by omega) hc 0 2 HBS).mono ?_
            rintro e w6_ ⟨rfl, hb6⟩
            have B6 : Below w.heap.size w w6_ := B5.trans (hb6.mono S5)
            have S6 : w.heap.size ≤ w6_.heap.size := B6.size
            replace h_d := Ri.next h_d hb6 (Nat.le_refl _) hb6.size
            clear B5 S5
            clear hb6
            have hch6 : w6_.cell? ad = some (.int .i64 z) := (B6.cell hadb).trans hcz
            go_wp2_with fail
            refine (aWorks _).mono ?_
            rintro e w7_ ⟨rfl, hb7⟩
            have B7 : Below w.heap.size w w7_ := B6.trans (hb7.mono S6)
            have S7 : w.heap.size ≤ w7_.heap.size := B7.size
            replace h_d := Ri.next h_d hb7 (Nat.le_refl _) hb7.size
            clear B6 S6
            clear hb7
            go_wp2
            go_ret
            exact ⟨rfl, B7⟩
          · have hlt : f < M := by omega
            have HP : Hid (paidV cs (N : Int) = (f, true))  := Lib.hid (by rw [← HFF.out]; exact paid_yes (by omega))
            have HB : Hid (checkBadS cs (N : Int) = 0) := Lib.hid (by rw [HBO.out, if_neg hcan, if_neg (fun h => by have := h.2; rw [HMM.out, HFF.out] at this; omega)])
            go_enter Try.func10, Try.ntmps10
            go_wp2_with fail
            refine (aFin (some ad) n c _ cs _ h_d _ HF).mono ?_
            rintro e w1_ ⟨rfl, d1, hd1⟩
            have hb1 : Below w.heap.size w w1_ := hd1 ▸ below_drewN (Below.refl _ _) _
            clear hd1
            have B1 : Below w.heap.size w w1_ := (Below.refl _ _).trans (hb1.mono (Nat.le_refl _))
            have S1 : w.heap.size ≤ w1_.heap.size := B1.size
            replace h_d := Ri.next h_d hb1 (Nat.le_refl _) hb1.size
            clear hb1
            go_wp2_with fail
            refine (aAmt x hx0 hx1 N HN _).mono ?_
            rintro e w' ⟨rfl, rfl⟩
            go_wp2_with fail
            refine (fGreedyT (some ad) n c cs (N : Int) _ h_d (by omega) hc gl 0 0 HGS).mono ?_
            rintro e w2_ ⟨A2, n2, c2, rfl, ho2, hb2⟩
            have B2 : Below w.heap.size w w2_ := B1.trans (hb2.mono S1)
            have S2 : w.heap.size ≤ w2_.heap.size := B2.size
            replace h_d := Ri.next h_d hb2 (Nat.le_refl _) hb2.size
            clear B1 S1
            have h_g := ho2.ri
            have m_g := ho2.most
            clear ho2
            clear hb2
            obtain rfl : n = n2 := by rw [← h_g.len, HGL.out]
            have hch2 : w2_.cell? ad = some (.int .i64 z) := (B2.cell hadb).trans hcz
            go_wp2_with fail
            refine (fCheckChangeT (some ad) n c cs A2 n c2 gl _ h_d h_g (by omega) (by omega) hc t M 0 HCC).mono ?_
            rintro e w3_ ⟨rfl, hb3⟩
            have B3 : Below w.heap.size w w3_ := B2.trans (hb3.mono S2)
            have S3 : w.heap.size ≤ w3_.heap.size := B3.size
            replace h_d := Ri.next h_d hb3 (Nat.le_refl _) hb3.size
            replace h_g := Ri.next h_g hb3 (Nat.le_refl _) hb3.size
            clear B2 S2
            clear hb3
            clear h_g
            go_wp2_with fail
            refine (aPaid (some ad) n c cs (N : Int) _ h_d (by omega) hc HAN f true HP).mono ?_
            rintro e w4_ ⟨rfl, hb4⟩
            have B4 : Below w.heap.size w w4_ := B3.trans (hb4.mono S3)
            have S4 : w.heap.size ≤ w4_.heap.size := B4.size
            replace h_d := Ri.next h_d hb4 (Nat.le_refl _) hb4.size
            clear B3 S3
            clear hb4
            go_wp2_with fail
            refine (fCheckBadT (some ad) n c cs _ h_d (by omega) hc (N : Int) (0) HB).mono ?_
            rintro e w5_ ⟨rfl, hb5⟩
            have B5 : Below w.heap.size w w5_ := B4.trans (hb5.mono S4)
            have S5 : w.heap.size ≤ w5_.heap.size := B5.size
            replace h_d := Ri.next h_d hb5 (Nat.le_refl _) hb5.size
            clear B4 S4
            clear hb5
            go_wp2_with fail
            refine (fBadT (some ad) n c cs _ h_d (by omega) hc 0 2 HBS).mono ?_
            rintro e w6_ ⟨rfl, hb6⟩
            have B6 : Below w.heap.size w w6_ := B5.trans (hb6.mono S5)
            have S6 : w.heap.size ≤ w6_.heap.size := B6.size
            replace h_d := Ri.next h_d hb6 (Nat.le_refl _) hb6.size
            clear B5 S5
            clear hb6
            have hch6 : w6_.cell? ad = some (.int .i64 z) := (B6.cell hadb).trans hcz
            go_wp2_with fail
            refine (aWorks _).mono ?_
            rintro e w7_ ⟨rfl, hb7⟩
            have B7 : Below w.heap.size w w7_ := B6.trans (hb7.mono S6)
            have S7 : w.heap.size ≤ w7_.heap.size := B7.size
            replace h_d := Ri.next h_d hb7 (Nat.le_refl _) hb7.size
            clear B6 S6
            clear hb7
            go_wp2
            go_ret
            exact ⟨rfl, B7⟩
        · have hs2 : (s == 0) = false := by simpa using hs1
          have hs3 : 0 < s := by omega
          have HP : Hid (paidV cs (N : Int) = (f, true))  := Lib.hid (by rw [← HFF.out]; exact paid_yes (by omega))
          have HB : Hid (checkBadS cs (N : Int) = 0) := Lib.hid (by rw [HBO.out, if_neg hcan, if_neg (fun h => by have := h.1; rw [HSS.out] at this; omega)])
          go_enter Try.func10, Try.ntmps10
          go_wp2_with fail
          refine (aFin (some ad) n c _ cs _ h_d _ HF).mono ?_
          rintro e w1_ ⟨rfl, d1, hd1⟩
          have hb1 : Below w.heap.size w w1_ := hd1 ▸ below_drewN (Below.refl _ _) _
          clear hd1
          have B1 : Below w.heap.size w w1_ := (Below.refl _ _).trans (hb1.mono (Nat.le_refl _))
          have S1 : w.heap.size ≤ w1_.heap.size := B1.size
          replace h_d := Ri.next h_d hb1 (Nat.le_refl _) hb1.size
          clear hb1
          go_wp2_with fail
          refine (aAmt x hx0 hx1 N HN _).mono ?_
          rintro e w' ⟨rfl, rfl⟩
          go_wp2_with fail
          refine (fGreedyT (some ad) n c cs (N : Int) _ h_d (by omega) hc gl s 0 HGS).mono ?_
          rintro e w2_ ⟨A2, n2, c2, rfl, ho2, hb2⟩
          have B2 : Below w.heap.size w w2_ := B1.trans (hb2.mono S1)
          have S2 : w.heap.size ≤ w2_.heap.size := B2.size
          replace h_d := Ri.next h_d hb2 (Nat.le_refl _) hb2.size
          clear B1 S1
          have h_g := ho2.ri
          have m_g := ho2.most
          clear ho2
          clear hb2
          obtain rfl : n = n2 := by rw [← h_g.len, HGL.out]
          have hch2 : w2_.cell? ad = some (.int .i64 z) := (B2.cell hadb).trans hcz
          go_wp2_with fail
          refine (fCheckChangeT (some ad) n c cs A2 n c2 gl _ h_d h_g (by omega) (by omega) hc t M 0 HCC).mono ?_
          rintro e w3_ ⟨rfl, hb3⟩
          have B3 : Below w.heap.size w w3_ := B2.trans (hb3.mono S2)
          have S3 : w.heap.size ≤ w3_.heap.size := B3.size
          replace h_d := Ri.next h_d hb3 (Nat.le_refl _) hb3.size
          replace h_g := Ri.next h_g hb3 (Nat.le_refl _) hb3.size
          clear B2 S2
          clear hb3
          clear h_g
          go_wp2_with fail
          refine (aPaid (some ad) n c cs (N : Int) _ h_d (by omega) hc HAN f true HP).mono ?_
          rintro e w4_ ⟨rfl, hb4⟩
          have B4 : Below w.heap.size w w4_ := B3.trans (hb4.mono S3)
          have S4 : w.heap.size ≤ w4_.heap.size := B4.size
          replace h_d := Ri.next h_d hb4 (Nat.le_refl _) hb4.size
          clear B3 S3
          clear hb4
          go_wp2_with fail
          refine (fCheckBadT (some ad) n c cs _ h_d (by omega) hc (N : Int) (0) HB).mono ?_
          rintro e w5_ ⟨rfl, hb5⟩
          have B5 : Below w.heap.size w w5_ := B4.trans (hb5.mono S4)
          have S5 : w.heap.size ≤ w5_.heap.size := B5.size
          replace h_d := Ri.next h_d hb5 (Nat.le_refl _) hb5.size
          clear B4 S4
          clear hb5
          go_wp2_with fail
          refine (fBadT (some ad) n c cs _ h_d (by omega) hc 0 2 HBS).mono ?_
          rintro e w6_ ⟨rfl, hb6⟩
          have B6 : Below w.heap.size w w6_ := B5.trans (hb6.mono S5)
          have S6 : w.heap.size ≤ w6_.heap.size := B6.size
          replace h_d := Ri.next h_d hb6 (Nat.le_refl _) hb6.size
          clear B5 S5
          clear hb6
          have hch6 : w6_.cell? ad = some (.int .i64 z) := (B6.cell hadb).trans hcz
          go_wp2_with fail
          refine (aWorks _).mono ?_
          rintro e w7_ ⟨rfl, hb7⟩
          have B7 : Below w.heap.size w w7_ := B6.trans (hb7.mono S6)
          have S7 : w.heap.size ≤ w7_.heap.size := B7.size
          replace h_d := Ri.next h_d hb7 (Nat.le_refl _) hb7.size
          clear B6 S6
          clear hb7
          go_wp2
          go_ret
          exact ⟨rfl, B7⟩
  · have HF : Hid (decide (checkCoins cs = 0) = false) := Lib.hid (decide_eq_false hf)
    go_enter Try.func10, Try.ntmps10
    go_wp2_with fail
    refine (aFin A n c _ cs _ hx _ HF).mono ?_
    rintro e w1 ⟨rfl, d, rfl⟩
    go_wp2_with fail
    refine (aWorks _).mono ?_
    rintro e w2 ⟨rfl, hb⟩
    go_wp2
    go_ret
    exact ⟨rfl, below_d hb⟩

set_option maxRecDepth 100000 in
theorem FloatGreedy_lifted (os : Os) (started : os.Started) (H : Type) (enc : TypeId × Value → H) :
    ReturnsInHanded {} Try.checked os 10 .any (Rows.floatGreedySpec.pre6 enc Try.prog Try.f10 Rows.floatGreedyRow.domain false) (Rows.floatGreedySpec.post enc Try.prog Try.f10 false true false false) := by
  refine returnsInHanded_of_change (C := Try.checked) row_own started (by kernel_rfl) Try.func10
    (ChangeSpec.witness6 (enc := enc) (C := Try.checked) false ⟨#[], #[.slice none 0 0, .int .u16 0], []⟩ 8 (by kernel_rfl) (by kernel_rfl) (by kernel_rfl) (by kernel_rfl)) ?_
  intro W base args ds gs before hval0 hW _ _
  have hval : ∀ (j : Nat) t v, Try.f10.params[j]? = some t → args[j]? = some v → Value.okWide Try.prog W .any base t v := hval0
  have hW' := hW
  obtain ⟨p, q, hA0, hV, rfl, _, _⟩ := hW
  have hA : DataW.TrodAll enc Try.prog W 0 (fun _ => true) true Try.f10.params.toList args.toList ds p := hA0
  rw [Try.params10] at hA hval
  obtain ⟨v0, v1, d0, d1, p0, p1, rfl, rfl, rfl, h0, h1⟩ := trodAll_two hA
  obtain ⟨rfl, rfl⟩ := trodVars_none hV
  clear hA0 hval0
  simp only [List.append_nil] at hW'
  have hlt : ∀ x ∈ (p0 ++ p1), x.block < W.heap.size := fun x hx => by simpa using hW'.lt x hx
  have a0 := fun W' (hb : Below W.heap.size W W') => row_stays (t := 22) (by kernel_rfl) (of_decide_eq_true (by kernel_rfl)) h0 (fun x hx => hlt x (by simp [hx])) hb
  have a1 := fun W' (hb : Below W.heap.size W W') => row_stays (t := 44) (by kernel_rfl) (of_decide_eq_true (by kernel_rfl)) h1 (fun x hx => hlt x (by simp [hx])) hb
  obtain ⟨A0, n0, c0, xs0, rfl, hc0, hm0, hx0, hw0⟩ := row_ints (t := 22) (e := 2) (k := .i64) (by kernel_rfl) (by kernel_rfl) (by kernel_rfl) (hval 0 22 v0 rfl rfl) h0 (fun x hx => hlt x (by simp [hx]))
  obtain ⟨x1, rfl, _, _, wx1⟩ := open_int (P := Try.prog) (k := .u16) (t := 44) (by kernel_rfl) (hval 1 44 v1 rfl rfl) h1
  refine (wGreedy A0 n0 c0 xs0 x1 (u16_lo wx1) (u16_hi wx1) W hx0 hc0).mono fun e W' ⟨he, hb⟩ => ?_
  subst he
  exact ⟨_, rfl, _, _, _, [], (p0 ++ p1), [], hW', trodAll_mk1 (shut_bool Try.underlying4 true), trodAll_mk2 (a0 _ hb) (a1 _ hb), rfl, hb.frame _, fun h => by cases h⟩
theorem FloatGreedy_holds : Rows.FloatGreedySaid :=
  OpenClaim.holds_of_wide 10 Try.f10 rfl rfl rfl rfl rfl rfl rfl ⟨rfl, rfl, rfl, rfl, rfl⟩ rfl rfl rfl rfl rfl (by kernel_rfl) Try.func10 (by kernel_rfl)
    (of_decide_eq_true (by kernel_rfl)) (by unfold Func.isWrapper; first | (rw [if_pos (by decide +kernel)]; kernel_rfl) | (rw [if_neg (by decide +kernel)]; exact ⟨rfl, rfl⟩))
    (fun os started H enc _ => FloatGreedy_lifted os started H enc)
#print axioms FloatGreedy_holds
end Go.Proofs.Ytloibnmhgocboaa
