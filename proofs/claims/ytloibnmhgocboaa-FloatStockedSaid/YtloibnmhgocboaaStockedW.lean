/-
  FloatStocked: a float pays no amount by fewer coins than the best change has, and by as many if it has this; with more in stock it needs no more; what is left of all it has pays the rest of its whole amount, so this needs no more coins than are left: for every list of coins, and a stock, an amount, and one coin more of a kind told by numbers; no condition.
-/
import Derived.Test.YtloibnmhgocboaaWorks
import Derived.Test.YtloibnmhgocboaaRow
import Derived.Test.YtloibnmhgocboaaR9
import Derived.Test.YtloibnmhgocboaaR10
namespace Go.Proofs.Ytloibnmhgocboaa
open Go.Shelf Go.ChangeShapes Go.WideShapes Go.ChangeAt Go.RowKit

theorem aStockedT (A : Option Addr) (n c : Nat) (D : Option Addr) (nb cb : Nat) (bs : List Int) (w : World) (hy : Ru w w.heap.size D nb bs) (hn : n ≤ 1048576) (hnb : nb ≤ 10) (st : List Int) (HS : Hid (stockL n bs = st)) :
    Calls Try.prog 54 #[.slice A n c, .slice D nb cb] w (RetL w st) := HS.out ▸ aStocked A n c D nb cb bs w hy hn hnb
theorem rSumT (A : Option Addr) (n c B : Nat) (cs : List Int) (D : Option Addr) (c2 B2 : Nat) (v : List Int) (w : World) (hx : Ri w B A n cs) (hy : Ri w B2 D n v) (hn : n ≤ 5) (hc : Hid (∀ c ∈ cs, 0 ≤ c ∧ c ≤ 50)) (hv : Hid (∀ x ∈ v, 0 ≤ x ∧ x ≤ 1000)) (s t : Int) (HS : Hid (dot cs v = s ∧ v.sum = t)) :
    Calls Try.prog 56 #[.slice A n c, .slice D n c2] w fun e w' => e = .returned (.tuple #[.int .i64 s, .int .i64 t]) ∧ ∃ m, w' = w.drewN m := by
  have h := rSum A n c B cs D c2 B2 v w hx hy hn hc hv
  rwa [HS.out.1, HS.out.2] at h
set_option maxRecDepth 100000 in
set_option maxHeartbeats 16000000 in
theorem wStocked (A : Option Addr) (n c : Nat) (cs : List Int) (D : Option Addr) (nb cb : Nat) (bs : List Int) (x z : Int) (hx0 : 0 ≤ x) (hx1 : x ≤ 65535) (hz0 : 0 ≤ z) (hz1 : z ≤ 255) (w : World) (hx : Ri w w.heap.size A n cs) (hy : Ru w w.heap.size D nb bs) (hc : n ≤ c) :
    Calls Try.prog 16 #[.slice A n c, .slice D nb cb, .int .u16 x, .int .u8 z] w (RetB w true) := by
  by_cases hf : checkCoins cs = 0
  · have HF : Hid (decide (checkCoins cs = 0) = true) := Lib.hid (decide_eq_true hf)
    have HG : Hid (Good cs) := Lib.hid (checkCoins_good.1 hf)
    have HL := Lib.hid hx.len
    have hn1 : 1 ≤ n := by rw [← HL.out]; exact HG.out.lo
    have hn5 : n ≤ 5 := by rw [← HL.out]; exact HG.out.hi
    clear hf
    by_cases hnb : nb ≤ 10
    · have hnb2 : ¬ (10 : Int) < (nb : Int) := by omega
      obtain ⟨N, HN⟩ : ∃ N : Nat, Hid (x % 301 = (N : Int)) := ⟨(x % 301).toNat, Lib.hid (by omega)⟩
      have hN : N ≤ 300 := by have := HN.out; omega
      have HAN : Hid (amountE cs (N : Int) = 0) := Lib.hid (amountE_nat HG.out hN)
      have h_d := hx
      have h_b := hy
      obtain ⟨st, HST⟩ : ∃ l, Hid (stockL n bs = l) := ⟨_, Lib.hid rfl⟩
      have HSL : Hid (st.length = n) := Lib.hid (by rw [← HST.out]; exact stockL_len n bs)
      have HSA : Hid (∀ s ∈ st, 0 ≤ s ∧ s ≤ 20) := Lib.hid (by rw [← HST.out]; exact stockL_all n bs)
      obtain ⟨g, HGG⟩ : ∃ g, Hid (gmin cs st (N : Int) = g) := ⟨_, Lib.hid rfl⟩
      obtain ⟨f, HFF⟩ : ∃ f, Hid (few cs N = f) := ⟨_, Lib.hid rfl⟩
      by_cases hcan : f < 0
      · have hg0 : g < 0 := by
          apply Classical.byContradiction
          intro h
          have h2 := spay_few HG.out (by rw [HSL.out, HL.out]) HSA.out hN (by rw [HGG.out]; omega)
          rw [HFF.out] at h2
          omega
        have HP : Hid (paidV cs (N : Int) = (0, false)) := Lib.hid (paid_no (by rw [HFF.out]; exact hcan))
        have HPY : Hid (payS cs st (N : Int) = ([], 5)) := Lib.hid (spay_none HG.out (by rw [HSL.out, HL.out]) HSA.out hN (by rw [HGG.out]; exact hg0))
        have HCH : Hid (changeS cs (N : Int) = ([], 5)) := Lib.hid (change_none HG.out (by omega) (by omega) (by rw [Int.toNat_natCast, HFF.out]; exact hcan)).1
        go_enter Try.func16, Try.ntmps16
        go_wp2_with fail
        refine (aFin A n c _ cs _ h_d _ HF).mono ?_
        rintro e w1_ ⟨rfl, d1, hd1⟩
        have hb1 : Below w.heap.size w w1_ := hd1 ▸ below_drewN (Below.refl _ _) _
        clear hd1
        have B1 : Below w.heap.size w w1_ := (Below.refl _ _).trans (hb1.mono (Nat.le_refl _))
        have S1 : w.heap.size ≤ w1_.heap.size := B1.size
        replace h_d := Ri.next h_d hb1 (Nat.le_refl _) hb1.size
        replace h_b := Ru.next h_b hb1 (Nat.le_refl _) hb1.size
        clear hb1
        go_wp2_with fail
        refine (aStockedT A n c D nb cb bs _ h_b (by omega) hnb st HST).mono ?_
        rintro e w2_ ⟨A2, n2, c2, rfl, ho2, hb2⟩
        have B2 : Below w.heap.size w w2_ := B1.trans (hb2.mono S1)
        have S2 : w.heap.size ≤ w2_.heap.size := B2.size
        replace h_d := Ri.next h_d hb2 (Nat.le_refl _) hb2.size
        replace h_b := Ru.next h_b hb2 (Nat.le_refl _) hb2.size
        clear B1 S1
        have h_s := ho2.ri
        have m_s := ho2.most
        clear ho2
        clear hb2
        obtain rfl : n = n2 := by rw [← h_s.len, HSL.out]
        clear h_b
        go_wp2_with fail
        refine (aAmt x hx0 hx1 N HN _).mono ?_
        rintro e w' ⟨rfl, rfl⟩
        go_wp2_with fail
        refine (aPaid A n c cs (N : Int) _ h_d (by omega) hc HAN 0 false HP).mono ?_
        rintro e w3_ ⟨rfl, hb3⟩
        have B3 : Below w.heap.size w w3_ := B2.trans (hb3.mono S2)
        have S3 : w.heap.size ≤ w3_.heap.size := B3.size
        replace h_d := Ri.next h_d hb3 (Nat.le_refl _) hb3.size
        replace h_s := Ri.next h_s hb3 (Nat.le_refl _) hb3.size
        clear B2 S2
        clear hb3
        go_wp2_with fail
        refine (fPayT A n c cs A2 n c2 st (N : Int) _ h_d h_s (by omega) (by omega) hc [] 5 HPY).mono ?_
        rintro e w4_ ⟨A4, n4, c4, rfl, ho4, hb4⟩
        have B4 : Below w.heap.size w w4_ := B3.trans (hb4.mono S3)
        have S4 : w.heap.size ≤ w4_.heap.size := B4.size
        replace h_d := Ri.next h_d hb4 (Nat.le_refl _) hb4.size
        replace h_s := Ri.next h_s hb4 (Nat.le_refl _) hb4.size
        clear B3 S3
        have h_p := ho4.ri
        have m_p := ho4.most
        clear ho4
        clear hb4
        obtain rfl : 0 = n4 := by rw [← h_p.len]; rfl
        go_wp2_with fail
        refine (rChangeT A n c cs (N : Int) _ h_d (by omega) hc [] 5 HCH).mono ?_
        rintro e w5_ ⟨A5, n5, c5, rfl, ho5, hb5⟩
        have B5 : Below w.heap.size w w5_ := B4.trans (hb5.mono S4)
        have S5 : w.heap.size ≤ w5_.heap.size := B5.size
        replace h_d := Ri.next h_d hb5 (Nat.le_refl _) hb5.size
        replace h_s := Ri.next h_s hb5 (Nat.le_refl _) hb5.size
        replace h_p := Ri.next h_p hb5 (Nat.le_refl _) hb5.size
        clear B4 S4
        have h_q := ho5.ri
        have m_q := ho5.most
        clear ho5
        clear hb5
        obtain rfl : 0 = n5 := by rw [← h_q.len]; rfl
        go_wp2
        go_loopw [18, 19] (fun h i wr => h = .bool false ∧ i = .int .i64 0 ∧ wr = w5_) (fun _ i _ => 0)
        case atStart => exact ⟨rfl, rfl, rfl⟩
        case round =>
          obtain ⟨rfl, rfl, rfl⟩ := hrel
          go_wp2_with fail
          refine (aWorks _).mono ?_
          rintro e w6_ ⟨rfl, hb6⟩
          have B6 : Below w.heap.size w w6_ := B5.trans (hb6.mono S5)
          have S6 : w.heap.size ≤ w6_.heap.size := B6.size
          replace h_d := Ri.next h_d hb6 (Nat.le_refl _) hb6.size
          replace h_s := Ri.next h_s hb6 (Nat.le_refl _) hb6.size
          replace h_p := Ri.next h_p hb6 (Nat.le_refl _) hb6.size
          replace h_q := Ri.next h_q hb6 (Nat.le_refl _) hb6.size
          clear B5 S5
          clear hb6
          go_wp2
          go_ret
          exact ⟨rfl, B6⟩
      · have hf0 : 0 ≤ f := by omega
        have HP : Hid (paidV cs (N : Int) = (f, true)) := Lib.hid (by rw [← HFF.out]; exact paid_yes (by rw [HFF.out]; exact hf0))
        have HCB := Lib.hid (change_best HG.out (a := (N : Int)) (by omega) (by omega) (by rw [Int.toNat_natCast, HFF.out]; exact hf0))
        rw [Int.toNat_natCast, HFF.out] at HCB
        obtain ⟨C, HCX⟩ : ∃ l, Hid (chg cs (fullStock cs) (N : Int) f = l) := ⟨_, Lib.hid rfl⟩
        rw [HCX.out] at HCB
        have HCH : Hid (changeS cs (N : Int) = (C, 0)) := Lib.hid HCB.out.1
        have HCL : Hid (C.length = n) := Lib.hid (by rw [HCB.out.2.2.len, HL.out])
        clear HCB
        have HHAS0 : Hid ((∀ j : Nat, j < n → nth C j ≤ nth st j) → g = f ∧ chg cs st (N : Int) g = C) := Lib.hid (fun h => by
          have h2 := spay_has HG.out (by rw [HSL.out, HL.out]) HSA.out hN HCH.out (by rw [HFF.out]; exact hf0) (fun i hi => h i (by rw [← HL.out]; exact hi))
          rw [HGG.out, HFF.out] at h2
          exact ⟨h2.1, h2.2.1⟩)
        by_cases hg0 : g < 0
        · have HPY : Hid (payS cs st (N : Int) = ([], 5)) := Lib.hid (spay_none HG.out (by rw [HSL.out, HL.out]) HSA.out hN (by rw [HGG.out]; exact hg0))
          have HNH : Hid (¬ ∀ j : Nat, j < n → nth C j ≤ nth st j) := Lib.hid (fun h => by have := (HHAS0.out h).1; omega)
          go_enter Try.func16, Try.ntmps16
          go_wp2_with fail
          refine (aFin A n c _ cs _ h_d _ HF).mono ?_
          rintro e w1_ ⟨rfl, d1, hd1⟩
          have hb1 : Below w.heap.size w w1_ := hd1 ▸ below_drewN (Below.refl _ _) _
          clear hd1
          have B1 : Below w.heap.size w w1_ := (Below.refl _ _).trans (hb1.mono (Nat.le_refl _))
          have S1 : w.heap.size ≤ w1_.heap.size := B1.size
          replace h_d := Ri.next h_d hb1 (Nat.le_refl _) hb1.size
          replace h_b := Ru.next h_b hb1 (Nat.le_refl _) hb1.size
          clear hb1
          go_wp2_with fail
          refine (aStockedT A n c D nb cb bs _ h_b (by omega) hnb st HST).mono ?_
          rintro e w2_ ⟨A2, n2, c2, rfl, ho2, hb2⟩
          have B2 : Below w.heap.size w w2_ := B1.trans (hb2.mono S1)
          have S2 : w.heap.size ≤ w2_.heap.size := B2.size
          replace h_d := Ri.next h_d hb2 (Nat.le_refl _) hb2.size
          replace h_b := Ru.next h_b hb2 (Nat.le_refl _) hb2.size
          clear B1 S1
          have h_s := ho2.ri
          have m_s := ho2.most
          clear ho2
          clear hb2
          obtain rfl : n = n2 := by rw [← h_s.len, HSL.out]
          clear h_b
          go_wp2_with fail
          refine (aAmt x hx0 hx1 N HN _).mono ?_
          rintro e w' ⟨rfl, rfl⟩
          go_wp2_with fail
          refine (aPaid A n c cs (N : Int) _ h_d (by omega) hc HAN f true HP).mono ?_
          rintro e w3_ ⟨rfl, hb3⟩
          have B3 : Below w.heap.size w w3_ := B2.trans (hb3.mono S2)
          have S3 : w.heap.size ≤ w3_.heap.size := B3.size
          replace h_d := Ri.next h_d hb3 (Nat.le_refl _) hb3.size
          replace h_s := Ri.next h_s hb3 (Nat.le_refl _) hb3.size
          clear B2 S2
          clear hb3
          go_wp2_with fail
          refine (fPayT A n c cs A2 n c2 st (N : Int) _ h_d h_s (by omega) (by omega) hc [] 5 HPY).mono ?_
          rintro e w4_ ⟨A4, n4, c4, rfl, ho4, hb4⟩
          have B4 : Below w.heap.size w w4_ := B3.trans (hb4.mono S3)
          have S4 : w.heap.size ≤ w4_.heap.size := B4.size
          replace h_d := Ri.next h_d hb4 (Nat.le_refl _) hb4.size
          replace h_s := Ri.next h_s hb4 (Nat.le_refl _) hb4.size
          clear B3 S3
          have h_p := ho4.ri
          have m_p := ho4.most
          clear ho4
          clear hb4
          obtain rfl : 0 = n4 := by rw [← h_p.len]; rfl
          go_wp2_with fail
          refine (rChangeT A n c cs (N : Int) _ h_d (by omega) hc C 0 HCH).mono ?_
          rintro e w5_ ⟨A5, n5, c5, rfl, ho5, hb5⟩
          have B5 : Below w.heap.size w w5_ := B4.trans (hb5.mono S4)
          have S5 : w.heap.size ≤ w5_.heap.size := B5.size
          replace h_d := Ri.next h_d hb5 (Nat.le_refl _) hb5.size
          replace h_s := Ri.next h_s hb5 (Nat.le_refl _) hb5.size
          replace h_p := Ri.next h_p hb5 (Nat.le_refl _) hb5.size
          clear B4 S4
          have h_q := ho5.ri
          have m_q := ho5.most
          clear ho5
          clear hb5
          obtain rfl : n = n5 := by rw [← h_q.len, HCL.out]
          go_wp2
          go_loopw [18, 19] (fun h i wr => ∃ (k d : Nat) (e : Bool), k ≤ n ∧ i = .int .i64 k ∧ h = .bool e ∧ Hid (e = true ↔ ∀ j : Nat, j < k → nth C j ≤ nth st j) ∧ wr = w5_.drewN d) (fun _ i _ => n - (intOf i).toNat)
          case atStart => exact ⟨0, 0, true, Nat.zero_le _, rfl, rfl, Lib.hid ⟨fun _ j hj => absurd hj (Nat.not_lt_zero j), fun _ => rfl⟩, rfl⟩
          case round =>
            obtain ⟨k, d, e, hk, rfl, rfl, HEI, rfl⟩ := hrel
            by_cases hlt : k < n
            · obtain ⟨ad1, x, hA1, _, hcx, hxk, _⟩ := h_q.at_ hlt
              subst hA1
              obtain ⟨ad2, y, hA2, _, hcy, hyk, _⟩ := h_s.at_ hlt
              subst hA2
              have HXK : Hid (nth C k = x) := Lib.hid (nth_some hxk.out)
              have HYK : Hid (nth st k = y) := Lib.hid (nth_some hyk.out)
              have HNF : ∀ e2 : Bool, (e2 = true ↔ (e = true ∧ x ≤ y)) → Hid (e2 = true ↔ ∀ j : Nat, j < k + 1 → nth C j ≤ nth st j) := fun e2 he => Lib.hid (by
                rw [he, HEI.out]
                constructor
                · rintro ⟨h1, h2⟩ j hj
                  rcases Nat.eq_or_lt_of_le (Nat.le_of_lt_succ hj) with h | h
                  · subst h; rw [HXK.out, HYK.out]; exact h2
                  · exact h1 j h
                · intro h
                  exact ⟨fun j hj => h j (by omega), by rw [← HXK.out, ← HYK.out]; exact h k (by omega)⟩)
              cases e
              · have HN := HNF false (by simp)
                clear HNF
                go_wp2
                go_quiet (fail)
                go_wp2
                go_roundw
                case rel => exact ⟨k + 1, _, false, by omega, by go_num, rfl, HN, rfl⟩
                case measure => simp [intOf]; omega
              · have HN := HNF (decide (x ≤ y)) (by simp)
                clear HNF
                by_cases hxy : x ≤ y
                · go_wp2
                  go_quiet (fail)
                  go_wp2
                  go_roundw
                  case rel => exact ⟨k + 1, _, decide (x ≤ y), by omega, by go_num, (by first | rfl | simp [hxy]), HN, rfl⟩
                  case measure => simp [intOf]; omega
                · go_wp2
                  go_quiet (fail)
                  go_wp2
                  go_roundw
                  case rel => exact ⟨k + 1, _, decide (x ≤ y), by omega, by go_num, (by first | rfl | simp [hxy]), HN, rfl⟩
                  case measure => simp [intOf]; omega
            · obtain rfl : k = n := by omega
              obtain rfl : e = false := by
                cases e with
                | false => rfl
                | true => exact absurd (HEI.out.1 rfl) HNH.out
              have hbd : Below w5_.heap.size w5_ (w5_.drewN d) := below_drewN (Below.refl _ _) d
              have B6 : Below w.heap.size w (w5_.drewN d) := B5.trans (hbd.mono S5)
              have S6 : w.heap.size ≤ (w5_.drewN d).heap.size := B6.size
              replace h_d := Ri.next h_d hbd (Nat.le_refl _) hbd.size
              replace h_s := Ri.next h_s hbd (Nat.le_refl _) hbd.size
              replace h_p := Ri.next h_p hbd (Nat.le_refl _) hbd.size
              replace h_q := Ri.next h_q hbd (Nat.le_refl _) hbd.size
              clear B5 S5
              clear h_q
              go_wp2_with fail
              refine (aWorks _).mono ?_
              rintro e w7_ ⟨rfl, hb7⟩
              have B7 : Below w.heap.size w w7_ := B6.trans (hb7.mono S6)
              have S7 : w.heap.size ≤ w7_.heap.size := B7.size
              replace h_d := Ri.next h_d hb7 (Nat.le_refl _) hb7.size
              replace h_s := Ri.next h_s hb7 (Nat.le_refl _) hb7.size
              replace h_p := Ri.next h_p hb7 (Nat.le_refl _) hb7.size
              clear B6 S6
              clear hb7
              go_wp2
              go_ret
              exact ⟨rfl, B7⟩
        · replace hg0 : 0 ≤ g := by omega
          have HPF := Lib.hid (spay_facts HG.out (by rw [HSL.out, HL.out]) HSA.out hN (by rw [HGG.out]; exact hg0))
          have HREST := Lib.hid (spay_rest HG.out (by rw [HSL.out, HL.out]) HSA.out hN (by rw [HGG.out]; exact hg0))
          rw [HGG.out] at HPF HREST
          have hfg : f ≤ g := by
            have h2 := spay_few HG.out (by rw [HSL.out, HL.out]) HSA.out hN (by rw [HGG.out]; exact hg0)
            rw [HFF.out, HGG.out] at h2
            exact h2.2
          obtain ⟨P, HPX⟩ : ∃ l, Hid (chg cs st (N : Int) g = l) := ⟨_, Lib.hid rfl⟩
          rw [HPX.out] at HPF
          have HPY : Hid (payS cs st (N : Int) = (P, 0)) := Lib.hid HPF.out.1
          have HPL : Hid (P.length = n) := Lib.hid (by rw [HPF.out.2.1, HL.out])
          have HCC : Hid (changeCS cs P = ((N : Int), g, 0)) := Lib.hid HPF.out.2.2.1
          have HBD : Hid (∀ i : Nat, i < n → nth P i ≤ nth st i) := Lib.hid (fun i _ => HPF.out.2.2.2.2 i)
          have hg3 : g ≤ 300 := HPF.out.2.2.2.1
          have HHAS : Hid ((∀ j : Nat, j < n → nth C j ≤ nth st j) → C = P) := Lib.hid (fun h => by rw [← HPX.out]; exact (HHAS0.out h).2.symm)
          clear HPF
          obtain ⟨whole, HWH⟩ : ∃ v, Hid (dot cs st = v) := ⟨_, Lib.hid rfl⟩
          obtain ⟨all, HALL⟩ : ∃ v, Hid (st.sum = v) := ⟨_, Lib.hid rfl⟩
          have HSM : Hid (dot cs st = whole ∧ st.sum = all) := Lib.hid ⟨HWH.out, HALL.out⟩
          obtain ⟨U, HUU⟩ : ∃ u, Hid (dot cs st - (N : Int) = u) := ⟨_, Lib.hid rfl⟩
          have hU : whole - (N : Int) = U := by rw [← HWH.out, ← HUU.out]
          have hU0 : 0 ≤ U := by rw [← HUU.out]; exact HREST.out.1
          have hall : 0 ≤ all - g := by rw [← HALL.out]; exact HREST.out.2.1
          have hall1 : all ≤ 100 := by rw [← HALL.out]; exact HREST.out.2.2.1
          have hwhole : whole ≤ 5000 := by rw [← HWH.out]; exact HREST.out.2.2.2.1
          have hwU : IntKind.i64.wrap U = U := IntWalk.i64_in _ (by omega)
          have hwag : IntKind.i64.wrap (all - g) = all - g := IntWalk.i64_in _ (by omega)
          have hk5 := hn5
          have hk1 : 0 < n := by omega
          have HC50 : Hid (∀ c ∈ cs, 0 ≤ c ∧ c ≤ 50) := Lib.hid (fun c h => ⟨by have := (HG.out.all c h).1; omega, (HG.out.all c h).2⟩)
          have HS1000 : Hid (∀ x ∈ st, 0 ≤ x ∧ x ≤ 1000) := Lib.hid (fun c h => ⟨(HSA.out c h).1, by have := (HSA.out c h).2; omega⟩)
          obtain ⟨i, HII⟩ : ∃ i : Nat, Hid (z.toNat % n = i) := ⟨_, Lib.hid rfl⟩
          have hik : i < n := by rw [← HII.out]; exact Nat.mod_lt _ (by omega)
          obtain ⟨zn, hzn⟩ : ∃ zn : Nat, z = zn := ⟨z.toNat, by omega⟩
          have hi2 : z % (n : Int) = (i : Int) := by rw [← HII.out, hzn]; simp
          have hi1 : z.tmod (n : Int) = (i : Int) := (Int.tmod_eq_emod_of_nonneg hz0).trans hi2
          have hi3 : IntKind.i64.wrap (i : Int) = i := IntWalk.i64_in _ (by omega)
          have hi4 : IntKind.i64.wrap z = z := IntWalk.i64_in _ (by omega)
          have hn0 : ((n : Int) == 0) = false := by simp; omega
          obtain ⟨y, HIY⟩ : ∃ y, Hid (nth st i = y) := ⟨_, Lib.hid rfl⟩
          have hyb : 0 ≤ y ∧ y ≤ 20 := by rw [← HIY.out]; exact HSA.out _ (nth_mem (by rw [HSL.out]; exact hik))
          clear hzn
          go_enter Try.func16, Try.ntmps16
          go_wp2_with fail
          refine (aFin A n c _ cs _ h_d _ HF).mono ?_
          rintro e w1_ ⟨rfl, d1, hd1⟩
          have hb1 : Below w.heap.size w w1_ := hd1 ▸ below_drewN (Below.refl _ _) _
          clear hd1
          have B1 : Below w.heap.size w w1_ := (Below.refl _ _).trans (hb1.mono (Nat.le_refl _))
          have S1 : w.heap.size ≤ w1_.heap.size := B1.size
          replace h_d := Ri.next h_d hb1 (Nat.le_refl _) hb1.size
          replace h_b := Ru.next h_b hb1 (Nat.le_refl _) hb1.size
          clear hb1
          go_wp2_with fail
          refine (aStockedT A n c D nb cb bs _ h_b (by omega) hnb st HST).mono ?_
          rintro e w2_ ⟨A2, n2, c2, rfl, ho2, hb2⟩
          have B2 : Below w.heap.size w w2_ := B1.trans (hb2.mono S1)
          have S2 : w.heap.size ≤ w2_.heap.size := B2.size
          replace h_d := Ri.next h_d hb2 (Nat.le_refl _) hb2.size
          replace h_b := Ru.next h_b hb2 (Nat.le_refl _) hb2.size
          clear B1 S1
          have h_s := ho2.ri
          have m_s := ho2.most
          clear ho2
          clear hb2
          obtain rfl : n = n2 := by rw [← h_s.len, HSL.out]
          clear h_b
          go_wp2_with fail
          refine (aAmt x hx0 hx1 N HN _).mono ?_
          rintro e w' ⟨rfl, rfl⟩
          go_wp2_with fail
          refine (aPaid A n c cs (N : Int) _ h_d (by omega) hc HAN f true HP).mono ?_
          rintro e w3_ ⟨rfl, hb3⟩
          have B3 : Below w.heap.size w w3_ := B2.trans (hb3.mono S2)
          have S3 : w.heap.size ≤ w3_.heap.size := B3.size
          replace h_d := Ri.next h_d hb3 (Nat.le_refl _) hb3.size
          replace h_s := Ri.next h_s hb3 (Nat.le_refl _) hb3.size
          clear B2 S2
          clear hb3
          go_wp2_with fail
          refine (fPayT A n c cs A2 n c2 st (N : Int) _ h_d h_s (by omega) (by omega) hc P 0 HPY).mono ?_
          rintro e w4_ ⟨A4, n4, c4, rfl, ho4, hb4⟩
          have B4 : Below w.heap.size w w4_ := B3.trans (hb4.mono S3)
          have S4 : w.heap.size ≤ w4_.heap.size := B4.size
          replace h_d := Ri.next h_d hb4 (Nat.le_refl _) hb4.size
          replace h_s := Ri.next h_s hb4 (Nat.le_refl _) hb4.size
          clear B3 S3
          have h_p := ho4.ri
          have m_p := ho4.most
          clear ho4
          clear hb4
          obtain rfl : n = n4 := by rw [← h_p.len, HPL.out]
          go_wp2_with fail
          refine (rChangeT A n c cs (N : Int) _ h_d (by omega) hc C 0 HCH).mono ?_
          rintro e w5_ ⟨A5, n5, c5, rfl, ho5, hb5⟩
          have B5 : Below w.heap.size w w5_ := B4.trans (hb5.mono S4)
          have S5 : w.heap.size ≤ w5_.heap.size := B5.size
          replace h_d := Ri.next h_d hb5 (Nat.le_refl _) hb5.size
          replace h_s := Ri.next h_s hb5 (Nat.le_refl _) hb5.size
          replace h_p := Ri.next h_p hb5 (Nat.le_refl _) hb5.size
          clear B4 S4
          have h_q := ho5.ri
          have m_q := ho5.most
          clear ho5
          clear hb5
          obtain rfl : n = n5 := by rw [← h_q.len, HCL.out]
          go_wp2
          go_loopw [18, 19] (fun h i wr => ∃ (k d : Nat) (e : Bool), k ≤ n ∧ i = .int .i64 k ∧ h = .bool e ∧ Hid (e = true ↔ ∀ j : Nat, j < k → nth C j ≤ nth st j) ∧ wr = w5_.drewN d) (fun _ i _ => n - (intOf i).toNat)
          case atStart => exact ⟨0, 0, true, Nat.zero_le _, rfl, rfl, Lib.hid ⟨fun _ j hj => absurd hj (Nat.not_lt_zero j), fun _ => rfl⟩, rfl⟩
          case round =>
            obtain ⟨k, d, e, hk, rfl, rfl, HEI, rfl⟩ := hrel
            by_cases hlt : k < n
            · obtain ⟨ad1, x, hA1, _, hcx, hxk, _⟩ := h_q.at_ hlt
              subst hA1
              obtain ⟨ad2, y, hA2, _, hcy, hyk, _⟩ := h_s.at_ hlt
              subst hA2
              have HXK : Hid (nth C k = x) := Lib.hid (nth_some hxk.out)
              have HYK : Hid (nth st k = y) := Lib.hid (nth_some hyk.out)
              have HNF : ∀ e2 : Bool, (e2 = true ↔ (e = true ∧ x ≤ y)) → Hid (e2 = true ↔ ∀ j : Nat, j < k + 1 → nth C j ≤ nth st j) := fun e2 he => Lib.hid (by
                rw [he, HEI.out]
                constructor
                · rintro ⟨h1, h2⟩ j hj
                  rcases Nat.eq_or_lt_of_le (Nat.le_of_lt_succ hj) with h | h
                  · subst h; rw [HXK.out, HYK.out]; exact h2
                  · exact h1 j h
                · intro h
                  exact ⟨fun j hj => h j (by omega), by rw [← HXK.out, ← HYK.out]; exact h k (by omega)⟩)
              cases e
              · have HN := HNF false (by simp)
                clear HNF
                go_wp2
                go_quiet (fail)
                go_wp2
                go_roundw
                case rel => exact ⟨k + 1, _, false, by omega, by go_num, rfl, HN, rfl⟩
                case measure => simp [intOf]; omega
              · have HN := HNF (decide (x ≤ y)) (by simp)
                clear HNF
                by_cases hxy : x ≤ y
                · go_wp2
                  go_quiet (fail)
                  go_wp2
                  go_roundw
                  case rel => exact ⟨k + 1, _, decide (x ≤ y), by omega, by go_num, (by first | rfl | simp [hxy]), HN, rfl⟩
                  case measure => simp [intOf]; omega
                · go_wp2
                  go_quiet (fail)
                  go_wp2
                  go_roundw
                  case rel => exact ⟨k + 1, _, decide (x ≤ y), by omega, by go_num, (by first | rfl | simp [hxy]), HN, rfl⟩
                  case measure => simp [intOf]; omega
            · obtain rfl : k = n := by omega
              have hbd : Below w5_.heap.size w5_ (w5_.drewN d) := below_drewN (Below.refl _ _) d
              have B6 : Below w.heap.size w (w5_.drewN d) := B5.trans (hbd.mono S5)
              have S6 : w.heap.size ≤ (w5_.drewN d).heap.size := B6.size
              replace h_d := Ri.next h_d hbd (Nat.le_refl _) hbd.size
              replace h_s := Ri.next h_s hbd (Nat.le_refl _) hbd.size
              replace h_p := Ri.next h_p hbd (Nat.le_refl _) hbd.size
              replace h_q := Ri.next h_q hbd (Nat.le_refl _) hbd.size
              clear B5 S5
              cases e
              · skip
                go_wp2_with fail
                refine (fCheckChangeT A k c cs A4 k c4 P _ h_d h_p (by omega) (by omega) hc N g 0 HCC).mono ?_
                rintro e w7_ ⟨rfl, hb7⟩
                have B7 : Below w.heap.size w w7_ := B6.trans (hb7.mono S6)
                have S7 : w.heap.size ≤ w7_.heap.size := B7.size
                replace h_d := Ri.next h_d hb7 (Nat.le_refl _) hb7.size
                replace h_s := Ri.next h_s hb7 (Nat.le_refl _) hb7.size
                replace h_p := Ri.next h_p hb7 (Nat.le_refl _) hb7.size
                replace h_q := Ri.next h_q hb7 (Nat.le_refl _) hb7.size
                clear B6 S6
                clear hb7
                go_wp2_with fail
                refine (rBoundNo A4 k c4 _ P A2 c2 _ st _ h_p h_s (by omega) HBD).mono ?_
                rintro e w8_ ⟨rfl, d8, hd8⟩
                have hb8 : Below w7_.heap.size w7_ w8_ := hd8 ▸ below_drewN (Below.refl _ _) _
                clear hd8
                have B8 : Below w.heap.size w w8_ := B7.trans (hb8.mono S7)
                have S8 : w.heap.size ≤ w8_.heap.size := B8.size
                replace h_d := Ri.next h_d hb8 (Nat.le_refl _) hb8.size
                replace h_s := Ri.next h_s hb8 (Nat.le_refl _) hb8.size
                replace h_p := Ri.next h_p hb8 (Nat.le_refl _) hb8.size
                replace h_q := Ri.next h_q hb8 (Nat.le_refl _) hb8.size
                clear B7 S7
                clear hb8
                clear h_p
                clear h_q
                by_cases hy20 : y < 20
                · skip
                  have hy20i : y < 20 := hy20
                  have HM2 := Lib.hid (spay_more HG.out (by rw [HSL.out, HL.out]) HSA.out hN (by rw [HGG.out]; exact hg0) (i := i) (by rw [HIY.out]; exact hy20))
                  rw [HIY.out, HGG.out] at HM2
                  obtain ⟨st2, HST2⟩ : ∃ l, Hid (st.set i (y + 1) = l) := ⟨_, Lib.hid rfl⟩
                  rw [HST2.out] at HM2
                  have HQF := Lib.hid (spay_facts HG.out (by rw [← HST2.out, List.length_set, HSL.out, HL.out]) HM2.out.1 hN HM2.out.2.1)
                  obtain ⟨Q, HQQ⟩ : ∃ l, Hid (chg cs st2 (N : Int) (gmin cs st2 N) = l) := ⟨_, Lib.hid rfl⟩
                  obtain ⟨q, HQG⟩ : ∃ q, Hid (gmin cs st2 (N : Int) = q) := ⟨_, Lib.hid rfl⟩
                  have hqg : q ≤ g := by rw [← HQG.out]; exact HM2.out.2.2
                  have HPM : Hid (payS cs st2 (N : Int) = (Q, 0)) := Lib.hid (by rw [HQF.out.1, HQQ.out])
                  have HQL : Hid (Q.length = k) := Lib.hid (by rw [← HQQ.out, HQF.out.2.1, HL.out])
                  have HCQ : Hid (changeCS cs Q = ((N : Int), q, 0)) := Lib.hid (by rw [← HQQ.out, HQF.out.2.2.1, HQG.out])
                  clear HQF HM2
                  have hwy : IntKind.i64.wrap (y + 1) = y + 1 := IntWalk.i64_in _ (by omega)
                  go_wp2_with (first
                    | (go_at_call 53; refine (aLongsOf _ _).mono ?_; rintro e w' ⟨rfl, rfl⟩)
                    | (at_builtin; refine push_ints rfl (.tmp 146) (.tmp 147) rfl w8_.heap.size none 0 0 [] rfl (Oi.nil_ _ _) _ A2 k c2 st rfl h_s (by omega) (by omega) (Nat.le_refl _) ?_; intro AM cM wM hoM hgM; simp only [Nat.zero_add, List.nil_append] at hoM ⊢; have hbM := (Oi.nil_ w8_ w8_.heap.size).grew (Below.refl w8_.heap.size w8_) (Nat.le_refl _) (Nat.le_refl _) hgM; obtain ⟨gm, hAM, hgm1, hgm2⟩ := hoM.row hk1; subst hAM; have hcM := hoM.cell hik; have hfM := hoM.frozen i; rw [HIY.out] at hcM))
                  have hoN := hoM.put_ i (y + 1)
                  rw [HST2.out] at hoN
                  have hbN : Below w8_.heap.size w8_ (wM.setCell ⟨gm, i, none⟩ (.int .i64 (y + 1))) := hbM.setCell hgm1 _
                  have B9 : Below w.heap.size w (wM.setCell ⟨gm, i, none⟩ (.int .i64 (y + 1))) := B8.trans (hbN.mono S8)
                  have S9 : w.heap.size ≤ (wM.setCell ⟨gm, i, none⟩ (.int .i64 (y + 1))).heap.size := B9.size
                  replace h_d := Ri.next h_d hbN (Nat.le_refl _) hbN.size
                  replace h_s := Ri.next h_s hbN (Nat.le_refl _) hbN.size
                  clear B8 S8
                  have h_m := hoN.ri
                  go_wp2_with fail
                  refine (fPayT A k c cs (some ⟨gm, 0, none⟩) k cM st2 (N : Int) _ h_d h_m (by omega) (by omega) hc Q 0 HPM).mono ?_
                  rintro e w10_ ⟨A10, n10, c10, rfl, ho10, hb10⟩
                  have B10 : Below w.heap.size w w10_ := B9.trans (hb10.mono S9)
                  have S10 : w.heap.size ≤ w10_.heap.size := B10.size
                  replace h_d := Ri.next h_d hb10 (Nat.le_refl _) hb10.size
                  replace h_s := Ri.next h_s hb10 (Nat.le_refl _) hb10.size
                  replace h_m := Ri.next h_m hb10 (Nat.le_refl _) hb10.size
                  clear B9 S9
                  have h_r := ho10.ri
                  have m_r := ho10.most
                  clear ho10
                  clear hb10
                  obtain rfl : k = n10 := by rw [← h_r.len, HQL.out]
                  clear h_m
                  go_wp2_with fail
                  refine (fCheckChangeT A k c cs A10 k c10 Q _ h_d h_r (by omega) (by omega) hc N q 0 HCQ).mono ?_
                  rintro e w11_ ⟨rfl, hb11⟩
                  have B11 : Below w.heap.size w w11_ := B10.trans (hb11.mono S10)
                  have S11 : w.heap.size ≤ w11_.heap.size := B11.size
                  replace h_d := Ri.next h_d hb11 (Nat.le_refl _) hb11.size
                  replace h_s := Ri.next h_s hb11 (Nat.le_refl _) hb11.size
                  replace h_r := Ri.next h_r hb11 (Nat.le_refl _) hb11.size
                  clear B10 S10
                  clear hb11
                  clear h_r
                  go_wp2_with fail
                  refine (rSumT A k c _ cs A2 c2 _ st _ h_d h_s hk5 HC50 HS1000 whole all HSM).mono ?_
                  rintro e w12_ ⟨rfl, d12, hd12⟩
                  have hb12 : Below w11_.heap.size w11_ w12_ := hd12 ▸ below_drewN (Below.refl _ _) _
                  clear hd12
                  have B12 : Below w.heap.size w w12_ := B11.trans (hb12.mono S11)
                  have S12 : w.heap.size ≤ w12_.heap.size := B12.size
                  replace h_d := Ri.next h_d hb12 (Nat.le_refl _) hb12.size
                  replace h_s := Ri.next h_s hb12 (Nat.le_refl _) hb12.size
                  clear B11 S11
                  clear hb12
                  by_cases hbig : 300 < U
                  · skip
                    go_wp2_with fail
                    refine (aWorks _).mono ?_
                    rintro e w13_ ⟨rfl, hb13⟩
                    have B13 : Below w.heap.size w w13_ := B12.trans (hb13.mono S12)
                    have S13 : w.heap.size ≤ w13_.heap.size := B13.size
                    replace h_d := Ri.next h_d hb13 (Nat.le_refl _) hb13.size
                    replace h_s := Ri.next h_s hb13 (Nat.le_refl _) hb13.size
                    clear B12 S12
                    clear hb13
                    go_wp2
                    go_ret
                    exact ⟨rfl, B13⟩
                  · skip
                    obtain ⟨u, rfl⟩ : ∃ u : Nat, U = u := ⟨U.toNat, by omega⟩
                    have hu3 : u ≤ 300 := by omega
                    have HRZ := Lib.hid (spay_facts HG.out (by rw [HSL.out, HL.out]) HSA.out hu3 (by rw [HUU.out] at HREST; exact HREST.out.2.2.2.2.1))
                    obtain ⟨R, HRR⟩ : ∃ R, Hid (chg cs st (u : Int) (gmin cs st u) = R) := ⟨_, Lib.hid rfl⟩
                    obtain ⟨j, HJJ⟩ : ∃ j, Hid (gmin cs st (u : Int) = j) := ⟨_, Lib.hid rfl⟩
                    have hjm : j ≤ all - g := by have h := HREST.out.2.2.2.2.2; rw [HUU.out, HJJ.out, HALL.out] at h; exact h
                    have HPR : Hid (payS cs st (u : Int) = (R, 0)) := Lib.hid (by rw [HRZ.out.1, HRR.out])
                    have HRL : Hid (R.length = k) := Lib.hid (by rw [← HRR.out, HRZ.out.2.1, HL.out])
                    have HCR : Hid (changeCS cs R = ((u : Int), j, 0)) := Lib.hid (by rw [← HRR.out, HRZ.out.2.2.1, HJJ.out])
                    clear HRZ
                    go_wp2_with fail
                    refine (fPayT A k c cs A2 k c2 st (u : Int) _ h_d h_s (by omega) (by omega) hc R 0 HPR).mono ?_
                    rintro e w13_ ⟨A13, n13, c13, rfl, ho13, hb13⟩
                    have B13 : Below w.heap.size w w13_ := B12.trans (hb13.mono S12)
                    have S13 : w.heap.size ≤ w13_.heap.size := B13.size
                    replace h_d := Ri.next h_d hb13 (Nat.le_refl _) hb13.size
                    replace h_s := Ri.next h_s hb13 (Nat.le_refl _) hb13.size
                    clear B12 S12
                    have h_z := ho13.ri
                    have m_z := ho13.most
                    clear ho13
                    clear hb13
                    obtain rfl : k = n13 := by rw [← h_z.len, HRL.out]
                    go_wp2_with fail
                    refine (fCheckChangeT A k c cs A13 k c13 R _ h_d h_z (by omega) (by omega) hc u j 0 HCR).mono ?_
                    rintro e w14_ ⟨rfl, hb14⟩
                    have B14 : Below w.heap.size w w14_ := B13.trans (hb14.mono S13)
                    have S14 : w.heap.size ≤ w14_.heap.size := B14.size
                    replace h_d := Ri.next h_d hb14 (Nat.le_refl _) hb14.size
                    replace h_s := Ri.next h_s hb14 (Nat.le_refl _) hb14.size
                    replace h_z := Ri.next h_z hb14 (Nat.le_refl _) hb14.size
                    clear B13 S13
                    clear hb14
                    clear h_z
                    go_wp2_with fail
                    refine (aWorks _).mono ?_
                    rintro e w15_ ⟨rfl, hb15⟩
                    have B15 : Below w.heap.size w w15_ := B14.trans (hb15.mono S14)
                    have S15 : w.heap.size ≤ w15_.heap.size := B15.size
                    replace h_d := Ri.next h_d hb15 (Nat.le_refl _) hb15.size
                    replace h_s := Ri.next h_s hb15 (Nat.le_refl _) hb15.size
                    clear B14 S14
                    clear hb15
                    go_wp2
                    go_ret
                    exact ⟨rfl, B15⟩
                · skip
                  have hy20i : ¬ y < 20 := hy20
                  go_wp2_with (first
                    | (go_at_call 53; refine (aLongsOf _ _).mono ?_; rintro e w' ⟨rfl, rfl⟩)
                    | (at_builtin; refine push_ints rfl (.tmp 146) (.tmp 147) rfl w8_.heap.size none 0 0 [] rfl (Oi.nil_ _ _) _ A2 k c2 st rfl h_s (by omega) (by omega) (Nat.le_refl _) ?_; intro AM cM wM hoM hgM; simp only [Nat.zero_add, List.nil_append] at hoM ⊢; have hbM := (Oi.nil_ w8_ w8_.heap.size).grew (Below.refl w8_.heap.size w8_) (Nat.le_refl _) (Nat.le_refl _) hgM; obtain ⟨gm, hAM, hgm1, hgm2⟩ := hoM.row hk1; subst hAM; have hcM := hoM.cell hik; have hfM := hoM.frozen i; rw [HIY.out] at hcM))
                  have B9 : Below w.heap.size w wM := B8.trans (hbM.mono S8)
                  have S9 : w.heap.size ≤ wM.heap.size := B9.size
                  replace h_d := Ri.next h_d hbM (Nat.le_refl _) hbM.size
                  replace h_s := Ri.next h_s hbM (Nat.le_refl _) hbM.size
                  clear B8 S8
                  obtain ⟨Q, HQQ⟩ : ∃ l, Hid (P = l) := ⟨_, Lib.hid rfl⟩
                  obtain ⟨q, HQG⟩ : ∃ q, Hid (g = q) := ⟨_, Lib.hid rfl⟩
                  have hqg : q ≤ g := by rw [← HQG.out]; omega
                  have HPM : Hid (payS cs st (N : Int) = (Q, 0)) := Lib.hid (by rw [HPY.out, HQQ.out])
                  have HQL : Hid (Q.length = k) := Lib.hid (by rw [← HQQ.out, HPL.out])
                  have HCQ : Hid (changeCS cs Q = ((N : Int), q, 0)) := Lib.hid (by rw [← HQQ.out, HCC.out, HQG.out])
                  have h_m := hoM.ri
                  go_wp2_with fail
                  refine (fPayT A k c cs (some ⟨gm, 0, none⟩) k cM st (N : Int) _ h_d h_m (by omega) (by omega) hc Q 0 HPM).mono ?_
                  rintro e w10_ ⟨A10, n10, c10, rfl, ho10, hb10⟩
                  have B10 : Below w.heap.size w w10_ := B9.trans (hb10.mono S9)
                  have S10 : w.heap.size ≤ w10_.heap.size := B10.size
                  replace h_d := Ri.next h_d hb10 (Nat.le_refl _) hb10.size
                  replace h_s := Ri.next h_s hb10 (Nat.le_refl _) hb10.size
                  replace h_m := Ri.next h_m hb10 (Nat.le_refl _) hb10.size
                  clear B9 S9
                  have h_r := ho10.ri
                  have m_r := ho10.most
                  clear ho10
                  clear hb10
                  obtain rfl : k = n10 := by rw [← h_r.len, HQL.out]
                  clear h_m
                  go_wp2_with fail
                  refine (fCheckChangeT A k c cs A10 k c10 Q _ h_d h_r (by omega) (by omega) hc N q 0 HCQ).mono ?_
                  rintro e w11_ ⟨rfl, hb11⟩
                  have B11 : Below w.heap.size w w11_ := B10.trans (hb11.mono S10)
                  have S11 : w.heap.size ≤ w11_.heap.size := B11.size
                  replace h_d := Ri.next h_d hb11 (Nat.le_refl _) hb11.size
                  replace h_s := Ri.next h_s hb11 (Nat.le_refl _) hb11.size
                  replace h_r := Ri.next h_r hb11 (Nat.le_refl _) hb11.size
                  clear B10 S10
                  clear hb11
                  clear h_r
                  go_wp2_with fail
                  refine (rSumT A k c _ cs A2 c2 _ st _ h_d h_s hk5 HC50 HS1000 whole all HSM).mono ?_
                  rintro e w12_ ⟨rfl, d12, hd12⟩
                  have hb12 : Below w11_.heap.size w11_ w12_ := hd12 ▸ below_drewN (Below.refl _ _) _
                  clear hd12
                  have B12 : Below w.heap.size w w12_ := B11.trans (hb12.mono S11)
                  have S12 : w.heap.size ≤ w12_.heap.size := B12.size
                  replace h_d := Ri.next h_d hb12 (Nat.le_refl _) hb12.size
                  replace h_s := Ri.next h_s hb12 (Nat.le_refl _) hb12.size
                  clear B11 S11
                  clear hb12
                  by_cases hbig : 300 < U
                  · skip
                    go_wp2_with fail
                    refine (aWorks _).mono ?_
                    rintro e w13_ ⟨rfl, hb13⟩
                    have B13 : Below w.heap.size w w13_ := B12.trans (hb13.mono S12)
                    have S13 : w.heap.size ≤ w13_.heap.size := B13.size
                    replace h_d := Ri.next h_d hb13 (Nat.le_refl _) hb13.size
                    replace h_s := Ri.next h_s hb13 (Nat.le_refl _) hb13.size
                    clear B12 S12
                    clear hb13
                    go_wp2
                    go_ret
                    exact ⟨rfl, B13⟩
                  · skip
                    obtain ⟨u, rfl⟩ : ∃ u : Nat, U = u := ⟨U.toNat, by omega⟩
                    have hu3 : u ≤ 300 := by omega
                    have HRZ := Lib.hid (spay_facts HG.out (by rw [HSL.out, HL.out]) HSA.out hu3 (by rw [HUU.out] at HREST; exact HREST.out.2.2.2.2.1))
                    obtain ⟨R, HRR⟩ : ∃ R, Hid (chg cs st (u : Int) (gmin cs st u) = R) := ⟨_, Lib.hid rfl⟩
                    obtain ⟨j, HJJ⟩ : ∃ j, Hid (gmin cs st (u : Int) = j) := ⟨_, Lib.hid rfl⟩
                    have hjm : j ≤ all - g := by have h := HREST.out.2.2.2.2.2; rw [HUU.out, HJJ.out, HALL.out] at h; exact h
                    have HPR : Hid (payS cs st (u : Int) = (R, 0)) := Lib.hid (by rw [HRZ.out.1, HRR.out])
                    have HRL : Hid (R.length = k) := Lib.hid (by rw [← HRR.out, HRZ.out.2.1, HL.out])
                    have HCR : Hid (changeCS cs R = ((u : Int), j, 0)) := Lib.hid (by rw [← HRR.out, HRZ.out.2.2.1, HJJ.out])
                    clear HRZ
                    go_wp2_with fail
                    refine (fPayT A k c cs A2 k c2 st (u : Int) _ h_d h_s (by omega) (by omega) hc R 0 HPR).mono ?_
                    rintro e w13_ ⟨A13, n13, c13, rfl, ho13, hb13⟩
                    have B13 : Below w.heap.size w w13_ := B12.trans (hb13.mono S12)
                    have S13 : w.heap.size ≤ w13_.heap.size := B13.size
                    replace h_d := Ri.next h_d hb13 (Nat.le_refl _) hb13.size
                    replace h_s := Ri.next h_s hb13 (Nat.le_refl _) hb13.size
                    clear B12 S12
                    have h_z := ho13.ri
                    have m_z := ho13.most
                    clear ho13
                    clear hb13
                    obtain rfl : k = n13 := by rw [← h_z.len, HRL.out]
                    go_wp2_with fail
                    refine (fCheckChangeT A k c cs A13 k c13 R _ h_d h_z (by omega) (by omega) hc u j 0 HCR).mono ?_
                    rintro e w14_ ⟨rfl, hb14⟩
                    have B14 : Below w.heap.size w w14_ := B13.trans (hb14.mono S13)
                    have S14 : w.heap.size ≤ w14_.heap.size := B14.size
                    replace h_d := Ri.next h_d hb14 (Nat.le_refl _) hb14.size
                    replace h_s := Ri.next h_s hb14 (Nat.le_refl _) hb14.size
                    replace h_z := Ri.next h_z hb14 (Nat.le_refl _) hb14.size
                    clear B13 S13
                    clear hb14
                    clear h_z
                    go_wp2_with fail
                    refine (aWorks _).mono ?_
                    rintro e w15_ ⟨rfl, hb15⟩
                    have B15 : Below w.heap.size w w15_ := B14.trans (hb15.mono S14)
                    have S15 : w.heap.size ≤ w15_.heap.size := B15.size
                    replace h_d := Ri.next h_d hb15 (Nat.le_refl _) hb15.size
                    replace h_s := Ri.next h_s hb15 (Nat.le_refl _) hb15.size
                    clear B14 S14
                    clear hb15
                    go_wp2
                    go_ret
                    exact ⟨rfl, B15⟩
              · skip
                obtain rfl : P = C := (HHAS.out (HEI.out.1 rfl)).symm ▸ rfl
                go_wp2_with fail
                refine (fCheckChangeT A k c cs A4 k c4 P _ h_d h_p (by omega) (by omega) hc N g 0 HCC).mono ?_
                rintro e w7_ ⟨rfl, hb7⟩
                have B7 : Below w.heap.size w w7_ := B6.trans (hb7.mono S6)
                have S7 : w.heap.size ≤ w7_.heap.size := B7.size
                replace h_d := Ri.next h_d hb7 (Nat.le_refl _) hb7.size
                replace h_s := Ri.next h_s hb7 (Nat.le_refl _) hb7.size
                replace h_p := Ri.next h_p hb7 (Nat.le_refl _) hb7.size
                replace h_q := Ri.next h_q hb7 (Nat.le_refl _) hb7.size
                clear B6 S6
                clear hb7
                go_wp2_with fail
                refine (rBoundNo A4 k c4 _ P A2 c2 _ st _ h_p h_s (by omega) HBD).mono ?_
                rintro e w8_ ⟨rfl, d8, hd8⟩
                have hb8 : Below w7_.heap.size w7_ w8_ := hd8 ▸ below_drewN (Below.refl _ _) _
                clear hd8
                have B8 : Below w.heap.size w w8_ := B7.trans (hb8.mono S7)
                have S8 : w.heap.size ≤ w8_.heap.size := B8.size
                replace h_d := Ri.next h_d hb8 (Nat.le_refl _) hb8.size
                replace h_s := Ri.next h_s hb8 (Nat.le_refl _) hb8.size
                replace h_p := Ri.next h_p hb8 (Nat.le_refl _) hb8.size
                replace h_q := Ri.next h_q hb8 (Nat.le_refl _) hb8.size
                clear B7 S7
                clear hb8
                go_wp2_with fail
                refine (aLongsT _ _ _ _ _ _ _ _ (P) (P) _ h_p h_q (by omega) (by omega) true (Lib.hid (decide_eq_true rfl))).mono ?_
                rintro e w9_ ⟨rfl, hb9⟩
                have B9 : Below w.heap.size w w9_ := B8.trans (hb9.mono S8)
                have S9 : w.heap.size ≤ w9_.heap.size := B9.size
                replace h_d := Ri.next h_d hb9 (Nat.le_refl _) hb9.size
                replace h_s := Ri.next h_s hb9 (Nat.le_refl _) hb9.size
                replace h_p := Ri.next h_p hb9 (Nat.le_refl _) hb9.size
                replace h_q := Ri.next h_q hb9 (Nat.le_refl _) hb9.size
                clear B8 S8
                clear hb9
                clear h_p
                clear h_q
                by_cases hy20 : y < 20
                · skip
                  have hy20i : y < 20 := hy20
                  have HM2 := Lib.hid (spay_more HG.out (by rw [HSL.out, HL.out]) HSA.out hN (by rw [HGG.out]; exact hg0) (i := i) (by rw [HIY.out]; exact hy20))
                  rw [HIY.out, HGG.out] at HM2
                  obtain ⟨st2, HST2⟩ : ∃ l, Hid (st.set i (y + 1) = l) := ⟨_, Lib.hid rfl⟩
                  rw [HST2.out] at HM2
                  have HQF := Lib.hid (spay_facts HG.out (by rw [← HST2.out, List.length_set, HSL.out, HL.out]) HM2.out.1 hN HM2.out.2.1)
                  obtain ⟨Q, HQQ⟩ : ∃ l, Hid (chg cs st2 (N : Int) (gmin cs st2 N) = l) := ⟨_, Lib.hid rfl⟩
                  obtain ⟨q, HQG⟩ : ∃ q, Hid (gmin cs st2 (N : Int) = q) := ⟨_, Lib.hid rfl⟩
                  have hqg : q ≤ g := by rw [← HQG.out]; exact HM2.out.2.2
                  have HPM : Hid (payS cs st2 (N : Int) = (Q, 0)) := Lib.hid (by rw [HQF.out.1, HQQ.out])
                  have HQL : Hid (Q.length = k) := Lib.hid (by rw [← HQQ.out, HQF.out.2.1, HL.out])
                  have HCQ : Hid (changeCS cs Q = ((N : Int), q, 0)) := Lib.hid (by rw [← HQQ.out, HQF.out.2.2.1, HQG.out])
                  clear HQF HM2
                  have hwy : IntKind.i64.wrap (y + 1) = y + 1 := IntWalk.i64_in _ (by omega)
                  go_wp2_with (first
                    | (go_at_call 53; refine (aLongsOf _ _).mono ?_; rintro e w' ⟨rfl, rfl⟩)
                    | (at_builtin; refine push_ints rfl (.tmp 146) (.tmp 147) rfl w9_.heap.size none 0 0 [] rfl (Oi.nil_ _ _) _ A2 k c2 st rfl h_s (by omega) (by omega) (Nat.le_refl _) ?_; intro AM cM wM hoM hgM; simp only [Nat.zero_add, List.nil_append] at hoM ⊢; have hbM := (Oi.nil_ w9_ w9_.heap.size).grew (Below.refl w9_.heap.size w9_) (Nat.le_refl _) (Nat.le_refl _) hgM; obtain ⟨gm, hAM, hgm1, hgm2⟩ := hoM.row hk1; subst hAM; have hcM := hoM.cell hik; have hfM := hoM.frozen i; rw [HIY.out] at hcM))
                  have hoN := hoM.put_ i (y + 1)
                  rw [HST2.out] at hoN
                  have hbN : Below w9_.heap.size w9_ (wM.setCell ⟨gm, i, none⟩ (.int .i64 (y + 1))) := hbM.setCell hgm1 _
                  have B10 : Below w.heap.size w (wM.setCell ⟨gm, i, none⟩ (.int .i64 (y + 1))) := B9.trans (hbN.mono S9)
                  have S10 : w.heap.size ≤ (wM.setCell ⟨gm, i, none⟩ (.int .i64 (y + 1))).heap.size := B10.size
                  replace h_d := Ri.next h_d hbN (Nat.le_refl _) hbN.size
                  replace h_s := Ri.next h_s hbN (Nat.le_refl _) hbN.size
                  clear B9 S9
                  have h_m := hoN.ri
                  go_wp2_with fail
                  refine (fPayT A k c cs (some ⟨gm, 0, none⟩) k cM st2 (N : Int) _ h_d h_m (by omega) (by omega) hc Q 0 HPM).mono ?_
                  rintro e w11_ ⟨A11, n11, c11, rfl, ho11, hb11⟩
                  have B11 : Below w.heap.size w w11_ := B10.trans (hb11.mono S10)
                  have S11 : w.heap.size ≤ w11_.heap.size := B11.size
                  replace h_d := Ri.next h_d hb11 (Nat.le_refl _) hb11.size
                  replace h_s := Ri.next h_s hb11 (Nat.le_refl _) hb11.size
                  replace h_m := Ri.next h_m hb11 (Nat.le_refl _) hb11.size
                  clear B10 S10
                  have h_r := ho11.ri
                  have m_r := ho11.most
                  clear ho11
                  clear hb11
                  obtain rfl : k = n11 := by rw [← h_r.len, HQL.out]
                  clear h_m
                  go_wp2_with fail
                  refine (fCheckChangeT A k c cs A11 k c11 Q _ h_d h_r (by omega) (by omega) hc N q 0 HCQ).mono ?_
                  rintro e w12_ ⟨rfl, hb12⟩
                  have B12 : Below w.heap.size w w12_ := B11.trans (hb12.mono S11)
                  have S12 : w.heap.size ≤ w12_.heap.size := B12.size
                  replace h_d := Ri.next h_d hb12 (Nat.le_refl _) hb12.size
                  replace h_s := Ri.next h_s hb12 (Nat.le_refl _) hb12.size
                  replace h_r := Ri.next h_r hb12 (Nat.le_refl _) hb12.size
                  clear B11 S11
                  clear hb12
                  clear h_r
                  go_wp2_with fail
                  refine (rSumT A k c _ cs A2 c2 _ st _ h_d h_s hk5 HC50 HS1000 whole all HSM).mono ?_
                  rintro e w13_ ⟨rfl, d13, hd13⟩
                  have hb13 : Below w12_.heap.size w12_ w13_ := hd13 ▸ below_drewN (Below.refl _ _) _
                  clear hd13
                  have B13 : Below w.heap.size w w13_ := B12.trans (hb13.mono S12)
                  have S13 : w.heap.size ≤ w13_.heap.size := B13.size
                  replace h_d := Ri.next h_d hb13 (Nat.le_refl _) hb13.size
                  replace h_s := Ri.next h_s hb13 (Nat.le_refl _) hb13.size
                  clear B12 S12
                  clear hb13
                  by_cases hbig : 300 < U
                  · skip
                    go_wp2_with fail
                    refine (aWorks _).mono ?_
                    rintro e w14_ ⟨rfl, hb14⟩
                    have B14 : Below w.heap.size w w14_ := B13.trans (hb14.mono S13)
                    have S14 : w.heap.size ≤ w14_.heap.size := B14.size
                    replace h_d := Ri.next h_d hb14 (Nat.le_refl _) hb14.size
                    replace h_s := Ri.next h_s hb14 (Nat.le_refl _) hb14.size
                    clear B13 S13
                    clear hb14
                    go_wp2
                    go_ret
                    exact ⟨rfl, B14⟩
                  · skip
                    obtain ⟨u, rfl⟩ : ∃ u : Nat, U = u := ⟨U.toNat, by omega⟩
                    have hu3 : u ≤ 300 := by omega
                    have HRZ := Lib.hid (spay_facts HG.out (by rw [HSL.out, HL.out]) HSA.out hu3 (by rw [HUU.out] at HREST; exact HREST.out.2.2.2.2.1))
                    obtain ⟨R, HRR⟩ : ∃ R, Hid (chg cs st (u : Int) (gmin cs st u) = R) := ⟨_, Lib.hid rfl⟩
                    obtain ⟨j, HJJ⟩ : ∃ j, Hid (gmin cs st (u : Int) = j) := ⟨_, Lib.hid rfl⟩
                    have hjm : j ≤ all - g := by have h := HREST.out.2.2.2.2.2; rw [HUU.out, HJJ.out, HALL.out] at h; exact h
                    have HPR : Hid (payS cs st (u : Int) = (R, 0)) := Lib.hid (by rw [HRZ.out.1, HRR.out])
                    have HRL : Hid (R.length = k) := Lib.hid (by rw [← HRR.out, HRZ.out.2.1, HL.out])
                    have HCR : Hid (changeCS cs R = ((u : Int), j, 0)) := Lib.hid (by rw [← HRR.out, HRZ.out.2.2.1, HJJ.out])
                    clear HRZ
                    go_wp2_with fail
                    refine (fPayT A k c cs A2 k c2 st (u : Int) _ h_d h_s (by omega) (by omega) hc R 0 HPR).mono ?_
                    rintro e w14_ ⟨A14, n14, c14, rfl, ho14, hb14⟩
                    have B14 : Below w.heap.size w w14_ := B13.trans (hb14.mono S13)
                    have S14 : w.heap.size ≤ w14_.heap.size := B14.size
                    replace h_d := Ri.next h_d hb14 (Nat.le_refl _) hb14.size
                    replace h_s := Ri.next h_s hb14 (Nat.le_refl _) hb14.size
                    clear B13 S13
                    have h_z := ho14.ri
                    have m_z := ho14.most
                    clear ho14
                    clear hb14
                    obtain rfl : k = n14 := by rw [← h_z.len, HRL.out]
                    go_wp2_with fail
                    refine (fCheckChangeT A k c cs A14 k c14 R _ h_d h_z (by omega) (by omega) hc u j 0 HCR).mono ?_
                    rintro e w15_ ⟨rfl, hb15⟩
                    have B15 : Below w.heap.size w w15_ := B14.trans (hb15.mono S14)
                    have S15 : w.heap.size ≤ w15_.heap.size := B15.size
                    replace h_d := Ri.next h_d hb15 (Nat.le_refl _) hb15.size
                    replace h_s := Ri.next h_s hb15 (Nat.le_refl _) hb15.size
                    replace h_z := Ri.next h_z hb15 (Nat.le_refl _) hb15.size
                    clear B14 S14
                    clear hb15
                    clear h_z
                    go_wp2_with fail
                    refine (aWorks _).mono ?_
                    rintro e w16_ ⟨rfl, hb16⟩
                    have B16 : Below w.heap.size w w16_ := B15.trans (hb16.mono S15)
                    have S16 : w.heap.size ≤ w16_.heap.size := B16.size
                    replace h_d := Ri.next h_d hb16 (Nat.le_refl _) hb16.size
                    replace h_s := Ri.next h_s hb16 (Nat.le_refl _) hb16.size
                    clear B15 S15
                    clear hb16
                    go_wp2
                    go_ret
                    exact ⟨rfl, B16⟩
                · skip
                  have hy20i : ¬ y < 20 := hy20
                  go_wp2_with (first
                    | (go_at_call 53; refine (aLongsOf _ _).mono ?_; rintro e w' ⟨rfl, rfl⟩)
                    | (at_builtin; refine push_ints rfl (.tmp 146) (.tmp 147) rfl w9_.heap.size none 0 0 [] rfl (Oi.nil_ _ _) _ A2 k c2 st rfl h_s (by omega) (by omega) (Nat.le_refl _) ?_; intro AM cM wM hoM hgM; simp only [Nat.zero_add, List.nil_append] at hoM ⊢; have hbM := (Oi.nil_ w9_ w9_.heap.size).grew (Below.refl w9_.heap.size w9_) (Nat.le_refl _) (Nat.le_refl _) hgM; obtain ⟨gm, hAM, hgm1, hgm2⟩ := hoM.row hk1; subst hAM; have hcM := hoM.cell hik; have hfM := hoM.frozen i; rw [HIY.out] at hcM))
                  have B10 : Below w.heap.size w wM := B9.trans (hbM.mono S9)
                  have S10 : w.heap.size ≤ wM.heap.size := B10.size
                  replace h_d := Ri.next h_d hbM (Nat.le_refl _) hbM.size
                  replace h_s := Ri.next h_s hbM (Nat.le_refl _) hbM.size
                  clear B9 S9
                  obtain ⟨Q, HQQ⟩ : ∃ l, Hid (P = l) := ⟨_, Lib.hid rfl⟩
                  obtain ⟨q, HQG⟩ : ∃ q, Hid (g = q) := ⟨_, Lib.hid rfl⟩
                  have hqg : q ≤ g := by rw [← HQG.out]; omega
                  have HPM : Hid (payS cs st (N : Int) = (Q, 0)) := Lib.hid (by rw [HPY.out, HQQ.out])
                  have HQL : Hid (Q.length = k) := Lib.hid (by rw [← HQQ.out, HPL.out])
                  have HCQ : Hid (changeCS cs Q = ((N : Int), q, 0)) := Lib.hid (by rw [← HQQ.out, HCC.out, HQG.out])
                  have h_m := hoM.ri
                  go_wp2_with fail
                  refine (fPayT A k c cs (some ⟨gm, 0, none⟩) k cM st (N : Int) _ h_d h_m (by omega) (by omega) hc Q 0 HPM).mono ?_
                  rintro e w11_ ⟨A11, n11, c11, rfl, ho11, hb11⟩
                  have B11 : Below w.heap.size w w11_ := B10.trans (hb11.mono S10)
                  have S11 : w.heap.size ≤ w11_.heap.size := B11.size
                  replace h_d := Ri.next h_d hb11 (Nat.le_refl _) hb11.size
                  replace h_s := Ri.next h_s hb11 (Nat.le_refl _) hb11.size
                  replace h_m := Ri.next h_m hb11 (Nat.le_refl _) hb11.size
                  clear B10 S10
                  have h_r := ho11.ri
                  have m_r := ho11.most
                  clear ho11
                  clear hb11
                  obtain rfl : k = n11 := by rw [← h_r.len, HQL.out]
                  clear h_m
                  go_wp2_with fail
                  refine (fCheckChangeT A k c cs A11 k c11 Q _ h_d h_r (by omega) (by omega) hc N q 0 HCQ).mono ?_
                  rintro e w12_ ⟨rfl, hb12⟩
                  have B12 : Below w.heap.size w w12_ := B11.trans (hb12.mono S11)
                  have S12 : w.heap.size ≤ w12_.heap.size := B12.size
                  replace h_d := Ri.next h_d hb12 (Nat.le_refl _) hb12.size
                  replace h_s := Ri.next h_s hb12 (Nat.le_refl _) hb12.size
                  replace h_r := Ri.next h_r hb12 (Nat.le_refl _) hb12.size
                  clear B11 S11
                  clear hb12
                  clear h_r
                  go_wp2_with fail
                  refine (rSumT A k c _ cs A2 c2 _ st _ h_d h_s hk5 HC50 HS1000 whole all HSM).mono ?_
                  rintro e w13_ ⟨rfl, d13, hd13⟩
                  have hb13 : Below w12_.heap.size w12_ w13_ := hd13 ▸ below_drewN (Below.refl _ _) _
                  clear hd13
                  have B13 : Below w.heap.size w w13_ := B12.trans (hb13.mono S12)
                  have S13 : w.heap.size ≤ w13_.heap.size := B13.size
                  replace h_d := Ri.next h_d hb13 (Nat.le_refl _) hb13.size
                  replace h_s := Ri.next h_s hb13 (Nat.le_refl _) hb13.size
                  clear B12 S12
                  clear hb13
                  by_cases hbig : 300 < U
                  · skip
                    go_wp2_with fail
                    refine (aWorks _).mono ?_
                    rintro e w14_ ⟨rfl, hb14⟩
                    have B14 : Below w.heap.size w w14_ := B13.trans (hb14.mono S13)
                    have S14 : w.heap.size ≤ w14_.heap.size := B14.size
                    replace h_d := Ri.next h_d hb14 (Nat.le_refl _) hb14.size
                    replace h_s := Ri.next h_s hb14 (Nat.le_refl _) hb14.size
                    clear B13 S13
                    clear hb14
                    go_wp2
                    go_ret
                    exact ⟨rfl, B14⟩
                  · skip
                    obtain ⟨u, rfl⟩ : ∃ u : Nat, U = u := ⟨U.toNat, by omega⟩
                    have hu3 : u ≤ 300 := by omega
                    have HRZ := Lib.hid (spay_facts HG.out (by rw [HSL.out, HL.out]) HSA.out hu3 (by rw [HUU.out] at HREST; exact HREST.out.2.2.2.2.1))
                    obtain ⟨R, HRR⟩ : ∃ R, Hid (chg cs st (u : Int) (gmin cs st u) = R) := ⟨_, Lib.hid rfl⟩
                    obtain ⟨j, HJJ⟩ : ∃ j, Hid (gmin cs st (u : Int) = j) := ⟨_, Lib.hid rfl⟩
                    have hjm : j ≤ all - g := by have h := HREST.out.2.2.2.2.2; rw [HUU.out, HJJ.out, HALL.out] at h; exact h
                    have HPR : Hid (payS cs st (u : Int) = (R, 0)) := Lib.hid (by rw [HRZ.out.1, HRR.out])
                    have HRL : Hid (R.length = k) := Lib.hid (by rw [← HRR.out, HRZ.out.2.1, HL.out])
                    have HCR : Hid (changeCS cs R = ((u : Int), j, 0)) := Lib.hid (by rw [← HRR.out, HRZ.out.2.2.1, HJJ.out])
                    clear HRZ
                    go_wp2_with fail
                    refine (fPayT A k c cs A2 k c2 st (u : Int) _ h_d h_s (by omega) (by omega) hc R 0 HPR).mono ?_
                    rintro e w14_ ⟨A14, n14, c14, rfl, ho14, hb14⟩
                    have B14 : Below w.heap.size w w14_ := B13.trans (hb14.mono S13)
                    have S14 : w.heap.size ≤ w14_.heap.size := B14.size
                    replace h_d := Ri.next h_d hb14 (Nat.le_refl _) hb14.size
                    replace h_s := Ri.next h_s hb14 (Nat.le_refl _) hb14.size
                    clear B13 S13
                    have h_z := ho14.ri
                    have m_z := ho14.most
                    clear ho14
                    clear hb14
                    obtain rfl : k = n14 := by rw [← h_z.len, HRL.out]
                    go_wp2_with fail
                    refine (fCheckChangeT A k c cs A14 k c14 R _ h_d h_z (by omega) (by omega) hc u j 0 HCR).mono ?_
                    rintro e w15_ ⟨rfl, hb15⟩
                    have B15 : Below w.heap.size w w15_ := B14.trans (hb15.mono S14)
                    have S15 : w.heap.size ≤ w15_.heap.size := B15.size
                    replace h_d := Ri.next h_d hb15 (Nat.le_refl _) hb15.size
                    replace h_s := Ri.next h_s hb15 (Nat.le_refl _) hb15.size
                    replace h_z := Ri.next h_z hb15 (Nat.le_refl _) hb15.size
                    clear B14 S14
                    clear hb15
                    clear h_z
                    go_wp2_with fail
                    refine (aWorks _).mono ?_
                    rintro e w16_ ⟨rfl, hb16⟩
                    have B16 : Below w.heap.size w w16_ := B15.trans (hb16.mono S15)
                    have S16 : w.heap.size ≤ w16_.heap.size := B16.size
                    replace h_d := Ri.next h_d hb16 (Nat.le_refl _) hb16.size
                    replace h_s := Ri.next h_s hb16 (Nat.le_refl _) hb16.size
                    clear B15 S15
                    clear hb16
                    go_wp2
                    go_ret
                    exact ⟨rfl, B16⟩
    · have hnb2 : (10 : Int) < (nb : Int) := by omega
      have h_d := hx
      go_enter Try.func16, Try.ntmps16
      go_wp2_with fail
      refine (aFin A n c _ cs _ h_d _ HF).mono ?_
      rintro e w1_ ⟨rfl, d1, hd1⟩
      have hb1 : Below w.heap.size w w1_ := hd1 ▸ below_drewN (Below.refl _ _) _
      clear hd1
      have B1 : Below w.heap.size w w1_ := (Below.refl _ _).trans (hb1.mono (Nat.le_refl _))
      have S1 : w.heap.size ≤ w1_.heap.size := B1.size
      replace h_d := Ri.next h_d hb1 (Nat.le_refl _) hb1.size
      clear hb1
      go_wp2_with fail
      refine (aWorks _).mono ?_
      rintro e w2_ ⟨rfl, hb2⟩
      have B2 : Below w.heap.size w w2_ := B1.trans (hb2.mono S1)
      have S2 : w.heap.size ≤ w2_.heap.size := B2.size
      replace h_d := Ri.next h_d hb2 (Nat.le_refl _) hb2.size
      clear B1 S1
      clear hb2
      go_wp2
      go_ret
      exact ⟨rfl, B2⟩
  · have HF : Hid (decide (checkCoins cs = 0) = false) := Lib.hid (decide_eq_false hf)
    go_enter Try.func16, Try.ntmps16
    go_wp2_with fail
    refine (aFin A n c _ cs _ hx _ HF).mono ?_
    rintro e w1 ⟨rfl, d, rfl⟩
    go_wp2_with fail
    refine (aWorks _).mono ?_
    rintro e w2 ⟨rfl, hb⟩
    go_wp2
    go_ret
    exact ⟨rfl, below_d hb⟩

set_option maxRecDepth 100000 in
theorem FloatStocked_lifted (os : Os) (started : os.Started) (H : Type) (enc : TypeId × Value → H) :
    ReturnsInHanded {} Try.checked os 16 .any (Rows.floatStockedSpec.pre6 enc Try.prog Try.f16 Rows.floatStockedRow.domain false) (Rows.floatStockedSpec.post enc Try.prog Try.f16 false true false false) := by
  refine returnsInHanded_of_change (C := Try.checked) row_own started (by kernel_rfl) Try.func16
    (ChangeSpec.witness6 (enc := enc) (C := Try.checked) false ⟨#[], #[.slice none 0 0, .slice none 0 0, .int .u16 0, .int .u8 0], []⟩ 8 (by kernel_rfl) (by kernel_rfl) (by kernel_rfl) (by kernel_rfl)) ?_
  intro W base args ds gs before hval0 hW _ _
  have hval : ∀ (j : Nat) t v, Try.f16.params[j]? = some t → args[j]? = some v → Value.okWide Try.prog W .any base t v := hval0
  have hW' := hW
  obtain ⟨p, q, hA0, hV, rfl, _, _⟩ := hW
  have hA : DataW.TrodAll enc Try.prog W 0 (fun _ => true) true Try.f16.params.toList args.toList ds p := hA0
  rw [Try.params16] at hA hval
  obtain ⟨v0, v1, v2, v3, d0, d1, d2, d3, p0, p1, p2, p3, rfl, rfl, rfl, h0, h1, h2, h3⟩ := trodAll_four hA
  obtain ⟨rfl, rfl⟩ := trodVars_none hV
  clear hA0 hval0
  simp only [List.append_nil] at hW'
  have hlt : ∀ x ∈ (p0 ++ p1 ++ p2 ++ p3), x.block < W.heap.size := fun x hx => by simpa using hW'.lt x hx
  have a0 := fun W' (hb : Below W.heap.size W W') => row_stays (t := 22) (by kernel_rfl) (of_decide_eq_true (by kernel_rfl)) h0 (fun x hx => hlt x (by simp [hx])) hb
  have a1 := fun W' (hb : Below W.heap.size W W') => row_stays (t := 55) (by kernel_rfl) (of_decide_eq_true (by kernel_rfl)) h1 (fun x hx => hlt x (by simp [hx])) hb
  have a2 := fun W' (hb : Below W.heap.size W W') => row_stays (t := 44) (by kernel_rfl) (of_decide_eq_true (by kernel_rfl)) h2 (fun x hx => hlt x (by simp [hx])) hb
  have a3 := fun W' (hb : Below W.heap.size W W') => row_stays (t := 5) (by kernel_rfl) (of_decide_eq_true (by kernel_rfl)) h3 (fun x hx => hlt x (by simp [hx])) hb
  obtain ⟨A0, n0, c0, xs0, rfl, hc0, hm0, hx0, hw0⟩ := row_ints (t := 22) (e := 2) (k := .i64) (by kernel_rfl) (by kernel_rfl) (by kernel_rfl) (hval 0 22 v0 rfl rfl) h0 (fun x hx => hlt x (by simp [hx]))
  obtain ⟨A1, n1, c1, xs1, rfl, hc1, hm1, hx1, hw1⟩ := row_ints (t := 55) (e := 5) (k := .u8) (by kernel_rfl) (by kernel_rfl) (by kernel_rfl) (hval 1 55 v1 rfl rfl) h1 (fun x hx => hlt x (by simp [hx]))
  obtain ⟨x2, rfl, _, _, wx2⟩ := open_int (P := Try.prog) (k := .u16) (t := 44) (by kernel_rfl) (hval 2 44 v2 rfl rfl) h2
  obtain ⟨x3, rfl, _, _, wx3⟩ := open_int (P := Try.prog) (k := .u8) (t := 5) (by kernel_rfl) (hval 3 5 v3 rfl rfl) h3
  refine (wStocked A0 n0 c0 xs0 A1 n1 c1 xs1 x2 x3 (u16_lo wx2) (u16_hi wx2) (u8_lo wx3) (u8_hi wx3) W hx0 (Ru.of_row hx1 hw1) hc0).mono fun e W' ⟨he, hb⟩ => ?_
  subst he
  exact ⟨_, rfl, _, _, _, [], (p0 ++ p1 ++ p2 ++ p3), [], hW', trodAll_mk1 (shut_bool Try.underlying4 true), (by simp only [List.append_assoc]; exact trodAll_mk4 (a0 _ hb) (a1 _ hb) (a2 _ hb) (a3 _ hb)), rfl, hb.frame _, fun h => by cases h⟩
theorem FloatStocked_holds : Rows.FloatStockedSaid :=
  OpenClaim.holds_of_wide 16 Try.f16 rfl rfl rfl rfl rfl rfl rfl ⟨rfl, rfl, rfl, rfl, rfl⟩ rfl rfl rfl rfl rfl (by kernel_rfl) Try.func16 (by kernel_rfl)
    (of_decide_eq_true (by kernel_rfl)) (by unfold Func.isWrapper; first | (rw [if_pos (by decide +kernel)]; kernel_rfl) | (rw [if_neg (by decide +kernel)]; exact ⟨rfl, rfl⟩))
    (fun os started H enc _ => FloatStocked_lifted os started H enc)
#print axioms FloatStocked_holds
end Go.Proofs.Ytloibnmhgocboaa
