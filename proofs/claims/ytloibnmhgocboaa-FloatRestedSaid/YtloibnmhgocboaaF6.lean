/-
  The program: Greatest, Many, Ways, Bad.
-/
import Derived.Test.YtloibnmhgocboaaF5
import Derived.Test.YtloibnmhgocboaaPQ
namespace Go.Proofs.Ytloibnmhgocboaa
open Go.RowKit Go.Shelf

theorem endless_any (cs : List Int) : ((restsL cs).any fun x => decide (x = -1)) = endless cs := rfl
section
variable (A : Option Addr) (n c : Nat) (cs : List Int) (w : World) (hx : Ri w w.heap.size A n cs) (hn : n ≤ 1048576) (hc : n ≤ c)
include hx hn hc
set_option maxHeartbeats 2000000 in
theorem fGreatestT (v r : Int) (HR : Hid (greatestS cs = (v, r))) : Calls Try.prog 41 #[.slice A n c] w (RetII w v r) := by
  obtain ⟨q, HQ⟩ : ∃ q, Hid (checkCoins cs = q) := ⟨_, Lib.hid rfl⟩
  have HL := Lib.hid hx.len
  obtain ⟨L, e0, HRS⟩ : ∃ L e0, Hid (restsS cs = (L, e0)) := ⟨_, _, Lib.hid rfl⟩
  by_cases h0 : q = 0
  · subst h0
    have HG : Hid (Good cs) := Lib.hid (checkCoins_good.1 HQ.out)
    have HLE : Hid (restsL cs = L ∧ 0 = e0) := Lib.hid (by have e := HRS.out; unfold restsS at e; rw [if_pos HQ.out] at e; cases e; exact ⟨rfl, rfl⟩)
    obtain rfl : e0 = 0 := HLE.out.2.symm
    obtain ⟨b, HB⟩ : ∃ b, Hid (endless cs = b) := ⟨_, Lib.hid rfl⟩
    have HAN : Hid ((L.any fun x => decide (x = -1)) = b) := Lib.hid (by rw [← HLE.out.1]; exact HB.out)
    obtain ⟨f, HF⟩ : ∃ f, Hid (first cs = f) := ⟨_, Lib.hid rfl⟩
    have hfp := first_pos HG.out
    rw [HF.out] at hfp
    obtain ⟨hf1, hf50, hff⟩ := hfp
    have HLL : Hid (L.length = f) := Lib.hid (by rw [← HLE.out.1, rests_len HG.out, HF.out])
    have HL0 : Hid (nth L 0 = 0) := Lib.hid (by rw [← HLE.out.1]; exact rests_zero HG.out)
    have hn1 : 1 ≤ n := by rw [← HL.out]; exact HG.out.lo
    obtain ⟨ad, h, rfl, hadb, hc0, hh0, _⟩ := hx.at_ (k := 0) (by omega)
    rw [addr_zero] at hc0
    obtain rfl : h = f := by rw [hff]; exact (nth_some hh0.out).symm
    clear hh0
    have HFF : Hid (nth cs 0 = (f : Int)) := Lib.hid hff.symm
    clear hff
    go_enter Try.func41, Try.ntmps41
    go_wp2_with fail
    refine (fRestsT _ _ _ _ _ hx hn hc _ _ HRS).mono ?_
    rintro e w1 ⟨A1, n1, c1, rfl, ho, hb1⟩
    obtain rfl : n1 = f := by rw [← ho.len, HLL.out]
    have hor := ho.ri
    have hcap : n1 ≤ c1 := by
      rcases ho.2 with ⟨h', h2⟩ | ⟨g', cap', cur, h', _, _, h4, _⟩
      · cases h'; simp_all
      · cases h'; exact h4
    have hch : w1.cell? ad = some (.int .i64 n1) := (hb1.cell hadb).trans hc0
    cases b
    · by_cases hf11 : n1 = 1
      · have hq1 : ((n1 : Int) == 1) = true := by simp [hf11]
        have HE : Hid (0 = v ∧ 5 = r) := Lib.hid (by
          have e := HR.out
          rw [great_ok HG.out HB.out, if_pos (by rw [HF.out]; exact hf11)] at e
          cases e
          exact ⟨rfl, rfl⟩)
        clear hf11
        go_wp2_with (go_at_call 72; refine (containsLong _ _ _ _ _ _ _ hor (by omega) _ HAN).mono ?_; rintro e w' ⟨rfl, rfl⟩)
        go_ret2
        exact ⟨ret_ii HE.out.1 HE.out.2, hb1⟩
      · have hq1 : ((n1 : Int) == 1) = false := by simp; omega
        have HE : Hid (maxL L - (n1 : Int) = v ∧ 0 = r) := Lib.hid (by
          have e := HR.out
          rw [great_ok HG.out HB.out, if_neg (by rw [HF.out]; exact hf11), HFF.out, HLE.out.1] at e
          cases e
          exact ⟨rfl, rfl⟩)
        have HMB := Lib.hid (greatest_is HG.out HB.out (by rw [HF.out]; omega)).2
        have HML := Lib.hid (greatest_is HG.out HB.out (by rw [HF.out]; omega)).1.low
        obtain ⟨k, HK⟩ : ∃ k, Hid (n1 = k + 1) := ⟨n1 - 1, Lib.hid (by omega)⟩
        have HBM : Hid (bestM L k = maxL L) := Lib.hid (bestM_max (by rw [HLL.out, HK.out]) HL0.out)
        obtain ⟨M, HM⟩ : ∃ M, Hid (maxL L = M) := ⟨_, Lib.hid rfl⟩
        have hM0 : 0 ≤ M - (n1 : Int) := by have := HML.out; rw [HFF.out, HLE.out.1, HM.out] at this; exact this
        have hM1 : M ≤ 5000 := by have := HMB.out; rw [HLE.out.1, HM.out] at this; exact this
        have hor2 : Ri w1 w1.heap.size A1 (k + 1) L := by rw [← HK.out]; exact hor
        have hbest : ∀ w : World, Ri w w1.heap.size A1 (k + 1) L → Calls Try.prog 73 #[.slice A1 n1 c1, .func (.func 74) #[] #[]] w fun e w' => e = .returned (.int .i64 M) ∧ w = w' := fun w hw => by
          have h := fBest A1 k c1 _ L w hw (by have := HK.out; omega) (by have := HK.out; omega)
          rw [← HK.out, HBM.out, HM.out] at h
          exact h
        have hw1 : IntKind.i64.wrap (M - (n1 : Int)) = M - (n1 : Int) := IntWalk.i64_in _ (by omega)
        have HE2 : Hid (M - (n1 : Int) = v ∧ 0 = r) := Lib.hid (by rw [← HM.out]; exact HE.out)
        clear hf11
        go_wp2_with (go_at_call 72; refine (containsLong _ _ _ _ _ _ _ hor (by omega) _ HAN).mono ?_; rintro e w' ⟨rfl, rfl⟩)
        go_quiet ((go_at_call 73; exact still_in (hbest _ (hor2.drewN _))))
        go_wp2
        go_ret2
        exact ⟨ret_ii HE2.out.1 HE2.out.2, below_drewN hb1 _⟩
    · have HE : Hid (0 = v ∧ 4 = r) := Lib.hid (by
        have e := HR.out
        unfold greatestS at e
        rw [if_pos HQ.out, if_pos HB.out] at e
        cases e
        exact ⟨rfl, rfl⟩)
      go_wp2_with (go_at_call 72; refine (containsLong _ _ _ _ _ _ _ hor (by omega) _ HAN).mono ?_; rintro e w' ⟨rfl, rfl⟩)
      go_ret2
      exact ⟨ret_ii HE.out.1 HE.out.2, hb1⟩
  · have HE : Hid (0 = v ∧ q = r ∧ q = e0) := Lib.hid (by
      have e := HR.out
      have e2 := HRS.out
      unfold greatestS at e
      unfold restsS at e2
      rw [if_neg (by rw [HQ.out]; exact h0), HQ.out] at e e2
      cases e
      cases e2
      exact ⟨rfl, rfl, rfl⟩)
    obtain rfl : q = e0 := HE.out.2.2
    have hq := ne0 h0
    go_enter Try.func41, Try.ntmps41
    go_wp2_with fail
    refine (fRestsT _ _ _ _ _ hx hn hc _ _ HRS).mono ?_
    rintro e w1 ⟨A1, n1, c1, rfl, ho, hb1⟩
    go_wp2
    go_ret2
    exact ⟨ret_ii HE.out.1 HE.out.2.1, hb1⟩
set_option maxHeartbeats 2000000 in
theorem fManyT (v r : Int) (HR : Hid (manyS cs = (v, r))) : Calls Try.prog 43 #[.slice A n c] w (RetII w v r) := by
  obtain ⟨q, HQ⟩ : ∃ q, Hid (checkCoins cs = q) := ⟨_, Lib.hid rfl⟩
  have HL := Lib.hid hx.len
  obtain ⟨L, e0, HRS⟩ : ∃ L e0, Hid (restsS cs = (L, e0)) := ⟨_, _, Lib.hid rfl⟩
  by_cases h0 : q = 0
  · subst h0
    have HG : Hid (Good cs) := Lib.hid (checkCoins_good.1 HQ.out)
    have HLE : Hid (restsL cs = L ∧ 0 = e0) := Lib.hid (by have e := HRS.out; unfold restsS at e; rw [if_pos HQ.out] at e; cases e; exact ⟨rfl, rfl⟩)
    obtain rfl : e0 = 0 := HLE.out.2.symm
    obtain ⟨b, HB⟩ : ∃ b, Hid (endless cs = b) := ⟨_, Lib.hid rfl⟩
    have HAN : Hid ((L.any fun x => decide (x = -1)) = b) := Lib.hid (by rw [← HLE.out.1]; exact HB.out)
    obtain ⟨f, HF⟩ : ∃ f, Hid (first cs = f) := ⟨_, Lib.hid rfl⟩
    have hfp := first_pos HG.out
    rw [HF.out] at hfp
    obtain ⟨hf1, hf50, hff⟩ := hfp
    have HLL : Hid (L.length = f) := Lib.hid (by rw [← HLE.out.1, rests_len HG.out, HF.out])
    have hn1 : 1 ≤ n := by rw [← HL.out]; exact HG.out.lo
    obtain ⟨ad, h, rfl, hadb, hc0, hh0, _⟩ := hx.at_ (k := 0) (by omega)
    rw [addr_zero] at hc0
    have HH : Hid (nth cs 0 = h) := Lib.hid (nth_some hh0.out)
    have hh1 : 1 ≤ h := HG.out.pos h (List.mem_of_getElem? hh0.out)
    clear hh0 hff
    go_enter Try.func43, Try.ntmps43
    go_wp2_with fail
    refine (fRestsT _ _ _ _ _ hx hn hc _ _ HRS).mono ?_
    rintro e w1 ⟨A1, n1, c1, rfl, ho, hb1⟩
    obtain rfl : n1 = f := by rw [← ho.len, HLL.out]
    have hor := ho.ri
    have hch : w1.cell? ad = some (.int .i64 h) := (hb1.cell hadb).trans hc0
    have hhz : (h == 0) = false := by simp; omega
    cases b
    · have HE : Hid (divSum h L = v ∧ 0 = r) := Lib.hid (by
        have e := HR.out
        rw [many_ok HG.out HB.out, HLE.out.1, HH.out] at e
        cases e
        exact ⟨rfl, rfl⟩)
      have HBD : Hid (∀ x ∈ L, 0 ≤ x ∧ x ≤ 5000) := Lib.hid (by rw [← HLE.out.1]; exact rests_all_bd HG.out HB.out)
      go_wp2_with (go_at_call 72; refine (containsLong _ _ _ _ _ _ _ hor (by omega) _ HAN).mono ?_; rintro e w' ⟨rfl, rfl⟩)
      go_loop [6, 23] (fun s i => ∃ k : Nat, k ≤ n1 ∧ i = .int .i64 k ∧ s = .int .i64 (divTo h L k)) (fun _ i => n1 - (intOf i).toNat)
      case atStart => exact ⟨0, Nat.zero_le _, rfl, rfl⟩
      case round =>
        obtain ⟨k, hk, rfl, rfl⟩ := hrel
        by_cases hlt : k < n1
        · obtain ⟨ad3, x, hA, _, hcx, hxk, _⟩ := hor.at_ hlt
          subst hA
          have hxb := HBD.out x (List.mem_of_getElem? hxk.out)
          have b1 := divTo_bd hh1 HBD.out k
          have b2 := divTo_bd hh1 HBD.out (k + 1)
          have HD := Lib.hid (divTo_succ (c := h) hxk.out)
          rw [HD.out] at b2
          obtain ⟨u, HU⟩ : ∃ u, Hid (divTo h L k = u) := ⟨_, Lib.hid rfl⟩
          rw [HU.out] at b1 b2 ⊢
          obtain ⟨t, HT⟩ : ∃ t, Hid (x / h = t) := ⟨_, Lib.hid rfl⟩
          rw [HT.out] at b2
          have ht0 : 0 ≤ t := by rw [← HT.out]; exact Int.ediv_nonneg hxb.1 (by omega)
          have ht1 : t ≤ 5000 := by rw [← HT.out]; exact Int.le_trans (Int.ediv_le_self _ hxb.1) hxb.2
          have hq1 : x / h = t := HT.out
          have hq2 : Int.tdiv x h = t := by rw [Int.tdiv_eq_ediv_of_nonneg hxb.1]; exact hq1
          have hw0 : IntKind.i64.wrap t = t := IntWalk.i64_in _ (by omega)
          have hw1 : IntKind.i64.wrap (u + t) = u + t := IntWalk.i64_in _ (by omega)
          go_wp2
          go_round
          case rel => exact ⟨k + 1, by omega, by go_num, by rw [HD.out, HU.out, HT.out]⟩
          case measure => simp [intOf]; omega
        · have HK : Hid (divTo h L k = v) := Lib.hid (by
            rw [← HE.out.1, divTo, List.take_of_length_le (by rw [HLL.out]; omega)])
          rw [HK.out]
          go_wp2
          go_ret2
          exact ⟨ret_ii rfl HE.out.2, hb1⟩
    · have HE : Hid (0 = v ∧ 4 = r) := Lib.hid (by
        have e := HR.out
        unfold manyS at e
        rw [if_pos HQ.out, if_pos HB.out] at e
        cases e
        exact ⟨rfl, rfl⟩)
      go_wp2_with (go_at_call 72; refine (containsLong _ _ _ _ _ _ _ hor (by omega) _ HAN).mono ?_; rintro e w' ⟨rfl, rfl⟩)
      go_ret2
      exact ⟨ret_ii HE.out.1 HE.out.2, hb1⟩
  · have HE : Hid (0 = v ∧ q = r ∧ q = e0) := Lib.hid (by
      have e := HR.out
      have e2 := HRS.out
      unfold manyS at e
      unfold restsS at e2
      rw [if_neg (by rw [HQ.out]; exact h0), HQ.out] at e e2
      cases e
      cases e2
      exact ⟨rfl, rfl, rfl⟩)
    obtain rfl : q = e0 := HE.out.2.2
    have hq := ne0 h0
    go_enter Try.func43, Try.ntmps43
    go_wp2_with fail
    refine (fRestsT _ _ _ _ _ hx hn hc _ _ HRS).mono ?_
    rintro e w1 ⟨A1, n1, c1, rfl, ho, hb1⟩
    go_wp2
    go_ret2
    exact ⟨ret_ii HE.out.1 HE.out.2.1, hb1⟩
end
end Go.Proofs.Ytloibnmhgocboaa
