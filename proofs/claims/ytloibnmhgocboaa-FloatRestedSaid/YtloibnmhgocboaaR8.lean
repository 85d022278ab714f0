/-
  The reference: Rests, Greatest, Many.
-/
import Derived.Test.YtloibnmhgocboaaR7
import Derived.Test.YtloibnmhgocboaaPR
namespace Go.Proofs.Ytloibnmhgocboaa
open Go.RowKit

section
variable (A : Option Addr) (n c : Nat) (cs : List Int) (w : World) (hx : Ri w w.heap.size A n cs) (hn : n ≤ 1048576)
include hx hn
set_option maxHeartbeats 1000000 in
theorem rRestsT (L : List Int) (r : Int) (HR : Hid (restsS cs = (L, r))) : Calls Try.prog 40 #[.slice A n c] w (RetLE w L r) := by
  obtain ⟨q, HQ⟩ : ∃ q, Hid (checkCoins cs = q) := ⟨_, Lib.hid rfl⟩
  by_cases h0 : q = 0
  · subst h0
    have HG : Hid (Good cs) := Lib.hid (checkCoins_good.1 HQ.out)
    have HE : Hid (restsL cs = L ∧ 0 = r) := Lib.hid (by
      have e := HR.out
      unfold restsS at e
      rw [if_pos HQ.out] at e
      cases e
      exact ⟨rfl, rfl⟩)
    go_enter Try.func40, Try.ntmps40
    go_wp2_with fail
    refine (rCheckCoins _ _ _ _ _ _ hx (by omega) _ HQ).mono ?_
    rintro e w1 ⟨rfl, m1, rfl⟩
    go_wp2_with fail
    refine (rRestsOf _ _ _ _ _ (hx.drewN m1) HG).mono ?_
    rintro e w2 ⟨A', c', rfl, ho, hb⟩
    have hb2 := below_d hb
    clear hb
    go_wp2
    go_ret2
    exact ⟨_, _, _, ret_le HE.out.2, by rw [← HE.out.1]; exact ho, hb2⟩
  · have HE : Hid ([] = L ∧ q = r) := Lib.hid (by
      have e := HR.out
      unfold restsS at e
      rw [if_neg (by rw [HQ.out]; exact h0), HQ.out] at e
      cases e
      exact ⟨rfl, rfl⟩)
    have hq := ne0 h0
    go_enter Try.func40, Try.ntmps40
    go_wp2_with fail
    refine (rCheckCoins _ _ _ _ _ _ hx (by omega) _ HQ).mono ?_
    rintro e w1 ⟨rfl, m1, rfl⟩
    go_wp2_with fail
    refine (rCheckCoins _ _ _ _ _ _ (hx.drewN m1) (by omega) _ HQ).mono ?_
    rintro e w1 ⟨rfl, m2, rfl⟩
    go_wp2
    go_ret2
    exact ⟨none, 0, 0, ret_le HE.out.2, by rw [← HE.out.1]; exact Oi.nil_ _ _, below_d0 _ _⟩
set_option maxHeartbeats 1000000 in
theorem rEndless (r : Int) (HR : Hid (endE cs = r)) : Calls Try.prog 75 #[.slice A n c] w (RetI w r) := by
  obtain ⟨q, HQ⟩ : ∃ q, Hid (checkCoins cs = q) := ⟨_, Lib.hid rfl⟩
  by_cases h0 : q = 0
  · subst h0
    have HG : Hid (Good cs) := Lib.hid (checkCoins_good.1 HQ.out)
    have HE : Hid ((if endless cs then (4 : Int) else 0) = r) := Lib.hid (by
      have e := HR.out
      unfold endE at e
      rwa [if_pos HQ.out] at e)
    go_enter Try.func75, Try.ntmps75
    go_wp2_with fail
    refine (rCheckCoins _ _ _ _ _ _ hx (by omega) _ HQ).mono ?_
    rintro e w1 ⟨rfl, m1, rfl⟩
    go_wp2_with fail
    refine (rRestsOf _ _ _ _ _ (hx.drewN m1) HG).mono ?_
    rintro e w2 ⟨A', c', rfl, ho, hb⟩
    have hb2 := below_d hb
    clear hb
    obtain ⟨f, HF⟩ : ∃ f, Hid (first cs = f) := ⟨_, Lib.hid rfl⟩
    rw [HF.out] at ho ⊢
    have hf50 : f ≤ 50 := by rw [← HF.out]; exact (first_pos HG.out).2.1
    have hor := ho.ri
    go_wp2
    go_loop [4] (fun i => ∃ k : Nat, k ≤ f ∧ i = .int .i64 k ∧ Hid (∀ j : Nat, j < k → 0 ≤ nth (restsL cs) j)) (fun i => f - (intOf i).toNat)
    case atStart => exact ⟨0, Nat.zero_le _, rfl, Lib.hid (fun b hb => absurd hb (Nat.not_lt_zero b))⟩
    case round =>
      obtain ⟨k, hk, rfl, hno⟩ := hrel
      by_cases hlt : k < f
      · obtain ⟨ad, x, hA, _, hc, hxk, _⟩ := hor.at_ hlt
        subst hA
        have HXk : Hid (nth (restsL cs) k = x) := Lib.hid (nth_some hxk.out)
        by_cases hx0 : x < 0
        · have HE2 : Hid (4 = r) := Lib.hid (by
            have e := HE.out
            have he : endless cs = true := by
              cases h : endless cs with
              | true => rfl
              | false =>
                have := (endless_iff HG.out).1 h k (by rw [HF.out]; exact hlt)
                rw [HXk.out] at this
                omega
            rwa [he, if_pos rfl] at e)
          go_wp2
          go_ret
          exact ⟨ret_i HE2.out, hb2⟩
        · have HN2 : Hid (∀ j : Nat, j < k + 1 → 0 ≤ nth (restsL cs) j) := Lib.hid (fun j hj => by
            rcases Nat.lt_or_ge j k with h | h
            · exact hno.out j h
            · obtain rfl : j = k := by omega
              rw [HXk.out]
              omega)
          go_wp2
          go_round
          case rel => exact ⟨k + 1, by omega, by go_num, HN2⟩
          case measure => simp [intOf]; omega
      · have HE2 : Hid (0 = r) := Lib.hid (by
          have e := HE.out
          have he : endless cs = false := (endless_iff HG.out).2 fun j hj => hno.out j (by rw [HF.out] at hj; omega)
          rwa [he, if_neg (by decide)] at e)
        go_wp2
        go_ret
        exact ⟨ret_i HE2.out, hb2⟩
  · have HE : Hid (q = r) := Lib.hid (by
      have e := HR.out
      unfold endE at e
      rwa [if_neg (by rw [HQ.out]; exact h0), HQ.out] at e)
    have hq := ne0 h0
    go_enter Try.func75, Try.ntmps75
    go_wp2_with fail
    refine (rCheckCoins _ _ _ _ _ _ hx (by omega) _ HQ).mono ?_
    rintro e w1 ⟨rfl, m1, rfl⟩
    go_wp2_with fail
    refine (rCheckCoins _ _ _ _ _ _ (hx.drewN m1) (by omega) _ HQ).mono ?_
    rintro e w1 ⟨rfl, m2, rfl⟩
    go_wp2
    go_ret
    exact ⟨ret_i HE.out, below_d0 _ _⟩
set_option maxHeartbeats 2000000 in
theorem rManyT (v r : Int) (HR : Hid (manyS cs = (v, r))) : Calls Try.prog 44 #[.slice A n c] w (RetII w v r) := by
  obtain ⟨q, HQ⟩ : ∃ q, Hid (endE cs = q) := ⟨_, Lib.hid rfl⟩
  have HL := Lib.hid hx.len
  by_cases h0 : q = 0
  · subst h0
    have HG : Hid (Good cs) := Lib.hid ((endE_cases cs).1 HQ.out).1
    have HEN : Hid (endless cs = false) := Lib.hid ((endE_cases cs).1 HQ.out).2
    have HE : Hid (divSum (nth cs 0) (restsL cs) = v ∧ 0 = r) := Lib.hid (by
      have e := HR.out
      rw [many_ok HG.out HEN.out] at e
      cases e
      exact ⟨rfl, rfl⟩)
    have hn1 : 1 ≤ n := by rw [← HL.out]; exact HG.out.lo
    obtain ⟨ad, h, rfl, hadb, hc0, hh0, _⟩ := hx.at_ (k := 0) (by omega)
    rw [addr_zero] at hc0
    have HH : Hid (nth cs 0 = h) := Lib.hid (nth_some hh0.out)
    have hh1 : 1 ≤ h := HG.out.pos h (List.mem_of_getElem? hh0.out)
    go_enter Try.func44, Try.ntmps44
    go_wp2_with fail
    refine (rEndless _ _ _ _ _ hx hn _ HQ).mono ?_
    rintro e w1 ⟨rfl, hb1⟩
    have hx1 := hx.next hb1 (Nat.le_refl _) hb1.size
    go_wp2_with fail
    refine (rRestsOf _ _ _ _ _ hx1 HG).mono ?_
    rintro e w2 ⟨A', c', rfl, ho, hb2⟩
    have hb3 := hb1.trans (hb2.mono hb1.size)
    clear hb1 hb2 hx1
    obtain ⟨f, HF⟩ : ∃ f, Hid (first cs = f) := ⟨_, Lib.hid rfl⟩
    rw [HF.out] at ho ⊢
    have hf50 : f ≤ 50 := by rw [← HF.out]; exact (first_pos HG.out).2.1
    have hor := ho.ri
    have hch : w2.cell? ad = some (.int .i64 h) := (hb3.cell hadb).trans hc0
    have hhz : (h == 0) = false := by simp; omega
    go_wp2
    go_loopw [5, 6] (fun s i wr => ∃ k d : Nat, k ≤ f ∧ i = .int .i64 k ∧ s = .int .i64 (divTo h (restsL cs) k) ∧ wr = w2.drewN d) (fun _ i _ => f - (intOf i).toNat)
    case atStart => exact ⟨0, 0, Nat.zero_le _, rfl, rfl, rfl⟩
    case round =>
      obtain ⟨k, d, hk, rfl, rfl, rfl⟩ := hrel
      by_cases hlt : k < f
      · obtain ⟨ad3, x, hA, _, hc, hxk, _⟩ := hor.at_ hlt
        subst hA
        have hxb := rests_all_bd HG.out HEN.out x (List.mem_of_getElem? hxk.out)
        have b1 := divTo_bd hh1 (rests_all_bd HG.out HEN.out) k
        have b2 := divTo_bd hh1 (rests_all_bd HG.out HEN.out) (k + 1)
        have HD := Lib.hid (divTo_succ (c := h) hxk.out)
        rw [HD.out] at b2
        obtain ⟨u, HU⟩ : ∃ u, Hid (divTo h (restsL cs) k = u) := ⟨_, Lib.hid rfl⟩
        rw [HU.out] at b1 b2 ⊢
        obtain ⟨t, HT⟩ : ∃ t, Hid (x / h = t) := ⟨_, Lib.hid rfl⟩
        rw [HT.out] at b2
        have ht0 : 0 ≤ t := by rw [← HT.out]; exact Int.ediv_nonneg hxb.1 (by omega)
        have ht1 : t ≤ 5000 := by rw [← HT.out]; exact Int.le_trans (Int.ediv_le_self _ hxb.1) hxb.2
        have hq1 : x / h = t := HT.out
        have hq2 : Int.tdiv x h = t := by rw [Int.tdiv_eq_ediv_of_nonneg hxb.1]; exact hq1
        have hw0 : IntKind.i64.wrap t = t := IntWalk.i64_in _ (by omega)
        have hw1 : IntKind.i64.wrap (u + t) = u + t := IntWalk.i64_in _ (by omega)
        go_wp2
        go_quiet (fail)
        go_wp2
        go_roundw
        case rel => exact ⟨k + 1, _, by omega, by go_num, by rw [HD.out, HU.out, HT.out], rfl⟩
        case measure => simp [intOf]; omega
      · have HK : Hid (divTo h (restsL cs) k = v) := Lib.hid (by
          rw [← HE.out.1, HH.out, divTo, List.take_of_length_le (by rw [rests_len HG.out, HF.out]; omega)])
        rw [HK.out]
        go_wp2
        go_ret2
        exact ⟨ret_ii rfl HE.out.2, below_drewN hb3 d⟩
  · have HE : Hid (0 = v ∧ q = r) := Lib.hid (by
      have e := HR.out
      rw [((endE_cases cs).2 (by rw [HQ.out]; exact h0)).2, HQ.out] at e
      cases e
      exact ⟨rfl, rfl⟩)
    have hq := ne0 h0
    go_enter Try.func44, Try.ntmps44
    go_wp2_with fail
    refine (rEndless _ _ _ _ _ hx hn _ HQ).mono ?_
    rintro e w1 ⟨rfl, hb1⟩
    have hx1 := hx.next hb1 (Nat.le_refl _) hb1.size
    go_wp2_with fail
    refine (rEndless _ _ _ _ _ hx1 hn _ HQ).mono ?_
    rintro e w2 ⟨rfl, hb2⟩
    have hb3 := hb1.trans (hb2.mono hb1.size)
    go_wp2
    go_ret2
    exact ⟨ret_ii HE.out.1 HE.out.2, hb3⟩
set_option maxHeartbeats 2000000 in
theorem rGreatestT (v r : Int) (HR : Hid (greatestS cs = (v, r))) : Calls Try.prog 42 #[.slice A n c] w (RetII w v r) := by
  obtain ⟨q, HQ⟩ : ∃ q, Hid (endE cs = q) := ⟨_, Lib.hid rfl⟩
  have HL := Lib.hid hx.len
  by_cases h0 : q = 0
  · subst h0
    have HG : Hid (Good cs) := Lib.hid ((endE_cases cs).1 HQ.out).1
    have HEN : Hid (endless cs = false) := Lib.hid ((endE_cases cs).1 HQ.out).2
    have HE : Hid ((if maxD (nth cs 0) (restsL cs) < 0 then ((0 : Int), (5 : Int)) else (maxD (nth cs 0) (restsL cs), 0)) = (v, r)) := Lib.hid (by
      have e := HR.out
      rw [great_ok HG.out HEN.out] at e
      by_cases h1 : first cs = 1
      · rw [if_pos h1] at e
        rw [(maxD_one HG.out h1).1, if_pos (by omega)]
        exact e
      · rw [if_neg h1] at e
        have := maxD_great HG.out HEN.out (by have := (first_pos HG.out).1; omega)
        rw [this.1, if_neg (by omega)]
        exact e)
    have hn1 : 1 ≤ n := by rw [← HL.out]; exact HG.out.lo
    obtain ⟨ad, h, rfl, hadb, hc0, hh0, _⟩ := hx.at_ (k := 0) (by omega)
    rw [addr_zero] at hc0
    have HH : Hid (nth cs 0 = h) := Lib.hid (nth_some hh0.out)
    have hh1 : 1 ≤ h := HG.out.pos h (List.mem_of_getElem? hh0.out)
    have hh50 : h ≤ 50 := (HG.out.all h (List.mem_of_getElem? hh0.out)).2
    go_enter Try.func42, Try.ntmps42
    go_wp2_with fail
    refine (rEndless _ _ _ _ _ hx hn _ HQ).mono ?_
    rintro e w1 ⟨rfl, hb1⟩
    have hx1 := hx.next hb1 (Nat.le_refl _) hb1.size
    go_wp2_with fail
    refine (rRestsOf _ _ _ _ _ hx1 HG).mono ?_
    rintro e w2 ⟨A', c', rfl, ho, hb2⟩
    have hb3 := hb1.trans (hb2.mono hb1.size)
    clear hb1 hb2 hx1
    obtain ⟨f, HF⟩ : ∃ f, Hid (first cs = f) := ⟨_, Lib.hid rfl⟩
    rw [HF.out] at ho ⊢
    have hf50 : f ≤ 50 := by rw [← HF.out]; exact (first_pos HG.out).2.1
    have hor := ho.ri
    have hch : w2.cell? ad = some (.int .i64 h) := (hb3.cell hadb).trans hc0
    go_wp2
    go_loopw [5, 6] (fun s i wr => ∃ (k d : Nat) (z : Int), k ≤ f ∧ i = .int .i64 k ∧ s = .int .i64 z ∧ Hid (maxD h ((restsL cs).take k) = z) ∧ wr = w2.drewN d) (fun _ i _ => f - (intOf i).toNat)
    case atStart => exact ⟨0, 0, -1, Nat.zero_le _, rfl, rfl, Lib.hid rfl, rfl⟩
    case round =>
      obtain ⟨k, d, z, hk, rfl, rfl, HZ, rfl⟩ := hrel
      by_cases hlt : k < f
      · obtain ⟨ad3, x, hA, _, hc, hxk, _⟩ := hor.at_ hlt
        subst hA
        have hxb := rests_all_bd HG.out HEN.out x (List.mem_of_getElem? hxk.out)
        have HS : Hid (maxD h ((restsL cs).take (k + 1)) = if z < x - h then x - h else z) := Lib.hid (by rw [take_snoc hxk.out, maxD_snoc, HZ.out])
        have hw0 : IntKind.i64.wrap (x - h) = x - h := IntWalk.i64_in _ (by omega)
        by_cases hlz : z < x - h
        · have HS2 : Hid (maxD h ((restsL cs).take (k + 1)) = x - h) := Lib.hid (by rw [HS.out, if_pos hlz])
          have hmx : max z (x - h) = x - h := by omega
          go_wp2
          go_quiet (fail)
          go_wp2
          go_roundw
          case rel => exact ⟨k + 1, _, x - h, by omega, by go_num, rfl, HS2, rfl⟩
          case measure => simp [intOf]; omega
        · have HS2 : Hid (maxD h ((restsL cs).take (k + 1)) = z) := Lib.hid (by rw [HS.out, if_neg hlz])
          have hmx : max z (x - h) = z := by omega
          go_wp2
          go_quiet (fail)
          go_wp2
          go_roundw
          case rel => exact ⟨k + 1, _, z, by omega, by go_num, rfl, HS2, rfl⟩
          case measure => simp [intOf]; omega
      · have HK : Hid (maxD (nth cs 0) (restsL cs) = z) := Lib.hid (by
          have h1 := HZ.out
          rwa [List.take_of_length_le (by rw [rests_len HG.out, HF.out]; omega), ← HH.out] at h1)
        by_cases hz0 : z < 0
        · have HV : Hid (0 = v ∧ 5 = r) := Lib.hid (by have e := HE.out; rw [HK.out, if_pos hz0] at e; cases e; exact ⟨rfl, rfl⟩)
          go_wp2
          go_ret2
          exact ⟨ret_ii HV.out.1 HV.out.2, below_drewN hb3 d⟩
        · have HV : Hid (z = v ∧ 0 = r) := Lib.hid (by have e := HE.out; rw [HK.out, if_neg hz0] at e; cases e; exact ⟨rfl, rfl⟩)
          go_wp2
          go_ret2
          exact ⟨ret_ii HV.out.1 HV.out.2, below_drewN hb3 d⟩
  · have HE : Hid (0 = v ∧ q = r) := Lib.hid (by
      have e := HR.out
      rw [((endE_cases cs).2 (by rw [HQ.out]; exact h0)).1, HQ.out] at e
      cases e
      exact ⟨rfl, rfl⟩)
    have hq := ne0 h0
    go_enter Try.func42, Try.ntmps42
    go_wp2_with fail
    refine (rEndless _ _ _ _ _ hx hn _ HQ).mono ?_
    rintro e w1 ⟨rfl, hb1⟩
    have hx1 := hx.next hb1 (Nat.le_refl _) hb1.size
    go_wp2_with fail
    refine (rEndless _ _ _ _ _ hx1 hn _ HQ).mono ?_
    rintro e w2 ⟨rfl, hb2⟩
    have hb3 := hb1.trans (hb2.mono hb1.size)
    go_wp2
    go_ret2
    exact ⟨ret_ii HE.out.1 HE.out.2, hb3⟩
end
end Go.Proofs.Ytloibnmhgocboaa
