/-
  The reference: CheckBad, Bad.
-/
import Derived.Test.YtloibnmhgocboaaR5
namespace Go.Proofs.Ytloibnmhgocboaa
open Go.RowKit

section
variable (A : Option Addr) (n c : Nat) (cs : List Int) (w : World) (hx : Ri w w.heap.size A n cs) (hn : n ≤ 1048576)
include hx hn
set_option maxHeartbeats 1000000 in
theorem rCheckBadT (a r : Int) (HR : Hid (checkBadS cs a = r)) : Calls Try.prog 38 #[.slice A n c, .int .i64 a] w (RetI w r) := by
  have HL := Lib.hid hx.len
  obtain ⟨v, e, HFE⟩ : ∃ v e, Hid (fewestS cs a = (v, e)) := ⟨_, _, Lib.hid rfl⟩
  by_cases h0 : e = 0
  · subst h0
    have HB : Hid (badOf cs a = r) := Lib.hid (by
      have h := HR.out
      unfold checkBadS at h
      rwa [if_pos (by rw [HFE.out])] at h)
    have hok : amountE cs a = 0 ∧ few cs a.toNat = v := by
      have h := HFE.out
      unfold fewestS at h
      split at h
      · rename_i h1
        split at h
        · cases h
        · cases h; exact ⟨h1, rfl⟩
      · rename_i h1
        exact absurd (congrArg Prod.snd h) h1
    obtain ⟨hg, ha0, ha1⟩ := amountE_ok.1 hok.1
    have hn5 : n ≤ 5 := by rw [← HL.out]; exact hg.hi
    have HC : Hid (∀ c ∈ cs, 1 ≤ c ∧ c ≤ 50) := Lib.hid hg.all
    have HC0 : Hid (∀ c ∈ cs, 0 ≤ c ∧ c ≤ 50) := Lib.hid (fun c h => by have := hg.all c h; omega)
    have hp := (greedy_facts cs a hg.pos ha0).1
    have HV : Hid (∀ x ∈ (greedyL cs a).1, 0 ≤ x ∧ x ≤ 1000) := Lib.hid (fun x hxm => by
      have := pays_small hg.pos hp x hxm
      have := (greedy_facts cs a hg.pos ha0).2
      omega)
    obtain ⟨g, HG⟩ : ∃ g, Hid ((greedyL cs a).1.sum = g) := ⟨_, Lib.hid rfl⟩
    obtain ⟨s, HS⟩ : ∃ g, Hid ((greedyL cs a).2 = g) := ⟨_, Lib.hid rfl⟩
    have HE : Hid ((if s = 0 ∧ g = v then (16 : Int) else 0) = r) := Lib.hid (by rw [← HS.out, ← HG.out, ← hok.2]; exact HB.out)
    clear hg hok hp
    go_enter Try.func38, Try.ntmps38
    go_wp2_with fail
    refine (rFewestT _ _ _ _ _ _ hx hn _ _ HFE).mono ?_
    rintro e w1 ⟨rfl, hb1⟩
    have hx1 := hx.next hb1 (Nat.le_refl _) hb1.size
    go_wp2_with fail
    refine (rGreedyOf _ _ _ _ _ _ hx1 hn5 ha0 ha1 HC).mono ?_
    rintro e w2 ⟨A', c', rfl, ho, hb2⟩
    have hx2 := hx1.next hb2 (Nat.le_refl _) hb2.size
    have hb3 := hb1.trans (hb2.mono hb1.size)
    clear hb1 hb2
    rw [HS.out]
    go_wp2_with fail
    refine (rSum _ _ _ _ _ _ _ _ _ _ hx2 ho.ri hn5 HC0 HV).mono ?_
    rintro e w3 ⟨rfl, m, rfl⟩
    rw [HG.out]
    have hb4 := below_drewN hb3 m
    by_cases hs : s = 0
    · by_cases hgv : g = v
      · have HE2 : Hid (16 = r) := Lib.hid (by have h := HE.out; rwa [if_pos ⟨hs, hgv⟩] at h)
        have q1 : (s == 0) = true := by simp [hs]
        have q2 : (g == v) = true := by simp [hgv]
        clear hs hgv
        go_wp2
        go_ret
        exact ⟨ret_i HE2.out, hb4⟩
      · have HE2 : Hid (0 = r) := Lib.hid (by have h := HE.out; rwa [if_neg (fun x => hgv x.2)] at h)
        have q1 : (s == 0) = true := by simp [hs]
        have q2 : (g == v) = false := by simp [hgv]
        clear hs hgv
        go_wp2
        go_ret
        exact ⟨ret_i HE2.out, hb4⟩
    · have HE2 : Hid (0 = r) := Lib.hid (by have h := HE.out; rwa [if_neg (fun x => hs x.1)] at h)
      have q1 : (s == 0) = false := by simp [hs]
      clear hs
      go_wp2
      go_ret
      exact ⟨ret_i HE2.out, hb4⟩
  · have HE : Hid (e = r) := Lib.hid (by
      have h := HR.out
      unfold checkBadS at h
      rwa [if_neg (by rw [HFE.out]; exact h0), HFE.out] at h)
    have hq := ne0 h0
    go_enter Try.func38, Try.ntmps38
    go_wp2_with fail
    refine (rFewestT _ _ _ _ _ _ hx hn _ _ HFE).mono ?_
    rintro e w1 ⟨rfl, hb1⟩
    go_wp2
    go_ret
    exact ⟨ret_i HE.out, hb1⟩
set_option maxHeartbeats 1000000 in
theorem rBadT (v r : Int) (HR : Hid (badS cs = (v, r))) : Calls Try.prog 36 #[.slice A n c] w (RetII w v r) := by
  obtain ⟨q, HQ⟩ : ∃ q, Hid (checkCoins cs = q) := ⟨_, Lib.hid rfl⟩
  have HL := Lib.hid hx.len
  by_cases h0 : q = 0
  · subst h0
    have hg := checkCoins_good.1 HQ.out
    have hn1 : 1 ≤ n := by rw [← HL.out]; exact hg.lo
    obtain ⟨ad, h, rfl, hadb, hc0, hh0, _⟩ := hx.at_ (k := 0) (by omega)
    rw [addr_zero] at hc0
    by_cases h1 : h = 1
    · have HE : Hid (badUpTo cs 100 = (v, r)) := Lib.hid (by
        have e := HR.out
        have h2 : nth cs 0 = 1 := by rw [nth_some hh0.out]; exact h1
        unfold badS at e
        rw [if_pos HQ.out, if_neg (by rw [h2]; simp)] at e
        rw [bad_ref hg h2]
        exact e)
      have hzb : (h != 1) = false := by simp [h1]
      clear hg h1
      go_enter Try.func36, Try.ntmps36
      go_wp2_with fail
      refine (rCheckCoins _ _ _ _ _ _ hx (by omega) _ HQ).mono ?_
      rintro e w1 ⟨rfl, m1, rfl⟩
      go_wp2
      go_loopw [4] (fun a wr => ∃ k : Nat, k ≤ 100 ∧ a = .int .i64 k ∧ Below w.heap.size w wr ∧ Hid (∀ j : Nat, j < k → isBad cs j = false)) (fun a _ => 100 - (intOf a).toNat)
      case atStart => exact ⟨0, Nat.zero_le _, rfl, below_d0 _ _, Lib.hid (fun b hb => absurd hb (Nat.not_lt_zero b))⟩
      case round =>
        obtain ⟨k, hk, rfl, hb, HNB⟩ := hrel
        by_cases hlt : k < 100
        · obtain ⟨e, HEK⟩ : ∃ e, Hid (checkBadS cs (k : Int) = e) := ⟨_, Lib.hid rfl⟩
          have hx1 := hx.next hb (Nat.le_refl _) hb.size
          by_cases he : e = 0
          · have hqe : (e == 0) = true := by simp [he]
            have HEV : Hid ((k : Int) = v ∧ 0 = r) := Lib.hid (by
              have hf : firstBad cs 100 = k := firstBad_eq (by unfold isBad; rw [HEK.out, he]; rfl) HNB.out hlt
              have h2 := HE.out
              unfold badUpTo at h2
              rw [hf, if_pos hlt] at h2
              cases h2
              exact ⟨rfl, rfl⟩)
            clear he
            go_wp2_with fail
            refine (rCheckBadT _ _ _ _ _ hx1 hn _ _ HEK).mono ?_
            rintro e w2 ⟨rfl, hb2⟩
            have hb3 := hb.trans (hb2.mono hb.size)
            go_wp2
            go_ret2
            exact ⟨ret_ii HEV.out.1 HEV.out.2, hb3⟩
          · have hqe : (e == 0) = false := by simp [he]
            have HNB2 : Hid (∀ j : Nat, j < k + 1 → isBad cs j = false) := Lib.hid (fun j hj => by
              rcases Nat.lt_or_ge j k with h | h
              · exact HNB.out j h
              · obtain rfl : j = k := by omega
                unfold isBad
                rw [HEK.out]
                exact decide_eq_false he)
            clear he
            go_wp2_with fail
            refine (rCheckBadT _ _ _ _ _ hx1 hn _ _ HEK).mono ?_
            rintro e w2 ⟨rfl, hb2⟩
            have hb3 := hb.trans (hb2.mono hb.size)
            go_wp2
            go_roundw
            case rel => exact ⟨k + 1, by omega, by go_num, hb3, HNB2⟩
            case measure => simp [intOf]; omega
        · have HEV : Hid (0 = v ∧ 5 = r) := Lib.hid (by
            have hf : firstBad cs 100 = 100 := firstBad_none (by rw [show (100 : Nat) = k by omega]; exact HNB.out)
            have h2 := HE.out
            unfold badUpTo at h2
            rw [hf, if_neg (by omega)] at h2
            cases h2
            exact ⟨rfl, rfl⟩)
          go_wp2
          go_ret2
          exact ⟨ret_ii HEV.out.1 HEV.out.2, hb⟩
    · have HE : Hid (0 = v ∧ 2 = r) := Lib.hid (by
        have e := HR.out
        unfold badS at e
        rw [if_pos HQ.out, if_pos (by rw [nth_some hh0.out]; exact h1)] at e
        cases e
        exact ⟨rfl, rfl⟩)
      have hzb : (h != 1) = true := by simp [h1]
      clear hg h1
      go_enter Try.func36, Try.ntmps36
      go_wp2_with fail
      refine (rCheckCoins _ _ _ _ _ _ hx (by omega) _ HQ).mono ?_
      rintro e w1 ⟨rfl, m1, rfl⟩
      go_wp2
      go_ret2
      exact ⟨ret_ii HE.out.1 HE.out.2, below_d0 _ _⟩
  · have HE : Hid (0 = v ∧ q = r) := Lib.hid (by
      have e := HR.out
      unfold badS at e
      rw [if_neg (by rw [HQ.out]; exact h0), HQ.out] at e
      cases e
      exact ⟨rfl, rfl⟩)
    have hq := ne0 h0
    go_enter Try.func36, Try.ntmps36
    go_wp2_with fail
    refine (rCheckCoins _ _ _ _ _ _ hx (by omega) _ HQ).mono ?_
    rintro e w1 ⟨rfl, m1, rfl⟩
    go_wp2_with fail
    refine (rCheckCoins _ _ _ _ _ _ (hx.drewN m1) (by omega) _ HQ).mono ?_
    rintro e w1 ⟨rfl, m2, rfl⟩
    go_wp2
    go_ret2
    exact ⟨ret_ii HE.out.1 HE.out.2, below_d0 _ _⟩
end
end Go.Proofs.Ytloibnmhgocboaa
