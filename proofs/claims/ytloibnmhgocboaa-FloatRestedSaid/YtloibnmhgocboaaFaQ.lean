/-
  Plain facts for the outright laws: what is taken greedily, and bad amounts; rests.
-/
import Derived.Test.YtloibnmhgocboaaFaP
namespace Go.Proofs.Ytloibnmhgocboaa

theorem greedy_lt {cs : List Int} (hg : Good cs) (a : Int) : (greedyL cs a).2 < nth cs 0 := by
  have h1 := hg.lo
  have h2 := hg.pos
  cases cs with
  | nil => simp at h1
  | cons c cs =>
    have : 1 ≤ c := h2 c (by simp)
    show (greedyL cs a).2 % c < c
    exact Int.emod_lt_of_pos _ (by omega)
theorem greedy_all {cs : List Int} (hg : Good cs) {N : Nat} (hN : N ≤ 300) : greedyS cs (N : Int) = ((greedyL cs N).1, (greedyL cs N).2, 0) ∧ (greedyL cs N).1.length = cs.length ∧ 0 ≤ (greedyL cs N).2 ∧ (greedyL cs N).2 ≤ N ∧ (greedyL cs N).2 < nth cs 0 ∧
    changeCS cs (greedyL cs N).1 = ((N : Int) - (greedyL cs N).2, (greedyL cs N).1.sum, 0) ∧ 0 ≤ (greedyL cs N).1.sum ∧ (greedyL cs N).1.sum ≤ 300 ∧ ((greedyL cs N).2 = 0 → 0 ≤ few cs N ∧ few cs N ≤ (greedyL cs N).1.sum) := by
  obtain ⟨hp, h0, h1⟩ := greedy_facts cs (N : Int) hg.pos (by omega)
  have hb := hp.amount_ge hg.pos
  refine ⟨?_, hp.len, h0, h1, greedy_lt hg _, ?_, hb.1, by omega, fun hr => ?_⟩
  · unfold greedyS
    rw [if_pos (amountE_nat hg hN)]
  · unfold changeCS
    rw [if_pos (checkCoins_good.2 hg), if_neg (by rw [hp.len]; simp), any_out.2 fun x hx => by have := pays_small hg.pos hp x hx; omega, hp.amount]
    rfl
  · rw [hr, Int.sub_zero] at hp
    exact pays_few hg hp
theorem bad_of {cs : List Int} (hg : Good cs) {N : Nat} (hN : N ≤ 300) : checkBadS cs (N : Int) = if few cs N < 0 then 5 else if (greedyL cs N).2 = 0 ∧ (greedyL cs N).1.sum = few cs N then 16 else 0 := by
  unfold checkBadS fewestS
  rw [if_pos (amountE_nat hg hN), Int.toNat_natCast]
  by_cases h : few cs N < 0
  · rw [if_pos h, if_pos h]; rfl
  · rw [if_neg h, if_neg h]
    unfold badOf
    rw [Int.toNat_natCast]
    rfl
theorem bad_facts {cs : List Int} (hg : Good cs) (h1 : nth cs 0 = 1) : (badS cs = (0, 5) ∧ ∀ N : Nat, N ≤ 300 → checkBadS cs (N : Int) ≠ 0) ∨
    (∃ b : Nat, badS cs = ((b : Int), 0) ∧ 3 ≤ cs.length ∧ 1 ≤ b ∧ (b : Int) < nth cs (cs.length - 1) + nth cs (cs.length - 2) ∧ checkBadS cs (b : Int) = 0 ∧ ∀ N : Nat, N ≤ 300 → checkBadS cs (N : Int) = 0 → b ≤ N) := by
  have e0 : badS cs = if cs.length < 3 then (0, 5) else badUpTo cs (topTwo cs) := by
    unfold badS
    rw [if_pos (checkCoins_good.2 hg), if_neg (by rw [h1]; decide)]
  have hbad : ∀ N : Nat, N ≤ 300 → (checkBadS cs (N : Int) = 0 ↔ (greedyL cs N).1.sum ≠ few cs N) := fun N hN => by
    have := one_bad hg h1 hN
    unfold isBad at this
    rw [Bool.eq_iff_iff, decide_eq_true_iff, decide_eq_true_iff] at this
    exact this
  have htt := top_two hg
  by_cases hl : cs.length < 3
  · refine .inl ⟨by rw [e0, if_pos hl], fun N hN h => ?_⟩
    exact (hbad N hN).1 h (bad_few hg h1 hl N)
  · rw [if_neg hl] at e0
    obtain ⟨s1, s2, s3, s4⟩ := firstN_stop (isBad cs) (topTwo cs) 0
    have hnb : ∀ j, j < firstBad cs (topTwo cs) → checkBadS cs (j : Int) ≠ 0 := fun j hj h => by
      have := s4 j (Nat.zero_le _) hj
      unfold isBad at this
      rw [h] at this
      simp at this
    by_cases hf : firstBad cs (topTwo cs) < topTwo cs
    · refine .inr ⟨firstBad cs (topTwo cs), ?_, by omega, ?_, ?_, ?_, fun N hN h => ?_⟩
      · rw [e0]; unfold badUpTo; rw [if_pos hf]
      · rcases Nat.eq_zero_or_pos (firstBad cs (topTwo cs)) with h | h
        · have h3 := s3 (by unfold firstBad at hf; omega)
          have h4 : checkBadS cs ((0 : Nat) : Int) = 0 := by
            have : isBad cs 0 = true := by rw [← h]; exact h3
            simpa [isBad] using this
          have h5 := (hbad 0 (by omega)).1 h4
          exfalso
          apply h5
          have h6 := greedy_all hg (N := 0) (by omega)
          have h7 := (greedy_facts cs 0 hg.pos (by omega)).1
          have h8 : (greedyL cs ((0 : Nat) : Int)).2 = 0 := by have := h6.2.2.1; have := h6.2.2.2.1; omega
          have h9 := h7.amount_ge hg.pos
          have : (greedyL cs (0 : Int)).2 = 0 := h8
          rw [few_zero]
          show (greedyL cs (0 : Int)).1.sum = 0
          omega
        · exact h
      · have hk := hg.pos _ (nth_mem (xs := cs) (k := cs.length - 1) (by omega))
        have hk2 := hg.pos _ (nth_mem (xs := cs) (k := cs.length - 2) (by omega))
        unfold topTwo at hf
        unfold topTwo
        omega
      · have h3 := s3 (by unfold firstBad at hf; omega)
        have : isBad cs (firstBad cs (topTwo cs)) = true := h3
        simpa [isBad] using this
      · rcases Nat.lt_or_ge N (firstBad cs (topTwo cs)) with h3 | h3
        · exact absurd h (hnb N h3)
        · exact h3
    · refine .inl ⟨by rw [e0]; unfold badUpTo; rw [if_neg hf], fun N hN h => ?_⟩
      obtain ⟨b, hb1, _, hb3⟩ := bad_small hg h1 (by omega) ((hbad N hN).1 h)
      have h5 : firstBad cs (topTwo cs) = topTwo cs := by have : firstBad cs (topTwo cs) ≤ topTwo cs := by unfold firstBad; omega
                                                          omega
      exact hnb b (by omega) ((hbad b (by omega)).2 hb3)

/-! ### Rests -/
def maxT (c : Int) (L : List Int) (k : Nat) : Int := maxD c (L.take k)
theorem restsS_ok {cs : List Int} (hg : Good cs) : restsS cs = (restsL cs, 0) := by unfold restsS; rw [if_pos (checkCoins_good.2 hg)]
theorem rests_own {cs : List Int} (hg : Good cs) {k : Nat} (hk : k < first cs) (h0 : 0 ≤ nth (restsL cs) k) : (nth (restsL cs) k) % (first cs : Int) = k := by
  have h1 := ((rests_restsL hg).own k hk h0).1
  obtain ⟨t, ht⟩ : ∃ t : Nat, nth (restsL cs) k = t := ⟨(nth (restsL cs) k).toNat, by omega⟩
  rw [ht] at h1 ⊢
  rw [Int.toNat_natCast] at h1
  exact_mod_cast h1
theorem end_yes {cs : List Int} (hg : Good cs) (he : endless cs = true) : greatestS cs = (0, 4) ∧ manyS cs = (0, 4) := by
  unfold greatestS manyS
  rw [if_pos (checkCoins_good.2 hg), if_pos he, if_pos (checkCoins_good.2 hg), if_pos he]
  exact ⟨rfl, rfl⟩
theorem end_at {cs : List Int} (hg : Good cs) : endless cs = decide (∃ j, j < first cs ∧ nth (restsL cs) j < 0) := by
  have h := endless_iff hg
  cases he : endless cs with
  | false =>
    have h2 := h.1 he
    symm
    refine decide_eq_false ?_
    rintro ⟨j, hj, hj2⟩
    have := h2 j hj
    omega
  | true =>
    symm
    refine decide_eq_true ?_
    apply Classical.byContradiction
    intro hn
    have : endless cs = false := h.2 fun r hr => by
      rcases Int.lt_or_le (nth (restsL cs) r) 0 with h3 | h3
      · exact absurd ⟨r, hr, h3⟩ hn
      · exact h3
    rw [this] at he
    cases he
theorem tdiv_neg1 {f : Nat} (h : 1 ≤ f) : -1 ≤ Int.tdiv (-1) (f : Int) ∧ Int.tdiv (-1) (f : Int) ≤ 0 := by
  rw [Int.neg_tdiv]
  have h1 : Int.tdiv 1 (f : Int) = 1 / (f : Int) := Int.tdiv_eq_ediv_of_nonneg (by omega)
  have h2 : 0 ≤ (1 : Int) / (f : Int) := Int.ediv_nonneg (by omega) (by omega)
  have h3 : (1 : Int) / (f : Int) ≤ 1 := Int.ediv_le_self _ (by omega)
  omega
theorem rest_one {cs L : List Int} (hg : Good cs) (hf : first cs = 1) (hL : restsL cs = L) : maxD ((1 : Nat) : Int) L = -1 ∧ divSum ((1 : Nat) : Int) L = 0 ∧ greatestS cs = (0, 5) ∧ manyS cs = (0, 0) := by
  have hn : nth cs 0 = ((1 : Nat) : Int) := by have := (first_pos hg).2.2; rw [hf] at this; exact this.symm
  have h1 := maxD_one hg hf
  have h0 := rests_zero hg
  rw [hL] at h0 h1
  obtain ⟨x, rfl⟩ : ∃ x, L = [x] := List.length_eq_one_iff.1 h1.2
  have hx : x = 0 := h0
  subst hx
  have he : endless cs = false := (endless_iff hg).2 fun r hr => by
    obtain rfl : r = 0 := by omega
    rw [rests_zero hg]; omega
  refine ⟨by rw [← hn]; exact h1.1, by decide, ?_, ?_⟩
  · rw [great_ok hg he, if_pos hf]
  · rw [many_ok hg he, hL, hn]; rfl
theorem rest_more {cs L : List Int} (hg : Good cs) (he : endless cs = false) {f : Nat} (hf : first cs = f) (hL : restsL cs = L) (h2 : 2 ≤ f) : 0 ≤ maxD (f : Int) L ∧ greatestS cs = (maxD (f : Int) L, 0) ∧ manyS cs = (divSum (f : Int) L, 0) ∧ Great cs (maxD (f : Int) L) := by
  have hn : nth cs 0 = (f : Int) := by have := (first_pos hg).2.2; rw [hf] at this; exact this.symm
  have h1 := maxD_great hg he (by omega)
  have h3 := (greatest_is hg he (by omega)).1
  rw [hL, hn] at h1 h3
  refine ⟨by rw [h1.1]; exact h1.2, ?_, ?_, by rw [h1.1]; exact h3⟩
  · rw [great_ok hg he, if_neg (by omega), hL, hn, h1.1]
  · rw [many_ok hg he, hL, hn]
end Go.Proofs.Ytloibnmhgocboaa
