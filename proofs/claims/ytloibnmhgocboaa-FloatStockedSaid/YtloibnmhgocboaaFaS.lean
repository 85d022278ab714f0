/-
  Plain facts for the law of stocks.
-/
import Derived.Test.YtloibnmhgocboaaFaQ
namespace Go.Proofs.Ytloibnmhgocboaa

section
variable {cs st : List Int} {a : Nat} (hg : Good cs) (hl : st.length = cs.length) (hs : ∀ s ∈ st, 0 ≤ s ∧ s ≤ 20) (ha : a ≤ 300)
include hg hl hs ha
theorem spay_in : payS cs st (a : Int) = bestL cs st (a : Int) := by
  have h : stockE cs st (a : Int) = 0 := by
    unfold stockE
    rw [if_pos (amountE_nat hg ha), if_neg (by omega), any_out.2 hs]
    rfl
  unfold payS
  rw [if_pos h]
theorem spay_none (h0 : gmin cs st (a : Int) < 0) : payS cs st (a : Int) = ([], 5) := by
  rw [spay_in hg hl hs ha, bestL, if_pos h0]
theorem spay_facts (h0 : 0 ≤ gmin cs st (a : Int)) : payS cs st (a : Int) = (chg cs st a (gmin cs st a), 0) ∧ (chg cs st a (gmin cs st a)).length = cs.length ∧ changeCS cs (chg cs st a (gmin cs st a)) = ((a : Int), gmin cs st a, 0) ∧ gmin cs st a ≤ 300 ∧ ∀ i : Nat, nth (chg cs st a (gmin cs st a)) i ≤ nth st i := by
  have hp := chg_pays cs st (a : Int) _ hg.pos (fun s h => (hs s h).1) hl (by omega) rfl h0
  have hle := gmin_le (a := (a : Int)) hg.pos (fun s h => (hs s h).1) hl (by omega)
  refine ⟨by rw [spay_in hg hl hs ha, bestL, if_neg (by omega)], hp.1.len, ?_, by omega, inS_at hp.2⟩
  unfold changeCS
  rw [if_pos (checkCoins_good.2 hg), if_neg (by rw [hp.1.len]; omega), any_out.2 (fun x hx => by have := pays_small hg.pos hp.1 x hx; omega), hp.1.amount, hp.1.many]
  rfl
theorem spay_few (h0 : 0 ≤ gmin cs st (a : Int)) : 0 ≤ few cs a ∧ few cs a ≤ gmin cs st a := by
  have h1 := gmin_mono (a := (a : Int)) hg.pos (fun s h => (hs s h).1) (full_pos cs) hl (le_full hl hs) (by omega) h0
  rwa [gmin_full hg (by omega) (by omega), Int.toNat_natCast] at h1
theorem spay_has {C : List Int} (hC : changeS cs (a : Int) = (C, 0)) (hf : 0 ≤ few cs a) (hb : ∀ i : Nat, i < cs.length → nth C i ≤ nth st i) : gmin cs st (a : Int) = few cs a ∧ chg cs st a (gmin cs st a) = C ∧ C.length = cs.length := by
  have h1 := gmin_full hg (a := (a : Int)) (by omega) (by omega)
  rw [Int.toNat_natCast] at h1
  have h3 : C = chg cs (fullStock cs) a (few cs a) := by
    unfold changeS at hC
    rw [if_pos (amountE_nat hg ha), bestL, if_neg (by omega), h1] at hC
    cases hC
    rfl
  subst h3
  have hlen := chg_len cs (fullStock cs) (a : Int) (few cs a) (full_len cs)
  obtain ⟨h4, h5⟩ := chg_same cs st (fullStock cs) (a : Int) (few cs a) hg.pos (fun s h => (hs s h).1) (full_pos cs) hl (le_full hl hs) (by omega) h1 hf (inS_all _ _ (by rw [hlen, hl]) fun i hi => hb i (by rw [← hlen]; exact hi))
  exact ⟨h4, by rw [h4, h5], hlen⟩
theorem spay_rest (h0 : 0 ≤ gmin cs st (a : Int)) : 0 ≤ dot cs st - a ∧ 0 ≤ st.sum - gmin cs st a ∧ st.sum ≤ 100 ∧ dot cs st ≤ 5000 ∧ 0 ≤ gmin cs st (dot cs st - a) ∧ gmin cs st (dot cs st - a) ≤ st.sum - gmin cs st a := by
  have hp := chg_pays cs st (a : Int) _ hg.pos (fun s h => (hs s h).1) hl (by omega) rfl h0
  obtain ⟨w, hw, hwi⟩ := rest_pays cs st _ _ _ hg.pos hl hp.1 hp.2
  have h1 := hw.amount_ge hg.pos
  have h2 := (gmin_min cs st (dot cs st - a) hg.pos (fun s h => (hs s h).1) hl (by omega)).2.2 w _ hw hwi
  have h3 := sum_le st fun s h => (hs s h).2
  have h4 := dot_le (k := 50) (by omega) cs st hg.all (fun s h => (hs s h).1)
  have h5 := hg.hi
  exact ⟨by omega, h1.1, by omega, by omega, h2.1, h2.2⟩
theorem spay_more (h0 : 0 ≤ gmin cs st (a : Int)) {i : Nat} (hi : nth st i < 20) : (∀ s ∈ st.set i (nth st i + 1), 0 ≤ s ∧ s ≤ 20) ∧ 0 ≤ gmin cs (st.set i (nth st i + 1)) a ∧ gmin cs (st.set i (nth st i + 1)) a ≤ gmin cs st a := by
  have hall : ∀ s ∈ st.set i (nth st i + 1), 0 ≤ s ∧ s ≤ 20 := fun s h => by
    rcases List.mem_or_eq_of_mem_set h with h | h
    · exact hs s h
    · rcases Nat.lt_or_ge i st.length with h1 | h1
      · have := hs _ (nth_mem h1)
        omega
      · rw [nth_out h1] at h
        omega
  exact ⟨hall, gmin_mono (a := (a : Int)) hg.pos (fun s h => (hs s h).1) (fun s h => (hall s h).1) hl le_set (by omega) h0⟩
end
/-- A stock for each of n kinds, told by numbers. -/
def stockL (n : Nat) (bs : List Int) : List Int := (List.range n).map fun i => if bs.length = 0 then 0 else nth bs (i % bs.length) % 21
theorem stockL_len (n : Nat) (bs : List Int) : (stockL n bs).length = n := by simp [stockL]
theorem stockL_succ (n : Nat) (bs : List Int) : stockL (n + 1) bs = stockL n bs ++ [if bs.length = 0 then 0 else nth bs (n % bs.length) % 21] := by simp [stockL, List.range_succ]
theorem stockL_all (n : Nat) (bs : List Int) : ∀ s ∈ stockL n bs, 0 ≤ s ∧ s ≤ 20 := fun s h => by
  unfold stockL at h
  rw [List.mem_map] at h
  obtain ⟨i, _, rfl⟩ := h
  split
  · omega
  · have := Int.emod_nonneg (nth bs (i % bs.length)) (b := 21) (by omega)
    have := Int.emod_lt_of_pos (nth bs (i % bs.length)) (b := 21) (by omega)
    omega
end Go.Proofs.Ytloibnmhgocboaa
