/-
  What the chapter's examples come to: plain facts about the coins K, T and E.
-/
import Derived.Test.YtloibnmhgocboaaPL
namespace Go.Proofs.Ytloibnmhgocboaa

theorem good_k : Good [1, 4, 6] := checkCoins_good.1 (by decide +kernel)
theorem good_t : Good [5, 8] := checkCoins_good.1 (by decide +kernel)
theorem good_e : Good [4, 6] := checkCoins_good.1 (by decide +kernel)
/-- Rests, by a check that can be carried out. -/
def restsB (cs L : List Int) : Bool := decide (L.length = first cs) && decide (nth L 0 = 0) && (List.range (first cs)).all fun r => decide (-1 ≤ nth L r) && (decide (nth L r < 0) || (decide ((nth L r).toNat % first cs = r) && decide (0 ≤ few cs (nth L r).toNat) &&
  (List.range cs.length).all fun j => decide (j = 0) || (decide (0 ≤ nth L ((nth L r + nth cs j).toNat % first cs)) && decide (nth L ((nth L r + nth cs j).toNat % first cs) ≤ nth L r + nth cs j))))
theorem restsL_is {cs L : List Int} (hg : Good cs) (h : restsB cs L = true) : restsL cs = L := by
  unfold restsB at h
  simp only [Bool.and_eq_true, decide_eq_true_eq, List.all_eq_true, List.mem_range, Bool.or_eq_true] at h
  obtain ⟨⟨h1, h2⟩, h3⟩ := h
  refine (rests_restsL hg).unique hg (rests_of hg h1 h2 (fun r hr => (h3 r hr).1) (fun r hr h0 => ?_) fun r hr h0 j hj hjl => ?_)
  · rcases (h3 r hr).2 with h | h
    · omega
    · exact h.1
  · rcases (h3 r hr).2 with h | h
    · omega
    · rcases h.2 j hjl with h4 | h4
      · omega
      · exact h4
theorem rests_k : restsL [1, 4, 6] = [0] := restsL_is good_k (by decide +kernel)
theorem rests_t : restsL [5, 8] = [0, 16, 32, 8, 24] := restsL_is good_t (by decide +kernel)
theorem rests_e : restsL [4, 6] = [0, -1, 6, -1] := restsL_is good_e (by decide +kernel)
theorem restsS_t : restsS [5, 8] = ([0, 16, 32, 8, 24], 0) := by unfold restsS; rw [rests_t]; decide +kernel
theorem restsS_e : restsS [4, 6] = ([0, -1, 6, -1], 0) := by unfold restsS; rw [rests_e]; decide +kernel
theorem great_t : greatestS [5, 8] = (27, 0) := by unfold greatestS endless; rw [rests_t]; decide +kernel
theorem great_e : greatestS [4, 6] = (0, 4) := by unfold greatestS endless; rw [rests_e]; decide +kernel
theorem great_k : greatestS [1, 4, 6] = (0, 5) := by unfold greatestS endless; rw [rests_k]; decide +kernel
theorem many_t : manyS [5, 8] = (14, 0) := by unfold manyS endless; rw [rests_t]; decide +kernel
theorem many_e : manyS [4, 6] = (0, 4) := by unfold manyS endless; rw [rests_e]; decide +kernel
theorem many_k : manyS [1, 4, 6] = (0, 0) := by unfold manyS endless; rw [rests_k]; decide +kernel
end Go.Proofs.Ytloibnmhgocboaa
