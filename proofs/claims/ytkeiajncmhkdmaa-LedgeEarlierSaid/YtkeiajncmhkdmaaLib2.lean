/-
  Plain facts that several laws share.
-/
import Derived.Test.YtkeiajncmhkdmaaLaw2
import Derived.Test.YtkeiajncmhkdmaaFactS
import Derived.Test.YtkeiajncmhkdmaaTot1
namespace Go.Proofs.Ytkeiajncmhkdmaa

theorem valid_perm {p : Int} {l m : List Int} (h : l.Perm m) (hv : Valid p l) : Valid p m := ⟨hv.lo, hv.hi, by rw [← h.length_eq]; exact hv.many, fun d hd => hv.all d (h.mem_iff.2 hd)⟩
theorem valid_drp {b : Nat} (h1 : 1 ≤ b) (h8 : b ≤ 8) (xs : List Int) : Valid (b : Int) (drp (b : Int) xs) := ⟨by omega, by omega, by rw [drp_len]; omega, drp_range (by omega) xs⟩
theorem placed_ex {x : Int} (h0 : 0 ≤ x) : ∃ b : Nat, (b : Int) = 1 + x % 8 ∧ 1 ≤ b ∧ b ≤ 8 := ⟨(1 + x % 8).toNat, by omega, by omega, by omega⟩
/-- The place that is told: the first that proves all. -/
theorem first_over {b : Nat} {ds : List Int} (hv : Valid (b : Int) ds) (h0 : 0 < fellOf (b : Int) ds) : ∃ o : Nat, o < b ∧ firstOver (b : Int) ds (fellOf (b : Int) ds) 9 0 = ((o : Int), 0) ∧ overOf (b : Int) ds o = fellOf (b : Int) ds ∧ ∀ j : Nat, j < o → overOf (b : Int) ds j ≠ fellOf (b : Int) ds := by
  have hex : ∃ q : Nat, q < b ∧ overOf (b : Int) ds q = fellOf (b : Int) ds := over_most ds hv.all h0
  have key : ∀ n : Nat, n ≤ b → (∀ j : Nat, j < n → overOf (b : Int) ds j ≠ fellOf (b : Int) ds) ∨ ∃ o : Nat, o < n ∧ overOf (b : Int) ds o = fellOf (b : Int) ds ∧ ∀ j : Nat, j < o → overOf (b : Int) ds j ≠ fellOf (b : Int) ds := by
    intro n
    induction n with
    | zero => intro _; exact .inl fun j h => by omega
    | succ n ih =>
      intro hn
      rcases ih (by omega) with h | ⟨o, h1, h2, h3⟩
      · by_cases he : overOf (b : Int) ds n = fellOf (b : Int) ds
        · exact .inr ⟨n, by omega, he, h⟩
        · refine .inl fun j hj => ?_
          by_cases e : j = n
          · subst e; exact he
          · exact h j (by omega)
      · exact .inr ⟨o, by omega, h2, h3⟩
  rcases key b (Nat.le_refl _) with h | ⟨o, h1, h2, h3⟩
  · obtain ⟨q, hq, he⟩ := hex
    exact absurd he (h q hq)
  · have h8 := hv.hi
    exact ⟨o, h1, firstOver_at (by omega) h2 9 0 (by omega) (by omega) (fun j _ hj => h3 j hj), h2, h3⟩
end Go.Proofs.Ytkeiajncmhkdmaa
