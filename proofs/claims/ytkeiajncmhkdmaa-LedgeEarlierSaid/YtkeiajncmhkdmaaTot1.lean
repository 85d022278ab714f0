import Derived.Test.YtkeiajncmhkdmaaPost
import Derived.Test.YtkeiajncmhkdmaaTotS
import Derived.Test.YtkeiajncmhkdmaaMay
import Derived.Test.YtkeiajncmhkdmaaL18
import Derived.Test.YtkeiajncmhkdmaaLL
import Derived.Test.YtkeiajncmhkdmaaRef9
import Derived.Test.YtkeiajncmhkdmaaRef12
namespace Go.Proofs.Ytkeiajncmhkdmaa
open Go.RowKit Go.Shelf

theorem natOf {p : Int} (h : 1 ≤ p) : ∃ b : Nat, p = (b : Int) := ⟨p.toNat, by omega⟩
theorem ne0 {r : Int} (h : ¬ r = 0) : (r != 0) = true := by simpa using h
theorem waysR_fun {xs : List Int} {v e : Int} (h : waysR xs v e) : (if freshB xs then (waysIn xs xs.length, (0 : Int)) else (0, 11)) = (v, e) := by
  rcases h with ⟨k, h1, h2, h3, rfl, rfl⟩ | ⟨h1, rfl, rfl⟩
  · rw [if_neg]
    intro hf
    exact (freshB_iff xs).1 hf k h1 h3
  · rw [if_pos ((freshB_iff xs).2 h1)]
section
variable (p : Int) (A : Option Addr) (n c : Nat) (ds : List Int) (w : World) (hx : Ri w w.heap.size A n ds) (hn : n ≤ 1048576)
include hx hn

theorem lCheckDropsT (r : Int) (HR : Hid (checkDrops p ds = r)) : Calls Try.prog 23 #[.int .i64 p, .slice A n c] w (RetI w r) := lCheckDrops p A n c ds w hx (by omega) r HR
theorem rCheckDropsT (r : Int) (HR : Hid (checkDrops p ds = r)) : Calls Try.prog 24 #[.int .i64 p, .slice A n c] w (RetI w r) :=
  (rCheckDrops p A n c _ ds w hx (by omega) r HR).mono fun _ _ ⟨h1, h2⟩ => ⟨h1, h2 ▸ Below.refl _ _⟩
theorem lLieT (L : List Int) (s r : Int) (HR : Hid (lieS p ds = (L, s, r))) : Calls Try.prog 19 #[.int .i64 p, .slice A n c] w (RetLI w L s r) := by
  have h := HR.out
  unfold lieS at h
  by_cases h0 : checkDrops p ds = 0
  · rw [if_pos h0] at h
    cases h
    have hv := checkDrops_valid.1 h0
    obtain ⟨b, rfl⟩ := natOf hv.lo
    exact (lLie b A n c ds w hx hv).mono fun _ _ ⟨A', c', h1, h2⟩ => ⟨A', n, c', h1, h2⟩
  · rw [if_neg h0] at h
    cases h
    exact (lLie_err p A n c ds w hx (by omega) _ (Lib.hid rfl) (ne0 h0)).mono fun _ _ ⟨h1, h2⟩ => ⟨none, 0, 0, h1, Oi.nil_ _ _, h2⟩
theorem rLieT (L : List Int) (s r : Int) (HR : Hid (lieS p ds = (L, s, r))) : Calls Try.prog 20 #[.int .i64 p, .slice A n c] w (RetLI w L s r) := by
  have h := HR.out
  unfold lieS at h
  by_cases h0 : checkDrops p ds = 0
  · rw [if_pos h0] at h
    cases h
    exact (rLie_ok p A n c ds w hx (checkDrops_valid.1 h0)).mono fun _ _ ⟨A', c', h1, h2⟩ => ⟨A', n, c', h1, h2⟩
  · rw [if_neg h0] at h
    cases h
    exact (rLie_err p A n c _ ds w hx (by omega) _ (Lib.hid rfl) (ne0 h0)).mono fun _ _ ⟨h1, h2⟩ => ⟨none, 0, 0, h1, Oi.nil_ _ _, h2 ▸ Below.refl _ _⟩
theorem lFullT (L : List Int) (s r : Int) (HR : Hid (fullS p ds = (L, s, r))) : Calls Try.prog 21 #[.int .i64 p, .slice A n c] w (RetLI w L s r) := by
  have h := HR.out
  unfold fullS at h
  by_cases h0 : checkDrops p ds = 0
  · rw [if_pos h0] at h
    cases h
    have hv := checkDrops_valid.1 h0
    obtain ⟨b, rfl⟩ := natOf hv.lo
    exact lFull b A n c ds w hx hv
  · rw [if_neg h0] at h
    cases h
    exact (lFull_err p A n c ds w hx (by omega) _ (Lib.hid rfl) (ne0 h0)).mono fun _ _ ⟨h1, h2⟩ => ⟨none, 0, 0, h1, Oi.nil_ _ _, h2⟩
theorem rFullT (L : List Int) (s r : Int) (HR : Hid (fullS p ds = (L, s, r))) : Calls Try.prog 22 #[.int .i64 p, .slice A n c] w (RetLI w L s r) := by
  have h := HR.out
  unfold fullS at h
  by_cases h0 : checkDrops p ds = 0
  · rw [if_pos h0] at h
    cases h
    exact rFull_ok p A n c ds w hx (checkDrops_valid.1 h0)
  · rw [if_neg h0] at h
    cases h
    exact (rFull_err p A n c _ ds w hx (by omega) _ (Lib.hid rfl) (ne0 h0)).mono fun _ _ ⟨h1, h2⟩ => ⟨none, 0, 0, h1, Oi.nil_ _ _, h2 ▸ Below.refl _ _⟩
theorem lCheckOverT (q m r : Int) (HR : Hid (overCS p ds q = (m, r))) : Calls Try.prog 26 #[.int .i64 p, .slice A n c, .int .i64 q] w (RetII w m r) := by
  have h := HR.out
  unfold overCS at h
  by_cases h0 : checkDrops p ds = 0
  · rw [if_pos h0] at h
    have hv := checkDrops_valid.1 h0
    by_cases h1 : q < 0 ∨ p ≤ q
    · rw [if_pos h1] at h
      cases h
      exact lCheckOver_arg p q A n c ds w hx hv h1
    · rw [if_neg h1] at h
      cases h
      exact lCheckOver_ok p q A n c ds w hx hv (by omega) (by omega)
  · rw [if_neg h0] at h
    cases h
    exact lCheckOver_err p q A n c ds w hx (by omega) _ (Lib.hid rfl) (ne0 h0)
theorem rCheckOverT (q m r : Int) (HR : Hid (overCS p ds q = (m, r))) : Calls Try.prog 27 #[.int .i64 p, .slice A n c, .int .i64 q] w (RetII w m r) := by
  have h := HR.out
  unfold overCS at h
  by_cases h0 : checkDrops p ds = 0
  · rw [if_pos h0] at h
    have hv := checkDrops_valid.1 h0
    by_cases h1 : q < 0 ∨ p ≤ q
    · rw [if_pos h1] at h
      cases h
      exact (rCheckOver_arg p q A n c ds w hx hv (by omega)).mono fun _ _ ⟨h1, h2⟩ => ⟨h1, h2 ▸ Below.refl _ _⟩
    · rw [if_neg h1] at h
      cases h
      exact (rCheckOver_ok p q A n c ds w hx hv (by omega) (by omega)).mono fun _ _ ⟨h1, h2⟩ => ⟨h1, h2 ▸ Below.refl _ _⟩
  · rw [if_neg h0] at h
    cases h
    exact (rCheckOver_err p q A n c _ ds w hx (by omega) _ (Lib.hid rfl) (ne0 h0)).mono fun _ _ ⟨h1, h2⟩ => ⟨h1, h2 ▸ Below.refl _ _⟩
theorem lOverT (m r : Int) (HR : Hid (overS p ds = (m, r))) : Calls Try.prog 28 #[.int .i64 p, .slice A n c] w (RetII w m r) := by
  have h := HR.out
  unfold overS at h
  by_cases h0 : checkDrops p ds = 0
  · rw [if_pos h0] at h
    have hv := checkDrops_valid.1 h0
    obtain ⟨b, rfl⟩ := natOf hv.lo
    have h2 := lOver b A n c ds w hx hv
    rw [h] at h2
    exact h2
  · rw [if_neg h0] at h
    cases h
    exact lOver_err p A n c ds w hx (by omega) _ (Lib.hid rfl) (ne0 h0)
theorem rOverT (m r : Int) (HR : Hid (overS p ds = (m, r))) : Calls Try.prog 29 #[.int .i64 p, .slice A n c] w (RetII w m r) := by
  have h := HR.out
  unfold overS at h
  by_cases h0 : checkDrops p ds = 0
  · rw [if_pos h0] at h
    have h2 := rOver_ok p A n c ds w hx (checkDrops_valid.1 h0)
    rw [h] at h2
    exact h2
  · rw [if_neg h0] at h
    cases h
    exact (rOver_err p A n c _ ds w hx (by omega) _ (Lib.hid rfl) (ne0 h0)).mono fun _ _ ⟨h1, h2⟩ => ⟨h1, h2 ▸ Below.refl _ _⟩
theorem lCheckRowT (r : Int) (HR : Hid (rowS p ds = r)) : Calls Try.prog 32 #[.int .i64 p, .slice A n c] w (RetI w r) := by
  have h := HR.out
  unfold rowS at h
  by_cases h0 : checkDrops p ds = 0
  · rw [if_pos h0] at h
    have hv := checkDrops_valid.1 h0
    obtain ⟨b, rfl⟩ := natOf hv.lo
    exact lCheckRow_ok b A n c ds w hx hv r (Lib.hid h)
  · rw [if_neg h0] at h
    exact lCheckRow_err p A n c ds w hx (by omega) r (Lib.hid h) (ne0 (by rw [← h]; exact h0))
theorem rCheckRowT (r : Int) (HR : Hid (rowS p ds = r)) : Calls Try.prog 33 #[.int .i64 p, .slice A n c] w (RetI w r) := by
  have h := HR.out
  unfold rowS at h
  by_cases h0 : checkDrops p ds = 0
  · rw [if_pos h0] at h
    exact rCheckRow_ok p A n c ds w hx (checkDrops_valid.1 h0) r (Lib.hid h)
  · rw [if_neg h0] at h
    exact (rCheckRow_err p A n c _ ds w hx (by omega) r (Lib.hid h) (ne0 (by rw [← h]; exact h0))).mono fun _ _ ⟨h1, h2⟩ => ⟨h1, h2 ▸ Below.refl _ _⟩
theorem lMayT (L : List Int) (r : Int) (HR : Hid (mayS p ds = (L, r))) : Calls Try.prog 30 #[.int .i64 p, .slice A n c] w (RetLE w L r) := by
  have h := HR.out
  unfold mayS at h
  by_cases h0 : checkDrops p ds = 0
  · rw [if_pos h0] at h
    have hv := checkDrops_valid.1 h0
    obtain ⟨b, rfl⟩ := natOf hv.lo
    by_cases h1 : 0 < fellOf (b : Int) ds
    · rw [if_pos h1] at h
      cases h
      exact (lMay_fell b A n c ds w hx hv h1).mono fun _ _ ⟨h1, h2⟩ => ⟨none, 0, 0, h1, Oi.nil_ _ _, h2⟩
    · rw [if_neg h1] at h
      cases h
      exact lMay_ok b A n c ds w hx hv (by have := fellOf_nonneg (b := b) ds hv.all; omega)
  · rw [if_neg h0] at h
    cases h
    exact (lMay_err p A n c ds w hx (by omega) _ (Lib.hid rfl) (ne0 h0)).mono fun _ _ ⟨h1, h2⟩ => ⟨none, 0, 0, h1, Oi.nil_ _ _, h2⟩
theorem rMayT (L : List Int) (r : Int) (HR : Hid (mayS p ds = (L, r))) : Calls Try.prog 31 #[.int .i64 p, .slice A n c] w (RetLE w L r) := by
  have h := HR.out
  unfold mayS at h
  by_cases h0 : checkDrops p ds = 0
  · rw [if_pos h0] at h
    have hv := checkDrops_valid.1 h0
    by_cases h1 : 0 < fellOf p ds
    · rw [if_pos h1] at h
      cases h
      exact (rMay_fell p A n c ds w hx hv h1).mono fun _ _ ⟨h1, h2⟩ => ⟨none, 0, 0, h1, Oi.nil_ _ _, h2⟩
    · rw [if_neg h1] at h
      cases h
      obtain ⟨b, rfl⟩ := natOf hv.lo
      exact rMay_ok (b : Int) A n c ds w hx hv (by have := fellOf_nonneg (b := b) ds hv.all; omega)
  · rw [if_neg h0] at h
    cases h
    exact (rMay_err p A n c _ ds w hx (by omega) _ (Lib.hid rfl) (ne0 h0)).mono fun _ _ ⟨h1, h2⟩ => ⟨none, 0, 0, h1, Oi.nil_ _ _, h2 ▸ Below.refl _ _⟩
theorem lRoundT (L : List Int) (s r : Int) (HR : Hid (roundS p ds = (L, s, r))) : Calls Try.prog 40 #[.int .i64 p, .slice A n c] w (RetLI w L s r) := by
  have h := HR.out
  unfold roundS at h
  rw [hx.len] at h
  by_cases h0 : checkDrops p ds = 0
  · rw [if_pos h0] at h
    have hv := checkDrops_valid.1 h0
    by_cases h1 : p < (n : Int)
    · rw [if_pos h1] at h
      cases h
      exact (lRound_many p A n c ds w hx (by omega) (Lib.hid h0) h1).mono fun _ _ ⟨h1, h2⟩ => ⟨none, 0, 0, h1, Oi.nil_ _ _, h2⟩
    · rw [if_neg h1] at h
      cases h
      obtain ⟨b, rfl⟩ := natOf hv.lo
      exact (lRound_ok b A n c ds w hx hv (by omega)).mono fun _ _ ⟨A', h1, h2⟩ => ⟨A', n, n, h1, h2⟩
  · rw [if_neg h0] at h
    cases h
    exact (lRound_err p A n c ds w hx (by omega) _ (Lib.hid rfl) (ne0 h0)).mono fun _ _ ⟨h1, h2⟩ => ⟨none, 0, 0, h1, Oi.nil_ _ _, h2⟩
theorem rRoundT (L : List Int) (s r : Int) (HR : Hid (roundS p ds = (L, s, r))) : Calls Try.prog 41 #[.int .i64 p, .slice A n c] w (RetLI w L s r) := by
  have h := HR.out
  unfold roundS at h
  rw [hx.len] at h
  by_cases h0 : checkDrops p ds = 0
  · rw [if_pos h0] at h
    have hv := checkDrops_valid.1 h0
    by_cases h1 : p < (n : Int)
    · rw [if_pos h1] at h
      cases h
      exact (rRound_many p A n c _ ds w hx (by omega) (Lib.hid h0) h1).mono fun _ _ ⟨h1, h2⟩ => ⟨none, 0, 0, h1, Oi.nil_ _ _, h2 ▸ Below.refl _ _⟩
    · rw [if_neg h1] at h
      cases h
      obtain ⟨b, rfl⟩ := natOf hv.lo
      exact (rRound_ok b A n c ds w hx hv (by omega)).mono fun _ _ ⟨A', c', h1, h2⟩ => ⟨A', n, c', h1, h2⟩
  · rw [if_neg h0] at h
    cases h
    exact (rRound_err p A n c _ ds w hx (by omega) _ (Lib.hid rfl) (ne0 h0)).mono fun _ _ ⟨h1, h2⟩ => ⟨none, 0, 0, h1, Oi.nil_ _ _, h2 ▸ Below.refl _ _⟩
theorem lLeaveT (m r : Int) (HR : Hid (leaveS p ds = (m, r))) : Calls Try.prog 36 #[.int .i64 p, .slice A n c] w (RetII w m r) := by
  have h := HR.out
  unfold leaveS at h
  by_cases h0 : p < 1 ∨ 8 < p
  · rw [if_pos h0] at h
    cases h
    exact lLeave_many p A n c w h0
  · rw [if_neg h0] at h
    obtain ⟨b, rfl⟩ := natOf (p := p) (by omega)
    have h2 := lLeave_ok b A n c ds w hx hn (by omega) (by omega)
    rw [show leaveR b ds = (m, r) from h] at h2
    exact h2
theorem rLeaveT (m r : Int) (HR : Hid (leaveS p ds = (m, r))) : Calls Try.prog 37 #[.int .i64 p, .slice A n c] w (RetII w m r) := by
  have h := HR.out
  unfold leaveS at h
  by_cases h0 : p < 1 ∨ 8 < p
  · rw [if_pos h0] at h
    cases h
    exact (rLeave_many p A n c w h0).mono fun _ _ ⟨h1, h2⟩ => ⟨h1, h2 ▸ Below.refl _ _⟩
  · rw [if_neg h0] at h
    obtain ⟨b, rfl⟩ := natOf (p := p) (by omega)
    have h2 := rLeave_ok b A n c ds w (by omega) (by omega) hx hn
    rw [show leaveR b ds = (m, r) from h] at h2
    exact h2
theorem lWaysT (hnc : n ≤ c) (m r : Int) (HR : Hid (waysS p ds = (m, r))) : Calls Try.prog 38 #[.int .i64 p, .slice A n c] w (RetII w m r) := by
  have h := HR.out
  unfold waysS at h
  by_cases h0 : p < 1 ∨ 8 < p
  · rw [if_pos h0] at h
    cases h
    exact lWays_many p A n c w h0
  · rw [if_neg h0] at h
    obtain ⟨b, rfl⟩ := natOf (p := p) (by omega)
    cases h1 : ds.any (outP (b : Int))
    · rw [h1, if_neg (by decide)] at h
      refine (lWays_ok b A n c ds w hx hn hnc (by omega) (by omega) (Lib.hid h1)).mono ?_
      rintro e w' ⟨v, r', h2, h3, h4⟩
      have h5 := (waysR_fun h3).symm.trans h
      cases h5
      exact ⟨h2, h4⟩
    · rw [h1, if_pos rfl] at h
      cases h
      exact lWays_range b A n c ds w hx (by omega) (by omega) (by omega) (Lib.hid h1)
theorem rWaysT (hnc : n ≤ c) (m r : Int) (HR : Hid (waysS p ds = (m, r))) : Calls Try.prog 39 #[.int .i64 p, .slice A n c] w (RetII w m r) := by
  have h := HR.out
  unfold waysS at h
  by_cases h0 : p < 1 ∨ 8 < p
  · rw [if_pos h0] at h
    cases h
    exact (rWays_many p A n c w h0).mono fun _ _ ⟨h1, h2⟩ => ⟨h1, h2 ▸ Below.refl _ _⟩
  · rw [if_neg h0] at h
    obtain ⟨b, rfl⟩ := natOf (p := p) (by omega)
    cases h1 : ds.any (outP (b : Int))
    · rw [h1, if_neg (by decide)] at h
      refine (rWays_ok b A n c _ ds w hx hn hnc (by omega) (by omega) (Lib.hid h1)).mono ?_
      rintro e w' ⟨v, r', h2, h3, d, h4⟩
      have h5 := (waysR_fun h3).symm.trans h
      cases h5
      exact ⟨h2, h4 ▸ below_drewN (Below.refl _ _) _⟩
    · rw [h1, if_pos rfl] at h
      cases h
      exact (rWays_range b A n c _ ds w hx (by omega) (by omega) (by omega) (Lib.hid h1)).mono fun _ _ ⟨h1, h2⟩ => ⟨h1, h2 ▸ Below.refl _ _⟩
end
theorem lCountT (p k : Int) (w : World) (m r : Int) (HR : Hid (countS p k = (m, r))) : Calls Try.prog 34 #[.int .i64 p, .int .i64 k] w (RetII w m r) := by
  have h := HR.out
  unfold countS at h
  by_cases h0 : p < 1 ∨ 8 < p
  · rw [if_pos h0] at h
    cases h
    exact lCount_many p k w h0
  · rw [if_neg h0] at h
    obtain ⟨b, rfl⟩ := natOf (p := p) (by omega)
    by_cases h1 : k < 0 ∨ 12 < k
    · rw [if_pos h1] at h
      cases h
      exact lCount_range b k w (by omega) (by omega) h1
    · rw [if_neg h1] at h
      obtain ⟨j, rfl⟩ : ∃ j : Nat, k = j := ⟨k.toNat, by omega⟩
      have h2 := lCount_ok b j w (by omega) (by omega) (by omega)
      rw [show countP (b : Int) (j : Int) = countIn (j : Int) (2 ^ b) from count_closed (by omega) (by omega) (by omega)] at h2
      cases h
      exact h2
theorem rCountT (p k : Int) (w : World) (m r : Int) (HR : Hid (countS p k = (m, r))) : Calls Try.prog 35 #[.int .i64 p, .int .i64 k] w (RetII w m r) := by
  have h := HR.out
  unfold countS at h
  by_cases h0 : p < 1 ∨ 8 < p
  · rw [if_pos h0] at h
    cases h
    exact (rCount_many p k w h0).mono fun _ _ ⟨h1, h2⟩ => ⟨h1, h2 ▸ Below.refl _ _⟩
  · rw [if_neg h0] at h
    obtain ⟨b, rfl⟩ := natOf (p := p) (by omega)
    by_cases h1 : k < 0 ∨ 12 < k
    · rw [if_pos h1] at h
      cases h
      exact (rCount_range (b : Int) k w h0 (by omega)).mono fun _ _ ⟨h1, h2⟩ => ⟨h1, h2 ▸ Below.refl _ _⟩
    · rw [if_neg h1] at h
      cases h
      exact rCount_ok b k w (by omega) (by omega) (by omega) (by omega)
end Go.Proofs.Ytkeiajncmhkdmaa
