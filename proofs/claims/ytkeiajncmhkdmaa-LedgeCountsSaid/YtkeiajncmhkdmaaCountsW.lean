/-
  LedgeCounts: how many rows there are, how many leave some places, and in how many each copper lies at its place, are what the definitions say, or the error: for all numbers of places and coppers and all lists; no condition.
-/
import Derived.Test.YtkeiajncmhkdmaaWorks
import Derived.Test.YtkeiajncmhkdmaaRow
namespace Go.Proofs.Ytkeiajncmhkdmaa
open Go.ChangeShapes Go.WideShapes Go.ChangeAt Go.RowKit

theorem wCounts (p k : Int) (A : Option Addr) (n c : Nat) (fs : List Int) (A2 : Option Addr) (n2 c2 : Nat) (ls : List Int) (w : World) (hx : Ri w w.heap.size A n fs) (hx2 : Ri w w.heap.size A2 n2 ls) (hn : n ≤ 9223372036854775807) (hn2 : n2 ≤ 9223372036854775807) (hc2 : n2 ≤ c2) :
    Calls Try.prog 5 #[.int .i64 p, .int .i64 k, .slice A n c, .slice A2 n2 c2] w (RetB w true) := by
  by_cases hg : 20 < n
  · have HG : Hid (decide (20 < n) = true) := Lib.hid (decide_eq_true hg)
    go_enter Try.func5, Try.ntmps5
    go_wp2_with (first
      | (go_at_call 17; refine (aGreat _ _ _ _ _ HG).mono ?_; rintro e w' ⟨rfl, rfl⟩)
      | (go_at_call 18; refine (aWorks _).mono ?_; rintro e w1 ⟨rfl, hb⟩))
    go_ret
    exact ⟨rfl, hb⟩
  · have HG : Hid (decide (20 < n) = false) := Lib.hid (decide_eq_false hg)
    by_cases hg2 : 20 < n2
    · have HG2 : Hid (decide (20 < n2) = true) := Lib.hid (decide_eq_true hg2)
      go_enter Try.func5, Try.ntmps5
      go_wp2_with fail
      refine (aGreat _ _ _ _ _ HG).mono ?_
      rintro e w' ⟨rfl, rfl⟩
      go_wp2_with fail
      refine (aGreat _ _ _ _ _ HG2).mono ?_
      rintro e w' ⟨rfl, rfl⟩
      go_wp2_with (go_at_call 18; refine (aWorks _).mono ?_; rintro e w1 ⟨rfl, hb⟩)
      go_ret
      exact ⟨rfl, hb⟩
    · have HG2 : Hid (decide (20 < n2) = false) := Lib.hid (decide_eq_false hg2)
      have h_f := hx
      have h_l := hx2
      obtain ⟨m1, r1, H1⟩ : ∃ m r, Hid (countS p k = (m, r)) := ⟨_, _, Lib.hid rfl⟩
      obtain ⟨m2, r2, H2⟩ : ∃ m r, Hid (leaveS p fs = (m, r)) := ⟨_, _, Lib.hid rfl⟩
      obtain ⟨m3, r3, H3⟩ : ∃ m r, Hid (waysS p ls = (m, r)) := ⟨_, _, Lib.hid rfl⟩
      go_enter Try.func5, Try.ntmps5
      go_wp2_with fail
      refine (aGreat _ _ _ _ _ HG).mono ?_
      rintro e w' ⟨rfl, rfl⟩
      go_wp2_with fail
      refine (aGreat _ _ _ _ _ HG2).mono ?_
      rintro e w' ⟨rfl, rfl⟩
      go_wp2_with fail
      refine (lCountT p k _ m1 r1 H1).mono ?_
      rintro e w1_ ⟨rfl, hb1⟩
      have B1 : Below w.heap.size w w1_ := (Below.refl _ _).trans (hb1.mono (Nat.le_refl _))
      have S1 : w.heap.size ≤ w1_.heap.size := B1.size
      replace h_f := Ri.next h_f hb1 (Nat.le_refl _) hb1.size
      replace h_l := Ri.next h_l hb1 (Nat.le_refl _) hb1.size
      clear hb1
      go_wp2_with fail
      refine (rCountT p k _ m1 r1 H1).mono ?_
      rintro e w2_ ⟨rfl, hb2⟩
      have B2 : Below w.heap.size w w2_ := B1.trans (hb2.mono S1)
      have S2 : w.heap.size ≤ w2_.heap.size := B2.size
      replace h_f := Ri.next h_f hb2 (Nat.le_refl _) hb2.size
      replace h_l := Ri.next h_l hb2 (Nat.le_refl _) hb2.size
      clear B1 S1
      clear hb2
      go_wp2_with fail
      refine (lLeaveT p A n c fs _ h_f (by omega) m2 r2 H2).mono ?_
      rintro e w3_ ⟨rfl, hb3⟩
      have B3 : Below w.heap.size w w3_ := B2.trans (hb3.mono S2)
      have S3 : w.heap.size ≤ w3_.heap.size := B3.size
      replace h_f := Ri.next h_f hb3 (Nat.le_refl _) hb3.size
      replace h_l := Ri.next h_l hb3 (Nat.le_refl _) hb3.size
      clear B2 S2
      clear hb3
      go_wp2_with fail
      refine (rLeaveT p A n c fs _ h_f (by omega) m2 r2 H2).mono ?_
      rintro e w4_ ⟨rfl, hb4⟩
      have B4 : Below w.heap.size w w4_ := B3.trans (hb4.mono S3)
      have S4 : w.heap.size ≤ w4_.heap.size := B4.size
      replace h_f := Ri.next h_f hb4 (Nat.le_refl _) hb4.size
      replace h_l := Ri.next h_l hb4 (Nat.le_refl _) hb4.size
      clear B3 S3
      clear hb4
      go_wp2_with fail
      refine (lWaysT p A2 n2 c2 ls _ h_l (by omega) hc2 m3 r3 H3).mono ?_
      rintro e w5_ ⟨rfl, hb5⟩
      have B5 : Below w.heap.size w w5_ := B4.trans (hb5.mono S4)
      have S5 : w.heap.size ≤ w5_.heap.size := B5.size
      replace h_f := Ri.next h_f hb5 (Nat.le_refl _) hb5.size
      replace h_l := Ri.next h_l hb5 (Nat.le_refl _) hb5.size
      clear B4 S4
      clear hb5
      go_wp2_with fail
      refine (rWaysT p A2 n2 c2 ls _ h_l (by omega) hc2 m3 r3 H3).mono ?_
      rintro e w6_ ⟨rfl, hb6⟩
      have B6 : Below w.heap.size w w6_ := B5.trans (hb6.mono S5)
      have S6 : w.heap.size ≤ w6_.heap.size := B6.size
      replace h_f := Ri.next h_f hb6 (Nat.le_refl _) hb6.size
      replace h_l := Ri.next h_l hb6 (Nat.le_refl _) hb6.size
      clear B5 S5
      clear hb6
      go_wp2_with fail
      refine (aWorks _).mono ?_
      rintro e w7_ ⟨rfl, hb7⟩
      have B7 : Below w.heap.size w w7_ := B6.trans (hb7.mono S6)
      have S7 : w.heap.size ≤ w7_.heap.size := B7.size
      replace h_f := Ri.next h_f hb7 (Nat.le_refl _) hb7.size
      replace h_l := Ri.next h_l hb7 (Nat.le_refl _) hb7.size
      clear B6 S6
      clear hb7
      go_wp2
      go_ret
      exact ⟨rfl, B7⟩

set_option maxRecDepth 100000 in
theorem LedgeCounts_lifted (os : Os) (started : os.Started) (H : Type) (enc : TypeId × Value → H) :
    ReturnsInHanded {} Try.checked os 5 .any (Rows.ledgeCountsSpec.pre6 enc Try.prog Try.f5 Rows.ledgeCountsRow.domain false) (Rows.ledgeCountsSpec.post enc Try.prog Try.f5 false true false false) := by
  refine returnsInHanded_of_change (C := Try.checked) row_own started (by kernel_rfl) Try.func5
    (ChangeSpec.witness6 (enc := enc) (C := Try.checked) false ⟨#[], #[.int .i64 0, .int .i64 0, .slice none 0 0, .slice none 0 0], []⟩ 8 (by kernel_rfl) (by kernel_rfl) (by kernel_rfl) (by kernel_rfl)) ?_
  intro W base args ds gs before hval0 hW _ _
  have hval : ∀ (j : Nat) t v, Try.f5.params[j]? = some t → args[j]? = some v → Value.okWide Try.prog W .any base t v := hval0
  have hW' := hW
  obtain ⟨p, q, hA0, hV, rfl, _, _⟩ := hW
  have hA : DataW.TrodAll enc Try.prog W 0 (fun _ => true) true Try.f5.params.toList args.toList ds p := hA0
  rw [Try.params5] at hA hval
  obtain ⟨v0, v1, v2, v3, d0, d1, d2, d3, p0, p1, p2, p3, rfl, rfl, rfl, h0, h1, h2, h3⟩ := trodAll_four hA
  obtain ⟨rfl, rfl⟩ := trodVars_none hV
  clear hA0 hval0
  simp only [List.append_nil] at hW'
  have hlt : ∀ x ∈ (p0 ++ p1 ++ p2 ++ p3), x.block < W.heap.size := fun x hx => by simpa using hW'.lt x hx
  have a0 := fun W' (hb : Below W.heap.size W W') => row_stays (t := 3) (by kernel_rfl) (of_decide_eq_true (by kernel_rfl)) h0 (fun x hx => hlt x (by simp [hx])) hb
  have a1 := fun W' (hb : Below W.heap.size W W') => row_stays (t := 3) (by kernel_rfl) (of_decide_eq_true (by kernel_rfl)) h1 (fun x hx => hlt x (by simp [hx])) hb
  have a2 := fun W' (hb : Below W.heap.size W W') => row_stays (t := 22) (by kernel_rfl) (of_decide_eq_true (by kernel_rfl)) h2 (fun x hx => hlt x (by simp [hx])) hb
  have a3 := fun W' (hb : Below W.heap.size W W') => row_stays (t := 22) (by kernel_rfl) (of_decide_eq_true (by kernel_rfl)) h3 (fun x hx => hlt x (by simp [hx])) hb
  obtain ⟨x0, rfl, _, _, wx0⟩ := open_int (P := Try.prog) (k := .i64) (t := 3) (by kernel_rfl) (hval 0 3 v0 rfl rfl) h0
  obtain ⟨x1, rfl, _, _, wx1⟩ := open_int (P := Try.prog) (k := .i64) (t := 3) (by kernel_rfl) (hval 1 3 v1 rfl rfl) h1
  obtain ⟨A2, n2, c2, xs2, rfl, hc2, hm2, hx2, hw2⟩ := row_ints (t := 22) (e := 3) (k := .i64) (by kernel_rfl) (by kernel_rfl) (by kernel_rfl) (hval 2 22 v2 rfl rfl) h2 (fun x hx => hlt x (by simp [hx]))
  obtain ⟨A3, n3, c3, xs3, rfl, hc3, hm3, hx3, hw3⟩ := row_ints (t := 22) (e := 3) (k := .i64) (by kernel_rfl) (by kernel_rfl) (by kernel_rfl) (hval 3 22 v3 rfl rfl) h3 (fun x hx => hlt x (by simp [hx]))
  refine (wCounts x0 x1 A2 n2 c2 xs2 A3 n3 c3 xs3 W hx2 hx3 (by omega) (by omega) hc3).mono fun e W' ⟨he, hb⟩ => ?_
  subst he
  exact ⟨_, rfl, _, _, _, [], (p0 ++ p1 ++ p2 ++ p3), [], hW', trodAll_mk1 (shut_bool Try.underlying4 true), (by simp only [List.append_assoc]; exact trodAll_mk4 (a0 _ hb) (a1 _ hb) (a2 _ hb) (a3 _ hb)), rfl, hb.frame _, fun h => by cases h⟩
theorem LedgeCounts_holds : Rows.LedgeCountsSaid :=
  OpenClaim.holds_of_wide 5 Try.f5 rfl rfl rfl rfl rfl rfl rfl ⟨rfl, rfl, rfl, rfl, rfl⟩ rfl rfl rfl rfl rfl (by kernel_rfl) Try.func5 (by kernel_rfl)
    (of_decide_eq_true (by kernel_rfl)) (by unfold Func.isWrapper; first | (rw [if_pos (by decide +kernel)]; kernel_rfl) | (rw [if_neg (by decide +kernel)]; exact ⟨rfl, rfl⟩))
    (fun os started H enc _ => LedgeCounts_lifted os started H enc)
#print axioms LedgeCounts_holds
end Go.Proofs.Ytkeiajncmhkdmaa
