/-
  LedgeOvers: how many coppers a place proves to fall, the first place that proves all, whether none falls, and on which places another one may be dropped, are what the definitions say, or the error: for every number of places, every list of drops and every place; no condition.
-/
import Derived.Test.YtkeiajncmhkdmaaWorks
import Derived.Test.YtkeiajncmhkdmaaRow
namespace Go.Proofs.Ytkeiajncmhkdmaa
open Go.ChangeShapes Go.WideShapes Go.ChangeAt Go.RowKit

theorem wOvers (p : Int) (A : Option Addr) (n c : Nat) (ds : List Int) (q : Int) (w : World) (hx : Ri w w.heap.size A n ds) (hn : n ≤ 9223372036854775807) :
    Calls Try.prog 4 #[.int .i64 p, .slice A n c, .int .i64 q] w (RetB w true) := by
  by_cases hg : 20 < n
  · have HG : Hid (decide (20 < n) = true) := Lib.hid (decide_eq_true hg)
    go_enter Try.func4, Try.ntmps4
    go_wp2_with (first
      | (go_at_call 17; refine (aGreat _ _ _ _ _ HG).mono ?_; rintro e w' ⟨rfl, rfl⟩)
      | (go_at_call 18; refine (aWorks _).mono ?_; rintro e w1 ⟨rfl, hb⟩))
    go_ret
    exact ⟨rfl, hb⟩
  · have HG : Hid (decide (20 < n) = false) := Lib.hid (decide_eq_false hg)
    have h_d := hx
    obtain ⟨m1, r1, H1⟩ : ∃ m r, Hid (overCS p ds q = (m, r)) := ⟨_, _, Lib.hid rfl⟩
    obtain ⟨m2, r2, H2⟩ : ∃ m r, Hid (overS p ds = (m, r)) := ⟨_, _, Lib.hid rfl⟩
    obtain ⟨L3, r3, H3⟩ : ∃ L r, Hid (mayS p ds = (L, r)) := ⟨_, _, Lib.hid rfl⟩
    obtain ⟨r4, H4⟩ : ∃ r, Hid (rowS p ds = r) := ⟨_, Lib.hid rfl⟩
    go_enter Try.func4, Try.ntmps4
    go_wp2_with fail
    refine (aGreat _ _ _ _ _ HG).mono ?_
    rintro e w' ⟨rfl, rfl⟩
    go_wp2_with fail
    refine (lCheckOverT p A n c ds _ h_d (by omega) q m1 r1 H1).mono ?_
    rintro e w1_ ⟨rfl, hb1⟩
    have B1 : Below w.heap.size w w1_ := (Below.refl _ _).trans (hb1.mono (Nat.le_refl _))
    have S1 : w.heap.size ≤ w1_.heap.size := B1.size
    replace h_d := Ri.next h_d hb1 (Nat.le_refl _) hb1.size
    clear hb1
    go_wp2_with fail
    refine (rCheckOverT p A n c ds _ h_d (by omega) q m1 r1 H1).mono ?_
    rintro e w2_ ⟨rfl, hb2⟩
    have B2 : Below w.heap.size w w2_ := B1.trans (hb2.mono S1)
    have S2 : w.heap.size ≤ w2_.heap.size := B2.size
    replace h_d := Ri.next h_d hb2 (Nat.le_refl _) hb2.size
    clear B1 S1
    clear hb2
    go_wp2_with fail
    refine (lOverT p A n c ds _ h_d (by omega)  m2 r2 H2).mono ?_
    rintro e w3_ ⟨rfl, hb3⟩
    have B3 : Below w.heap.size w w3_ := B2.trans (hb3.mono S2)
    have S3 : w.heap.size ≤ w3_.heap.size := B3.size
    replace h_d := Ri.next h_d hb3 (Nat.le_refl _) hb3.size
    clear B2 S2
    clear hb3
    go_wp2_with fail
    refine (rOverT p A n c ds _ h_d (by omega)  m2 r2 H2).mono ?_
    rintro e w4_ ⟨rfl, hb4⟩
    have B4 : Below w.heap.size w w4_ := B3.trans (hb4.mono S3)
    have S4 : w.heap.size ≤ w4_.heap.size := B4.size
    replace h_d := Ri.next h_d hb4 (Nat.le_refl _) hb4.size
    clear B3 S3
    clear hb4
    go_wp2_with fail
    refine (lMayT p A n c ds _ h_d (by omega) L3 r3 H3).mono ?_
    rintro e w5_ ⟨A5, n5, c5, rfl, ho5, hb5⟩
    have B5 : Below w.heap.size w w5_ := B4.trans (hb5.mono S4)
    have S5 : w.heap.size ≤ w5_.heap.size := B5.size
    replace h_d := Ri.next h_d hb5 (Nat.le_refl _) hb5.size
    clear B4 S4
    have h_a := ho5.ri
    have m_a := ho5.most
    clear ho5
    clear hb5
    go_wp2_with fail
    refine (rMayT p A n c ds _ h_d (by omega) L3 r3 H3).mono ?_
    rintro e w6_ ⟨A6, n6, c6, rfl, ho6, hb6⟩
    have B6 : Below w.heap.size w w6_ := B5.trans (hb6.mono S5)
    have S6 : w.heap.size ≤ w6_.heap.size := B6.size
    replace h_d := Ri.next h_d hb6 (Nat.le_refl _) hb6.size
    replace h_a := Ri.next h_a hb6 (Nat.le_refl _) hb6.size
    clear B5 S5
    have h_b := ho6.ri
    have m_b := ho6.most
    clear ho6
    clear hb6
    go_wp2_with fail
    refine (aIntsT _ _ _ _ _ _ _ _ L3 L3 _ h_a h_b (by omega) (by omega) true (Lib.hid (decide_eq_true rfl))).mono ?_
    rintro e w7_ ⟨rfl, hb7⟩
    have B7 : Below w.heap.size w w7_ := B6.trans (hb7.mono S6)
    have S7 : w.heap.size ≤ w7_.heap.size := B7.size
    replace h_d := Ri.next h_d hb7 (Nat.le_refl _) hb7.size
    replace h_a := Ri.next h_a hb7 (Nat.le_refl _) hb7.size
    replace h_b := Ri.next h_b hb7 (Nat.le_refl _) hb7.size
    clear B6 S6
    clear hb7
    clear h_a
    clear h_b
    go_wp2_with fail
    refine (lCheckRowT p A n c ds _ h_d (by omega) r4 H4).mono ?_
    rintro e w8_ ⟨rfl, hb8⟩
    have B8 : Below w.heap.size w w8_ := B7.trans (hb8.mono S7)
    have S8 : w.heap.size ≤ w8_.heap.size := B8.size
    replace h_d := Ri.next h_d hb8 (Nat.le_refl _) hb8.size
    clear B7 S7
    clear hb8
    go_wp2_with fail
    refine (rCheckRowT p A n c ds _ h_d (by omega) r4 H4).mono ?_
    rintro e w9_ ⟨rfl, hb9⟩
    have B9 : Below w.heap.size w w9_ := B8.trans (hb9.mono S8)
    have S9 : w.heap.size ≤ w9_.heap.size := B9.size
    replace h_d := Ri.next h_d hb9 (Nat.le_refl _) hb9.size
    clear B8 S8
    clear hb9
    go_wp2_with fail
    refine (aWorks _).mono ?_
    rintro e w10_ ⟨rfl, hb10⟩
    have B10 : Below w.heap.size w w10_ := B9.trans (hb10.mono S9)
    have S10 : w.heap.size ≤ w10_.heap.size := B10.size
    replace h_d := Ri.next h_d hb10 (Nat.le_refl _) hb10.size
    clear B9 S9
    clear hb10
    go_wp2
    go_ret
    exact ⟨rfl, B10⟩

set_option maxRecDepth 100000 in
theorem LedgeOvers_lifted (os : Os) (started : os.Started) (H : Type) (enc : TypeId × Value → H) :
    ReturnsInHanded {} Try.checked os 4 .any (Rows.ledgeOversSpec.pre6 enc Try.prog Try.f4 Rows.ledgeOversRow.domain false) (Rows.ledgeOversSpec.post enc Try.prog Try.f4 false true false false) := by
  refine returnsInHanded_of_change (C := Try.checked) row_own started (by kernel_rfl) Try.func4
    (ChangeSpec.witness6 (enc := enc) (C := Try.checked) false ⟨#[], #[.int .i64 0, .slice none 0 0, .int .i64 0], []⟩ 8 (by kernel_rfl) (by kernel_rfl) (by kernel_rfl) (by kernel_rfl)) ?_
  intro W base args ds gs before hval0 hW _ _
  have hval : ∀ (j : Nat) t v, Try.f4.params[j]? = some t → args[j]? = some v → Value.okWide Try.prog W .any base t v := hval0
  have hW' := hW
  obtain ⟨p, q, hA0, hV, rfl, _, _⟩ := hW
  have hA : DataW.TrodAll enc Try.prog W 0 (fun _ => true) true Try.f4.params.toList args.toList ds p := hA0
  rw [Try.params4] at hA hval
  obtain ⟨v0, v1, v2, d0, d1, d2, p0, p1, p2, rfl, rfl, rfl, h0, h1, h2⟩ := trodAll_three hA
  obtain ⟨rfl, rfl⟩ := trodVars_none hV
  clear hA0 hval0
  simp only [List.append_nil] at hW'
  have hlt : ∀ x ∈ (p0 ++ p1 ++ p2), x.block < W.heap.size := fun x hx => by simpa using hW'.lt x hx
  have a0 := fun W' (hb : Below W.heap.size W W') => row_stays (t := 3) (by kernel_rfl) (of_decide_eq_true (by kernel_rfl)) h0 (fun x hx => hlt x (by simp [hx])) hb
  have a1 := fun W' (hb : Below W.heap.size W W') => row_stays (t := 22) (by kernel_rfl) (of_decide_eq_true (by kernel_rfl)) h1 (fun x hx => hlt x (by simp [hx])) hb
  have a2 := fun W' (hb : Below W.heap.size W W') => row_stays (t := 3) (by kernel_rfl) (of_decide_eq_true (by kernel_rfl)) h2 (fun x hx => hlt x (by simp [hx])) hb
  obtain ⟨x0, rfl, _, _, wx0⟩ := open_int (P := Try.prog) (k := .i64) (t := 3) (by kernel_rfl) (hval 0 3 v0 rfl rfl) h0
  obtain ⟨A1, n1, c1, xs1, rfl, hc1, hm1, hx1, hw1⟩ := row_ints (t := 22) (e := 3) (k := .i64) (by kernel_rfl) (by kernel_rfl) (by kernel_rfl) (hval 1 22 v1 rfl rfl) h1 (fun x hx => hlt x (by simp [hx]))
  obtain ⟨x2, rfl, _, _, wx2⟩ := open_int (P := Try.prog) (k := .i64) (t := 3) (by kernel_rfl) (hval 2 3 v2 rfl rfl) h2
  refine (wOvers x0 A1 n1 c1 xs1 x2 W hx1 (by omega)).mono fun e W' ⟨he, hb⟩ => ?_
  subst he
  exact ⟨_, rfl, _, _, _, [], (p0 ++ p1 ++ p2), [], hW', trodAll_mk1 (shut_bool Try.underlying4 true), (by simp only [List.append_assoc]; exact trodAll_mk3 (a0 _ hb) (a1 _ hb) (a2 _ hb)), rfl, hb.frame _, fun h => by cases h⟩
theorem LedgeOvers_holds : Rows.LedgeOversSaid :=
  OpenClaim.holds_of_wide 4 Try.f4 rfl rfl rfl rfl rfl rfl rfl ⟨rfl, rfl, rfl, rfl, rfl⟩ rfl rfl rfl rfl rfl (by kernel_rfl) Try.func4 (by kernel_rfl)
    (of_decide_eq_true (by kernel_rfl)) (by unfold Func.isWrapper; first | (rw [if_pos (by decide +kernel)]; kernel_rfl) | (rw [if_neg (by decide +kernel)]; exact ⟨rfl, rfl⟩))
    (fun os started H enc _ => LedgeOvers_lifted os started H enc)
#print axioms LedgeOvers_holds
end Go.Proofs.Ytkeiajncmhkdmaa
