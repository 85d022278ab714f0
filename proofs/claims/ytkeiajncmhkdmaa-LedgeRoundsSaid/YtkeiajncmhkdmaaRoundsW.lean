/-
  LedgeRounds: where each copper lies round a wheel, and how far all slide, is what the definition says, or the error: for every number of places and every list of drops; no condition.
-/
import Derived.Test.YtkeiajncmhkdmaaWorks
import Derived.Test.YtkeiajncmhkdmaaRow
namespace Go.Proofs.Ytkeiajncmhkdmaa
open Go.ChangeShapes Go.WideShapes Go.ChangeAt Go.RowKit

theorem wRounds (p : Int) (A : Option Addr) (n c : Nat) (ds : List Int) (w : World) (hx : Ri w w.heap.size A n ds) (hn : n ≤ 9223372036854775807) :
    Calls Try.prog 6 #[.int .i64 p, .slice A n c] w (RetB w true) := by
  by_cases hg : 20 < n
  · have HG : Hid (decide (20 < n) = true) := Lib.hid (decide_eq_true hg)
    go_enter Try.func6, Try.ntmps6
    go_wp2_with (first
      | (go_at_call 17; refine (aGreat _ _ _ _ _ HG).mono ?_; rintro e w' ⟨rfl, rfl⟩)
      | (go_at_call 18; refine (aWorks _).mono ?_; rintro e w1 ⟨rfl, hb⟩))
    go_ret
    exact ⟨rfl, hb⟩
  · have HG : Hid (decide (20 < n) = false) := Lib.hid (decide_eq_false hg)
    have h_d := hx
    obtain ⟨L1, s1, r1, H1⟩ : ∃ L s r, Hid (roundS p ds = (L, s, r)) := ⟨_, _, _, Lib.hid rfl⟩
    go_enter Try.func6, Try.ntmps6
    go_wp2_with fail
    refine (aGreat _ _ _ _ _ HG).mono ?_
    rintro e w' ⟨rfl, rfl⟩
    go_wp2_with fail
    refine (lRoundT p A n c ds _ h_d (by omega) L1 s1 r1 H1).mono ?_
    rintro e w1_ ⟨A1, n1, c1, rfl, ho1, hb1⟩
    have B1 : Below w.heap.size w w1_ := (Below.refl _ _).trans (hb1.mono (Nat.le_refl _))
    have S1 : w.heap.size ≤ w1_.heap.size := B1.size
    replace h_d := Ri.next h_d hb1 (Nat.le_refl _) hb1.size
    have h_a := ho1.ri
    have m_a := ho1.most
    clear ho1
    clear hb1
    go_wp2_with fail
    refine (rRoundT p A n c ds _ h_d (by omega) L1 s1 r1 H1).mono ?_
    rintro e w2_ ⟨A2, n2, c2, rfl, ho2, hb2⟩
    have B2 : Below w.heap.size w w2_ := B1.trans (hb2.mono S1)
    have S2 : w.heap.size ≤ w2_.heap.size := B2.size
    replace h_d := Ri.next h_d hb2 (Nat.le_refl _) hb2.size
    replace h_a := Ri.next h_a hb2 (Nat.le_refl _) hb2.size
    clear B1 S1
    have h_b := ho2.ri
    have m_b := ho2.most
    clear ho2
    clear hb2
    go_wp2_with fail
    refine (aIntsT _ _ _ _ _ _ _ _ L1 L1 _ h_a h_b (by omega) (by omega) true (Lib.hid (decide_eq_true rfl))).mono ?_
    rintro e w3_ ⟨rfl, hb3⟩
    have B3 : Below w.heap.size w w3_ := B2.trans (hb3.mono S2)
    have S3 : w.heap.size ≤ w3_.heap.size := B3.size
    replace h_d := Ri.next h_d hb3 (Nat.le_refl _) hb3.size
    replace h_a := Ri.next h_a hb3 (Nat.le_refl _) hb3.size
    replace h_b := Ri.next h_b hb3 (Nat.le_refl _) hb3.size
    clear B2 S2
    clear hb3
    clear h_a
    clear h_b
    go_wp2_with fail
    refine (aWorks _).mono ?_
    rintro e w4_ ⟨rfl, hb4⟩
    have B4 : Below w.heap.size w w4_ := B3.trans (hb4.mono S3)
    have S4 : w.heap.size ≤ w4_.heap.size := B4.size
    replace h_d := Ri.next h_d hb4 (Nat.le_refl _) hb4.size
    clear B3 S3
    clear hb4
    go_wp2
    go_ret
    exact ⟨rfl, B4⟩

set_option maxRecDepth 100000 in
theorem LedgeRounds_lifted (os : Os) (started : os.Started) (H : Type) (enc : TypeId × Value → H) :
    ReturnsInHanded {} Try.checked os 6 .any (Rows.ledgeRoundsSpec.pre6 enc Try.prog Try.f6 Rows.ledgeRoundsRow.domain false) (Rows.ledgeRoundsSpec.post enc Try.prog Try.f6 false true false false) := by
  refine returnsInHanded_of_change (C := Try.checked) row_own started (by kernel_rfl) Try.func6
    (ChangeSpec.witness6 (enc := enc) (C := Try.checked) false ⟨#[], #[.int .i64 0, .slice none 0 0], []⟩ 8 (by kernel_rfl) (by kernel_rfl) (by kernel_rfl) (by kernel_rfl)) ?_
  intro W base args ds gs before hval0 hW _ _
  have hval : ∀ (j : Nat) t v, Try.f6.params[j]? = some t → args[j]? = some v → Value.okWide Try.prog W .any base t v := hval0
  have hW' := hW
  obtain ⟨p, q, hA0, hV, rfl, _, _⟩ := hW
  have hA : DataW.TrodAll enc Try.prog W 0 (fun _ => true) true Try.f6.params.toList args.toList ds p := hA0
  rw [Try.params6] at hA hval
  obtain ⟨v0, v1, d0, d1, p0, p1, rfl, rfl, rfl, h0, h1⟩ := trodAll_two hA
  obtain ⟨rfl, rfl⟩ := trodVars_none hV
  clear hA0 hval0
  simp only [List.append_nil] at hW'
  have hlt : ∀ x ∈ (p0 ++ p1), x.block < W.heap.size := fun x hx => by simpa using hW'.lt x hx
  have a0 := fun W' (hb : Below W.heap.size W W') => row_stays (t := 3) (by kernel_rfl) (of_decide_eq_true (by kernel_rfl)) h0 (fun x hx => hlt x (by simp [hx])) hb
  have a1 := fun W' (hb : Below W.heap.size W W') => row_stays (t := 22) (by kernel_rfl) (of_decide_eq_true (by kernel_rfl)) h1 (fun x hx => hlt x (by simp [hx])) hb
  obtain ⟨x0, rfl, _, _, wx0⟩ := open_int (P := Try.prog) (k := .i64) (t := 3) (by kernel_rfl) (hval 0 3 v0 rfl rfl) h0
  obtain ⟨A1, n1, c1, xs1, rfl, hc1, hm1, hx1, hw1⟩ := row_ints (t := 22) (e := 3) (k := .i64) (by kernel_rfl) (by kernel_rfl) (by kernel_rfl) (hval 1 22 v1 rfl rfl) h1 (fun x hx => hlt x (by simp [hx]))
  refine (wRounds x0 A1 n1 c1 xs1 W hx1 (by omega)).mono fun e W' ⟨he, hb⟩ => ?_
  subst he
  exact ⟨_, rfl, _, _, _, [], (p0 ++ p1), [], hW', trodAll_mk1 (shut_bool Try.underlying4 true), trodAll_mk2 (a0 _ hb) (a1 _ hb), rfl, hb.frame _, fun h => by cases h⟩
theorem LedgeRounds_holds : Rows.LedgeRoundsSaid :=
  OpenClaim.holds_of_wide 6 Try.f6 rfl rfl rfl rfl rfl rfl rfl ⟨rfl, rfl, rfl, rfl, rfl⟩ rfl rfl rfl rfl rfl (by kernel_rfl) Try.func6 (by kernel_rfl)
    (of_decide_eq_true (by kernel_rfl)) (by unfold Func.isWrapper; first | (rw [if_pos (by decide +kernel)]; kernel_rfl) | (rw [if_neg (by decide +kernel)]; exact ⟨rfl, rfl⟩))
    (fun os started H enc _ => LedgeRounds_lifted os started H enc)
#print axioms LedgeRounds_holds
end Go.Proofs.Ytkeiajncmhkdmaa
