/-
  LedgeDrops: which drops are valid, where each copper lies, how far all slide, which places are full, and how many coppers fall, are what the definitions say, or the error: for every number of places and every list of drops; no condition.
-/
import Derived.Test.YtkeiajncmhkdmaaWorks
import Derived.Test.YtkeiajncmhkdmaaRow
namespace Go.Proofs.Ytkeiajncmhkdmaa
open Go.ChangeShapes Go.WideShapes Go.ChangeAt Go.RowKit

theorem wDrops (p : Int) (A : Option Addr) (n c : Nat) (ds : List Int) (w : World) (hx : Ri w w.heap.size A n ds) (hn : n ≤ 9223372036854775807) :
    Calls Try.prog 3 #[.int .i64 p, .slice A n c] w (RetB w true) := by
  by_cases hg : 20 < n
  · have HG : Hid (decide (20 < n) = true) := Lib.hid (decide_eq_true hg)
    go_enter Try.func3, Try.ntmps3
    go_wp2_with (first
      | (go_at_call 17; refine (aGreat _ _ _ _ _ HG).mono ?_; rintro e w' ⟨rfl, rfl⟩)
      | (go_at_call 18; refine (aWorks _).mono ?_; rintro e w1 ⟨rfl, hb⟩))
    go_ret
    exact ⟨rfl, hb⟩
  · have HG : Hid (decide (20 < n) = false) := Lib.hid (decide_eq_false hg)
    have h_d := hx
    obtain ⟨L1, s1, r1, H1⟩ : ∃ L s r, Hid (lieS p ds = (L, s, r)) := ⟨_, _, _, Lib.hid rfl⟩
    obtain ⟨L2, s2, r2, H2⟩ : ∃ L s r, Hid (fullS p ds = (L, s, r)) := ⟨_, _, _, Lib.hid rfl⟩
    obtain ⟨r3, H3⟩ : ∃ r, Hid (checkDrops p ds = r) := ⟨_, Lib.hid rfl⟩
    go_enter Try.func3, Try.ntmps3
    go_wp2_with fail
    refine (aGreat _ _ _ _ _ HG).mono ?_
    rintro e w' ⟨rfl, rfl⟩
    go_wp2_with fail
    refine (lLieT p A n c ds _ h_d (by omega) L1 s1 r1 H1).mono ?_
    rintro e w1_ ⟨A1, n1, c1, rfl, ho1, hb1⟩
    have B1 : Below w.heap.size w w1_ := (Below.refl _ _).trans (hb1.mono (Nat.le_refl _))
    have S1 : w.heap.size ≤ w1_.heap.size := B1.size
    replace h_d := Ri.next h_d hb1 (Nat.le_refl _) hb1.size
    have h_a := ho1.ri
    have m_a := ho1.most
    clear ho1
    clear hb1
    go_wp2_with fail
    refine (rLieT p A n c ds _ h_d (by omega) L1 s1 r1 H1).mono ?_
    rintro e w2_ ⟨A2, n2, c2, rfl, ho2, hb2⟩
    have B2 : Below w.heap.size w w2_ := B1.trans (hb2.mono S1)
    have S2 : w.heap.size ≤ w2_.heap.size := B2.size
    replace h_d := Ri.next h_d hb2 (Nat.le_refl _) hb2.size
    replace h_a := Ri.next h_a hb2 (Nat.le_refl _) hb2.size
    clear B1 S1
    have h_b := ho2.ri
    have m_b := ho2.most
    clear ho2
    clear hb2
    go_wp2_with fail
    refine (lFullT p A n c ds _ h_d (by omega) L2 s2 r2 H2).mono ?_
    rintro e w3_ ⟨A3, n3, c3, rfl, ho3, hb3⟩
    have B3 : Below w.heap.size w w3_ := B2.trans (hb3.mono S2)
    have S3 : w.heap.size ≤ w3_.heap.size := B3.size
    replace h_d := Ri.next h_d hb3 (Nat.le_refl _) hb3.size
    replace h_a := Ri.next h_a hb3 (Nat.le_refl _) hb3.size
    replace h_b := Ri.next h_b hb3 (Nat.le_refl _) hb3.size
    clear B2 S2
    have h_c_ := ho3.ri
    have m_c_ := ho3.most
    clear ho3
    clear hb3
    go_wp2_with fail
    refine (rFullT p A n c ds _ h_d (by omega) L2 s2 r2 H2).mono ?_
    rintro e w4_ ⟨A4, n4, c4, rfl, ho4, hb4⟩
    have B4 : Below w.heap.size w w4_ := B3.trans (hb4.mono S3)
    have S4 : w.heap.size ≤ w4_.heap.size := B4.size
    replace h_d := Ri.next h_d hb4 (Nat.le_refl _) hb4.size
    replace h_a := Ri.next h_a hb4 (Nat.le_refl _) hb4.size
    replace h_b := Ri.next h_b hb4 (Nat.le_refl _) hb4.size
    replace h_c_ := Ri.next h_c_ hb4 (Nat.le_refl _) hb4.size
    clear B3 S3
    have h_d_ := ho4.ri
    have m_d_ := ho4.most
    clear ho4
    clear hb4
    go_wp2_with fail
    refine (lCheckDropsT p A n c ds _ h_d (by omega) r3 H3).mono ?_
    rintro e w5_ ⟨rfl, hb5⟩
    have B5 : Below w.heap.size w w5_ := B4.trans (hb5.mono S4)
    have S5 : w.heap.size ≤ w5_.heap.size := B5.size
    replace h_d := Ri.next h_d hb5 (Nat.le_refl _) hb5.size
    replace h_a := Ri.next h_a hb5 (Nat.le_refl _) hb5.size
    replace h_b := Ri.next h_b hb5 (Nat.le_refl _) hb5.size
    replace h_c_ := Ri.next h_c_ hb5 (Nat.le_refl _) hb5.size
    replace h_d_ := Ri.next h_d_ hb5 (Nat.le_refl _) hb5.size
    clear B4 S4
    clear hb5
    go_wp2_with fail
    refine (rCheckDropsT p A n c ds _ h_d (by omega) r3 H3).mono ?_
    rintro e w6_ ⟨rfl, hb6⟩
    have B6 : Below w.heap.size w w6_ := B5.trans (hb6.mono S5)
    have S6 : w.heap.size ≤ w6_.heap.size := B6.size
    replace h_d := Ri.next h_d hb6 (Nat.le_refl _) hb6.size
    replace h_a := Ri.next h_a hb6 (Nat.le_refl _) hb6.size
    replace h_b := Ri.next h_b hb6 (Nat.le_refl _) hb6.size
    replace h_c_ := Ri.next h_c_ hb6 (Nat.le_refl _) hb6.size
    replace h_d_ := Ri.next h_d_ hb6 (Nat.le_refl _) hb6.size
    clear B5 S5
    clear hb6
    go_wp2_with fail
    refine (aIntsT _ _ _ _ _ _ _ _ L1 L1 _ h_a h_b (by omega) (by omega) true (Lib.hid (decide_eq_true rfl))).mono ?_
    rintro e w7_ ⟨rfl, hb7⟩
    have B7 : Below w.heap.size w w7_ := B6.trans (hb7.mono S6)
    have S7 : w.heap.size ≤ w7_.heap.size := B7.size
    replace h_d := Ri.next h_d hb7 (Nat.le_refl _) hb7.size
    replace h_a := Ri.next h_a hb7 (Nat.le_refl _) hb7.size
    replace h_b := Ri.next h_b hb7 (Nat.le_refl _) hb7.size
    replace h_c_ := Ri.next h_c_ hb7 (Nat.le_refl _) hb7.size
    replace h_d_ := Ri.next h_d_ hb7 (Nat.le_refl _) hb7.size
    clear B6 S6
    clear hb7
    clear h_a
    clear h_b
    go_wp2_with fail
    refine (aIntsT _ _ _ _ _ _ _ _ L2 L2 _ h_c_ h_d_ (by omega) (by omega) true (Lib.hid (decide_eq_true rfl))).mono ?_
    rintro e w8_ ⟨rfl, hb8⟩
    have B8 : Below w.heap.size w w8_ := B7.trans (hb8.mono S7)
    have S8 : w.heap.size ≤ w8_.heap.size := B8.size
    replace h_d := Ri.next h_d hb8 (Nat.le_refl _) hb8.size
    replace h_c_ := Ri.next h_c_ hb8 (Nat.le_refl _) hb8.size
    replace h_d_ := Ri.next h_d_ hb8 (Nat.le_refl _) hb8.size
    clear B7 S7
    clear hb8
    clear h_c_
    clear h_d_
    go_wp2_with fail
    refine (aWorks _).mono ?_
    rintro e w9_ ⟨rfl, hb9⟩
    have B9 : Below w.heap.size w w9_ := B8.trans (hb9.mono S8)
    have S9 : w.heap.size ≤ w9_.heap.size := B9.size
    replace h_d := Ri.next h_d hb9 (Nat.le_refl _) hb9.size
    clear B8 S8
    clear hb9
    go_wp2
    go_ret
    exact ⟨rfl, B9⟩

set_option maxRecDepth 100000 in
theorem LedgeDrops_lifted (os : Os) (started : os.Started) (H : Type) (enc : TypeId × Value → H) :
    ReturnsInHanded {} Try.checked os 3 .any (Rows.ledgeDropsSpec.pre6 enc Try.prog Try.f3 Rows.ledgeDropsRow.domain false) (Rows.ledgeDropsSpec.post enc Try.prog Try.f3 false true false false) := by
  refine returnsInHanded_of_change (C := Try.checked) row_own started (by kernel_rfl) Try.func3
    (ChangeSpec.witness6 (enc := enc) (C := Try.checked) false ⟨#[], #[.int .i64 0, .slice none 0 0], []⟩ 8 (by kernel_rfl) (by kernel_rfl) (by kernel_rfl) (by kernel_rfl)) ?_
  intro W base args ds gs before hval0 hW _ _
  have hval : ∀ (j : Nat) t v, Try.f3.params[j]? = some t → args[j]? = some v → Value.okWide Try.prog W .any base t v := hval0
  have hW' := hW
  obtain ⟨p, q, hA0, hV, rfl, _, _⟩ := hW
  have hA : DataW.TrodAll enc Try.prog W 0 (fun _ => true) true Try.f3.params.toList args.toList ds p := hA0
  rw [Try.params3] at hA hval
  obtain ⟨v0, v1, d0, d1, p0, p1, rfl, rfl, rfl, h0, h1⟩ := trodAll_two hA
  obtain ⟨rfl, rfl⟩ := trodVars_none hV
  clear hA0 hval0
  simp only [List.append_nil] at hW'
  have hlt : ∀ x ∈ (p0 ++ p1), x.block < W.heap.size := fun x hx => by simpa using hW'.lt x hx
  have a0 := fun W' (hb : Below W.heap.size W W') => row_stays (t := 3) (by kernel_rfl) (of_decide_eq_true (by kernel_rfl)) h0 (fun x hx => hlt x (by simp [hx])) hb
  have a1 := fun W' (hb : Below W.heap.size W W') => row_stays (t := 22) (by kernel_rfl) (of_decide_eq_true (by kernel_rfl)) h1 (fun x hx => hlt x (by simp [hx])) hb
  obtain ⟨x0, rfl, _, _, wx0⟩ := open_int (P := Try.prog) (k := .i64) (t := 3) (by kernel_rfl) (hval 0 3 v0 rfl rfl) h0
  obtain ⟨A1, n1, c1, xs1, rfl, hc1, hm1, hx1, hw1⟩ := row_ints (t := 22) (e := 3) (k := .i64) (by kernel_rfl) (by kernel_rfl) (by kernel_rfl) (hval 1 22 v1 rfl rfl) h1 (fun x hx => hlt x (by simp [hx]))
  refine (wDrops x0 A1 n1 c1 xs1 W hx1 (by omega)).mono fun e W' ⟨he, hb⟩ => ?_
  subst he
  exact ⟨_, rfl, _, _, _, [], (p0 ++ p1), [], hW', trodAll_mk1 (shut_bool Try.underlying4 true), trodAll_mk2 (a0 _ hb) (a1 _ hb), rfl, hb.frame _, fun h => by cases h⟩
theorem LedgeDrops_holds : Rows.LedgeDropsSaid :=
  OpenClaim.holds_of_wide 3 Try.f3 rfl rfl rfl rfl rfl rfl rfl ⟨rfl, rfl, rfl, rfl, rfl⟩ rfl rfl rfl rfl rfl (by kernel_rfl) Try.func3 (by kernel_rfl)
    (of_decide_eq_true (by kernel_rfl)) (by unfold Func.isWrapper; first | (rw [if_pos (by decide +kernel)]; kernel_rfl) | (rw [if_neg (by decide +kernel)]; exact ⟨rfl, rfl⟩))
    (fun os started H enc _ => LedgeDrops_lifted os started H enc)
#print axioms LedgeDrops_holds
end Go.Proofs.Ytkeiajncmhkdmaa
