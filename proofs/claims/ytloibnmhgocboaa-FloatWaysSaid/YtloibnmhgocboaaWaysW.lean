/-
  FloatWays: in how many ways an amount can be paid, and by which change a float pays it, are what the definitions say, or the error: for all lists of coins and of stocks, and every amount; no condition.
-/
import Derived.Test.YtloibnmhgocboaaWorks
import Derived.Test.YtloibnmhgocboaaRow
import Derived.Test.YtloibnmhgocboaaR13
import Derived.Test.YtloibnmhgocboaaLw2
namespace Go.Proofs.Ytloibnmhgocboaa
open Go.Shelf Go.ChangeShapes Go.WideShapes Go.ChangeAt Go.RowKit

set_option maxHeartbeats 1000000 in
theorem wWays (A : Option Addr) (n c : Nat) (cs : List Int) (D : Option Addr) (nv cv : Nat) (st : List Int) (a : Int) (w : World) (hx : Ri w w.heap.size A n cs) (hy : Ri w w.heap.size D nv st) (hc : n ≤ c) :
    Calls Try.prog 8 #[.slice A n c, .slice D nv cv, .int .i64 a] w (RetB w true) := by
  by_cases hg : 10 < n
  · have HG : Hid (decide (10 < n) = true) := Lib.hid (decide_eq_true hg)
    go_enter Try.func8, Try.ntmps8
    go_wp2_with (first
      | (go_at_call 18; refine (aGreat _ _ _ _ _ HG).mono ?_; rintro e w' ⟨rfl, rfl⟩)
      | (go_at_call 19; refine (aWorks _).mono ?_; rintro e w1 ⟨rfl, hb⟩))
    go_ret
    exact ⟨rfl, hb⟩
  · have HG : Hid (decide (10 < n) = false) := Lib.hid (decide_eq_false hg)
    by_cases hg2 : 10 < nv
    · have HG2 : Hid (decide (10 < nv) = true) := Lib.hid (decide_eq_true hg2)
      go_enter Try.func8, Try.ntmps8
      go_wp2_with fail
      refine (aGreat _ _ _ _ _ HG).mono ?_
      rintro e w' ⟨rfl, rfl⟩
      go_wp2_with fail
      refine (aGreat _ _ _ _ _ HG2).mono ?_
      rintro e w' ⟨rfl, rfl⟩
      go_wp2_with fail
      refine (aWorks _).mono ?_
      rintro e w1 ⟨rfl, hb⟩
      go_wp2
      go_ret
      exact ⟨rfl, hb⟩
    · have HG2 : Hid (decide (10 < nv) = false) := Lib.hid (decide_eq_false hg2)
      have h_d := hx
      have h_v := hy
      obtain ⟨m, r1, H1⟩ : ∃ m r, Hid (waysS cs a = (m, r)) := ⟨_, _, Lib.hid rfl⟩
      obtain ⟨L, r2, H2⟩ : ∃ m r, Hid (payS cs st a = (m, r)) := ⟨_, _, Lib.hid rfl⟩
      go_enter Try.func8, Try.ntmps8
      go_wp2_with fail
      refine (aGreat _ _ _ _ _ HG).mono ?_
      rintro e w' ⟨rfl, rfl⟩
      go_wp2_with fail
      refine (aGreat _ _ _ _ _ HG2).mono ?_
      rintro e w' ⟨rfl, rfl⟩
      go_wp2_with fail
      refine (fWaysT A n c cs a _ h_d (by omega) hc m r1 H1).mono ?_
      rintro e w1_ ⟨rfl, hb1⟩
      have B1 : Below w.heap.size w w1_ := (Below.refl _ _).trans (hb1.mono (Nat.le_refl _))
      have S1 : w.heap.size ≤ w1_.heap.size := B1.size
      replace h_d := Ri.next h_d hb1 (Nat.le_refl _) hb1.size
      replace h_v := Ri.next h_v hb1 (Nat.le_refl _) hb1.size
      clear hb1
      go_wp2_with fail
      refine (rWaysT A n c cs a _ h_d (by omega) m r1 H1).mono ?_
      rintro e w2_ ⟨rfl, hb2⟩
      have B2 : Below w.heap.size w w2_ := B1.trans (hb2.mono S1)
      have S2 : w.heap.size ≤ w2_.heap.size := B2.size
      replace h_d := Ri.next h_d hb2 (Nat.le_refl _) hb2.size
      replace h_v := Ri.next h_v hb2 (Nat.le_refl _) hb2.size
      clear B1 S1
      clear hb2
      go_wp2_with fail
      refine (fPayT A n c cs D nv cv st a _ h_d h_v (by omega) (by omega) hc L r2 H2).mono ?_
      rintro e w3_ ⟨A3, n3, c3, rfl, ho3, hb3⟩
      have B3 : Below w.heap.size w w3_ := B2.trans (hb3.mono S2)
      have S3 : w.heap.size ≤ w3_.heap.size := B3.size
      replace h_d := Ri.next h_d hb3 (Nat.le_refl _) hb3.size
      replace h_v := Ri.next h_v hb3 (Nat.le_refl _) hb3.size
      clear B2 S2
      have h_x := ho3.ri
      have m_x := ho3.most
      clear ho3
      clear hb3
      go_wp2_with fail
      refine (rPayT A n c cs D nv cv st a _ h_d h_v (by omega) (by omega) L r2 H2).mono ?_
      rintro e w4_ ⟨A4, n4, c4, rfl, ho4, hb4⟩
      have B4 : Below w.heap.size w w4_ := B3.trans (hb4.mono S3)
      have S4 : w.heap.size ≤ w4_.heap.size := B4.size
      replace h_d := Ri.next h_d hb4 (Nat.le_refl _) hb4.size
      replace h_v := Ri.next h_v hb4 (Nat.le_refl _) hb4.size
      replace h_x := Ri.next h_x hb4 (Nat.le_refl _) hb4.size
      clear B3 S3
      have h_y := ho4.ri
      have m_y := ho4.most
      clear ho4
      clear hb4
      go_wp2_with fail
      refine (aLongsT _ _ _ _ _ _ _ _ (L) (L) _ h_x h_y (by omega) (by omega) true (Lib.hid (decide_eq_true rfl))).mono ?_
      rintro e w5_ ⟨rfl, hb5⟩
      have B5 : Below w.heap.size w w5_ := B4.trans (hb5.mono S4)
      have S5 : w.heap.size ≤ w5_.heap.size := B5.size
      replace h_d := Ri.next h_d hb5 (Nat.le_refl _) hb5.size
      replace h_v := Ri.next h_v hb5 (Nat.le_refl _) hb5.size
      replace h_x := Ri.next h_x hb5 (Nat.le_refl _) hb5.size
      replace h_y := Ri.next h_y hb5 (Nat.le_refl _) hb5.size
      clear B4 S4
      clear hb5
      clear h_x
      clear h_y
      go_wp2_with fail
      refine (aWorks _).mono ?_
      rintro e w6_ ⟨rfl, hb6⟩
      have B6 : Below w.heap.size w w6_ := B5.trans (hb6.mono S5)
      have S6 : w.heap.size ≤ w6_.heap.size := B6.size
      replace h_d := Ri.next h_d hb6 (Nat.le_refl _) hb6.size
      replace h_v := Ri.next h_v hb6 (Nat.le_refl _) hb6.size
      clear B5 S5
      clear hb6
      go_wp2
      go_ret
      exact ⟨rfl, B6⟩

set_option maxRecDepth 100000 in
theorem FloatWays_lifted (os : Os) (started : os.Started) (H : Type) (enc : TypeId × Value → H) :
    ReturnsInHanded {} Try.checked os 8 .any (Rows.floatWaysSpec.pre6 enc Try.prog Try.f8 Rows.floatWaysRow.domain false) (Rows.floatWaysSpec.post enc Try.prog Try.f8 false true false false) := by
  refine returnsInHanded_of_change (C := Try.checked) row_own started (by kernel_rfl) Try.func8
    (ChangeSpec.witness6 (enc := enc) (C := Try.checked) false ⟨#[], #[.slice none 0 0, .slice none 0 0, .int .i64 0], []⟩ 8 (by kernel_rfl) (by kernel_rfl) (by kernel_rfl) (by kernel_rfl)) ?_
  intro W base args ds gs before hval0 hW _ _
  have hval : ∀ (j : Nat) t v, Try.f8.params[j]? = some t → args[j]? = some v → Value.okWide Try.prog W .any base t v := hval0
  have hW' := hW
  obtain ⟨p, q, hA0, hV, rfl, _, _⟩ := hW
  have hA : DataW.TrodAll enc Try.prog W 0 (fun _ => true) true Try.f8.params.toList args.toList ds p := hA0
  rw [Try.params8] at hA hval
  obtain ⟨v0, v1, v2, d0, d1, d2, p0, p1, p2, rfl, rfl, rfl, h0, h1, h2⟩ := trodAll_three hA
  obtain ⟨rfl, rfl⟩ := trodVars_none hV
  clear hA0 hval0
  simp only [List.append_nil] at hW'
  have hlt : ∀ x ∈ (p0 ++ p1 ++ p2), x.block < W.heap.size := fun x hx => by simpa using hW'.lt x hx
  have a0 := fun W' (hb : Below W.heap.size W W') => row_stays (t := 22) (by kernel_rfl) (of_decide_eq_true (by kernel_rfl)) h0 (fun x hx => hlt x (by simp [hx])) hb
  have a1 := fun W' (hb : Below W.heap.size W W') => row_stays (t := 22) (by kernel_rfl) (of_decide_eq_true (by kernel_rfl)) h1 (fun x hx => hlt x (by simp [hx])) hb
  have a2 := fun W' (hb : Below W.heap.size W W') => row_stays (t := 2) (by kernel_rfl) (of_decide_eq_true (by kernel_rfl)) h2 (fun x hx => hlt x (by simp [hx])) hb
  obtain ⟨A0, n0, c0, xs0, rfl, hc0, hm0, hx0, hw0⟩ := row_ints (t := 22) (e := 2) (k := .i64) (by kernel_rfl) (by kernel_rfl) (by kernel_rfl) (hval 0 22 v0 rfl rfl) h0 (fun x hx => hlt x (by simp [hx]))
  obtain ⟨A1, n1, c1, xs1, rfl, hc1, hm1, hx1, hw1⟩ := row_ints (t := 22) (e := 2) (k := .i64) (by kernel_rfl) (by kernel_rfl) (by kernel_rfl) (hval 1 22 v1 rfl rfl) h1 (fun x hx => hlt x (by simp [hx]))
  obtain ⟨x2, rfl, _, _, wx2⟩ := open_int (P := Try.prog) (k := .i64) (t := 2) (by kernel_rfl) (hval 2 2 v2 rfl rfl) h2
  refine (wWays A0 n0 c0 xs0 A1 n1 c1 xs1 x2 W hx0 hx1 hc0).mono fun e W' ⟨he, hb⟩ => ?_
  subst he
  exact ⟨_, rfl, _, _, _, [], (p0 ++ p1 ++ p2), [], hW', trodAll_mk1 (shut_bool Try.underlying4 true), (by simp only [List.append_assoc]; exact trodAll_mk3 (a0 _ hb) (a1 _ hb) (a2 _ hb)), rfl, hb.frame _, fun h => by cases h⟩
theorem FloatWays_holds : Rows.FloatWaysSaid :=
  OpenClaim.holds_of_wide 8 Try.f8 rfl rfl rfl rfl rfl rfl rfl ⟨rfl, rfl, rfl, rfl, rfl⟩ rfl rfl rfl rfl rfl (by kernel_rfl) Try.func8 (by kernel_rfl)
    (of_decide_eq_true (by kernel_rfl)) (by unfold Func.isWrapper; first | (rw [if_pos (by decide +kernel)]; kernel_rfl) | (rw [if_neg (by decide +kernel)]; exact ⟨rfl, rfl⟩))
    (fun os started H enc _ => FloatWays_lifted os started H enc)
#print axioms FloatWays_holds
end Go.Proofs.Ytloibnmhgocboaa
