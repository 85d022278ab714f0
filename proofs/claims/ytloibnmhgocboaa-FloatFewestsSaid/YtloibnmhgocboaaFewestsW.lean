/-
  FloatFewests: the fewest coins of an amount, the best change, and what is taken greedily, are what the definitions say, or the error: for every list of coins and every amount; no condition.
-/
import Derived.Test.YtloibnmhgocboaaWorks
import Derived.Test.YtloibnmhgocboaaRow
import Derived.Test.YtloibnmhgocboaaR1
import Derived.Test.YtloibnmhgocboaaR2
import Derived.Test.YtloibnmhgocboaaR3
import Derived.Test.YtloibnmhgocboaaR4
import Derived.Test.YtloibnmhgocboaaR5
import Derived.Test.YtloibnmhgocboaaR6
import Derived.Test.YtloibnmhgocboaaR7
import Derived.Test.YtloibnmhgocboaaR8
import Derived.Test.YtloibnmhgocboaaR9
namespace Go.Proofs.Ytloibnmhgocboaa
open Go.Shelf Go.ChangeShapes Go.WideShapes Go.ChangeAt Go.RowKit

set_option maxHeartbeats 1000000 in
theorem wFewests (A : Option Addr) (n c : Nat) (cs : List Int) (a : Int) (w : World) (hx : Ri w w.heap.size A n cs) (hc : n ≤ c) :
    Calls Try.prog 4 #[.slice A n c, .int .i64 a] w (RetB w true) := by
  by_cases hg : 10 < n
  · have HG : Hid (decide (10 < n) = true) := Lib.hid (decide_eq_true hg)
    go_enter Try.func4, Try.ntmps4
    go_wp2_with (first
      | (go_at_call 18; refine (aGreat _ _ _ _ _ HG).mono ?_; rintro e w' ⟨rfl, rfl⟩)
      | (go_at_call 19; refine (aWorks _).mono ?_; rintro e w1 ⟨rfl, hb⟩))
    go_ret
    exact ⟨rfl, hb⟩
  · have HG : Hid (decide (10 < n) = false) := Lib.hid (decide_eq_false hg)
    have h_d := hx
    obtain ⟨m, r1, H1⟩ : ∃ m r, Hid (fewestS cs a = (m, r)) := ⟨_, _, Lib.hid rfl⟩
    obtain ⟨L, r2, H2⟩ : ∃ m r, Hid (changeS cs a = (m, r)) := ⟨_, _, Lib.hid rfl⟩
    obtain ⟨G, s, r3, H3⟩ : ∃ m r t, Hid (greedyS cs a = (m, r, t)) := ⟨_, _, _, Lib.hid rfl⟩
    go_enter Try.func4, Try.ntmps4
    go_wp2_with fail
    refine (aGreat _ _ _ _ _ HG).mono ?_
    rintro e w' ⟨rfl, rfl⟩
    go_wp2_with fail
    refine (fFewestT A n c cs a _ h_d (by omega) hc m r1 H1).mono ?_
    rintro e w1_ ⟨rfl, hb1⟩
    have B1 : Below w.heap.size w w1_ := (Below.refl _ _).trans (hb1.mono (Nat.le_refl _))
    have S1 : w.heap.size ≤ w1_.heap.size := B1.size
    replace h_d := Ri.next h_d hb1 (Nat.le_refl _) hb1.size
    clear hb1
    go_wp2_with fail
    refine (rFewestT A n c cs a _ h_d (by omega) m r1 H1).mono ?_
    rintro e w2_ ⟨rfl, hb2⟩
    have B2 : Below w.heap.size w w2_ := B1.trans (hb2.mono S1)
    have S2 : w.heap.size ≤ w2_.heap.size := B2.size
    replace h_d := Ri.next h_d hb2 (Nat.le_refl _) hb2.size
    clear B1 S1
    clear hb2
    go_wp2_with fail
    refine (fChangeT A n c cs a _ h_d (by omega) hc L r2 H2).mono ?_
    rintro e w3_ ⟨A3, n3, c3, rfl, ho3, hb3⟩
    have B3 : Below w.heap.size w w3_ := B2.trans (hb3.mono S2)
    have S3 : w.heap.size ≤ w3_.heap.size := B3.size
    replace h_d := Ri.next h_d hb3 (Nat.le_refl _) hb3.size
    clear B2 S2
    have h_x := ho3.ri
    have m_x := ho3.most
    clear ho3
    clear hb3
    go_wp2_with fail
    refine (rChangeT A n c cs a _ h_d (by omega) hc L r2 H2).mono ?_
    rintro e w4_ ⟨A4, n4, c4, rfl, ho4, hb4⟩
    have B4 : Below w.heap.size w w4_ := B3.trans (hb4.mono S3)
    have S4 : w.heap.size ≤ w4_.heap.size := B4.size
    replace h_d := Ri.next h_d hb4 (Nat.le_refl _) hb4.size
    replace h_x := Ri.next h_x hb4 (Nat.le_refl _) hb4.size
    clear B3 S3
    have h_y := ho4.ri
    have m_y := ho4.most
    clear ho4
    clear hb4
    go_wp2_with fail
    refine (fGreedyT A n c cs a _ h_d (by omega) hc G s r3 H3).mono ?_
    rintro e w5_ ⟨A5, n5, c5, rfl, ho5, hb5⟩
    have B5 : Below w.heap.size w w5_ := B4.trans (hb5.mono S4)
    have S5 : w.heap.size ≤ w5_.heap.size := B5.size
    replace h_d := Ri.next h_d hb5 (Nat.le_refl _) hb5.size
    replace h_x := Ri.next h_x hb5 (Nat.le_refl _) hb5.size
    replace h_y := Ri.next h_y hb5 (Nat.le_refl _) hb5.size
    clear B4 S4
    have h_g := ho5.ri
    have m_g := ho5.most
    clear ho5
    clear hb5
    go_wp2_with fail
    refine (rGreedyT A n c cs a _ h_d (by omega) G s r3 H3).mono ?_
    rintro e w6_ ⟨A6, n6, c6, rfl, ho6, hb6⟩
    have B6 : Below w.heap.size w w6_ := B5.trans (hb6.mono S5)
    have S6 : w.heap.size ≤ w6_.heap.size := B6.size
    replace h_d := Ri.next h_d hb6 (Nat.le_refl _) hb6.size
    replace h_x := Ri.next h_x hb6 (Nat.le_refl _) hb6.size
    replace h_y := Ri.next h_y hb6 (Nat.le_refl _) hb6.size
    replace h_g := Ri.next h_g hb6 (Nat.le_refl _) hb6.size
    clear B5 S5
    have h_h := ho6.ri
    have m_h := ho6.most
    clear ho6
    clear hb6
    go_wp2_with fail
    refine (aLongsT _ _ _ _ _ _ _ _ (L) (L) _ h_x h_y (by omega) (by omega) true (Lib.hid (decide_eq_true rfl))).mono ?_
    rintro e w7_ ⟨rfl, hb7⟩
    have B7 : Below w.heap.size w w7_ := B6.trans (hb7.mono S6)
    have S7 : w.heap.size ≤ w7_.heap.size := B7.size
    replace h_d := Ri.next h_d hb7 (Nat.le_refl _) hb7.size
    replace h_x := Ri.next h_x hb7 (Nat.le_refl _) hb7.size
    replace h_y := Ri.next h_y hb7 (Nat.le_refl _) hb7.size
    replace h_g := Ri.next h_g hb7 (Nat.le_refl _) hb7.size
    replace h_h := Ri.next h_h hb7 (Nat.le_refl _) hb7.size
    clear B6 S6
    clear hb7
    clear h_x
    clear h_y
    go_wp2_with fail
    refine (aLongsT _ _ _ _ _ _ _ _ (G) (G) _ h_g h_h (by omega) (by omega) true (Lib.hid (decide_eq_true rfl))).mono ?_
    rintro e w8_ ⟨rfl, hb8⟩
    have B8 : Below w.heap.size w w8_ := B7.trans (hb8.mono S7)
    have S8 : w.heap.size ≤ w8_.heap.size := B8.size
    replace h_d := Ri.next h_d hb8 (Nat.le_refl _) hb8.size
    replace h_g := Ri.next h_g hb8 (Nat.le_refl _) hb8.size
    replace h_h := Ri.next h_h hb8 (Nat.le_refl _) hb8.size
    clear B7 S7
    clear hb8
    clear h_g
    clear h_h
    go_wp2_with fail
    refine (aWorks _).mono ?_
    rintro e w9_ ⟨rfl, hb9⟩
    have B9 : Below w.heap.size w w9_ := B8.trans (hb9.mono S8)
    have S9 : w.heap.size ≤ w9_.heap.size := B9.size
    replace h_d := Ri.next h_d hb9 (Nat.le_refl _) hb9.size
    clear B8 S8
    clear hb9
    go_wp2
    go_ret
    exact ⟨rfl, B9⟩

set_option maxRecDepth 100000 in
theorem FloatFewests_lifted (os : Os) (started : os.Started) (H : Type) (enc : TypeId × Value → H) :
    ReturnsInHanded {} Try.checked os 4 .any (Rows.floatFewestsSpec.pre6 enc Try.prog Try.f4 Rows.floatFewestsRow.domain false) (Rows.floatFewestsSpec.post enc Try.prog Try.f4 false true false false) := by
  refine returnsInHanded_of_change (C := Try.checked) row_own started (by kernel_rfl) Try.func4
    (ChangeSpec.witness6 (enc := enc) (C := Try.checked) false ⟨#[], #[.slice none 0 0, .int .i64 0], []⟩ 8 (by kernel_rfl) (by kernel_rfl) (by kernel_rfl) (by kernel_rfl)) ?_
  intro W base args ds gs before hval0 hW _ _
  have hval : ∀ (j : Nat) t v, Try.f4.params[j]? = some t → args[j]? = some v → Value.okWide Try.prog W .any base t v := hval0
  have hW' := hW
  obtain ⟨p, q, hA0, hV, rfl, _, _⟩ := hW
  have hA : DataW.TrodAll enc Try.prog W 0 (fun _ => true) true Try.f4.params.toList args.toList ds p := hA0
  rw [Try.params4] at hA hval
  obtain ⟨v0, v1, d0, d1, p0, p1, rfl, rfl, rfl, h0, h1⟩ := trodAll_two hA
  obtain ⟨rfl, rfl⟩ := trodVars_none hV
  clear hA0 hval0
  simp only [List.append_nil] at hW'
  have hlt : ∀ x ∈ (p0 ++ p1), x.block < W.heap.size := fun x hx => by simpa using hW'.lt x hx
  have a0 := fun W' (hb : Below W.heap.size W W') => row_stays (t := 22) (by kernel_rfl) (of_decide_eq_true (by kernel_rfl)) h0 (fun x hx => hlt x (by simp [hx])) hb
  have a1 := fun W' (hb : Below W.heap.size W W') => row_stays (t := 2) (by kernel_rfl) (of_decide_eq_true (by kernel_rfl)) h1 (fun x hx => hlt x (by simp [hx])) hb
  obtain ⟨A0, n0, c0, xs0, rfl, hc0, hm0, hx0, hw0⟩ := row_ints (t := 22) (e := 2) (k := .i64) (by kernel_rfl) (by kernel_rfl) (by kernel_rfl) (hval 0 22 v0 rfl rfl) h0 (fun x hx => hlt x (by simp [hx]))
  obtain ⟨x1, rfl, _, _, wx1⟩ := open_int (P := Try.prog) (k := .i64) (t := 2) (by kernel_rfl) (hval 1 2 v1 rfl rfl) h1
  refine (wFewests A0 n0 c0 xs0 x1 W hx0 hc0).mono fun e W' ⟨he, hb⟩ => ?_
  subst he
  exact ⟨_, rfl, _, _, _, [], (p0 ++ p1), [], hW', trodAll_mk1 (shut_bool Try.underlying4 true), trodAll_mk2 (a0 _ hb) (a1 _ hb), rfl, hb.frame _, fun h => by cases h⟩
theorem FloatFewests_holds : Rows.FloatFewestsSaid :=
  OpenClaim.holds_of_wide 4 Try.f4 rfl rfl rfl rfl rfl rfl rfl ⟨rfl, rfl, rfl, rfl, rfl⟩ rfl rfl rfl rfl rfl (by kernel_rfl) Try.func4 (by kernel_rfl)
    (of_decide_eq_true (by kernel_rfl)) (by unfold Func.isWrapper; first | (rw [if_pos (by decide +kernel)]; kernel_rfl) | (rw [if_neg (by decide +kernel)]; exact ⟨rfl, rfl⟩))
    (fun os started H enc _ => FloatFewests_lifted os started H enc)
#print axioms FloatFewests_holds
end Go.Proofs.Ytloibnmhgocboaa
