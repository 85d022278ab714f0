/-
  FloatCoins: which coins are valid, the amount of change, and how many coins it has, are what the definitions say, or the error: for all lists of coins and of change; no condition.
-/
import Derived.Test.YtloibnmhgocboaaWorks
import Derived.Test.YtloibnmhgocboaaRow
import Derived.Test.YtloibnmhgocboaaR1
import Derived.Test.YtloibnmhgocboaaR2
import Derived.Test.YtloibnmhgocboaaR3
import Derived.Test.YtloibnmhgocboaaR4
import Derived.Test.YtloibnmhgocboaaR5
import Derived.Test.YtloibnmhgocboaaR6
import Derived.Test.YtloibnmhgocboaaR7
import Derived.Test.YtloibnmhgocboaaR8
namespace Go.Proofs.Ytloibnmhgocboaa
open Go.Shelf Go.ChangeShapes Go.WideShapes Go.ChangeAt Go.RowKit

set_option maxHeartbeats 1000000 in
theorem wCoins (A : Option Addr) (n c : Nat) (cs : List Int) (D : Option Addr) (nv cv : Nat) (vs : List Int) (w : World) (hx : Ri w w.heap.size A n cs) (hy : Ri w w.heap.size D nv vs) (hc : n ≤ c) :
    Calls Try.prog 3 #[.slice A n c, .slice D nv cv] w (RetB w true) := by
  by_cases hg : 10 < n
  · have HG : Hid (decide (10 < n) = true) := Lib.hid (decide_eq_true hg)
    go_enter Try.func3, Try.ntmps3
    go_wp2_with (first
      | (go_at_call 18; refine (aGreat _ _ _ _ _ HG).mono ?_; rintro e w' ⟨rfl, rfl⟩)
      | (go_at_call 19; refine (aWorks _).mono ?_; rintro e w1 ⟨rfl, hb⟩))
    go_ret
    exact ⟨rfl, hb⟩
  · have HG : Hid (decide (10 < n) = false) := Lib.hid (decide_eq_false hg)
    by_cases hg2 : 10 < nv
    · have HG2 : Hid (decide (10 < nv) = true) := Lib.hid (decide_eq_true hg2)
      go_enter Try.func3, Try.ntmps3
      go_wp2_with fail
      refine (aGreat _ _ _ _ _ HG).mono ?_
      rintro e w' ⟨rfl, rfl⟩
      go_wp2_with fail
      refine (aGreat _ _ _ _ _ HG2).mono ?_
      rintro e w' ⟨rfl, rfl⟩
      go_wp2_with fail
      refine (aWorks _).mono ?_
      rintro e w1 ⟨rfl, hb⟩
      go_wp2
      go_ret
      exact ⟨rfl, hb⟩
    · have HG2 : Hid (decide (10 < nv) = false) := Lib.hid (decide_eq_false hg2)
      have h_d := hx
      have h_v := hy
      obtain ⟨a, m, r, H1⟩ : ∃ a m r, Hid (changeCS cs vs = (a, m, r)) := ⟨_, _, _, Lib.hid rfl⟩
      obtain ⟨q, H2⟩ : ∃ q, Hid (checkCoins cs = q) := ⟨_, Lib.hid rfl⟩
      go_enter Try.func3, Try.ntmps3
      go_wp2_with fail
      refine (aGreat _ _ _ _ _ HG).mono ?_
      rintro e w' ⟨rfl, rfl⟩
      go_wp2_with fail
      refine (aGreat _ _ _ _ _ HG2).mono ?_
      rintro e w' ⟨rfl, rfl⟩
      go_wp2_with fail
      refine (fCheckChangeT A n c cs D nv cv vs _ h_d h_v (by omega) (by omega) hc a m r H1).mono ?_
      rintro e w1_ ⟨rfl, hb1⟩
      have B1 : Below w.heap.size w w1_ := (Below.refl _ _).trans (hb1.mono (Nat.le_refl _))
      have S1 : w.heap.size ≤ w1_.heap.size := B1.size
      replace h_d := Ri.next h_d hb1 (Nat.le_refl _) hb1.size
      replace h_v := Ri.next h_v hb1 (Nat.le_refl _) hb1.size
      clear hb1
      go_wp2_with fail
      refine (rCheckChange A n c cs D nv cv vs _ h_d h_v (by omega) (by omega) a m r H1).mono ?_
      rintro e w2_ ⟨rfl, d2, hd2⟩
      have hb2 : Below w1_.heap.size w1_ w2_ := hd2 ▸ below_drewN (Below.refl _ _) _
      clear hd2
      have B2 : Below w.heap.size w w2_ := B1.trans (hb2.mono S1)
      have S2 : w.heap.size ≤ w2_.heap.size := B2.size
      replace h_d := Ri.next h_d hb2 (Nat.le_refl _) hb2.size
      replace h_v := Ri.next h_v hb2 (Nat.le_refl _) hb2.size
      clear B1 S1
      clear hb2
      go_wp2_with fail
      refine (fCheckCoins A n c cs _ h_d (by omega) hc  q H2).mono ?_
      rintro e w3_ ⟨rfl, hb3⟩
      have B3 : Below w.heap.size w w3_ := B2.trans (hb3.mono S2)
      have S3 : w.heap.size ≤ w3_.heap.size := B3.size
      replace h_d := Ri.next h_d hb3 (Nat.le_refl _) hb3.size
      replace h_v := Ri.next h_v hb3 (Nat.le_refl _) hb3.size
      clear B2 S2
      clear hb3
      go_wp2_with fail
      refine (rCheckCoins A n c _ cs _ h_d (by omega) q H2).mono ?_
      rintro e w4_ ⟨rfl, d4, hd4⟩
      have hb4 : Below w3_.heap.size w3_ w4_ := hd4 ▸ below_drewN (Below.refl _ _) _
      clear hd4
      have B4 : Below w.heap.size w w4_ := B3.trans (hb4.mono S3)
      have S4 : w.heap.size ≤ w4_.heap.size := B4.size
      replace h_d := Ri.next h_d hb4 (Nat.le_refl _) hb4.size
      replace h_v := Ri.next h_v hb4 (Nat.le_refl _) hb4.size
      clear B3 S3
      clear hb4
      go_wp2_with fail
      refine (aWorks _).mono ?_
      rintro e w5_ ⟨rfl, hb5⟩
      have B5 : Below w.heap.size w w5_ := B4.trans (hb5.mono S4)
      have S5 : w.heap.size ≤ w5_.heap.size := B5.size
      replace h_d := Ri.next h_d hb5 (Nat.le_refl _) hb5.size
      replace h_v := Ri.next h_v hb5 (Nat.le_refl _) hb5.size
      clear B4 S4
      clear hb5
      go_wp2
      go_ret
      exact ⟨rfl, B5⟩

set_option maxRecDepth 100000 in
theorem FloatCoins_lifted (os : Os) (started : os.Started) (H : Type) (enc : TypeId × Value → H) :
    ReturnsInHanded {} Try.checked os 3 .any (Rows.floatCoinsSpec.pre6 enc Try.prog Try.f3 Rows.floatCoinsRow.domain false) (Rows.floatCoinsSpec.post enc Try.prog Try.f3 false true false false) := by
  refine returnsInHanded_of_change (C := Try.checked) row_own started (by kernel_rfl) Try.func3
    (ChangeSpec.witness6 (enc := enc) (C := Try.checked) false ⟨#[], #[.slice none 0 0, .slice none 0 0], []⟩ 8 (by kernel_rfl) (by kernel_rfl) (by kernel_rfl) (by kernel_rfl)) ?_
  intro W base args ds gs before hval0 hW _ _
  have hval : ∀ (j : Nat) t v, Try.f3.params[j]? = some t → args[j]? = some v → Value.okWide Try.prog W .any base t v := hval0
  have hW' := hW
  obtain ⟨p, q, hA0, hV, rfl, _, _⟩ := hW
  have hA : DataW.TrodAll enc Try.prog W 0 (fun _ => true) true Try.f3.params.toList args.toList ds p := hA0
  rw [Try.params3] at hA hval
  obtain ⟨v0, v1, d0, d1, p0, p1, rfl, rfl, rfl, h0, h1⟩ := trodAll_two hA
  obtain ⟨rfl, rfl⟩ := trodVars_none hV
  clear hA0 hval0
  simp only [List.append_nil] at hW'
  have hlt : ∀ x ∈ (p0 ++ p1), x.block < W.heap.size := fun x hx => by simpa using hW'.lt x hx
  have a0 := fun W' (hb : Below W.heap.size W W') => row_stays (t := 22) (by kernel_rfl) (of_decide_eq_true (by kernel_rfl)) h0 (fun x hx => hlt x (by simp [hx])) hb
  have a1 := fun W' (hb : Below W.heap.size W W') => row_stays (t := 22) (by kernel_rfl) (of_decide_eq_true (by kernel_rfl)) h1 (fun x hx => hlt x (by simp [hx])) hb
  obtain ⟨A0, n0, c0, xs0, rfl, hc0, hm0, hx0, hw0⟩ := row_ints (t := 22) (e := 2) (k := .i64) (by kernel_rfl) (by kernel_rfl) (by kernel_rfl) (hval 0 22 v0 rfl rfl) h0 (fun x hx => hlt x (by simp [hx]))
  obtain ⟨A1, n1, c1, xs1, rfl, hc1, hm1, hx1, hw1⟩ := row_ints (t := 22) (e := 2) (k := .i64) (by kernel_rfl) (by kernel_rfl) (by kernel_rfl) (hval 1 22 v1 rfl rfl) h1 (fun x hx => hlt x (by simp [hx]))
  refine (wCoins A0 n0 c0 xs0 A1 n1 c1 xs1 W hx0 hx1 hc0).mono fun e W' ⟨he, hb⟩ => ?_
  subst he
  exact ⟨_, rfl, _, _, _, [], (p0 ++ p1), [], hW', trodAll_mk1 (shut_bool Try.underlying4 true), trodAll_mk2 (a0 _ hb) (a1 _ hb), rfl, hb.frame _, fun h => by cases h⟩
theorem FloatCoins_holds : Rows.FloatCoinsSaid :=
  OpenClaim.holds_of_wide 3 Try.f3 rfl rfl rfl rfl rfl rfl rfl ⟨rfl, rfl, rfl, rfl, rfl⟩ rfl rfl rfl rfl rfl (by kernel_rfl) Try.func3 (by kernel_rfl)
    (of_decide_eq_true (by kernel_rfl)) (by unfold Func.isWrapper; first | (rw [if_pos (by decide +kernel)]; kernel_rfl) | (rw [if_neg (by decide +kernel)]; exact ⟨rfl, rfl⟩))
    (fun os started H enc _ => FloatCoins_lifted os started H enc)
#print axioms FloatCoins_holds
end Go.Proofs.Ytloibnmhgocboaa
