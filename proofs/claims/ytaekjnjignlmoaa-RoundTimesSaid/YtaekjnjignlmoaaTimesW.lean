/-
  RoundTimes: between which steps a stop is levelled, and the delay, are what the definitions say, or the error: for every pier and every stop; no condition.
-/
import Derived.Test.YtaekjnjignlmoaaWorks
import Derived.Test.YtaekjnjignlmoaaRowP
import Derived.Test.YtaekjnjignlmoaaWl
import Derived.Test.YtaekjnjignlmoaaR11
import Derived.Test.YtaekjnjignlmoaaR12
namespace Go.Proofs.Ytaekjnjignlmoaa
open Go.Shelf Go.ChangeShapes Go.WideShapes Go.ChangeAt Go.RowKit

set_option maxRecDepth 100000 in
set_option maxHeartbeats 8000000 in
theorem wTimes (b : Int) (A : Option Addr) (n c : Nat) (ps : List (Int × Int)) (s : Int) (w : World) (hx : Rp w w.heap.size A n ps) (hc : n ≤ c) :
    Calls Try.prog 5 #[.agg #[.int .i64 b, .slice A n c], .int .i64 s] w (RetB w true) := by
  have h_p := hx
  by_cases hg : 14 < n
  · have HG : Hid (decide (14 < n) = true) := Lib.hid (decide_eq_true hg)
    have k1 := Bk.new w 24 #[.int .i64 b, .slice A n c]
    have hb : Below w.heap.size w (w.alloc (.cells #[.int .i64 b, .slice A n c] 24)) := (Below.refl _ _).alloc (Nat.le_refl _) _
    have d0 := k1.cell 0
    have d1 := k1.cell 1
    go_enter Try.func5, Try.ntmps5
    go_wp2_with fail
    clear d0 d1
    obtain ⟨u1, hu⟩ : ∃ k, w.heap.size = k := ⟨_, rfl⟩
    obtain ⟨w1, hW⟩ : ∃ W, w.alloc (.cells #[.int .i64 b, .slice A n c] 24) = W := ⟨_, rfl⟩
    rw [hW] at k1 hb ⊢
    rw [hu] at k1 ⊢
    clear hW hu
    have Bw1 : Below w.heap.size w w1 := hb
    replace h_p := h_p.next hb (Nat.le_refl _) hb.size
    clear hb
    refine (aGreat b A n c _ true HG).mono ?_
    rintro e w2 ⟨rfl, hb⟩
    have Bw2 : Below w.heap.size w w2 := Bw1.trans (hb.mono Bw1.size)
    replace h_p := h_p.next hb (Nat.le_refl _) hb.size
    replace k1 := k1.below hb k1.lt
    clear Bw1
    clear hb
    have d_k1_0 := k1.cell 0
    have d_k1_1 := k1.cell 1
    go_wp2_with fail
    clear d_k1_0 d_k1_1
    refine (aWorks _).mono ?_
    rintro e w3 ⟨rfl, hb⟩
    have Bw3 : Below w.heap.size w w3 := Bw2.trans (hb.mono Bw2.size)
    replace h_p := h_p.next hb (Nat.le_refl _) hb.size
    replace k1 := k1.below hb k1.lt
    clear Bw2
    clear hb
    go_wp2
    go_ret
    exact ⟨rfl, Bw3⟩
  have HG : Hid (decide (14 < n) = false) := Lib.hid (decide_eq_false hg)
  obtain ⟨lo, hi, we, HW⟩ : ∃ v1 v2 v3, Hid (withinS b ps s = (v1, v2, v3)) := ⟨_, _, _, Lib.hid rfl⟩
  obtain ⟨d0, de, HD⟩ : ∃ m1 m2, Hid (delayS b ps = (m1, m2)) := ⟨_, _, Lib.hid rfl⟩
  have k1 := Bk.new w 24 #[.int .i64 b, .slice A n c]
  have hb : Below w.heap.size w (w.alloc (.cells #[.int .i64 b, .slice A n c] 24)) := (Below.refl _ _).alloc (Nat.le_refl _) _
  have d0 := k1.cell 0
  have d1 := k1.cell 1
  go_enter Try.func5, Try.ntmps5
  go_wp2_with fail
  clear d0 d1
  obtain ⟨u1, hu⟩ : ∃ k, w.heap.size = k := ⟨_, rfl⟩
  obtain ⟨w1, hW⟩ : ∃ W, w.alloc (.cells #[.int .i64 b, .slice A n c] 24) = W := ⟨_, rfl⟩
  rw [hW] at k1 hb ⊢
  rw [hu] at k1 ⊢
  clear hW hu
  have Bw1 : Below w.heap.size w w1 := hb
  replace h_p := h_p.next hb (Nat.le_refl _) hb.size
  clear hb
  refine (aGreat b A n c _ false HG).mono ?_
  rintro e w2 ⟨rfl, hb⟩
  have Bw2 : Below w.heap.size w w2 := Bw1.trans (hb.mono Bw1.size)
  replace h_p := h_p.next hb (Nat.le_refl _) hb.size
  replace k1 := k1.below hb k1.lt
  clear Bw1
  clear hb
  have d_k1_0 := k1.cell 0
  have d_k1_1 := k1.cell 1
  go_wp2_with fail
  clear d_k1_0 d_k1_1
  refine (fWithinR b A n c ps _ s h_p (by omega) hc (lo, hi, we) HW).mono ?_
  rintro e w3 ⟨rfl, hb⟩
  have Bw3 : Below w.heap.size w w3 := Bw2.trans (hb.mono Bw2.size)
  replace h_p := h_p.next hb (Nat.le_refl _) hb.size
  replace k1 := k1.below hb k1.lt
  clear Bw2
  clear hb
  have d_k1_0 := (k1.alloc (.cells #[.int .i64 lo, .int .i64 hi] 43)).cell 0
  have d_k1_1 := (k1.alloc (.cells #[.int .i64 lo, .int .i64 hi] 43)).cell 1
  have d_k3_0 := (Bk.new w3 43 #[.int .i64 lo, .int .i64 hi]).cell 0
  have d_k3_1 := (Bk.new w3 43 #[.int .i64 lo, .int .i64 hi]).cell 1
  go_wp2_with fail
  clear d_k1_0 d_k1_1 d_k3_0 d_k3_1
  have k3 := Bk.new w3 43 #[.int .i64 lo, .int .i64 hi]
  have hb : Below w3.heap.size w3 (w3.alloc (.cells #[.int .i64 lo, .int .i64 hi] 43)) := (Below.refl _ _).alloc (Nat.le_refl _) _
  obtain ⟨u3, hu⟩ : ∃ k, w3.heap.size = k := ⟨_, rfl⟩
  obtain ⟨w4, hW⟩ : ∃ W, w3.alloc (.cells #[.int .i64 lo, .int .i64 hi] 43) = W := ⟨_, rfl⟩
  rw [hW] at k3 hb ⊢
  rw [hu] at k3 ⊢
  clear hW
  have Bw4 : Below w.heap.size w w4 := Bw3.trans (hb.mono Bw3.size)
  replace h_p := h_p.next hb (Nat.le_refl _) hb.size
  replace k1 := k1.below hb k1.lt
  clear Bw3
  clear hb
  clear hu
  refine (rWithin b A n c ps s _ h_p (by omega) lo hi we HW).mono ?_
  rintro e w5 ⟨rfl, hb⟩
  have Bw5 : Below w.heap.size w w5 := Bw4.trans (hb.mono Bw4.size)
  replace h_p := h_p.next hb (Nat.le_refl _) hb.size
  replace k1 := k1.below hb k1.lt
  replace k3 := k3.below hb k3.lt
  clear Bw4
  clear hb
  have d_k1_0 := (k1.alloc (.cells #[.int .i64 lo, .int .i64 hi] 43)).cell 0
  have d_k1_1 := (k1.alloc (.cells #[.int .i64 lo, .int .i64 hi] 43)).cell 1
  have d_k3_0 := (k3.alloc (.cells #[.int .i64 lo, .int .i64 hi] 43)).cell 0
  have d_k3_1 := (k3.alloc (.cells #[.int .i64 lo, .int .i64 hi] 43)).cell 1
  have d_k4_0 := (Bk.new w5 43 #[.int .i64 lo, .int .i64 hi]).cell 0
  have d_k4_1 := (Bk.new w5 43 #[.int .i64 lo, .int .i64 hi]).cell 1
  go_wp2_with fail
  clear d_k1_0 d_k1_1 d_k3_0 d_k3_1 d_k4_0 d_k4_1
  have k4 := Bk.new w5 43 #[.int .i64 lo, .int .i64 hi]
  have hb : Below w5.heap.size w5 (w5.alloc (.cells #[.int .i64 lo, .int .i64 hi] 43)) := (Below.refl _ _).alloc (Nat.le_refl _) _
  obtain ⟨u4, hu⟩ : ∃ k, w5.heap.size = k := ⟨_, rfl⟩
  obtain ⟨w6, hW⟩ : ∃ W, w5.alloc (.cells #[.int .i64 lo, .int .i64 hi] 43) = W := ⟨_, rfl⟩
  rw [hW] at k4 hb ⊢
  rw [hu] at k4 ⊢
  clear hW
  have Bw6 : Below w.heap.size w w6 := Bw5.trans (hb.mono Bw5.size)
  replace h_p := h_p.next hb (Nat.le_refl _) hb.size
  replace k1 := k1.below hb k1.lt
  replace k3 := k3.below hb k3.lt
  clear Bw5
  clear hb
  clear hu
  refine (fDelay b A n c ps _ h_p (by omega) hc (d0, de) HD).mono ?_
  rintro e w7 ⟨rfl, hb⟩
  have Bw7 : Below w.heap.size w w7 := Bw6.trans (hb.mono Bw6.size)
  replace h_p := h_p.next hb (Nat.le_refl _) hb.size
  replace k1 := k1.below hb k1.lt
  replace k3 := k3.below hb k3.lt
  replace k4 := k4.below hb k4.lt
  clear Bw6
  clear hb
  have d_k1_0 := k1.cell 0
  have d_k1_1 := k1.cell 1
  have d_k3_0 := k3.cell 0
  have d_k3_1 := k3.cell 1
  have d_k4_0 := k4.cell 0
  have d_k4_1 := k4.cell 1
  go_wp2_with fail
  clear d_k1_0 d_k1_1 d_k3_0 d_k3_1 d_k4_0 d_k4_1
  refine (rDelay b A n c ps _ h_p (by omega) (d0, de) HD).mono ?_
  rintro e w8 ⟨rfl, hb⟩
  have Bw8 : Below w.heap.size w w8 := Bw7.trans (hb.mono Bw7.size)
  replace h_p := h_p.next hb (Nat.le_refl _) hb.size
  replace k1 := k1.below hb k1.lt
  replace k3 := k3.below hb k3.lt
  replace k4 := k4.below hb k4.lt
  clear Bw7
  clear hb
  have d_k1_0 := k1.cell 0
  have d_k1_1 := k1.cell 1
  have d_k3_0 := k3.cell 0
  have d_k3_1 := k3.cell 1
  have d_k4_0 := k4.cell 0
  have d_k4_1 := k4.cell 1
  go_wp2_with fail
  clear d_k1_0 d_k1_1 d_k3_0 d_k3_1 d_k4_0 d_k4_1
  refine (aWorks _).mono ?_
  rintro e w9 ⟨rfl, hb⟩
  have Bw9 : Below w.heap.size w w9 := Bw8.trans (hb.mono Bw8.size)
  replace h_p := h_p.next hb (Nat.le_refl _) hb.size
  replace k1 := k1.below hb k1.lt
  replace k3 := k3.below hb k3.lt
  replace k4 := k4.below hb k4.lt
  clear Bw8
  clear hb
  go_wp2
  go_ret
  exact ⟨rfl, Bw9⟩

set_option maxRecDepth 100000 in
theorem RoundTimes_lifted (os : Go.Os) (started : os.Started) (H : Type) (enc : TypeId × Value → H) :
    ReturnsInHanded {} Try.checked os 5 .any (Rows.roundTimesSpec.pre6 enc Try.prog Try.f5 Rows.roundTimesRow.domain false) (Rows.roundTimesSpec.post enc Try.prog Try.f5 false true false false) := by
  refine returnsInHanded_of_change (C := Try.checked) row_own started (by kernel_rfl) Try.func5
    (ChangeSpec.witness6 (enc := enc) (C := Try.checked) false ⟨#[], #[.agg #[.int .i64 0, .slice none 0 0], .int .i64 0], []⟩ 8 (by kernel_rfl) (by kernel_rfl) (by kernel_rfl) (by kernel_rfl)) ?_
  intro W base args ds gs before hval0 hW _ _
  have hval : ∀ (j : Nat) t v, Try.f5.params[j]? = some t → args[j]? = some v → Value.okWide Try.prog W .any base t v := hval0
  have hW' := hW
  obtain ⟨p, q, hA0, hV, rfl, _, _⟩ := hW
  have hA : DataW.TrodAll enc Try.prog W 0 (fun _ => true) true Try.f5.params.toList args.toList ds p := hA0
  rw [Try.params5] at hA hval
  obtain ⟨v0, v1, d0, d1, p0, p1, rfl, rfl, rfl, h0, h1⟩ := trodAll_two hA
  obtain ⟨rfl, rfl⟩ := trodVars_none hV
  clear hA0 hval0
  simp only [List.append_nil] at hW'
  have hlt : ∀ x ∈ (p0 ++ p1), x.block < W.heap.size := fun x hx => by simpa using hW'.lt x hx
  have a0 := fun W' (hb : Below W.heap.size W W') => row_stays (t := 24) (by kernel_rfl) (of_decide_eq_true (by kernel_rfl)) h0 (fun x hx => hlt x (by simp [hx])) hb
  have a1 := fun W' (hb : Below W.heap.size W W') => row_stays (t := 3) (by kernel_rfl) (of_decide_eq_true (by kernel_rfl)) h1 (fun x hx => hlt x (by simp [hx])) hb
  obtain ⟨b0, A0, n0, c0, ps0, rfl, hc0, hm0, hx0⟩ := row_pier (hval 0 24 v0 rfl rfl) h0 (fun x hx => hlt x (by simp [hx]))
  obtain ⟨x1, rfl, _, _, wx1⟩ := open_int (P := Try.prog) (k := .i64) (t := 3) (by kernel_rfl) (hval 1 3 v1 rfl rfl) h1
  refine (wTimes b0 A0 n0 c0 ps0 x1 W hx0 hc0).mono fun e W' ⟨he, hb⟩ => ?_
  subst he
  exact ⟨_, rfl, _, _, _, [], (p0 ++ p1), [], hW', trodAll_mk1 (shut_bool Try.underlying4 true), trodAll_mk2 (a0 _ hb) (a1 _ hb), rfl, hb.frame _, fun h => by cases h⟩
theorem RoundTimes_holds : Rows.RoundTimesSaid :=
  OpenClaim.holds_of_wide 5 Try.f5 rfl rfl rfl rfl rfl rfl rfl ⟨rfl, rfl, rfl, rfl, rfl⟩ rfl rfl rfl rfl rfl (by kernel_rfl) Try.func5 (by kernel_rfl)
    (of_decide_eq_true (by kernel_rfl)) (by unfold Func.isWrapper; first | (rw [if_pos (by decide +kernel)]; kernel_rfl) | (rw [if_neg (by decide +kernel)]; exact ⟨rfl, rfl⟩))
    (fun os started H enc _ => RoundTimes_lifted os started H enc)
#print axioms RoundTimes_holds
end Go.Proofs.Ytaekjnjignlmoaa
