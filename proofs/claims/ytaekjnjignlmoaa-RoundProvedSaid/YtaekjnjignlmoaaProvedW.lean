/-
  RoundProved, the stage's theorem: no given round that is in time is shorter than the value of given right bounds; if these have no value it is not in time; the value of the bounds that are returned is the length of the round that is returned, or both say that none is in time: for every pier, every round by numbers and all bounds; no condition.
-/
import Derived.Test.YtaekjnjignlmoaaWorks
import Derived.Test.YtaekjnjignlmoaaRowP
import Derived.Test.YtaekjnjignlmoaaProvedA
import Derived.Test.YtaekjnjignlmoaaProvedB
import Derived.Test.YtaekjnjignlmoaaProvedC
namespace Go.Proofs.Ytaekjnjignlmoaa
open Go.Shelf Go.ChangeShapes Go.WideShapes Go.ChangeAt Go.RowKit

set_option maxRecDepth 100000 in
set_option maxHeartbeats 8000000 in
theorem wProved (b : Int) (A : Option Addr) (n c : Nat) (ps : List (Int × Int)) (Y : Option Addr) (my cy : Nat) (bs : List Int) (D : Option Addr) (N dc : Nat) (Rs : List (List (Int × Int))) (w : World) (hx : Rp w w.heap.size A n ps) (hc : n ≤ c) (hy : Ru w w.heap.size Y my bs) (h_b : Bd w w.heap.size D N Rs) :
    Calls Try.prog 8 #[.agg #[.int .i64 b, .slice A n c], .slice Y my cy, .slice D N dc] w (RetB w true) := by
  have h_p := hx
  have h_y := hy
  by_cases hf : n ≤ 14 ∧ checkPier b ps = 0
  rotate_left
  · have HF : Hid (decide (n ≤ 14 ∧ checkPier b ps = 0) = false) := Lib.hid (decide_eq_false hf)
    have k1 := Bk.new w 24 #[.int .i64 b, .slice A n c]
    have hb : Below w.heap.size w (w.alloc (.cells #[.int .i64 b, .slice A n c] 24)) := (Below.refl _ _).alloc (Nat.le_refl _) _
    have d0 := k1.cell 0
    have d1 := k1.cell 1
    go_enter Try.func8, Try.ntmps8
    go_wp2_with fail
    clear d0 d1
    obtain ⟨u1, hu⟩ : ∃ k, w.heap.size = k := ⟨_, rfl⟩
    obtain ⟨w1, hW⟩ : ∃ W, w.alloc (.cells #[.int .i64 b, .slice A n c] 24) = W := ⟨_, rfl⟩
    rw [hW] at k1 hb ⊢
    rw [hu] at k1 ⊢
    clear hW hu
    have Bw1 : Below w.heap.size w w1 := hb
    replace h_y := h_y.next hb (Nat.le_refl _) hb.size
    replace h_p := h_p.next hb (Nat.le_refl _) hb.size
    clear hb
    refine (aFine b A n c ps _ h_p _ HF).mono ?_
    rintro e w2 ⟨rfl, hb⟩
    have Bw2 : Below w.heap.size w w2 := Bw1.trans (hb.mono Bw1.size)
    replace h_y := h_y.next hb (Nat.le_refl _) hb.size
    replace h_p := h_p.next hb (Nat.le_refl _) hb.size
    replace k1 := k1.below hb k1.lt
    clear Bw1
    clear hb
    have d_k1_0 := k1.cell 0
    have d_k1_1 := k1.cell 1
    go_wp2_with fail
    clear d_k1_0 d_k1_1
    refine (aWorks _).mono ?_
    rintro e w3 ⟨rfl, hb⟩
    have Bw3 : Below w.heap.size w w3 := Bw2.trans (hb.mono Bw2.size)
    replace h_y := h_y.next hb (Nat.le_refl _) hb.size
    replace h_p := h_p.next hb (Nat.le_refl _) hb.size
    replace k1 := k1.below hb k1.lt
    clear Bw2
    clear hb
    go_wp2
    go_ret
    exact ⟨rfl, Bw3⟩
  have HF : Hid (decide (n ≤ 14 ∧ checkPier b ps = 0) = true) := Lib.hid (decide_eq_true hf)
  have HP : Hid (Pier b ps) := Lib.hid (checkPier_ok.1 hf.2)
  have HL := Lib.hid hx.len
  have hn1 : 1 ≤ n := by rw [← HL.out]; exact HP.out.lo
  have hn10 : n ≤ 10 := by rw [← HL.out]; exact HP.out.hi
  clear hf
  by_cases hm40 : 40 < my
  · have k1 := Bk.new w 24 #[.int .i64 b, .slice A n c]
    have hb : Below w.heap.size w (w.alloc (.cells #[.int .i64 b, .slice A n c] 24)) := (Below.refl _ _).alloc (Nat.le_refl _) _
    have d0 := k1.cell 0
    have d1 := k1.cell 1
    go_enter Try.func8, Try.ntmps8
    go_wp2_with fail
    clear d0 d1
    obtain ⟨u1, hu⟩ : ∃ k, w.heap.size = k := ⟨_, rfl⟩
    obtain ⟨w1, hW⟩ : ∃ W, w.alloc (.cells #[.int .i64 b, .slice A n c] 24) = W := ⟨_, rfl⟩
    rw [hW] at k1 hb ⊢
    rw [hu] at k1 ⊢
    clear hW hu
    have Bw1 : Below w.heap.size w w1 := hb
    replace h_y := h_y.next hb (Nat.le_refl _) hb.size
    replace h_p := h_p.next hb (Nat.le_refl _) hb.size
    clear hb
    refine (aFine b A n c ps _ h_p _ HF).mono ?_
    rintro e w2 ⟨rfl, hb⟩
    have Bw2 : Below w.heap.size w w2 := Bw1.trans (hb.mono Bw1.size)
    replace h_y := h_y.next hb (Nat.le_refl _) hb.size
    replace h_p := h_p.next hb (Nat.le_refl _) hb.size
    replace k1 := k1.below hb k1.lt
    clear Bw1
    clear hb
    have d_k1_0 := k1.cell 0
    have d_k1_1 := k1.cell 1
    go_wp2_with fail
    clear d_k1_0 d_k1_1
    refine (aWorks _).mono ?_
    rintro e w3 ⟨rfl, hb⟩
    have Bw3 : Below w.heap.size w w3 := Bw2.trans (hb.mono Bw2.size)
    replace h_y := h_y.next hb (Nat.le_refl _) hb.size
    replace h_p := h_p.next hb (Nat.le_refl _) hb.size
    replace k1 := k1.below hb k1.lt
    clear Bw2
    clear hb
    go_wp2
    go_ret
    exact ⟨rfl, Bw3⟩
  cases hwd : wideN N Rs
  rotate_left
  · have HWD := Lib.hid hwd
    clear hwd
    have k1 := Bk.new w 24 #[.int .i64 b, .slice A n c]
    have hb : Below w.heap.size w (w.alloc (.cells #[.int .i64 b, .slice A n c] 24)) := (Below.refl _ _).alloc (Nat.le_refl _) _
    have d0 := k1.cell 0
    have d1 := k1.cell 1
    go_enter Try.func8, Try.ntmps8
    go_wp2_with fail
    clear d0 d1
    obtain ⟨u1, hu⟩ : ∃ k, w.heap.size = k := ⟨_, rfl⟩
    obtain ⟨w1, hW⟩ : ∃ W, w.alloc (.cells #[.int .i64 b, .slice A n c] 24) = W := ⟨_, rfl⟩
    rw [hW] at k1 hb ⊢
    rw [hu] at k1 ⊢
    clear hW hu
    have Bw1 : Below w.heap.size w w1 := hb
    replace h_b := h_b.next hb (Nat.le_refl _) hb.size
    replace h_p := h_p.next hb (Nat.le_refl _) hb.size
    clear hb
    refine (aFine b A n c ps _ h_p _ HF).mono ?_
    rintro e w2 ⟨rfl, hb⟩
    have Bw2 : Below w.heap.size w w2 := Bw1.trans (hb.mono Bw1.size)
    replace h_b := h_b.next hb (Nat.le_refl _) hb.size
    replace h_p := h_p.next hb (Nat.le_refl _) hb.size
    replace k1 := k1.below hb k1.lt
    clear Bw1
    clear hb
    have d_k1_0 := k1.cell 0
    have d_k1_1 := k1.cell 1
    go_wp2_with fail
    clear d_k1_0 d_k1_1
    refine (aWideT D N dc Rs _ h_b true HWD).mono ?_
    rintro e w3 ⟨rfl, hb⟩
    have Bw3 : Below w.heap.size w w3 := Bw2.trans (hb.mono Bw2.size)
    replace h_b := h_b.next hb (Nat.le_refl _) hb.size
    replace h_p := h_p.next hb (Nat.le_refl _) hb.size
    replace k1 := k1.below hb k1.lt
    clear Bw2
    clear hb
    have d_k1_0 := k1.cell 0
    have d_k1_1 := k1.cell 1
    go_wp2_with fail
    clear d_k1_0 d_k1_1
    refine (aWorks _).mono ?_
    rintro e w4 ⟨rfl, hb⟩
    have Bw4 : Below w.heap.size w w4 := Bw3.trans (hb.mono Bw3.size)
    replace h_b := h_b.next hb (Nat.le_refl _) hb.size
    replace h_p := h_p.next hb (Nat.le_refl _) hb.size
    replace k1 := k1.below hb k1.lt
    clear Bw3
    clear hb
    go_wp2
    go_ret
    exact ⟨rfl, Bw4⟩
  by_cases hin : inTimeB b ps (walkedL b ps bs) = true
  · by_cases heb : (ckBoundsS b ps Rs).2 = 0
    · exact wProvedB b A n c ps Y my cy bs D N dc Rs w hx hc hy h_b HF hm40 (Lib.hid hwd) (Lib.hid hin) (Lib.hid heb)
    · exact wProvedC b A n c ps Y my cy bs D N dc Rs w hx hc hy h_b HF hm40 (Lib.hid hwd) (Lib.hid hin) (Lib.hid heb)
  · exact wProvedA b A n c ps Y my cy bs D N dc Rs w hx hc hy h_b HF hm40 (Lib.hid hwd) (Lib.hid hin)

set_option maxRecDepth 100000 in
theorem RoundProved_lifted (os : Go.Os) (started : os.Started) (H : Type) (enc : TypeId × Value → H) :
    ReturnsInHanded {} Try.checked os 8 .any (Rows.roundProvedSpec.pre6 enc Try.prog Try.f8 Rows.roundProvedRow.domain false) (Rows.roundProvedSpec.post enc Try.prog Try.f8 false true false false) := by
  refine returnsInHanded_of_change (C := Try.checked) row_own started (by kernel_rfl) Try.func8
    (ChangeSpec.witness6 (enc := enc) (C := Try.checked) false ⟨#[], #[.agg #[.int .i64 0, .slice none 0 0], .slice none 0 0, .slice none 0 0], []⟩ 8 (by kernel_rfl) (by kernel_rfl) (by kernel_rfl) (by kernel_rfl)) ?_
  intro W base args ds gs before hval0 hW _ _
  have hval : ∀ (j : Nat) t v, Try.f8.params[j]? = some t → args[j]? = some v → Value.okWide Try.prog W .any base t v := hval0
  have hW' := hW
  obtain ⟨p, q, hA0, hV, rfl, _, _⟩ := hW
  have hA : DataW.TrodAll enc Try.prog W 0 (fun _ => true) true Try.f8.params.toList args.toList ds p := hA0
  rw [Try.params8] at hA hval
  obtain ⟨v0, v1, v2, d0, d1, d2, p0, p1, p2, rfl, rfl, rfl, h0, h1, h2⟩ := trodAll_three hA
  obtain ⟨rfl, rfl⟩ := trodVars_none hV
  clear hA0 hval0
  simp only [List.append_nil] at hW'
  have hlt : ∀ x ∈ (p0 ++ p1 ++ p2), x.block < W.heap.size := fun x hx => by simpa using hW'.lt x hx
  have a0 := fun W' (hb : Below W.heap.size W W') => row_stays (t := 24) (by kernel_rfl) (of_decide_eq_true (by kernel_rfl)) h0 (fun x hx => hlt x (by simp [hx])) hb
  have a1 := fun W' (hb : Below W.heap.size W W') => row_stays (t := 55) (by kernel_rfl) (of_decide_eq_true (by kernel_rfl)) h1 (fun x hx => hlt x (by simp [hx])) hb
  have a2 := fun W' (hb : Below W.heap.size W W') => row_stays (t := 47) (by kernel_rfl) (of_decide_eq_true (by kernel_rfl)) h2 (fun x hx => hlt x (by simp [hx])) hb
  obtain ⟨b0, A0, n0, c0, ps0, rfl, hc0, hm0, hx0⟩ := row_pier (hval 0 24 v0 rfl rfl) h0 (fun x hx => hlt x (by simp [hx]))
  obtain ⟨A1, n1, c1, xs1, rfl, hc1, hm1, hx1, hw1⟩ := row_ints (t := 55) (e := 5) (k := .u8) (by kernel_rfl) (by kernel_rfl) (by kernel_rfl) (hval 1 55 v1 rfl rfl) h1 (fun x hx => hlt x (by simp [hx]))
  obtain ⟨A2, n2, c2, Rs2, rfl, hc2, hm2, hx2, hz2⟩ := row_bounds (hval 2 47 v2 rfl rfl) h2 (fun x hx => hlt x (by simp [hx]))
  refine (wProved b0 A0 n0 c0 ps0 A1 n1 c1 xs1 A2 n2 c2 Rs2 W hx0 hc0 (Ru.of_row hx1 hw1) hx2).mono fun e W' ⟨he, hb⟩ => ?_
  subst he
  exact ⟨_, rfl, _, _, _, [], (p0 ++ p1 ++ p2), [], hW', trodAll_mk1 (shut_bool Try.underlying4 true), (by simp only [List.append_assoc]; exact trodAll_mk3 (a0 _ hb) (a1 _ hb) (a2 _ hb)), rfl, hb.frame _, fun h => by cases h⟩
theorem RoundProved_holds : Rows.RoundProvedSaid :=
  OpenClaim.holds_of_wide 8 Try.f8 rfl rfl rfl rfl rfl rfl rfl ⟨rfl, rfl, rfl, rfl, rfl⟩ rfl rfl rfl rfl rfl (by kernel_rfl) Try.func8 (by kernel_rfl)
    (of_decide_eq_true (by kernel_rfl)) (by unfold Func.isWrapper; first | (rw [if_pos (by decide +kernel)]; kernel_rfl) | (rw [if_neg (by decide +kernel)]; exact ⟨rfl, rfl⟩))
    (fun os started H enc _ => RoundProved_lifted os started H enc)
#print axioms RoundProved_holds
end Go.Proofs.Ytaekjnjignlmoaa
