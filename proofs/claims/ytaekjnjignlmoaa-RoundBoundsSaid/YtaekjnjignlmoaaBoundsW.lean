/-
  RoundBounds: the value of bounds, and the bounds that are returned, are what the definitions say, or the error: for every pier and all bounds; no condition.
-/
import Derived.Test.YtaekjnjignlmoaaWorks
import Derived.Test.YtaekjnjignlmoaaRowP
import Derived.Test.YtaekjnjignlmoaaWl
import Derived.Test.YtaekjnjignlmoaaRowB
import Derived.Test.YtaekjnjignlmoaaR25
namespace Go.Proofs.Ytaekjnjignlmoaa
open Go.Shelf Go.ChangeShapes Go.WideShapes Go.ChangeAt Go.RowKit

theorem bounds_len (b : Int) (ps : List (Int × Int)) : (boundsS b ps).length ≤ 1048576 ∧ ∀ L ∈ boundsS b ps, L.length ≤ 1048576 := by
  by_cases h : checkPier b ps = 0
  · have h1 := bounds_small (checkPier_ok.1 h) rfl
    exact ⟨by omega, fun L hL => by have := h1.2.1 L hL; omega⟩
  · unfold boundsS
    rw [if_neg h]
    exact ⟨by simp, fun L hL => by cases hL⟩
set_option maxRecDepth 100000 in
set_option maxHeartbeats 8000000 in
theorem wBounds (b : Int) (A : Option Addr) (n c : Nat) (ps : List (Int × Int)) (D : Option Addr) (N dc : Nat) (Rs : List (List (Int × Int))) (w : World) (hx : Rp w w.heap.size A n ps) (hc : n ≤ c) (h_b : Bd w w.heap.size D N Rs) :
    Calls Try.prog 6 #[.agg #[.int .i64 b, .slice A n c], .slice D N dc] w (RetB w true) := by
  have h_p := hx
  by_cases hg : 14 < n
  · have HG : Hid (decide (14 < n) = true) := Lib.hid (decide_eq_true hg)
    have k1 := Bk.new w 24 #[.int .i64 b, .slice A n c]
    have hb : Below w.heap.size w (w.alloc (.cells #[.int .i64 b, .slice A n c] 24)) := (Below.refl _ _).alloc (Nat.le_refl _) _
    have d0 := k1.cell 0
    have d1 := k1.cell 1
    go_enter Try.func6, Try.ntmps6
    go_wp2_with fail
    clear d0 d1
    obtain ⟨u1, hu⟩ : ∃ k, w.heap.size = k := ⟨_, rfl⟩
    obtain ⟨w1, hW⟩ : ∃ W, w.alloc (.cells #[.int .i64 b, .slice A n c] 24) = W := ⟨_, rfl⟩
    rw [hW] at k1 hb ⊢
    rw [hu] at k1 ⊢
    clear hW hu
    have Bw1 : Below w.heap.size w w1 := hb
    replace h_p := h_p.next hb (Nat.le_refl _) hb.size
    clear hb
    refine (aGreat b A n c _ true HG).mono ?_
    rintro e w2 ⟨rfl, hb⟩
    have Bw2 : Below w.heap.size w w2 := Bw1.trans (hb.mono Bw1.size)
    replace h_p := h_p.next hb (Nat.le_refl _) hb.size
    replace k1 := k1.below hb k1.lt
    clear Bw1
    clear hb
    have d_k1_0 := k1.cell 0
    have d_k1_1 := k1.cell 1
    go_wp2_with fail
    clear d_k1_0 d_k1_1
    refine (aWorks _).mono ?_
    rintro e w3 ⟨rfl, hb⟩
    have Bw3 : Below w.heap.size w w3 := Bw2.trans (hb.mono Bw2.size)
    replace h_p := h_p.next hb (Nat.le_refl _) hb.size
    replace k1 := k1.below hb k1.lt
    clear Bw2
    clear hb
    go_wp2
    go_ret
    exact ⟨rfl, Bw3⟩
  have HG : Hid (decide (14 < n) = false) := Lib.hid (decide_eq_false hg)
  cases hwd : wideN N Rs
  rotate_left
  · have HWD := Lib.hid hwd
    clear hwd
    have k1 := Bk.new w 24 #[.int .i64 b, .slice A n c]
    have hb : Below w.heap.size w (w.alloc (.cells #[.int .i64 b, .slice A n c] 24)) := (Below.refl _ _).alloc (Nat.le_refl _) _
    have d0 := k1.cell 0
    have d1 := k1.cell 1
    go_enter Try.func6, Try.ntmps6
    go_wp2_with fail
    clear d0 d1
    obtain ⟨u1, hu⟩ : ∃ k, w.heap.size = k := ⟨_, rfl⟩
    obtain ⟨w1, hW⟩ : ∃ W, w.alloc (.cells #[.int .i64 b, .slice A n c] 24) = W := ⟨_, rfl⟩
    rw [hW] at k1 hb ⊢
    rw [hu] at k1 ⊢
    clear hW hu
    have Bw1 : Below w.heap.size w w1 := hb
    replace h_p := h_p.next hb (Nat.le_refl _) hb.size
    replace h_b := h_b.next hb (Nat.le_refl _) hb.size
    clear hb
    refine (aGreat b A n c _ false HG).mono ?_
    rintro e w2 ⟨rfl, hb⟩
    have Bw2 : Below w.heap.size w w2 := Bw1.trans (hb.mono Bw1.size)
    replace h_p := h_p.next hb (Nat.le_refl _) hb.size
    replace h_b := h_b.next hb (Nat.le_refl _) hb.size
    replace k1 := k1.below hb k1.lt
    clear Bw1
    clear hb
    have d_k1_0 := k1.cell 0
    have d_k1_1 := k1.cell 1
    go_wp2_with fail
    clear d_k1_0 d_k1_1
    refine (aWideT D N dc Rs _ h_b true HWD).mono ?_
    rintro e w3 ⟨rfl, hb⟩
    have Bw3 : Below w.heap.size w w3 := Bw2.trans (hb.mono Bw2.size)
    replace h_p := h_p.next hb (Nat.le_refl _) hb.size
    replace h_b := h_b.next hb (Nat.le_refl _) hb.size
    replace k1 := k1.below hb k1.lt
    clear Bw2
    clear hb
    have d_k1_0 := k1.cell 0
    have d_k1_1 := k1.cell 1
    go_wp2_with fail
    clear d_k1_0 d_k1_1
    refine (aWorks _).mono ?_
    rintro e w4 ⟨rfl, hb⟩
    have Bw4 : Below w.heap.size w w4 := Bw3.trans (hb.mono Bw3.size)
    replace h_p := h_p.next hb (Nat.le_refl _) hb.size
    replace h_b := h_b.next hb (Nat.le_refl _) hb.size
    replace k1 := k1.below hb k1.lt
    clear Bw3
    clear hb
    go_wp2
    go_ret
    exact ⟨rfl, Bw4⟩
  obtain ⟨hN14, hL14⟩ := wideN_false hwd
  have HLs : Hid (∀ L ∈ Rs, L.length ≤ 1048576) := Lib.hid (fun L hL => by have := hL14 L hL; omega)
  have HWD := Lib.hid hwd
  clear hL14 hwd
  obtain ⟨v1, v2, HV⟩ : ∃ v1 v2, Hid (ckBoundsS b ps Rs = (v1, v2)) := ⟨_, _, Lib.hid rfl⟩
  obtain ⟨cp, HCP⟩ : ∃ q, Hid (checkPier b ps = q) := ⟨_, Lib.hid rfl⟩
  obtain ⟨Qs, HQS⟩ : ∃ Q, Hid (boundsS b ps = Q) := ⟨_, Lib.hid rfl⟩
  have HQ11 := Lib.hid (bounds_len b ps)
  rw [HQS.out] at HQ11
  have HQL := Lib.hid HQ11.out.2
  have k1 := Bk.new w 24 #[.int .i64 b, .slice A n c]
  have hb : Below w.heap.size w (w.alloc (.cells #[.int .i64 b, .slice A n c] 24)) := (Below.refl _ _).alloc (Nat.le_refl _) _
  have d0 := k1.cell 0
  have d1 := k1.cell 1
  go_enter Try.func6, Try.ntmps6
  go_wp2_with fail
  clear d0 d1
  obtain ⟨u1, hu⟩ : ∃ k, w.heap.size = k := ⟨_, rfl⟩
  obtain ⟨w1, hW⟩ : ∃ W, w.alloc (.cells #[.int .i64 b, .slice A n c] 24) = W := ⟨_, rfl⟩
  rw [hW] at k1 hb ⊢
  rw [hu] at k1 ⊢
  clear hW hu
  have Bw1 : Below w.heap.size w w1 := hb
  replace h_p := h_p.next hb (Nat.le_refl _) hb.size
  replace h_b := h_b.next hb (Nat.le_refl _) hb.size
  clear hb
  refine (aGreat b A n c _ false HG).mono ?_
  rintro e w2 ⟨rfl, hb⟩
  have Bw2 : Below w.heap.size w w2 := Bw1.trans (hb.mono Bw1.size)
  replace h_p := h_p.next hb (Nat.le_refl _) hb.size
  replace h_b := h_b.next hb (Nat.le_refl _) hb.size
  replace k1 := k1.below hb k1.lt
  clear Bw1
  clear hb
  have d_k1_0 := k1.cell 0
  have d_k1_1 := k1.cell 1
  go_wp2_with fail
  clear d_k1_0 d_k1_1
  refine (aWideT D N dc Rs _ h_b false HWD).mono ?_
  rintro e w3 ⟨rfl, hb⟩
  have Bw3 : Below w.heap.size w w3 := Bw2.trans (hb.mono Bw2.size)
  replace h_p := h_p.next hb (Nat.le_refl _) hb.size
  replace h_b := h_b.next hb (Nat.le_refl _) hb.size
  replace k1 := k1.below hb k1.lt
  clear Bw2
  clear hb
  have d_k1_0 := k1.cell 0
  have d_k1_1 := k1.cell 1
  go_wp2_with fail
  clear d_k1_0 d_k1_1
  refine (fCkBoundsT b A n c ps D N dc Rs _ h_p (by omega) hc h_b (by omega) HLs (v1, v2) HV).mono ?_
  rintro e w4 ⟨rfl, hb⟩
  have Bw4 : Below w.heap.size w w4 := Bw3.trans (hb.mono Bw3.size)
  replace h_p := h_p.next hb (Nat.le_refl _) hb.size
  replace h_b := h_b.next hb (Nat.le_refl _) hb.size
  replace k1 := k1.below hb k1.lt
  clear Bw3
  clear hb
  have d_k1_0 := k1.cell 0
  have d_k1_1 := k1.cell 1
  go_wp2_with fail
  clear d_k1_0 d_k1_1
  refine (rCheckBounds b A n c ps _ h_p (by omega) D N dc Rs h_b (by omega) HLs (v1, v2) HV).mono ?_
  rintro e w5 ⟨rfl, hb⟩
  have Bw5 : Below w.heap.size w w5 := Bw4.trans (hb.mono Bw4.size)
  replace h_p := h_p.next hb (Nat.le_refl _) hb.size
  replace h_b := h_b.next hb (Nat.le_refl _) hb.size
  replace k1 := k1.below hb k1.lt
  clear Bw4
  clear hb
  clear h_b
  have d_k1_0 := k1.cell 0
  have d_k1_1 := k1.cell 1
  go_wp2_with fail
  clear d_k1_0 d_k1_1
  refine (fBoundsT b A n c ps _ h_p (by omega) hc cp HCP Qs HQS).mono ?_
  rintro e w6 ⟨Da, Na, da, rfl, hbd, _, hb⟩
  have Bw6 : Below w.heap.size w w6 := Bw5.trans (hb.mono Bw5.size)
  replace h_p := h_p.next hb (Nat.le_refl _) hb.size
  replace k1 := k1.below hb k1.lt
  clear Bw5
  clear hb
  have ra := hbd
  clear hbd
  have d_k1_0 := k1.cell 0
  have d_k1_1 := k1.cell 1
  go_wp2_with fail
  clear d_k1_0 d_k1_1
  refine (rBounds b A n c ps _ h_p (by omega) cp HCP Qs HQS).mono ?_
  rintro e w7 ⟨Db, Nb, db, rfl, hbd, _, hb⟩
  have Bw7 : Below w.heap.size w w7 := Bw6.trans (hb.mono Bw6.size)
  replace h_p := h_p.next hb (Nat.le_refl _) hb.size
  replace k1 := k1.below hb k1.lt
  replace ra := ra.next hb (Nat.le_refl _) hb.size
  clear Bw6
  clear hb
  have rb := hbd
  clear hbd
  have d_k1_0 := k1.cell 0
  have d_k1_1 := k1.cell 1
  go_wp2_with fail
  clear d_k1_0 d_k1_1
  refine (aSame _ _ _ _ _ _ _ _ _ _ _ ra rb (by have h := ra.len; rw [← h]; exact HQ11.out.1) (by have h := rb.len; rw [← h]; exact HQ11.out.1) HQL HQL true (Lib.hid (decide_eq_true rfl))).mono ?_
  rintro e w8 ⟨rfl, hb⟩
  have Bw8 : Below w.heap.size w w8 := Bw7.trans (hb.mono Bw7.size)
  replace h_p := h_p.next hb (Nat.le_refl _) hb.size
  replace k1 := k1.below hb k1.lt
  replace ra := ra.next hb (Nat.le_refl _) hb.size
  replace rb := rb.next hb (Nat.le_refl _) hb.size
  clear Bw7
  clear hb
  have d_k1_0 := k1.cell 0
  have d_k1_1 := k1.cell 1
  go_wp2_with fail
  clear d_k1_0 d_k1_1
  refine (aWorks _).mono ?_
  rintro e w9 ⟨rfl, hb⟩
  have Bw9 : Below w.heap.size w w9 := Bw8.trans (hb.mono Bw8.size)
  replace h_p := h_p.next hb (Nat.le_refl _) hb.size
  replace k1 := k1.below hb k1.lt
  replace ra := ra.next hb (Nat.le_refl _) hb.size
  replace rb := rb.next hb (Nat.le_refl _) hb.size
  clear Bw8
  clear hb
  go_wp2
  go_ret
  exact ⟨rfl, Bw9⟩

set_option maxRecDepth 100000 in
theorem RoundBounds_lifted (os : Go.Os) (started : os.Started) (H : Type) (enc : TypeId × Value → H) :
    ReturnsInHanded {} Try.checked os 6 .any (Rows.roundBoundsSpec.pre6 enc Try.prog Try.f6 Rows.roundBoundsRow.domain false) (Rows.roundBoundsSpec.post enc Try.prog Try.f6 false true false false) := by
  refine returnsInHanded_of_change (C := Try.checked) row_own started (by kernel_rfl) Try.func6
    (ChangeSpec.witness6 (enc := enc) (C := Try.checked) false ⟨#[], #[.agg #[.int .i64 0, .slice none 0 0], .slice none 0 0], []⟩ 8 (by kernel_rfl) (by kernel_rfl) (by kernel_rfl) (by kernel_rfl)) ?_
  intro W base args ds gs before hval0 hW _ _
  have hval : ∀ (j : Nat) t v, Try.f6.params[j]? = some t → args[j]? = some v → Value.okWide Try.prog W .any base t v := hval0
  have hW' := hW
  obtain ⟨p, q, hA0, hV, rfl, _, _⟩ := hW
  have hA : DataW.TrodAll enc Try.prog W 0 (fun _ => true) true Try.f6.params.toList args.toList ds p := hA0
  rw [Try.params6] at hA hval
  obtain ⟨v0, v1, d0, d1, p0, p1, rfl, rfl, rfl, h0, h1⟩ := trodAll_two hA
  obtain ⟨rfl, rfl⟩ := trodVars_none hV
  clear hA0 hval0
  simp only [List.append_nil] at hW'
  have hlt : ∀ x ∈ (p0 ++ p1), x.block < W.heap.size := fun x hx => by simpa using hW'.lt x hx
  have a0 := fun W' (hb : Below W.heap.size W W') => row_stays (t := 24) (by kernel_rfl) (of_decide_eq_true (by kernel_rfl)) h0 (fun x hx => hlt x (by simp [hx])) hb
  have a1 := fun W' (hb : Below W.heap.size W W') => row_stays (t := 47) (by kernel_rfl) (of_decide_eq_true (by kernel_rfl)) h1 (fun x hx => hlt x (by simp [hx])) hb
  obtain ⟨b0, A0, n0, c0, ps0, rfl, hc0, hm0, hx0⟩ := row_pier (hval 0 24 v0 rfl rfl) h0 (fun x hx => hlt x (by simp [hx]))
  obtain ⟨A1, n1, c1, Rs1, rfl, hc1, hm1, hx1, hz1⟩ := row_bounds (hval 1 47 v1 rfl rfl) h1 (fun x hx => hlt x (by simp [hx]))
  refine (wBounds b0 A0 n0 c0 ps0 A1 n1 c1 Rs1 W hx0 hc0 hx1).mono fun e W' ⟨he, hb⟩ => ?_
  subst he
  exact ⟨_, rfl, _, _, _, [], (p0 ++ p1), [], hW', trodAll_mk1 (shut_bool Try.underlying4 true), trodAll_mk2 (a0 _ hb) (a1 _ hb), rfl, hb.frame _, fun h => by cases h⟩
theorem RoundBounds_holds : Rows.RoundBoundsSaid :=
  OpenClaim.holds_of_wide 6 Try.f6 rfl rfl rfl rfl rfl rfl rfl ⟨rfl, rfl, rfl, rfl, rfl⟩ rfl rfl rfl rfl rfl (by kernel_rfl) Try.func6 (by kernel_rfl)
    (of_decide_eq_true (by kernel_rfl)) (by unfold Func.isWrapper; first | (rw [if_pos (by decide +kernel)]; kernel_rfl) | (rw [if_neg (by decide +kernel)]; exact ⟨rfl, rfl⟩))
    (fun os started H enc _ => RoundBounds_lifted os started H enc)
#print axioms RoundBounds_holds
end Go.Proofs.Ytaekjnjignlmoaa
