/-
  RoundWithin: in a given round that is in time the step of each stop is within what Within returns; there are as many rounds as can be counted by going through all, and both ends of Within are steps of one of them: for every pier, every round by numbers and every stop; no condition.
-/
import Derived.Test.YtaekjnjignlmoaaWorks
import Derived.Test.YtaekjnjignlmoaaRowP
import Derived.Test.YtaekjnjignlmoaaWl
import Derived.Test.YtaekjnjignlmoaaWk
import Derived.Test.YtaekjnjignlmoaaR8
namespace Go.Proofs.Ytaekjnjignlmoaa
open Go.Shelf Go.ChangeShapes Go.WideShapes Go.ChangeAt Go.RowKit

set_option maxRecDepth 100000 in
set_option maxHeartbeats 32000000 in
theorem wWithin (b : Int) (A : Option Addr) (n c : Nat) (ps : List (Int × Int)) (Y : Option Addr) (my cy : Nat) (bs : List Int) (y0 : Int) (hy0 : 0 ≤ y0) (hy1 : y0 ≤ 255) (w : World) (hx : Rp w w.heap.size A n ps) (hc : n ≤ c) (hy : Ru w w.heap.size Y my bs) :
    Calls Try.prog 10 #[.agg #[.int .i64 b, .slice A n c], .slice Y my cy, .int .u8 y0] w (RetB w true) := by
  have h_p := hx
  have h_y := hy
  by_cases hf : n ≤ 14 ∧ checkPier b ps = 0
  rotate_left
  · have HF : Hid (decide (n ≤ 14 ∧ checkPier b ps = 0) = false) := Lib.hid (decide_eq_false hf)
    have k1 := Bk.new w 24 #[.int .i64 b, .slice A n c]
    have hb : Below w.heap.size w (w.alloc (.cells #[.int .i64 b, .slice A n c] 24)) := (Below.refl _ _).alloc (Nat.le_refl _) _
    have d0 := k1.cell 0
    have d1 := k1.cell 1
    go_enter Try.func10, Try.ntmps10
    go_wp2_with fail
    clear d0 d1
    obtain ⟨u1, hu⟩ : ∃ k, w.heap.size = k := ⟨_, rfl⟩
    obtain ⟨w1, hW⟩ : ∃ W, w.alloc (.cells #[.int .i64 b, .slice A n c] 24) = W := ⟨_, rfl⟩
    rw [hW] at k1 hb ⊢
    rw [hu] at k1 ⊢
    clear hW hu
    have Bw1 : Below w.heap.size w w1 := hb
    replace h_y := h_y.next hb (Nat.le_refl _) hb.size
    replace h_p := h_p.next hb (Nat.le_refl _) hb.size
    clear hb
    refine (aFine b A n c ps _ h_p _ HF).mono ?_
    rintro e w2 ⟨rfl, hb⟩
    have Bw2 : Below w.heap.size w w2 := Bw1.trans (hb.mono Bw1.size)
    replace h_y := h_y.next hb (Nat.le_refl _) hb.size
    replace h_p := h_p.next hb (Nat.le_refl _) hb.size
    replace k1 := k1.below hb k1.lt
    clear Bw1
    clear hb
    have d_k1_0 := k1.cell 0
    have d_k1_1 := k1.cell 1
    go_wp2_with fail
    clear d_k1_0 d_k1_1
    refine (aWorks _).mono ?_
    rintro e w3 ⟨rfl, hb⟩
    have Bw3 : Below w.heap.size w w3 := Bw2.trans (hb.mono Bw2.size)
    replace h_y := h_y.next hb (Nat.le_refl _) hb.size
    replace h_p := h_p.next hb (Nat.le_refl _) hb.size
    replace k1 := k1.below hb k1.lt
    clear Bw2
    clear hb
    go_wp2
    go_ret
    exact ⟨rfl, Bw3⟩
  have HF : Hid (decide (n ≤ 14 ∧ checkPier b ps = 0) = true) := Lib.hid (decide_eq_true hf)
  have HP : Hid (Pier b ps) := Lib.hid (checkPier_ok.1 hf.2)
  have HL := Lib.hid hx.len
  have hn1 : 1 ≤ n := by rw [← HL.out]; exact HP.out.lo
  have hn10 : n ≤ 10 := by rw [← HL.out]; exact HP.out.hi
  clear hf
  by_cases hm40 : 40 < my
  · have k1 := Bk.new w 24 #[.int .i64 b, .slice A n c]
    have hb : Below w.heap.size w (w.alloc (.cells #[.int .i64 b, .slice A n c] 24)) := (Below.refl _ _).alloc (Nat.le_refl _) _
    have d0 := k1.cell 0
    have d1 := k1.cell 1
    go_enter Try.func10, Try.ntmps10
    go_wp2_with fail
    clear d0 d1
    obtain ⟨u1, hu⟩ : ∃ k, w.heap.size = k := ⟨_, rfl⟩
    obtain ⟨w1, hW⟩ : ∃ W, w.alloc (.cells #[.int .i64 b, .slice A n c] 24) = W := ⟨_, rfl⟩
    rw [hW] at k1 hb ⊢
    rw [hu] at k1 ⊢
    clear hW hu
    have Bw1 : Below w.heap.size w w1 := hb
    replace h_y := h_y.next hb (Nat.le_refl _) hb.size
    replace h_p := h_p.next hb (Nat.le_refl _) hb.size
    clear hb
    refine (aFine b A n c ps _ h_p _ HF).mono ?_
    rintro e w2 ⟨rfl, hb⟩
    have Bw2 : Below w.heap.size w w2 := Bw1.trans (hb.mono Bw1.size)
    replace h_y := h_y.next hb (Nat.le_refl _) hb.size
    replace h_p := h_p.next hb (Nat.le_refl _) hb.size
    replace k1 := k1.below hb k1.lt
    clear Bw1
    clear hb
    have d_k1_0 := k1.cell 0
    have d_k1_1 := k1.cell 1
    go_wp2_with fail
    clear d_k1_0 d_k1_1
    refine (aWorks _).mono ?_
    rintro e w3 ⟨rfl, hb⟩
    have Bw3 : Below w.heap.size w w3 := Bw2.trans (hb.mono Bw2.size)
    replace h_y := h_y.next hb (Nat.le_refl _) hb.size
    replace h_p := h_p.next hb (Nat.le_refl _) hb.size
    replace k1 := k1.below hb k1.lt
    clear Bw2
    clear hb
    go_wp2
    go_ret
    exact ⟨rfl, Bw3⟩
  have hmix : Try.prog.follows .mixedOrders = true := by kernel_rfl
  obtain ⟨NG, HNG⟩ : ∃ N, Hid ((goodR b ps).length = N) := ⟨_, Lib.hid rfl⟩
  have hNGb : NG ≤ 252 := by
    have h1 := allR_many HP.out
    have h2 := List.length_filter_le (inTimeB b ps) (allR b ps)
    have h3 := HNG.out
    unfold goodR at h3
    omega
  obtain ⟨t, HT0⟩ : ∃ t : Nat, Hid (y0 % (n : Int) = (t : Int)) := ⟨(y0 % (n : Int)).toNat, Lib.hid (by have := Int.emod_nonneg y0 (b := (n : Int)) (by omega); omega)⟩
  have ht3 : y0.tmod (n : Int) = (t : Int) := (Int.tmod_eq_emod_of_nonneg hy0).trans HT0.out
  have ht4 : y0 % (n : Int) = (t : Int) := HT0.out
  have htn : t < n := by have := Int.emod_lt_of_pos y0 (b := (n : Int)) (by omega); have := HT0.out; omega
  have hn0 : ¬ n = 0 := by omega
  have hwy : IntKind.i64.wrap y0 = y0 := IntWalk.i64_in _ (by omega)
  have HC : Hid (countS b ps = ((NG : Int), 0)) := Lib.hid (by unfold countS; rw [if_pos (checkPier_ok.2 HP.out), HNG.out])
  have HWA : Hid (walkedL b ps bs ∈ allR b ps) := Lib.hid (walked_all b ps bs)
  obtain ⟨xs, HXS⟩ : ∃ xs, Hid (stepsAt b ps t = xs) := ⟨_, Lib.hid rfl⟩
  have HCKW : Hid (checkRoundS b ps (ofN (walkedL b ps bs)) = if inTimeB b ps (walkedL b ps bs) = true then ((stepsL b ps (walkedL b ps bs)).take ps.length, 0) else ([], 12)) := Lib.hid (ckRound_all HP.out HWA.out)
  by_cases hng : 0 < NG
  · have HNG0 : Hid (0 < NG) := Lib.hid hng
    have HGE : Hid (goodR b ps ≠ []) := Lib.hid (fun e => by have := HNG.out; rw [e] at this; simp at this; omega)
    obtain ⟨lo, HLO⟩ : ∃ lo, Hid (minOf xs = lo) := ⟨_, Lib.hid rfl⟩
    obtain ⟨hi, HHI⟩ : ∃ hi, Hid (maxOf xs = hi) := ⟨_, Lib.hid rfl⟩
    have HXN : Hid (xs ≠ []) := Lib.hid (by
      rw [← HXS.out]
      unfold stepsAt
      rw [Ne, List.map_eq_nil_iff]
      exact HGE.out)
    have HLH : Hid (lo ∈ xs ∧ hi ∈ xs) := Lib.hid (by rw [← HLO.out, ← HHI.out]; exact ⟨minOf_mem HXN.out, maxOf_mem HXN.out⟩)
    have HW : Hid (withinS b ps (t : Int) = (lo, hi, 0)) := Lib.hid (by
      unfold withinS
      rw [if_pos (checkPier_ok.2 HP.out), if_neg (by rw [HL.out]; omega), if_neg HGE.out, Int.toNat_natCast, HXS.out, HLO.out, HHI.out])
    by_cases hin : inTimeB b ps (walkedL b ps bs) = true
    · obtain ⟨S, HSS⟩ : ∃ S, Hid ((stepsL b ps (walkedL b ps bs)).take n = S) := ⟨_, Lib.hid rfl⟩
      have HWG : Hid (walkedL b ps bs ∈ goodR b ps) := Lib.hid (mem_goodR.2 ⟨HWA.out, hin⟩)
      have HCK : Hid (checkRoundS b ps (ofN (walkedL b ps bs)) = (S, 0)) := Lib.hid (by rw [HCKW.out, if_pos hin, HL.out, HSS.out])
      have HS : Hid (S.length = n ∧ lo ≤ nth S t ∧ nth S t ≤ hi) := Lib.hid (by
        obtain ⟨s, hs, hkk, _⟩ := full_round HP.out HWA.out
        have h1 : nth (stepsL b ps (walkedL b ps bs)) t ∈ xs := by
          rw [← HXS.out]
          exact List.mem_map.2 ⟨_, HWG.out, rfl⟩
        refine ⟨by rw [← HSS.out, stepsL_some hs, List.length_take, hkk.out]; omega, ?_⟩
        rw [← HSS.out, nth_take htn, ← HLO.out, ← HHI.out]
        exact ⟨minOf_le _ h1, maxOf_ge _ h1⟩)
      clear hin
      have k1 := Bk.new w 24 #[.int .i64 b, .slice A n c]
      have hb : Below w.heap.size w (w.alloc (.cells #[.int .i64 b, .slice A n c] 24)) := (Below.refl _ _).alloc (Nat.le_refl _) _
      have d0 := k1.cell 0
      have d1 := k1.cell 1
      go_enter Try.func10, Try.ntmps10
      go_wp2_with fail
      clear d0 d1
      obtain ⟨u1, hu⟩ : ∃ k, w.heap.size = k := ⟨_, rfl⟩
      obtain ⟨w1, hW⟩ : ∃ W, w.alloc (.cells #[.int .i64 b, .slice A n c] 24) = W := ⟨_, rfl⟩
      rw [hW] at k1 hb ⊢
      rw [hu] at k1 ⊢
      clear hW hu
      have Bw1 : Below w.heap.size w w1 := hb
      replace h_y := h_y.next hb (Nat.le_refl _) hb.size
      replace h_p := h_p.next hb (Nat.le_refl _) hb.size
      clear hb
      refine (aFine b A n c ps _ h_p _ HF).mono ?_
      rintro e w2 ⟨rfl, hb⟩
      have Bw2 : Below w.heap.size w w2 := Bw1.trans (hb.mono Bw1.size)
      replace h_y := h_y.next hb (Nat.le_refl _) hb.size
      replace h_p := h_p.next hb (Nat.le_refl _) hb.size
      replace k1 := k1.below hb k1.lt
      clear Bw1
      clear hb
      have d_k1_0 := k1.cell 0
      have d_k1_1 := k1.cell 1
      go_wp2_with fail
      clear d_k1_0 d_k1_1
      refine (fWithinR b A n c ps _ (t : Int) h_p (by omega) hc (lo, hi, 0) HW).mono ?_
      rintro e w3 ⟨rfl, hb⟩
      have Bw3 : Below w.heap.size w w3 := Bw2.trans (hb.mono Bw2.size)
      replace h_y := h_y.next hb (Nat.le_refl _) hb.size
      replace h_p := h_p.next hb (Nat.le_refl _) hb.size
      replace k1 := k1.below hb k1.lt
      clear Bw2
      clear hb
      have d_k1_0 := (k1.alloc (.cells #[.int .i64 lo, .int .i64 hi] 43)).cell 0
      have d_k1_1 := (k1.alloc (.cells #[.int .i64 lo, .int .i64 hi] 43)).cell 1
      have d_k3_0 := (Bk.new w3 43 #[.int .i64 lo, .int .i64 hi]).cell 0
      have d_k3_1 := (Bk.new w3 43 #[.int .i64 lo, .int .i64 hi]).cell 1
      go_wp2
      clear d_k1_0 d_k1_1 d_k3_0 d_k3_1
      have k3 := Bk.new w3 43 #[.int .i64 lo, .int .i64 hi]
      have hb : Below w3.heap.size w3 (w3.alloc (.cells #[.int .i64 lo, .int .i64 hi] 43)) := (Below.refl _ _).alloc (Nat.le_refl _) _
      obtain ⟨u3, hu⟩ : ∃ k, w3.heap.size = k := ⟨_, rfl⟩
      obtain ⟨w4, hW⟩ : ∃ W, w3.alloc (.cells #[.int .i64 lo, .int .i64 hi] 43) = W := ⟨_, rfl⟩
      rw [hW] at k3 hb ⊢
      rw [hu] at k3 ⊢
      clear hW
      have Bw4 : Below w.heap.size w w4 := Bw3.trans (hb.mono Bw3.size)
      replace h_y := h_y.next hb (Nat.le_refl _) hb.size
      replace h_p := h_p.next hb (Nat.le_refl _) hb.size
      replace k1 := k1.below hb k1.lt
      clear Bw3
      clear hb
      clear hu
      have e_k1_0 := k1.drew.cell 0
      have e_k1_1 := k1.drew.cell 1
      refine wp_region_noPanic ?_
      refine wp_region_held_drew (S := fun V => V.cell? ⟨u1, 0, none⟩ = some (.int .i64 b) ∧ V.cell? ⟨u1, 1, none⟩ = some (.slice A n c)) hmix ⟨e_k1_0, e_k1_1⟩ (fun hS => ?_)
      clear e_k1_0 e_k1_1
      obtain ⟨w5, hW⟩ : ∃ W, w4.drew = W := ⟨_, rfl⟩
      have hb : Below w4.heap.size w4 w5 := hW ▸ below_drewN (Below.refl _ _) 1
      rw [hW] at hS ⊢
      clear hW
      have Bw5 : Below w.heap.size w w5 := Bw4.trans (hb.mono Bw4.size)
      replace h_y := h_y.next hb (Nat.le_refl _) hb.size
      replace h_p := h_p.next hb (Nat.le_refl _) hb.size
      replace k1 := k1.below hb k1.lt
      replace k3 := k3.below hb k3.lt
      clear Bw4
      clear hb
      refine wpAnyH_take (i := 0) (v := ?_) rfl (by kernel_rfl) (by kernel_rfl) (by kernel_rfl) (fun _ _ _ h => h) (Or.inl ⟨by rfl, ?_⟩) hS ?_
      rotate_left
      · intro w hSw
        (try dsimp only at hSw)
        go_simp
        (try with_reducible rfl)
      try simp (maxSteps := 10000000) only [Act.put, List.setIfInBounds_toArray, List.set_cons_zero, List.set_cons_succ, List.getElem_toArray, List.getElem_cons_zero]
      refine wpAnyH_take (i := 1) (v := ?_) rfl (by kernel_rfl) (by kernel_rfl) (by kernel_rfl) (fun _ _ _ h => h) (Or.inl ⟨by rfl, ?_⟩) hS ?_
      rotate_left
      · intro w hSw
        (try dsimp only at hSw)
        go_simp
        (try with_reducible rfl)
      try simp (maxSteps := 10000000) only [Act.put, List.setIfInBounds_toArray, List.set_cons_zero, List.set_cons_succ, List.getElem_toArray, List.getElem_cons_zero, List.getElem_cons_succ]
      refine wpAnyH_take (i := 2) (v := ?_) rfl (by kernel_rfl) (by kernel_rfl) (by kernel_rfl) (fun _ _ _ h => h) (Or.inl ⟨by rfl, ?_⟩) hS ?_
      rotate_left
      · intro w hSw
        (try dsimp only at hSw)
        go_simp
        (try with_reducible rfl)
      try simp (maxSteps := 10000000) only [Act.put, List.setIfInBounds_toArray, List.set_cons_zero, List.set_cons_succ, List.getElem_toArray, List.getElem_cons_zero, List.getElem_cons_succ]
      refine wpAnyH_ready (rs := [3]) (by kernel_rfl) (by simp) ?_
      refine AllReadyH.cons rfl (fun K hK => ?_) AllReadyH.nil
      go_simp
      refine (aWalked b A n c ps Y my cy bs _ h_p HP h_y (by omega)).mono ?_
      rintro e w6 ⟨Aw, cw, rfl, ho, hcw, hb⟩
      have Bw6 : Below w.heap.size w w6 := Bw5.trans (hb.mono Bw5.size)
      replace h_y := h_y.next hb (Nat.le_refl _) hb.size
      replace h_p := h_p.next hb (Nat.le_refl _) hb.size
      replace k1 := k1.below hb k1.lt
      replace k3 := k3.below hb k3.lt
      clear Bw5
      clear hb
      have h_w := ho.ri
      clear ho
      refine hK.out _ _ ⟨k1.cell 0, k1.cell 1⟩ (fun hS => ?_)
      clear hK K
      try simp (maxSteps := 10000000) only [Act.put, List.setIfInBounds_toArray, List.set_cons_zero, List.set_cons_succ, List.getElem_toArray, List.getElem_cons_zero, List.getElem_cons_succ]
      refine wpAnyH_ready (rs := [4]) (by kernel_rfl) (by simp) ?_
      refine AllReadyH.cons rfl (fun K hK => ?_) AllReadyH.nil
      go_simp
      refine (fCkRound b A n c ps _ n cw (ofN (walkedL b ps bs)) _ h_p (by omega) hc h_w (by omega) hcw (S, 0) HCK).mono ?_
      rintro e w7 ⟨As, ns, cs, rfl, ho, hb⟩
      have Bw7 : Below w.heap.size w w7 := Bw6.trans (hb.mono Bw6.size)
      replace h_y := h_y.next hb (Nat.le_refl _) hb.size
      replace h_p := h_p.next hb (Nat.le_refl _) hb.size
      replace k1 := k1.below hb k1.lt
      replace k3 := k3.below hb k3.lt
      replace h_w := h_w.next hb (Nat.le_refl _) hb.size
      clear Bw6
      clear hb
      have h_s := ho.ri
      clear ho
      refine hK.out _ _ ⟨k1.cell 0, k1.cell 1⟩ (fun hS => ?_)
      clear hK K
      try simp (maxSteps := 10000000) only
      refine wpAnyH_take (i := 5) (v := ?_) rfl (by kernel_rfl) (by kernel_rfl) (by kernel_rfl) (fun _ _ _ h => h) (Or.inl ⟨by rfl, ?_⟩) hS ?_
      rotate_left
      · intro w hSw
        (try dsimp only at hSw)
        go_simp
        (try with_reducible rfl)
      try simp (maxSteps := 10000000) only [Act.put, List.setIfInBounds_toArray, List.set_cons_zero, List.set_cons_succ, List.getElem_toArray, List.getElem_cons_zero, List.getElem_cons_succ]
      refine wpAnyH_take (i := 6) (v := ?_) rfl (by kernel_rfl) (by kernel_rfl) (by kernel_rfl) (fun _ _ _ h => h) (Or.inl ⟨by rfl, ?_⟩) hS ?_
      rotate_left
      · intro w hSw
        (try dsimp only at hSw)
        go_simp
        (try with_reducible rfl)
      try simp (maxSteps := 10000000) only [Act.put, List.setIfInBounds_toArray, List.set_cons_zero, List.set_cons_succ, List.getElem_toArray, List.getElem_cons_zero, List.getElem_cons_succ]
      refine wpAnyH_take (i := 7) (v := ?_) rfl (by kernel_rfl) (by kernel_rfl) (by kernel_rfl) (fun _ _ _ h => h) (Or.inl ⟨by rfl, ?_⟩) hS ?_
      rotate_left
      · intro w hSw
        (try dsimp only at hSw)
        go_simp
        (try with_reducible rfl)
      try simp (maxSteps := 10000000) only [Act.put, List.setIfInBounds_toArray, List.set_cons_zero, List.set_cons_succ, List.getElem_toArray, List.getElem_cons_zero, List.getElem_cons_succ]
      refine wpAnyH_take (i := 8) (v := ?_) rfl (by kernel_rfl) (by kernel_rfl) (by kernel_rfl) (fun _ _ _ h => h) (Or.inl ⟨by rfl, ?_⟩) hS ?_
      rotate_left
      · intro w hSw
        (try dsimp only at hSw)
        go_simp
        (try with_reducible rfl)
      try simp (maxSteps := 10000000) only [Act.put, List.setIfInBounds_toArray, List.set_cons_zero, List.set_cons_succ, List.getElem_toArray, List.getElem_cons_zero, List.getElem_cons_succ]
      refine wpAnyH_take (i := 9) (v := ?_) rfl (by kernel_rfl) (by kernel_rfl) (by kernel_rfl) (fun _ _ _ h => h) (Or.inl ⟨by rfl, ?_⟩) hS ?_
      rotate_left
      · intro w hSw
        (try dsimp only at hSw)
        go_simp
        (try with_reducible rfl)
      try simp (maxSteps := 10000000) only [Act.put, List.setIfInBounds_toArray, List.set_cons_zero, List.set_cons_succ, List.getElem_toArray, List.getElem_cons_zero, List.getElem_cons_succ]
      refine wpAnyH_done (by kernel_rfl) (NoPanic.normal ?_) _
      clear hS
      clear h_w
      have d_k1_0 := k1.cell 0
      have d_k1_1 := k1.cell 1
      have d_k3_0 := k3.cell 0
      have d_k3_1 := k3.cell 1
      go_wp2_with fail
      clear d_k1_0 d_k1_1 d_k3_0 d_k3_1
      refine (fCount b A n c ps _ h_p (by omega) hc ((NG : Int), 0) HC).mono ?_
      rintro e w8 ⟨rfl, hb⟩
      have Bw8 : Below w.heap.size w w8 := Bw7.trans (hb.mono Bw7.size)
      replace h_y := h_y.next hb (Nat.le_refl _) hb.size
      replace h_p := h_p.next hb (Nat.le_refl _) hb.size
      replace k1 := k1.below hb k1.lt
      replace k3 := k3.below hb k3.lt
      replace h_s := h_s.next hb (Nat.le_refl _) hb.size
      clear Bw7
      clear hb
      have d_k1_0 := k1.cell 0
      have d_k1_1 := k1.cell 1
      have d_k3_0 := k3.cell 0
      have d_k3_1 := k3.cell 1
      go_wp2_with fail
      clear d_k1_0 d_k1_1 d_k3_0 d_k3_1
      refine (rGood b A n c ps _ h_p HP NG HNG).mono ?_
      rintro e w9 ⟨Al, cl, rfl, hro, hb⟩
      have Bw9 : Below w.heap.size w w9 := Bw8.trans (hb.mono Bw8.size)
      replace h_y := h_y.next hb (Nat.le_refl _) hb.size
      replace h_p := h_p.next hb (Nat.le_refl _) hb.size
      replace k1 := k1.below hb k1.lt
      replace k3 := k3.below hb k3.lt
      replace h_s := h_s.next hb (Nat.le_refl _) hb.size
      clear Bw8
      clear hb
      have h_l := hro
      clear hro
      have hnss := h_s.len
      have hnsn : n = ns := by rw [← hnss]; exact HS.out.1.symm
      clear hnss
      subst hnsn
      obtain ⟨adS, xS, rfl, _, cS, hxS, _⟩ := h_s.at_ htn
      have hxS2 : lo ≤ xS ∧ xS ≤ hi := by
        have h1 := HS.out.2
        rw [nth_some hxS.out] at h1
        exact h1
      have hx1 : ¬ xS < lo := by omega
      have hx2 : ¬ hi < xS := by omega
      clear hxS2
      have hn00 : ((NG : Int) == 0) = false := by simp; omega
      have hne0 : ¬ NG = 0 := by omega
      have d_k1_0 := k1.cell 0
      have d_k1_1 := k1.cell 1
      have d_k3_0 := k3.cell 0
      have d_k3_1 := k3.cell 1
      go_wp2
      go_quiet (fail)
      clear d_k1_0 d_k1_1 d_k3_0 d_k3_1
      obtain ⟨w10, hW⟩ : ∃ W : World, w9.drewN nq = W := ⟨_, rfl⟩
      have hb : Below w9.heap.size w9 w10 := hW ▸ below_drewN (Below.refl _ _) nq
      rw [hW]
      clear hW
      have Bw10 : Below w.heap.size w w10 := Bw9.trans (hb.mono Bw9.size)
      replace h_y := h_y.next hb (Nat.le_refl _) hb.size
      replace h_p := h_p.next hb (Nat.le_refl _) hb.size
      replace k1 := k1.below hb k1.lt
      replace k3 := k3.below hb k3.lt
      replace h_s := h_s.next hb (Nat.le_refl _) hb.size
      replace h_l := h_l.below hb
      clear Bw9
      clear hb
      clear h_s
      have d_k1_0 := k1.cell 0
      have d_k1_1 := k1.cell 1
      have d_k3_0 := k3.cell 0
      have d_k3_1 := k3.cell 1
      go_wp2
      clear d_k1_0 d_k1_1 d_k3_0 d_k3_1
      clear hx1 hx2 cS hn00 hne0
      go_loopw [15, 16, 17] (fun a e i wr => ∃ k : Nat, k ≤ NG ∧ i = .int .i64 (k : Int) ∧ a = .bool (decide (lo ∈ xs.take k)) ∧ e = .bool (decide (hi ∈ xs.take k)) ∧ Below w10.heap.size w10 wr) (fun _ _ i _ => NG - (intOf i).toNat)
      case atStart => exact ⟨0, Nat.zero_le _, rfl, by simp, by simp, Below.refl _ _⟩
      case round =>
        obtain ⟨k, hk, rfl, rfl, rfl, hb⟩ := hrel
        obtain ⟨ra, HRA⟩ : ∃ r : Bool, Hid (decide (lo ∈ xs.take k) = r) := ⟨_, Lib.hid rfl⟩
        obtain ⟨re, HRE⟩ : ∃ r : Bool, Hid (decide (hi ∈ xs.take k) = r) := ⟨_, Lib.hid rfl⟩
        rw [HRA.out, HRE.out]
        obtain ⟨w11, hW⟩ : ∃ W : World, wr = W := ⟨_, rfl⟩
        rw [hW] at hb ⊢
        clear hW
        have Bl := hb
        have Bw11 : Below w.heap.size w w11 := Bw10.trans (hb.mono Bw10.size)
        replace h_y := h_y.next hb (Nat.le_refl _) hb.size
        replace h_p := h_p.next hb (Nat.le_refl _) hb.size
        replace k1 := k1.below hb k1.lt
        replace k3 := k3.below hb k3.lt
        replace h_l := h_l.below hb
        clear Bw10
        clear hb
        by_cases hlt : k < NG
        · obtain ⟨ad, gr, cg, L, rfl, _, _, cl0, HLk, hrow⟩ := h_l.at_ hlt
          obtain ⟨l, HLl⟩ : ∃ l, Hid ((goodR b ps)[k]? = some l) := ⟨_, Lib.hid (List.getElem?_eq_getElem (by rw [HNG.out]; exact hlt))⟩
          have HLo : Hid (L = ofN l) := Lib.hid (by
            have h1 := HLk.out
            rw [List.getElem?_map, HLl.out] at h1
            exact (Option.some.inj h1).symm)
          rw [HLo.out] at hrow
          have HGl : Hid (l ∈ goodR b ps) := Lib.hid (List.mem_of_getElem? HLl.out)
          have hcg := hrow.cap
          have h_r := hrow.ri
          clear hrow
          obtain ⟨T, HT⟩ : ∃ T, Hid ((stepsL b ps l).take n = T) := ⟨_, Lib.hid rfl⟩
          have HCL : Hid (checkRoundS b ps (ofN l) = (T, 0)) := Lib.hid (by
            rw [← HT.out, ← HL.out]
            exact ckRound_good HP.out HGl.out)
          have HTL : Hid (T.length = n) := Lib.hid (by
            obtain ⟨s, hs, hkk, _⟩ := full_round HP.out (mem_goodR.1 HGl.out).1
            rw [← HT.out, stepsL_some hs, List.length_take, hkk.out]
            omega)
          have HXK : Hid (xs[k]? = some (nth T t)) := Lib.hid (by
            rw [← HXS.out]
            unfold stepsAt
            rw [List.getElem?_map, HLl.out, ← HT.out, nth_take htn]
            rfl)
          have d_k1_0 := k1.cell 0
          have d_k1_1 := k1.cell 1
          have d_k3_0 := k3.cell 0
          have d_k3_1 := k3.cell 1
          go_wp2
          clear d_k1_0 d_k1_1 d_k3_0 d_k3_1
          have e_k1_0 := k1.drew.cell 0
          have e_k1_1 := k1.drew.cell 1
          have e_cl0 : w11.drew.cell? (ad.add k) = some (.slice (some ⟨gr, 0, none⟩) n cg) := cl0
          refine wp_region_noPanic ?_
          refine wp_region_held_drew (S := fun V => V.cell? ⟨u1, 0, none⟩ = some (.int .i64 b) ∧ V.cell? ⟨u1, 1, none⟩ = some (.slice A n c) ∧ V.cell? (ad.add k) = some (.slice (some ⟨gr, 0, none⟩) n cg)) hmix ⟨e_k1_0, e_k1_1, e_cl0⟩ (fun hS => ?_)
          clear e_k1_0 e_k1_1 e_cl0
          obtain ⟨w12, hW⟩ : ∃ W, w11.drew = W := ⟨_, rfl⟩
          have hb : Below w11.heap.size w11 w12 := hW ▸ below_drewN (Below.refl _ _) 1
          rw [hW] at hS ⊢
          clear hW
          have Bw12 : Below w.heap.size w w12 := Bw11.trans (hb.mono Bw11.size)
          replace h_y := h_y.next hb (Nat.le_refl _) hb.size
          replace h_p := h_p.next hb (Nat.le_refl _) hb.size
          replace k1 := k1.below hb k1.lt
          replace k3 := k3.below hb k3.lt
          replace h_l := h_l.below hb
          replace Bl := Bl.trans (hb.mono Bl.size)
          replace h_r := h_r.next hb (Nat.le_refl _) hb.size
          replace cl0 := (hb.cell (World.block_lt_of_cell? _ _ cl0)).trans cl0
          clear Bw11
          clear hb
          refine wpAnyH_take (i := 0) (v := ?_) rfl (by kernel_rfl) (by kernel_rfl) (by kernel_rfl) (fun _ _ _ h => h) (Or.inl ⟨by rfl, ?_⟩) hS ?_
          rotate_left
          · intro w hSw
            (try dsimp only at hSw)
            go_simp
            (try with_reducible rfl)
          try simp (maxSteps := 10000000) only [Act.put, List.setIfInBounds_toArray, List.set_cons_zero, List.set_cons_succ, List.getElem_toArray, List.getElem_cons_zero]
          refine wpAnyH_take (i := 1) (v := ?_) rfl (by kernel_rfl) (by kernel_rfl) (by kernel_rfl) (fun _ _ _ h => h) (Or.inl ⟨by rfl, ?_⟩) hS ?_
          rotate_left
          · intro w hSw
            (try dsimp only at hSw)
            go_simp
            (try with_reducible rfl)
          try simp (maxSteps := 10000000) only [Act.put, List.setIfInBounds_toArray, List.set_cons_zero, List.set_cons_succ, List.getElem_toArray, List.getElem_cons_zero, List.getElem_cons_succ]
          refine wpAnyH_take (i := 2) (v := ?_) rfl (by kernel_rfl) (by kernel_rfl) (by kernel_rfl) (fun _ _ _ h => h) (Or.inl ⟨by rfl, ?_⟩) hS ?_
          rotate_left
          · intro w hSw
            (try dsimp only at hSw)
            go_simp
            (try with_reducible rfl)
          try simp (maxSteps := 10000000) only [Act.put, List.setIfInBounds_toArray, List.set_cons_zero, List.set_cons_succ, List.getElem_toArray, List.getElem_cons_zero, List.getElem_cons_succ]
          refine wpAnyH_take (i := 3) (v := ?_) rfl (by kernel_rfl) (by kernel_rfl) (by kernel_rfl) (fun _ _ _ h => h) (Or.inl ⟨by rfl, ?_⟩) hS ?_
          rotate_left
          · intro w hSw
            (try dsimp only at hSw)
            go_simp
            (try with_reducible rfl)
          try simp (maxSteps := 10000000) only [Act.put, List.setIfInBounds_toArray, List.set_cons_zero, List.set_cons_succ, List.getElem_toArray, List.getElem_cons_zero, List.getElem_cons_succ]
          refine wpAnyH_take (i := 4) (v := ?_) rfl (by kernel_rfl) (by kernel_rfl) (by kernel_rfl) (fun _ _ _ h => h) (Or.inl ⟨by rfl, ?_⟩) hS ?_
          rotate_left
          · intro w hSw
            (try dsimp only at hSw)
            go_simp
            (try with_reducible rfl)
          try simp (maxSteps := 10000000) only [Act.put, List.setIfInBounds_toArray, List.set_cons_zero, List.set_cons_succ, List.getElem_toArray, List.getElem_cons_zero, List.getElem_cons_succ]
          refine wpAnyH_ready (rs := [5]) (by kernel_rfl) (by simp) ?_
          refine AllReadyH.cons rfl (fun K hK => ?_) AllReadyH.nil
          go_simp
          refine (fCkRound b A n c ps _ n cg (ofN l) _ h_p (by omega) hc h_r (by omega) hcg (T, 0) HCL).mono ?_
          rintro e w13 ⟨At, nt, ct, rfl, ho, hb⟩
          have Bw13 : Below w.heap.size w w13 := Bw12.trans (hb.mono Bw12.size)
          replace h_y := h_y.next hb (Nat.le_refl _) hb.size
          replace h_p := h_p.next hb (Nat.le_refl _) hb.size
          replace k1 := k1.below hb k1.lt
          replace k3 := k3.below hb k3.lt
          replace h_l := h_l.below hb
          replace Bl := Bl.trans (hb.mono Bl.size)
          replace h_r := h_r.next hb (Nat.le_refl _) hb.size
          replace cl0 := (hb.cell (World.block_lt_of_cell? _ _ cl0)).trans cl0
          clear Bw12
          clear hb
          have h_t := ho.ri
          clear ho
          refine hK.out _ _ ⟨k1.cell 0, k1.cell 1, cl0⟩ (fun hS => ?_)
          clear hK K
          try simp (maxSteps := 10000000) only
          refine wpAnyH_take (i := 6) (v := ?_) rfl (by kernel_rfl) (by kernel_rfl) (by kernel_rfl) (fun _ _ _ h => h) (Or.inl ⟨by rfl, ?_⟩) hS ?_
          rotate_left
          · intro w hSw
            (try dsimp only at hSw)
            go_simp
            (try with_reducible rfl)
          try simp (maxSteps := 10000000) only [Act.put, List.setIfInBounds_toArray, List.set_cons_zero, List.set_cons_succ, List.getElem_toArray, List.getElem_cons_zero, List.getElem_cons_succ]
          refine wpAnyH_take (i := 7) (v := ?_) rfl (by kernel_rfl) (by kernel_rfl) (by kernel_rfl) (fun _ _ _ h => h) (Or.inl ⟨by rfl, ?_⟩) hS ?_
          rotate_left
          · intro w hSw
            (try dsimp only at hSw)
            go_simp
            (try with_reducible rfl)
          try simp (maxSteps := 10000000) only [Act.put, List.setIfInBounds_toArray, List.set_cons_zero, List.set_cons_succ, List.getElem_toArray, List.getElem_cons_zero, List.getElem_cons_succ]
          refine wpAnyH_take (i := 8) (v := ?_) rfl (by kernel_rfl) (by kernel_rfl) (by kernel_rfl) (fun _ _ _ h => h) (Or.inl ⟨by rfl, ?_⟩) hS ?_
          rotate_left
          · intro w hSw
            (try dsimp only at hSw)
            go_simp
            (try with_reducible rfl)
          try simp (maxSteps := 10000000) only [Act.put, List.setIfInBounds_toArray, List.set_cons_zero, List.set_cons_succ, List.getElem_toArray, List.getElem_cons_zero, List.getElem_cons_succ]
          refine wpAnyH_take (i := 9) (v := ?_) rfl (by kernel_rfl) (by kernel_rfl) (by kernel_rfl) (fun _ _ _ h => h) (Or.inl ⟨by rfl, ?_⟩) hS ?_
          rotate_left
          · intro w hSw
            (try dsimp only at hSw)
            go_simp
            (try with_reducible rfl)
          try simp (maxSteps := 10000000) only [Act.put, List.setIfInBounds_toArray, List.set_cons_zero, List.set_cons_succ, List.getElem_toArray, List.getElem_cons_zero, List.getElem_cons_succ]
          refine wpAnyH_take (i := 10) (v := ?_) rfl (by kernel_rfl) (by kernel_rfl) (by kernel_rfl) (fun _ _ _ h => h) (Or.inl ⟨by rfl, ?_⟩) hS ?_
          rotate_left
          · intro w hSw
            (try dsimp only at hSw)
            go_simp
            (try with_reducible rfl)
          try simp (maxSteps := 10000000) only [Act.put, List.setIfInBounds_toArray, List.set_cons_zero, List.set_cons_succ, List.getElem_toArray, List.getElem_cons_zero, List.getElem_cons_succ]
          refine wpAnyH_done (by kernel_rfl) (NoPanic.normal ?_) _
          clear hS
          have hnt := h_t.len
          have hntn : n = nt := by rw [← hnt]; exact HTL.out.symm
          clear hnt
          subst hntn
          obtain ⟨adT, xT, rfl, _, cT, hxT, _⟩ := h_t.at_ htn
          have HXT : Hid (xs[k]? = some xT) := Lib.hid (by rw [HXK.out, nth_some hxT.out])
          obtain ⟨r1, HR1⟩ : ∃ r : Bool, Hid ((xT == lo) = r) := ⟨_, Lib.hid rfl⟩
          obtain ⟨r2, HR2⟩ : ∃ r : Bool, Hid ((xT == hi) = r) := ⟨_, Lib.hid rfl⟩
          have HNA : Hid (decide (lo ∈ xs.take (k + 1)) = (ra || r1)) := Lib.hid (by
            rw [take_snoc HXT.out, ← HRA.out, ← HR1.out]
            by_cases h1 : lo ∈ xs.take k
            · simp [h1]
            · by_cases h2 : xT = lo
              · subst h2
                simp
              · have h3 : lo ≠ xT := fun e => h2 e.symm
                simp [h1, h2, h3])
          have HNE : Hid (decide (hi ∈ xs.take (k + 1)) = (re || r2)) := Lib.hid (by
            rw [take_snoc HXT.out, ← HRE.out, ← HR2.out]
            by_cases h1 : hi ∈ xs.take k
            · simp [h1]
            · by_cases h2 : xT = hi
              · subst h2
                simp
              · have h3 : hi ≠ xT := fun e => h2 e.symm
                simp [h1, h2, h3])
          have hr1 := HR1.out
          have hr2 := HR2.out
          cases ra
          · cases re
            · have d_k1_0 := k1.cell 0
              have d_k1_1 := k1.cell 1
              have d_k3_0 := k3.cell 0
              have d_k3_1 := k3.cell 1
              go_wp2
              go_quiet (fail)
              clear d_k1_0 d_k1_1 d_k3_0 d_k3_1
              clear cT
              obtain ⟨w14, hW⟩ : ∃ W : World, w13.drewN nq = W := ⟨_, rfl⟩
              have hb : Below w13.heap.size w13 w14 := hW ▸ below_drewN (Below.refl _ _) nq
              rw [hW]
              clear hW
              have Bw14 : Below w.heap.size w w14 := Bw13.trans (hb.mono Bw13.size)
              replace h_y := h_y.next hb (Nat.le_refl _) hb.size
              replace h_p := h_p.next hb (Nat.le_refl _) hb.size
              replace k1 := k1.below hb k1.lt
              replace k3 := k3.below hb k3.lt
              replace h_l := h_l.below hb
              replace Bl := Bl.trans (hb.mono Bl.size)
              replace h_r := h_r.next hb (Nat.le_refl _) hb.size
              replace cl0 := (hb.cell (World.block_lt_of_cell? _ _ cl0)).trans cl0
              replace h_t := h_t.next hb (Nat.le_refl _) hb.size
              clear Bw13
              clear hb
              go_wp2
              go_roundw
              case rel => exact ⟨k + 1, by omega, by go_num, by rw [HNA.out]; simp, by rw [HNE.out]; simp, Bl⟩
              case measure => simp [intOf]; omega
            · have d_k1_0 := k1.cell 0
              have d_k1_1 := k1.cell 1
              have d_k3_0 := k3.cell 0
              have d_k3_1 := k3.cell 1
              go_wp2
              go_quiet (fail)
              clear d_k1_0 d_k1_1 d_k3_0 d_k3_1
              clear cT
              obtain ⟨w14, hW⟩ : ∃ W : World, w13.drewN nq = W := ⟨_, rfl⟩
              have hb : Below w13.heap.size w13 w14 := hW ▸ below_drewN (Below.refl _ _) nq
              rw [hW]
              clear hW
              have Bw14 : Below w.heap.size w w14 := Bw13.trans (hb.mono Bw13.size)
              replace h_y := h_y.next hb (Nat.le_refl _) hb.size
              replace h_p := h_p.next hb (Nat.le_refl _) hb.size
              replace k1 := k1.below hb k1.lt
              replace k3 := k3.below hb k3.lt
              replace h_l := h_l.below hb
              replace Bl := Bl.trans (hb.mono Bl.size)
              replace h_r := h_r.next hb (Nat.le_refl _) hb.size
              replace cl0 := (hb.cell (World.block_lt_of_cell? _ _ cl0)).trans cl0
              replace h_t := h_t.next hb (Nat.le_refl _) hb.size
              clear Bw13
              clear hb
              go_wp2
              go_roundw
              case rel => exact ⟨k + 1, by omega, by go_num, by rw [HNA.out]; simp, by rw [HNE.out]; simp, Bl⟩
              case measure => simp [intOf]; omega
          · cases re
            · have d_k1_0 := k1.cell 0
              have d_k1_1 := k1.cell 1
              have d_k3_0 := k3.cell 0
              have d_k3_1 := k3.cell 1
              go_wp2
              go_quiet (fail)
              clear d_k1_0 d_k1_1 d_k3_0 d_k3_1
              clear cT
              obtain ⟨w14, hW⟩ : ∃ W : World, w13.drewN nq = W := ⟨_, rfl⟩
              have hb : Below w13.heap.size w13 w14 := hW ▸ below_drewN (Below.refl _ _) nq
              rw [hW]
              clear hW
              have Bw14 : Below w.heap.size w w14 := Bw13.trans (hb.mono Bw13.size)
              replace h_y := h_y.next hb (Nat.le_refl _) hb.size
              replace h_p := h_p.next hb (Nat.le_refl _) hb.size
              replace k1 := k1.below hb k1.lt
              replace k3 := k3.below hb k3.lt
              replace h_l := h_l.below hb
              replace Bl := Bl.trans (hb.mono Bl.size)
              replace h_r := h_r.next hb (Nat.le_refl _) hb.size
              replace cl0 := (hb.cell (World.block_lt_of_cell? _ _ cl0)).trans cl0
              replace h_t := h_t.next hb (Nat.le_refl _) hb.size
              clear Bw13
              clear hb
              go_wp2
              go_roundw
              case rel => exact ⟨k + 1, by omega, by go_num, by rw [HNA.out]; simp, by rw [HNE.out]; simp, Bl⟩
              case measure => simp [intOf]; omega
            · have d_k1_0 := k1.cell 0
              have d_k1_1 := k1.cell 1
              have d_k3_0 := k3.cell 0
              have d_k3_1 := k3.cell 1
              go_wp2
              go_quiet (fail)
              clear d_k1_0 d_k1_1 d_k3_0 d_k3_1
              clear cT
              obtain ⟨w14, hW⟩ : ∃ W : World, w13.drewN nq = W := ⟨_, rfl⟩
              have hb : Below w13.heap.size w13 w14 := hW ▸ below_drewN (Below.refl _ _) nq
              rw [hW]
              clear hW
              have Bw14 : Below w.heap.size w w14 := Bw13.trans (hb.mono Bw13.size)
              replace h_y := h_y.next hb (Nat.le_refl _) hb.size
              replace h_p := h_p.next hb (Nat.le_refl _) hb.size
              replace k1 := k1.below hb k1.lt
              replace k3 := k3.below hb k3.lt
              replace h_l := h_l.below hb
              replace Bl := Bl.trans (hb.mono Bl.size)
              replace h_r := h_r.next hb (Nat.le_refl _) hb.size
              replace cl0 := (hb.cell (World.block_lt_of_cell? _ _ cl0)).trans cl0
              replace h_t := h_t.next hb (Nat.le_refl _) hb.size
              clear Bw13
              clear hb
              go_wp2
              go_roundw
              case rel => exact ⟨k + 1, by omega, by go_num, by rw [HNA.out]; simp, by rw [HNE.out]; simp, Bl⟩
              case measure => simp [intOf]; omega
        · have hn00 : ((NG : Int) == 0) = false := by have := HNG0.out; simp; omega
          have HKN : Hid (xs.take k = xs) := Lib.hid (List.take_of_length_le (by rw [← HXS.out]; unfold stepsAt; rw [List.length_map, HNG.out]; omega))
          have hra : ra = true := by rw [← HRA.out, HKN.out]; exact decide_eq_true HLH.out.1
          have hre : re = true := by rw [← HRE.out, HKN.out]; exact decide_eq_true HLH.out.2
          subst hra hre
          have d_k1_0 := k1.cell 0
          have d_k1_1 := k1.cell 1
          have d_k3_0 := k3.cell 0
          have d_k3_1 := k3.cell 1
          go_wp2_with fail
          clear d_k1_0 d_k1_1 d_k3_0 d_k3_1
          refine (aWorks _).mono ?_
          rintro e w12 ⟨rfl, hb⟩
          have Bw12 : Below w.heap.size w w12 := Bw11.trans (hb.mono Bw11.size)
          replace h_y := h_y.next hb (Nat.le_refl _) hb.size
          replace h_p := h_p.next hb (Nat.le_refl _) hb.size
          replace k1 := k1.below hb k1.lt
          replace k3 := k3.below hb k3.lt
          replace h_l := h_l.below hb
          replace Bl := Bl.trans (hb.mono Bl.size)
          clear Bw11
          clear hb
          go_wp2
          go_ret
          exact ⟨rfl, Bw12⟩
    · have HCK : Hid (checkRoundS b ps (ofN (walkedL b ps bs)) = ([], 12)) := Lib.hid (by rw [HCKW.out, if_neg hin])
      clear hin
      have k1 := Bk.new w 24 #[.int .i64 b, .slice A n c]
      have hb : Below w.heap.size w (w.alloc (.cells #[.int .i64 b, .slice A n c] 24)) := (Below.refl _ _).alloc (Nat.le_refl _) _
      have d0 := k1.cell 0
      have d1 := k1.cell 1
      go_enter Try.func10, Try.ntmps10
      go_wp2_with fail
      clear d0 d1
      obtain ⟨u1, hu⟩ : ∃ k, w.heap.size = k := ⟨_, rfl⟩
      obtain ⟨w1, hW⟩ : ∃ W, w.alloc (.cells #[.int .i64 b, .slice A n c] 24) = W := ⟨_, rfl⟩
      rw [hW] at k1 hb ⊢
      rw [hu] at k1 ⊢
      clear hW hu
      have Bw1 : Below w.heap.size w w1 := hb
      replace h_y := h_y.next hb (Nat.le_refl _) hb.size
      replace h_p := h_p.next hb (Nat.le_refl _) hb.size
      clear hb
      refine (aFine b A n c ps _ h_p _ HF).mono ?_
      rintro e w2 ⟨rfl, hb⟩
      have Bw2 : Below w.heap.size w w2 := Bw1.trans (hb.mono Bw1.size)
      replace h_y := h_y.next hb (Nat.le_refl _) hb.size
      replace h_p := h_p.next hb (Nat.le_refl _) hb.size
      replace k1 := k1.below hb k1.lt
      clear Bw1
      clear hb
      have d_k1_0 := k1.cell 0
      have d_k1_1 := k1.cell 1
      go_wp2_with fail
      clear d_k1_0 d_k1_1
      refine (fWithinR b A n c ps _ (t : Int) h_p (by omega) hc (lo, hi, 0) HW).mono ?_
      rintro e w3 ⟨rfl, hb⟩
      have Bw3 : Below w.heap.size w w3 := Bw2.trans (hb.mono Bw2.size)
      replace h_y := h_y.next hb (Nat.le_refl _) hb.size
      replace h_p := h_p.next hb (Nat.le_refl _) hb.size
      replace k1 := k1.below hb k1.lt
      clear Bw2
      clear hb
      have d_k1_0 := (k1.alloc (.cells #[.int .i64 lo, .int .i64 hi] 43)).cell 0
      have d_k1_1 := (k1.alloc (.cells #[.int .i64 lo, .int .i64 hi] 43)).cell 1
      have d_k3_0 := (Bk.new w3 43 #[.int .i64 lo, .int .i64 hi]).cell 0
      have d_k3_1 := (Bk.new w3 43 #[.int .i64 lo, .int .i64 hi]).cell 1
      go_wp2
      clear d_k1_0 d_k1_1 d_k3_0 d_k3_1
      have k3 := Bk.new w3 43 #[.int .i64 lo, .int .i64 hi]
      have hb : Below w3.heap.size w3 (w3.alloc (.cells #[.int .i64 lo, .int .i64 hi] 43)) := (Below.refl _ _).alloc (Nat.le_refl _) _
      obtain ⟨u3, hu⟩ : ∃ k, w3.heap.size = k := ⟨_, rfl⟩
      obtain ⟨w4, hW⟩ : ∃ W, w3.alloc (.cells #[.int .i64 lo, .int .i64 hi] 43) = W := ⟨_, rfl⟩
      rw [hW] at k3 hb ⊢
      rw [hu] at k3 ⊢
      clear hW
      have Bw4 : Below w.heap.size w w4 := Bw3.trans (hb.mono Bw3.size)
      replace h_y := h_y.next hb (Nat.le_refl _) hb.size
      replace h_p := h_p.next hb (Nat.le_refl _) hb.size
      replace k1 := k1.below hb k1.lt
      clear Bw3
      clear hb
      clear hu
      have e_k1_0 := k1.drew.cell 0
      have e_k1_1 := k1.drew.cell 1
      refine wp_region_noPanic ?_
      refine wp_region_held_drew (S := fun V => V.cell? ⟨u1, 0, none⟩ = some (.int .i64 b) ∧ V.cell? ⟨u1, 1, none⟩ = some (.slice A n c)) hmix ⟨e_k1_0, e_k1_1⟩ (fun hS => ?_)
      clear e_k1_0 e_k1_1
      obtain ⟨w5, hW⟩ : ∃ W, w4.drew = W := ⟨_, rfl⟩
      have hb : Below w4.heap.size w4 w5 := hW ▸ below_drewN (Below.refl _ _) 1
      rw [hW] at hS ⊢
      clear hW
      have Bw5 : Below w.heap.size w w5 := Bw4.trans (hb.mono Bw4.size)
      replace h_y := h_y.next hb (Nat.le_refl _) hb.size
      replace h_p := h_p.next hb (Nat.le_refl _) hb.size
      replace k1 := k1.below hb k1.lt
      replace k3 := k3.below hb k3.lt
      clear Bw4
      clear hb
      refine wpAnyH_take (i := 0) (v := ?_) rfl (by kernel_rfl) (by kernel_rfl) (by kernel_rfl) (fun _ _ _ h => h) (Or.inl ⟨by rfl, ?_⟩) hS ?_
      rotate_left
      · intro w hSw
        (try dsimp only at hSw)
        go_simp
        (try with_reducible rfl)
      try simp (maxSteps := 10000000) only [Act.put, List.setIfInBounds_toArray, List.set_cons_zero, List.set_cons_succ, List.getElem_toArray, List.getElem_cons_zero]
      refine wpAnyH_take (i := 1) (v := ?_) rfl (by kernel_rfl) (by kernel_rfl) (by kernel_rfl) (fun _ _ _ h => h) (Or.inl ⟨by rfl, ?_⟩) hS ?_
      rotate_left
      · intro w hSw
        (try dsimp only at hSw)
        go_simp
        (try with_reducible rfl)
      try simp (maxSteps := 10000000) only [Act.put, List.setIfInBounds_toArray, List.set_cons_zero, List.set_cons_succ, List.getElem_toArray, List.getElem_cons_zero, List.getElem_cons_succ]
      refine wpAnyH_take (i := 2) (v := ?_) rfl (by kernel_rfl) (by kernel_rfl) (by kernel_rfl) (fun _ _ _ h => h) (Or.inl ⟨by rfl, ?_⟩) hS ?_
      rotate_left
      · intro w hSw
        (try dsimp only at hSw)
        go_simp
        (try with_reducible rfl)
      try simp (maxSteps := 10000000) only [Act.put, List.setIfInBounds_toArray, List.set_cons_zero, List.set_cons_succ, List.getElem_toArray, List.getElem_cons_zero, List.getElem_cons_succ]
      refine wpAnyH_ready (rs := [3]) (by kernel_rfl) (by simp) ?_
      refine AllReadyH.cons rfl (fun K hK => ?_) AllReadyH.nil
      go_simp
      refine (aWalked b A n c ps Y my cy bs _ h_p HP h_y (by omega)).mono ?_
      rintro e w6 ⟨Aw, cw, rfl, ho, hcw, hb⟩
      have Bw6 : Below w.heap.size w w6 := Bw5.trans (hb.mono Bw5.size)
      replace h_y := h_y.next hb (Nat.le_refl _) hb.size
      replace h_p := h_p.next hb (Nat.le_refl _) hb.size
      replace k1 := k1.below hb k1.lt
      replace k3 := k3.below hb k3.lt
      clear Bw5
      clear hb
      have h_w := ho.ri
      clear ho
      refine hK.out _ _ ⟨k1.cell 0, k1.cell 1⟩ (fun hS => ?_)
      clear hK K
      try simp (maxSteps := 10000000) only [Act.put, List.setIfInBounds_toArray, List.set_cons_zero, List.set_cons_succ, List.getElem_toArray, List.getElem_cons_zero, List.getElem_cons_succ]
      refine wpAnyH_ready (rs := [4]) (by kernel_rfl) (by simp) ?_
      refine AllReadyH.cons rfl (fun K hK => ?_) AllReadyH.nil
      go_simp
      refine (fCkRound b A n c ps _ n cw (ofN (walkedL b ps bs)) _ h_p (by omega) hc h_w (by omega) hcw ([], 12) HCK).mono ?_
      rintro e w7 ⟨As, ns, cs, rfl, ho, hb⟩
      have Bw7 : Below w.heap.size w w7 := Bw6.trans (hb.mono Bw6.size)
      replace h_y := h_y.next hb (Nat.le_refl _) hb.size
      replace h_p := h_p.next hb (Nat.le_refl _) hb.size
      replace k1 := k1.below hb k1.lt
      replace k3 := k3.below hb k3.lt
      replace h_w := h_w.next hb (Nat.le_refl _) hb.size
      clear Bw6
      clear hb
      have h_s := ho.ri
      clear ho
      refine hK.out _ _ ⟨k1.cell 0, k1.cell 1⟩ (fun hS => ?_)
      clear hK K
      try simp (maxSteps := 10000000) only
      refine wpAnyH_take (i := 5) (v := ?_) rfl (by kernel_rfl) (by kernel_rfl) (by kernel_rfl) (fun _ _ _ h => h) (Or.inl ⟨by rfl, ?_⟩) hS ?_
      rotate_left
      · intro w hSw
        (try dsimp only at hSw)
        go_simp
        (try with_reducible rfl)
      try simp (maxSteps := 10000000) only [Act.put, List.setIfInBounds_toArray, List.set_cons_zero, List.set_cons_succ, List.getElem_toArray, List.getElem_cons_zero, List.getElem_cons_succ]
      refine wpAnyH_take (i := 6) (v := ?_) rfl (by kernel_rfl) (by kernel_rfl) (by kernel_rfl) (fun _ _ _ h => h) (Or.inl ⟨by rfl, ?_⟩) hS ?_
      rotate_left
      · intro w hSw
        (try dsimp only at hSw)
        go_simp
        (try with_reducible rfl)
      try simp (maxSteps := 10000000) only [Act.put, List.setIfInBounds_toArray, List.set_cons_zero, List.set_cons_succ, List.getElem_toArray, List.getElem_cons_zero, List.getElem_cons_succ]
      refine wpAnyH_take (i := 7) (v := ?_) rfl (by kernel_rfl) (by kernel_rfl) (by kernel_rfl) (fun _ _ _ h => h) (Or.inl ⟨by rfl, ?_⟩) hS ?_
      rotate_left
      · intro w hSw
        (try dsimp only at hSw)
        go_simp
        (try with_reducible rfl)
      try simp (maxSteps := 10000000) only [Act.put, List.setIfInBounds_toArray, List.set_cons_zero, List.set_cons_succ, List.getElem_toArray, List.getElem_cons_zero, List.getElem_cons_succ]
      refine wpAnyH_take (i := 8) (v := ?_) rfl (by kernel_rfl) (by kernel_rfl) (by kernel_rfl) (fun _ _ _ h => h) (Or.inl ⟨by rfl, ?_⟩) hS ?_
      rotate_left
      · intro w hSw
        (try dsimp only at hSw)
        go_simp
        (try with_reducible rfl)
      try simp (maxSteps := 10000000) only [Act.put, List.setIfInBounds_toArray, List.set_cons_zero, List.set_cons_succ, List.getElem_toArray, List.getElem_cons_zero, List.getElem_cons_succ]
      refine wpAnyH_take (i := 9) (v := ?_) rfl (by kernel_rfl) (by kernel_rfl) (by kernel_rfl) (fun _ _ _ h => h) (Or.inl ⟨by rfl, ?_⟩) hS ?_
      rotate_left
      · intro w hSw
        (try dsimp only at hSw)
        go_simp
        (try with_reducible rfl)
      try simp (maxSteps := 10000000) only [Act.put, List.setIfInBounds_toArray, List.set_cons_zero, List.set_cons_succ, List.getElem_toArray, List.getElem_cons_zero, List.getElem_cons_succ]
      refine wpAnyH_done (by kernel_rfl) (NoPanic.normal ?_) _
      clear hS
      clear h_w
      have d_k1_0 := k1.cell 0
      have d_k1_1 := k1.cell 1
      have d_k3_0 := k3.cell 0
      have d_k3_1 := k3.cell 1
      go_wp2_with fail
      clear d_k1_0 d_k1_1 d_k3_0 d_k3_1
      refine (fCount b A n c ps _ h_p (by omega) hc ((NG : Int), 0) HC).mono ?_
      rintro e w8 ⟨rfl, hb⟩
      have Bw8 : Below w.heap.size w w8 := Bw7.trans (hb.mono Bw7.size)
      replace h_y := h_y.next hb (Nat.le_refl _) hb.size
      replace h_p := h_p.next hb (Nat.le_refl _) hb.size
      replace k1 := k1.below hb k1.lt
      replace k3 := k3.below hb k3.lt
      replace h_s := h_s.next hb (Nat.le_refl _) hb.size
      clear Bw7
      clear hb
      have d_k1_0 := k1.cell 0
      have d_k1_1 := k1.cell 1
      have d_k3_0 := k3.cell 0
      have d_k3_1 := k3.cell 1
      go_wp2_with fail
      clear d_k1_0 d_k1_1 d_k3_0 d_k3_1
      refine (rGood b A n c ps _ h_p HP NG HNG).mono ?_
      rintro e w9 ⟨Al, cl, rfl, hro, hb⟩
      have Bw9 : Below w.heap.size w w9 := Bw8.trans (hb.mono Bw8.size)
      replace h_y := h_y.next hb (Nat.le_refl _) hb.size
      replace h_p := h_p.next hb (Nat.le_refl _) hb.size
      replace k1 := k1.below hb k1.lt
      replace k3 := k3.below hb k3.lt
      replace h_s := h_s.next hb (Nat.le_refl _) hb.size
      clear Bw8
      clear hb
      have h_l := hro
      clear hro
      have hns0 : ns = 0 := h_s.len.symm
      subst hns0
      have d_k1_0 := k1.cell 0
      have d_k1_1 := k1.cell 1
      have d_k3_0 := k3.cell 0
      have d_k3_1 := k3.cell 1
      go_wp2
      go_quiet (fail)
      clear d_k1_0 d_k1_1 d_k3_0 d_k3_1
      obtain ⟨w10, hW⟩ : ∃ W : World, w9.drewN nq = W := ⟨_, rfl⟩
      have hb : Below w9.heap.size w9 w10 := hW ▸ below_drewN (Below.refl _ _) nq
      rw [hW]
      clear hW
      have Bw10 : Below w.heap.size w w10 := Bw9.trans (hb.mono Bw9.size)
      replace h_y := h_y.next hb (Nat.le_refl _) hb.size
      replace h_p := h_p.next hb (Nat.le_refl _) hb.size
      replace k1 := k1.below hb k1.lt
      replace k3 := k3.below hb k3.lt
      replace h_s := h_s.next hb (Nat.le_refl _) hb.size
      replace h_l := h_l.below hb
      clear Bw9
      clear hb
      clear h_s
      have d_k1_0 := k1.cell 0
      have d_k1_1 := k1.cell 1
      have d_k3_0 := k3.cell 0
      have d_k3_1 := k3.cell 1
      go_wp2
      clear d_k1_0 d_k1_1 d_k3_0 d_k3_1
      go_loopw [15, 16, 17] (fun a e i wr => ∃ k : Nat, k ≤ NG ∧ i = .int .i64 (k : Int) ∧ a = .bool (decide (lo ∈ xs.take k)) ∧ e = .bool (decide (hi ∈ xs.take k)) ∧ Below w10.heap.size w10 wr) (fun _ _ i _ => NG - (intOf i).toNat)
      case atStart => exact ⟨0, Nat.zero_le _, rfl, by simp, by simp, Below.refl _ _⟩
      case round =>
        obtain ⟨k, hk, rfl, rfl, rfl, hb⟩ := hrel
        obtain ⟨ra, HRA⟩ : ∃ r : Bool, Hid (decide (lo ∈ xs.take k) = r) := ⟨_, Lib.hid rfl⟩
        obtain ⟨re, HRE⟩ : ∃ r : Bool, Hid (decide (hi ∈ xs.take k) = r) := ⟨_, Lib.hid rfl⟩
        rw [HRA.out, HRE.out]
        obtain ⟨w11, hW⟩ : ∃ W : World, wr = W := ⟨_, rfl⟩
        rw [hW] at hb ⊢
        clear hW
        have Bl := hb
        have Bw11 : Below w.heap.size w w11 := Bw10.trans (hb.mono Bw10.size)
        replace h_y := h_y.next hb (Nat.le_refl _) hb.size
        replace h_p := h_p.next hb (Nat.le_refl _) hb.size
        replace k1 := k1.below hb k1.lt
        replace k3 := k3.below hb k3.lt
        replace h_l := h_l.below hb
        clear Bw10
        clear hb
        by_cases hlt : k < NG
        · obtain ⟨ad, gr, cg, L, rfl, _, _, cl0, HLk, hrow⟩ := h_l.at_ hlt
          obtain ⟨l, HLl⟩ : ∃ l, Hid ((goodR b ps)[k]? = some l) := ⟨_, Lib.hid (List.getElem?_eq_getElem (by rw [HNG.out]; exact hlt))⟩
          have HLo : Hid (L = ofN l) := Lib.hid (by
            have h1 := HLk.out
            rw [List.getElem?_map, HLl.out] at h1
            exact (Option.some.inj h1).symm)
          rw [HLo.out] at hrow
          have HGl : Hid (l ∈ goodR b ps) := Lib.hid (List.mem_of_getElem? HLl.out)
          have hcg := hrow.cap
          have h_r := hrow.ri
          clear hrow
          obtain ⟨T, HT⟩ : ∃ T, Hid ((stepsL b ps l).take n = T) := ⟨_, Lib.hid rfl⟩
          have HCL : Hid (checkRoundS b ps (ofN l) = (T, 0)) := Lib.hid (by
            rw [← HT.out, ← HL.out]
            exact ckRound_good HP.out HGl.out)
          have HTL : Hid (T.length = n) := Lib.hid (by
            obtain ⟨s, hs, hkk, _⟩ := full_round HP.out (mem_goodR.1 HGl.out).1
            rw [← HT.out, stepsL_some hs, List.length_take, hkk.out]
            omega)
          have HXK : Hid (xs[k]? = some (nth T t)) := Lib.hid (by
            rw [← HXS.out]
            unfold stepsAt
            rw [List.getElem?_map, HLl.out, ← HT.out, nth_take htn]
            rfl)
          have d_k1_0 := k1.cell 0
          have d_k1_1 := k1.cell 1
          have d_k3_0 := k3.cell 0
          have d_k3_1 := k3.cell 1
          go_wp2
          clear d_k1_0 d_k1_1 d_k3_0 d_k3_1
          have e_k1_0 := k1.drew.cell 0
          have e_k1_1 := k1.drew.cell 1
          have e_cl0 : w11.drew.cell? (ad.add k) = some (.slice (some ⟨gr, 0, none⟩) n cg) := cl0
          refine wp_region_noPanic ?_
          refine wp_region_held_drew (S := fun V => V.cell? ⟨u1, 0, none⟩ = some (.int .i64 b) ∧ V.cell? ⟨u1, 1, none⟩ = some (.slice A n c) ∧ V.cell? (ad.add k) = some (.slice (some ⟨gr, 0, none⟩) n cg)) hmix ⟨e_k1_0, e_k1_1, e_cl0⟩ (fun hS => ?_)
          clear e_k1_0 e_k1_1 e_cl0
          obtain ⟨w12, hW⟩ : ∃ W, w11.drew = W := ⟨_, rfl⟩
          have hb : Below w11.heap.size w11 w12 := hW ▸ below_drewN (Below.refl _ _) 1
          rw [hW] at hS ⊢
          clear hW
          have Bw12 : Below w.heap.size w w12 := Bw11.trans (hb.mono Bw11.size)
          replace h_y := h_y.next hb (Nat.le_refl _) hb.size
          replace h_p := h_p.next hb (Nat.le_refl _) hb.size
          replace k1 := k1.below hb k1.lt
          replace k3 := k3.below hb k3.lt
          replace h_l := h_l.below hb
          replace Bl := Bl.trans (hb.mono Bl.size)
          replace h_r := h_r.next hb (Nat.le_refl _) hb.size
          replace cl0 := (hb.cell (World.block_lt_of_cell? _ _ cl0)).trans cl0
          clear Bw11
          clear hb
          refine wpAnyH_take (i := 0) (v := ?_) rfl (by kernel_rfl) (by kernel_rfl) (by kernel_rfl) (fun _ _ _ h => h) (Or.inl ⟨by rfl, ?_⟩) hS ?_
          rotate_left
          · intro w hSw
            (try dsimp only at hSw)
            go_simp
            (try with_reducible rfl)
          try simp (maxSteps := 10000000) only [Act.put, List.setIfInBounds_toArray, List.set_cons_zero, List.set_cons_succ, List.getElem_toArray, List.getElem_cons_zero]
          refine wpAnyH_take (i := 1) (v := ?_) rfl (by kernel_rfl) (by kernel_rfl) (by kernel_rfl) (fun _ _ _ h => h) (Or.inl ⟨by rfl, ?_⟩) hS ?_
          rotate_left
          · intro w hSw
            (try dsimp only at hSw)
            go_simp
            (try with_reducible rfl)
          try simp (maxSteps := 10000000) only [Act.put, List.setIfInBounds_toArray, List.set_cons_zero, List.set_cons_succ, List.getElem_toArray, List.getElem_cons_zero, List.getElem_cons_succ]
          refine wpAnyH_take (i := 2) (v := ?_) rfl (by kernel_rfl) (by kernel_rfl) (by kernel_rfl) (fun _ _ _ h => h) (Or.inl ⟨by rfl, ?_⟩) hS ?_
          rotate_left
          · intro w hSw
            (try dsimp only at hSw)
            go_simp
            (try with_reducible rfl)
          try simp (maxSteps := 10000000) only [Act.put, List.setIfInBounds_toArray, List.set_cons_zero, List.set_cons_succ, List.getElem_toArray, List.getElem_cons_zero, List.getElem_cons_succ]
          refine wpAnyH_take (i := 3) (v := ?_) rfl (by kernel_rfl) (by kernel_rfl) (by kernel_rfl) (fun _ _ _ h => h) (Or.inl ⟨by rfl, ?_⟩) hS ?_
          rotate_left
          · intro w hSw
            (try dsimp only at hSw)
            go_simp
            (try with_reducible rfl)
          try simp (maxSteps := 10000000) only [Act.put, List.setIfInBounds_toArray, List.set_cons_zero, List.set_cons_succ, List.getElem_toArray, List.getElem_cons_zero, List.getElem_cons_succ]
          refine wpAnyH_take (i := 4) (v := ?_) rfl (by kernel_rfl) (by kernel_rfl) (by kernel_rfl) (fun _ _ _ h => h) (Or.inl ⟨by rfl, ?_⟩) hS ?_
          rotate_left
          · intro w hSw
            (try dsimp only at hSw)
            go_simp
            (try with_reducible rfl)
          try simp (maxSteps := 10000000) only [Act.put, List.setIfInBounds_toArray, List.set_cons_zero, List.set_cons_succ, List.getElem_toArray, List.getElem_cons_zero, List.getElem_cons_succ]
          refine wpAnyH_ready (rs := [5]) (by kernel_rfl) (by simp) ?_
          refine AllReadyH.cons rfl (fun K hK => ?_) AllReadyH.nil
          go_simp
          refine (fCkRound b A n c ps _ n cg (ofN l) _ h_p (by omega) hc h_r (by omega) hcg (T, 0) HCL).mono ?_
          rintro e w13 ⟨At, nt, ct, rfl, ho, hb⟩
          have Bw13 : Below w.heap.size w w13 := Bw12.trans (hb.mono Bw12.size)
          replace h_y := h_y.next hb (Nat.le_refl _) hb.size
          replace h_p := h_p.next hb (Nat.le_refl _) hb.size
          replace k1 := k1.below hb k1.lt
          replace k3 := k3.below hb k3.lt
          replace h_l := h_l.below hb
          replace Bl := Bl.trans (hb.mono Bl.size)
          replace h_r := h_r.next hb (Nat.le_refl _) hb.size
          replace cl0 := (hb.cell (World.block_lt_of_cell? _ _ cl0)).trans cl0
          clear Bw12
          clear hb
          have h_t := ho.ri
          clear ho
          refine hK.out _ _ ⟨k1.cell 0, k1.cell 1, cl0⟩ (fun hS => ?_)
          clear hK K
          try simp (maxSteps := 10000000) only
          refine wpAnyH_take (i := 6) (v := ?_) rfl (by kernel_rfl) (by kernel_rfl) (by kernel_rfl) (fun _ _ _ h => h) (Or.inl ⟨by rfl, ?_⟩) hS ?_
          rotate_left
          · intro w hSw
            (try dsimp only at hSw)
            go_simp
            (try with_reducible rfl)
          try simp (maxSteps := 10000000) only [Act.put, List.setIfInBounds_toArray, List.set_cons_zero, List.set_cons_succ, List.getElem_toArray, List.getElem_cons_zero, List.getElem_cons_succ]
          refine wpAnyH_take (i := 7) (v := ?_) rfl (by kernel_rfl) (by kernel_rfl) (by kernel_rfl) (fun _ _ _ h => h) (Or.inl ⟨by rfl, ?_⟩) hS ?_
          rotate_left
          · intro w hSw
            (try dsimp only at hSw)
            go_simp
            (try with_reducible rfl)
          try simp (maxSteps := 10000000) only [Act.put, List.setIfInBounds_toArray, List.set_cons_zero, List.set_cons_succ, List.getElem_toArray, List.getElem_cons_zero, List.getElem_cons_succ]
          refine wpAnyH_take (i := 8) (v := ?_) rfl (by kernel_rfl) (by kernel_rfl) (by kernel_rfl) (fun _ _ _ h => h) (Or.inl ⟨by rfl, ?_⟩) hS ?_
          rotate_left
          · intro w hSw
            (try dsimp only at hSw)
            go_simp
            (try with_reducible rfl)
          try simp (maxSteps := 10000000) only [Act.put, List.setIfInBounds_toArray, List.set_cons_zero, List.set_cons_succ, List.getElem_toArray, List.getElem_cons_zero, List.getElem_cons_succ]
          refine wpAnyH_take (i := 9) (v := ?_) rfl (by kernel_rfl) (by kernel_rfl) (by kernel_rfl) (fun _ _ _ h => h) (Or.inl ⟨by rfl, ?_⟩) hS ?_
          rotate_left
          · intro w hSw
            (try dsimp only at hSw)
            go_simp
            (try with_reducible rfl)
          try simp (maxSteps := 10000000) only [Act.put, List.setIfInBounds_toArray, List.set_cons_zero, List.set_cons_succ, List.getElem_toArray, List.getElem_cons_zero, List.getElem_cons_succ]
          refine wpAnyH_take (i := 10) (v := ?_) rfl (by kernel_rfl) (by kernel_rfl) (by kernel_rfl) (fun _ _ _ h => h) (Or.inl ⟨by rfl, ?_⟩) hS ?_
          rotate_left
          · intro w hSw
            (try dsimp only at hSw)
            go_simp
            (try with_reducible rfl)
          try simp (maxSteps := 10000000) only [Act.put, List.setIfInBounds_toArray, List.set_cons_zero, List.set_cons_succ, List.getElem_toArray, List.getElem_cons_zero, List.getElem_cons_succ]
          refine wpAnyH_done (by kernel_rfl) (NoPanic.normal ?_) _
          clear hS
          have hnt := h_t.len
          have hntn : n = nt := by rw [← hnt]; exact HTL.out.symm
          clear hnt
          subst hntn
          obtain ⟨adT, xT, rfl, _, cT, hxT, _⟩ := h_t.at_ htn
          have HXT : Hid (xs[k]? = some xT) := Lib.hid (by rw [HXK.out, nth_some hxT.out])
          obtain ⟨r1, HR1⟩ : ∃ r : Bool, Hid ((xT == lo) = r) := ⟨_, Lib.hid rfl⟩
          obtain ⟨r2, HR2⟩ : ∃ r : Bool, Hid ((xT == hi) = r) := ⟨_, Lib.hid rfl⟩
          have HNA : Hid (decide (lo ∈ xs.take (k + 1)) = (ra || r1)) := Lib.hid (by
            rw [take_snoc HXT.out, ← HRA.out, ← HR1.out]
            by_cases h1 : lo ∈ xs.take k
            · simp [h1]
            · by_cases h2 : xT = lo
              · subst h2
                simp
              · have h3 : lo ≠ xT := fun e => h2 e.symm
                simp [h1, h2, h3])
          have HNE : Hid (decide (hi ∈ xs.take (k + 1)) = (re || r2)) := Lib.hid (by
            rw [take_snoc HXT.out, ← HRE.out, ← HR2.out]
            by_cases h1 : hi ∈ xs.take k
            · simp [h1]
            · by_cases h2 : xT = hi
              · subst h2
                simp
              · have h3 : hi ≠ xT := fun e => h2 e.symm
                simp [h1, h2, h3])
          have hr1 := HR1.out
          have hr2 := HR2.out
          cases ra
          · cases re
            · have d_k1_0 := k1.cell 0
              have d_k1_1 := k1.cell 1
              have d_k3_0 := k3.cell 0
              have d_k3_1 := k3.cell 1
              go_wp2
              go_quiet (fail)
              clear d_k1_0 d_k1_1 d_k3_0 d_k3_1
              clear cT
              obtain ⟨w14, hW⟩ : ∃ W : World, w13.drewN nq = W := ⟨_, rfl⟩
              have hb : Below w13.heap.size w13 w14 := hW ▸ below_drewN (Below.refl _ _) nq
              rw [hW]
              clear hW
              have Bw14 : Below w.heap.size w w14 := Bw13.trans (hb.mono Bw13.size)
              replace h_y := h_y.next hb (Nat.le_refl _) hb.size
              replace h_p := h_p.next hb (Nat.le_refl _) hb.size
              replace k1 := k1.below hb k1.lt
              replace k3 := k3.below hb k3.lt
              replace h_l := h_l.below hb
              replace Bl := Bl.trans (hb.mono Bl.size)
              replace h_r := h_r.next hb (Nat.le_refl _) hb.size
              replace cl0 := (hb.cell (World.block_lt_of_cell? _ _ cl0)).trans cl0
              replace h_t := h_t.next hb (Nat.le_refl _) hb.size
              clear Bw13
              clear hb
              go_wp2
              go_roundw
              case rel => exact ⟨k + 1, by omega, by go_num, by rw [HNA.out]; simp, by rw [HNE.out]; simp, Bl⟩
              case measure => simp [intOf]; omega
            · have d_k1_0 := k1.cell 0
              have d_k1_1 := k1.cell 1
              have d_k3_0 := k3.cell 0
              have d_k3_1 := k3.cell 1
              go_wp2
              go_quiet (fail)
              clear d_k1_0 d_k1_1 d_k3_0 d_k3_1
              clear cT
              obtain ⟨w14, hW⟩ : ∃ W : World, w13.drewN nq = W := ⟨_, rfl⟩
              have hb : Below w13.heap.size w13 w14 := hW ▸ below_drewN (Below.refl _ _) nq
              rw [hW]
              clear hW
              have Bw14 : Below w.heap.size w w14 := Bw13.trans (hb.mono Bw13.size)
              replace h_y := h_y.next hb (Nat.le_refl _) hb.size
              replace h_p := h_p.next hb (Nat.le_refl _) hb.size
              replace k1 := k1.below hb k1.lt
              replace k3 := k3.below hb k3.lt
              replace h_l := h_l.below hb
              replace Bl := Bl.trans (hb.mono Bl.size)
              replace h_r := h_r.next hb (Nat.le_refl _) hb.size
              replace cl0 := (hb.cell (World.block_lt_of_cell? _ _ cl0)).trans cl0
              replace h_t := h_t.next hb (Nat.le_refl _) hb.size
              clear Bw13
              clear hb
              go_wp2
              go_roundw
              case rel => exact ⟨k + 1, by omega, by go_num, by rw [HNA.out]; simp, by rw [HNE.out]; simp, Bl⟩
              case measure => simp [intOf]; omega
          · cases re
            · have d_k1_0 := k1.cell 0
              have d_k1_1 := k1.cell 1
              have d_k3_0 := k3.cell 0
              have d_k3_1 := k3.cell 1
              go_wp2
              go_quiet (fail)
              clear d_k1_0 d_k1_1 d_k3_0 d_k3_1
              clear cT
              obtain ⟨w14, hW⟩ : ∃ W : World, w13.drewN nq = W := ⟨_, rfl⟩
              have hb : Below w13.heap.size w13 w14 := hW ▸ below_drewN (Below.refl _ _) nq
              rw [hW]
              clear hW
              have Bw14 : Below w.heap.size w w14 := Bw13.trans (hb.mono Bw13.size)
              replace h_y := h_y.next hb (Nat.le_refl _) hb.size
              replace h_p := h_p.next hb (Nat.le_refl _) hb.size
              replace k1 := k1.below hb k1.lt
              replace k3 := k3.below hb k3.lt
              replace h_l := h_l.below hb
              replace Bl := Bl.trans (hb.mono Bl.size)
              replace h_r := h_r.next hb (Nat.le_refl _) hb.size
              replace cl0 := (hb.cell (World.block_lt_of_cell? _ _ cl0)).trans cl0
              replace h_t := h_t.next hb (Nat.le_refl _) hb.size
              clear Bw13
              clear hb
              go_wp2
              go_roundw
              case rel => exact ⟨k + 1, by omega, by go_num, by rw [HNA.out]; simp, by rw [HNE.out]; simp, Bl⟩
              case measure => simp [intOf]; omega
            · have d_k1_0 := k1.cell 0
              have d_k1_1 := k1.cell 1
              have d_k3_0 := k3.cell 0
              have d_k3_1 := k3.cell 1
              go_wp2
              go_quiet (fail)
              clear d_k1_0 d_k1_1 d_k3_0 d_k3_1
              clear cT
              obtain ⟨w14, hW⟩ : ∃ W : World, w13.drewN nq = W := ⟨_, rfl⟩
              have hb : Below w13.heap.size w13 w14 := hW ▸ below_drewN (Below.refl _ _) nq
              rw [hW]
              clear hW
              have Bw14 : Below w.heap.size w w14 := Bw13.trans (hb.mono Bw13.size)
              replace h_y := h_y.next hb (Nat.le_refl _) hb.size
              replace h_p := h_p.next hb (Nat.le_refl _) hb.size
              replace k1 := k1.below hb k1.lt
              replace k3 := k3.below hb k3.lt
              replace h_l := h_l.below hb
              replace Bl := Bl.trans (hb.mono Bl.size)
              replace h_r := h_r.next hb (Nat.le_refl _) hb.size
              replace cl0 := (hb.cell (World.block_lt_of_cell? _ _ cl0)).trans cl0
              replace h_t := h_t.next hb (Nat.le_refl _) hb.size
              clear Bw13
              clear hb
              go_wp2
              go_roundw
              case rel => exact ⟨k + 1, by omega, by go_num, by rw [HNA.out]; simp, by rw [HNE.out]; simp, Bl⟩
              case measure => simp [intOf]; omega
        · have hn00 : ((NG : Int) == 0) = false := by have := HNG0.out; simp; omega
          have HKN : Hid (xs.take k = xs) := Lib.hid (List.take_of_length_le (by rw [← HXS.out]; unfold stepsAt; rw [List.length_map, HNG.out]; omega))
          have hra : ra = true := by rw [← HRA.out, HKN.out]; exact decide_eq_true HLH.out.1
          have hre : re = true := by rw [← HRE.out, HKN.out]; exact decide_eq_true HLH.out.2
          subst hra hre
          have d_k1_0 := k1.cell 0
          have d_k1_1 := k1.cell 1
          have d_k3_0 := k3.cell 0
          have d_k3_1 := k3.cell 1
          go_wp2_with fail
          clear d_k1_0 d_k1_1 d_k3_0 d_k3_1
          refine (aWorks _).mono ?_
          rintro e w12 ⟨rfl, hb⟩
          have Bw12 : Below w.heap.size w w12 := Bw11.trans (hb.mono Bw11.size)
          replace h_y := h_y.next hb (Nat.le_refl _) hb.size
          replace h_p := h_p.next hb (Nat.le_refl _) hb.size
          replace k1 := k1.below hb k1.lt
          replace k3 := k3.below hb k3.lt
          replace h_l := h_l.below hb
          replace Bl := Bl.trans (hb.mono Bl.size)
          clear Bw11
          clear hb
          go_wp2
          go_ret
          exact ⟨rfl, Bw12⟩
  · have HNG0 : Hid (¬ 0 < NG) := Lib.hid hng
    have HGE : Hid (goodR b ps = []) := Lib.hid (List.eq_nil_of_length_eq_zero (by rw [HNG.out]; omega))
    obtain ⟨lo, hi, HLH0⟩ : ∃ lo hi : Int, Hid (lo = 0 ∧ hi = 0) := ⟨0, 0, Lib.hid ⟨rfl, rfl⟩⟩
    have HW : Hid (withinS b ps (t : Int) = (lo, hi, 12)) := Lib.hid (by
      unfold withinS
      rw [if_pos (checkPier_ok.2 HP.out), if_neg (by rw [HL.out]; omega), if_pos HGE.out, HLH0.out.1, HLH0.out.2])
    have HCK : Hid (checkRoundS b ps (ofN (walkedL b ps bs)) = ([], 12)) := Lib.hid (by
      rw [HCKW.out, if_neg]
      intro h
      have h1 := mem_goodR.2 ⟨HWA.out, h⟩
      rw [HGE.out] at h1
      cases h1)
    have k1 := Bk.new w 24 #[.int .i64 b, .slice A n c]
    have hb : Below w.heap.size w (w.alloc (.cells #[.int .i64 b, .slice A n c] 24)) := (Below.refl _ _).alloc (Nat.le_refl _) _
    have d0 := k1.cell 0
    have d1 := k1.cell 1
    go_enter Try.func10, Try.ntmps10
    go_wp2_with fail
    clear d0 d1
    obtain ⟨u1, hu⟩ : ∃ k, w.heap.size = k := ⟨_, rfl⟩
    obtain ⟨w1, hW⟩ : ∃ W, w.alloc (.cells #[.int .i64 b, .slice A n c] 24) = W := ⟨_, rfl⟩
    rw [hW] at k1 hb ⊢
    rw [hu] at k1 ⊢
    clear hW hu
    have Bw1 : Below w.heap.size w w1 := hb
    replace h_y := h_y.next hb (Nat.le_refl _) hb.size
    replace h_p := h_p.next hb (Nat.le_refl _) hb.size
    clear hb
    refine (aFine b A n c ps _ h_p _ HF).mono ?_
    rintro e w2 ⟨rfl, hb⟩
    have Bw2 : Below w.heap.size w w2 := Bw1.trans (hb.mono Bw1.size)
    replace h_y := h_y.next hb (Nat.le_refl _) hb.size
    replace h_p := h_p.next hb (Nat.le_refl _) hb.size
    replace k1 := k1.below hb k1.lt
    clear Bw1
    clear hb
    have d_k1_0 := k1.cell 0
    have d_k1_1 := k1.cell 1
    go_wp2_with fail
    clear d_k1_0 d_k1_1
    refine (fWithinR b A n c ps _ (t : Int) h_p (by omega) hc (lo, hi, 12) HW).mono ?_
    rintro e w3 ⟨rfl, hb⟩
    have Bw3 : Below w.heap.size w w3 := Bw2.trans (hb.mono Bw2.size)
    replace h_y := h_y.next hb (Nat.le_refl _) hb.size
    replace h_p := h_p.next hb (Nat.le_refl _) hb.size
    replace k1 := k1.below hb k1.lt
    clear Bw2
    clear hb
    have d_k1_0 := (k1.alloc (.cells #[.int .i64 lo, .int .i64 hi] 43)).cell 0
    have d_k1_1 := (k1.alloc (.cells #[.int .i64 lo, .int .i64 hi] 43)).cell 1
    have d_k3_0 := (Bk.new w3 43 #[.int .i64 lo, .int .i64 hi]).cell 0
    have d_k3_1 := (Bk.new w3 43 #[.int .i64 lo, .int .i64 hi]).cell 1
    go_wp2
    clear d_k1_0 d_k1_1 d_k3_0 d_k3_1
    have k3 := Bk.new w3 43 #[.int .i64 lo, .int .i64 hi]
    have hb : Below w3.heap.size w3 (w3.alloc (.cells #[.int .i64 lo, .int .i64 hi] 43)) := (Below.refl _ _).alloc (Nat.le_refl _) _
    obtain ⟨u3, hu⟩ : ∃ k, w3.heap.size = k := ⟨_, rfl⟩
    obtain ⟨w4, hW⟩ : ∃ W, w3.alloc (.cells #[.int .i64 lo, .int .i64 hi] 43) = W := ⟨_, rfl⟩
    rw [hW] at k3 hb ⊢
    rw [hu] at k3 ⊢
    clear hW
    have Bw4 : Below w.heap.size w w4 := Bw3.trans (hb.mono Bw3.size)
    replace h_y := h_y.next hb (Nat.le_refl _) hb.size
    replace h_p := h_p.next hb (Nat.le_refl _) hb.size
    replace k1 := k1.below hb k1.lt
    clear Bw3
    clear hb
    clear hu
    have e_k1_0 := k1.drew.cell 0
    have e_k1_1 := k1.drew.cell 1
    refine wp_region_noPanic ?_
    refine wp_region_held_drew (S := fun V => V.cell? ⟨u1, 0, none⟩ = some (.int .i64 b) ∧ V.cell? ⟨u1, 1, none⟩ = some (.slice A n c)) hmix ⟨e_k1_0, e_k1_1⟩ (fun hS => ?_)
    clear e_k1_0 e_k1_1
    obtain ⟨w5, hW⟩ : ∃ W, w4.drew = W := ⟨_, rfl⟩
    have hb : Below w4.heap.size w4 w5 := hW ▸ below_drewN (Below.refl _ _) 1
    rw [hW] at hS ⊢
    clear hW
    have Bw5 : Below w.heap.size w w5 := Bw4.trans (hb.mono Bw4.size)
    replace h_y := h_y.next hb (Nat.le_refl _) hb.size
    replace h_p := h_p.next hb (Nat.le_refl _) hb.size
    replace k1 := k1.below hb k1.lt
    replace k3 := k3.below hb k3.lt
    clear Bw4
    clear hb
    refine wpAnyH_take (i := 0) (v := ?_) rfl (by kernel_rfl) (by kernel_rfl) (by kernel_rfl) (fun _ _ _ h => h) (Or.inl ⟨by rfl, ?_⟩) hS ?_
    rotate_left
    · intro w hSw
      (try dsimp only at hSw)
      go_simp
      (try with_reducible rfl)
    try simp (maxSteps := 10000000) only [Act.put, List.setIfInBounds_toArray, List.set_cons_zero, List.set_cons_succ, List.getElem_toArray, List.getElem_cons_zero]
    refine wpAnyH_take (i := 1) (v := ?_) rfl (by kernel_rfl) (by kernel_rfl) (by kernel_rfl) (fun _ _ _ h => h) (Or.inl ⟨by rfl, ?_⟩) hS ?_
    rotate_left
    · intro w hSw
      (try dsimp only at hSw)
      go_simp
      (try with_reducible rfl)
    try simp (maxSteps := 10000000) only [Act.put, List.setIfInBounds_toArray, List.set_cons_zero, List.set_cons_succ, List.getElem_toArray, List.getElem_cons_zero, List.getElem_cons_succ]
    refine wpAnyH_take (i := 2) (v := ?_) rfl (by kernel_rfl) (by kernel_rfl) (by kernel_rfl) (fun _ _ _ h => h) (Or.inl ⟨by rfl, ?_⟩) hS ?_
    rotate_left
    · intro w hSw
      (try dsimp only at hSw)
      go_simp
      (try with_reducible rfl)
    try simp (maxSteps := 10000000) only [Act.put, List.setIfInBounds_toArray, List.set_cons_zero, List.set_cons_succ, List.getElem_toArray, List.getElem_cons_zero, List.getElem_cons_succ]
    refine wpAnyH_ready (rs := [3]) (by kernel_rfl) (by simp) ?_
    refine AllReadyH.cons rfl (fun K hK => ?_) AllReadyH.nil
    go_simp
    refine (aWalked b A n c ps Y my cy bs _ h_p HP h_y (by omega)).mono ?_
    rintro e w6 ⟨Aw, cw, rfl, ho, hcw, hb⟩
    have Bw6 : Below w.heap.size w w6 := Bw5.trans (hb.mono Bw5.size)
    replace h_y := h_y.next hb (Nat.le_refl _) hb.size
    replace h_p := h_p.next hb (Nat.le_refl _) hb.size
    replace k1 := k1.below hb k1.lt
    replace k3 := k3.below hb k3.lt
    clear Bw5
    clear hb
    have h_w := ho.ri
    clear ho
    refine hK.out _ _ ⟨k1.cell 0, k1.cell 1⟩ (fun hS => ?_)
    clear hK K
    try simp (maxSteps := 10000000) only [Act.put, List.setIfInBounds_toArray, List.set_cons_zero, List.set_cons_succ, List.getElem_toArray, List.getElem_cons_zero, List.getElem_cons_succ]
    refine wpAnyH_ready (rs := [4]) (by kernel_rfl) (by simp) ?_
    refine AllReadyH.cons rfl (fun K hK => ?_) AllReadyH.nil
    go_simp
    refine (fCkRound b A n c ps _ n cw (ofN (walkedL b ps bs)) _ h_p (by omega) hc h_w (by omega) hcw ([], 12) HCK).mono ?_
    rintro e w7 ⟨As, ns, cs, rfl, ho, hb⟩
    have Bw7 : Below w.heap.size w w7 := Bw6.trans (hb.mono Bw6.size)
    replace h_y := h_y.next hb (Nat.le_refl _) hb.size
    replace h_p := h_p.next hb (Nat.le_refl _) hb.size
    replace k1 := k1.below hb k1.lt
    replace k3 := k3.below hb k3.lt
    replace h_w := h_w.next hb (Nat.le_refl _) hb.size
    clear Bw6
    clear hb
    have h_s := ho.ri
    clear ho
    refine hK.out _ _ ⟨k1.cell 0, k1.cell 1⟩ (fun hS => ?_)
    clear hK K
    try simp (maxSteps := 10000000) only
    refine wpAnyH_take (i := 5) (v := ?_) rfl (by kernel_rfl) (by kernel_rfl) (by kernel_rfl) (fun _ _ _ h => h) (Or.inl ⟨by rfl, ?_⟩) hS ?_
    rotate_left
    · intro w hSw
      (try dsimp only at hSw)
      go_simp
      (try with_reducible rfl)
    try simp (maxSteps := 10000000) only [Act.put, List.setIfInBounds_toArray, List.set_cons_zero, List.set_cons_succ, List.getElem_toArray, List.getElem_cons_zero, List.getElem_cons_succ]
    refine wpAnyH_take (i := 6) (v := ?_) rfl (by kernel_rfl) (by kernel_rfl) (by kernel_rfl) (fun _ _ _ h => h) (Or.inl ⟨by rfl, ?_⟩) hS ?_
    rotate_left
    · intro w hSw
      (try dsimp only at hSw)
      go_simp
      (try with_reducible rfl)
    try simp (maxSteps := 10000000) only [Act.put, List.setIfInBounds_toArray, List.set_cons_zero, List.set_cons_succ, List.getElem_toArray, List.getElem_cons_zero, List.getElem_cons_succ]
    refine wpAnyH_take (i := 7) (v := ?_) rfl (by kernel_rfl) (by kernel_rfl) (by kernel_rfl) (fun _ _ _ h => h) (Or.inl ⟨by rfl, ?_⟩) hS ?_
    rotate_left
    · intro w hSw
      (try dsimp only at hSw)
      go_simp
      (try with_reducible rfl)
    try simp (maxSteps := 10000000) only [Act.put, List.setIfInBounds_toArray, List.set_cons_zero, List.set_cons_succ, List.getElem_toArray, List.getElem_cons_zero, List.getElem_cons_succ]
    refine wpAnyH_take (i := 8) (v := ?_) rfl (by kernel_rfl) (by kernel_rfl) (by kernel_rfl) (fun _ _ _ h => h) (Or.inl ⟨by rfl, ?_⟩) hS ?_
    rotate_left
    · intro w hSw
      (try dsimp only at hSw)
      go_simp
      (try with_reducible rfl)
    try simp (maxSteps := 10000000) only [Act.put, List.setIfInBounds_toArray, List.set_cons_zero, List.set_cons_succ, List.getElem_toArray, List.getElem_cons_zero, List.getElem_cons_succ]
    refine wpAnyH_take (i := 9) (v := ?_) rfl (by kernel_rfl) (by kernel_rfl) (by kernel_rfl) (fun _ _ _ h => h) (Or.inl ⟨by rfl, ?_⟩) hS ?_
    rotate_left
    · intro w hSw
      (try dsimp only at hSw)
      go_simp
      (try with_reducible rfl)
    try simp (maxSteps := 10000000) only [Act.put, List.setIfInBounds_toArray, List.set_cons_zero, List.set_cons_succ, List.getElem_toArray, List.getElem_cons_zero, List.getElem_cons_succ]
    refine wpAnyH_done (by kernel_rfl) (NoPanic.normal ?_) _
    clear hS
    clear h_w
    have d_k1_0 := k1.cell 0
    have d_k1_1 := k1.cell 1
    have d_k3_0 := k3.cell 0
    have d_k3_1 := k3.cell 1
    go_wp2_with fail
    clear d_k1_0 d_k1_1 d_k3_0 d_k3_1
    refine (fCount b A n c ps _ h_p (by omega) hc ((NG : Int), 0) HC).mono ?_
    rintro e w8 ⟨rfl, hb⟩
    have Bw8 : Below w.heap.size w w8 := Bw7.trans (hb.mono Bw7.size)
    replace h_y := h_y.next hb (Nat.le_refl _) hb.size
    replace h_p := h_p.next hb (Nat.le_refl _) hb.size
    replace k1 := k1.below hb k1.lt
    replace k3 := k3.below hb k3.lt
    replace h_s := h_s.next hb (Nat.le_refl _) hb.size
    clear Bw7
    clear hb
    have d_k1_0 := k1.cell 0
    have d_k1_1 := k1.cell 1
    have d_k3_0 := k3.cell 0
    have d_k3_1 := k3.cell 1
    go_wp2_with fail
    clear d_k1_0 d_k1_1 d_k3_0 d_k3_1
    refine (rGood b A n c ps _ h_p HP NG HNG).mono ?_
    rintro e w9 ⟨Al, cl, rfl, hro, hb⟩
    have Bw9 : Below w.heap.size w w9 := Bw8.trans (hb.mono Bw8.size)
    replace h_y := h_y.next hb (Nat.le_refl _) hb.size
    replace h_p := h_p.next hb (Nat.le_refl _) hb.size
    replace k1 := k1.below hb k1.lt
    replace k3 := k3.below hb k3.lt
    replace h_s := h_s.next hb (Nat.le_refl _) hb.size
    clear Bw8
    clear hb
    have h_l := hro
    clear hro
    have hns0 : ns = 0 := h_s.len.symm
    subst hns0
    have d_k1_0 := k1.cell 0
    have d_k1_1 := k1.cell 1
    have d_k3_0 := k3.cell 0
    have d_k3_1 := k3.cell 1
    go_wp2
    go_quiet (fail)
    clear d_k1_0 d_k1_1 d_k3_0 d_k3_1
    obtain ⟨w10, hW⟩ : ∃ W : World, w9.drewN nq = W := ⟨_, rfl⟩
    have hb : Below w9.heap.size w9 w10 := hW ▸ below_drewN (Below.refl _ _) nq
    rw [hW]
    clear hW
    have Bw10 : Below w.heap.size w w10 := Bw9.trans (hb.mono Bw9.size)
    replace h_y := h_y.next hb (Nat.le_refl _) hb.size
    replace h_p := h_p.next hb (Nat.le_refl _) hb.size
    replace k1 := k1.below hb k1.lt
    replace k3 := k3.below hb k3.lt
    replace h_s := h_s.next hb (Nat.le_refl _) hb.size
    replace h_l := h_l.below hb
    clear Bw9
    clear hb
    clear h_s
    have d_k1_0 := k1.cell 0
    have d_k1_1 := k1.cell 1
    have d_k3_0 := k3.cell 0
    have d_k3_1 := k3.cell 1
    go_wp2
    clear d_k1_0 d_k1_1 d_k3_0 d_k3_1
    go_loopw [15, 16, 17] (fun a e i wr => ∃ k : Nat, k ≤ NG ∧ i = .int .i64 (k : Int) ∧ a = .bool (decide (lo ∈ xs.take k)) ∧ e = .bool (decide (hi ∈ xs.take k)) ∧ Below w10.heap.size w10 wr) (fun _ _ i _ => NG - (intOf i).toNat)
    case atStart => exact ⟨0, Nat.zero_le _, rfl, by simp, by simp, Below.refl _ _⟩
    case round =>
      obtain ⟨k, hk, rfl, rfl, rfl, hb⟩ := hrel
      obtain ⟨ra, HRA⟩ : ∃ r : Bool, Hid (decide (lo ∈ xs.take k) = r) := ⟨_, Lib.hid rfl⟩
      obtain ⟨re, HRE⟩ : ∃ r : Bool, Hid (decide (hi ∈ xs.take k) = r) := ⟨_, Lib.hid rfl⟩
      rw [HRA.out, HRE.out]
      obtain ⟨w11, hW⟩ : ∃ W : World, wr = W := ⟨_, rfl⟩
      rw [hW] at hb ⊢
      clear hW
      have Bl := hb
      have Bw11 : Below w.heap.size w w11 := Bw10.trans (hb.mono Bw10.size)
      replace h_y := h_y.next hb (Nat.le_refl _) hb.size
      replace h_p := h_p.next hb (Nat.le_refl _) hb.size
      replace k1 := k1.below hb k1.lt
      replace k3 := k3.below hb k3.lt
      replace h_l := h_l.below hb
      clear Bw10
      clear hb
      by_cases hlt : k < NG
      · exfalso
        have := HNG0.out
        omega
      · have hn00 : ((NG : Int) == 0) = true := by have := HNG0.out; simp; omega
        have d_k1_0 := k1.cell 0
        have d_k1_1 := k1.cell 1
        have d_k3_0 := k3.cell 0
        have d_k3_1 := k3.cell 1
        go_wp2_with fail
        clear d_k1_0 d_k1_1 d_k3_0 d_k3_1
        refine (aWorks _).mono ?_
        rintro e w12 ⟨rfl, hb⟩
        have Bw12 : Below w.heap.size w w12 := Bw11.trans (hb.mono Bw11.size)
        replace h_y := h_y.next hb (Nat.le_refl _) hb.size
        replace h_p := h_p.next hb (Nat.le_refl _) hb.size
        replace k1 := k1.below hb k1.lt
        replace k3 := k3.below hb k3.lt
        replace h_l := h_l.below hb
        replace Bl := Bl.trans (hb.mono Bl.size)
        clear Bw11
        clear hb
        go_wp2
        go_ret
        exact ⟨rfl, Bw12⟩

set_option maxRecDepth 100000 in
theorem RoundWithin_lifted (os : Go.Os) (started : os.Started) (H : Type) (enc : TypeId × Value → H) :
    ReturnsInHanded {} Try.checked os 10 .any (Rows.roundWithinSpec.pre6 enc Try.prog Try.f10 Rows.roundWithinRow.domain false) (Rows.roundWithinSpec.post enc Try.prog Try.f10 false true false false) := by
  refine returnsInHanded_of_change (C := Try.checked) row_own started (by kernel_rfl) Try.func10
    (ChangeSpec.witness6 (enc := enc) (C := Try.checked) false ⟨#[], #[.agg #[.int .i64 0, .slice none 0 0], .slice none 0 0, .int .u8 0], []⟩ 8 (by kernel_rfl) (by kernel_rfl) (by kernel_rfl) (by kernel_rfl)) ?_
  intro W base args ds gs before hval0 hW _ _
  have hval : ∀ (j : Nat) t v, Try.f10.params[j]? = some t → args[j]? = some v → Value.okWide Try.prog W .any base t v := hval0
  have hW' := hW
  obtain ⟨p, q, hA0, hV, rfl, _, _⟩ := hW
  have hA : DataW.TrodAll enc Try.prog W 0 (fun _ => true) true Try.f10.params.toList args.toList ds p := hA0
  rw [Try.params10] at hA hval
  obtain ⟨v0, v1, v2, d0, d1, d2, p0, p1, p2, rfl, rfl, rfl, h0, h1, h2⟩ := trodAll_three hA
  obtain ⟨rfl, rfl⟩ := trodVars_none hV
  clear hA0 hval0
  simp only [List.append_nil] at hW'
  have hlt : ∀ x ∈ (p0 ++ p1 ++ p2), x.block < W.heap.size := fun x hx => by simpa using hW'.lt x hx
  have a0 := fun W' (hb : Below W.heap.size W W') => row_stays (t := 24) (by kernel_rfl) (of_decide_eq_true (by kernel_rfl)) h0 (fun x hx => hlt x (by simp [hx])) hb
  have a1 := fun W' (hb : Below W.heap.size W W') => row_stays (t := 55) (by kernel_rfl) (of_decide_eq_true (by kernel_rfl)) h1 (fun x hx => hlt x (by simp [hx])) hb
  have a2 := fun W' (hb : Below W.heap.size W W') => row_stays (t := 5) (by kernel_rfl) (of_decide_eq_true (by kernel_rfl)) h2 (fun x hx => hlt x (by simp [hx])) hb
  obtain ⟨b0, A0, n0, c0, ps0, rfl, hc0, hm0, hx0⟩ := row_pier (hval 0 24 v0 rfl rfl) h0 (fun x hx => hlt x (by simp [hx]))
  obtain ⟨A1, n1, c1, xs1, rfl, hc1, hm1, hx1, hw1⟩ := row_ints (t := 55) (e := 5) (k := .u8) (by kernel_rfl) (by kernel_rfl) (by kernel_rfl) (hval 1 55 v1 rfl rfl) h1 (fun x hx => hlt x (by simp [hx]))
  obtain ⟨x2, rfl, _, _, wx2⟩ := open_int (P := Try.prog) (k := .u8) (t := 5) (by kernel_rfl) (hval 2 5 v2 rfl rfl) h2
  refine (wWithin b0 A0 n0 c0 ps0 A1 n1 c1 xs1 x2 (u8_lo wx2) (u8_hi wx2) W hx0 hc0 (Ru.of_row hx1 hw1)).mono fun e W' ⟨he, hb⟩ => ?_
  subst he
  exact ⟨_, rfl, _, _, _, [], (p0 ++ p1 ++ p2), [], hW', trodAll_mk1 (shut_bool Try.underlying4 true), (by simp only [List.append_assoc]; exact trodAll_mk3 (a0 _ hb) (a1 _ hb) (a2 _ hb)), rfl, hb.frame _, fun h => by cases h⟩
theorem RoundWithin_holds : Rows.RoundWithinSaid :=
  OpenClaim.holds_of_wide 10 Try.f10 rfl rfl rfl rfl rfl rfl rfl ⟨rfl, rfl, rfl, rfl, rfl⟩ rfl rfl rfl rfl rfl (by kernel_rfl) Try.func10 (by kernel_rfl)
    (of_decide_eq_true (by kernel_rfl)) (by unfold Func.isWrapper; first | (rw [if_pos (by decide +kernel)]; kernel_rfl) | (rw [if_neg (by decide +kernel)]; exact ⟨rfl, rfl⟩))
    (fun os started H enc _ => RoundWithin_lifted os started H enc)
#print axioms RoundWithin_holds
end Go.Proofs.Ytaekjnjignlmoaa
