/-
  RoundDelay: a round is in time just if the delay is at most 0; the delay is at most by how much a given round is late; if each To is as much greater, within its limits, the delay is less by this; with each To greater by the delay a round is in time, and not with less: for every pier, every round by numbers and every number of steps; no condition.
-/
import Derived.Test.YtaekjnjignlmoaaWorks
import Derived.Test.YtaekjnjignlmoaaRowP
import Derived.Test.YtaekjnjignlmoaaWl
import Derived.Test.YtaekjnjignlmoaaWk
import Derived.Test.YtaekjnjignlmoaaLt
import Derived.Test.YtaekjnjignlmoaaR5
namespace Go.Proofs.Ytaekjnjignlmoaa
open Go.Shelf Go.ChangeShapes Go.WideShapes Go.ChangeAt Go.RowKit

set_option maxRecDepth 100000 in
set_option maxHeartbeats 16000000 in
theorem wDelay (b : Int) (A : Option Addr) (n c : Nat) (ps : List (Int × Int)) (Y : Option Addr) (my cy : Nat) (bs : List Int) (mo : Int) (hmo0 : 0 ≤ mo) (hmo1 : mo ≤ 65535) (w : World) (hx : Rp w w.heap.size A n ps) (hc : n ≤ c) (hy : Ru w w.heap.size Y my bs) :
    Calls Try.prog 11 #[.agg #[.int .i64 b, .slice A n c], .slice Y my cy, .int .u16 mo] w (RetB w true) := by
  have h_p := hx
  have h_y := hy
  by_cases hf : n ≤ 14 ∧ checkPier b ps = 0
  rotate_left
  · have HF : Hid (decide (n ≤ 14 ∧ checkPier b ps = 0) = false) := Lib.hid (decide_eq_false hf)
    have k1 := Bk.new w 24 #[.int .i64 b, .slice A n c]
    have hb : Below w.heap.size w (w.alloc (.cells #[.int .i64 b, .slice A n c] 24)) := (Below.refl _ _).alloc (Nat.le_refl _) _
    have d0 := k1.cell 0
    have d1 := k1.cell 1
    go_enter Try.func11, Try.ntmps11
    go_wp2_with fail
    clear d0 d1
    obtain ⟨u1, hu⟩ : ∃ k, w.heap.size = k := ⟨_, rfl⟩
    obtain ⟨w1, hW⟩ : ∃ W, w.alloc (.cells #[.int .i64 b, .slice A n c] 24) = W := ⟨_, rfl⟩
    rw [hW] at k1 hb ⊢
    rw [hu] at k1 ⊢
    clear hW hu
    have Bw1 : Below w.heap.size w w1 := hb
    replace h_y := h_y.next hb (Nat.le_refl _) hb.size
    replace h_p := h_p.next hb (Nat.le_refl _) hb.size
    clear hb
    refine (aFine b A n c ps _ h_p _ HF).mono ?_
    rintro e w2 ⟨rfl, hb⟩
    have Bw2 : Below w.heap.size w w2 := Bw1.trans (hb.mono Bw1.size)
    replace h_y := h_y.next hb (Nat.le_refl _) hb.size
    replace h_p := h_p.next hb (Nat.le_refl _) hb.size
    replace k1 := k1.below hb k1.lt
    clear Bw1
    clear hb
    have d_k1_0 := k1.cell 0
    have d_k1_1 := k1.cell 1
    go_wp2_with fail
    clear d_k1_0 d_k1_1
    refine (aWorks _).mono ?_
    rintro e w3 ⟨rfl, hb⟩
    have Bw3 : Below w.heap.size w w3 := Bw2.trans (hb.mono Bw2.size)
    replace h_y := h_y.next hb (Nat.le_refl _) hb.size
    replace h_p := h_p.next hb (Nat.le_refl _) hb.size
    replace k1 := k1.below hb k1.lt
    clear Bw2
    clear hb
    go_wp2
    go_ret
    exact ⟨rfl, Bw3⟩
  have HF : Hid (decide (n ≤ 14 ∧ checkPier b ps = 0) = true) := Lib.hid (decide_eq_true hf)
  have HP : Hid (Pier b ps) := Lib.hid (checkPier_ok.1 hf.2)
  have HL := Lib.hid hx.len
  have hn1 : 1 ≤ n := by rw [← HL.out]; exact HP.out.lo
  have hn10 : n ≤ 10 := by rw [← HL.out]; exact HP.out.hi
  clear hf
  by_cases hm40 : 40 < my
  · have k1 := Bk.new w 24 #[.int .i64 b, .slice A n c]
    have hb : Below w.heap.size w (w.alloc (.cells #[.int .i64 b, .slice A n c] 24)) := (Below.refl _ _).alloc (Nat.le_refl _) _
    have d0 := k1.cell 0
    have d1 := k1.cell 1
    go_enter Try.func11, Try.ntmps11
    go_wp2_with fail
    clear d0 d1
    obtain ⟨u1, hu⟩ : ∃ k, w.heap.size = k := ⟨_, rfl⟩
    obtain ⟨w1, hW⟩ : ∃ W, w.alloc (.cells #[.int .i64 b, .slice A n c] 24) = W := ⟨_, rfl⟩
    rw [hW] at k1 hb ⊢
    rw [hu] at k1 ⊢
    clear hW hu
    have Bw1 : Below w.heap.size w w1 := hb
    replace h_y := h_y.next hb (Nat.le_refl _) hb.size
    replace h_p := h_p.next hb (Nat.le_refl _) hb.size
    clear hb
    refine (aFine b A n c ps _ h_p _ HF).mono ?_
    rintro e w2 ⟨rfl, hb⟩
    have Bw2 : Below w.heap.size w w2 := Bw1.trans (hb.mono Bw1.size)
    replace h_y := h_y.next hb (Nat.le_refl _) hb.size
    replace h_p := h_p.next hb (Nat.le_refl _) hb.size
    replace k1 := k1.below hb k1.lt
    clear Bw1
    clear hb
    have d_k1_0 := k1.cell 0
    have d_k1_1 := k1.cell 1
    go_wp2_with fail
    clear d_k1_0 d_k1_1
    refine (aWorks _).mono ?_
    rintro e w3 ⟨rfl, hb⟩
    have Bw3 : Below w.heap.size w w3 := Bw2.trans (hb.mono Bw2.size)
    replace h_y := h_y.next hb (Nat.le_refl _) hb.size
    replace h_p := h_p.next hb (Nat.le_refl _) hb.size
    replace k1 := k1.below hb k1.lt
    clear Bw2
    clear hb
    go_wp2
    go_ret
    exact ⟨rfl, Bw3⟩
  have hmix : Try.prog.follows .mixedOrders = true := by kernel_rfl
  obtain ⟨dl, HD⟩ : ∃ m : Int, Hid (delayS b ps = (m, 0)) := ⟨(delayS b ps).1, Lib.hid (by unfold delayS; rw [if_pos (checkPier_ok.2 HP.out)])⟩
  obtain ⟨cp, HC⟩ : ∃ m : Int, Hid (countS b ps = (m, 0)) := ⟨(countS b ps).1, Lib.hid (by unfold countS; rw [if_pos (checkPier_ok.2 HP.out)])⟩
  have HDC : Hid (dl ≤ 0 ↔ 0 < cp) := Lib.hid (by
    have h := delay_iff HP.out
    rw [HD.out, HC.out] at h
    exact h)
  have hdb := delay_bd HP.out
  rw [HD.out] at hdb
  simp only at hdb
  have HWA : Hid (walkedL b ps bs ∈ allR b ps) := Lib.hid (walked_all b ps bs)
  obtain ⟨lb, HLB⟩ : ∃ v, Hid (lateL ps (stepsL b ps (walkedL b ps bs)) = v) := ⟨_, Lib.hid rfl⟩
  have hdlb : dl ≤ lb := by
    have h := delay_le HP.out HWA.out
    rw [HD.out, HLB.out] at h
    exact h
  have hwm : IntKind.i64.wrap mo = mo := IntWalk.i64_in _ (by omega)
  have k1 := Bk.new w 24 #[.int .i64 b, .slice A n c]
  have hb : Below w.heap.size w (w.alloc (.cells #[.int .i64 b, .slice A n c] 24)) := (Below.refl _ _).alloc (Nat.le_refl _) _
  have d0 := k1.cell 0
  have d1 := k1.cell 1
  go_enter Try.func11, Try.ntmps11
  go_wp2_with fail
  clear d0 d1
  obtain ⟨u1, hu⟩ : ∃ k, w.heap.size = k := ⟨_, rfl⟩
  obtain ⟨w1, hW⟩ : ∃ W, w.alloc (.cells #[.int .i64 b, .slice A n c] 24) = W := ⟨_, rfl⟩
  rw [hW] at k1 hb ⊢
  rw [hu] at k1 ⊢
  clear hW hu
  have Bw1 : Below w.heap.size w w1 := hb
  replace h_y := h_y.next hb (Nat.le_refl _) hb.size
  replace h_p := h_p.next hb (Nat.le_refl _) hb.size
  clear hb
  refine (aFine b A n c ps _ h_p _ HF).mono ?_
  rintro e w2 ⟨rfl, hb⟩
  have Bw2 : Below w.heap.size w w2 := Bw1.trans (hb.mono Bw1.size)
  replace h_y := h_y.next hb (Nat.le_refl _) hb.size
  replace h_p := h_p.next hb (Nat.le_refl _) hb.size
  replace k1 := k1.below hb k1.lt
  clear Bw1
  clear hb
  have d_k1_0 := k1.cell 0
  have d_k1_1 := k1.cell 1
  go_wp2_with fail
  clear d_k1_0 d_k1_1
  refine (fDelay b A n c ps _ h_p (by omega) hc _ HD).mono ?_
  rintro e w3 ⟨rfl, hb⟩
  have Bw3 : Below w.heap.size w w3 := Bw2.trans (hb.mono Bw2.size)
  replace h_y := h_y.next hb (Nat.le_refl _) hb.size
  replace h_p := h_p.next hb (Nat.le_refl _) hb.size
  replace k1 := k1.below hb k1.lt
  clear Bw2
  clear hb
  have d_k1_0 := k1.cell 0
  have d_k1_1 := k1.cell 1
  go_wp2_with fail
  clear d_k1_0 d_k1_1
  refine (fCount b A n c ps _ h_p (by omega) hc _ HC).mono ?_
  rintro e w4 ⟨rfl, hb⟩
  have Bw4 : Below w.heap.size w w4 := Bw3.trans (hb.mono Bw3.size)
  replace h_y := h_y.next hb (Nat.le_refl _) hb.size
  replace h_p := h_p.next hb (Nat.le_refl _) hb.size
  replace k1 := k1.below hb k1.lt
  clear Bw3
  clear hb
  by_cases hd0 : dl ≤ 0
  · have hx1 : decide (dl < -9000) = false := decide_eq_false (by omega)
    have hx2 : decide (20000 < dl) = false := decide_eq_false (by omega)
    have hx3 : decide (lb < dl) = false := decide_eq_false (by omega)
    have hx4 : decide (dl ≤ 0) = true := decide_eq_true (by omega)
    have hx5 : decide (0 < cp) = true := decide_eq_true (by have := HDC.out; omega)
    have HDB := Lib.hid hdb
    clear hd0 hdb hdlb
    have d_k1_0 := k1.cell 0
    have d_k1_1 := k1.cell 1
    go_wp2
    clear d_k1_0 d_k1_1
    have e_k1_0 := k1.drew.cell 0
    have e_k1_1 := k1.drew.cell 1
    refine wp_region_noPanic ?_
    refine wp_region_held_drew (S := fun V => V.cell? ⟨u1, 0, none⟩ = some (.int .i64 b) ∧ V.cell? ⟨u1, 1, none⟩ = some (.slice A n c)) hmix ⟨e_k1_0, e_k1_1⟩ (fun hS => ?_)
    clear e_k1_0 e_k1_1
    obtain ⟨w5, hW⟩ : ∃ W, w4.drew = W := ⟨_, rfl⟩
    have hb : Below w4.heap.size w4 w5 := hW ▸ below_drewN (Below.refl _ _) 1
    rw [hW] at hS ⊢
    clear hW
    have Bw5 : Below w.heap.size w w5 := Bw4.trans (hb.mono Bw4.size)
    replace h_y := h_y.next hb (Nat.le_refl _) hb.size
    replace h_p := h_p.next hb (Nat.le_refl _) hb.size
    replace k1 := k1.below hb k1.lt
    clear Bw4
    clear hb
    refine wpAnyH_take (i := 0) (v := ?_) rfl (by kernel_rfl) (by kernel_rfl) (by kernel_rfl) (fun _ _ _ h => h) (Or.inl ⟨by rfl, ?_⟩) hS ?_
    rotate_left
    · intro w hSw
      (try dsimp only at hSw)
      go_simp
      (try with_reducible rfl)
    try simp (maxSteps := 10000000) only [Act.put, List.setIfInBounds_toArray, List.set_cons_zero, List.set_cons_succ, List.getElem_toArray, List.getElem_cons_zero]
    refine wpAnyH_take (i := 1) (v := ?_) rfl (by kernel_rfl) (by kernel_rfl) (by kernel_rfl) (fun _ _ _ h => h) (Or.inl ⟨by rfl, ?_⟩) hS ?_
    rotate_left
    · intro w hSw
      (try dsimp only at hSw)
      go_simp
      (try with_reducible rfl)
    try simp (maxSteps := 10000000) only [Act.put, List.setIfInBounds_toArray, List.set_cons_zero, List.set_cons_succ, List.getElem_toArray, List.getElem_cons_zero, List.getElem_cons_succ]
    refine wpAnyH_take (i := 2) (v := ?_) rfl (by kernel_rfl) (by kernel_rfl) (by kernel_rfl) (fun _ _ _ h => h) (Or.inl ⟨by rfl, ?_⟩) hS ?_
    rotate_left
    · intro w hSw
      (try dsimp only at hSw)
      go_simp
      (try with_reducible rfl)
    try simp (maxSteps := 10000000) only [Act.put, List.setIfInBounds_toArray, List.set_cons_zero, List.set_cons_succ, List.getElem_toArray, List.getElem_cons_zero, List.getElem_cons_succ]
    refine wpAnyH_take (i := 3) (v := ?_) rfl (by kernel_rfl) (by kernel_rfl) (by kernel_rfl) (fun _ _ _ h => h) (Or.inl ⟨by rfl, ?_⟩) hS ?_
    rotate_left
    · intro w hSw
      (try dsimp only at hSw)
      go_simp
      (try with_reducible rfl)
    try simp (maxSteps := 10000000) only [Act.put, List.setIfInBounds_toArray, List.set_cons_zero, List.set_cons_succ, List.getElem_toArray, List.getElem_cons_zero, List.getElem_cons_succ]
    refine wpAnyH_take (i := 4) (v := ?_) rfl (by kernel_rfl) (by kernel_rfl) (by kernel_rfl) (fun _ _ _ h => h) (Or.inl ⟨by rfl, ?_⟩) hS ?_
    rotate_left
    · intro w hSw
      (try dsimp only at hSw)
      go_simp
      (try with_reducible rfl)
    try simp (maxSteps := 10000000) only [Act.put, List.setIfInBounds_toArray, List.set_cons_zero, List.set_cons_succ, List.getElem_toArray, List.getElem_cons_zero, List.getElem_cons_succ]
    refine wpAnyH_take (i := 5) (v := ?_) rfl (by kernel_rfl) (by kernel_rfl) (by kernel_rfl) (fun _ _ _ h => h) (Or.inl ⟨by rfl, ?_⟩) hS ?_
    rotate_left
    · intro w hSw
      (try dsimp only at hSw)
      go_simp
      (try with_reducible rfl)
    try simp (maxSteps := 10000000) only [Act.put, List.setIfInBounds_toArray, List.set_cons_zero, List.set_cons_succ, List.getElem_toArray, List.getElem_cons_zero, List.getElem_cons_succ]
    refine wpAnyH_take (i := 6) (v := ?_) rfl (by kernel_rfl) (by kernel_rfl) (by kernel_rfl) (fun _ _ _ h => h) (Or.inl ⟨by rfl, ?_⟩) hS ?_
    rotate_left
    · intro w hSw
      (try dsimp only at hSw)
      go_simp
      (try with_reducible rfl)
    try simp (maxSteps := 10000000) only [Act.put, List.setIfInBounds_toArray, List.set_cons_zero, List.set_cons_succ, List.getElem_toArray, List.getElem_cons_zero, List.getElem_cons_succ]
    refine wpAnyH_take (i := 7) (v := ?_) rfl (by kernel_rfl) (by kernel_rfl) (by kernel_rfl) (fun _ _ _ h => h) (Or.inl ⟨by rfl, ?_⟩) hS ?_
    rotate_left
    · intro w hSw
      (try dsimp only at hSw)
      go_simp
      (try with_reducible rfl)
    try simp (maxSteps := 10000000) only [Act.put, List.setIfInBounds_toArray, List.set_cons_zero, List.set_cons_succ, List.getElem_toArray, List.getElem_cons_zero, List.getElem_cons_succ]
    refine wpAnyH_take (i := 8) (v := ?_) rfl (by kernel_rfl) (by kernel_rfl) (by kernel_rfl) (fun _ _ _ h => h) (Or.inl ⟨by rfl, ?_⟩) hS ?_
    rotate_left
    · intro w hSw
      (try dsimp only at hSw)
      go_simp
      (try with_reducible rfl)
    try simp (maxSteps := 10000000) only [Act.put, List.setIfInBounds_toArray, List.set_cons_zero, List.set_cons_succ, List.getElem_toArray, List.getElem_cons_zero, List.getElem_cons_succ]
    refine wpAnyH_take (i := 9) (v := ?_) rfl (by kernel_rfl) (by kernel_rfl) (by kernel_rfl) (fun _ _ _ h => h) (Or.inl ⟨by rfl, ?_⟩) hS ?_
    rotate_left
    · intro w hSw
      (try dsimp only at hSw)
      go_simp
      (try with_reducible rfl)
    try simp (maxSteps := 10000000) only [Act.put, List.setIfInBounds_toArray, List.set_cons_zero, List.set_cons_succ, List.getElem_toArray, List.getElem_cons_zero, List.getElem_cons_succ]
    refine wpAnyH_take (i := 10) (v := ?_) rfl (by kernel_rfl) (by kernel_rfl) (by kernel_rfl) (fun _ _ _ h => h) (Or.inl ⟨by rfl, ?_⟩) hS ?_
    rotate_left
    · intro w hSw
      (try dsimp only at hSw)
      go_simp
      (try with_reducible rfl)
    try simp (maxSteps := 10000000) only [Act.put, List.setIfInBounds_toArray, List.set_cons_zero, List.set_cons_succ, List.getElem_toArray, List.getElem_cons_zero, List.getElem_cons_succ]
    refine wpAnyH_take (i := 11) (v := ?_) rfl (by kernel_rfl) (by kernel_rfl) (by kernel_rfl) (fun _ _ _ h => h) (Or.inl ⟨by rfl, ?_⟩) hS ?_
    rotate_left
    · intro w hSw
      (try dsimp only at hSw)
      go_simp
      (try with_reducible rfl)
    try simp (maxSteps := 10000000) only [Act.put, List.setIfInBounds_toArray, List.set_cons_zero, List.set_cons_succ, List.getElem_toArray, List.getElem_cons_zero, List.getElem_cons_succ]
    refine wpAnyH_take (i := 12) (v := ?_) rfl (by kernel_rfl) (by kernel_rfl) (by kernel_rfl) (fun _ _ _ h => h) (Or.inl ⟨by rfl, ?_⟩) hS ?_
    rotate_left
    · intro w hSw
      (try dsimp only at hSw)
      go_simp
      (try with_reducible rfl)
    try simp (maxSteps := 10000000) only [Act.put, List.setIfInBounds_toArray, List.set_cons_zero, List.set_cons_succ, List.getElem_toArray, List.getElem_cons_zero, List.getElem_cons_succ]
    refine wpAnyH_take (i := 13) (v := ?_) rfl (by kernel_rfl) (by kernel_rfl) (by kernel_rfl) (fun _ _ _ h => h) (Or.inl ⟨by rfl, ?_⟩) hS ?_
    rotate_left
    · intro w hSw
      (try dsimp only at hSw)
      go_simp
      (try with_reducible rfl)
    try simp (maxSteps := 10000000) only [Act.put, List.setIfInBounds_toArray, List.set_cons_zero, List.set_cons_succ, List.getElem_toArray, List.getElem_cons_zero, List.getElem_cons_succ]
    refine wpAnyH_take (i := 14) (v := ?_) rfl (by kernel_rfl) (by kernel_rfl) (by kernel_rfl) (fun _ _ _ h => h) (Or.inl ⟨by rfl, ?_⟩) hS ?_
    rotate_left
    · intro w hSw
      (try dsimp only at hSw)
      go_simp
      (try with_reducible rfl)
    try simp (maxSteps := 10000000) only [Act.put, List.setIfInBounds_toArray, List.set_cons_zero, List.set_cons_succ, List.getElem_toArray, List.getElem_cons_zero, List.getElem_cons_succ]
    refine wpAnyH_take (i := 15) (v := ?_) rfl (by kernel_rfl) (by kernel_rfl) (by kernel_rfl) (fun _ _ _ h => h) (Or.inl ⟨by rfl, ?_⟩) hS ?_
    rotate_left
    · intro w hSw
      (try dsimp only at hSw)
      go_simp
      (try with_reducible rfl)
    try simp (maxSteps := 10000000) only [Act.put, List.setIfInBounds_toArray, List.set_cons_zero, List.set_cons_succ, List.getElem_toArray, List.getElem_cons_zero, List.getElem_cons_succ]
    refine wpAnyH_take (i := 16) (v := ?_) rfl (by kernel_rfl) (by kernel_rfl) (by kernel_rfl) (fun _ _ _ h => h) (Or.inl ⟨by rfl, ?_⟩) hS ?_
    rotate_left
    · intro w hSw
      (try dsimp only at hSw)
      go_simp
      (try with_reducible rfl)
    try simp (maxSteps := 10000000) only [Act.put, List.setIfInBounds_toArray, List.set_cons_zero, List.set_cons_succ, List.getElem_toArray, List.getElem_cons_zero, List.getElem_cons_succ]
    refine wpAnyH_take (i := 17) (v := ?_) rfl (by kernel_rfl) (by kernel_rfl) (by kernel_rfl) (fun _ _ _ h => h) (Or.inl ⟨by rfl, ?_⟩) hS ?_
    rotate_left
    · intro w hSw
      (try dsimp only at hSw)
      go_simp
      (try with_reducible rfl)
    try simp (maxSteps := 10000000) only [Act.put, List.setIfInBounds_toArray, List.set_cons_zero, List.set_cons_succ, List.getElem_toArray, List.getElem_cons_zero, List.getElem_cons_succ]
    refine wpAnyH_take (i := 18) (v := ?_) rfl (by kernel_rfl) (by kernel_rfl) (by kernel_rfl) (fun _ _ _ h => h) (Or.inl ⟨by rfl, ?_⟩) hS ?_
    rotate_left
    · intro w hSw
      (try dsimp only at hSw)
      go_simp
      (try with_reducible rfl)
    try simp (maxSteps := 10000000) only [Act.put, List.setIfInBounds_toArray, List.set_cons_zero, List.set_cons_succ, List.getElem_toArray, List.getElem_cons_zero, List.getElem_cons_succ]
    refine wpAnyH_take (i := 19) (v := ?_) rfl (by kernel_rfl) (by kernel_rfl) (by kernel_rfl) (fun _ _ _ h => h) (Or.inl ⟨by rfl, ?_⟩) hS ?_
    rotate_left
    · intro w hSw
      (try dsimp only at hSw)
      go_simp
      (try with_reducible rfl)
    try simp (maxSteps := 10000000) only [Act.put, List.setIfInBounds_toArray, List.set_cons_zero, List.set_cons_succ, List.getElem_toArray, List.getElem_cons_zero, List.getElem_cons_succ]
    refine wpAnyH_take (i := 20) (v := ?_) rfl (by kernel_rfl) (by kernel_rfl) (by kernel_rfl) (fun _ _ _ h => h) (Or.inl ⟨by rfl, ?_⟩) hS ?_
    rotate_left
    · intro w hSw
      (try dsimp only at hSw)
      go_simp
      (try with_reducible rfl)
    try simp (maxSteps := 10000000) only [Act.put, List.setIfInBounds_toArray, List.set_cons_zero, List.set_cons_succ, List.getElem_toArray, List.getElem_cons_zero, List.getElem_cons_succ]
    refine wpAnyH_take (i := 21) (v := ?_) rfl (by kernel_rfl) (by kernel_rfl) (by kernel_rfl) (fun _ _ _ h => h) (Or.inl ⟨by rfl, ?_⟩) hS ?_
    rotate_left
    · intro w hSw
      (try dsimp only at hSw)
      go_simp
      (try with_reducible rfl)
    try simp (maxSteps := 10000000) only [Act.put, List.setIfInBounds_toArray, List.set_cons_zero, List.set_cons_succ, List.getElem_toArray, List.getElem_cons_zero, List.getElem_cons_succ]
    refine wpAnyH_take (i := 22) (v := ?_) rfl (by kernel_rfl) (by kernel_rfl) (by kernel_rfl) (fun _ _ _ h => h) (Or.inl ⟨by rfl, ?_⟩) hS ?_
    rotate_left
    · intro w hSw
      (try dsimp only at hSw)
      go_simp
      (try with_reducible rfl)
    try simp (maxSteps := 10000000) only [Act.put, List.setIfInBounds_toArray, List.set_cons_zero, List.set_cons_succ, List.getElem_toArray, List.getElem_cons_zero, List.getElem_cons_succ]
    refine wpAnyH_take (i := 23) (v := ?_) rfl (by kernel_rfl) (by kernel_rfl) (by kernel_rfl) (fun _ _ _ h => h) (Or.inl ⟨by rfl, ?_⟩) hS ?_
    rotate_left
    · intro w hSw
      (try dsimp only at hSw)
      go_simp
      (try with_reducible rfl)
    try simp (maxSteps := 10000000) only [Act.put, List.setIfInBounds_toArray, List.set_cons_zero, List.set_cons_succ, List.getElem_toArray, List.getElem_cons_zero, List.getElem_cons_succ]
    refine wpAnyH_take (i := 24) (v := ?_) rfl (by kernel_rfl) (by kernel_rfl) (by kernel_rfl) (fun _ _ _ h => h) (Or.inl ⟨by rfl, ?_⟩) hS ?_
    rotate_left
    · intro w hSw
      (try dsimp only at hSw)
      go_simp
      (try with_reducible rfl)
    try simp (maxSteps := 10000000) only [Act.put, List.setIfInBounds_toArray, List.set_cons_zero, List.set_cons_succ, List.getElem_toArray, List.getElem_cons_zero, List.getElem_cons_succ]
    refine wpAnyH_take (i := 25) (v := ?_) rfl (by kernel_rfl) (by kernel_rfl) (by kernel_rfl) (fun _ _ _ h => h) (Or.inl ⟨by rfl, ?_⟩) hS ?_
    rotate_left
    · intro w hSw
      (try dsimp only at hSw)
      go_simp
      (try with_reducible rfl)
    try simp (maxSteps := 10000000) only [Act.put, List.setIfInBounds_toArray, List.set_cons_zero, List.set_cons_succ, List.getElem_toArray, List.getElem_cons_zero, List.getElem_cons_succ]
    refine wpAnyH_ready (rs := [26]) (by kernel_rfl) (by simp) ?_
    refine AllReadyH.cons rfl (fun K hK => ?_) AllReadyH.nil
    go_simp
    refine (aWalked b A n c ps Y my cy bs _ h_p HP h_y (by omega)).mono ?_
    rintro e w6 ⟨Aw, cw, rfl, ho, hcw, hb⟩
    have Bw6 : Below w.heap.size w w6 := Bw5.trans (hb.mono Bw5.size)
    replace h_y := h_y.next hb (Nat.le_refl _) hb.size
    replace h_p := h_p.next hb (Nat.le_refl _) hb.size
    replace k1 := k1.below hb k1.lt
    clear Bw5
    clear hb
    have h_w := ho.ri
    clear ho
    refine hK.out _ _ ⟨k1.cell 0, k1.cell 1⟩ (fun hS => ?_)
    clear hK K
    try simp (maxSteps := 10000000) only [Act.put, List.setIfInBounds_toArray, List.set_cons_zero, List.set_cons_succ, List.getElem_toArray, List.getElem_cons_zero, List.getElem_cons_succ]
    refine wpAnyH_ready (rs := [27]) (by kernel_rfl) (by simp) ?_
    refine AllReadyH.cons rfl (fun K hK => ?_) AllReadyH.nil
    go_simp
    refine (rLateBy b A n c ps _ n cw _ _ h_p HP h_w HWA lb HLB).mono ?_
    rintro e w7 ⟨rfl, hb⟩
    have Bw7 : Below w.heap.size w w7 := Bw6.trans (hb.mono Bw6.size)
    replace h_y := h_y.next hb (Nat.le_refl _) hb.size
    replace h_p := h_p.next hb (Nat.le_refl _) hb.size
    replace k1 := k1.below hb k1.lt
    replace h_w := h_w.next hb (Nat.le_refl _) hb.size
    clear Bw6
    clear hb
    refine hK.out _ _ ⟨k1.cell 0, k1.cell 1⟩ (fun hS => ?_)
    clear hK K
    try simp (maxSteps := 10000000) only [Act.put, List.setIfInBounds_toArray, List.set_cons_zero, List.set_cons_succ, List.getElem_toArray, List.getElem_cons_zero, List.getElem_cons_succ]
    refine wpAnyH_take (i := 28) (v := ?_) rfl (by kernel_rfl) (by kernel_rfl) (by kernel_rfl) (fun _ _ _ h => h) (Or.inl ⟨by rfl, ?_⟩) hS ?_
    rotate_left
    · intro w hSw
      (try dsimp only at hSw)
      go_simp
      (try with_reducible rfl)
    try simp (maxSteps := 10000000) only [Act.put, List.setIfInBounds_toArray, List.set_cons_zero, List.set_cons_succ, List.getElem_toArray, List.getElem_cons_zero, List.getElem_cons_succ]
    refine wpAnyH_take (i := 29) (v := ?_) rfl (by kernel_rfl) (by kernel_rfl) (by kernel_rfl) (fun _ _ _ h => h) (Or.inl ⟨by rfl, ?_⟩) hS ?_
    rotate_left
    · intro w hSw
      (try dsimp only at hSw)
      go_simp
      (try with_reducible rfl)
    try simp (maxSteps := 10000000) only [Act.put, List.setIfInBounds_toArray, List.set_cons_zero, List.set_cons_succ, List.getElem_toArray, List.getElem_cons_zero, List.getElem_cons_succ]
    refine wpAnyH_done (by kernel_rfl) (NoPanic.normal ?_) _
    clear hS
    clear h_w
    clear hx1 hx2 hx3 hx4 hx5
    have hdb := HDB.out
    have d_k1_0 := k1.cell 0
    have d_k1_1 := k1.cell 1
    go_wp2
    clear d_k1_0 d_k1_1
    go_loopw [11] (fun i wr => ∃ iN : Nat, iN ≤ 3 ∧ i = .int .i64 (iN : Int) ∧ Below w.heap.size w wr ∧ Rp wr wr.heap.size A n ps ∧ Bk wr u1 24 #[.int .i64 b, .slice A n c]) (fun i _ => 3 - (intOf i).toNat)
    case atStart => exact ⟨0, by omega, rfl, Bw7, h_p, k1⟩
    case round =>
      clear h_p k1 Bw7 h_y
      obtain ⟨iN, hi3, rfl, Bwr, h_p, k1⟩ := hrel
      obtain ⟨w8, hW⟩ : ∃ W : World, wr = W := ⟨_, rfl⟩
      rw [hW] at Bwr h_p k1 ⊢
      clear hW
      have Bw8 := Bwr
      clear Bwr
      by_cases hlt : iN < 3
      · by_cases hi0 : 0 < iN
        · obtain ⟨d1, HD1⟩ : ∃ z : Int, Hid (dl + 1 = z) := ⟨_, Lib.hid rfl⟩
          have hwd1 : IntKind.i64.wrap (dl + 1) = d1 := (IntWalk.i64_in _ (by omega)).trans HD1.out
          obtain ⟨kk, HKK⟩ : ∃ kk : Int, Hid (d1 - (iN : Int) = kk) := ⟨_, Lib.hid rfl⟩
          have hwk1 : IntKind.i64.wrap (d1 - (iN : Int)) = kk := by rw [IntWalk.i64_in _ (by have := HD1.out; omega)]; exact HKK.out
          have hkk : -100000 ≤ kk ∧ kk ≤ 100000 := by have := HKK.out; have := HD1.out; omega
          have d_k1_0 := k1.cell 0
          have d_k1_1 := k1.cell 1
          go_wp2_with fail
          clear d_k1_0 d_k1_1
          refine (aLater b A n c ps kk _ h_p HP hkk).mono ?_
          rintro e w9 ⟨Ax, cx, rfl, ho, hb⟩
          have Bw9 : Below w.heap.size w w9 := Bw8.trans (hb.mono Bw8.size)
          replace h_p := h_p.next hb (Nat.le_refl _) hb.size
          replace k1 := k1.below hb k1.lt
          clear Bw8
          clear hb
          have h_x := ho.rp
          have hcx := ho.cap
          clear ho
          have d_k1_0 := (k1.alloc (.cells #[.int .i64 b, .slice Ax n cx] 24)).cell 0
          have d_k1_1 := (k1.alloc (.cells #[.int .i64 b, .slice Ax n cx] 24)).cell 1
          have d_kx_0 := (Bk.new w9 24 #[.int .i64 b, .slice Ax n cx]).cell 0
          have d_kx_1 := (Bk.new w9 24 #[.int .i64 b, .slice Ax n cx]).cell 1
          go_wp2
          clear d_k1_0 d_k1_1 d_kx_0 d_kx_1
          have kx := Bk.new w9 24 #[.int .i64 b, .slice Ax n cx]
          have hb : Below w9.heap.size w9 (w9.alloc (.cells #[.int .i64 b, .slice Ax n cx] 24)) := (Below.refl _ _).alloc (Nat.le_refl _) _
          obtain ⟨ux, hu⟩ : ∃ k, w9.heap.size = k := ⟨_, rfl⟩
          obtain ⟨w10, hW⟩ : ∃ W, w9.alloc (.cells #[.int .i64 b, .slice Ax n cx] 24) = W := ⟨_, rfl⟩
          rw [hW] at kx hb ⊢
          rw [hu] at kx ⊢
          clear hW
          have Bw10 : Below w.heap.size w w10 := Bw9.trans (hb.mono Bw9.size)
          replace h_p := h_p.next hb (Nat.le_refl _) hb.size
          replace k1 := k1.below hb k1.lt
          replace h_x := h_x.next hb (Nat.le_refl _) hb.size
          clear Bw9
          clear hb
          clear hu
          obtain ⟨V, hV⟩ : ∃ V : World, V = w10 := ⟨_, rfl⟩
          go_loopw [14, 15] (fun ev j wr => ∃ jN dd : Nat, jN ≤ n ∧ j = .int .i64 (jN : Int) ∧ ev = .bool (decide (∀ i : Nat, i < jN → too (latr kk ps) i = too ps i + kk)) ∧ wr = w10.drewN dd) (fun _ j _ => n - (intOf j).toNat)
          case atStart => exact ⟨0, 0, Nat.zero_le _, rfl, by simp, rfl⟩
          case round =>
            obtain ⟨jN, dd, hj, rfl, rfl, rfl⟩ := hrel
            obtain ⟨ev, HEV⟩ : ∃ ev : Bool, Hid (decide (∀ i : Nat, i < jN → too (latr kk ps) i = too ps i + kk) = ev) := ⟨_, Lib.hid rfl⟩
            rw [HEV.out]
            have e0 : w10.cell? ⟨u1, 1, none⟩ = some (.slice A n c) := k1.cell 1
            have e1 : w10.cell? ⟨ux, 1, none⟩ = some (.slice Ax n cx) := kx.cell 1
            by_cases hltj : jN < n
            · obtain ⟨ad, rfl, _, _, py⟩ := h_p.at2 hltj
              obtain ⟨ad2, rfl, _, _, px⟩ := h_x.at2 hltj
              obtain ⟨y, HY⟩ : ∃ y, Hid (too ps jN = y) := ⟨_, Lib.hid rfl⟩
              obtain ⟨x, HX⟩ : ∃ y, Hid (too (latr kk ps) jN = y) := ⟨_, Lib.hid rfl⟩
              rw [HY.out] at py
              rw [HX.out] at px
              have hyb := HP.out.at_ jN
              rw [HY.out] at hyb
              obtain ⟨z, HZ⟩ : ∃ z, Hid (y + kk = z) := ⟨_, Lib.hid rfl⟩
              have hwz : IntKind.i64.wrap (y + kk) = z := (IntWalk.i64_in _ (by omega)).trans HZ.out
              obtain ⟨r, HR⟩ : ∃ r : Bool, Hid ((x == z) = r) := ⟨_, Lib.hid rfl⟩
              have HNX : Hid (decide (∀ i : Nat, i < jN + 1 → too (latr kk ps) i = too ps i + kk) = (ev && r)) := Lib.hid (by
                rw [← HEV.out, ← HR.out]
                by_cases hxz : x = z
                · rw [show (x == z) = true from by simp [hxz], Bool.and_true]
                  refine decide_eq_decide.2 ⟨fun h i hi => h i (by omega), fun h i hi => ?_⟩
                  rcases Nat.lt_or_ge i jN with h1 | h1
                  · exact h i h1
                  · obtain rfl : i = jN := by omega
                    rw [HX.out, HY.out, hxz]
                    exact HZ.out.symm
                · rw [show (x == z) = false from by simp [hxz], Bool.and_false]
                  refine decide_eq_false fun h => hxz ?_
                  have h1 := h jN (by omega)
                  rw [HX.out, HY.out] at h1
                  rw [h1]
                  exact HZ.out)
              cases ev
              · go_wp2
                go_quiet (fail)
                go_wp2
                go_roundw
                case rel => exact ⟨jN + 1, _, by omega, by go_num, by rw [HNX.out]; rfl, rfl⟩
                case measure => simp [intOf]; omega
              · have hr := HR.out
                cases r
                · go_wp2
                  go_quiet (fail)
                  go_wp2
                  go_roundw
                  case rel => exact ⟨jN + 1, _, by omega, by go_num, by rw [HNX.out]; rfl, rfl⟩
                  case measure => simp [intOf]; omega
                · go_wp2
                  go_quiet (fail)
                  go_wp2
                  go_roundw
                  case rel => exact ⟨jN + 1, _, by omega, by go_num, by rw [HNX.out]; rfl, rfl⟩
                  case measure => simp [intOf]; omega
            · have hjn : jN = n := by omega
              have HJN := Lib.hid hjn
              clear hjn
              obtain ⟨w11, hW⟩ : ∃ W : World, w10.drewN dd = W := ⟨_, rfl⟩
              have hb : Below w10.heap.size w10 w11 := hW ▸ below_drewN (Below.refl _ _) dd
              rw [hW]
              clear hW e0 e1 hV
              have Bw11 : Below w.heap.size w w11 := Bw10.trans (hb.mono Bw10.size)
              replace h_p := h_p.next hb (Nat.le_refl _) hb.size
              replace k1 := k1.below hb k1.lt
              replace h_x := h_x.next hb (Nat.le_refl _) hb.size
              replace kx := kx.below hb kx.lt
              clear Bw10
              clear hb
              cases ev
              · have d_k1_0 := k1.cell 0
                have d_k1_1 := k1.cell 1
                have d_kx_0 := kx.cell 0
                have d_kx_1 := kx.cell 1
                go_wp2
                clear d_k1_0 d_k1_1 d_kx_0 d_kx_1
                go_roundw
                case rel => exact ⟨iN + 1, by omega, by go_num, Bw11, h_p, k1⟩
                case measure => simp [intOf]; omega
              · have HEV2 : Hid (∀ i : Nat, i < ps.length → too (latr kk ps) i = too ps i + kk) := Lib.hid (by
                  have h := of_decide_eq_true HEV.out
                  rw [HJN.out] at h
                  rw [HL.out]
                  exact h)
                have HPX : Hid (Pier b (latr kk ps)) := Lib.hid (latr_pier HP.out kk)
                have HDX : Hid (delayS b (latr kk ps) = (dl - kk, 0)) := Lib.hid (by
                  have h := later_delay HP.out HPX.out kk (latr_len kk ps) (fun i hi => (latr_at kk ps hi).1) HEV2.out
                  rw [HD.out] at h
                  exact h)
                obtain ⟨cx2, HCX⟩ : ∃ m : Int, Hid (countS b (latr kk ps) = (m, 0)) := ⟨(countS b (latr kk ps)).1, Lib.hid (by unfold countS; rw [if_pos (checkPier_ok.2 HPX.out)])⟩
                have HIFF : Hid (dl - kk ≤ 0 ↔ 0 < cx2) := Lib.hid (by
                  have h := delay_iff HPX.out
                  rw [HDX.out, HCX.out] at h
                  exact h)
                have hwdk : IntKind.i64.wrap (dl - kk) = dl - kk := IntWalk.i64_in _ (by omega)
                have d_k1_0 := k1.cell 0
                have d_k1_1 := k1.cell 1
                have d_kx_0 := kx.cell 0
                have d_kx_1 := kx.cell 1
                go_wp2_with fail
                clear d_k1_0 d_k1_1 d_kx_0 d_kx_1
                refine (fDelay b _ n _ (latr kk ps) _ h_x (by omega) hcx _ HDX).mono ?_
                rintro e w12 ⟨rfl, hb⟩
                have Bw12 : Below w.heap.size w w12 := Bw11.trans (hb.mono Bw11.size)
                replace h_p := h_p.next hb (Nat.le_refl _) hb.size
                replace k1 := k1.below hb k1.lt
                replace h_x := h_x.next hb (Nat.le_refl _) hb.size
                replace kx := kx.below hb kx.lt
                clear Bw11
                clear hb
                have d_k1_0 := k1.cell 0
                have d_k1_1 := k1.cell 1
                have d_kx_0 := kx.cell 0
                have d_kx_1 := kx.cell 1
                go_wp2_with fail
                clear d_k1_0 d_k1_1 d_kx_0 d_kx_1
                refine (fCount b _ n _ (latr kk ps) _ h_x (by omega) hcx _ HCX).mono ?_
                rintro e w13 ⟨rfl, hb⟩
                have Bw13 : Below w.heap.size w w13 := Bw12.trans (hb.mono Bw12.size)
                replace h_p := h_p.next hb (Nat.le_refl _) hb.size
                replace k1 := k1.below hb k1.lt
                replace h_x := h_x.next hb (Nat.le_refl _) hb.size
                replace kx := kx.below hb kx.lt
                clear Bw12
                clear hb
                by_cases hdk : dl ≤ kk
                · have hc1 : decide (0 < cx2) = true := decide_eq_true (by have := HIFF.out; omega)
                  have hc2 : decide (dl ≤ kk) = true := decide_eq_true hdk
                  clear hdk
                  have d_k1_0 := k1.cell 0
                  have d_k1_1 := k1.cell 1
                  have d_kx_0 := kx.cell 0
                  have d_kx_1 := kx.cell 1
                  go_wp2
                  clear d_k1_0 d_k1_1 d_kx_0 d_kx_1
                  go_roundw
                  case rel => exact ⟨iN + 1, by omega, by go_num, Bw13, h_p, k1⟩
                  case measure => simp [intOf]; omega
                · have hc1 : decide (0 < cx2) = false := decide_eq_false (by have := HIFF.out; omega)
                  have hc2 : decide (dl ≤ kk) = false := decide_eq_false hdk
                  clear hdk
                  have d_k1_0 := k1.cell 0
                  have d_k1_1 := k1.cell 1
                  have d_kx_0 := kx.cell 0
                  have d_kx_1 := kx.cell 1
                  go_wp2
                  clear d_k1_0 d_k1_1 d_kx_0 d_kx_1
                  go_roundw
                  case rel => exact ⟨iN + 1, by omega, by go_num, Bw13, h_p, k1⟩
                  case measure => simp [intOf]; omega
        · have hi0 : ¬ 0 < iN := by omega
          obtain ⟨kk, HKK⟩ : ∃ kk : Int, Hid (mo = kk) := ⟨_, Lib.hid rfl⟩
          have hmo1 := hwm
          rw [HKK.out] at hmo1
          have hkk : -100000 ≤ kk ∧ kk ≤ 100000 := by rw [← HKK.out]; omega
          rw [HKK.out]
          have d_k1_0 := k1.cell 0
          have d_k1_1 := k1.cell 1
          go_wp2_with fail
          clear d_k1_0 d_k1_1
          refine (aLater b A n c ps kk _ h_p HP hkk).mono ?_
          rintro e w9 ⟨Ax, cx, rfl, ho, hb⟩
          have Bw9 : Below w.heap.size w w9 := Bw8.trans (hb.mono Bw8.size)
          replace h_p := h_p.next hb (Nat.le_refl _) hb.size
          replace k1 := k1.below hb k1.lt
          clear Bw8
          clear hb
          have h_x := ho.rp
          have hcx := ho.cap
          clear ho
          have d_k1_0 := (k1.alloc (.cells #[.int .i64 b, .slice Ax n cx] 24)).cell 0
          have d_k1_1 := (k1.alloc (.cells #[.int .i64 b, .slice Ax n cx] 24)).cell 1
          have d_kx_0 := (Bk.new w9 24 #[.int .i64 b, .slice Ax n cx]).cell 0
          have d_kx_1 := (Bk.new w9 24 #[.int .i64 b, .slice Ax n cx]).cell 1
          go_wp2
          clear d_k1_0 d_k1_1 d_kx_0 d_kx_1
          have kx := Bk.new w9 24 #[.int .i64 b, .slice Ax n cx]
          have hb : Below w9.heap.size w9 (w9.alloc (.cells #[.int .i64 b, .slice Ax n cx] 24)) := (Below.refl _ _).alloc (Nat.le_refl _) _
          obtain ⟨ux, hu⟩ : ∃ k, w9.heap.size = k := ⟨_, rfl⟩
          obtain ⟨w10, hW⟩ : ∃ W, w9.alloc (.cells #[.int .i64 b, .slice Ax n cx] 24) = W := ⟨_, rfl⟩
          rw [hW] at kx hb ⊢
          rw [hu] at kx ⊢
          clear hW
          have Bw10 : Below w.heap.size w w10 := Bw9.trans (hb.mono Bw9.size)
          replace h_p := h_p.next hb (Nat.le_refl _) hb.size
          replace k1 := k1.below hb k1.lt
          replace h_x := h_x.next hb (Nat.le_refl _) hb.size
          clear Bw9
          clear hb
          clear hu
          obtain ⟨V, hV⟩ : ∃ V : World, V = w10 := ⟨_, rfl⟩
          go_loopw [14, 15] (fun ev j wr => ∃ jN dd : Nat, jN ≤ n ∧ j = .int .i64 (jN : Int) ∧ ev = .bool (decide (∀ i : Nat, i < jN → too (latr kk ps) i = too ps i + kk)) ∧ wr = w10.drewN dd) (fun _ j _ => n - (intOf j).toNat)
          case atStart => exact ⟨0, 0, Nat.zero_le _, rfl, by simp, rfl⟩
          case round =>
            obtain ⟨jN, dd, hj, rfl, rfl, rfl⟩ := hrel
            obtain ⟨ev, HEV⟩ : ∃ ev : Bool, Hid (decide (∀ i : Nat, i < jN → too (latr kk ps) i = too ps i + kk) = ev) := ⟨_, Lib.hid rfl⟩
            rw [HEV.out]
            have e0 : w10.cell? ⟨u1, 1, none⟩ = some (.slice A n c) := k1.cell 1
            have e1 : w10.cell? ⟨ux, 1, none⟩ = some (.slice Ax n cx) := kx.cell 1
            by_cases hltj : jN < n
            · obtain ⟨ad, rfl, _, _, py⟩ := h_p.at2 hltj
              obtain ⟨ad2, rfl, _, _, px⟩ := h_x.at2 hltj
              obtain ⟨y, HY⟩ : ∃ y, Hid (too ps jN = y) := ⟨_, Lib.hid rfl⟩
              obtain ⟨x, HX⟩ : ∃ y, Hid (too (latr kk ps) jN = y) := ⟨_, Lib.hid rfl⟩
              rw [HY.out] at py
              rw [HX.out] at px
              have hyb := HP.out.at_ jN
              rw [HY.out] at hyb
              obtain ⟨z, HZ⟩ : ∃ z, Hid (y + kk = z) := ⟨_, Lib.hid rfl⟩
              have hwz : IntKind.i64.wrap (y + kk) = z := (IntWalk.i64_in _ (by omega)).trans HZ.out
              obtain ⟨r, HR⟩ : ∃ r : Bool, Hid ((x == z) = r) := ⟨_, Lib.hid rfl⟩
              have HNX : Hid (decide (∀ i : Nat, i < jN + 1 → too (latr kk ps) i = too ps i + kk) = (ev && r)) := Lib.hid (by
                rw [← HEV.out, ← HR.out]
                by_cases hxz : x = z
                · rw [show (x == z) = true from by simp [hxz], Bool.and_true]
                  refine decide_eq_decide.2 ⟨fun h i hi => h i (by omega), fun h i hi => ?_⟩
                  rcases Nat.lt_or_ge i jN with h1 | h1
                  · exact h i h1
                  · obtain rfl : i = jN := by omega
                    rw [HX.out, HY.out, hxz]
                    exact HZ.out.symm
                · rw [show (x == z) = false from by simp [hxz], Bool.and_false]
                  refine decide_eq_false fun h => hxz ?_
                  have h1 := h jN (by omega)
                  rw [HX.out, HY.out] at h1
                  rw [h1]
                  exact HZ.out)
              cases ev
              · go_wp2
                go_quiet (fail)
                go_wp2
                go_roundw
                case rel => exact ⟨jN + 1, _, by omega, by go_num, by rw [HNX.out]; rfl, rfl⟩
                case measure => simp [intOf]; omega
              · have hr := HR.out
                cases r
                · go_wp2
                  go_quiet (fail)
                  go_wp2
                  go_roundw
                  case rel => exact ⟨jN + 1, _, by omega, by go_num, by rw [HNX.out]; rfl, rfl⟩
                  case measure => simp [intOf]; omega
                · go_wp2
                  go_quiet (fail)
                  go_wp2
                  go_roundw
                  case rel => exact ⟨jN + 1, _, by omega, by go_num, by rw [HNX.out]; rfl, rfl⟩
                  case measure => simp [intOf]; omega
            · have hjn : jN = n := by omega
              have HJN := Lib.hid hjn
              clear hjn
              obtain ⟨w11, hW⟩ : ∃ W : World, w10.drewN dd = W := ⟨_, rfl⟩
              have hb : Below w10.heap.size w10 w11 := hW ▸ below_drewN (Below.refl _ _) dd
              rw [hW]
              clear hW e0 e1 hV
              have Bw11 : Below w.heap.size w w11 := Bw10.trans (hb.mono Bw10.size)
              replace h_p := h_p.next hb (Nat.le_refl _) hb.size
              replace k1 := k1.below hb k1.lt
              replace h_x := h_x.next hb (Nat.le_refl _) hb.size
              replace kx := kx.below hb kx.lt
              clear Bw10
              clear hb
              cases ev
              · have d_k1_0 := k1.cell 0
                have d_k1_1 := k1.cell 1
                have d_kx_0 := kx.cell 0
                have d_kx_1 := kx.cell 1
                go_wp2
                clear d_k1_0 d_k1_1 d_kx_0 d_kx_1
                go_roundw
                case rel => exact ⟨iN + 1, by omega, by go_num, Bw11, h_p, k1⟩
                case measure => simp [intOf]; omega
              · have HEV2 : Hid (∀ i : Nat, i < ps.length → too (latr kk ps) i = too ps i + kk) := Lib.hid (by
                  have h := of_decide_eq_true HEV.out
                  rw [HJN.out] at h
                  rw [HL.out]
                  exact h)
                have HPX : Hid (Pier b (latr kk ps)) := Lib.hid (latr_pier HP.out kk)
                have HDX : Hid (delayS b (latr kk ps) = (dl - kk, 0)) := Lib.hid (by
                  have h := later_delay HP.out HPX.out kk (latr_len kk ps) (fun i hi => (latr_at kk ps hi).1) HEV2.out
                  rw [HD.out] at h
                  exact h)
                obtain ⟨cx2, HCX⟩ : ∃ m : Int, Hid (countS b (latr kk ps) = (m, 0)) := ⟨(countS b (latr kk ps)).1, Lib.hid (by unfold countS; rw [if_pos (checkPier_ok.2 HPX.out)])⟩
                have HIFF : Hid (dl - kk ≤ 0 ↔ 0 < cx2) := Lib.hid (by
                  have h := delay_iff HPX.out
                  rw [HDX.out, HCX.out] at h
                  exact h)
                have hwdk : IntKind.i64.wrap (dl - kk) = dl - kk := IntWalk.i64_in _ (by omega)
                have d_k1_0 := k1.cell 0
                have d_k1_1 := k1.cell 1
                have d_kx_0 := kx.cell 0
                have d_kx_1 := kx.cell 1
                go_wp2_with fail
                clear d_k1_0 d_k1_1 d_kx_0 d_kx_1
                refine (fDelay b _ n _ (latr kk ps) _ h_x (by omega) hcx _ HDX).mono ?_
                rintro e w12 ⟨rfl, hb⟩
                have Bw12 : Below w.heap.size w w12 := Bw11.trans (hb.mono Bw11.size)
                replace h_p := h_p.next hb (Nat.le_refl _) hb.size
                replace k1 := k1.below hb k1.lt
                replace h_x := h_x.next hb (Nat.le_refl _) hb.size
                replace kx := kx.below hb kx.lt
                clear Bw11
                clear hb
                have d_k1_0 := k1.cell 0
                have d_k1_1 := k1.cell 1
                have d_kx_0 := kx.cell 0
                have d_kx_1 := kx.cell 1
                go_wp2_with fail
                clear d_k1_0 d_k1_1 d_kx_0 d_kx_1
                refine (fCount b _ n _ (latr kk ps) _ h_x (by omega) hcx _ HCX).mono ?_
                rintro e w13 ⟨rfl, hb⟩
                have Bw13 : Below w.heap.size w w13 := Bw12.trans (hb.mono Bw12.size)
                replace h_p := h_p.next hb (Nat.le_refl _) hb.size
                replace k1 := k1.below hb k1.lt
                replace h_x := h_x.next hb (Nat.le_refl _) hb.size
                replace kx := kx.below hb kx.lt
                clear Bw12
                clear hb
                by_cases hdk : dl ≤ kk
                · have hc1 : decide (0 < cx2) = true := decide_eq_true (by have := HIFF.out; omega)
                  have hc2 : decide (dl ≤ kk) = true := decide_eq_true hdk
                  clear hdk
                  have d_k1_0 := k1.cell 0
                  have d_k1_1 := k1.cell 1
                  have d_kx_0 := kx.cell 0
                  have d_kx_1 := kx.cell 1
                  go_wp2
                  clear d_k1_0 d_k1_1 d_kx_0 d_kx_1
                  go_roundw
                  case rel => exact ⟨iN + 1, by omega, by go_num, Bw13, h_p, k1⟩
                  case measure => simp [intOf]; omega
                · have hc1 : decide (0 < cx2) = false := decide_eq_false (by have := HIFF.out; omega)
                  have hc2 : decide (dl ≤ kk) = false := decide_eq_false hdk
                  clear hdk
                  have d_k1_0 := k1.cell 0
                  have d_k1_1 := k1.cell 1
                  have d_kx_0 := kx.cell 0
                  have d_kx_1 := kx.cell 1
                  go_wp2
                  clear d_k1_0 d_k1_1 d_kx_0 d_kx_1
                  go_roundw
                  case rel => exact ⟨iN + 1, by omega, by go_num, Bw13, h_p, k1⟩
                  case measure => simp [intOf]; omega
      · have d_k1_0 := k1.cell 0
        have d_k1_1 := k1.cell 1
        go_wp2_with fail
        clear d_k1_0 d_k1_1
        refine (aWorks _).mono ?_
        rintro e w9 ⟨rfl, hb⟩
        have Bw9 : Below w.heap.size w w9 := Bw8.trans (hb.mono Bw8.size)
        replace h_p := h_p.next hb (Nat.le_refl _) hb.size
        replace k1 := k1.below hb k1.lt
        clear Bw8
        clear hb
        go_wp2
        go_ret
        exact ⟨rfl, Bw9⟩
  · have hx1 : decide (dl < -9000) = false := decide_eq_false (by omega)
    have hx2 : decide (20000 < dl) = false := decide_eq_false (by omega)
    have hx3 : decide (lb < dl) = false := decide_eq_false (by omega)
    have hx4 : decide (dl ≤ 0) = false := decide_eq_false (by omega)
    have hx5 : decide (0 < cp) = false := decide_eq_false (by have := HDC.out; omega)
    have HDB := Lib.hid hdb
    clear hd0 hdb hdlb
    have d_k1_0 := k1.cell 0
    have d_k1_1 := k1.cell 1
    go_wp2
    clear d_k1_0 d_k1_1
    have e_k1_0 := k1.drew.cell 0
    have e_k1_1 := k1.drew.cell 1
    refine wp_region_noPanic ?_
    refine wp_region_held_drew (S := fun V => V.cell? ⟨u1, 0, none⟩ = some (.int .i64 b) ∧ V.cell? ⟨u1, 1, none⟩ = some (.slice A n c)) hmix ⟨e_k1_0, e_k1_1⟩ (fun hS => ?_)
    clear e_k1_0 e_k1_1
    obtain ⟨w5, hW⟩ : ∃ W, w4.drew = W := ⟨_, rfl⟩
    have hb : Below w4.heap.size w4 w5 := hW ▸ below_drewN (Below.refl _ _) 1
    rw [hW] at hS ⊢
    clear hW
    have Bw5 : Below w.heap.size w w5 := Bw4.trans (hb.mono Bw4.size)
    replace h_y := h_y.next hb (Nat.le_refl _) hb.size
    replace h_p := h_p.next hb (Nat.le_refl _) hb.size
    replace k1 := k1.below hb k1.lt
    clear Bw4
    clear hb
    refine wpAnyH_take (i := 0) (v := ?_) rfl (by kernel_rfl) (by kernel_rfl) (by kernel_rfl) (fun _ _ _ h => h) (Or.inl ⟨by rfl, ?_⟩) hS ?_
    rotate_left
    · intro w hSw
      (try dsimp only at hSw)
      go_simp
      (try with_reducible rfl)
    try simp (maxSteps := 10000000) only [Act.put, List.setIfInBounds_toArray, List.set_cons_zero, List.set_cons_succ, List.getElem_toArray, List.getElem_cons_zero]
    refine wpAnyH_take (i := 1) (v := ?_) rfl (by kernel_rfl) (by kernel_rfl) (by kernel_rfl) (fun _ _ _ h => h) (Or.inl ⟨by rfl, ?_⟩) hS ?_
    rotate_left
    · intro w hSw
      (try dsimp only at hSw)
      go_simp
      (try with_reducible rfl)
    try simp (maxSteps := 10000000) only [Act.put, List.setIfInBounds_toArray, List.set_cons_zero, List.set_cons_succ, List.getElem_toArray, List.getElem_cons_zero, List.getElem_cons_succ]
    refine wpAnyH_take (i := 2) (v := ?_) rfl (by kernel_rfl) (by kernel_rfl) (by kernel_rfl) (fun _ _ _ h => h) (Or.inl ⟨by rfl, ?_⟩) hS ?_
    rotate_left
    · intro w hSw
      (try dsimp only at hSw)
      go_simp
      (try with_reducible rfl)
    try simp (maxSteps := 10000000) only [Act.put, List.setIfInBounds_toArray, List.set_cons_zero, List.set_cons_succ, List.getElem_toArray, List.getElem_cons_zero, List.getElem_cons_succ]
    refine wpAnyH_take (i := 3) (v := ?_) rfl (by kernel_rfl) (by kernel_rfl) (by kernel_rfl) (fun _ _ _ h => h) (Or.inl ⟨by rfl, ?_⟩) hS ?_
    rotate_left
    · intro w hSw
      (try dsimp only at hSw)
      go_simp
      (try with_reducible rfl)
    try simp (maxSteps := 10000000) only [Act.put, List.setIfInBounds_toArray, List.set_cons_zero, List.set_cons_succ, List.getElem_toArray, List.getElem_cons_zero, List.getElem_cons_succ]
    refine wpAnyH_take (i := 4) (v := ?_) rfl (by kernel_rfl) (by kernel_rfl) (by kernel_rfl) (fun _ _ _ h => h) (Or.inl ⟨by rfl, ?_⟩) hS ?_
    rotate_left
    · intro w hSw
      (try dsimp only at hSw)
      go_simp
      (try with_reducible rfl)
    try simp (maxSteps := 10000000) only [Act.put, List.setIfInBounds_toArray, List.set_cons_zero, List.set_cons_succ, List.getElem_toArray, List.getElem_cons_zero, List.getElem_cons_succ]
    refine wpAnyH_take (i := 5) (v := ?_) rfl (by kernel_rfl) (by kernel_rfl) (by kernel_rfl) (fun _ _ _ h => h) (Or.inl ⟨by rfl, ?_⟩) hS ?_
    rotate_left
    · intro w hSw
      (try dsimp only at hSw)
      go_simp
      (try with_reducible rfl)
    try simp (maxSteps := 10000000) only [Act.put, List.setIfInBounds_toArray, List.set_cons_zero, List.set_cons_succ, List.getElem_toArray, List.getElem_cons_zero, List.getElem_cons_succ]
    refine wpAnyH_take (i := 6) (v := ?_) rfl (by kernel_rfl) (by kernel_rfl) (by kernel_rfl) (fun _ _ _ h => h) (Or.inl ⟨by rfl, ?_⟩) hS ?_
    rotate_left
    · intro w hSw
      (try dsimp only at hSw)
      go_simp
      (try with_reducible rfl)
    try simp (maxSteps := 10000000) only [Act.put, List.setIfInBounds_toArray, List.set_cons_zero, List.set_cons_succ, List.getElem_toArray, List.getElem_cons_zero, List.getElem_cons_succ]
    refine wpAnyH_take (i := 7) (v := ?_) rfl (by kernel_rfl) (by kernel_rfl) (by kernel_rfl) (fun _ _ _ h => h) (Or.inl ⟨by rfl, ?_⟩) hS ?_
    rotate_left
    · intro w hSw
      (try dsimp only at hSw)
      go_simp
      (try with_reducible rfl)
    try simp (maxSteps := 10000000) only [Act.put, List.setIfInBounds_toArray, List.set_cons_zero, List.set_cons_succ, List.getElem_toArray, List.getElem_cons_zero, List.getElem_cons_succ]
    refine wpAnyH_take (i := 8) (v := ?_) rfl (by kernel_rfl) (by kernel_rfl) (by kernel_rfl) (fun _ _ _ h => h) (Or.inl ⟨by rfl, ?_⟩) hS ?_
    rotate_left
    · intro w hSw
      (try dsimp only at hSw)
      go_simp
      (try with_reducible rfl)
    try simp (maxSteps := 10000000) only [Act.put, List.setIfInBounds_toArray, List.set_cons_zero, List.set_cons_succ, List.getElem_toArray, List.getElem_cons_zero, List.getElem_cons_succ]
    refine wpAnyH_take (i := 9) (v := ?_) rfl (by kernel_rfl) (by kernel_rfl) (by kernel_rfl) (fun _ _ _ h => h) (Or.inl ⟨by rfl, ?_⟩) hS ?_
    rotate_left
    · intro w hSw
      (try dsimp only at hSw)
      go_simp
      (try with_reducible rfl)
    try simp (maxSteps := 10000000) only [Act.put, List.setIfInBounds_toArray, List.set_cons_zero, List.set_cons_succ, List.getElem_toArray, List.getElem_cons_zero, List.getElem_cons_succ]
    refine wpAnyH_take (i := 10) (v := ?_) rfl (by kernel_rfl) (by kernel_rfl) (by kernel_rfl) (fun _ _ _ h => h) (Or.inl ⟨by rfl, ?_⟩) hS ?_
    rotate_left
    · intro w hSw
      (try dsimp only at hSw)
      go_simp
      (try with_reducible rfl)
    try simp (maxSteps := 10000000) only [Act.put, List.setIfInBounds_toArray, List.set_cons_zero, List.set_cons_succ, List.getElem_toArray, List.getElem_cons_zero, List.getElem_cons_succ]
    refine wpAnyH_take (i := 11) (v := ?_) rfl (by kernel_rfl) (by kernel_rfl) (by kernel_rfl) (fun _ _ _ h => h) (Or.inl ⟨by rfl, ?_⟩) hS ?_
    rotate_left
    · intro w hSw
      (try dsimp only at hSw)
      go_simp
      (try with_reducible rfl)
    try simp (maxSteps := 10000000) only [Act.put, List.setIfInBounds_toArray, List.set_cons_zero, List.set_cons_succ, List.getElem_toArray, List.getElem_cons_zero, List.getElem_cons_succ]
    refine wpAnyH_take (i := 12) (v := ?_) rfl (by kernel_rfl) (by kernel_rfl) (by kernel_rfl) (fun _ _ _ h => h) (Or.inl ⟨by rfl, ?_⟩) hS ?_
    rotate_left
    · intro w hSw
      (try dsimp only at hSw)
      go_simp
      (try with_reducible rfl)
    try simp (maxSteps := 10000000) only [Act.put, List.setIfInBounds_toArray, List.set_cons_zero, List.set_cons_succ, List.getElem_toArray, List.getElem_cons_zero, List.getElem_cons_succ]
    refine wpAnyH_take (i := 13) (v := ?_) rfl (by kernel_rfl) (by kernel_rfl) (by kernel_rfl) (fun _ _ _ h => h) (Or.inl ⟨by rfl, ?_⟩) hS ?_
    rotate_left
    · intro w hSw
      (try dsimp only at hSw)
      go_simp
      (try with_reducible rfl)
    try simp (maxSteps := 10000000) only [Act.put, List.setIfInBounds_toArray, List.set_cons_zero, List.set_cons_succ, List.getElem_toArray, List.getElem_cons_zero, List.getElem_cons_succ]
    refine wpAnyH_take (i := 14) (v := ?_) rfl (by kernel_rfl) (by kernel_rfl) (by kernel_rfl) (fun _ _ _ h => h) (Or.inl ⟨by rfl, ?_⟩) hS ?_
    rotate_left
    · intro w hSw
      (try dsimp only at hSw)
      go_simp
      (try with_reducible rfl)
    try simp (maxSteps := 10000000) only [Act.put, List.setIfInBounds_toArray, List.set_cons_zero, List.set_cons_succ, List.getElem_toArray, List.getElem_cons_zero, List.getElem_cons_succ]
    refine wpAnyH_take (i := 15) (v := ?_) rfl (by kernel_rfl) (by kernel_rfl) (by kernel_rfl) (fun _ _ _ h => h) (Or.inl ⟨by rfl, ?_⟩) hS ?_
    rotate_left
    · intro w hSw
      (try dsimp only at hSw)
      go_simp
      (try with_reducible rfl)
    try simp (maxSteps := 10000000) only [Act.put, List.setIfInBounds_toArray, List.set_cons_zero, List.set_cons_succ, List.getElem_toArray, List.getElem_cons_zero, List.getElem_cons_succ]
    refine wpAnyH_take (i := 16) (v := ?_) rfl (by kernel_rfl) (by kernel_rfl) (by kernel_rfl) (fun _ _ _ h => h) (Or.inl ⟨by rfl, ?_⟩) hS ?_
    rotate_left
    · intro w hSw
      (try dsimp only at hSw)
      go_simp
      (try with_reducible rfl)
    try simp (maxSteps := 10000000) only [Act.put, List.setIfInBounds_toArray, List.set_cons_zero, List.set_cons_succ, List.getElem_toArray, List.getElem_cons_zero, List.getElem_cons_succ]
    refine wpAnyH_take (i := 17) (v := ?_) rfl (by kernel_rfl) (by kernel_rfl) (by kernel_rfl) (fun _ _ _ h => h) (Or.inl ⟨by rfl, ?_⟩) hS ?_
    rotate_left
    · intro w hSw
      (try dsimp only at hSw)
      go_simp
      (try with_reducible rfl)
    try simp (maxSteps := 10000000) only [Act.put, List.setIfInBounds_toArray, List.set_cons_zero, List.set_cons_succ, List.getElem_toArray, List.getElem_cons_zero, List.getElem_cons_succ]
    refine wpAnyH_take (i := 18) (v := ?_) rfl (by kernel_rfl) (by kernel_rfl) (by kernel_rfl) (fun _ _ _ h => h) (Or.inl ⟨by rfl, ?_⟩) hS ?_
    rotate_left
    · intro w hSw
      (try dsimp only at hSw)
      go_simp
      (try with_reducible rfl)
    try simp (maxSteps := 10000000) only [Act.put, List.setIfInBounds_toArray, List.set_cons_zero, List.set_cons_succ, List.getElem_toArray, List.getElem_cons_zero, List.getElem_cons_succ]
    refine wpAnyH_take (i := 19) (v := ?_) rfl (by kernel_rfl) (by kernel_rfl) (by kernel_rfl) (fun _ _ _ h => h) (Or.inl ⟨by rfl, ?_⟩) hS ?_
    rotate_left
    · intro w hSw
      (try dsimp only at hSw)
      go_simp
      (try with_reducible rfl)
    try simp (maxSteps := 10000000) only [Act.put, List.setIfInBounds_toArray, List.set_cons_zero, List.set_cons_succ, List.getElem_toArray, List.getElem_cons_zero, List.getElem_cons_succ]
    refine wpAnyH_take (i := 20) (v := ?_) rfl (by kernel_rfl) (by kernel_rfl) (by kernel_rfl) (fun _ _ _ h => h) (Or.inl ⟨by rfl, ?_⟩) hS ?_
    rotate_left
    · intro w hSw
      (try dsimp only at hSw)
      go_simp
      (try with_reducible rfl)
    try simp (maxSteps := 10000000) only [Act.put, List.setIfInBounds_toArray, List.set_cons_zero, List.set_cons_succ, List.getElem_toArray, List.getElem_cons_zero, List.getElem_cons_succ]
    refine wpAnyH_take (i := 21) (v := ?_) rfl (by kernel_rfl) (by kernel_rfl) (by kernel_rfl) (fun _ _ _ h => h) (Or.inl ⟨by rfl, ?_⟩) hS ?_
    rotate_left
    · intro w hSw
      (try dsimp only at hSw)
      go_simp
      (try with_reducible rfl)
    try simp (maxSteps := 10000000) only [Act.put, List.setIfInBounds_toArray, List.set_cons_zero, List.set_cons_succ, List.getElem_toArray, List.getElem_cons_zero, List.getElem_cons_succ]
    refine wpAnyH_take (i := 22) (v := ?_) rfl (by kernel_rfl) (by kernel_rfl) (by kernel_rfl) (fun _ _ _ h => h) (Or.inl ⟨by rfl, ?_⟩) hS ?_
    rotate_left
    · intro w hSw
      (try dsimp only at hSw)
      go_simp
      (try with_reducible rfl)
    try simp (maxSteps := 10000000) only [Act.put, List.setIfInBounds_toArray, List.set_cons_zero, List.set_cons_succ, List.getElem_toArray, List.getElem_cons_zero, List.getElem_cons_succ]
    refine wpAnyH_take (i := 23) (v := ?_) rfl (by kernel_rfl) (by kernel_rfl) (by kernel_rfl) (fun _ _ _ h => h) (Or.inl ⟨by rfl, ?_⟩) hS ?_
    rotate_left
    · intro w hSw
      (try dsimp only at hSw)
      go_simp
      (try with_reducible rfl)
    try simp (maxSteps := 10000000) only [Act.put, List.setIfInBounds_toArray, List.set_cons_zero, List.set_cons_succ, List.getElem_toArray, List.getElem_cons_zero, List.getElem_cons_succ]
    refine wpAnyH_take (i := 24) (v := ?_) rfl (by kernel_rfl) (by kernel_rfl) (by kernel_rfl) (fun _ _ _ h => h) (Or.inl ⟨by rfl, ?_⟩) hS ?_
    rotate_left
    · intro w hSw
      (try dsimp only at hSw)
      go_simp
      (try with_reducible rfl)
    try simp (maxSteps := 10000000) only [Act.put, List.setIfInBounds_toArray, List.set_cons_zero, List.set_cons_succ, List.getElem_toArray, List.getElem_cons_zero, List.getElem_cons_succ]
    refine wpAnyH_take (i := 25) (v := ?_) rfl (by kernel_rfl) (by kernel_rfl) (by kernel_rfl) (fun _ _ _ h => h) (Or.inl ⟨by rfl, ?_⟩) hS ?_
    rotate_left
    · intro w hSw
      (try dsimp only at hSw)
      go_simp
      (try with_reducible rfl)
    try simp (maxSteps := 10000000) only [Act.put, List.setIfInBounds_toArray, List.set_cons_zero, List.set_cons_succ, List.getElem_toArray, List.getElem_cons_zero, List.getElem_cons_succ]
    refine wpAnyH_ready (rs := [26]) (by kernel_rfl) (by simp) ?_
    refine AllReadyH.cons rfl (fun K hK => ?_) AllReadyH.nil
    go_simp
    refine (aWalked b A n c ps Y my cy bs _ h_p HP h_y (by omega)).mono ?_
    rintro e w6 ⟨Aw, cw, rfl, ho, hcw, hb⟩
    have Bw6 : Below w.heap.size w w6 := Bw5.trans (hb.mono Bw5.size)
    replace h_y := h_y.next hb (Nat.le_refl _) hb.size
    replace h_p := h_p.next hb (Nat.le_refl _) hb.size
    replace k1 := k1.below hb k1.lt
    clear Bw5
    clear hb
    have h_w := ho.ri
    clear ho
    refine hK.out _ _ ⟨k1.cell 0, k1.cell 1⟩ (fun hS => ?_)
    clear hK K
    try simp (maxSteps := 10000000) only [Act.put, List.setIfInBounds_toArray, List.set_cons_zero, List.set_cons_succ, List.getElem_toArray, List.getElem_cons_zero, List.getElem_cons_succ]
    refine wpAnyH_ready (rs := [27]) (by kernel_rfl) (by simp) ?_
    refine AllReadyH.cons rfl (fun K hK => ?_) AllReadyH.nil
    go_simp
    refine (rLateBy b A n c ps _ n cw _ _ h_p HP h_w HWA lb HLB).mono ?_
    rintro e w7 ⟨rfl, hb⟩
    have Bw7 : Below w.heap.size w w7 := Bw6.trans (hb.mono Bw6.size)
    replace h_y := h_y.next hb (Nat.le_refl _) hb.size
    replace h_p := h_p.next hb (Nat.le_refl _) hb.size
    replace k1 := k1.below hb k1.lt
    replace h_w := h_w.next hb (Nat.le_refl _) hb.size
    clear Bw6
    clear hb
    refine hK.out _ _ ⟨k1.cell 0, k1.cell 1⟩ (fun hS => ?_)
    clear hK K
    try simp (maxSteps := 10000000) only [Act.put, List.setIfInBounds_toArray, List.set_cons_zero, List.set_cons_succ, List.getElem_toArray, List.getElem_cons_zero, List.getElem_cons_succ]
    refine wpAnyH_take (i := 28) (v := ?_) rfl (by kernel_rfl) (by kernel_rfl) (by kernel_rfl) (fun _ _ _ h => h) (Or.inl ⟨by rfl, ?_⟩) hS ?_
    rotate_left
    · intro w hSw
      (try dsimp only at hSw)
      go_simp
      (try with_reducible rfl)
    try simp (maxSteps := 10000000) only [Act.put, List.setIfInBounds_toArray, List.set_cons_zero, List.set_cons_succ, List.getElem_toArray, List.getElem_cons_zero, List.getElem_cons_succ]
    refine wpAnyH_take (i := 29) (v := ?_) rfl (by kernel_rfl) (by kernel_rfl) (by kernel_rfl) (fun _ _ _ h => h) (Or.inl ⟨by rfl, ?_⟩) hS ?_
    rotate_left
    · intro w hSw
      (try dsimp only at hSw)
      go_simp
      (try with_reducible rfl)
    try simp (maxSteps := 10000000) only [Act.put, List.setIfInBounds_toArray, List.set_cons_zero, List.set_cons_succ, List.getElem_toArray, List.getElem_cons_zero, List.getElem_cons_succ]
    refine wpAnyH_done (by kernel_rfl) (NoPanic.normal ?_) _
    clear hS
    clear h_w
    clear hx1 hx2 hx3 hx4 hx5
    have hdb := HDB.out
    have d_k1_0 := k1.cell 0
    have d_k1_1 := k1.cell 1
    go_wp2
    clear d_k1_0 d_k1_1
    go_loopw [11] (fun i wr => ∃ iN : Nat, iN ≤ 3 ∧ i = .int .i64 (iN : Int) ∧ Below w.heap.size w wr ∧ Rp wr wr.heap.size A n ps ∧ Bk wr u1 24 #[.int .i64 b, .slice A n c]) (fun i _ => 3 - (intOf i).toNat)
    case atStart => exact ⟨0, by omega, rfl, Bw7, h_p, k1⟩
    case round =>
      clear h_p k1 Bw7 h_y
      obtain ⟨iN, hi3, rfl, Bwr, h_p, k1⟩ := hrel
      obtain ⟨w8, hW⟩ : ∃ W : World, wr = W := ⟨_, rfl⟩
      rw [hW] at Bwr h_p k1 ⊢
      clear hW
      have Bw8 := Bwr
      clear Bwr
      by_cases hlt : iN < 3
      · by_cases hi0 : 0 < iN
        · obtain ⟨d1, HD1⟩ : ∃ z : Int, Hid (dl + 1 = z) := ⟨_, Lib.hid rfl⟩
          have hwd1 : IntKind.i64.wrap (dl + 1) = d1 := (IntWalk.i64_in _ (by omega)).trans HD1.out
          obtain ⟨kk, HKK⟩ : ∃ kk : Int, Hid (d1 - (iN : Int) = kk) := ⟨_, Lib.hid rfl⟩
          have hwk1 : IntKind.i64.wrap (d1 - (iN : Int)) = kk := by rw [IntWalk.i64_in _ (by have := HD1.out; omega)]; exact HKK.out
          have hkk : -100000 ≤ kk ∧ kk ≤ 100000 := by have := HKK.out; have := HD1.out; omega
          have d_k1_0 := k1.cell 0
          have d_k1_1 := k1.cell 1
          go_wp2_with fail
          clear d_k1_0 d_k1_1
          refine (aLater b A n c ps kk _ h_p HP hkk).mono ?_
          rintro e w9 ⟨Ax, cx, rfl, ho, hb⟩
          have Bw9 : Below w.heap.size w w9 := Bw8.trans (hb.mono Bw8.size)
          replace h_p := h_p.next hb (Nat.le_refl _) hb.size
          replace k1 := k1.below hb k1.lt
          clear Bw8
          clear hb
          have h_x := ho.rp
          have hcx := ho.cap
          clear ho
          have d_k1_0 := (k1.alloc (.cells #[.int .i64 b, .slice Ax n cx] 24)).cell 0
          have d_k1_1 := (k1.alloc (.cells #[.int .i64 b, .slice Ax n cx] 24)).cell 1
          have d_kx_0 := (Bk.new w9 24 #[.int .i64 b, .slice Ax n cx]).cell 0
          have d_kx_1 := (Bk.new w9 24 #[.int .i64 b, .slice Ax n cx]).cell 1
          go_wp2
          clear d_k1_0 d_k1_1 d_kx_0 d_kx_1
          have kx := Bk.new w9 24 #[.int .i64 b, .slice Ax n cx]
          have hb : Below w9.heap.size w9 (w9.alloc (.cells #[.int .i64 b, .slice Ax n cx] 24)) := (Below.refl _ _).alloc (Nat.le_refl _) _
          obtain ⟨ux, hu⟩ : ∃ k, w9.heap.size = k := ⟨_, rfl⟩
          obtain ⟨w10, hW⟩ : ∃ W, w9.alloc (.cells #[.int .i64 b, .slice Ax n cx] 24) = W := ⟨_, rfl⟩
          rw [hW] at kx hb ⊢
          rw [hu] at kx ⊢
          clear hW
          have Bw10 : Below w.heap.size w w10 := Bw9.trans (hb.mono Bw9.size)
          replace h_p := h_p.next hb (Nat.le_refl _) hb.size
          replace k1 := k1.below hb k1.lt
          replace h_x := h_x.next hb (Nat.le_refl _) hb.size
          clear Bw9
          clear hb
          clear hu
          obtain ⟨V, hV⟩ : ∃ V : World, V = w10 := ⟨_, rfl⟩
          go_loopw [14, 15] (fun ev j wr => ∃ jN dd : Nat, jN ≤ n ∧ j = .int .i64 (jN : Int) ∧ ev = .bool (decide (∀ i : Nat, i < jN → too (latr kk ps) i = too ps i + kk)) ∧ wr = w10.drewN dd) (fun _ j _ => n - (intOf j).toNat)
          case atStart => exact ⟨0, 0, Nat.zero_le _, rfl, by simp, rfl⟩
          case round =>
            obtain ⟨jN, dd, hj, rfl, rfl, rfl⟩ := hrel
            obtain ⟨ev, HEV⟩ : ∃ ev : Bool, Hid (decide (∀ i : Nat, i < jN → too (latr kk ps) i = too ps i + kk) = ev) := ⟨_, Lib.hid rfl⟩
            rw [HEV.out]
            have e0 : w10.cell? ⟨u1, 1, none⟩ = some (.slice A n c) := k1.cell 1
            have e1 : w10.cell? ⟨ux, 1, none⟩ = some (.slice Ax n cx) := kx.cell 1
            by_cases hltj : jN < n
            · obtain ⟨ad, rfl, _, _, py⟩ := h_p.at2 hltj
              obtain ⟨ad2, rfl, _, _, px⟩ := h_x.at2 hltj
              obtain ⟨y, HY⟩ : ∃ y, Hid (too ps jN = y) := ⟨_, Lib.hid rfl⟩
              obtain ⟨x, HX⟩ : ∃ y, Hid (too (latr kk ps) jN = y) := ⟨_, Lib.hid rfl⟩
              rw [HY.out] at py
              rw [HX.out] at px
              have hyb := HP.out.at_ jN
              rw [HY.out] at hyb
              obtain ⟨z, HZ⟩ : ∃ z, Hid (y + kk = z) := ⟨_, Lib.hid rfl⟩
              have hwz : IntKind.i64.wrap (y + kk) = z := (IntWalk.i64_in _ (by omega)).trans HZ.out
              obtain ⟨r, HR⟩ : ∃ r : Bool, Hid ((x == z) = r) := ⟨_, Lib.hid rfl⟩
              have HNX : Hid (decide (∀ i : Nat, i < jN + 1 → too (latr kk ps) i = too ps i + kk) = (ev && r)) := Lib.hid (by
                rw [← HEV.out, ← HR.out]
                by_cases hxz : x = z
                · rw [show (x == z) = true from by simp [hxz], Bool.and_true]
                  refine decide_eq_decide.2 ⟨fun h i hi => h i (by omega), fun h i hi => ?_⟩
                  rcases Nat.lt_or_ge i jN with h1 | h1
                  · exact h i h1
                  · obtain rfl : i = jN := by omega
                    rw [HX.out, HY.out, hxz]
                    exact HZ.out.symm
                · rw [show (x == z) = false from by simp [hxz], Bool.and_false]
                  refine decide_eq_false fun h => hxz ?_
                  have h1 := h jN (by omega)
                  rw [HX.out, HY.out] at h1
                  rw [h1]
                  exact HZ.out)
              cases ev
              · go_wp2
                go_quiet (fail)
                go_wp2
                go_roundw
                case rel => exact ⟨jN + 1, _, by omega, by go_num, by rw [HNX.out]; rfl, rfl⟩
                case measure => simp [intOf]; omega
              · have hr := HR.out
                cases r
                · go_wp2
                  go_quiet (fail)
                  go_wp2
                  go_roundw
                  case rel => exact ⟨jN + 1, _, by omega, by go_num, by rw [HNX.out]; rfl, rfl⟩
                  case measure => simp [intOf]; omega
                · go_wp2
                  go_quiet (fail)
                  go_wp2
                  go_roundw
                  case rel => exact ⟨jN + 1, _, by omega, by go_num, by rw [HNX.out]; rfl, rfl⟩
                  case measure => simp [intOf]; omega
            · have hjn : jN = n := by omega
              have HJN := Lib.hid hjn
              clear hjn
              obtain ⟨w11, hW⟩ : ∃ W : World, w10.drewN dd = W := ⟨_, rfl⟩
              have hb : Below w10.heap.size w10 w11 := hW ▸ below_drewN (Below.refl _ _) dd
              rw [hW]
              clear hW e0 e1 hV
              have Bw11 : Below w.heap.size w w11 := Bw10.trans (hb.mono Bw10.size)
              replace h_p := h_p.next hb (Nat.le_refl _) hb.size
              replace k1 := k1.below hb k1.lt
              replace h_x := h_x.next hb (Nat.le_refl _) hb.size
              replace kx := kx.below hb kx.lt
              clear Bw10
              clear hb
              cases ev
              · have d_k1_0 := k1.cell 0
                have d_k1_1 := k1.cell 1
                have d_kx_0 := kx.cell 0
                have d_kx_1 := kx.cell 1
                go_wp2
                clear d_k1_0 d_k1_1 d_kx_0 d_kx_1
                go_roundw
                case rel => exact ⟨iN + 1, by omega, by go_num, Bw11, h_p, k1⟩
                case measure => simp [intOf]; omega
              · have HEV2 : Hid (∀ i : Nat, i < ps.length → too (latr kk ps) i = too ps i + kk) := Lib.hid (by
                  have h := of_decide_eq_true HEV.out
                  rw [HJN.out] at h
                  rw [HL.out]
                  exact h)
                have HPX : Hid (Pier b (latr kk ps)) := Lib.hid (latr_pier HP.out kk)
                have HDX : Hid (delayS b (latr kk ps) = (dl - kk, 0)) := Lib.hid (by
                  have h := later_delay HP.out HPX.out kk (latr_len kk ps) (fun i hi => (latr_at kk ps hi).1) HEV2.out
                  rw [HD.out] at h
                  exact h)
                obtain ⟨cx2, HCX⟩ : ∃ m : Int, Hid (countS b (latr kk ps) = (m, 0)) := ⟨(countS b (latr kk ps)).1, Lib.hid (by unfold countS; rw [if_pos (checkPier_ok.2 HPX.out)])⟩
                have HIFF : Hid (dl - kk ≤ 0 ↔ 0 < cx2) := Lib.hid (by
                  have h := delay_iff HPX.out
                  rw [HDX.out, HCX.out] at h
                  exact h)
                have hwdk : IntKind.i64.wrap (dl - kk) = dl - kk := IntWalk.i64_in _ (by omega)
                have d_k1_0 := k1.cell 0
                have d_k1_1 := k1.cell 1
                have d_kx_0 := kx.cell 0
                have d_kx_1 := kx.cell 1
                go_wp2_with fail
                clear d_k1_0 d_k1_1 d_kx_0 d_kx_1
                refine (fDelay b _ n _ (latr kk ps) _ h_x (by omega) hcx _ HDX).mono ?_
                rintro e w12 ⟨rfl, hb⟩
                have Bw12 : Below w.heap.size w w12 := Bw11.trans (hb.mono Bw11.size)
                replace h_p := h_p.next hb (Nat.le_refl _) hb.size
                replace k1 := k1.below hb k1.lt
                replace h_x := h_x.next hb (Nat.le_refl _) hb.size
                replace kx := kx.below hb kx.lt
                clear Bw11
                clear hb
                have d_k1_0 := k1.cell 0
                have d_k1_1 := k1.cell 1
                have d_kx_0 := kx.cell 0
                have d_kx_1 := kx.cell 1
                go_wp2_with fail
                clear d_k1_0 d_k1_1 d_kx_0 d_kx_1
                refine (fCount b _ n _ (latr kk ps) _ h_x (by omega) hcx _ HCX).mono ?_
                rintro e w13 ⟨rfl, hb⟩
                have Bw13 : Below w.heap.size w w13 := Bw12.trans (hb.mono Bw12.size)
                replace h_p := h_p.next hb (Nat.le_refl _) hb.size
                replace k1 := k1.below hb k1.lt
                replace h_x := h_x.next hb (Nat.le_refl _) hb.size
                replace kx := kx.below hb kx.lt
                clear Bw12
                clear hb
                by_cases hdk : dl ≤ kk
                · have hc1 : decide (0 < cx2) = true := decide_eq_true (by have := HIFF.out; omega)
                  have hc2 : decide (dl ≤ kk) = true := decide_eq_true hdk
                  clear hdk
                  have d_k1_0 := k1.cell 0
                  have d_k1_1 := k1.cell 1
                  have d_kx_0 := kx.cell 0
                  have d_kx_1 := kx.cell 1
                  go_wp2
                  clear d_k1_0 d_k1_1 d_kx_0 d_kx_1
                  go_roundw
                  case rel => exact ⟨iN + 1, by omega, by go_num, Bw13, h_p, k1⟩
                  case measure => simp [intOf]; omega
                · have hc1 : decide (0 < cx2) = false := decide_eq_false (by have := HIFF.out; omega)
                  have hc2 : decide (dl ≤ kk) = false := decide_eq_false hdk
                  clear hdk
                  have d_k1_0 := k1.cell 0
                  have d_k1_1 := k1.cell 1
                  have d_kx_0 := kx.cell 0
                  have d_kx_1 := kx.cell 1
                  go_wp2
                  clear d_k1_0 d_k1_1 d_kx_0 d_kx_1
                  go_roundw
                  case rel => exact ⟨iN + 1, by omega, by go_num, Bw13, h_p, k1⟩
                  case measure => simp [intOf]; omega
        · have hi0 : ¬ 0 < iN := by omega
          obtain ⟨kk, HKK⟩ : ∃ kk : Int, Hid (mo = kk) := ⟨_, Lib.hid rfl⟩
          have hmo1 := hwm
          rw [HKK.out] at hmo1
          have hkk : -100000 ≤ kk ∧ kk ≤ 100000 := by rw [← HKK.out]; omega
          rw [HKK.out]
          have d_k1_0 := k1.cell 0
          have d_k1_1 := k1.cell 1
          go_wp2_with fail
          clear d_k1_0 d_k1_1
          refine (aLater b A n c ps kk _ h_p HP hkk).mono ?_
          rintro e w9 ⟨Ax, cx, rfl, ho, hb⟩
          have Bw9 : Below w.heap.size w w9 := Bw8.trans (hb.mono Bw8.size)
          replace h_p := h_p.next hb (Nat.le_refl _) hb.size
          replace k1 := k1.below hb k1.lt
          clear Bw8
          clear hb
          have h_x := ho.rp
          have hcx := ho.cap
          clear ho
          have d_k1_0 := (k1.alloc (.cells #[.int .i64 b, .slice Ax n cx] 24)).cell 0
          have d_k1_1 := (k1.alloc (.cells #[.int .i64 b, .slice Ax n cx] 24)).cell 1
          have d_kx_0 := (Bk.new w9 24 #[.int .i64 b, .slice Ax n cx]).cell 0
          have d_kx_1 := (Bk.new w9 24 #[.int .i64 b, .slice Ax n cx]).cell 1
          go_wp2
          clear d_k1_0 d_k1_1 d_kx_0 d_kx_1
          have kx := Bk.new w9 24 #[.int .i64 b, .slice Ax n cx]
          have hb : Below w9.heap.size w9 (w9.alloc (.cells #[.int .i64 b, .slice Ax n cx] 24)) := (Below.refl _ _).alloc (Nat.le_refl _) _
          obtain ⟨ux, hu⟩ : ∃ k, w9.heap.size = k := ⟨_, rfl⟩
          obtain ⟨w10, hW⟩ : ∃ W, w9.alloc (.cells #[.int .i64 b, .slice Ax n cx] 24) = W := ⟨_, rfl⟩
          rw [hW] at kx hb ⊢
          rw [hu] at kx ⊢
          clear hW
          have Bw10 : Below w.heap.size w w10 := Bw9.trans (hb.mono Bw9.size)
          replace h_p := h_p.next hb (Nat.le_refl _) hb.size
          replace k1 := k1.below hb k1.lt
          replace h_x := h_x.next hb (Nat.le_refl _) hb.size
          clear Bw9
          clear hb
          clear hu
          obtain ⟨V, hV⟩ : ∃ V : World, V = w10 := ⟨_, rfl⟩
          go_loopw [14, 15] (fun ev j wr => ∃ jN dd : Nat, jN ≤ n ∧ j = .int .i64 (jN : Int) ∧ ev = .bool (decide (∀ i : Nat, i < jN → too (latr kk ps) i = too ps i + kk)) ∧ wr = w10.drewN dd) (fun _ j _ => n - (intOf j).toNat)
          case atStart => exact ⟨0, 0, Nat.zero_le _, rfl, by simp, rfl⟩
          case round =>
            obtain ⟨jN, dd, hj, rfl, rfl, rfl⟩ := hrel
            obtain ⟨ev, HEV⟩ : ∃ ev : Bool, Hid (decide (∀ i : Nat, i < jN → too (latr kk ps) i = too ps i + kk) = ev) := ⟨_, Lib.hid rfl⟩
            rw [HEV.out]
            have e0 : w10.cell? ⟨u1, 1, none⟩ = some (.slice A n c) := k1.cell 1
            have e1 : w10.cell? ⟨ux, 1, none⟩ = some (.slice Ax n cx) := kx.cell 1
            by_cases hltj : jN < n
            · obtain ⟨ad, rfl, _, _, py⟩ := h_p.at2 hltj
              obtain ⟨ad2, rfl, _, _, px⟩ := h_x.at2 hltj
              obtain ⟨y, HY⟩ : ∃ y, Hid (too ps jN = y) := ⟨_, Lib.hid rfl⟩
              obtain ⟨x, HX⟩ : ∃ y, Hid (too (latr kk ps) jN = y) := ⟨_, Lib.hid rfl⟩
              rw [HY.out] at py
              rw [HX.out] at px
              have hyb := HP.out.at_ jN
              rw [HY.out] at hyb
              obtain ⟨z, HZ⟩ : ∃ z, Hid (y + kk = z) := ⟨_, Lib.hid rfl⟩
              have hwz : IntKind.i64.wrap (y + kk) = z := (IntWalk.i64_in _ (by omega)).trans HZ.out
              obtain ⟨r, HR⟩ : ∃ r : Bool, Hid ((x == z) = r) := ⟨_, Lib.hid rfl⟩
              have HNX : Hid (decide (∀ i : Nat, i < jN + 1 → too (latr kk ps) i = too ps i + kk) = (ev && r)) := Lib.hid (by
                rw [← HEV.out, ← HR.out]
                by_cases hxz : x = z
                · rw [show (x == z) = true from by simp [hxz], Bool.and_true]
                  refine decide_eq_decide.2 ⟨fun h i hi => h i (by omega), fun h i hi => ?_⟩
                  rcases Nat.lt_or_ge i jN with h1 | h1
                  · exact h i h1
                  · obtain rfl : i = jN := by omega
                    rw [HX.out, HY.out, hxz]
                    exact HZ.out.symm
                · rw [show (x == z) = false from by simp [hxz], Bool.and_false]
                  refine decide_eq_false fun h => hxz ?_
                  have h1 := h jN (by omega)
                  rw [HX.out, HY.out] at h1
                  rw [h1]
                  exact HZ.out)
              cases ev
              · go_wp2
                go_quiet (fail)
                go_wp2
                go_roundw
                case rel => exact ⟨jN + 1, _, by omega, by go_num, by rw [HNX.out]; rfl, rfl⟩
                case measure => simp [intOf]; omega
              · have hr := HR.out
                cases r
                · go_wp2
                  go_quiet (fail)
                  go_wp2
                  go_roundw
                  case rel => exact ⟨jN + 1, _, by omega, by go_num, by rw [HNX.out]; rfl, rfl⟩
                  case measure => simp [intOf]; omega
                · go_wp2
                  go_quiet (fail)
                  go_wp2
                  go_roundw
                  case rel => exact ⟨jN + 1, _, by omega, by go_num, by rw [HNX.out]; rfl, rfl⟩
                  case measure => simp [intOf]; omega
            · have hjn : jN = n := by omega
              have HJN := Lib.hid hjn
              clear hjn
              obtain ⟨w11, hW⟩ : ∃ W : World, w10.drewN dd = W := ⟨_, rfl⟩
              have hb : Below w10.heap.size w10 w11 := hW ▸ below_drewN (Below.refl _ _) dd
              rw [hW]
              clear hW e0 e1 hV
              have Bw11 : Below w.heap.size w w11 := Bw10.trans (hb.mono Bw10.size)
              replace h_p := h_p.next hb (Nat.le_refl _) hb.size
              replace k1 := k1.below hb k1.lt
              replace h_x := h_x.next hb (Nat.le_refl _) hb.size
              replace kx := kx.below hb kx.lt
              clear Bw10
              clear hb
              cases ev
              · have d_k1_0 := k1.cell 0
                have d_k1_1 := k1.cell 1
                have d_kx_0 := kx.cell 0
                have d_kx_1 := kx.cell 1
                go_wp2
                clear d_k1_0 d_k1_1 d_kx_0 d_kx_1
                go_roundw
                case rel => exact ⟨iN + 1, by omega, by go_num, Bw11, h_p, k1⟩
                case measure => simp [intOf]; omega
              · have HEV2 : Hid (∀ i : Nat, i < ps.length → too (latr kk ps) i = too ps i + kk) := Lib.hid (by
                  have h := of_decide_eq_true HEV.out
                  rw [HJN.out] at h
                  rw [HL.out]
                  exact h)
                have HPX : Hid (Pier b (latr kk ps)) := Lib.hid (latr_pier HP.out kk)
                have HDX : Hid (delayS b (latr kk ps) = (dl - kk, 0)) := Lib.hid (by
                  have h := later_delay HP.out HPX.out kk (latr_len kk ps) (fun i hi => (latr_at kk ps hi).1) HEV2.out
                  rw [HD.out] at h
                  exact h)
                obtain ⟨cx2, HCX⟩ : ∃ m : Int, Hid (countS b (latr kk ps) = (m, 0)) := ⟨(countS b (latr kk ps)).1, Lib.hid (by unfold countS; rw [if_pos (checkPier_ok.2 HPX.out)])⟩
                have HIFF : Hid (dl - kk ≤ 0 ↔ 0 < cx2) := Lib.hid (by
                  have h := delay_iff HPX.out
                  rw [HDX.out, HCX.out] at h
                  exact h)
                have hwdk : IntKind.i64.wrap (dl - kk) = dl - kk := IntWalk.i64_in _ (by omega)
                have d_k1_0 := k1.cell 0
                have d_k1_1 := k1.cell 1
                have d_kx_0 := kx.cell 0
                have d_kx_1 := kx.cell 1
                go_wp2_with fail
                clear d_k1_0 d_k1_1 d_kx_0 d_kx_1
                refine (fDelay b _ n _ (latr kk ps) _ h_x (by omega) hcx _ HDX).mono ?_
                rintro e w12 ⟨rfl, hb⟩
                have Bw12 : Below w.heap.size w w12 := Bw11.trans (hb.mono Bw11.size)
                replace h_p := h_p.next hb (Nat.le_refl _) hb.size
                replace k1 := k1.below hb k1.lt
                replace h_x := h_x.next hb (Nat.le_refl _) hb.size
                replace kx := kx.below hb kx.lt
                clear Bw11
                clear hb
                have d_k1_0 := k1.cell 0
                have d_k1_1 := k1.cell 1
                have d_kx_0 := kx.cell 0
                have d_kx_1 := kx.cell 1
                go_wp2_with fail
                clear d_k1_0 d_k1_1 d_kx_0 d_kx_1
                refine (fCount b _ n _ (latr kk ps) _ h_x (by omega) hcx _ HCX).mono ?_
                rintro e w13 ⟨rfl, hb⟩
                have Bw13 : Below w.heap.size w w13 := Bw12.trans (hb.mono Bw12.size)
                replace h_p := h_p.next hb (Nat.le_refl _) hb.size
                replace k1 := k1.below hb k1.lt
                replace h_x := h_x.next hb (Nat.le_refl _) hb.size
                replace kx := kx.below hb kx.lt
                clear Bw12
                clear hb
                by_cases hdk : dl ≤ kk
                · have hc1 : decide (0 < cx2) = true := decide_eq_true (by have := HIFF.out; omega)
                  have hc2 : decide (dl ≤ kk) = true := decide_eq_true hdk
                  clear hdk
                  have d_k1_0 := k1.cell 0
                  have d_k1_1 := k1.cell 1
                  have d_kx_0 := kx.cell 0
                  have d_kx_1 := kx.cell 1
                  go_wp2
                  clear d_k1_0 d_k1_1 d_kx_0 d_kx_1
                  go_roundw
                  case rel => exact ⟨iN + 1, by omega, by go_num, Bw13, h_p, k1⟩
                  case measure => simp [intOf]; omega
                · have hc1 : decide (0 < cx2) = false := decide_eq_false (by have := HIFF.out; omega)
                  have hc2 : decide (dl ≤ kk) = false := decide_eq_false hdk
                  clear hdk
                  have d_k1_0 := k1.cell 0
                  have d_k1_1 := k1.cell 1
                  have d_kx_0 := kx.cell 0
                  have d_kx_1 := kx.cell 1
                  go_wp2
                  clear d_k1_0 d_k1_1 d_kx_0 d_kx_1
                  go_roundw
                  case rel => exact ⟨iN + 1, by omega, by go_num, Bw13, h_p, k1⟩
                  case measure => simp [intOf]; omega
      · have d_k1_0 := k1.cell 0
        have d_k1_1 := k1.cell 1
        go_wp2_with fail
        clear d_k1_0 d_k1_1
        refine (aWorks _).mono ?_
        rintro e w9 ⟨rfl, hb⟩
        have Bw9 : Below w.heap.size w w9 := Bw8.trans (hb.mono Bw8.size)
        replace h_p := h_p.next hb (Nat.le_refl _) hb.size
        replace k1 := k1.below hb k1.lt
        clear Bw8
        clear hb
        go_wp2
        go_ret
        exact ⟨rfl, Bw9⟩

set_option maxRecDepth 100000 in
theorem RoundDelay_lifted (os : Go.Os) (started : os.Started) (H : Type) (enc : TypeId × Value → H) :
    ReturnsInHanded {} Try.checked os 11 .any (Rows.roundDelaySpec.pre6 enc Try.prog Try.f11 Rows.roundDelayRow.domain false) (Rows.roundDelaySpec.post enc Try.prog Try.f11 false true false false) := by
  refine returnsInHanded_of_change (C := Try.checked) row_own started (by kernel_rfl) Try.func11
    (ChangeSpec.witness6 (enc := enc) (C := Try.checked) false ⟨#[], #[.agg #[.int .i64 0, .slice none 0 0], .slice none 0 0, .int .u16 0], []⟩ 8 (by kernel_rfl) (by kernel_rfl) (by kernel_rfl) (by kernel_rfl)) ?_
  intro W base args ds gs before hval0 hW _ _
  have hval : ∀ (j : Nat) t v, Try.f11.params[j]? = some t → args[j]? = some v → Value.okWide Try.prog W .any base t v := hval0
  have hW' := hW
  obtain ⟨p, q, hA0, hV, rfl, _, _⟩ := hW
  have hA : DataW.TrodAll enc Try.prog W 0 (fun _ => true) true Try.f11.params.toList args.toList ds p := hA0
  rw [Try.params11] at hA hval
  obtain ⟨v0, v1, v2, d0, d1, d2, p0, p1, p2, rfl, rfl, rfl, h0, h1, h2⟩ := trodAll_three hA
  obtain ⟨rfl, rfl⟩ := trodVars_none hV
  clear hA0 hval0
  simp only [List.append_nil] at hW'
  have hlt : ∀ x ∈ (p0 ++ p1 ++ p2), x.block < W.heap.size := fun x hx => by simpa using hW'.lt x hx
  have a0 := fun W' (hb : Below W.heap.size W W') => row_stays (t := 24) (by kernel_rfl) (of_decide_eq_true (by kernel_rfl)) h0 (fun x hx => hlt x (by simp [hx])) hb
  have a1 := fun W' (hb : Below W.heap.size W W') => row_stays (t := 55) (by kernel_rfl) (of_decide_eq_true (by kernel_rfl)) h1 (fun x hx => hlt x (by simp [hx])) hb
  have a2 := fun W' (hb : Below W.heap.size W W') => row_stays (t := 58) (by kernel_rfl) (of_decide_eq_true (by kernel_rfl)) h2 (fun x hx => hlt x (by simp [hx])) hb
  obtain ⟨b0, A0, n0, c0, ps0, rfl, hc0, hm0, hx0⟩ := row_pier (hval 0 24 v0 rfl rfl) h0 (fun x hx => hlt x (by simp [hx]))
  obtain ⟨A1, n1, c1, xs1, rfl, hc1, hm1, hx1, hw1⟩ := row_ints (t := 55) (e := 5) (k := .u8) (by kernel_rfl) (by kernel_rfl) (by kernel_rfl) (hval 1 55 v1 rfl rfl) h1 (fun x hx => hlt x (by simp [hx]))
  obtain ⟨x2, rfl, _, _, wx2⟩ := open_int (P := Try.prog) (k := .u16) (t := 58) (by kernel_rfl) (hval 2 58 v2 rfl rfl) h2
  refine (wDelay b0 A0 n0 c0 ps0 A1 n1 c1 xs1 x2 (u16_lo wx2) (u16_hi wx2) W hx0 hc0 (Ru.of_row hx1 hw1)).mono fun e W' ⟨he, hb⟩ => ?_
  subst he
  exact ⟨_, rfl, _, _, _, [], (p0 ++ p1 ++ p2), [], hW', trodAll_mk1 (shut_bool Try.underlying4 true), (by simp only [List.append_assoc]; exact trodAll_mk3 (a0 _ hb) (a1 _ hb) (a2 _ hb)), rfl, hb.frame _, fun h => by cases h⟩
theorem RoundDelay_holds : Rows.RoundDelaySaid :=
  OpenClaim.holds_of_wide 11 Try.f11 rfl rfl rfl rfl rfl rfl rfl ⟨rfl, rfl, rfl, rfl, rfl⟩ rfl rfl rfl rfl rfl (by kernel_rfl) Try.func11 (by kernel_rfl)
    (of_decide_eq_true (by kernel_rfl)) (by unfold Func.isWrapper; first | (rw [if_pos (by decide +kernel)]; kernel_rfl) | (rw [if_neg (by decide +kernel)]; exact ⟨rfl, rfl⟩))
    (fun os started H enc _ => RoundDelay_lifted os started H enc)
#print axioms RoundDelay_holds
end Go.Proofs.Ytaekjnjignlmoaa
