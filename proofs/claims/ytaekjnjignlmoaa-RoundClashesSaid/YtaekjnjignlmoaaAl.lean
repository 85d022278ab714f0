/-
  The laws: 'alike'. Printed by gen_alike.py.
-/
import Derived.Test.YtaekjnjignlmoaaWl
import Derived.Test.YtaekjnjignlmoaaKk
namespace Go.Proofs.Ytaekjnjignlmoaa
open Go.RowKit Go.Shelf

theorem shortest_len {b : Int} {ps : List (Int × Int)} (hp : Pier b ps) : (shortestS b ps).1.length ≤ 10 := by
  unfold shortestS
  rw [if_pos (checkPier_ok.2 hp)]
  by_cases h : goodR b ps = []
  · rw [if_pos h]
    simp
  · rw [if_neg h]
    have h1 := (allR_iff.1 (mem_goodR.1 (round_good h)).1).1
    have h2 := hp.hi
    show (roundOf b ps).length ≤ 10
    omega
set_option maxRecDepth 100000 in
set_option maxHeartbeats 4000000 in
theorem aAlike (b : Int) (A : Option Addr) (n c : Nat) (ps : List (Int × Int)) (b2 : Int) (A2 : Option Addr) (n2 c2 : Nat) (ps2 : List (Int × Int)) (i k : Int) (w : World) (h_p : Rp w w.heap.size A n ps) (h_x : Rp w w.heap.size A2 n2 ps2) (hn : n ≤ 1048576) (hn2 : n2 ≤ 1048576) (hc : n ≤ c) (hc2 : n2 ≤ c2)
    (HP : Hid (Pier b ps)) (H1 : Hid ((shortestS b2 ps2).2 = (shortestS b ps).2)) (H2 : Hid (countS b2 ps2 = countS b ps)) (H3 : Hid (delayS b2 ps2 = delayS b ps)) (H4 : Hid (withinS b2 ps2 k = withinS b ps i)) :
    Calls Try.prog 51 #[.agg #[.int .i64 b, .slice A n c], .agg #[.int .i64 b2, .slice A2 n2 c2], .int .i64 i, .int .i64 k] w fun e w' => e = .returned (.tuple #[.bool true, .bool true, .bool true]) ∧ Below w.heap.size w w' := by
  obtain ⟨s, HS⟩ : ∃ s, Hid (shortestS b ps = s) := ⟨_, Lib.hid rfl⟩
  obtain ⟨s2, HS2⟩ : ∃ s, Hid (shortestS b2 ps2 = s) := ⟨_, Lib.hid rfl⟩
  have hss : s2.2 = s.2 := by have h := H1.out; rw [HS.out, HS2.out] at h; exact h
  obtain ⟨sl, s0, se⟩ := s
  obtain ⟨sl2, s02, se2⟩ := s2
  obtain ⟨rfl, rfl⟩ : s02 = s0 ∧ se2 = se := by simpa using hss
  clear hss
  obtain ⟨m, HC⟩ : ∃ m : Int, Hid (countS b ps = (m, 0)) := ⟨(countS b ps).1, Lib.hid (by unfold countS; rw [if_pos (checkPier_ok.2 HP.out)])⟩
  have HC2 : Hid (countS b2 ps2 = (m, 0)) := Lib.hid (H2.out.trans HC.out)
  obtain ⟨dl, HD⟩ : ∃ m : Int, Hid (delayS b ps = (m, 0)) := ⟨(delayS b ps).1, Lib.hid (by unfold delayS; rw [if_pos (checkPier_ok.2 HP.out)])⟩
  have HD2 : Hid (delayS b2 ps2 = (dl, 0)) := Lib.hid (H3.out.trans HD.out)
  obtain ⟨wi, HW⟩ : ∃ s, Hid (withinS b ps i = s) := ⟨_, Lib.hid rfl⟩
  have HW2 : Hid (withinS b2 ps2 k = wi) := Lib.hid (H4.out.trans HW.out)
  obtain ⟨lo, hi, we⟩ := wi
  have k1 := (Bk.new w 24 #[.int .i64 b, .slice A n c]).alloc (.cells #[.int .i64 b2, .slice A2 n2 c2] 24)
  have k2 := Bk.new (w.alloc (.cells #[.int .i64 b, .slice A n c] 24)) 24 #[.int .i64 b2, .slice A2 n2 c2]
  have hb : Below w.heap.size w ((w.alloc (.cells #[.int .i64 b, .slice A n c] 24)).alloc (.cells #[.int .i64 b2, .slice A2 n2 c2] 24)) := ((Below.refl _ w).alloc (Nat.le_refl _) _).alloc (by simp) _
  simp only [World.size_alloc] at k2
  have d0 := k1.cell 0
  have d1 := k1.cell 1
  have d2 := k2.cell 0
  have d3 := k2.cell 1
  go_enter Try.func51, Try.ntmps51
  go_wp2_with fail
  clear d0 d1 d2 d3
  try simp only [World.size_alloc]
  obtain ⟨u1, hu1⟩ : ∃ k, w.heap.size = k := ⟨_, rfl⟩
  obtain ⟨u2, hu2⟩ : ∃ k, w.heap.size + 1 = k := ⟨_, rfl⟩
  rw [hu2] at k2 ⊢
  rw [hu1] at k1 ⊢
  obtain ⟨w1, hW⟩ : ∃ W, (w.alloc (.cells #[.int .i64 b, .slice A n c] 24)).alloc (.cells #[.int .i64 b2, .slice A2 n2 c2] 24) = W := ⟨_, rfl⟩
  rw [hW] at k1 k2 hb ⊢
  clear hW hu1 hu2
  have Bw1 : Below w.heap.size w w1 := hb
  replace h_p := h_p.next hb (Nat.le_refl _) hb.size
  replace h_x := h_x.next hb (Nat.le_refl _) hb.size
  clear hb
  refine (fShortest b A n c ps _ h_p hn hc _ HS).mono ?_
  rintro e w2 ⟨rfl, hb⟩
  have Bw2 : Below w.heap.size w w2 := Bw1.trans (hb.mono Bw1.size)
  replace h_p := h_p.next hb (Nat.le_refl _) hb.size
  replace h_x := h_x.next hb (Nat.le_refl _) hb.size
  replace k1 := k1.below hb k1.lt
  replace k2 := k2.below hb k2.lt
  clear Bw1
  clear hb
  have d_k1_0 := k1.cell 0
  have d_k1_1 := k1.cell 1
  have d_k2_0 := k2.cell 0
  have d_k2_1 := k2.cell 1
  go_wp2_with fail
  clear d_k1_0 d_k1_1 d_k2_0 d_k2_1
  refine (fShortest b2 A2 n2 c2 ps2 _ h_x hn2 hc2 _ HS2).mono ?_
  rintro e w3 ⟨rfl, hb⟩
  have Bw3 : Below w.heap.size w w3 := Bw2.trans (hb.mono Bw2.size)
  replace h_p := h_p.next hb (Nat.le_refl _) hb.size
  replace h_x := h_x.next hb (Nat.le_refl _) hb.size
  replace k1 := k1.below hb k1.lt
  replace k2 := k2.below hb k2.lt
  clear Bw2
  clear hb
  have d_k1_0 := k1.cell 0
  have d_k1_1 := k1.cell 1
  have d_k2_0 := k2.cell 0
  have d_k2_1 := k2.cell 1
  go_wp2_with fail
  clear d_k1_0 d_k1_1 d_k2_0 d_k2_1
  refine (fCount b A n c ps _ h_p hn hc _ HC).mono ?_
  rintro e w4 ⟨rfl, hb⟩
  have Bw4 : Below w.heap.size w w4 := Bw3.trans (hb.mono Bw3.size)
  replace h_p := h_p.next hb (Nat.le_refl _) hb.size
  replace h_x := h_x.next hb (Nat.le_refl _) hb.size
  replace k1 := k1.below hb k1.lt
  replace k2 := k2.below hb k2.lt
  clear Bw3
  clear hb
  have d_k1_0 := k1.cell 0
  have d_k1_1 := k1.cell 1
  have d_k2_0 := k2.cell 0
  have d_k2_1 := k2.cell 1
  go_wp2_with fail
  clear d_k1_0 d_k1_1 d_k2_0 d_k2_1
  refine (fCount b2 A2 n2 c2 ps2 _ h_x hn2 hc2 _ HC2).mono ?_
  rintro e w5 ⟨rfl, hb⟩
  have Bw5 : Below w.heap.size w w5 := Bw4.trans (hb.mono Bw4.size)
  replace h_p := h_p.next hb (Nat.le_refl _) hb.size
  replace h_x := h_x.next hb (Nat.le_refl _) hb.size
  replace k1 := k1.below hb k1.lt
  replace k2 := k2.below hb k2.lt
  clear Bw4
  clear hb
  have d_k1_0 := k1.cell 0
  have d_k1_1 := k1.cell 1
  have d_k2_0 := k2.cell 0
  have d_k2_1 := k2.cell 1
  go_wp2_with fail
  clear d_k1_0 d_k1_1 d_k2_0 d_k2_1
  refine (fDelay b A n c ps _ h_p hn hc _ HD).mono ?_
  rintro e w6 ⟨rfl, hb⟩
  have Bw6 : Below w.heap.size w w6 := Bw5.trans (hb.mono Bw5.size)
  replace h_p := h_p.next hb (Nat.le_refl _) hb.size
  replace h_x := h_x.next hb (Nat.le_refl _) hb.size
  replace k1 := k1.below hb k1.lt
  replace k2 := k2.below hb k2.lt
  clear Bw5
  clear hb
  have d_k1_0 := k1.cell 0
  have d_k1_1 := k1.cell 1
  have d_k2_0 := k2.cell 0
  have d_k2_1 := k2.cell 1
  go_wp2_with fail
  clear d_k1_0 d_k1_1 d_k2_0 d_k2_1
  refine (fDelay b2 A2 n2 c2 ps2 _ h_x hn2 hc2 _ HD2).mono ?_
  rintro e w7 ⟨rfl, hb⟩
  have Bw7 : Below w.heap.size w w7 := Bw6.trans (hb.mono Bw6.size)
  replace h_p := h_p.next hb (Nat.le_refl _) hb.size
  replace h_x := h_x.next hb (Nat.le_refl _) hb.size
  replace k1 := k1.below hb k1.lt
  replace k2 := k2.below hb k2.lt
  clear Bw6
  clear hb
  have d_k1_0 := k1.cell 0
  have d_k1_1 := k1.cell 1
  have d_k2_0 := k2.cell 0
  have d_k2_1 := k2.cell 1
  go_wp2_with fail
  clear d_k1_0 d_k1_1 d_k2_0 d_k2_1
  refine (fWithinR b A n c ps _ i h_p hn hc _ HW).mono ?_
  rintro e w8 ⟨rfl, hb⟩
  have Bw8 : Below w.heap.size w w8 := Bw7.trans (hb.mono Bw7.size)
  replace h_p := h_p.next hb (Nat.le_refl _) hb.size
  replace h_x := h_x.next hb (Nat.le_refl _) hb.size
  replace k1 := k1.below hb k1.lt
  replace k2 := k2.below hb k2.lt
  clear Bw7
  clear hb
  have d_k1_0 := (k1.alloc (.cells #[.int .i64 lo, .int .i64 hi] 43)).cell 0
  have d_k1_1 := (k1.alloc (.cells #[.int .i64 lo, .int .i64 hi] 43)).cell 1
  have d_k2_0 := (k2.alloc (.cells #[.int .i64 lo, .int .i64 hi] 43)).cell 0
  have d_k2_1 := (k2.alloc (.cells #[.int .i64 lo, .int .i64 hi] 43)).cell 1
  have d_k3_0 := (Bk.new w8 43 #[.int .i64 lo, .int .i64 hi]).cell 0
  have d_k3_1 := (Bk.new w8 43 #[.int .i64 lo, .int .i64 hi]).cell 1
  go_wp2_with fail
  clear d_k1_0 d_k1_1 d_k2_0 d_k2_1 d_k3_0 d_k3_1
  have k3 := Bk.new w8 43 #[.int .i64 lo, .int .i64 hi]
  have hb : Below w8.heap.size w8 (w8.alloc (.cells #[.int .i64 lo, .int .i64 hi] 43)) := (Below.refl _ _).alloc (Nat.le_refl _) _
  obtain ⟨u3, hu⟩ : ∃ k, w8.heap.size = k := ⟨_, rfl⟩
  obtain ⟨w9, hW⟩ : ∃ W, w8.alloc (.cells #[.int .i64 lo, .int .i64 hi] 43) = W := ⟨_, rfl⟩
  rw [hW] at k3 hb ⊢
  rw [hu] at k3 ⊢
  clear hW
  have Bw9 : Below w.heap.size w w9 := Bw8.trans (hb.mono Bw8.size)
  replace h_p := h_p.next hb (Nat.le_refl _) hb.size
  replace h_x := h_x.next hb (Nat.le_refl _) hb.size
  replace k1 := k1.below hb k1.lt
  replace k2 := k2.below hb k2.lt
  clear Bw8
  clear hb
  clear hu
  refine (fWithinR b2 A2 n2 c2 ps2 _ k h_x hn2 hc2 _ HW2).mono ?_
  rintro e w10 ⟨rfl, hb⟩
  have Bw10 : Below w.heap.size w w10 := Bw9.trans (hb.mono Bw9.size)
  replace h_p := h_p.next hb (Nat.le_refl _) hb.size
  replace h_x := h_x.next hb (Nat.le_refl _) hb.size
  replace k1 := k1.below hb k1.lt
  replace k2 := k2.below hb k2.lt
  replace k3 := k3.below hb k3.lt
  clear Bw9
  clear hb
  have d_k1_0 := (k1.alloc (.cells #[.int .i64 lo, .int .i64 hi] 43)).cell 0
  have d_k1_1 := (k1.alloc (.cells #[.int .i64 lo, .int .i64 hi] 43)).cell 1
  have d_k2_0 := (k2.alloc (.cells #[.int .i64 lo, .int .i64 hi] 43)).cell 0
  have d_k2_1 := (k2.alloc (.cells #[.int .i64 lo, .int .i64 hi] 43)).cell 1
  have d_k3_0 := (k3.alloc (.cells #[.int .i64 lo, .int .i64 hi] 43)).cell 0
  have d_k3_1 := (k3.alloc (.cells #[.int .i64 lo, .int .i64 hi] 43)).cell 1
  have d_k4_0 := (Bk.new w10 43 #[.int .i64 lo, .int .i64 hi]).cell 0
  have d_k4_1 := (Bk.new w10 43 #[.int .i64 lo, .int .i64 hi]).cell 1
  go_wp2
  clear d_k1_0 d_k1_1 d_k2_0 d_k2_1 d_k3_0 d_k3_1 d_k4_0 d_k4_1
  have k4 := Bk.new w10 43 #[.int .i64 lo, .int .i64 hi]
  have hb : Below w10.heap.size w10 (w10.alloc (.cells #[.int .i64 lo, .int .i64 hi] 43)) := (Below.refl _ _).alloc (Nat.le_refl _) _
  obtain ⟨u4, hu⟩ : ∃ k, w10.heap.size = k := ⟨_, rfl⟩
  obtain ⟨w11, hW⟩ : ∃ W, w10.alloc (.cells #[.int .i64 lo, .int .i64 hi] 43) = W := ⟨_, rfl⟩
  rw [hW] at k4 hb ⊢
  rw [hu] at k4 ⊢
  clear hW
  have Bw11 : Below w.heap.size w w11 := Bw10.trans (hb.mono Bw10.size)
  replace h_p := h_p.next hb (Nat.le_refl _) hb.size
  replace h_x := h_x.next hb (Nat.le_refl _) hb.size
  replace k1 := k1.below hb k1.lt
  replace k2 := k2.below hb k2.lt
  replace k3 := k3.below hb k3.lt
  clear Bw10
  clear hb
  clear hu
  go_ret3
  exact ⟨rfl, Bw11⟩
end Go.Proofs.Ytaekjnjignlmoaa
