/-
  The reference: 'right'. Printed by gen_r22.py.
-/
import Derived.Test.YtaekjnjignlmoaaR21
import Derived.Test.YtaekjnjignlmoaaCb
namespace Go.Proofs.Ytaekjnjignlmoaa
open Go.RowKit Go.Shelf

set_option maxRecDepth 100000 in
set_option maxHeartbeats 8000000 in
theorem rRight0 (b : Int) (A : Option Addr) (n c : Nat) (ps : List (Int × Int)) (w : World) (h_p : Rp w w.heap.size A n ps) (HP : Hid (Pier b ps)) (x y : Nat) (hx : x ≤ lefts b ps) (hy : y ≤ n - lefts b ps) (D : Option Addr) (N dc X m : Nat) (num : Nat → Nat → Nat → Int) (h_t : Tb w w.heap.size D N X m num) (hN : N ≤ 1000) (hm : m ≤ 1000) (HNB : Hid (∀ x y e, -1 ≤ num x y e ∧ num x y e ≤ 9000)) (hxX : x < X) (hym : y < m) (r : Bool) (HR : Hid (rightBl b ps num (x, y, 0) = r)) :
    Calls Try.prog 84 #[.agg #[.int .i64 b, .slice A n c], .slice D N dc, .int .i64 (x : Int), .int .i64 (y : Int), .int .i64 0] w (RetB w r) := by
  have HL := Lib.hid h_p.len
  have hn1 : 1 ≤ n := by rw [← HL.out]; exact HP.out.lo
  have hn10 : n ≤ 10 := by rw [← HL.out]; exact HP.out.hi
  have hqn := lefts_le b ps
  rw [HL.out] at hqn
  obtain ⟨q, HQ⟩ : ∃ q, Hid (lefts b ps = q) := ⟨_, Lib.hid rfl⟩
  rw [HQ.out] at hx hy hqn
  have hXN := h_t.1
  have hxN : x < N := by omega
  have hwx : IntKind.i64.wrap (x : Int) = (x : Int) := IntWalk.i64_in _ (by omega)
  have hwy : IntKind.i64.wrap (y : Int) = (y : Int) := IntWalk.i64_in _ (by omega)
  obtain ⟨z, HZ⟩ : ∃ z, Hid (num x y 0 = z) := ⟨_, Lib.hid rfl⟩
  have hzb := HNB.out x y 0
  rw [HZ.out] at hzb
  by_cases h0 : x + y = 0
  · have hx0 : x = 0 := by omega
    have hy0 : y = 0 := by omega
    have HSU : Hid (sumE b ps num x y 0 = 0) := Lib.hid (by unfold sumE; rw [if_pos h0])
    have HRR : Hid (r = (z == 0)) := Lib.hid (by
      rw [← HR.out]
      show (if sumE b ps num x y 0 < 0 then decide (num x y 0 = -1) else decide (0 ≤ num x y 0) && decide (num x y 0 ≤ sumE b ps num x y 0)) = _
      rw [HSU.out, HZ.out, if_neg (by decide)]
      rw [Bool.eq_iff_iff]
      simp
      omega)
    have hxb : ((x : Int) == 0) = true := by simp [hx0]
    have hyb : ((y : Int) == 0) = true := by simp [hy0]
    clear h0 hx0 hy0
    have hmix : Try.prog.follows .mixedOrders = true := by kernel_rfl
    have k1 := Bk.new w 24 #[.int .i64 b, .slice A n c]
    have hb : Below w.heap.size w (w.alloc (.cells #[.int .i64 b, .slice A n c] 24)) := (Below.refl _ _).alloc (Nat.le_refl _) _
    obtain ⟨ad, rk, cr, rfl, _, r1, _, _, v0, v1⟩ := (h_t.below hb).at_ hxX hym
    rw [HZ.out] at v0
    have q0 := k1.cell 0
    have q1 := k1.cell 1
    go_enter Try.func84, Try.ntmps84
    go_wp2_with fail
    clear q0 q1
    clear r1 v0 v1
    obtain ⟨u1, hu⟩ : ∃ k, w.heap.size = k := ⟨_, rfl⟩
    obtain ⟨w1, hW⟩ : ∃ W, w.alloc (.cells #[.int .i64 b, .slice A n c] 24) = W := ⟨_, rfl⟩
    rw [hW] at k1 hb ⊢
    rw [hu] at k1 ⊢
    clear hW
    have HU := Lib.hid hu
    clear hu
    have Bw1 : Below w.heap.size w w1 := hb
    replace h_p := h_p.next hb (Nat.le_refl _) hb.size
    replace h_t := h_t.next hb (Nat.le_refl _) hb.size
    clear hb
    go_ret
    exact ⟨(by rw [HRR.out]; try rfl), Bw1⟩
  by_cases hi : isE x y 0 = true
  rotate_left
  · have HPL : Hid (placeE b ps x y 0 = none) := Lib.hid (by unfold placeE; rw [if_neg h0, if_neg hi])
    have HRR : Hid (r = (z == -1)) := Lib.hid (by
      rw [← HR.out]
      show (if sumE b ps num x y 0 < 0 then decide (num x y 0 = -1) else decide (0 ≤ num x y 0) && decide (num x y 0 ≤ sumE b ps num x y 0)) = _
      rw [show sumE b ps num x y 0 = -1 from by unfold sumE; rw [if_neg h0, if_neg hi], HZ.out, if_pos (by decide)]
      rw [Bool.eq_iff_iff]
      simp)
    have H0 := Lib.hid h0
    by_cases hx0 : x = 0
    · have hxb : ((x : Int) == 0) = true := by simp [hx0]
      have hyb : ((y : Int) == 0) = false := by simp; omega
      have HX0 := Lib.hid hx0
      clear h0 hx0
      have hmix : Try.prog.follows .mixedOrders = true := by kernel_rfl
      have k1 := Bk.new w 24 #[.int .i64 b, .slice A n c]
      have hb : Below w.heap.size w (w.alloc (.cells #[.int .i64 b, .slice A n c] 24)) := (Below.refl _ _).alloc (Nat.le_refl _) _
      obtain ⟨ad, rk, cr, rfl, _, r1, _, _, v0, v1⟩ := (h_t.below hb).at_ hxX hym
      rw [HZ.out] at v0
      have q0 := k1.cell 0
      have q1 := k1.cell 1
      go_enter Try.func84, Try.ntmps84
      go_wp2_with fail
      clear q0 q1
      clear r1 v0 v1
      obtain ⟨u1, hu⟩ : ∃ k, w.heap.size = k := ⟨_, rfl⟩
      obtain ⟨w1, hW⟩ : ∃ W, w.alloc (.cells #[.int .i64 b, .slice A n c] 24) = W := ⟨_, rfl⟩
      rw [hW] at k1 hb ⊢
      rw [hu] at k1 ⊢
      clear hW
      have HU := Lib.hid hu
      clear hu
      have Bw1 : Below w.heap.size w w1 := hb
      replace h_p := h_p.next hb (Nat.le_refl _) hb.size
      replace h_t := h_t.next hb (Nat.le_refl _) hb.size
      clear hb
      refine (rPlace0 b A n c ps _ h_p HP x y (by rw [HQ.out]; exact hx) (by rw [HQ.out]; exact hy) none HPL).mono ?_
      rintro e w2 ⟨rfl, hb⟩
      have Bw2 : Below w.heap.size w w2 := Bw1.trans (hb.mono Bw1.size)
      replace h_p := h_p.next hb (Nat.le_refl _) hb.size
      replace h_t := h_t.next hb (Nat.le_refl _) hb.size
      replace k1 := k1.below hb k1.lt
      clear Bw1
      clear hb
      dsimp only [Option.getD_none, Option.isSome_none]
      go_wp2
      go_ret
      exact ⟨(by rw [HRR.out]; try rfl), Bw2⟩
    · have hxc : ((x : Int) == 0) = false := by simp; omega
      have hx1 : ¬ x = 0 := hx0
      have hmix : Try.prog.follows .mixedOrders = true := by kernel_rfl
      have k1 := Bk.new w 24 #[.int .i64 b, .slice A n c]
      have hb : Below w.heap.size w (w.alloc (.cells #[.int .i64 b, .slice A n c] 24)) := (Below.refl _ _).alloc (Nat.le_refl _) _
      obtain ⟨ad, rk, cr, rfl, _, r1, _, _, v0, v1⟩ := (h_t.below hb).at_ hxX hym
      rw [HZ.out] at v0
      have q0 := k1.cell 0
      have q1 := k1.cell 1
      go_enter Try.func84, Try.ntmps84
      go_wp2_with fail
      clear q0 q1
      clear r1 v0 v1
      obtain ⟨u1, hu⟩ : ∃ k, w.heap.size = k := ⟨_, rfl⟩
      obtain ⟨w1, hW⟩ : ∃ W, w.alloc (.cells #[.int .i64 b, .slice A n c] 24) = W := ⟨_, rfl⟩
      rw [hW] at k1 hb ⊢
      rw [hu] at k1 ⊢
      clear hW
      have HU := Lib.hid hu
      clear hu
      have Bw1 : Below w.heap.size w w1 := hb
      replace h_p := h_p.next hb (Nat.le_refl _) hb.size
      replace h_t := h_t.next hb (Nat.le_refl _) hb.size
      clear hb
      refine (rPlace0 b A n c ps _ h_p HP x y (by rw [HQ.out]; exact hx) (by rw [HQ.out]; exact hy) none HPL).mono ?_
      rintro e w2 ⟨rfl, hb⟩
      have Bw2 : Below w.heap.size w w2 := Bw1.trans (hb.mono Bw1.size)
      replace h_p := h_p.next hb (Nat.le_refl _) hb.size
      replace h_t := h_t.next hb (Nat.le_refl _) hb.size
      replace k1 := k1.below hb k1.lt
      clear Bw1
      clear hb
      dsimp only [Option.getD_none, Option.isSome_none]
      go_wp2
      go_ret
      exact ⟨(by rw [HRR.out]; try rfl), Bw2⟩
  · obtain ⟨o, HO⟩ : ∃ o, Hid (placeE b ps x y 0 = some o) := ⟨_, Lib.hid (by unfold placeE; rw [if_neg h0, if_pos hi])⟩
    obtain ⟨sm, HSM⟩ : ∃ v, Hid (leastR b ps num x y 0 = v) := ⟨_, Lib.hid rfl⟩
    have HRR : Hid (r = if sm < 0 then (z == -1) else decide (0 ≤ z) && decide (z ≤ sm)) := Lib.hid (by
      rw [← HR.out]
      show (if sumE b ps num x y 0 < 0 then decide (num x y 0 = -1) else decide (0 ≤ num x y 0) && decide (num x y 0 ≤ sumE b ps num x y 0)) = _
      rw [leastR_sum h0 hi, HSM.out, HZ.out]
      split
      · rw [Bool.eq_iff_iff]; simp
      · rfl)
    have H0 := Lib.hid h0
    by_cases hx0 : x = 0
    · have hxb : ((x : Int) == 0) = true := by simp [hx0]
      have hyb : ((y : Int) == 0) = false := by simp; omega
      have HX0 := Lib.hid hx0
      clear h0 hx0
      exfalso
      have := HX0.out
      unfold isE at hi
      rw [if_pos rfl, this] at hi
      simp at hi
    · have hxc : ((x : Int) == 0) = false := by simp; omega
      have hx1 : ¬ x = 0 := hx0
      have hmix : Try.prog.follows .mixedOrders = true := by kernel_rfl
      have k1 := Bk.new w 24 #[.int .i64 b, .slice A n c]
      have hb : Below w.heap.size w (w.alloc (.cells #[.int .i64 b, .slice A n c] 24)) := (Below.refl _ _).alloc (Nat.le_refl _) _
      obtain ⟨ad, rk, cr, rfl, _, r1, _, _, v0, v1⟩ := (h_t.below hb).at_ hxX hym
      rw [HZ.out] at v0
      have q0 := k1.cell 0
      have q1 := k1.cell 1
      go_enter Try.func84, Try.ntmps84
      go_wp2_with fail
      clear q0 q1
      clear r1 v0 v1
      obtain ⟨u1, hu⟩ : ∃ k, w.heap.size = k := ⟨_, rfl⟩
      obtain ⟨w1, hW⟩ : ∃ W, w.alloc (.cells #[.int .i64 b, .slice A n c] 24) = W := ⟨_, rfl⟩
      rw [hW] at k1 hb ⊢
      rw [hu] at k1 ⊢
      clear hW
      have HU := Lib.hid hu
      clear hu
      have Bw1 : Below w.heap.size w w1 := hb
      replace h_p := h_p.next hb (Nat.le_refl _) hb.size
      replace h_t := h_t.next hb (Nat.le_refl _) hb.size
      clear hb
      refine (rPlace0 b (A) n c ps _ h_p HP x y (by rw [HQ.out]; exact hx) (by rw [HQ.out]; exact hy) (some o) HO).mono ?_
      rintro e w2 ⟨rfl, hb⟩
      have Bw2 : Below w.heap.size w w2 := Bw1.trans (hb.mono Bw1.size)
      replace h_p := h_p.next hb (Nat.le_refl _) hb.size
      replace h_t := h_t.next hb (Nat.le_refl _) hb.size
      replace k1 := k1.below hb k1.lt
      clear Bw1
      clear hb
      dsimp only [Option.getD_some, Option.isSome_some]
      have d_k1_0 := k1.cell 0
      have d_k1_1 := k1.cell 1
      go_wp2_with fail
      clear d_k1_0 d_k1_1
      refine (rLeast0 b A n c ps _ h_p HP x y (by rw [HQ.out]; exact hx) (by rw [HQ.out]; exact hy) (some ad) N dc X m num h_t hN hm HNB (by omega) (by omega) hi sm HSM).mono ?_
      rintro e w3 ⟨rfl, hb⟩
      have Bw3 : Below w.heap.size w w3 := Bw2.trans (hb.mono Bw2.size)
      replace h_p := h_p.next hb (Nat.le_refl _) hb.size
      replace h_t := h_t.next hb (Nat.le_refl _) hb.size
      replace k1 := k1.below hb k1.lt
      clear Bw2
      clear hb
      by_cases hs : sm < 0
      · have hs2 : decide (sm < 0) = true := decide_eq_true hs
        have HRS : Hid (r = (z == -1)) := Lib.hid (by rw [HRR.out, if_pos hs])
        clear hs
        go_wp2
        go_ret
        exact ⟨(by rw [HRS.out]; try rfl), Bw3⟩
      · have hs2 : decide (sm < 0) = false := decide_eq_false hs
        have HRS : Hid (r = (decide (0 ≤ z) && decide (z ≤ sm))) := Lib.hid (by rw [HRR.out, if_neg hs])
        clear hs
        obtain ⟨r1', HZ1⟩ : ∃ r, Hid (decide (0 ≤ z) = r) := ⟨_, Lib.hid rfl⟩
        have hz1 := HZ1.out
        cases r1'
        · have HRT := HRS.out
          rw [HZ1.out] at HRT
          have HRT := Lib.hid HRT
          go_wp2
          go_ret
          exact ⟨by rw [HRT.out]; first | rfl | simp, Bw3⟩
        · have HRT := HRS.out
          rw [HZ1.out] at HRT
          have HRT := Lib.hid HRT
          go_wp2
          go_ret
          exact ⟨by rw [HRT.out]; first | rfl | simp, Bw3⟩
set_option maxRecDepth 100000 in
set_option maxHeartbeats 8000000 in
theorem rRight1 (b : Int) (A : Option Addr) (n c : Nat) (ps : List (Int × Int)) (w : World) (h_p : Rp w w.heap.size A n ps) (HP : Hid (Pier b ps)) (x y : Nat) (hx : x ≤ lefts b ps) (hy : y ≤ n - lefts b ps) (D : Option Addr) (N dc X m : Nat) (num : Nat → Nat → Nat → Int) (h_t : Tb w w.heap.size D N X m num) (hN : N ≤ 1000) (hm : m ≤ 1000) (HNB : Hid (∀ x y e, -1 ≤ num x y e ∧ num x y e ≤ 9000)) (hxX : x < X) (hym : y < m) (r : Bool) (HR : Hid (rightBl b ps num (x, y, 1) = r)) :
    Calls Try.prog 84 #[.agg #[.int .i64 b, .slice A n c], .slice D N dc, .int .i64 (x : Int), .int .i64 (y : Int), .int .i64 1] w (RetB w r) := by
  have HL := Lib.hid h_p.len
  have hn1 : 1 ≤ n := by rw [← HL.out]; exact HP.out.lo
  have hn10 : n ≤ 10 := by rw [← HL.out]; exact HP.out.hi
  have hqn := lefts_le b ps
  rw [HL.out] at hqn
  obtain ⟨q, HQ⟩ : ∃ q, Hid (lefts b ps = q) := ⟨_, Lib.hid rfl⟩
  rw [HQ.out] at hx hy hqn
  have hXN := h_t.1
  have hxN : x < N := by omega
  have hwx : IntKind.i64.wrap (x : Int) = (x : Int) := IntWalk.i64_in _ (by omega)
  have hwy : IntKind.i64.wrap (y : Int) = (y : Int) := IntWalk.i64_in _ (by omega)
  obtain ⟨z, HZ⟩ : ∃ z, Hid (num x y 1 = z) := ⟨_, Lib.hid rfl⟩
  have hzb := HNB.out x y 1
  rw [HZ.out] at hzb
  by_cases h0 : x + y = 0
  · have hx0 : x = 0 := by omega
    have hy0 : y = 0 := by omega
    have HSU : Hid (sumE b ps num x y 1 = 0) := Lib.hid (by unfold sumE; rw [if_pos h0])
    have HRR : Hid (r = (z == 0)) := Lib.hid (by
      rw [← HR.out]
      show (if sumE b ps num x y 1 < 0 then decide (num x y 1 = -1) else decide (0 ≤ num x y 1) && decide (num x y 1 ≤ sumE b ps num x y 1)) = _
      rw [HSU.out, HZ.out, if_neg (by decide)]
      rw [Bool.eq_iff_iff]
      simp
      omega)
    have hxb : ((x : Int) == 0) = true := by simp [hx0]
    have hyb : ((y : Int) == 0) = true := by simp [hy0]
    clear h0 hx0 hy0
    have hmix : Try.prog.follows .mixedOrders = true := by kernel_rfl
    have k1 := Bk.new w 24 #[.int .i64 b, .slice A n c]
    have hb : Below w.heap.size w (w.alloc (.cells #[.int .i64 b, .slice A n c] 24)) := (Below.refl _ _).alloc (Nat.le_refl _) _
    obtain ⟨ad, rk, cr, rfl, _, r1, _, _, v0, v1⟩ := (h_t.below hb).at_ hxX hym
    rw [HZ.out] at v1
    have q0 := k1.cell 0
    have q1 := k1.cell 1
    go_enter Try.func84, Try.ntmps84
    go_wp2_with fail
    clear q0 q1
    clear r1 v0 v1
    obtain ⟨u1, hu⟩ : ∃ k, w.heap.size = k := ⟨_, rfl⟩
    obtain ⟨w1, hW⟩ : ∃ W, w.alloc (.cells #[.int .i64 b, .slice A n c] 24) = W := ⟨_, rfl⟩
    rw [hW] at k1 hb ⊢
    rw [hu] at k1 ⊢
    clear hW
    have HU := Lib.hid hu
    clear hu
    have Bw1 : Below w.heap.size w w1 := hb
    replace h_p := h_p.next hb (Nat.le_refl _) hb.size
    replace h_t := h_t.next hb (Nat.le_refl _) hb.size
    clear hb
    go_ret
    exact ⟨(by rw [HRR.out]; try rfl), Bw1⟩
  by_cases hi : isE x y 1 = true
  rotate_left
  · have HPL : Hid (placeE b ps x y 1 = none) := Lib.hid (by unfold placeE; rw [if_neg h0, if_neg hi])
    have HRR : Hid (r = (z == -1)) := Lib.hid (by
      rw [← HR.out]
      show (if sumE b ps num x y 1 < 0 then decide (num x y 1 = -1) else decide (0 ≤ num x y 1) && decide (num x y 1 ≤ sumE b ps num x y 1)) = _
      rw [show sumE b ps num x y 1 = -1 from by unfold sumE; rw [if_neg h0, if_neg hi], HZ.out, if_pos (by decide)]
      rw [Bool.eq_iff_iff]
      simp)
    have H0 := Lib.hid h0
    by_cases hx0 : x = 0
    · have hxb : ((x : Int) == 0) = true := by simp [hx0]
      have hyb : ((y : Int) == 0) = false := by simp; omega
      have HX0 := Lib.hid hx0
      clear h0 hx0
      have hmix : Try.prog.follows .mixedOrders = true := by kernel_rfl
      have k1 := Bk.new w 24 #[.int .i64 b, .slice A n c]
      have hb : Below w.heap.size w (w.alloc (.cells #[.int .i64 b, .slice A n c] 24)) := (Below.refl _ _).alloc (Nat.le_refl _) _
      obtain ⟨ad, rk, cr, rfl, _, r1, _, _, v0, v1⟩ := (h_t.below hb).at_ hxX hym
      rw [HZ.out] at v1
      have q0 := k1.cell 0
      have q1 := k1.cell 1
      go_enter Try.func84, Try.ntmps84
      go_wp2_with fail
      clear q0 q1
      clear r1 v0 v1
      obtain ⟨u1, hu⟩ : ∃ k, w.heap.size = k := ⟨_, rfl⟩
      obtain ⟨w1, hW⟩ : ∃ W, w.alloc (.cells #[.int .i64 b, .slice A n c] 24) = W := ⟨_, rfl⟩
      rw [hW] at k1 hb ⊢
      rw [hu] at k1 ⊢
      clear hW
      have HU := Lib.hid hu
      clear hu
      have Bw1 : Below w.heap.size w w1 := hb
      replace h_p := h_p.next hb (Nat.le_refl _) hb.size
      replace h_t := h_t.next hb (Nat.le_refl _) hb.size
      clear hb
      refine (rPlace1 b A n c ps _ h_p HP x y (by rw [HQ.out]; exact hx) (by rw [HQ.out]; exact hy) none HPL).mono ?_
      rintro e w2 ⟨rfl, hb⟩
      have Bw2 : Below w.heap.size w w2 := Bw1.trans (hb.mono Bw1.size)
      replace h_p := h_p.next hb (Nat.le_refl _) hb.size
      replace h_t := h_t.next hb (Nat.le_refl _) hb.size
      replace k1 := k1.below hb k1.lt
      clear Bw1
      clear hb
      dsimp only [Option.getD_none, Option.isSome_none]
      go_wp2
      go_ret
      exact ⟨(by rw [HRR.out]; try rfl), Bw2⟩
    · have hxc : ((x : Int) == 0) = false := by simp; omega
      have hx1 : ¬ x = 0 := hx0
      have hmix : Try.prog.follows .mixedOrders = true := by kernel_rfl
      have k1 := Bk.new w 24 #[.int .i64 b, .slice A n c]
      have hb : Below w.heap.size w (w.alloc (.cells #[.int .i64 b, .slice A n c] 24)) := (Below.refl _ _).alloc (Nat.le_refl _) _
      obtain ⟨ad, rk, cr, rfl, _, r1, _, _, v0, v1⟩ := (h_t.below hb).at_ hxX hym
      rw [HZ.out] at v1
      have q0 := k1.cell 0
      have q1 := k1.cell 1
      go_enter Try.func84, Try.ntmps84
      go_wp2_with fail
      clear q0 q1
      clear r1 v0 v1
      obtain ⟨u1, hu⟩ : ∃ k, w.heap.size = k := ⟨_, rfl⟩
      obtain ⟨w1, hW⟩ : ∃ W, w.alloc (.cells #[.int .i64 b, .slice A n c] 24) = W := ⟨_, rfl⟩
      rw [hW] at k1 hb ⊢
      rw [hu] at k1 ⊢
      clear hW
      have HU := Lib.hid hu
      clear hu
      have Bw1 : Below w.heap.size w w1 := hb
      replace h_p := h_p.next hb (Nat.le_refl _) hb.size
      replace h_t := h_t.next hb (Nat.le_refl _) hb.size
      clear hb
      refine (rPlace1 b A n c ps _ h_p HP x y (by rw [HQ.out]; exact hx) (by rw [HQ.out]; exact hy) none HPL).mono ?_
      rintro e w2 ⟨rfl, hb⟩
      have Bw2 : Below w.heap.size w w2 := Bw1.trans (hb.mono Bw1.size)
      replace h_p := h_p.next hb (Nat.le_refl _) hb.size
      replace h_t := h_t.next hb (Nat.le_refl _) hb.size
      replace k1 := k1.below hb k1.lt
      clear Bw1
      clear hb
      dsimp only [Option.getD_none, Option.isSome_none]
      go_wp2
      go_ret
      exact ⟨(by rw [HRR.out]; try rfl), Bw2⟩
  · obtain ⟨o, HO⟩ : ∃ o, Hid (placeE b ps x y 1 = some o) := ⟨_, Lib.hid (by unfold placeE; rw [if_neg h0, if_pos hi])⟩
    obtain ⟨sm, HSM⟩ : ∃ v, Hid (leastR b ps num x y 1 = v) := ⟨_, Lib.hid rfl⟩
    have HRR : Hid (r = if sm < 0 then (z == -1) else decide (0 ≤ z) && decide (z ≤ sm)) := Lib.hid (by
      rw [← HR.out]
      show (if sumE b ps num x y 1 < 0 then decide (num x y 1 = -1) else decide (0 ≤ num x y 1) && decide (num x y 1 ≤ sumE b ps num x y 1)) = _
      rw [leastR_sum h0 hi, HSM.out, HZ.out]
      split
      · rw [Bool.eq_iff_iff]; simp
      · rfl)
    have H0 := Lib.hid h0
    by_cases hx0 : x = 0
    · have hxb : ((x : Int) == 0) = true := by simp [hx0]
      have hyb : ((y : Int) == 0) = false := by simp; omega
      have HX0 := Lib.hid hx0
      clear h0 hx0
      have hmix : Try.prog.follows .mixedOrders = true := by kernel_rfl
      have k1 := Bk.new w 24 #[.int .i64 b, .slice A n c]
      have hb : Below w.heap.size w (w.alloc (.cells #[.int .i64 b, .slice A n c] 24)) := (Below.refl _ _).alloc (Nat.le_refl _) _
      obtain ⟨ad, rk, cr, rfl, _, r1, _, _, v0, v1⟩ := (h_t.below hb).at_ hxX hym
      rw [HZ.out] at v1
      have q0 := k1.cell 0
      have q1 := k1.cell 1
      go_enter Try.func84, Try.ntmps84
      go_wp2_with fail
      clear q0 q1
      clear r1 v0 v1
      obtain ⟨u1, hu⟩ : ∃ k, w.heap.size = k := ⟨_, rfl⟩
      obtain ⟨w1, hW⟩ : ∃ W, w.alloc (.cells #[.int .i64 b, .slice A n c] 24) = W := ⟨_, rfl⟩
      rw [hW] at k1 hb ⊢
      rw [hu] at k1 ⊢
      clear hW
      have HU := Lib.hid hu
      clear hu
      have Bw1 : Below w.heap.size w w1 := hb
      replace h_p := h_p.next hb (Nat.le_refl _) hb.size
      replace h_t := h_t.next hb (Nat.le_refl _) hb.size
      clear hb
      refine (rPlace1 b (A) n c ps _ h_p HP x y (by rw [HQ.out]; exact hx) (by rw [HQ.out]; exact hy) (some o) HO).mono ?_
      rintro e w2 ⟨rfl, hb⟩
      have Bw2 : Below w.heap.size w w2 := Bw1.trans (hb.mono Bw1.size)
      replace h_p := h_p.next hb (Nat.le_refl _) hb.size
      replace h_t := h_t.next hb (Nat.le_refl _) hb.size
      replace k1 := k1.below hb k1.lt
      clear Bw1
      clear hb
      dsimp only [Option.getD_some, Option.isSome_some]
      have d_k1_0 := k1.cell 0
      have d_k1_1 := k1.cell 1
      go_wp2_with fail
      clear d_k1_0 d_k1_1
      refine (rLeast1 b A n c ps _ h_p HP x y (by rw [HQ.out]; exact hx) (by rw [HQ.out]; exact hy) (some ad) N dc X m num h_t hN hm HNB (by omega) (by omega) hi sm HSM).mono ?_
      rintro e w3 ⟨rfl, hb⟩
      have Bw3 : Below w.heap.size w w3 := Bw2.trans (hb.mono Bw2.size)
      replace h_p := h_p.next hb (Nat.le_refl _) hb.size
      replace h_t := h_t.next hb (Nat.le_refl _) hb.size
      replace k1 := k1.below hb k1.lt
      clear Bw2
      clear hb
      by_cases hs : sm < 0
      · have hs2 : decide (sm < 0) = true := decide_eq_true hs
        have HRS : Hid (r = (z == -1)) := Lib.hid (by rw [HRR.out, if_pos hs])
        clear hs
        go_wp2
        go_ret
        exact ⟨(by rw [HRS.out]; try rfl), Bw3⟩
      · have hs2 : decide (sm < 0) = false := decide_eq_false hs
        have HRS : Hid (r = (decide (0 ≤ z) && decide (z ≤ sm))) := Lib.hid (by rw [HRR.out, if_neg hs])
        clear hs
        obtain ⟨r1', HZ1⟩ : ∃ r, Hid (decide (0 ≤ z) = r) := ⟨_, Lib.hid rfl⟩
        have hz1 := HZ1.out
        cases r1'
        · have HRT := HRS.out
          rw [HZ1.out] at HRT
          have HRT := Lib.hid HRT
          go_wp2
          go_ret
          exact ⟨by rw [HRT.out]; first | rfl | simp, Bw3⟩
        · have HRT := HRS.out
          rw [HZ1.out] at HRT
          have HRT := Lib.hid HRT
          go_wp2
          go_ret
          exact ⟨by rw [HRT.out]; first | rfl | simp, Bw3⟩
    · have hxc : ((x : Int) == 0) = false := by simp; omega
      have hx1 : ¬ x = 0 := hx0
      have hmix : Try.prog.follows .mixedOrders = true := by kernel_rfl
      have k1 := Bk.new w 24 #[.int .i64 b, .slice A n c]
      have hb : Below w.heap.size w (w.alloc (.cells #[.int .i64 b, .slice A n c] 24)) := (Below.refl _ _).alloc (Nat.le_refl _) _
      obtain ⟨ad, rk, cr, rfl, _, r1, _, _, v0, v1⟩ := (h_t.below hb).at_ hxX hym
      rw [HZ.out] at v1
      have q0 := k1.cell 0
      have q1 := k1.cell 1
      go_enter Try.func84, Try.ntmps84
      go_wp2_with fail
      clear q0 q1
      clear r1 v0 v1
      obtain ⟨u1, hu⟩ : ∃ k, w.heap.size = k := ⟨_, rfl⟩
      obtain ⟨w1, hW⟩ : ∃ W, w.alloc (.cells #[.int .i64 b, .slice A n c] 24) = W := ⟨_, rfl⟩
      rw [hW] at k1 hb ⊢
      rw [hu] at k1 ⊢
      clear hW
      have HU := Lib.hid hu
      clear hu
      have Bw1 : Below w.heap.size w w1 := hb
      replace h_p := h_p.next hb (Nat.le_refl _) hb.size
      replace h_t := h_t.next hb (Nat.le_refl _) hb.size
      clear hb
      refine (rPlace1 b (A) n c ps _ h_p HP x y (by rw [HQ.out]; exact hx) (by rw [HQ.out]; exact hy) (some o) HO).mono ?_
      rintro e w2 ⟨rfl, hb⟩
      have Bw2 : Below w.heap.size w w2 := Bw1.trans (hb.mono Bw1.size)
      replace h_p := h_p.next hb (Nat.le_refl _) hb.size
      replace h_t := h_t.next hb (Nat.le_refl _) hb.size
      replace k1 := k1.below hb k1.lt
      clear Bw1
      clear hb
      dsimp only [Option.getD_some, Option.isSome_some]
      have d_k1_0 := k1.cell 0
      have d_k1_1 := k1.cell 1
      go_wp2_with fail
      clear d_k1_0 d_k1_1
      refine (rLeast1 b A n c ps _ h_p HP x y (by rw [HQ.out]; exact hx) (by rw [HQ.out]; exact hy) (some ad) N dc X m num h_t hN hm HNB (by omega) (by omega) hi sm HSM).mono ?_
      rintro e w3 ⟨rfl, hb⟩
      have Bw3 : Below w.heap.size w w3 := Bw2.trans (hb.mono Bw2.size)
      replace h_p := h_p.next hb (Nat.le_refl _) hb.size
      replace h_t := h_t.next hb (Nat.le_refl _) hb.size
      replace k1 := k1.below hb k1.lt
      clear Bw2
      clear hb
      by_cases hs : sm < 0
      · have hs2 : decide (sm < 0) = true := decide_eq_true hs
        have HRS : Hid (r = (z == -1)) := Lib.hid (by rw [HRR.out, if_pos hs])
        clear hs
        go_wp2
        go_ret
        exact ⟨(by rw [HRS.out]; try rfl), Bw3⟩
      · have hs2 : decide (sm < 0) = false := decide_eq_false hs
        have HRS : Hid (r = (decide (0 ≤ z) && decide (z ≤ sm))) := Lib.hid (by rw [HRR.out, if_neg hs])
        clear hs
        obtain ⟨r1', HZ1⟩ : ∃ r, Hid (decide (0 ≤ z) = r) := ⟨_, Lib.hid rfl⟩
        have hz1 := HZ1.out
        cases r1'
        · have HRT := HRS.out
          rw [HZ1.out] at HRT
          have HRT := Lib.hid HRT
          go_wp2
          go_ret
          exact ⟨by rw [HRT.out]; first | rfl | simp, Bw3⟩
        · have HRT := HRS.out
          rw [HZ1.out] at HRT
          have HRT := Lib.hid HRT
          go_wp2
          go_ret
          exact ⟨by rw [HRT.out]; first | rfl | simp, Bw3⟩
theorem rRight (b : Int) (A : Option Addr) (n c : Nat) (ps : List (Int × Int)) (w : World) (h_p : Rp w w.heap.size A n ps) (HP : Hid (Pier b ps)) (x y : Nat) (hx : x ≤ lefts b ps) (hy : y ≤ n - lefts b ps) (D : Option Addr) (N dc X m : Nat) (num : Nat → Nat → Nat → Int) (h_t : Tb w w.heap.size D N X m num) (hN : N ≤ 1000) (hm : m ≤ 1000) (HNB : Hid (∀ x y e, -1 ≤ num x y e ∧ num x y e ≤ 9000)) (hxX : x < X) (hym : y < m) (e : Nat) (he : e < 2) (r : Bool) (HR : Hid (rightBl b ps num (x, y, e) = r)) :
    Calls Try.prog 84 #[.agg #[.int .i64 b, .slice A n c], .slice D N dc, .int .i64 (x : Int), .int .i64 (y : Int), .int .i64 (e : Int)] w (RetB w r) := by
  match e, he with
  | 0, _ => exact rRight0 b A n c ps w h_p HP x y hx hy D N dc X m num h_t hN hm HNB hxX hym r HR
  | 1, _ => exact rRight1 b A n c ps w h_p HP x y hx hy D N dc X m num h_t hN hm HNB hxX hym r HR
end Go.Proofs.Ytaekjnjignlmoaa
