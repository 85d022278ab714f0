/-
  RoundScaled: if all distances, and each To, are as many times as great, so are the shortest round and the delay, and what Within returns: for every pier, every number of times and every stop; no condition.
-/
import Derived.Test.YtaekjnjignlmoaaWorks
import Derived.Test.YtaekjnjignlmoaaRowP
import Derived.Test.YtaekjnjignlmoaaWl
import Derived.Test.YtaekjnjignlmoaaLp
namespace Go.Proofs.Ytaekjnjignlmoaa
open Go.Shelf Go.ChangeShapes Go.WideShapes Go.ChangeAt Go.RowKit

theorem within_bd2 {b : Int} {ps : List (Int × Int)} (hp : Pier b ps) (i : Int) : (0 ≤ (withinS b ps i).1 ∧ (withinS b ps i).1 ≤ 9000) ∧ 0 ≤ (withinS b ps i).2.1 ∧ (withinS b ps i).2.1 ≤ 9000 := by
  have h0 : (0 : Int) ≤ 9000 := by omega
  unfold withinS
  rw [if_pos (checkPier_ok.2 hp)]
  by_cases h1 : i < 0 ∨ (ps.length : Int) ≤ i
  · rw [if_pos h1]
    exact ⟨⟨Int.le_refl _, h0⟩, Int.le_refl _, h0⟩
  · rw [if_neg h1]
    by_cases h : goodR b ps = []
    · rw [if_pos h]
      exact ⟨⟨Int.le_refl _, h0⟩, Int.le_refl _, h0⟩
    · rw [if_neg h]
      have hne : stepsAt b ps i.toNat ≠ [] := by
        unfold stepsAt
        rw [Ne, List.map_eq_nil_iff]
        exact h
      obtain ⟨l, hl, he⟩ := List.mem_map.1 (minOf_mem hne)
      obtain ⟨l', hl', he'⟩ := List.mem_map.1 (maxOf_mem hne)
      have e1 : minOf (stepsAt b ps i.toNat) = _ := he.symm
      have e2 : maxOf (stepsAt b ps i.toNat) = _ := he'.symm
      rw [e1, e2]
      exact ⟨good_step hp hl (by omega), good_step hp hl' (by omega)⟩
theorem wrap_mul {q x : Int} (h1 : 1 ≤ q) (h2 : q ≤ 4) (h3 : 0 ≤ x) (h4 : x ≤ 10000) : IntKind.i64.wrap (q * x) = q * x := by
  have h5 : q * x ≤ 4 * 10000 := Int.mul_le_mul h2 h4 h3 (by omega)
  have h6 : 0 ≤ q * x := Int.mul_nonneg (by omega) h3
  exact IntWalk.i64_in _ (by omega)
theorem wrap_mul2 {q x : Int} (h1 : 1 ≤ q) (h2 : q ≤ 4) (h3 : -100000 ≤ x) (h4 : x ≤ 100000) : IntKind.i64.wrap (q * x) = q * x := by
  have hq : q = 1 ∨ q = 2 ∨ q = 3 ∨ q = 4 := by omega
  rcases hq with rfl | rfl | rfl | rfl <;> exact IntWalk.i64_in _ (by omega)
set_option maxRecDepth 100000 in
set_option maxHeartbeats 8000000 in
theorem wScaled (b : Int) (A : Option Addr) (n c : Nat) (ps : List (Int × Int)) (z y0 : Int) (hz0 : 0 ≤ z) (hz1 : z ≤ 255) (hy0 : 0 ≤ y0) (hy1 : y0 ≤ 255) (w : World) (hx : Rp w w.heap.size A n ps) (hc : n ≤ c) :
    Calls Try.prog 15 #[.agg #[.int .i64 b, .slice A n c], .int .u8 z, .int .u8 y0] w (RetB w true) := by
  have h_p := hx
  by_cases hf : n ≤ 14 ∧ checkPier b ps = 0
  rotate_left
  · have HF : Hid (decide (n ≤ 14 ∧ checkPier b ps = 0) = false) := Lib.hid (decide_eq_false hf)
    have k1 := Bk.new w 24 #[.int .i64 b, .slice A n c]
    have hb : Below w.heap.size w (w.alloc (.cells #[.int .i64 b, .slice A n c] 24)) := (Below.refl _ _).alloc (Nat.le_refl _) _
    have d0 := k1.cell 0
    have d1 := k1.cell 1
    go_enter Try.func15, Try.ntmps15
    go_wp2_with fail
    clear d0 d1
    obtain ⟨u1, hu⟩ : ∃ k, w.heap.size = k := ⟨_, rfl⟩
    obtain ⟨w1, hW⟩ : ∃ W, w.alloc (.cells #[.int .i64 b, .slice A n c] 24) = W := ⟨_, rfl⟩
    rw [hW] at k1 hb ⊢
    rw [hu] at k1 ⊢
    clear hW hu
    have Bw1 : Below w.heap.size w w1 := hb
    replace h_p := h_p.next hb (Nat.le_refl _) hb.size
    clear hb
    refine (aFine b A n c ps _ h_p _ HF).mono ?_
    rintro e w2 ⟨rfl, hb⟩
    have Bw2 : Below w.heap.size w w2 := Bw1.trans (hb.mono Bw1.size)
    replace h_p := h_p.next hb (Nat.le_refl _) hb.size
    replace k1 := k1.below hb k1.lt
    clear Bw1
    clear hb
    have d_k1_0 := k1.cell 0
    have d_k1_1 := k1.cell 1
    go_wp2_with fail
    clear d_k1_0 d_k1_1
    refine (aWorks _).mono ?_
    rintro e w3 ⟨rfl, hb⟩
    have Bw3 : Below w.heap.size w w3 := Bw2.trans (hb.mono Bw2.size)
    replace h_p := h_p.next hb (Nat.le_refl _) hb.size
    replace k1 := k1.below hb k1.lt
    clear Bw2
    clear hb
    go_wp2
    go_ret
    exact ⟨rfl, Bw3⟩
  have HF : Hid (decide (n ≤ 14 ∧ checkPier b ps = 0) = true) := Lib.hid (decide_eq_true hf)
  have HP : Hid (Pier b ps) := Lib.hid (checkPier_ok.1 hf.2)
  have HL := Lib.hid hx.len
  have hn1 : 1 ≤ n := by rw [← HL.out]; exact HP.out.lo
  have hn10 : n ≤ 10 := by rw [← HL.out]; exact HP.out.hi
  clear hf
  have hmix : Try.prog.follows .mixedOrders = true := by kernel_rfl
  obtain ⟨zr, HZR⟩ : ∃ r : Int, Hid (z % 4 = r) := ⟨_, Lib.hid rfl⟩
  have hz3 : z.tmod 4 = zr := (Int.tmod_eq_emod_of_nonneg hz0).trans HZR.out
  have hz4 : z % 4 = zr := HZR.out
  have hzr0 : 0 ≤ zr ∧ zr ≤ 3 := by rw [← HZR.out]; omega
  obtain ⟨q, hq⟩ : ∃ q : Int, 1 + zr = q := ⟨_, rfl⟩
  have hq0 : 1 ≤ q ∧ q ≤ 4 := by omega
  have hwq : IntKind.i64.wrap q = q := IntWalk.i64_in _ (by omega)
  have hwz : IntKind.i64.wrap zr = zr := IntWalk.i64_in _ (by omega)
  have hwz8 : IntKind.u8.wrap zr = zr := IntWalk.u8_in _ (by omega)
  have hbb := HP.out.begin_
  obtain ⟨qb, HQB⟩ : ∃ z, Hid (q * b = z) := ⟨_, Lib.hid rfl⟩
  have hqb : IntKind.i64.wrap (q * b) = qb := (wrap_mul hq0.1 hq0.2 hbb.1 (by omega)).trans HQB.out
  obtain ⟨t, HT⟩ : ∃ t : Nat, Hid (y0 % (n : Int) = (t : Int)) := ⟨(y0 % (n : Int)).toNat, Lib.hid (by have := Int.emod_nonneg y0 (b := (n : Int)) (by omega); omega)⟩
  have ht3 : y0.tmod (n : Int) = (t : Int) := (Int.tmod_eq_emod_of_nonneg hy0).trans HT.out
  have ht4 : y0 % (n : Int) = (t : Int) := HT.out
  have hn0 : ¬ n = 0 := by omega
  have hwy : IntKind.i64.wrap y0 = y0 := IntWalk.i64_in _ (by omega)
  have k1 := Bk.new w 24 #[.int .i64 b, .slice A n c]
  have hb : Below w.heap.size w (w.alloc (.cells #[.int .i64 b, .slice A n c] 24)) := (Below.refl _ _).alloc (Nat.le_refl _) _
  have d0 := k1.cell 0
  have d1 := k1.cell 1
  go_enter Try.func15, Try.ntmps15
  go_wp2_with fail
  clear d0 d1
  obtain ⟨u1, hu⟩ : ∃ k, w.heap.size = k := ⟨_, rfl⟩
  obtain ⟨w1, hW⟩ : ∃ W, w.alloc (.cells #[.int .i64 b, .slice A n c] 24) = W := ⟨_, rfl⟩
  rw [hW] at k1 hb ⊢
  rw [hu] at k1 ⊢
  clear hW hu
  have Bw1 : Below w.heap.size w w1 := hb
  replace h_p := h_p.next hb (Nat.le_refl _) hb.size
  clear hb
  refine (aFine b A n c ps _ h_p _ HF).mono ?_
  rintro e w2 ⟨rfl, hb⟩
  have Bw2 : Below w.heap.size w w2 := Bw1.trans (hb.mono Bw1.size)
  replace h_p := h_p.next hb (Nat.le_refl _) hb.size
  replace k1 := k1.below hb k1.lt
  clear Bw1
  clear hb
  have d_k1_0 := k1.cell 0
  have d_k1_1 := k1.cell 1
  go_wp2
  clear d_k1_0 d_k1_1
  have kx := Bk.new w2 24 #[.int .i64 qb, .slice none 0 0]
  have hbx : Below w2.heap.size w2 (w2.alloc (.cells #[.int .i64 qb, .slice none 0 0] 24)) := (Below.refl _ _).alloc (Nat.le_refl _) _
  obtain ⟨ux, huux⟩ : ∃ k, w2.heap.size = k := ⟨_, rfl⟩
  rw [huux] at kx hbx ⊢
  have hux_p := h_p
  have hux_l := k1.lt
  rw [huux] at hux_p hux_l
  go_loopw [9] (fun i wr => ∃ (k : Nat) (A' : Option Addr) (c' : Nat), k ≤ n ∧ i = .int .i64 k ∧ Bk wr ux 24 #[.int .i64 qb, .slice A' k c'] ∧ Os wr (ux + 1) A' k c' (scl q (ps.take k)) ∧ Below ux w2 wr) (fun i _ => n - (intOf i).toNat)
  case atStart => exact ⟨0, none, 0, Nat.zero_le _, rfl, kx, Os.nil_ _ _, hbx⟩
  case round =>
    clear kx hbx
    obtain ⟨k, A', c', hk, rfl, hkx, ho, hb⟩ := hrel
    have hsz : ux + 1 ≤ wr.heap.size := by have := hkx.lt; omega
    have hk1 := k1.below hb hux_l
    have c1 : wr.cell? ⟨u1, 1, none⟩ = some (.slice A n c) := hk1.cell 1
    have c0 : wr.cell? ⟨u1, 0, none⟩ = some (.int .i64 b) := hk1.cell 0
    have cS : wr.cell? ⟨ux, 1, none⟩ = some (.slice A' k c') := hkx.cell 1
    by_cases hlt : k < n
    · obtain ⟨ad, rfl, hadb, cx, cy⟩ := (hux_p.below hb).at2 hlt
      obtain ⟨x, HX⟩ : ∃ x, Hid (plc ps k = x) := ⟨_, Lib.hid rfl⟩
      obtain ⟨y, HY⟩ : ∃ y, Hid (too ps k = y) := ⟨_, Lib.hid rfl⟩
      have hxb := HP.out.at_ k
      rw [HX.out] at cx hxb
      rw [HY.out] at cy hxb
      have HGK : Hid (ps[k]? = some (x, y)) := Lib.hid (by
        have hk2 : k < ps.length := by rw [HL.out]; exact hlt
        have := plc_some (List.getElem?_eq_getElem hk2)
        rw [HX.out, HY.out] at this
        rw [List.getElem?_eq_getElem hk2]
        exact congrArg some (Prod.ext this.1.symm this.2.symm))
      obtain ⟨zx, HZX⟩ : ∃ z, Hid (q * x = z) := ⟨_, Lib.hid rfl⟩
      obtain ⟨zy, HZY⟩ : ∃ z, Hid (q * y = z) := ⟨_, Lib.hid rfl⟩
      have hzx : IntKind.i64.wrap (q * x) = zx := (wrap_mul hq0.1 hq0.2 hxb.1 (by omega)).trans HZX.out
      have hzy : IntKind.i64.wrap (q * y) = zy := (wrap_mul hq0.1 hq0.2 hxb.2.2.1 (by omega)).trans HZY.out
      have HLS : Hid (scl q (ps.take (k + 1)) = scl q (ps.take k) ++ [(zx, zy)]) := Lib.hid (by
        unfold scl
        rw [take_snoc HGK.out, List.map_append]
        simp [HZX.out, HZY.out])
      go_wp2
      refine wp_region_lastL (fun V => V.cell? ⟨ux, 1, none⟩ = some (.slice A' k c') ∧ V.cell? ⟨u1, 1, none⟩ = some (.slice (some ad) n c) ∧ V.cell? (ad.add (k * 2)) = some (.int .i64 x) ∧ V.cell? ⟨(ad.add (k * 2)).block, (ad.add (k * 2)).off + 1, none⟩ = some (.int .i64 y)) hmix rfl (by kernel_rfl) ⟨cS, c1, cx, cy⟩ (fun hS => ?_)
      simp only [List.dropLast_cons_cons, List.dropLast_singleton, List.length_cons, List.length_nil, Nat.reduceAdd]
      refine wpAnyH_take (i := 0) (v := ?_) rfl (by kernel_rfl) (by kernel_rfl) (by kernel_rfl) (fun _ _ _ h => h) (Or.inl ⟨by rfl, ?_⟩) hS ?_
      rotate_left
      · intro w hSw
        (try dsimp only at hSw)
        go_simp
        (try with_reducible rfl)
      try simp (maxSteps := 10000000) only [Act.put, List.setIfInBounds_toArray, List.set_cons_zero, List.set_cons_succ, List.getElem_toArray, List.getElem_cons_zero, List.getElem_cons_succ]
      refine wpAnyH_take (i := 1) (v := ?_) rfl (by kernel_rfl) (by kernel_rfl) (by kernel_rfl) (fun _ _ _ h => h) (Or.inl ⟨by rfl, ?_⟩) hS ?_
      rotate_left
      · intro w hSw
        (try dsimp only at hSw)
        go_simp
        (try with_reducible rfl)
      try simp (maxSteps := 10000000) only [Act.put, List.setIfInBounds_toArray, List.set_cons_zero, List.set_cons_succ, List.getElem_toArray, List.getElem_cons_zero, List.getElem_cons_succ]
      refine wpAnyH_take (i := 2) (v := ?_) rfl (by kernel_rfl) (by kernel_rfl) (by kernel_rfl) (fun _ _ _ h => h) (Or.inl ⟨by rfl, ?_⟩) hS ?_
      rotate_left
      · intro w hSw
        (try dsimp only at hSw)
        go_simp
        (try with_reducible rfl)
      try simp (maxSteps := 10000000) only [Act.put, List.setIfInBounds_toArray, List.set_cons_zero, List.set_cons_succ, List.getElem_toArray, List.getElem_cons_zero, List.getElem_cons_succ]
      refine wpAnyH_take (i := 3) (v := ?_) rfl (by kernel_rfl) (by kernel_rfl) (by kernel_rfl) (fun _ _ _ h => h) (Or.inl ⟨by rfl, ?_⟩) hS ?_
      rotate_left
      · intro w hSw
        (try dsimp only at hSw)
        go_simp
        (try with_reducible rfl)
      try simp (maxSteps := 10000000) only [Act.put, List.setIfInBounds_toArray, List.set_cons_zero, List.set_cons_succ, List.getElem_toArray, List.getElem_cons_zero, List.getElem_cons_succ]
      refine wpAnyH_take (i := 4) (v := ?_) rfl (by kernel_rfl) (by kernel_rfl) (by kernel_rfl) (fun _ _ _ h => h) (Or.inl ⟨by rfl, ?_⟩) hS ?_
      rotate_left
      · intro w hSw
        (try dsimp only at hSw)
        go_simp
        (try with_reducible rfl)
      try simp (maxSteps := 10000000) only [Act.put, List.setIfInBounds_toArray, List.set_cons_zero, List.set_cons_succ, List.getElem_toArray, List.getElem_cons_zero, List.getElem_cons_succ]
      refine wpAnyH_take (i := 5) (v := ?_) rfl (by kernel_rfl) (by kernel_rfl) (by kernel_rfl) (fun _ _ _ h => h) (Or.inl ⟨by rfl, ?_⟩) hS ?_
      rotate_left
      · intro w hSw
        (try dsimp only at hSw)
        go_simp
        (try with_reducible rfl)
      try simp (maxSteps := 10000000) only [Act.put, List.setIfInBounds_toArray, List.set_cons_zero, List.set_cons_succ, List.getElem_toArray, List.getElem_cons_zero, List.getElem_cons_succ]
      refine wpAnyH_take (i := 6) (v := ?_) rfl (by kernel_rfl) (by kernel_rfl) (by kernel_rfl) (fun _ _ _ h => h) (Or.inl ⟨by rfl, ?_⟩) hS ?_
      rotate_left
      · intro w hSw
        (try dsimp only at hSw)
        go_simp
        (try with_reducible rfl)
      try simp (maxSteps := 10000000) only [Act.put, List.setIfInBounds_toArray, List.set_cons_zero, List.set_cons_succ, List.getElem_toArray, List.getElem_cons_zero, List.getElem_cons_succ]
      refine wpAnyH_take (i := 7) (v := ?_) rfl (by kernel_rfl) (by kernel_rfl) (by kernel_rfl) (fun _ _ _ h => h) (Or.inl ⟨by rfl, ?_⟩) hS ?_
      rotate_left
      · intro w hSw
        (try dsimp only at hSw)
        go_simp
        (try with_reducible rfl)
      try simp (maxSteps := 10000000) only [Act.put, List.setIfInBounds_toArray, List.set_cons_zero, List.set_cons_succ, List.getElem_toArray, List.getElem_cons_zero, List.getElem_cons_succ]
      refine wpAnyH_take (i := 8) (v := ?_) rfl (by kernel_rfl) (by kernel_rfl) (by kernel_rfl) (fun _ _ _ h => h) (Or.inl ⟨by rfl, ?_⟩) hS ?_
      rotate_left
      · intro w hSw
        (try dsimp only at hSw)
        go_simp
        (try with_reducible rfl)
      try simp (maxSteps := 10000000) only [Act.put, List.setIfInBounds_toArray, List.set_cons_zero, List.set_cons_succ, List.getElem_toArray, List.getElem_cons_zero, List.getElem_cons_succ]
      refine wpAnyH_take (i := 9) (v := ?_) rfl (by kernel_rfl) (by kernel_rfl) (by kernel_rfl) (fun _ _ _ h => h) (Or.inl ⟨by rfl, ?_⟩) hS ?_
      rotate_left
      · intro w hSw
        (try dsimp only at hSw)
        go_simp
        (try with_reducible rfl)
      try simp (maxSteps := 10000000) only [Act.put, List.setIfInBounds_toArray, List.set_cons_zero, List.set_cons_succ, List.getElem_toArray, List.getElem_cons_zero, List.getElem_cons_succ]
      refine wpAnyH_take (i := 10) (v := ?_) rfl (by kernel_rfl) (by kernel_rfl) (by kernel_rfl) (fun _ _ _ h => h) (Or.inl ⟨by rfl, ?_⟩) hS ?_
      rotate_left
      · intro w hSw
        (try dsimp only at hSw)
        go_simp
        (try with_reducible rfl)
      try simp (maxSteps := 10000000) only [Act.put, List.setIfInBounds_toArray, List.set_cons_zero, List.set_cons_succ, List.getElem_toArray, List.getElem_cons_zero, List.getElem_cons_succ]
      refine wpAnyH_take (i := 11) (v := ?_) rfl (by kernel_rfl) (by kernel_rfl) (by kernel_rfl) (fun _ _ _ h => h) (Or.inl ⟨by rfl, ?_⟩) hS ?_
      rotate_left
      · intro w hSw
        (try dsimp only at hSw)
        go_simp
        (try with_reducible rfl)
      try simp (maxSteps := 10000000) only [Act.put, List.setIfInBounds_toArray, List.set_cons_zero, List.set_cons_succ, List.getElem_toArray, List.getElem_cons_zero, List.getElem_cons_succ]
      refine wpAnyH_take (i := 12) (v := ?_) rfl (by kernel_rfl) (by kernel_rfl) (by kernel_rfl) (fun _ _ _ h => h) (Or.inl ⟨by rfl, ?_⟩) hS ?_
      rotate_left
      · intro w hSw
        (try dsimp only at hSw)
        go_simp
        (try with_reducible rfl)
      try simp (maxSteps := 10000000) only [Act.put, List.setIfInBounds_toArray, List.set_cons_zero, List.set_cons_succ, List.getElem_toArray, List.getElem_cons_zero, List.getElem_cons_succ]
      refine wpAnyH_take (i := 13) (v := ?_) rfl (by kernel_rfl) (by kernel_rfl) (by kernel_rfl) (fun _ _ _ h => h) (Or.inl ⟨by rfl, ?_⟩) hS ?_
      rotate_left
      · intro w hSw
        (try dsimp only at hSw)
        go_simp
        (try with_reducible rfl)
      try simp (maxSteps := 10000000) only [Act.put, List.setIfInBounds_toArray, List.set_cons_zero, List.set_cons_succ, List.getElem_toArray, List.getElem_cons_zero, List.getElem_cons_succ]
      refine wpAnyH_take (i := 14) (v := ?_) rfl (by kernel_rfl) (by kernel_rfl) (by kernel_rfl) (fun _ _ _ h => h) (Or.inl ⟨by rfl, ?_⟩) hS ?_
      rotate_left
      · intro w hSw
        (try dsimp only at hSw)
        go_simp
        (try with_reducible rfl)
      try simp (maxSteps := 10000000) only [Act.put, List.setIfInBounds_toArray, List.set_cons_zero, List.set_cons_succ, List.getElem_toArray, List.getElem_cons_zero, List.getElem_cons_succ]
      refine wpAnyH_take (i := 15) (v := ?_) rfl (by kernel_rfl) (by kernel_rfl) (by kernel_rfl) (fun _ _ _ h => h) (Or.inl ⟨by rfl, ?_⟩) hS ?_
      rotate_left
      · intro w hSw
        (try dsimp only at hSw)
        go_simp
        (try with_reducible rfl)
      try simp (maxSteps := 10000000) only [Act.put, List.setIfInBounds_toArray, List.set_cons_zero, List.set_cons_succ, List.getElem_toArray, List.getElem_cons_zero, List.getElem_cons_succ]
      refine wpAnyH_take (i := 16) (v := ?_) rfl (by kernel_rfl) (by kernel_rfl) (by kernel_rfl) (fun _ _ _ h => h) (Or.inl ⟨by rfl, ?_⟩) hS ?_
      rotate_left
      · intro w hSw
        (try dsimp only at hSw)
        go_simp
        (try with_reducible rfl)
      try simp (maxSteps := 10000000) only [Act.put, List.setIfInBounds_toArray, List.set_cons_zero, List.set_cons_succ, List.getElem_toArray, List.getElem_cons_zero, List.getElem_cons_succ]
      refine wpAnyH_take (i := 17) (v := ?_) rfl (by kernel_rfl) (by kernel_rfl) (by kernel_rfl) (fun _ _ _ h => h) (Or.inl ⟨by rfl, ?_⟩) hS ?_
      rotate_left
      · intro w hSw
        (try dsimp only at hSw)
        go_simp
        (try with_reducible rfl)
      try simp (maxSteps := 10000000) only [Act.put, List.setIfInBounds_toArray, List.set_cons_zero, List.set_cons_succ, List.getElem_toArray, List.getElem_cons_zero, List.getElem_cons_succ]
      refine wpAnyH_take (i := 18) (v := ?_) rfl (by kernel_rfl) (by kernel_rfl) (by kernel_rfl) (fun _ _ _ h => h) (Or.inl ⟨by rfl, ?_⟩) hS ?_
      rotate_left
      · intro w hSw
        (try dsimp only at hSw)
        go_simp
        (try with_reducible rfl)
      try simp (maxSteps := 10000000) only [Act.put, List.setIfInBounds_toArray, List.set_cons_zero, List.set_cons_succ, List.getElem_toArray, List.getElem_cons_zero, List.getElem_cons_succ]
      refine wpAnyH_ready (rs := [19]) (by kernel_rfl) (by simp) ?_
      refine AllReadyH.cons rfl (fun K hK => ?_) AllReadyH.nil
      go_simp
      refine hK.out _ _ ⟨cell_old _ cS, cell_old _ c1, cell_old _ cx, cell_old _ cy⟩ (fun hS => ?_)
      clear hK K
      try simp (maxSteps := 10000000) only [Act.put, List.setIfInBounds_toArray, List.set_cons_zero, List.set_cons_succ, List.getElem_toArray, List.getElem_cons_zero, List.getElem_cons_succ]
      refine wpAnyH_ready (rs := [20]) (by kernel_rfl) (by simp) ?_
      refine AllReadyH.cons rfl (fun K hK => ?_) AllReadyH.nil
      have hnb := Bk.new wr 67 #[.int .i64 (zx), .int .i64 (zy)]
      refine step_stop rfl (.tmp 44) (.tmp 62) rfl (ux + 1) A' k c' (scl q (ps.take k)) rfl ((ho.alloc (.cells #[.int .i64 (zx), .int .i64 (zy)] 67)).drew) ⟨wr.heap.size, 0, none⟩ 1 (zx) (zy) rfl (hnb.cell 0) (hnb.cell 1) (by omega) (by show _ ≤ (wr.alloc _).heap.size; simp; omega) ?_
      intro g3 cap3 w3 ho3 hg3
      have hod := (ho.alloc (.cells #[.int .i64 (zx), .int .i64 (zy)] 67)).drew
      have h53 := ((hkx.alloc (.cells #[.int .i64 (zx), .int .i64 (zy)] 67)).drew).grown hg3 (hod.bk_ne ((hkx.alloc (.cells #[.int .i64 (zx), .int .i64 (zy)] 67)).drew) (by decide))
      have hAb : ∀ r, A'.map Addr.block = some r → ux ≤ r := fun r e => by have := (ho.lt r e).1; omega
      have hb3 : Below ux w2 w3 := (below_drewN (hb.alloc (by omega) (.cells #[.int .i64 (zx), .int .i64 (zy)] 67)) 1).grown hg3 (by simp; omega) hAb
      have hk13 := k1.below hb3 hux_l
      obtain ⟨ad', hA, _, cx3, cy3⟩ := (hux_p.below hb3).at2 hlt
      obtain rfl : ad = ad' := Option.some.inj hA
      rw [HX.out] at cx3
      rw [HY.out] at cy3
      refine hK.out _ _ ⟨h53.cell 1, hk13.cell 1, cx3, cy3⟩ (fun hS => ?_)
      clear hK K
      try simp (maxSteps := 10000000) only [Act.put, List.setIfInBounds_toArray, List.set_cons_zero, List.set_cons_succ, List.getElem_toArray, List.getElem_cons_zero, List.getElem_cons_succ]
      refine wpAnyH_take (i := 21) (v := ?_) rfl (by kernel_rfl) (by kernel_rfl) (by kernel_rfl) (fun _ _ _ h => h) (Or.inl ⟨by rfl, ?_⟩) hS ?_
      rotate_left
      · intro w hSw
        (try dsimp only at hSw)
        go_simp
        (try with_reducible rfl)
      try simp (maxSteps := 10000000) only [Act.put, List.setIfInBounds_toArray, List.set_cons_zero, List.set_cons_succ, List.getElem_toArray, List.getElem_cons_zero, List.getElem_cons_succ]
      have c53 := h53.cell 1
      have f53 := h53.frozen 1
      refine wpAnyH_done (by kernel_rfl) ?_ _
      unfold lastQ
      go_simp
      have h54 := h53.set_ 1 (.slice (some ⟨g3, 0, none⟩) (k + 1) cap3)
      have ho4 := ho3.setOther (p := ⟨ux, 1, none⟩) (ho3.bk_ne h53 (by decide)) (.slice (some ⟨g3, 0, none⟩) (k + 1) cap3)
      have hb4 := hb3.setCell (p := ⟨ux, 1, none⟩) (by simp) (.slice (some ⟨g3, 0, none⟩) (k + 1) cap3)
      clear hS c53 f53 cx3 cy3 cx cy c1 c0 cS
      go_wp2
      go_roundw
      case rel => exact ⟨k + 1, some ⟨g3, 0, none⟩, cap3, by omega, by go_num, h54, by rw [HLS.out]; exact ho4, hb4⟩
      case measure => simp [intOf]; omega
    · have hkn : n = k := by omega
      subst hkn
      obtain ⟨w3, hW⟩ : ∃ W : World, wr = W := ⟨_, rfl⟩
      rw [hW] at hkx ho hb ⊢
      clear hW c1 c0 cS hk1 hsz
      rw [← huux] at hb
      have Bw3 : Below w.heap.size w w3 := Bw2.trans (hb.mono Bw2.size)
      replace h_p := h_p.next hb (Nat.le_refl _) hb.size
      replace k1 := k1.below hb k1.lt
      clear Bw2
      clear hb
      have kx := hkx
      clear hkx
      have h_x := ho.rp
      have hcux := ho.cap
      clear ho
      have HLX : Hid (scl q (ps.take n) = scl q ps) := Lib.hid (by rw [List.take_of_length_le (by rw [HL.out]; exact Nat.le_refl _)])
      rw [HLX.out] at h_x
      obtain ⟨rx, HRX⟩ : ∃ r, Hid (decide (n ≤ 14 ∧ checkPier qb (scl q ps) = 0) = r) := ⟨_, Lib.hid rfl⟩
      have d_k1_0 := k1.cell 0
      have d_k1_1 := k1.cell 1
      have d_kx_0 := kx.cell 0
      have d_kx_1 := kx.cell 1
      go_wp2_with fail
      clear d_k1_0 d_k1_1 d_kx_0 d_kx_1
      refine (aFine qb _ n _ (scl q ps) _ h_x _ HRX).mono ?_
      rintro e w4 ⟨rfl, hb⟩
      have Bw4 : Below w.heap.size w w4 := Bw3.trans (hb.mono Bw3.size)
      replace h_p := h_p.next hb (Nat.le_refl _) hb.size
      replace k1 := k1.below hb k1.lt
      replace kx := kx.below hb kx.lt
      replace h_x := h_x.next hb (Nat.le_refl _) hb.size
      clear Bw3
      clear hb
      cases rx
      · have d_k1_0 := k1.cell 0
        have d_k1_1 := k1.cell 1
        have d_kx_0 := kx.cell 0
        have d_kx_1 := kx.cell 1
        go_wp2_with fail
        clear d_k1_0 d_k1_1 d_kx_0 d_kx_1
        refine (aWorks _).mono ?_
        rintro e w5 ⟨rfl, hb⟩
        have Bw5 : Below w.heap.size w w5 := Bw4.trans (hb.mono Bw4.size)
        replace h_p := h_p.next hb (Nat.le_refl _) hb.size
        replace k1 := k1.below hb k1.lt
        replace kx := kx.below hb kx.lt
        replace h_x := h_x.next hb (Nat.le_refl _) hb.size
        clear Bw4
        clear hb
        go_wp2
        go_ret
        exact ⟨rfl, Bw5⟩
      · have HPX : Hid (Pier qb (scl q ps)) := Lib.hid (checkPier_ok.1 (of_decide_eq_true HRX.out).2)
        have hq1 := hq0.1
        obtain ⟨s, HS⟩ : ∃ s, Hid (shortestS b ps = s) := ⟨_, Lib.hid rfl⟩
        obtain ⟨dl, HD⟩ : ∃ s, Hid (delayS b ps = s) := ⟨_, Lib.hid rfl⟩
        obtain ⟨wi, HW⟩ : ∃ s, Hid (withinS b ps (t : Int) = s) := ⟨_, Lib.hid rfl⟩
        obtain ⟨s2, HS2⟩ : ∃ s, Hid (shortestS qb (scl q ps) = s) := ⟨_, Lib.hid rfl⟩
        have HDE : Hid (dl.2 = 0) := Lib.hid (by rw [← HD.out]; unfold delayS; rw [if_pos (checkPier_ok.2 HP.out)])
        have HX1 : Hid (s2.2.1 = q * s.2.1 ∧ s2.2.2 = s.2.2) := Lib.hid (by
          have h := scl_shortest (c := q) (by omega) HP.out (by rw [HQB.out]; exact HPX.out)
          rw [HQB.out, HS2.out, HS.out] at h
          rw [h]
          exact ⟨rfl, rfl⟩)
        have HX2 : Hid (delayS qb (scl q ps) = (q * dl.1, dl.2)) := Lib.hid (by
          have h := scl_delay (c := q) (by omega) HP.out (by rw [HQB.out]; exact HPX.out)
          rw [HQB.out, HD.out] at h
          exact h)
        have HX3 : Hid (withinS qb (scl q ps) (t : Int) = (q * wi.1, q * wi.2.1, wi.2.2)) := Lib.hid (by
          have h := scl_within (c := q) (by omega) HP.out (by rw [HQB.out]; exact HPX.out) (t : Int)
          rw [HQB.out, HW.out] at h
          exact h)
        have hsb := shortest_bd HP.out
        have hdb := delay_bd HP.out
        have hwb := within_bd2 HP.out (t : Int)
        rw [HS.out] at hsb
        rw [HD.out] at hdb
        rw [HW.out] at hwb
        obtain ⟨sl, s0, se⟩ := s
        obtain ⟨d0, de⟩ := dl
        obtain ⟨lo, hi, we⟩ := wi
        obtain ⟨s2l, s20, s2e⟩ := s2
        simp only at hsb hdb hwb HX1 HX2 HX3 HDE
        obtain ⟨h1, h2⟩ := HX1.out
        subst h1 h2
        have hde := HDE.out
        subst hde
        clear HDE HX1
        have d_k1_0 := k1.cell 0
        have d_k1_1 := k1.cell 1
        have d_kx_0 := kx.cell 0
        have d_kx_1 := kx.cell 1
        go_wp2_with fail
        clear d_k1_0 d_k1_1 d_kx_0 d_kx_1
        refine (fShortest b A n c ps _ h_p (by omega) hc _ HS).mono ?_
        rintro e w5 ⟨rfl, hb⟩
        have Bw5 : Below w.heap.size w w5 := Bw4.trans (hb.mono Bw4.size)
        replace h_p := h_p.next hb (Nat.le_refl _) hb.size
        replace k1 := k1.below hb k1.lt
        replace kx := kx.below hb kx.lt
        replace h_x := h_x.next hb (Nat.le_refl _) hb.size
        clear Bw4
        clear hb
        have d_k1_0 := k1.cell 0
        have d_k1_1 := k1.cell 1
        have d_kx_0 := kx.cell 0
        have d_kx_1 := kx.cell 1
        go_wp2_with fail
        clear d_k1_0 d_k1_1 d_kx_0 d_kx_1
        refine (fShortest qb _ n _ (scl q ps) _ h_x (by omega) hcux _ HS2).mono ?_
        rintro e w6 ⟨rfl, hb⟩
        have Bw6 : Below w.heap.size w w6 := Bw5.trans (hb.mono Bw5.size)
        replace h_p := h_p.next hb (Nat.le_refl _) hb.size
        replace k1 := k1.below hb k1.lt
        replace kx := kx.below hb kx.lt
        replace h_x := h_x.next hb (Nat.le_refl _) hb.size
        clear Bw5
        clear hb
        have d_k1_0 := k1.cell 0
        have d_k1_1 := k1.cell 1
        have d_kx_0 := kx.cell 0
        have d_kx_1 := kx.cell 1
        go_wp2_with fail
        clear d_k1_0 d_k1_1 d_kx_0 d_kx_1
        refine (fDelay b A n c ps _ h_p (by omega) hc _ HD).mono ?_
        rintro e w7 ⟨rfl, hb⟩
        have Bw7 : Below w.heap.size w w7 := Bw6.trans (hb.mono Bw6.size)
        replace h_p := h_p.next hb (Nat.le_refl _) hb.size
        replace k1 := k1.below hb k1.lt
        replace kx := kx.below hb kx.lt
        replace h_x := h_x.next hb (Nat.le_refl _) hb.size
        clear Bw6
        clear hb
        have d_k1_0 := k1.cell 0
        have d_k1_1 := k1.cell 1
        have d_kx_0 := kx.cell 0
        have d_kx_1 := kx.cell 1
        go_wp2_with fail
        clear d_k1_0 d_k1_1 d_kx_0 d_kx_1
        refine (fDelay qb _ n _ (scl q ps) _ h_x (by omega) hcux _ HX2).mono ?_
        rintro e w8 ⟨rfl, hb⟩
        have Bw8 : Below w.heap.size w w8 := Bw7.trans (hb.mono Bw7.size)
        replace h_p := h_p.next hb (Nat.le_refl _) hb.size
        replace k1 := k1.below hb k1.lt
        replace kx := kx.below hb kx.lt
        replace h_x := h_x.next hb (Nat.le_refl _) hb.size
        clear Bw7
        clear hb
        have d_k1_0 := k1.cell 0
        have d_k1_1 := k1.cell 1
        have d_kx_0 := kx.cell 0
        have d_kx_1 := kx.cell 1
        go_wp2_with fail
        clear d_k1_0 d_k1_1 d_kx_0 d_kx_1
        refine (fWithinR b A n c ps _ (t : Int) h_p (by omega) hc _ HW).mono ?_
        rintro e w9 ⟨rfl, hb⟩
        have Bw9 : Below w.heap.size w w9 := Bw8.trans (hb.mono Bw8.size)
        replace h_p := h_p.next hb (Nat.le_refl _) hb.size
        replace k1 := k1.below hb k1.lt
        replace kx := kx.below hb kx.lt
        replace h_x := h_x.next hb (Nat.le_refl _) hb.size
        clear Bw8
        clear hb
        have d_k1_0 := (k1.alloc (.cells #[.int .i64 lo, .int .i64 hi] 43)).cell 0
        have d_k1_1 := (k1.alloc (.cells #[.int .i64 lo, .int .i64 hi] 43)).cell 1
        have d_kx_0 := (kx.alloc (.cells #[.int .i64 lo, .int .i64 hi] 43)).cell 0
        have d_kx_1 := (kx.alloc (.cells #[.int .i64 lo, .int .i64 hi] 43)).cell 1
        have d_k3_0 := (Bk.new w9 43 #[.int .i64 lo, .int .i64 hi]).cell 0
        have d_k3_1 := (Bk.new w9 43 #[.int .i64 lo, .int .i64 hi]).cell 1
        go_wp2_with fail
        clear d_k1_0 d_k1_1 d_kx_0 d_kx_1 d_k3_0 d_k3_1
        have k3 := Bk.new w9 43 #[.int .i64 lo, .int .i64 hi]
        have hb : Below w9.heap.size w9 (w9.alloc (.cells #[.int .i64 lo, .int .i64 hi] 43)) := (Below.refl _ _).alloc (Nat.le_refl _) _
        obtain ⟨u3, hu⟩ : ∃ k, w9.heap.size = k := ⟨_, rfl⟩
        obtain ⟨w10, hW⟩ : ∃ W, w9.alloc (.cells #[.int .i64 lo, .int .i64 hi] 43) = W := ⟨_, rfl⟩
        rw [hW] at k3 hb ⊢
        rw [hu] at k3 ⊢
        clear hW
        have Bw10 : Below w.heap.size w w10 := Bw9.trans (hb.mono Bw9.size)
        replace h_p := h_p.next hb (Nat.le_refl _) hb.size
        replace k1 := k1.below hb k1.lt
        replace kx := kx.below hb kx.lt
        replace h_x := h_x.next hb (Nat.le_refl _) hb.size
        clear Bw9
        clear hb
        clear hu
        refine (fWithinR qb _ n _ (scl q ps) _ (t : Int) h_x (by omega) hcux _ HX3).mono ?_
        rintro e w11 ⟨rfl, hb⟩
        have Bw11 : Below w.heap.size w w11 := Bw10.trans (hb.mono Bw10.size)
        replace h_p := h_p.next hb (Nat.le_refl _) hb.size
        replace k1 := k1.below hb k1.lt
        replace kx := kx.below hb kx.lt
        replace h_x := h_x.next hb (Nat.le_refl _) hb.size
        replace k3 := k3.below hb k3.lt
        clear Bw10
        clear hb
        have hw1 : IntKind.i64.wrap (q * s0) = q * s0 := wrap_mul hq0.1 hq0.2 hsb.1 (by omega)
        have hw2 : IntKind.i64.wrap (q * d0) = q * d0 := wrap_mul2 hq0.1 hq0.2 (by omega) (by omega)
        have hw3 : IntKind.i64.wrap (q * lo) = q * lo := wrap_mul2 hq0.1 hq0.2 (by omega) (by omega)
        have hw4 : IntKind.i64.wrap (q * hi) = q * hi := wrap_mul2 hq0.1 hq0.2 (by omega) (by omega)
        have d_k1_0 := (k1.alloc (.cells #[.int .i64 (q * lo), .int .i64 (q * hi)] 43)).cell 0
        have d_k1_1 := (k1.alloc (.cells #[.int .i64 (q * lo), .int .i64 (q * hi)] 43)).cell 1
        have d_kx_0 := (kx.alloc (.cells #[.int .i64 (q * lo), .int .i64 (q * hi)] 43)).cell 0
        have d_kx_1 := (kx.alloc (.cells #[.int .i64 (q * lo), .int .i64 (q * hi)] 43)).cell 1
        have d_k3_0 := (k3.alloc (.cells #[.int .i64 (q * lo), .int .i64 (q * hi)] 43)).cell 0
        have d_k3_1 := (k3.alloc (.cells #[.int .i64 (q * lo), .int .i64 (q * hi)] 43)).cell 1
        have d_k4_0 := (Bk.new w11 43 #[.int .i64 (q * lo), .int .i64 (q * hi)]).cell 0
        have d_k4_1 := (Bk.new w11 43 #[.int .i64 (q * lo), .int .i64 (q * hi)]).cell 1
        go_wp2_with fail
        clear d_k1_0 d_k1_1 d_kx_0 d_kx_1 d_k3_0 d_k3_1 d_k4_0 d_k4_1
        have k4 := Bk.new w11 43 #[.int .i64 (q * lo), .int .i64 (q * hi)]
        have hb : Below w11.heap.size w11 (w11.alloc (.cells #[.int .i64 (q * lo), .int .i64 (q * hi)] 43)) := (Below.refl _ _).alloc (Nat.le_refl _) _
        obtain ⟨u4, hu⟩ : ∃ k, w11.heap.size = k := ⟨_, rfl⟩
        obtain ⟨w12, hW⟩ : ∃ W, w11.alloc (.cells #[.int .i64 (q * lo), .int .i64 (q * hi)] 43) = W := ⟨_, rfl⟩
        rw [hW] at k4 hb ⊢
        rw [hu] at k4 ⊢
        clear hW
        have Bw12 : Below w.heap.size w w12 := Bw11.trans (hb.mono Bw11.size)
        replace h_p := h_p.next hb (Nat.le_refl _) hb.size
        replace k1 := k1.below hb k1.lt
        replace kx := kx.below hb kx.lt
        replace h_x := h_x.next hb (Nat.le_refl _) hb.size
        replace k3 := k3.below hb k3.lt
        clear Bw11
        clear hb
        clear hu
        refine (aWorks _).mono ?_
        rintro e w13 ⟨rfl, hb⟩
        have Bw13 : Below w.heap.size w w13 := Bw12.trans (hb.mono Bw12.size)
        replace h_p := h_p.next hb (Nat.le_refl _) hb.size
        replace k1 := k1.below hb k1.lt
        replace kx := kx.below hb kx.lt
        replace h_x := h_x.next hb (Nat.le_refl _) hb.size
        replace k3 := k3.below hb k3.lt
        replace k4 := k4.below hb k4.lt
        clear Bw12
        clear hb
        go_wp2
        go_ret
        exact ⟨rfl, Bw13⟩

set_option maxRecDepth 100000 in
theorem RoundScaled_lifted (os : Go.Os) (started : os.Started) (H : Type) (enc : TypeId × Value → H) :
    ReturnsInHanded {} Try.checked os 15 .any (Rows.roundScaledSpec.pre6 enc Try.prog Try.f15 Rows.roundScaledRow.domain false) (Rows.roundScaledSpec.post enc Try.prog Try.f15 false true false false) := by
  refine returnsInHanded_of_change (C := Try.checked) row_own started (by kernel_rfl) Try.func15
    (ChangeSpec.witness6 (enc := enc) (C := Try.checked) false ⟨#[], #[.agg #[.int .i64 0, .slice none 0 0], .int .u8 0, .int .u8 0], []⟩ 8 (by kernel_rfl) (by kernel_rfl) (by kernel_rfl) (by kernel_rfl)) ?_
  intro W base args ds gs before hval0 hW _ _
  have hval : ∀ (j : Nat) t v, Try.f15.params[j]? = some t → args[j]? = some v → Value.okWide Try.prog W .any base t v := hval0
  have hW' := hW
  obtain ⟨p, q, hA0, hV, rfl, _, _⟩ := hW
  have hA : DataW.TrodAll enc Try.prog W 0 (fun _ => true) true Try.f15.params.toList args.toList ds p := hA0
  rw [Try.params15] at hA hval
  obtain ⟨v0, v1, v2, d0, d1, d2, p0, p1, p2, rfl, rfl, rfl, h0, h1, h2⟩ := trodAll_three hA
  obtain ⟨rfl, rfl⟩ := trodVars_none hV
  clear hA0 hval0
  simp only [List.append_nil] at hW'
  have hlt : ∀ x ∈ (p0 ++ p1 ++ p2), x.block < W.heap.size := fun x hx => by simpa using hW'.lt x hx
  have a0 := fun W' (hb : Below W.heap.size W W') => row_stays (t := 24) (by kernel_rfl) (of_decide_eq_true (by kernel_rfl)) h0 (fun x hx => hlt x (by simp [hx])) hb
  have a1 := fun W' (hb : Below W.heap.size W W') => row_stays (t := 5) (by kernel_rfl) (of_decide_eq_true (by kernel_rfl)) h1 (fun x hx => hlt x (by simp [hx])) hb
  have a2 := fun W' (hb : Below W.heap.size W W') => row_stays (t := 5) (by kernel_rfl) (of_decide_eq_true (by kernel_rfl)) h2 (fun x hx => hlt x (by simp [hx])) hb
  obtain ⟨b0, A0, n0, c0, ps0, rfl, hc0, hm0, hx0⟩ := row_pier (hval 0 24 v0 rfl rfl) h0 (fun x hx => hlt x (by simp [hx]))
  obtain ⟨x1, rfl, _, _, wx1⟩ := open_int (P := Try.prog) (k := .u8) (t := 5) (by kernel_rfl) (hval 1 5 v1 rfl rfl) h1
  obtain ⟨x2, rfl, _, _, wx2⟩ := open_int (P := Try.prog) (k := .u8) (t := 5) (by kernel_rfl) (hval 2 5 v2 rfl rfl) h2
  refine (wScaled b0 A0 n0 c0 ps0 x1 x2 (u8_lo wx1) (u8_hi wx1) (u8_lo wx2) (u8_hi wx2) W hx0 hc0).mono fun e W' ⟨he, hb⟩ => ?_
  subst he
  exact ⟨_, rfl, _, _, _, [], (p0 ++ p1 ++ p2), [], hW', trodAll_mk1 (shut_bool Try.underlying4 true), (by simp only [List.append_assoc]; exact trodAll_mk3 (a0 _ hb) (a1 _ hb) (a2 _ hb)), rfl, hb.frame _, fun h => by cases h⟩
theorem RoundScaled_holds : Rows.RoundScaledSaid :=
  OpenClaim.holds_of_wide 15 Try.f15 rfl rfl rfl rfl rfl rfl rfl ⟨rfl, rfl, rfl, rfl, rfl⟩ rfl rfl rfl rfl rfl (by kernel_rfl) Try.func15 (by kernel_rfl)
    (of_decide_eq_true (by kernel_rfl)) (by unfold Func.isWrapper; first | (rw [if_pos (by decide +kernel)]; kernel_rfl) | (rw [if_neg (by decide +kernel)]; exact ⟨rfl, rfl⟩))
    (fun os started H enc _ => RoundScaled_lifted os started H enc)
#print axioms RoundScaled_holds
end Go.Proofs.Ytaekjnjignlmoaa
