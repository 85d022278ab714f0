/-
  RoundTurned: if the pier is seen from its other end, steps and counts stay; if all places are moved along the pier by as much, nothing changes: for every pier, every stop and every number of places; no condition.
-/
import Derived.Test.YtaekjnjignlmoaaWorks
import Derived.Test.YtaekjnjignlmoaaRowP
import Derived.Test.YtaekjnjignlmoaaAl
import Derived.Test.YtaekjnjignlmoaaLp
namespace Go.Proofs.Ytaekjnjignlmoaa
open Go.Shelf Go.ChangeShapes Go.WideShapes Go.ChangeAt Go.RowKit

set_option maxRecDepth 100000 in
set_option maxHeartbeats 8000000 in
theorem wTurned (b : Int) (A : Option Addr) (n c : Nat) (ps : List (Int × Int)) (y0 fr : Int) (hy0 : 0 ≤ y0) (hy1 : y0 ≤ 255) (hf0 : 0 ≤ fr) (hf1 : fr ≤ 65535) (w : World) (hx : Rp w w.heap.size A n ps) (hc : n ≤ c) :
    Calls Try.prog 12 #[.agg #[.int .i64 b, .slice A n c], .int .u8 y0, .int .u16 fr] w (RetB w true) := by
  have h_p := hx
  by_cases hf : n ≤ 14 ∧ checkPier b ps = 0
  rotate_left
  · have HF : Hid (decide (n ≤ 14 ∧ checkPier b ps = 0) = false) := Lib.hid (decide_eq_false hf)
    have k1 := Bk.new w 24 #[.int .i64 b, .slice A n c]
    have hb : Below w.heap.size w (w.alloc (.cells #[.int .i64 b, .slice A n c] 24)) := (Below.refl _ _).alloc (Nat.le_refl _) _
    have d0 := k1.cell 0
    have d1 := k1.cell 1
    go_enter Try.func12, Try.ntmps12
    go_wp2_with fail
    clear d0 d1
    obtain ⟨u1, hu⟩ : ∃ k, w.heap.size = k := ⟨_, rfl⟩
    obtain ⟨w1, hW⟩ : ∃ W, w.alloc (.cells #[.int .i64 b, .slice A n c] 24) = W := ⟨_, rfl⟩
    rw [hW] at k1 hb ⊢
    rw [hu] at k1 ⊢
    clear hW hu
    have Bw1 : Below w.heap.size w w1 := hb
    replace h_p := h_p.next hb (Nat.le_refl _) hb.size
    clear hb
    refine (aFine b A n c ps _ h_p _ HF).mono ?_
    rintro e w2 ⟨rfl, hb⟩
    have Bw2 : Below w.heap.size w w2 := Bw1.trans (hb.mono Bw1.size)
    replace h_p := h_p.next hb (Nat.le_refl _) hb.size
    replace k1 := k1.below hb k1.lt
    clear Bw1
    clear hb
    have d_k1_0 := k1.cell 0
    have d_k1_1 := k1.cell 1
    go_wp2_with fail
    clear d_k1_0 d_k1_1
    refine (aWorks _).mono ?_
    rintro e w3 ⟨rfl, hb⟩
    have Bw3 : Below w.heap.size w w3 := Bw2.trans (hb.mono Bw2.size)
    replace h_p := h_p.next hb (Nat.le_refl _) hb.size
    replace k1 := k1.below hb k1.lt
    clear Bw2
    clear hb
    go_wp2
    go_ret
    exact ⟨rfl, Bw3⟩
  have HF : Hid (decide (n ≤ 14 ∧ checkPier b ps = 0) = true) := Lib.hid (decide_eq_true hf)
  have HP : Hid (Pier b ps) := Lib.hid (checkPier_ok.1 hf.2)
  have HL := Lib.hid hx.len
  have hn1 : 1 ≤ n := by rw [← HL.out]; exact HP.out.lo
  have hn10 : n ≤ 10 := by rw [← HL.out]; exact HP.out.hi
  clear hf
  have hmix : Try.prog.follows .mixedOrders = true := by kernel_rfl
  have hbb := HP.out.begin_
  obtain ⟨rb, HRB⟩ : ∃ z, Hid (1000 - b = z) := ⟨_, Lib.hid rfl⟩
  have hrb : IntKind.i64.wrap (1000 - b) = rb := (IntWalk.i64_in _ (by omega)).trans HRB.out
  obtain ⟨fb, HFB⟩ : ∃ z, Hid (b + fr = z) := ⟨_, Lib.hid rfl⟩
  have hfb : IntKind.i64.wrap (b + fr) = fb := (IntWalk.i64_in _ (by omega)).trans HFB.out
  have hwf : IntKind.i64.wrap fr = fr := IntWalk.i64_in _ (by omega)
  obtain ⟨t, HT⟩ : ∃ t : Nat, Hid (y0 % (n : Int) = (t : Int)) := ⟨(y0 % (n : Int)).toNat, Lib.hid (by have := Int.emod_nonneg y0 (b := (n : Int)) (by omega); omega)⟩
  have ht3 : y0.tmod (n : Int) = (t : Int) := (Int.tmod_eq_emod_of_nonneg hy0).trans HT.out
  have ht4 : y0 % (n : Int) = (t : Int) := HT.out
  have htn : t < n := by have := Int.emod_lt_of_pos y0 (b := (n : Int)) (by omega); have := HT.out; omega
  have hn0 : ¬ n = 0 := by omega
  have hwy : IntKind.i64.wrap y0 = y0 := IntWalk.i64_in _ (by omega)
  obtain ⟨nm, HNM⟩ : ∃ z : Int, Hid ((n : Int) - 1 = z) := ⟨_, Lib.hid rfl⟩
  have hwn : IntKind.i64.wrap ((n : Int) - 1) = nm := (IntWalk.i64_in _ (by omega)).trans HNM.out
  have hnm : 0 ≤ nm ∧ nm ≤ 9 := by have := HNM.out; omega
  obtain ⟨tv, HTV⟩ : ∃ z : Int, Hid (nm - (t : Int) = z) := ⟨_, Lib.hid rfl⟩
  have hwt : IntKind.i64.wrap (nm - (t : Int)) = tv := (IntWalk.i64_in _ (by omega)).trans HTV.out
  have k1 := Bk.new w 24 #[.int .i64 b, .slice A n c]
  have hb : Below w.heap.size w (w.alloc (.cells #[.int .i64 b, .slice A n c] 24)) := (Below.refl _ _).alloc (Nat.le_refl _) _
  have d0 := k1.cell 0
  have d1 := k1.cell 1
  go_enter Try.func12, Try.ntmps12
  go_wp2_with fail
  clear d0 d1
  obtain ⟨u1, hu⟩ : ∃ k, w.heap.size = k := ⟨_, rfl⟩
  obtain ⟨w1, hW⟩ : ∃ W, w.alloc (.cells #[.int .i64 b, .slice A n c] 24) = W := ⟨_, rfl⟩
  rw [hW] at k1 hb ⊢
  rw [hu] at k1 ⊢
  clear hW hu
  have Bw1 : Below w.heap.size w w1 := hb
  replace h_p := h_p.next hb (Nat.le_refl _) hb.size
  clear hb
  refine (aFine b A n c ps _ h_p _ HF).mono ?_
  rintro e w2 ⟨rfl, hb⟩
  have Bw2 : Below w.heap.size w w2 := Bw1.trans (hb.mono Bw1.size)
  replace h_p := h_p.next hb (Nat.le_refl _) hb.size
  replace k1 := k1.below hb k1.lt
  clear Bw1
  clear hb
  have d_k1_0 := k1.cell 0
  have d_k1_1 := k1.cell 1
  go_wp2
  clear d_k1_0 d_k1_1
  have kx := Bk.new w2 24 #[.int .i64 rb, .slice none 0 0]
  have hbx : Below w2.heap.size w2 (w2.alloc (.cells #[.int .i64 rb, .slice none 0 0] 24)) := (Below.refl _ _).alloc (Nat.le_refl _) _
  obtain ⟨ux, huux⟩ : ∃ k, w2.heap.size = k := ⟨_, rfl⟩
  rw [huux] at kx hbx ⊢
  have hux_p := h_p
  have hux_l := k1.lt
  rw [huux] at hux_p hux_l
  go_loopw [10] (fun i wr => ∃ (k : Nat) (A' : Option Addr) (c' : Nat), k ≤ n ∧ i = .int .i64 ((n : Int) - 1 - (k : Int)) ∧ Bk wr ux 24 #[.int .i64 rb, .slice A' k c'] ∧ Os wr (ux + 1) A' k c' ((rev ps).take k) ∧ Below ux w2 wr) (fun i _ => (intOf i + 1).toNat)
  case atStart => exact ⟨0, none, 0, Nat.zero_le _, by rw [← HNM.out]; simp, kx, Os.nil_ _ _, hbx⟩
  case round =>
    clear kx hbx
    obtain ⟨k, A', c', hk, rfl, hkx, ho, hb⟩ := hrel
    have hsz : ux + 1 ≤ wr.heap.size := by have := hkx.lt; omega
    have hk1 := k1.below hb hux_l
    have c1 : wr.cell? ⟨u1, 1, none⟩ = some (.slice A n c) := hk1.cell 1
    have c0 : wr.cell? ⟨u1, 0, none⟩ = some (.int .i64 b) := hk1.cell 0
    have cS : wr.cell? ⟨ux, 1, none⟩ = some (.slice A' k c') := hkx.cell 1
    by_cases hlt : k < n
    · obtain ⟨j, HJ⟩ : ∃ j : Nat, Hid ((n : Int) - 1 - (k : Int) = (j : Int)) := ⟨n - 1 - k, Lib.hid (by omega)⟩
      rw [HJ.out]
      have hjn : j < n := by have := HJ.out; omega
      obtain ⟨jm, HJM⟩ : ∃ z : Int, Hid ((j : Int) - 1 = z) := ⟨_, Lib.hid rfl⟩
      have hwj : IntKind.i64.wrap ((j : Int) - 1) = jm := (IntWalk.i64_in _ (by omega)).trans HJM.out
      obtain ⟨ad, rfl, hadb, cx, cy⟩ := (hux_p.below hb).at2 hjn
      obtain ⟨x, HX⟩ : ∃ x, Hid (plc ps j = x) := ⟨_, Lib.hid rfl⟩
      obtain ⟨y, HY⟩ : ∃ y, Hid (too ps j = y) := ⟨_, Lib.hid rfl⟩
      have hxb := HP.out.at_ j
      rw [HX.out] at cx hxb
      rw [HY.out] at cy hxb
      have HGK : Hid (ps[j]? = some (x, y)) := Lib.hid (by
        have hk2 : j < ps.length := by rw [HL.out]; exact hjn
        have := plc_some (List.getElem?_eq_getElem hk2)
        rw [HX.out, HY.out] at this
        rw [List.getElem?_eq_getElem hk2]
        exact congrArg some (Prod.ext this.1.symm this.2.symm))
      obtain ⟨zx, HZX⟩ : ∃ z, Hid (1000 - x = z) := ⟨_, Lib.hid rfl⟩
      have hzx : IntKind.i64.wrap (1000 - x) = zx := (IntWalk.i64_in _ (by omega)).trans HZX.out
      have HLS : Hid ((rev ps).take (k + 1) = (rev ps).take k ++ [(zx, y)]) := Lib.hid (by
        have hr : (rev ps)[k]? = some (zx, y) := by
          unfold rev
          rw [List.getElem?_map, List.getElem?_reverse (by rw [HL.out]; exact hlt), show ps.length - 1 - k = j from by have := HJ.out; rw [HL.out]; omega, HGK.out]
          simp [HZX.out]
        exact take_snoc hr)
      go_wp2
      refine wp_region_lastL (fun V => V.cell? ⟨ux, 1, none⟩ = some (.slice A' k c') ∧ V.cell? ⟨u1, 1, none⟩ = some (.slice (some ad) n c) ∧ V.cell? (ad.add (j * 2)) = some (.int .i64 x) ∧ V.cell? ⟨(ad.add (j * 2)).block, (ad.add (j * 2)).off + 1, none⟩ = some (.int .i64 y)) hmix rfl (by kernel_rfl) ⟨cS, c1, cx, cy⟩ (fun hS => ?_)
      simp only [List.dropLast_cons_cons, List.dropLast_singleton, List.length_cons, List.length_nil, Nat.reduceAdd]
      refine wpAnyH_take (i := 0) (v := ?_) rfl (by kernel_rfl) (by kernel_rfl) (by kernel_rfl) (fun _ _ _ h => h) (Or.inl ⟨by rfl, ?_⟩) hS ?_
      rotate_left
      · intro w hSw
        (try dsimp only at hSw)
        go_simp
        (try with_reducible rfl)
      try simp (maxSteps := 10000000) only [Act.put, List.setIfInBounds_toArray, List.set_cons_zero, List.set_cons_succ, List.getElem_toArray, List.getElem_cons_zero, List.getElem_cons_succ]
      refine wpAnyH_take (i := 1) (v := ?_) rfl (by kernel_rfl) (by kernel_rfl) (by kernel_rfl) (fun _ _ _ h => h) (Or.inl ⟨by rfl, ?_⟩) hS ?_
      rotate_left
      · intro w hSw
        (try dsimp only at hSw)
        go_simp
        (try with_reducible rfl)
      try simp (maxSteps := 10000000) only [Act.put, List.setIfInBounds_toArray, List.set_cons_zero, List.set_cons_succ, List.getElem_toArray, List.getElem_cons_zero, List.getElem_cons_succ]
      refine wpAnyH_take (i := 2) (v := ?_) rfl (by kernel_rfl) (by kernel_rfl) (by kernel_rfl) (fun _ _ _ h => h) (Or.inl ⟨by rfl, ?_⟩) hS ?_
      rotate_left
      · intro w hSw
        (try dsimp only at hSw)
        go_simp
        (try with_reducible rfl)
      try simp (maxSteps := 10000000) only [Act.put, List.setIfInBounds_toArray, List.set_cons_zero, List.set_cons_succ, List.getElem_toArray, List.getElem_cons_zero, List.getElem_cons_succ]
      refine wpAnyH_take (i := 3) (v := ?_) rfl (by kernel_rfl) (by kernel_rfl) (by kernel_rfl) (fun _ _ _ h => h) (Or.inl ⟨by rfl, ?_⟩) hS ?_
      rotate_left
      · intro w hSw
        (try dsimp only at hSw)
        go_simp
        (try with_reducible rfl)
      try simp (maxSteps := 10000000) only [Act.put, List.setIfInBounds_toArray, List.set_cons_zero, List.set_cons_succ, List.getElem_toArray, List.getElem_cons_zero, List.getElem_cons_succ]
      refine wpAnyH_take (i := 4) (v := ?_) rfl (by kernel_rfl) (by kernel_rfl) (by kernel_rfl) (fun _ _ _ h => h) (Or.inl ⟨by rfl, ?_⟩) hS ?_
      rotate_left
      · intro w hSw
        (try dsimp only at hSw)
        go_simp
        (try with_reducible rfl)
      try simp (maxSteps := 10000000) only [Act.put, List.setIfInBounds_toArray, List.set_cons_zero, List.set_cons_succ, List.getElem_toArray, List.getElem_cons_zero, List.getElem_cons_succ]
      refine wpAnyH_take (i := 5) (v := ?_) rfl (by kernel_rfl) (by kernel_rfl) (by kernel_rfl) (fun _ _ _ h => h) (Or.inl ⟨by rfl, ?_⟩) hS ?_
      rotate_left
      · intro w hSw
        (try dsimp only at hSw)
        go_simp
        (try with_reducible rfl)
      try simp (maxSteps := 10000000) only [Act.put, List.setIfInBounds_toArray, List.set_cons_zero, List.set_cons_succ, List.getElem_toArray, List.getElem_cons_zero, List.getElem_cons_succ]
      refine wpAnyH_take (i := 6) (v := ?_) rfl (by kernel_rfl) (by kernel_rfl) (by kernel_rfl) (fun _ _ _ h => h) (Or.inl ⟨by rfl, ?_⟩) hS ?_
      rotate_left
      · intro w hSw
        (try dsimp only at hSw)
        go_simp
        (try with_reducible rfl)
      try simp (maxSteps := 10000000) only [Act.put, List.setIfInBounds_toArray, List.set_cons_zero, List.set_cons_succ, List.getElem_toArray, List.getElem_cons_zero, List.getElem_cons_succ]
      refine wpAnyH_take (i := 7) (v := ?_) rfl (by kernel_rfl) (by kernel_rfl) (by kernel_rfl) (fun _ _ _ h => h) (Or.inl ⟨by rfl, ?_⟩) hS ?_
      rotate_left
      · intro w hSw
        (try dsimp only at hSw)
        go_simp
        (try with_reducible rfl)
      try simp (maxSteps := 10000000) only [Act.put, List.setIfInBounds_toArray, List.set_cons_zero, List.set_cons_succ, List.getElem_toArray, List.getElem_cons_zero, List.getElem_cons_succ]
      refine wpAnyH_take (i := 8) (v := ?_) rfl (by kernel_rfl) (by kernel_rfl) (by kernel_rfl) (fun _ _ _ h => h) (Or.inl ⟨by rfl, ?_⟩) hS ?_
      rotate_left
      · intro w hSw
        (try dsimp only at hSw)
        go_simp
        (try with_reducible rfl)
      try simp (maxSteps := 10000000) only [Act.put, List.setIfInBounds_toArray, List.set_cons_zero, List.set_cons_succ, List.getElem_toArray, List.getElem_cons_zero, List.getElem_cons_succ]
      refine wpAnyH_take (i := 9) (v := ?_) rfl (by kernel_rfl) (by kernel_rfl) (by kernel_rfl) (fun _ _ _ h => h) (Or.inl ⟨by rfl, ?_⟩) hS ?_
      rotate_left
      · intro w hSw
        (try dsimp only at hSw)
        go_simp
        (try with_reducible rfl)
      try simp (maxSteps := 10000000) only [Act.put, List.setIfInBounds_toArray, List.set_cons_zero, List.set_cons_succ, List.getElem_toArray, List.getElem_cons_zero, List.getElem_cons_succ]
      refine wpAnyH_take (i := 10) (v := ?_) rfl (by kernel_rfl) (by kernel_rfl) (by kernel_rfl) (fun _ _ _ h => h) (Or.inl ⟨by rfl, ?_⟩) hS ?_
      rotate_left
      · intro w hSw
        (try dsimp only at hSw)
        go_simp
        (try with_reducible rfl)
      try simp (maxSteps := 10000000) only [Act.put, List.setIfInBounds_toArray, List.set_cons_zero, List.set_cons_succ, List.getElem_toArray, List.getElem_cons_zero, List.getElem_cons_succ]
      refine wpAnyH_take (i := 11) (v := ?_) rfl (by kernel_rfl) (by kernel_rfl) (by kernel_rfl) (fun _ _ _ h => h) (Or.inl ⟨by rfl, ?_⟩) hS ?_
      rotate_left
      · intro w hSw
        (try dsimp only at hSw)
        go_simp
        (try with_reducible rfl)
      try simp (maxSteps := 10000000) only [Act.put, List.setIfInBounds_toArray, List.set_cons_zero, List.set_cons_succ, List.getElem_toArray, List.getElem_cons_zero, List.getElem_cons_succ]
      refine wpAnyH_take (i := 12) (v := ?_) rfl (by kernel_rfl) (by kernel_rfl) (by kernel_rfl) (fun _ _ _ h => h) (Or.inl ⟨by rfl, ?_⟩) hS ?_
      rotate_left
      · intro w hSw
        (try dsimp only at hSw)
        go_simp
        (try with_reducible rfl)
      try simp (maxSteps := 10000000) only [Act.put, List.setIfInBounds_toArray, List.set_cons_zero, List.set_cons_succ, List.getElem_toArray, List.getElem_cons_zero, List.getElem_cons_succ]
      refine wpAnyH_take (i := 13) (v := ?_) rfl (by kernel_rfl) (by kernel_rfl) (by kernel_rfl) (fun _ _ _ h => h) (Or.inl ⟨by rfl, ?_⟩) hS ?_
      rotate_left
      · intro w hSw
        (try dsimp only at hSw)
        go_simp
        (try with_reducible rfl)
      try simp (maxSteps := 10000000) only [Act.put, List.setIfInBounds_toArray, List.set_cons_zero, List.set_cons_succ, List.getElem_toArray, List.getElem_cons_zero, List.getElem_cons_succ]
      refine wpAnyH_take (i := 14) (v := ?_) rfl (by kernel_rfl) (by kernel_rfl) (by kernel_rfl) (fun _ _ _ h => h) (Or.inl ⟨by rfl, ?_⟩) hS ?_
      rotate_left
      · intro w hSw
        (try dsimp only at hSw)
        go_simp
        (try with_reducible rfl)
      try simp (maxSteps := 10000000) only [Act.put, List.setIfInBounds_toArray, List.set_cons_zero, List.set_cons_succ, List.getElem_toArray, List.getElem_cons_zero, List.getElem_cons_succ]
      refine wpAnyH_take (i := 15) (v := ?_) rfl (by kernel_rfl) (by kernel_rfl) (by kernel_rfl) (fun _ _ _ h => h) (Or.inl ⟨by rfl, ?_⟩) hS ?_
      rotate_left
      · intro w hSw
        (try dsimp only at hSw)
        go_simp
        (try with_reducible rfl)
      try simp (maxSteps := 10000000) only [Act.put, List.setIfInBounds_toArray, List.set_cons_zero, List.set_cons_succ, List.getElem_toArray, List.getElem_cons_zero, List.getElem_cons_succ]
      refine wpAnyH_ready (rs := [16]) (by kernel_rfl) (by simp) ?_
      refine AllReadyH.cons rfl (fun K hK => ?_) AllReadyH.nil
      go_simp
      refine hK.out _ _ ⟨cell_old _ cS, cell_old _ c1, cell_old _ cx, cell_old _ cy⟩ (fun hS => ?_)
      clear hK K
      try simp (maxSteps := 10000000) only [Act.put, List.setIfInBounds_toArray, List.set_cons_zero, List.set_cons_succ, List.getElem_toArray, List.getElem_cons_zero, List.getElem_cons_succ]
      refine wpAnyH_ready (rs := [17]) (by kernel_rfl) (by simp) ?_
      refine AllReadyH.cons rfl (fun K hK => ?_) AllReadyH.nil
      have hnb := Bk.new wr 67 #[.int .i64 (zx), .int .i64 (y)]
      refine step_stop rfl (.tmp 42) (.tmp 57) rfl (ux + 1) A' k c' ((rev ps).take k) rfl ((ho.alloc (.cells #[.int .i64 (zx), .int .i64 (y)] 67)).drew) ⟨wr.heap.size, 0, none⟩ 1 (zx) (y) rfl (hnb.cell 0) (hnb.cell 1) (by omega) (by show _ ≤ (wr.alloc _).heap.size; simp; omega) ?_
      intro g3 cap3 v3w ho3 hg3
      have hod := (ho.alloc (.cells #[.int .i64 (zx), .int .i64 (y)] 67)).drew
      have h53 := ((hkx.alloc (.cells #[.int .i64 (zx), .int .i64 (y)] 67)).drew).grown hg3 (hod.bk_ne ((hkx.alloc (.cells #[.int .i64 (zx), .int .i64 (y)] 67)).drew) (by decide))
      have hAb : ∀ r, A'.map Addr.block = some r → ux ≤ r := fun r e => by have := (ho.lt r e).1; omega
      have hb3 : Below ux w2 v3w := (below_drewN (hb.alloc (by omega) (.cells #[.int .i64 (zx), .int .i64 (y)] 67)) 1).grown hg3 (by simp; omega) hAb
      have hk13 := k1.below hb3 hux_l
      obtain ⟨ad', hA, _, cx3, cy3⟩ := (hux_p.below hb3).at2 hjn
      obtain rfl : ad = ad' := Option.some.inj hA
      rw [HX.out] at cx3
      rw [HY.out] at cy3
      refine hK.out _ _ ⟨h53.cell 1, hk13.cell 1, cx3, cy3⟩ (fun hS => ?_)
      clear hK K
      try simp (maxSteps := 10000000) only [Act.put, List.setIfInBounds_toArray, List.set_cons_zero, List.set_cons_succ, List.getElem_toArray, List.getElem_cons_zero, List.getElem_cons_succ]
      refine wpAnyH_take (i := 18) (v := ?_) rfl (by kernel_rfl) (by kernel_rfl) (by kernel_rfl) (fun _ _ _ h => h) (Or.inl ⟨by rfl, ?_⟩) hS ?_
      rotate_left
      · intro w hSw
        (try dsimp only at hSw)
        go_simp
        (try with_reducible rfl)
      try simp (maxSteps := 10000000) only [Act.put, List.setIfInBounds_toArray, List.set_cons_zero, List.set_cons_succ, List.getElem_toArray, List.getElem_cons_zero, List.getElem_cons_succ]
      have c53 := h53.cell 1
      have f53 := h53.frozen 1
      refine wpAnyH_done (by kernel_rfl) ?_ _
      unfold lastQ
      go_simp
      have h54 := h53.set_ 1 (.slice (some ⟨g3, 0, none⟩) (k + 1) cap3)
      have ho4 := ho3.setOther (p := ⟨ux, 1, none⟩) (ho3.bk_ne h53 (by decide)) (.slice (some ⟨g3, 0, none⟩) (k + 1) cap3)
      have hb4 := hb3.setCell (p := ⟨ux, 1, none⟩) (by simp) (.slice (some ⟨g3, 0, none⟩) (k + 1) cap3)
      clear hS c53 f53 cx3 cy3 cx cy c1 c0 cS
      go_wp2
      go_roundw
      case rel => exact ⟨k + 1, some ⟨g3, 0, none⟩, cap3, by omega, by rw [show ((n : Int) - 1 - ((k + 1 : Nat) : Int)) = jm from by have := HJ.out; have := HJM.out; omega], h54, by rw [HLS.out]; exact ho4, hb4⟩
      case measure => have := HJM.out; have := HJ.out; simp [intOf]; omega
    · have hkn : n = k := by omega
      subst hkn
      obtain ⟨w3, hW⟩ : ∃ W : World, wr = W := ⟨_, rfl⟩
      rw [hW] at hkx ho hb ⊢
      clear hW c1 c0 cS hk1 hsz
      rw [← huux] at hb
      have Bw3 : Below w.heap.size w w3 := Bw2.trans (hb.mono Bw2.size)
      replace h_p := h_p.next hb (Nat.le_refl _) hb.size
      replace k1 := k1.below hb k1.lt
      clear Bw2
      clear hb
      have kx := hkx
      clear hkx
      have h_x := ho.rp
      have hcux := ho.cap
      clear ho
      have HLX : Hid ((rev ps).take n = rev ps) := Lib.hid (by rw [List.take_of_length_le (by rw [rev_len, HL.out]; exact Nat.le_refl _)])
      rw [HLX.out] at h_x
      have hneg : ((n : Int) - 1 - (n : Int)) = -1 := by omega
      rw [hneg]
      clear hneg
      have d_k1_0 := k1.cell 0
      have d_k1_1 := k1.cell 1
      have d_kx_0 := kx.cell 0
      have d_kx_1 := kx.cell 1
      go_wp2
      clear d_k1_0 d_k1_1 d_kx_0 d_kx_1
      have ky := Bk.new w3 24 #[.int .i64 fb, .slice none 0 0]
      have hbx : Below w3.heap.size w3 (w3.alloc (.cells #[.int .i64 fb, .slice none 0 0] 24)) := (Below.refl _ _).alloc (Nat.le_refl _) _
      obtain ⟨uy, huuy⟩ : ∃ k, w3.heap.size = k := ⟨_, rfl⟩
      rw [huuy] at ky hbx ⊢
      have huy_p := h_p
      have huy_l := k1.lt
      rw [huuy] at huy_p huy_l
      go_loopw [12] (fun i wr => ∃ (k : Nat) (A' : Option Addr) (c' : Nat), k ≤ n ∧ i = .int .i64 k ∧ Bk wr uy 24 #[.int .i64 fb, .slice A' k c'] ∧ Os wr (uy + 1) A' k c' (mvd fr (ps.take k)) ∧ Below uy w3 wr) (fun i _ => n - (intOf i).toNat)
      case atStart => exact ⟨0, none, 0, Nat.zero_le _, rfl, ky, Os.nil_ _ _, hbx⟩
      case round =>
        clear ky hbx
        obtain ⟨k, A', c', hk, rfl, hkx, ho, hb⟩ := hrel
        have hsz : uy + 1 ≤ wr.heap.size := by have := hkx.lt; omega
        have hk1 := k1.below hb huy_l
        have c1 : wr.cell? ⟨u1, 1, none⟩ = some (.slice A n c) := hk1.cell 1
        have c0 : wr.cell? ⟨u1, 0, none⟩ = some (.int .i64 b) := hk1.cell 0
        have cS : wr.cell? ⟨uy, 1, none⟩ = some (.slice A' k c') := hkx.cell 1
        by_cases hlt : k < n
        · obtain ⟨ad, rfl, hadb, cx, cy⟩ := (huy_p.below hb).at2 hlt
          obtain ⟨x, HX⟩ : ∃ x, Hid (plc ps k = x) := ⟨_, Lib.hid rfl⟩
          obtain ⟨y, HY⟩ : ∃ y, Hid (too ps k = y) := ⟨_, Lib.hid rfl⟩
          have hxb := HP.out.at_ k
          rw [HX.out] at cx hxb
          rw [HY.out] at cy hxb
          have HGK : Hid (ps[k]? = some (x, y)) := Lib.hid (by
            have hk2 : k < ps.length := by rw [HL.out]; exact hlt
            have := plc_some (List.getElem?_eq_getElem hk2)
            rw [HX.out, HY.out] at this
            rw [List.getElem?_eq_getElem hk2]
            exact congrArg some (Prod.ext this.1.symm this.2.symm))
          obtain ⟨zx, HZX⟩ : ∃ z, Hid (x + fr = z) := ⟨_, Lib.hid rfl⟩
          have hzx : IntKind.i64.wrap (x + fr) = zx := (IntWalk.i64_in _ (by omega)).trans HZX.out
          have HLS : Hid (mvd fr (ps.take (k + 1)) = mvd fr (ps.take k) ++ [(zx, y)]) := Lib.hid (by
            unfold mvd
            rw [take_snoc HGK.out, List.map_append]
            simp [HZX.out])
          go_wp2
          refine wp_region_lastL (fun V => V.cell? ⟨uy, 1, none⟩ = some (.slice A' k c') ∧ V.cell? ⟨u1, 1, none⟩ = some (.slice (some ad) n c) ∧ V.cell? (ad.add (k * 2)) = some (.int .i64 x) ∧ V.cell? ⟨(ad.add (k * 2)).block, (ad.add (k * 2)).off + 1, none⟩ = some (.int .i64 y)) hmix rfl (by kernel_rfl) ⟨cS, c1, cx, cy⟩ (fun hS => ?_)
          simp only [List.dropLast_cons_cons, List.dropLast_singleton, List.length_cons, List.length_nil, Nat.reduceAdd]
          refine wpAnyH_take (i := 0) (v := ?_) rfl (by kernel_rfl) (by kernel_rfl) (by kernel_rfl) (fun _ _ _ h => h) (Or.inl ⟨by rfl, ?_⟩) hS ?_
          rotate_left
          · intro w hSw
            (try dsimp only at hSw)
            go_simp
            (try with_reducible rfl)
          try simp (maxSteps := 10000000) only [Act.put, List.setIfInBounds_toArray, List.set_cons_zero, List.set_cons_succ, List.getElem_toArray, List.getElem_cons_zero, List.getElem_cons_succ]
          refine wpAnyH_take (i := 1) (v := ?_) rfl (by kernel_rfl) (by kernel_rfl) (by kernel_rfl) (fun _ _ _ h => h) (Or.inl ⟨by rfl, ?_⟩) hS ?_
          rotate_left
          · intro w hSw
            (try dsimp only at hSw)
            go_simp
            (try with_reducible rfl)
          try simp (maxSteps := 10000000) only [Act.put, List.setIfInBounds_toArray, List.set_cons_zero, List.set_cons_succ, List.getElem_toArray, List.getElem_cons_zero, List.getElem_cons_succ]
          refine wpAnyH_take (i := 2) (v := ?_) rfl (by kernel_rfl) (by kernel_rfl) (by kernel_rfl) (fun _ _ _ h => h) (Or.inl ⟨by rfl, ?_⟩) hS ?_
          rotate_left
          · intro w hSw
            (try dsimp only at hSw)
            go_simp
            (try with_reducible rfl)
          try simp (maxSteps := 10000000) only [Act.put, List.setIfInBounds_toArray, List.set_cons_zero, List.set_cons_succ, List.getElem_toArray, List.getElem_cons_zero, List.getElem_cons_succ]
          refine wpAnyH_take (i := 3) (v := ?_) rfl (by kernel_rfl) (by kernel_rfl) (by kernel_rfl) (fun _ _ _ h => h) (Or.inl ⟨by rfl, ?_⟩) hS ?_
          rotate_left
          · intro w hSw
            (try dsimp only at hSw)
            go_simp
            (try with_reducible rfl)
          try simp (maxSteps := 10000000) only [Act.put, List.setIfInBounds_toArray, List.set_cons_zero, List.set_cons_succ, List.getElem_toArray, List.getElem_cons_zero, List.getElem_cons_succ]
          refine wpAnyH_take (i := 4) (v := ?_) rfl (by kernel_rfl) (by kernel_rfl) (by kernel_rfl) (fun _ _ _ h => h) (Or.inl ⟨by rfl, ?_⟩) hS ?_
          rotate_left
          · intro w hSw
            (try dsimp only at hSw)
            go_simp
            (try with_reducible rfl)
          try simp (maxSteps := 10000000) only [Act.put, List.setIfInBounds_toArray, List.set_cons_zero, List.set_cons_succ, List.getElem_toArray, List.getElem_cons_zero, List.getElem_cons_succ]
          refine wpAnyH_take (i := 5) (v := ?_) rfl (by kernel_rfl) (by kernel_rfl) (by kernel_rfl) (fun _ _ _ h => h) (Or.inl ⟨by rfl, ?_⟩) hS ?_
          rotate_left
          · intro w hSw
            (try dsimp only at hSw)
            go_simp
            (try with_reducible rfl)
          try simp (maxSteps := 10000000) only [Act.put, List.setIfInBounds_toArray, List.set_cons_zero, List.set_cons_succ, List.getElem_toArray, List.getElem_cons_zero, List.getElem_cons_succ]
          refine wpAnyH_take (i := 6) (v := ?_) rfl (by kernel_rfl) (by kernel_rfl) (by kernel_rfl) (fun _ _ _ h => h) (Or.inl ⟨by rfl, ?_⟩) hS ?_
          rotate_left
          · intro w hSw
            (try dsimp only at hSw)
            go_simp
            (try with_reducible rfl)
          try simp (maxSteps := 10000000) only [Act.put, List.setIfInBounds_toArray, List.set_cons_zero, List.set_cons_succ, List.getElem_toArray, List.getElem_cons_zero, List.getElem_cons_succ]
          refine wpAnyH_take (i := 7) (v := ?_) rfl (by kernel_rfl) (by kernel_rfl) (by kernel_rfl) (fun _ _ _ h => h) (Or.inl ⟨by rfl, ?_⟩) hS ?_
          rotate_left
          · intro w hSw
            (try dsimp only at hSw)
            go_simp
            (try with_reducible rfl)
          try simp (maxSteps := 10000000) only [Act.put, List.setIfInBounds_toArray, List.set_cons_zero, List.set_cons_succ, List.getElem_toArray, List.getElem_cons_zero, List.getElem_cons_succ]
          refine wpAnyH_take (i := 8) (v := ?_) rfl (by kernel_rfl) (by kernel_rfl) (by kernel_rfl) (fun _ _ _ h => h) (Or.inl ⟨by rfl, ?_⟩) hS ?_
          rotate_left
          · intro w hSw
            (try dsimp only at hSw)
            go_simp
            (try with_reducible rfl)
          try simp (maxSteps := 10000000) only [Act.put, List.setIfInBounds_toArray, List.set_cons_zero, List.set_cons_succ, List.getElem_toArray, List.getElem_cons_zero, List.getElem_cons_succ]
          refine wpAnyH_take (i := 9) (v := ?_) rfl (by kernel_rfl) (by kernel_rfl) (by kernel_rfl) (fun _ _ _ h => h) (Or.inl ⟨by rfl, ?_⟩) hS ?_
          rotate_left
          · intro w hSw
            (try dsimp only at hSw)
            go_simp
            (try with_reducible rfl)
          try simp (maxSteps := 10000000) only [Act.put, List.setIfInBounds_toArray, List.set_cons_zero, List.set_cons_succ, List.getElem_toArray, List.getElem_cons_zero, List.getElem_cons_succ]
          refine wpAnyH_take (i := 10) (v := ?_) rfl (by kernel_rfl) (by kernel_rfl) (by kernel_rfl) (fun _ _ _ h => h) (Or.inl ⟨by rfl, ?_⟩) hS ?_
          rotate_left
          · intro w hSw
            (try dsimp only at hSw)
            go_simp
            (try with_reducible rfl)
          try simp (maxSteps := 10000000) only [Act.put, List.setIfInBounds_toArray, List.set_cons_zero, List.set_cons_succ, List.getElem_toArray, List.getElem_cons_zero, List.getElem_cons_succ]
          refine wpAnyH_take (i := 11) (v := ?_) rfl (by kernel_rfl) (by kernel_rfl) (by kernel_rfl) (fun _ _ _ h => h) (Or.inl ⟨by rfl, ?_⟩) hS ?_
          rotate_left
          · intro w hSw
            (try dsimp only at hSw)
            go_simp
            (try with_reducible rfl)
          try simp (maxSteps := 10000000) only [Act.put, List.setIfInBounds_toArray, List.set_cons_zero, List.set_cons_succ, List.getElem_toArray, List.getElem_cons_zero, List.getElem_cons_succ]
          refine wpAnyH_take (i := 12) (v := ?_) rfl (by kernel_rfl) (by kernel_rfl) (by kernel_rfl) (fun _ _ _ h => h) (Or.inl ⟨by rfl, ?_⟩) hS ?_
          rotate_left
          · intro w hSw
            (try dsimp only at hSw)
            go_simp
            (try with_reducible rfl)
          try simp (maxSteps := 10000000) only [Act.put, List.setIfInBounds_toArray, List.set_cons_zero, List.set_cons_succ, List.getElem_toArray, List.getElem_cons_zero, List.getElem_cons_succ]
          refine wpAnyH_take (i := 13) (v := ?_) rfl (by kernel_rfl) (by kernel_rfl) (by kernel_rfl) (fun _ _ _ h => h) (Or.inl ⟨by rfl, ?_⟩) hS ?_
          rotate_left
          · intro w hSw
            (try dsimp only at hSw)
            go_simp
            (try with_reducible rfl)
          try simp (maxSteps := 10000000) only [Act.put, List.setIfInBounds_toArray, List.set_cons_zero, List.set_cons_succ, List.getElem_toArray, List.getElem_cons_zero, List.getElem_cons_succ]
          refine wpAnyH_take (i := 14) (v := ?_) rfl (by kernel_rfl) (by kernel_rfl) (by kernel_rfl) (fun _ _ _ h => h) (Or.inl ⟨by rfl, ?_⟩) hS ?_
          rotate_left
          · intro w hSw
            (try dsimp only at hSw)
            go_simp
            (try with_reducible rfl)
          try simp (maxSteps := 10000000) only [Act.put, List.setIfInBounds_toArray, List.set_cons_zero, List.set_cons_succ, List.getElem_toArray, List.getElem_cons_zero, List.getElem_cons_succ]
          refine wpAnyH_take (i := 15) (v := ?_) rfl (by kernel_rfl) (by kernel_rfl) (by kernel_rfl) (fun _ _ _ h => h) (Or.inl ⟨by rfl, ?_⟩) hS ?_
          rotate_left
          · intro w hSw
            (try dsimp only at hSw)
            go_simp
            (try with_reducible rfl)
          try simp (maxSteps := 10000000) only [Act.put, List.setIfInBounds_toArray, List.set_cons_zero, List.set_cons_succ, List.getElem_toArray, List.getElem_cons_zero, List.getElem_cons_succ]
          refine wpAnyH_take (i := 16) (v := ?_) rfl (by kernel_rfl) (by kernel_rfl) (by kernel_rfl) (fun _ _ _ h => h) (Or.inl ⟨by rfl, ?_⟩) hS ?_
          rotate_left
          · intro w hSw
            (try dsimp only at hSw)
            go_simp
            (try with_reducible rfl)
          try simp (maxSteps := 10000000) only [Act.put, List.setIfInBounds_toArray, List.set_cons_zero, List.set_cons_succ, List.getElem_toArray, List.getElem_cons_zero, List.getElem_cons_succ]
          refine wpAnyH_take (i := 17) (v := ?_) rfl (by kernel_rfl) (by kernel_rfl) (by kernel_rfl) (fun _ _ _ h => h) (Or.inl ⟨by rfl, ?_⟩) hS ?_
          rotate_left
          · intro w hSw
            (try dsimp only at hSw)
            go_simp
            (try with_reducible rfl)
          try simp (maxSteps := 10000000) only [Act.put, List.setIfInBounds_toArray, List.set_cons_zero, List.set_cons_succ, List.getElem_toArray, List.getElem_cons_zero, List.getElem_cons_succ]
          refine wpAnyH_ready (rs := [18]) (by kernel_rfl) (by simp) ?_
          refine AllReadyH.cons rfl (fun K hK => ?_) AllReadyH.nil
          go_simp
          refine hK.out _ _ ⟨cell_old _ cS, cell_old _ c1, cell_old _ cx, cell_old _ cy⟩ (fun hS => ?_)
          clear hK K
          try simp (maxSteps := 10000000) only [Act.put, List.setIfInBounds_toArray, List.set_cons_zero, List.set_cons_succ, List.getElem_toArray, List.getElem_cons_zero, List.getElem_cons_succ]
          refine wpAnyH_ready (rs := [19]) (by kernel_rfl) (by simp) ?_
          refine AllReadyH.cons rfl (fun K hK => ?_) AllReadyH.nil
          have hnb := Bk.new wr 67 #[.int .i64 (zx), .int .i64 (y)]
          refine step_stop rfl (.tmp 72) (.tmp 89) rfl (uy + 1) A' k c' (mvd fr (ps.take k)) rfl ((ho.alloc (.cells #[.int .i64 (zx), .int .i64 (y)] 67)).drew) ⟨wr.heap.size, 0, none⟩ 1 (zx) (y) rfl (hnb.cell 0) (hnb.cell 1) (by omega) (by show _ ≤ (wr.alloc _).heap.size; simp; omega) ?_
          intro g3 cap3 v3w ho3 hg3
          have hod := (ho.alloc (.cells #[.int .i64 (zx), .int .i64 (y)] 67)).drew
          have h53 := ((hkx.alloc (.cells #[.int .i64 (zx), .int .i64 (y)] 67)).drew).grown hg3 (hod.bk_ne ((hkx.alloc (.cells #[.int .i64 (zx), .int .i64 (y)] 67)).drew) (by decide))
          have hAb : ∀ r, A'.map Addr.block = some r → uy ≤ r := fun r e => by have := (ho.lt r e).1; omega
          have hb3 : Below uy w3 v3w := (below_drewN (hb.alloc (by omega) (.cells #[.int .i64 (zx), .int .i64 (y)] 67)) 1).grown hg3 (by simp; omega) hAb
          have hk13 := k1.below hb3 huy_l
          obtain ⟨ad', hA, _, cx3, cy3⟩ := (huy_p.below hb3).at2 hlt
          obtain rfl : ad = ad' := Option.some.inj hA
          rw [HX.out] at cx3
          rw [HY.out] at cy3
          refine hK.out _ _ ⟨h53.cell 1, hk13.cell 1, cx3, cy3⟩ (fun hS => ?_)
          clear hK K
          try simp (maxSteps := 10000000) only [Act.put, List.setIfInBounds_toArray, List.set_cons_zero, List.set_cons_succ, List.getElem_toArray, List.getElem_cons_zero, List.getElem_cons_succ]
          refine wpAnyH_take (i := 20) (v := ?_) rfl (by kernel_rfl) (by kernel_rfl) (by kernel_rfl) (fun _ _ _ h => h) (Or.inl ⟨by rfl, ?_⟩) hS ?_
          rotate_left
          · intro w hSw
            (try dsimp only at hSw)
            go_simp
            (try with_reducible rfl)
          try simp (maxSteps := 10000000) only [Act.put, List.setIfInBounds_toArray, List.set_cons_zero, List.set_cons_succ, List.getElem_toArray, List.getElem_cons_zero, List.getElem_cons_succ]
          have c53 := h53.cell 1
          have f53 := h53.frozen 1
          refine wpAnyH_done (by kernel_rfl) ?_ _
          unfold lastQ
          go_simp
          have h54 := h53.set_ 1 (.slice (some ⟨g3, 0, none⟩) (k + 1) cap3)
          have ho4 := ho3.setOther (p := ⟨uy, 1, none⟩) (ho3.bk_ne h53 (by decide)) (.slice (some ⟨g3, 0, none⟩) (k + 1) cap3)
          have hb4 := hb3.setCell (p := ⟨uy, 1, none⟩) (by simp) (.slice (some ⟨g3, 0, none⟩) (k + 1) cap3)
          clear hS c53 f53 cx3 cy3 cx cy c1 c0 cS
          go_wp2
          go_roundw
          case rel => exact ⟨k + 1, some ⟨g3, 0, none⟩, cap3, by omega, by go_num, h54, by rw [HLS.out]; exact ho4, hb4⟩
          case measure => simp [intOf]; omega
        · have hkn : n = k := by omega
          subst hkn
          obtain ⟨w4, hW⟩ : ∃ W : World, wr = W := ⟨_, rfl⟩
          rw [hW] at hkx ho hb ⊢
          clear hW c1 c0 cS hk1 hsz
          rw [← huuy] at hb
          have Bw4 : Below w.heap.size w w4 := Bw3.trans (hb.mono Bw3.size)
          replace h_p := h_p.next hb (Nat.le_refl _) hb.size
          replace k1 := k1.below hb k1.lt
          replace kx := kx.below hb kx.lt
          replace h_x := h_x.next hb (Nat.le_refl _) hb.size
          clear Bw3
          clear hb
          have ky := hkx
          clear hkx
          have h_y := ho.rp
          have hcuy := ho.cap
          clear ho
          have HLY : Hid (mvd fr (ps.take n) = mvd fr ps) := Lib.hid (by rw [List.take_of_length_le (by rw [HL.out]; exact Nat.le_refl _)])
          rw [HLY.out] at h_y
          obtain ⟨ry, HRY⟩ : ∃ r, Hid (decide (n ≤ 14 ∧ checkPier fb (mvd fr ps) = 0) = r) := ⟨_, Lib.hid rfl⟩
          have HR1 : Hid ((shortestS rb (rev ps)).2 = (shortestS b ps).2) := Lib.hid (by rw [← HRB.out]; exact rev_shortest HP.out)
          have HR2 : Hid (countS rb (rev ps) = countS b ps) := Lib.hid (by rw [← HRB.out]; exact rev_count HP.out)
          have HR3 : Hid (delayS rb (rev ps) = delayS b ps) := Lib.hid (by rw [← HRB.out]; exact rev_delay HP.out)
          have HR4 : Hid (withinS rb (rev ps) tv = withinS b ps (t : Int)) := Lib.hid (by
            have htn : t < ps.length := by rw [HL.out]; omega
            have h := rev_within HP.out htn
            rw [← HRB.out, ← h]
            congr 1
            have := HTV.out
            have := HNM.out
            have := HL.out
            omega)
          have d_k1_0 := k1.cell 0
          have d_k1_1 := k1.cell 1
          have d_kx_0 := kx.cell 0
          have d_kx_1 := kx.cell 1
          have d_ky_0 := ky.cell 0
          have d_ky_1 := ky.cell 1
          go_wp2_with fail
          clear d_k1_0 d_k1_1 d_kx_0 d_kx_1 d_ky_0 d_ky_1
          refine (aAlike b A n c ps rb _ n _ (rev ps) (t : Int) tv _ h_p h_x (by omega) (by omega) hc hcux HP HR1 HR2 HR3 HR4).mono ?_
          rintro e w5 ⟨rfl, hb⟩
          have Bw5 : Below w.heap.size w w5 := Bw4.trans (hb.mono Bw4.size)
          replace h_p := h_p.next hb (Nat.le_refl _) hb.size
          replace k1 := k1.below hb k1.lt
          replace kx := kx.below hb kx.lt
          replace h_x := h_x.next hb (Nat.le_refl _) hb.size
          replace ky := ky.below hb ky.lt
          replace h_y := h_y.next hb (Nat.le_refl _) hb.size
          clear Bw4
          clear hb
          have d_k1_0 := k1.cell 0
          have d_k1_1 := k1.cell 1
          have d_kx_0 := kx.cell 0
          have d_kx_1 := kx.cell 1
          have d_ky_0 := ky.cell 0
          have d_ky_1 := ky.cell 1
          go_wp2_with fail
          clear d_k1_0 d_k1_1 d_kx_0 d_kx_1 d_ky_0 d_ky_1
          refine (aFine fb _ n _ (mvd fr ps) _ h_y _ HRY).mono ?_
          rintro e w6 ⟨rfl, hb⟩
          have Bw6 : Below w.heap.size w w6 := Bw5.trans (hb.mono Bw5.size)
          replace h_p := h_p.next hb (Nat.le_refl _) hb.size
          replace k1 := k1.below hb k1.lt
          replace kx := kx.below hb kx.lt
          replace h_x := h_x.next hb (Nat.le_refl _) hb.size
          replace ky := ky.below hb ky.lt
          replace h_y := h_y.next hb (Nat.le_refl _) hb.size
          clear Bw5
          clear hb
          cases ry
          · have d_k1_0 := k1.cell 0
            have d_k1_1 := k1.cell 1
            have d_kx_0 := kx.cell 0
            have d_kx_1 := kx.cell 1
            have d_ky_0 := ky.cell 0
            have d_ky_1 := ky.cell 1
            go_wp2_with fail
            clear d_k1_0 d_k1_1 d_kx_0 d_kx_1 d_ky_0 d_ky_1
            refine (aWorks _).mono ?_
            rintro e w7 ⟨rfl, hb⟩
            have Bw7 : Below w.heap.size w w7 := Bw6.trans (hb.mono Bw6.size)
            replace h_p := h_p.next hb (Nat.le_refl _) hb.size
            replace k1 := k1.below hb k1.lt
            replace kx := kx.below hb kx.lt
            replace h_x := h_x.next hb (Nat.le_refl _) hb.size
            replace ky := ky.below hb ky.lt
            replace h_y := h_y.next hb (Nat.le_refl _) hb.size
            clear Bw6
            clear hb
            go_wp2
            go_ret
            exact ⟨rfl, Bw7⟩
          · have HPY : Hid (Pier fb (mvd fr ps)) := Lib.hid (checkPier_ok.1 (of_decide_eq_true HRY.out).2)
            obtain ⟨s, HS⟩ : ∃ s, Hid (shortestS b ps = s) := ⟨_, Lib.hid rfl⟩
            have HY1 : Hid (shortestS fb (mvd fr ps) = s) := Lib.hid (by rw [← HS.out, ← HFB.out]; exact mvd_shortest fr HP.out (by rw [HFB.out]; exact HPY.out))
            have HY1' : Hid ((shortestS fb (mvd fr ps)).2 = (shortestS b ps).2) := Lib.hid (by rw [HY1.out, HS.out])
            have HY2 : Hid (countS fb (mvd fr ps) = countS b ps) := Lib.hid (by rw [← HFB.out]; exact mvd_count fr HP.out (by rw [HFB.out]; exact HPY.out))
            have HY3 : Hid (delayS fb (mvd fr ps) = delayS b ps) := Lib.hid (by rw [← HFB.out]; exact mvd_delay fr HP.out (by rw [HFB.out]; exact HPY.out))
            have HY4 : Hid (withinS fb (mvd fr ps) (t : Int) = withinS b ps (t : Int)) := Lib.hid (by rw [← HFB.out]; exact mvd_within fr HP.out (by rw [HFB.out]; exact HPY.out) _)
            have hlen := shortest_len HP.out
            rw [HS.out] at hlen
            obtain ⟨sl, s0, se⟩ := s
            simp only at hlen
            obtain ⟨LL, HLL⟩ : ∃ LL, Hid (ofN sl = LL) := ⟨_, Lib.hid rfl⟩
            have hlen2 : LL.length ≤ 10 := by rw [← HLL.out, ofN_length]; exact hlen
            clear hlen
            have d_k1_0 := k1.cell 0
            have d_k1_1 := k1.cell 1
            have d_kx_0 := kx.cell 0
            have d_kx_1 := kx.cell 1
            have d_ky_0 := ky.cell 0
            have d_ky_1 := ky.cell 1
            go_wp2_with fail
            clear d_k1_0 d_k1_1 d_kx_0 d_kx_1 d_ky_0 d_ky_1
            refine (fRound b A n c ps _ h_p (by omega) hc _ HS).mono ?_
            rintro e w7 ⟨Al, nl, cl_, rfl, ho, hb⟩
            have Bw7 : Below w.heap.size w w7 := Bw6.trans (hb.mono Bw6.size)
            replace h_p := h_p.next hb (Nat.le_refl _) hb.size
            replace k1 := k1.below hb k1.lt
            replace kx := kx.below hb kx.lt
            replace h_x := h_x.next hb (Nat.le_refl _) hb.size
            replace ky := ky.below hb ky.lt
            replace h_y := h_y.next hb (Nat.le_refl _) hb.size
            clear Bw6
            clear hb
            have rl := ho.ri
            clear ho
            rw [HLL.out] at rl
            have d_k1_0 := k1.cell 0
            have d_k1_1 := k1.cell 1
            have d_kx_0 := kx.cell 0
            have d_kx_1 := kx.cell 1
            have d_ky_0 := ky.cell 0
            have d_ky_1 := ky.cell 1
            go_wp2_with fail
            clear d_k1_0 d_k1_1 d_kx_0 d_kx_1 d_ky_0 d_ky_1
            refine (fRound fb _ n _ (mvd fr ps) _ h_y (by omega) hcuy _ HY1).mono ?_
            rintro e w8 ⟨Ar, nr, cr_, rfl, ho, hb⟩
            have Bw8 : Below w.heap.size w w8 := Bw7.trans (hb.mono Bw7.size)
            replace h_p := h_p.next hb (Nat.le_refl _) hb.size
            replace k1 := k1.below hb k1.lt
            replace kx := kx.below hb kx.lt
            replace h_x := h_x.next hb (Nat.le_refl _) hb.size
            replace ky := ky.below hb ky.lt
            replace h_y := h_y.next hb (Nat.le_refl _) hb.size
            replace rl := rl.next hb (Nat.le_refl _) hb.size
            clear Bw7
            clear hb
            have rr := ho.ri
            clear ho
            rw [HLL.out] at rr
            have d_k1_0 := k1.cell 0
            have d_k1_1 := k1.cell 1
            have d_kx_0 := kx.cell 0
            have d_kx_1 := kx.cell 1
            have d_ky_0 := ky.cell 0
            have d_ky_1 := ky.cell 1
            go_wp2_with fail
            clear d_k1_0 d_k1_1 d_kx_0 d_kx_1 d_ky_0 d_ky_1
            refine (aAlike b A n c ps fb _ n _ (mvd fr ps) (t : Int) (t : Int) _ h_p h_y (by omega) (by omega) hc hcuy HP HY1' HY2 HY3 HY4).mono ?_
            rintro e w9 ⟨rfl, hb⟩
            have Bw9 : Below w.heap.size w w9 := Bw8.trans (hb.mono Bw8.size)
            replace h_p := h_p.next hb (Nat.le_refl _) hb.size
            replace k1 := k1.below hb k1.lt
            replace kx := kx.below hb kx.lt
            replace h_x := h_x.next hb (Nat.le_refl _) hb.size
            replace ky := ky.below hb ky.lt
            replace h_y := h_y.next hb (Nat.le_refl _) hb.size
            replace rl := rl.next hb (Nat.le_refl _) hb.size
            replace rr := rr.next hb (Nat.le_refl _) hb.size
            clear Bw8
            clear hb
            have d_k1_0 := k1.cell 0
            have d_k1_1 := k1.cell 1
            have d_kx_0 := kx.cell 0
            have d_kx_1 := kx.cell 1
            have d_ky_0 := ky.cell 0
            have d_ky_1 := ky.cell 1
            go_wp2_with fail
            clear d_k1_0 d_k1_1 d_kx_0 d_kx_1 d_ky_0 d_ky_1
            refine (aIntsT _ _ _ _ _ _ _ _ LL LL _ rl rr (by have h := rl.len; omega) (by have h := rr.len; omega) true (Lib.hid (decide_eq_true rfl))).mono ?_
            rintro e w10 ⟨rfl, hb⟩
            have Bw10 : Below w.heap.size w w10 := Bw9.trans (hb.mono Bw9.size)
            replace h_p := h_p.next hb (Nat.le_refl _) hb.size
            replace k1 := k1.below hb k1.lt
            replace kx := kx.below hb kx.lt
            replace h_x := h_x.next hb (Nat.le_refl _) hb.size
            replace ky := ky.below hb ky.lt
            replace h_y := h_y.next hb (Nat.le_refl _) hb.size
            replace rl := rl.next hb (Nat.le_refl _) hb.size
            replace rr := rr.next hb (Nat.le_refl _) hb.size
            clear Bw9
            clear hb
            have d_k1_0 := k1.cell 0
            have d_k1_1 := k1.cell 1
            have d_kx_0 := kx.cell 0
            have d_kx_1 := kx.cell 1
            have d_ky_0 := ky.cell 0
            have d_ky_1 := ky.cell 1
            go_wp2_with fail
            clear d_k1_0 d_k1_1 d_kx_0 d_kx_1 d_ky_0 d_ky_1
            refine (aWorks _).mono ?_
            rintro e w11 ⟨rfl, hb⟩
            have Bw11 : Below w.heap.size w w11 := Bw10.trans (hb.mono Bw10.size)
            replace h_p := h_p.next hb (Nat.le_refl _) hb.size
            replace k1 := k1.below hb k1.lt
            replace kx := kx.below hb kx.lt
            replace h_x := h_x.next hb (Nat.le_refl _) hb.size
            replace ky := ky.below hb ky.lt
            replace h_y := h_y.next hb (Nat.le_refl _) hb.size
            replace rl := rl.next hb (Nat.le_refl _) hb.size
            replace rr := rr.next hb (Nat.le_refl _) hb.size
            clear Bw10
            clear hb
            go_wp2
            go_ret
            exact ⟨rfl, Bw11⟩

set_option maxRecDepth 100000 in
theorem RoundTurned_lifted (os : Go.Os) (started : os.Started) (H : Type) (enc : TypeId × Value → H) :
    ReturnsInHanded {} Try.checked os 12 .any (Rows.roundTurnedSpec.pre6 enc Try.prog Try.f12 Rows.roundTurnedRow.domain false) (Rows.roundTurnedSpec.post enc Try.prog Try.f12 false true false false) := by
  refine returnsInHanded_of_change (C := Try.checked) row_own started (by kernel_rfl) Try.func12
    (ChangeSpec.witness6 (enc := enc) (C := Try.checked) false ⟨#[], #[.agg #[.int .i64 0, .slice none 0 0], .int .u8 0, .int .u16 0], []⟩ 8 (by kernel_rfl) (by kernel_rfl) (by kernel_rfl) (by kernel_rfl)) ?_
  intro W base args ds gs before hval0 hW _ _
  have hval : ∀ (j : Nat) t v, Try.f12.params[j]? = some t → args[j]? = some v → Value.okWide Try.prog W .any base t v := hval0
  have hW' := hW
  obtain ⟨p, q, hA0, hV, rfl, _, _⟩ := hW
  have hA : DataW.TrodAll enc Try.prog W 0 (fun _ => true) true Try.f12.params.toList args.toList ds p := hA0
  rw [Try.params12] at hA hval
  obtain ⟨v0, v1, v2, d0, d1, d2, p0, p1, p2, rfl, rfl, rfl, h0, h1, h2⟩ := trodAll_three hA
  obtain ⟨rfl, rfl⟩ := trodVars_none hV
  clear hA0 hval0
  simp only [List.append_nil] at hW'
  have hlt : ∀ x ∈ (p0 ++ p1 ++ p2), x.block < W.heap.size := fun x hx => by simpa using hW'.lt x hx
  have a0 := fun W' (hb : Below W.heap.size W W') => row_stays (t := 24) (by kernel_rfl) (of_decide_eq_true (by kernel_rfl)) h0 (fun x hx => hlt x (by simp [hx])) hb
  have a1 := fun W' (hb : Below W.heap.size W W') => row_stays (t := 5) (by kernel_rfl) (of_decide_eq_true (by kernel_rfl)) h1 (fun x hx => hlt x (by simp [hx])) hb
  have a2 := fun W' (hb : Below W.heap.size W W') => row_stays (t := 58) (by kernel_rfl) (of_decide_eq_true (by kernel_rfl)) h2 (fun x hx => hlt x (by simp [hx])) hb
  obtain ⟨b0, A0, n0, c0, ps0, rfl, hc0, hm0, hx0⟩ := row_pier (hval 0 24 v0 rfl rfl) h0 (fun x hx => hlt x (by simp [hx]))
  obtain ⟨x1, rfl, _, _, wx1⟩ := open_int (P := Try.prog) (k := .u8) (t := 5) (by kernel_rfl) (hval 1 5 v1 rfl rfl) h1
  obtain ⟨x2, rfl, _, _, wx2⟩ := open_int (P := Try.prog) (k := .u16) (t := 58) (by kernel_rfl) (hval 2 58 v2 rfl rfl) h2
  refine (wTurned b0 A0 n0 c0 ps0 x1 x2 (u8_lo wx1) (u8_hi wx1) (u16_lo wx2) (u16_hi wx2) W hx0 hc0).mono fun e W' ⟨he, hb⟩ => ?_
  subst he
  exact ⟨_, rfl, _, _, _, [], (p0 ++ p1 ++ p2), [], hW', trodAll_mk1 (shut_bool Try.underlying4 true), (by simp only [List.append_assoc]; exact trodAll_mk3 (a0 _ hb) (a1 _ hb) (a2 _ hb)), rfl, hb.frame _, fun h => by cases h⟩
theorem RoundTurned_holds : Rows.RoundTurnedSaid :=
  OpenClaim.holds_of_wide 12 Try.f12 rfl rfl rfl rfl rfl rfl rfl ⟨rfl, rfl, rfl, rfl, rfl⟩ rfl rfl rfl rfl rfl (by kernel_rfl) Try.func12 (by kernel_rfl)
    (of_decide_eq_true (by kernel_rfl)) (by unfold Func.isWrapper; first | (rw [if_pos (by decide +kernel)]; kernel_rfl) | (rw [if_neg (by decide +kernel)]; exact ⟨rfl, rfl⟩))
    (fun os started H enc _ => RoundTurned_lifted os started H enc)
#print axioms RoundTurned_holds
end Go.Proofs.Ytaekjnjignlmoaa
