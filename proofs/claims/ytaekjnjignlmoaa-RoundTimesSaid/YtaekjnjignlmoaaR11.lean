/-
  The reference: 'Delay'. Printed by gen_r11.py.
-/
import Derived.Test.YtaekjnjignlmoaaR7
import Derived.Test.YtaekjnjignlmoaaR5
namespace Go.Proofs.Ytaekjnjignlmoaa
open Go.RowKit Go.Shelf

set_option maxRecDepth 100000 in
set_option maxHeartbeats 8000000 in
theorem rDelay (b : Int) (A : Option Addr) (n c : Nat) (ps : List (Int × Int)) (w : World) (h_p : Rp w w.heap.size A n ps) (hn : n ≤ 1048576) (v : Int × Int) (HV : Hid (delayS b ps = v)) :
    Calls Try.prog 34 #[.agg #[.int .i64 b, .slice A n c]] w (RetII w v.1 v.2) := by
  have HL := Lib.hid h_p.len
  obtain ⟨q, HQ⟩ : ∃ q, Hid (checkPier b ps = q) := ⟨_, Lib.hid rfl⟩
  have hmix : Try.prog.follows .mixedOrders = true := by kernel_rfl
  have k1 := Bk.new w 24 #[.int .i64 b, .slice A n c]
  have hb : Below w.heap.size w (w.alloc (.cells #[.int .i64 b, .slice A n c] 24)) := (Below.refl _ _).alloc (Nat.le_refl _) _
  have q0 := k1.cell 0
  have q1 := k1.cell 1
  go_enter Try.func34, Try.ntmps34
  go_wp2_with fail
  clear q0 q1
  obtain ⟨u1, hu⟩ : ∃ k, w.heap.size = k := ⟨_, rfl⟩
  obtain ⟨w1, hW⟩ : ∃ W, w.alloc (.cells #[.int .i64 b, .slice A n c] 24) = W := ⟨_, rfl⟩
  rw [hW] at k1 hb ⊢
  rw [hu] at k1 ⊢
  clear hW
  have HU := Lib.hid hu
  clear hu
  have Bw1 : Below w.heap.size w w1 := hb
  replace h_p := h_p.next hb (Nat.le_refl _) hb.size
  clear hb
  refine (rCheckPier b A n c ps _ h_p hn q HQ).mono ?_
  rintro e w2 ⟨rfl, hb⟩
  have Bw2 : Below w.heap.size w w2 := Bw1.trans (hb.mono Bw1.size)
  replace h_p := h_p.next hb (Nat.le_refl _) hb.size
  replace k1 := k1.below hb k1.lt
  clear Bw1
  clear hb
  by_cases hq : q = 0
  rotate_left
  · have hqb : (q != 0) = true := by simp [hq]
    have HNQ := Lib.hid hq
    clear hq
    have d_k1_0 := k1.cell 0
    have d_k1_1 := k1.cell 1
    go_wp2_with fail
    clear d_k1_0 d_k1_1
    refine (rCheckPier b A n c ps _ h_p hn q HQ).mono ?_
    rintro e w3 ⟨rfl, hb⟩
    have Bw3 : Below w.heap.size w w3 := Bw2.trans (hb.mono Bw2.size)
    replace h_p := h_p.next hb (Nat.le_refl _) hb.size
    replace k1 := k1.below hb k1.lt
    clear Bw2
    clear hb
    go_wp2
    go_ret2
    exact ⟨by rw [← HV.out]; unfold delayS; rw [HQ.out, if_neg HNQ.out]; rfl, Bw3⟩
  subst hq
  have HP : Hid (Pier b ps) := Lib.hid (checkPier_ok.1 HQ.out)
  have hn1 : 1 ≤ n := by rw [← HL.out]; exact HP.out.lo
  have hn10 : n ≤ 10 := by rw [← HL.out]; exact HP.out.hi
  obtain ⟨NA, HNA⟩ : ∃ N, Hid ((allR b ps).length = N) := ⟨_, Lib.hid rfl⟩
  have hNA0 : 0 < NA := by rw [← HNA.out]; exact allR_some
  have hNAb : NA ≤ 252 := by rw [← HNA.out]; exact allR_many HP.out
  obtain ⟨LS, HLS⟩ : ∃ L, Hid ((allR b ps).map (fun l => lateL ps (stepsL b ps l)) = L) := ⟨_, Lib.hid rfl⟩
  have HLSN : Hid (LS.length = NA) := Lib.hid (by rw [← HLS.out, List.length_map]; exact HNA.out)
  have d_k1_0 := k1.cell 0
  have d_k1_1 := k1.cell 1
  go_wp2_with fail
  clear d_k1_0 d_k1_1
  refine (rAll b A n c ps _ h_p HP NA HNA).mono ?_
  rintro e w3 ⟨Al, cl, rfl, hro, hb⟩
  have Bw3 : Below w.heap.size w w3 := Bw2.trans (hb.mono Bw2.size)
  replace h_p := h_p.next hb (Nat.le_refl _) hb.size
  replace k1 := k1.below hb k1.lt
  clear Bw2
  clear hb
  have h_l := hro.rrj (Nat.le_refl _)
  clear hro
  obtain ⟨ad, g0, cg0, L0, rfl, _, _, c00, HL0, hrow0⟩ := h_l.at_ hNA0
  obtain ⟨l0, HLl0⟩ : ∃ l, Hid ((allR b ps)[0]? = some l) := ⟨_, Lib.hid (List.getElem?_eq_getElem (by rw [HNA.out]; exact hNA0))⟩
  have HLo0 : Hid (L0 = ofN l0) := Lib.hid (by
    have h1 := HL0.out
    rw [List.getElem?_map, HLl0.out] at h1
    exact (Option.some.inj h1).symm)
  rw [HLo0.out] at hrow0
  have HA0 : Hid (l0 ∈ allR b ps) := Lib.hid (List.mem_of_getElem? HLl0.out)
  have c0a : w3.cell? ad = some (.slice (some ⟨g0, 0, none⟩) n cg0) := c00
  have h_r := hrow0.ri
  clear c00 hrow0
  obtain ⟨x0, HX0⟩ : ∃ z, Hid (lateL ps (stepsL b ps l0) = z) := ⟨_, Lib.hid rfl⟩
  have d_k1_0 := k1.cell 0
  have d_k1_1 := k1.cell 1
  go_wp2
  clear d_k1_0 d_k1_1
  have e_k1_0 := k1.drew.cell 0
  have e_k1_1 := k1.drew.cell 1
  have e_c0a : w3.drew.cell? (ad) = some (.slice (some ⟨g0, 0, none⟩) n cg0) := c0a
  refine wp_region_noPanic ?_
  refine wp_region_held_drew (S := fun V => V.cell? ⟨u1, 0, none⟩ = some (.int .i64 b) ∧ V.cell? ⟨u1, 1, none⟩ = some (.slice A n c) ∧ V.cell? (ad) = some (.slice (some ⟨g0, 0, none⟩) n cg0)) hmix ⟨e_k1_0, e_k1_1, e_c0a⟩ (fun hS => ?_)
  clear e_k1_0 e_k1_1 e_c0a
  obtain ⟨w4, hW⟩ : ∃ W, w3.drew = W := ⟨_, rfl⟩
  have hb : Below w3.heap.size w3 w4 := hW ▸ below_drewN (Below.refl _ _) 1
  rw [hW] at hS ⊢
  clear hW
  have Bw4 : Below w.heap.size w w4 := Bw3.trans (hb.mono Bw3.size)
  replace h_p := h_p.next hb (Nat.le_refl _) hb.size
  replace k1 := k1.below hb k1.lt
  replace h_l := h_l.below hb
  replace h_r := h_r.next hb (Nat.le_refl _) hb.size
  replace c0a := (hb.cell (World.block_lt_of_cell? _ _ c0a)).trans c0a
  clear Bw3
  clear hb
  refine wpAnyH_take (i := 0) (v := ?_) rfl (by kernel_rfl) (by kernel_rfl) (by kernel_rfl) (fun _ _ _ h => h) (Or.inl ⟨by rfl, ?_⟩) hS ?_
  rotate_left
  · intro w hSw
    (try dsimp only at hSw)
    go_simp
    (try with_reducible rfl)
  try simp (maxSteps := 10000000) only [Act.put, List.setIfInBounds_toArray, List.set_cons_zero, List.set_cons_succ, List.getElem_toArray, List.getElem_cons_zero]
  refine wpAnyH_take (i := 1) (v := ?_) rfl (by kernel_rfl) (by kernel_rfl) (by kernel_rfl) (fun _ _ _ h => h) (Or.inl ⟨by rfl, ?_⟩) hS ?_
  rotate_left
  · intro w hSw
    (try dsimp only at hSw)
    go_simp
    (try with_reducible rfl)
  try simp (maxSteps := 10000000) only [Act.put, List.setIfInBounds_toArray, List.set_cons_zero, List.set_cons_succ, List.getElem_toArray, List.getElem_cons_zero, List.getElem_cons_succ]
  refine wpAnyH_take (i := 2) (v := ?_) rfl (by kernel_rfl) (by kernel_rfl) (by kernel_rfl) (fun _ _ _ h => h) (Or.inl ⟨by rfl, ?_⟩) hS ?_
  rotate_left
  · intro w hSw
    (try dsimp only at hSw)
    go_simp
    (try with_reducible rfl)
  try simp (maxSteps := 10000000) only [Act.put, List.setIfInBounds_toArray, List.set_cons_zero, List.set_cons_succ, List.getElem_toArray, List.getElem_cons_zero, List.getElem_cons_succ]
  refine wpAnyH_take (i := 3) (v := ?_) rfl (by kernel_rfl) (by kernel_rfl) (by kernel_rfl) (fun _ _ _ h => h) (Or.inl ⟨by rfl, ?_⟩) hS ?_
  rotate_left
  · intro w hSw
    (try dsimp only at hSw)
    go_simp
    (try with_reducible rfl)
  try simp (maxSteps := 10000000) only [Act.put, List.setIfInBounds_toArray, List.set_cons_zero, List.set_cons_succ, List.getElem_toArray, List.getElem_cons_zero, List.getElem_cons_succ]
  refine wpAnyH_ready (rs := [4]) (by kernel_rfl) (by simp) ?_
  refine AllReadyH.cons rfl (fun K hK => ?_) AllReadyH.nil
  go_simp
  refine (rLateBy b A n c ps _ n cg0 l0 _ h_p HP h_r HA0 x0 HX0).mono ?_
  rintro e w5 ⟨rfl, hb⟩
  have Bw5 : Below w.heap.size w w5 := Bw4.trans (hb.mono Bw4.size)
  replace h_p := h_p.next hb (Nat.le_refl _) hb.size
  replace k1 := k1.below hb k1.lt
  replace h_l := h_l.below hb
  replace h_r := h_r.next hb (Nat.le_refl _) hb.size
  replace c0a := (hb.cell (World.block_lt_of_cell? _ _ c0a)).trans c0a
  clear Bw4
  clear hb
  refine hK.out _ _ ⟨k1.cell 0, k1.cell 1, c0a⟩ (fun hS => ?_)
  clear hK K
  try simp (maxSteps := 10000000) only [Act.put, List.setIfInBounds_toArray, List.set_cons_zero, List.set_cons_succ, List.getElem_toArray, List.getElem_cons_zero, List.getElem_cons_succ]
  refine wpAnyH_take (i := 5) (v := ?_) rfl (by kernel_rfl) (by kernel_rfl) (by kernel_rfl) (fun _ _ _ h => h) (Or.inl ⟨by rfl, ?_⟩) hS ?_
  rotate_left
  · intro w hSw
    (try dsimp only at hSw)
    go_simp
    (try with_reducible rfl)
  try simp (maxSteps := 10000000) only [Act.put, List.setIfInBounds_toArray, List.set_cons_zero, List.set_cons_succ, List.getElem_toArray, List.getElem_cons_zero, List.getElem_cons_succ]
  refine wpAnyH_done (by kernel_rfl) (NoPanic.normal ?_) _
  clear hS
  clear h_r
  clear c0a
  have d_k1_0 := k1.cell 0
  have d_k1_1 := k1.cell 1
  go_wp2
  clear d_k1_0 d_k1_1
  have HB0 : Hid (minOf (LS.take (max 0 1)) = x0) := Lib.hid (by
    have h1 : LS[0]? = some x0 := by rw [← HLS.out, List.getElem?_map, HLl0.out, ← HX0.out]; rfl
    cases LS with
    | nil => cases h1
    | cons y ys =>
      have : y = x0 := by simpa using h1
      subst this
      rfl)
  go_loopw [5, 6] (fun o i wr => ∃ k : Nat, k ≤ NA ∧ i = .int .i64 (k : Int) ∧ o = .int .i64 (minOf (LS.take (max k 1))) ∧ Below w5.heap.size w5 wr) (fun _ i _ => NA - (intOf i).toNat)
  case atStart => exact ⟨0, Nat.zero_le _, rfl, by rw [HB0.out], Below.refl _ _⟩
  case round =>
    obtain ⟨k, hk, rfl, rfl, hb⟩ := hrel
    obtain ⟨mk, HMK⟩ : ∃ z, Hid (minOf (LS.take (max k 1)) = z) := ⟨_, Lib.hid rfl⟩
    rw [HMK.out]
    obtain ⟨w6, hW⟩ : ∃ W : World, wr = W := ⟨_, rfl⟩
    rw [hW] at hb ⊢
    clear hW
    have Bl := hb
    have Bw6 : Below w.heap.size w w6 := Bw5.trans (hb.mono Bw5.size)
    replace h_p := h_p.next hb (Nat.le_refl _) hb.size
    replace k1 := k1.below hb k1.lt
    replace h_l := h_l.below hb
    clear Bw5
    clear hb
    by_cases hlt : k < NA
    · obtain ⟨ad', gr, cg, L, hA, _, _, cl0, HLk, hrow⟩ := h_l.at_ hlt
      obtain rfl : ad = ad' := Option.some.inj hA
      clear hA
      obtain ⟨l, HLl⟩ : ∃ l, Hid ((allR b ps)[k]? = some l) := ⟨_, Lib.hid (List.getElem?_eq_getElem (by rw [HNA.out]; exact hlt))⟩
      have HLo : Hid (L = ofN l) := Lib.hid (by
        have h1 := HLk.out
        rw [List.getElem?_map, HLl.out] at h1
        exact (Option.some.inj h1).symm)
      rw [HLo.out] at hrow
      have HAl : Hid (l ∈ allR b ps) := Lib.hid (List.mem_of_getElem? HLl.out)
      have h_r := hrow.ri
      clear hrow
      obtain ⟨x, HX⟩ : ∃ z, Hid (lateL ps (stepsL b ps l) = z) := ⟨_, Lib.hid rfl⟩
      have HXK : Hid (LS[k]? = some x) := Lib.hid (by rw [← HLS.out, List.getElem?_map, HLl.out, ← HX.out]; rfl)
      have HNX : Hid (minOf (LS.take (max (k + 1) 1)) = if x < mk then x else mk) := Lib.hid (by
        rcases Nat.eq_zero_or_pos k with h0 | h0
        · have h1 := HMK.out
          have h2 := HXK.out
          rw [h0] at h1 h2
          rw [h0, show max (0 + 1) 1 = 1 from rfl]
          rw [show max 0 1 = 1 from rfl] at h1
          have h3 : mk = x := by
            rw [← h1]
            cases LS with
            | nil => cases h2
            | cons y ys =>
              have : y = x := by simpa using h2
              subst this
              rfl
          rw [h1, h3]
          split <;> rfl
        · rw [show max (k + 1) 1 = k + 1 by omega, take_snoc HXK.out, minOf_snoc (by
            intro e
            have h1 := congrArg List.length e
            rw [List.length_take, HLSN.out] at h1
            simp at h1
            omega)]
          have h1 := HMK.out
          rw [show max k 1 = k by omega] at h1
          rw [h1])
      by_cases hv : x < mk
      · have HNX2 : Hid (minOf (LS.take (max (k + 1) 1)) = x) := Lib.hid (by rw [HNX.out, if_pos hv])
        have d_k1_0 := k1.cell 0
        have d_k1_1 := k1.cell 1
        go_wp2
        clear d_k1_0 d_k1_1
        have e_k1_0 := k1.drew.cell 0
        have e_k1_1 := k1.drew.cell 1
        have e_cl0 : w6.drew.cell? (ad.add k) = some (.slice (some ⟨gr, 0, none⟩) n cg) := cl0
        refine wp_region_noPanic ?_
        refine wp_region_held_drew (S := fun V => V.cell? ⟨u1, 0, none⟩ = some (.int .i64 b) ∧ V.cell? ⟨u1, 1, none⟩ = some (.slice A n c) ∧ V.cell? (ad.add k) = some (.slice (some ⟨gr, 0, none⟩) n cg)) hmix ⟨e_k1_0, e_k1_1, e_cl0⟩ (fun hS => ?_)
        clear e_k1_0 e_k1_1 e_cl0
        obtain ⟨w7, hW⟩ : ∃ W, w6.drew = W := ⟨_, rfl⟩
        have hb : Below w6.heap.size w6 w7 := hW ▸ below_drewN (Below.refl _ _) 1
        rw [hW] at hS ⊢
        clear hW
        have Bw7 : Below w.heap.size w w7 := Bw6.trans (hb.mono Bw6.size)
        replace h_p := h_p.next hb (Nat.le_refl _) hb.size
        replace k1 := k1.below hb k1.lt
        replace h_l := h_l.below hb
        replace Bl := Bl.trans (hb.mono Bl.size)
        replace h_r := h_r.next hb (Nat.le_refl _) hb.size
        replace cl0 := (hb.cell (World.block_lt_of_cell? _ _ cl0)).trans cl0
        clear Bw6
        clear hb
        refine wpAnyH_take (i := 0) (v := ?_) rfl (by kernel_rfl) (by kernel_rfl) (by kernel_rfl) (fun _ _ _ h => h) (Or.inl ⟨by rfl, ?_⟩) hS ?_
        rotate_left
        · intro w hSw
          (try dsimp only at hSw)
          go_simp
          (try with_reducible rfl)
        try simp (maxSteps := 10000000) only [Act.put, List.setIfInBounds_toArray, List.set_cons_zero, List.set_cons_succ, List.getElem_toArray, List.getElem_cons_zero]
        refine wpAnyH_take (i := 1) (v := ?_) rfl (by kernel_rfl) (by kernel_rfl) (by kernel_rfl) (fun _ _ _ h => h) (Or.inl ⟨by rfl, ?_⟩) hS ?_
        rotate_left
        · intro w hSw
          (try dsimp only at hSw)
          go_simp
          (try with_reducible rfl)
        try simp (maxSteps := 10000000) only [Act.put, List.setIfInBounds_toArray, List.set_cons_zero, List.set_cons_succ, List.getElem_toArray, List.getElem_cons_zero, List.getElem_cons_succ]
        refine wpAnyH_take (i := 2) (v := ?_) rfl (by kernel_rfl) (by kernel_rfl) (by kernel_rfl) (fun _ _ _ h => h) (Or.inl ⟨by rfl, ?_⟩) hS ?_
        rotate_left
        · intro w hSw
          (try dsimp only at hSw)
          go_simp
          (try with_reducible rfl)
        try simp (maxSteps := 10000000) only [Act.put, List.setIfInBounds_toArray, List.set_cons_zero, List.set_cons_succ, List.getElem_toArray, List.getElem_cons_zero, List.getElem_cons_succ]
        refine wpAnyH_take (i := 3) (v := ?_) rfl (by kernel_rfl) (by kernel_rfl) (by kernel_rfl) (fun _ _ _ h => h) (Or.inl ⟨by rfl, ?_⟩) hS ?_
        rotate_left
        · intro w hSw
          (try dsimp only at hSw)
          go_simp
          (try with_reducible rfl)
        try simp (maxSteps := 10000000) only [Act.put, List.setIfInBounds_toArray, List.set_cons_zero, List.set_cons_succ, List.getElem_toArray, List.getElem_cons_zero, List.getElem_cons_succ]
        refine wpAnyH_take (i := 4) (v := ?_) rfl (by kernel_rfl) (by kernel_rfl) (by kernel_rfl) (fun _ _ _ h => h) (Or.inl ⟨by rfl, ?_⟩) hS ?_
        rotate_left
        · intro w hSw
          (try dsimp only at hSw)
          go_simp
          (try with_reducible rfl)
        try simp (maxSteps := 10000000) only [Act.put, List.setIfInBounds_toArray, List.set_cons_zero, List.set_cons_succ, List.getElem_toArray, List.getElem_cons_zero, List.getElem_cons_succ]
        refine wpAnyH_take (i := 5) (v := ?_) rfl (by kernel_rfl) (by kernel_rfl) (by kernel_rfl) (fun _ _ _ h => h) (Or.inl ⟨by rfl, ?_⟩) hS ?_
        rotate_left
        · intro w hSw
          (try dsimp only at hSw)
          go_simp
          (try with_reducible rfl)
        try simp (maxSteps := 10000000) only [Act.put, List.setIfInBounds_toArray, List.set_cons_zero, List.set_cons_succ, List.getElem_toArray, List.getElem_cons_zero, List.getElem_cons_succ]
        refine wpAnyH_ready (rs := [6]) (by kernel_rfl) (by simp) ?_
        refine AllReadyH.cons rfl (fun K hK => ?_) AllReadyH.nil
        go_simp
        refine (rLateBy b A n c ps _ n cg l _ h_p HP h_r HAl x HX).mono ?_
        rintro e w8 ⟨rfl, hb⟩
        have Bw8 : Below w.heap.size w w8 := Bw7.trans (hb.mono Bw7.size)
        replace h_p := h_p.next hb (Nat.le_refl _) hb.size
        replace k1 := k1.below hb k1.lt
        replace h_l := h_l.below hb
        replace Bl := Bl.trans (hb.mono Bl.size)
        replace h_r := h_r.next hb (Nat.le_refl _) hb.size
        replace cl0 := (hb.cell (World.block_lt_of_cell? _ _ cl0)).trans cl0
        clear Bw7
        clear hb
        refine hK.out _ _ ⟨k1.cell 0, k1.cell 1, cl0⟩ (fun hS => ?_)
        clear hK K
        try simp (maxSteps := 10000000) only [Act.put, List.setIfInBounds_toArray, List.set_cons_zero, List.set_cons_succ, List.getElem_toArray, List.getElem_cons_zero, List.getElem_cons_succ]
        refine wpAnyH_take (i := 7) (v := ?_) rfl (by kernel_rfl) (by kernel_rfl) (by kernel_rfl) (fun _ _ _ h => h) (Or.inl ⟨by rfl, ?_⟩) hS ?_
        rotate_left
        · intro w hSw
          (try dsimp only at hSw)
          go_simp
          (try with_reducible rfl)
        try simp (maxSteps := 10000000) only [Act.put, List.setIfInBounds_toArray, List.set_cons_zero, List.set_cons_succ, List.getElem_toArray, List.getElem_cons_zero, List.getElem_cons_succ]
        refine wpAnyH_take (i := 8) (v := ?_) rfl (by kernel_rfl) (by kernel_rfl) (by kernel_rfl) (fun _ _ _ h => h) (Or.inl ⟨by rfl, ?_⟩) hS ?_
        rotate_left
        · intro w hSw
          (try dsimp only at hSw)
          go_simp
          (try with_reducible rfl)
        try simp (maxSteps := 10000000) only [Act.put, List.setIfInBounds_toArray, List.set_cons_zero, List.set_cons_succ, List.getElem_toArray, List.getElem_cons_zero, List.getElem_cons_succ]
        refine wpAnyH_done (by kernel_rfl) (NoPanic.normal ?_) _
        clear hS
        have d_k1_0 := k1.cell 0
        have d_k1_1 := k1.cell 1
        go_wp2
        clear d_k1_0 d_k1_1
        go_roundw
        case rel => exact ⟨k + 1, by omega, by go_num, by first | (rw [HNX2.out]; done) | rw [HNX.out], Bl⟩
        case measure => simp [intOf]; omega
      · have HNX2 : Hid (minOf (LS.take (max (k + 1) 1)) = mk) := Lib.hid (by rw [HNX.out, if_neg hv])
        have d_k1_0 := k1.cell 0
        have d_k1_1 := k1.cell 1
        go_wp2
        clear d_k1_0 d_k1_1
        have e_k1_0 := k1.drew.cell 0
        have e_k1_1 := k1.drew.cell 1
        have e_cl0 : w6.drew.cell? (ad.add k) = some (.slice (some ⟨gr, 0, none⟩) n cg) := cl0
        refine wp_region_noPanic ?_
        refine wp_region_held_drew (S := fun V => V.cell? ⟨u1, 0, none⟩ = some (.int .i64 b) ∧ V.cell? ⟨u1, 1, none⟩ = some (.slice A n c) ∧ V.cell? (ad.add k) = some (.slice (some ⟨gr, 0, none⟩) n cg)) hmix ⟨e_k1_0, e_k1_1, e_cl0⟩ (fun hS => ?_)
        clear e_k1_0 e_k1_1 e_cl0
        obtain ⟨w7, hW⟩ : ∃ W, w6.drew = W := ⟨_, rfl⟩
        have hb : Below w6.heap.size w6 w7 := hW ▸ below_drewN (Below.refl _ _) 1
        rw [hW] at hS ⊢
        clear hW
        have Bw7 : Below w.heap.size w w7 := Bw6.trans (hb.mono Bw6.size)
        replace h_p := h_p.next hb (Nat.le_refl _) hb.size
        replace k1 := k1.below hb k1.lt
        replace h_l := h_l.below hb
        replace Bl := Bl.trans (hb.mono Bl.size)
        replace h_r := h_r.next hb (Nat.le_refl _) hb.size
        replace cl0 := (hb.cell (World.block_lt_of_cell? _ _ cl0)).trans cl0
        clear Bw6
        clear hb
        refine wpAnyH_take (i := 0) (v := ?_) rfl (by kernel_rfl) (by kernel_rfl) (by kernel_rfl) (fun _ _ _ h => h) (Or.inl ⟨by rfl, ?_⟩) hS ?_
        rotate_left
        · intro w hSw
          (try dsimp only at hSw)
          go_simp
          (try with_reducible rfl)
        try simp (maxSteps := 10000000) only [Act.put, List.setIfInBounds_toArray, List.set_cons_zero, List.set_cons_succ, List.getElem_toArray, List.getElem_cons_zero]
        refine wpAnyH_take (i := 1) (v := ?_) rfl (by kernel_rfl) (by kernel_rfl) (by kernel_rfl) (fun _ _ _ h => h) (Or.inl ⟨by rfl, ?_⟩) hS ?_
        rotate_left
        · intro w hSw
          (try dsimp only at hSw)
          go_simp
          (try with_reducible rfl)
        try simp (maxSteps := 10000000) only [Act.put, List.setIfInBounds_toArray, List.set_cons_zero, List.set_cons_succ, List.getElem_toArray, List.getElem_cons_zero, List.getElem_cons_succ]
        refine wpAnyH_take (i := 2) (v := ?_) rfl (by kernel_rfl) (by kernel_rfl) (by kernel_rfl) (fun _ _ _ h => h) (Or.inl ⟨by rfl, ?_⟩) hS ?_
        rotate_left
        · intro w hSw
          (try dsimp only at hSw)
          go_simp
          (try with_reducible rfl)
        try simp (maxSteps := 10000000) only [Act.put, List.setIfInBounds_toArray, List.set_cons_zero, List.set_cons_succ, List.getElem_toArray, List.getElem_cons_zero, List.getElem_cons_succ]
        refine wpAnyH_take (i := 3) (v := ?_) rfl (by kernel_rfl) (by kernel_rfl) (by kernel_rfl) (fun _ _ _ h => h) (Or.inl ⟨by rfl, ?_⟩) hS ?_
        rotate_left
        · intro w hSw
          (try dsimp only at hSw)
          go_simp
          (try with_reducible rfl)
        try simp (maxSteps := 10000000) only [Act.put, List.setIfInBounds_toArray, List.set_cons_zero, List.set_cons_succ, List.getElem_toArray, List.getElem_cons_zero, List.getElem_cons_succ]
        refine wpAnyH_take (i := 4) (v := ?_) rfl (by kernel_rfl) (by kernel_rfl) (by kernel_rfl) (fun _ _ _ h => h) (Or.inl ⟨by rfl, ?_⟩) hS ?_
        rotate_left
        · intro w hSw
          (try dsimp only at hSw)
          go_simp
          (try with_reducible rfl)
        try simp (maxSteps := 10000000) only [Act.put, List.setIfInBounds_toArray, List.set_cons_zero, List.set_cons_succ, List.getElem_toArray, List.getElem_cons_zero, List.getElem_cons_succ]
        refine wpAnyH_take (i := 5) (v := ?_) rfl (by kernel_rfl) (by kernel_rfl) (by kernel_rfl) (fun _ _ _ h => h) (Or.inl ⟨by rfl, ?_⟩) hS ?_
        rotate_left
        · intro w hSw
          (try dsimp only at hSw)
          go_simp
          (try with_reducible rfl)
        try simp (maxSteps := 10000000) only [Act.put, List.setIfInBounds_toArray, List.set_cons_zero, List.set_cons_succ, List.getElem_toArray, List.getElem_cons_zero, List.getElem_cons_succ]
        refine wpAnyH_ready (rs := [6]) (by kernel_rfl) (by simp) ?_
        refine AllReadyH.cons rfl (fun K hK => ?_) AllReadyH.nil
        go_simp
        refine (rLateBy b A n c ps _ n cg l _ h_p HP h_r HAl x HX).mono ?_
        rintro e w8 ⟨rfl, hb⟩
        have Bw8 : Below w.heap.size w w8 := Bw7.trans (hb.mono Bw7.size)
        replace h_p := h_p.next hb (Nat.le_refl _) hb.size
        replace k1 := k1.below hb k1.lt
        replace h_l := h_l.below hb
        replace Bl := Bl.trans (hb.mono Bl.size)
        replace h_r := h_r.next hb (Nat.le_refl _) hb.size
        replace cl0 := (hb.cell (World.block_lt_of_cell? _ _ cl0)).trans cl0
        clear Bw7
        clear hb
        refine hK.out _ _ ⟨k1.cell 0, k1.cell 1, cl0⟩ (fun hS => ?_)
        clear hK K
        try simp (maxSteps := 10000000) only [Act.put, List.setIfInBounds_toArray, List.set_cons_zero, List.set_cons_succ, List.getElem_toArray, List.getElem_cons_zero, List.getElem_cons_succ]
        refine wpAnyH_take (i := 7) (v := ?_) rfl (by kernel_rfl) (by kernel_rfl) (by kernel_rfl) (fun _ _ _ h => h) (Or.inl ⟨by rfl, ?_⟩) hS ?_
        rotate_left
        · intro w hSw
          (try dsimp only at hSw)
          go_simp
          (try with_reducible rfl)
        try simp (maxSteps := 10000000) only [Act.put, List.setIfInBounds_toArray, List.set_cons_zero, List.set_cons_succ, List.getElem_toArray, List.getElem_cons_zero, List.getElem_cons_succ]
        refine wpAnyH_take (i := 8) (v := ?_) rfl (by kernel_rfl) (by kernel_rfl) (by kernel_rfl) (fun _ _ _ h => h) (Or.inl ⟨by rfl, ?_⟩) hS ?_
        rotate_left
        · intro w hSw
          (try dsimp only at hSw)
          go_simp
          (try with_reducible rfl)
        try simp (maxSteps := 10000000) only [Act.put, List.setIfInBounds_toArray, List.set_cons_zero, List.set_cons_succ, List.getElem_toArray, List.getElem_cons_zero, List.getElem_cons_succ]
        refine wpAnyH_done (by kernel_rfl) (NoPanic.normal ?_) _
        clear hS
        have d_k1_0 := k1.cell 0
        have d_k1_1 := k1.cell 1
        go_wp2
        clear d_k1_0 d_k1_1
        go_roundw
        case rel => exact ⟨k + 1, by omega, by go_num, by first | (rw [HNX2.out]; done) | rw [HNX.out], Bl⟩
        case measure => simp [intOf]; omega
    · have HE : Hid (v = (mk, 0)) := Lib.hid (by
        rw [← HV.out, ← HMK.out, List.take_of_length_le (by rw [HLSN.out]; omega), ← HLS.out]
        unfold delayS
        rw [HQ.out, if_pos rfl])
      go_wp2
      go_ret2
      exact ⟨by rw [HE.out]; rfl, Bw6⟩
end Go.Proofs.Ytaekjnjignlmoaa
