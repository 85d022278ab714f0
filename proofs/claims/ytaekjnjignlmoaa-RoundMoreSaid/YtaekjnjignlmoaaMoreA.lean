/-
  A part of RoundMore: the first stop goes.
-/
import Derived.Test.YtaekjnjignlmoaaWorks
import Derived.Test.YtaekjnjignlmoaaRowP
import Derived.Test.YtaekjnjignlmoaaWl
import Derived.Test.YtaekjnjignlmoaaWk
import Derived.Test.YtaekjnjignlmoaaEth
import Derived.Test.YtaekjnjignlmoaaMth
namespace Go.Proofs.Ytaekjnjignlmoaa
open Go.Shelf Go.ChangeShapes Go.WideShapes Go.ChangeAt Go.RowKit

set_option maxRecDepth 100000 in
set_option maxHeartbeats 32000000 in
theorem wMoreA (b : Int) (A : Option Addr) (n c : Nat) (ps : List (Int × Int)) (Y : Option Addr) (my cy : Nat) (bs : List Int) (y0 : Int) (hy0 : 0 ≤ y0) (hy1 : y0 ≤ 255) (z0 : Int) (hz0 : 0 ≤ z0) (hz1 : z0 ≤ 65535) (w : World) (hx : Rp w w.heap.size A n ps) (hc : n ≤ c) (hy : Ru w w.heap.size Y my bs) :
    Calls Try.prog 13 #[.agg #[.int .i64 b, .slice A n c], .slice Y my cy, .bool false, .int .u8 y0, .int .u16 z0] w (RetB w true) := by
  have h_p := hx
  have h_y := hy
  by_cases hf : n ≤ 14 ∧ checkPier b ps = 0
  rotate_left
  · have HF : Hid (decide (n ≤ 14 ∧ checkPier b ps = 0) = false) := Lib.hid (decide_eq_false hf)
    have k1 := Bk.new w 24 #[.int .i64 b, .slice A n c]
    have hb : Below w.heap.size w (w.alloc (.cells #[.int .i64 b, .slice A n c] 24)) := (Below.refl _ _).alloc (Nat.le_refl _) _
    have d0 := k1.cell 0
    have d1 := k1.cell 1
    go_enter Try.func13, Try.ntmps13
    go_wp2_with fail
    clear d0 d1
    obtain ⟨u1, hu⟩ : ∃ k, w.heap.size = k := ⟨_, rfl⟩
    obtain ⟨w1, hW⟩ : ∃ W, w.alloc (.cells #[.int .i64 b, .slice A n c] 24) = W := ⟨_, rfl⟩
    rw [hW] at k1 hb ⊢
    rw [hu] at k1 ⊢
    clear hW hu
    have Bw1 : Below w.heap.size w w1 := hb
    replace h_y := h_y.next hb (Nat.le_refl _) hb.size
    replace h_p := h_p.next hb (Nat.le_refl _) hb.size
    clear hb
    refine (aFine b A n c ps _ h_p _ HF).mono ?_
    rintro e w2 ⟨rfl, hb⟩
    have Bw2 : Below w.heap.size w w2 := Bw1.trans (hb.mono Bw1.size)
    replace h_y := h_y.next hb (Nat.le_refl _) hb.size
    replace h_p := h_p.next hb (Nat.le_refl _) hb.size
    replace k1 := k1.below hb k1.lt
    clear Bw1
    clear hb
    have d_k1_0 := k1.cell 0
    have d_k1_1 := k1.cell 1
    go_wp2_with fail
    clear d_k1_0 d_k1_1
    refine (aWorks _).mono ?_
    rintro e w3 ⟨rfl, hb⟩
    have Bw3 : Below w.heap.size w w3 := Bw2.trans (hb.mono Bw2.size)
    replace h_y := h_y.next hb (Nat.le_refl _) hb.size
    replace h_p := h_p.next hb (Nat.le_refl _) hb.size
    replace k1 := k1.below hb k1.lt
    clear Bw2
    clear hb
    go_wp2
    go_ret
    exact ⟨rfl, Bw3⟩
  have HF : Hid (decide (n ≤ 14 ∧ checkPier b ps = 0) = true) := Lib.hid (decide_eq_true hf)
  have HP : Hid (Pier b ps) := Lib.hid (checkPier_ok.1 hf.2)
  have HL := Lib.hid hx.len
  have hn1 : 1 ≤ n := by rw [← HL.out]; exact HP.out.lo
  have hn10 : n ≤ 10 := by rw [← HL.out]; exact HP.out.hi
  clear hf
  by_cases hm40 : 40 < my
  · have k1 := Bk.new w 24 #[.int .i64 b, .slice A n c]
    have hb : Below w.heap.size w (w.alloc (.cells #[.int .i64 b, .slice A n c] 24)) := (Below.refl _ _).alloc (Nat.le_refl _) _
    have d0 := k1.cell 0
    have d1 := k1.cell 1
    go_enter Try.func13, Try.ntmps13
    go_wp2_with fail
    clear d0 d1
    obtain ⟨u1, hu⟩ : ∃ k, w.heap.size = k := ⟨_, rfl⟩
    obtain ⟨w1, hW⟩ : ∃ W, w.alloc (.cells #[.int .i64 b, .slice A n c] 24) = W := ⟨_, rfl⟩
    rw [hW] at k1 hb ⊢
    rw [hu] at k1 ⊢
    clear hW hu
    have Bw1 : Below w.heap.size w w1 := hb
    replace h_y := h_y.next hb (Nat.le_refl _) hb.size
    replace h_p := h_p.next hb (Nat.le_refl _) hb.size
    clear hb
    refine (aFine b A n c ps _ h_p _ HF).mono ?_
    rintro e w2 ⟨rfl, hb⟩
    have Bw2 : Below w.heap.size w w2 := Bw1.trans (hb.mono Bw1.size)
    replace h_y := h_y.next hb (Nat.le_refl _) hb.size
    replace h_p := h_p.next hb (Nat.le_refl _) hb.size
    replace k1 := k1.below hb k1.lt
    clear Bw1
    clear hb
    have d_k1_0 := k1.cell 0
    have d_k1_1 := k1.cell 1
    go_wp2_with fail
    clear d_k1_0 d_k1_1
    refine (aWorks _).mono ?_
    rintro e w3 ⟨rfl, hb⟩
    have Bw3 : Below w.heap.size w w3 := Bw2.trans (hb.mono Bw2.size)
    replace h_y := h_y.next hb (Nat.le_refl _) hb.size
    replace h_p := h_p.next hb (Nat.le_refl _) hb.size
    replace k1 := k1.below hb k1.lt
    clear Bw2
    clear hb
    go_wp2
    go_ret
    exact ⟨rfl, Bw3⟩
  have hmix : Try.prog.follows .mixedOrders = true := by kernel_rfl
  obtain ⟨NG, HNG⟩ : ∃ N, Hid ((goodR b ps).length = N) := ⟨_, Lib.hid rfl⟩
  have hNGb : NG ≤ 252 := by rw [← HNG.out]; exact good_count b ps HP.out
  have HC : Hid (countS b ps = ((NG : Int), 0)) := Lib.hid (by unfold countS; rw [if_pos (checkPier_ok.2 HP.out), HNG.out])
  obtain ⟨t, HT0⟩ : ∃ t : Nat, Hid (y0 % (n : Int) = (t : Int)) := ⟨(y0 % (n : Int)).toNat, Lib.hid (by have := Int.emod_nonneg y0 (b := (n : Int)) (by omega); omega)⟩
  have ht3 : y0.tmod (n : Int) = (t : Int) := (Int.tmod_eq_emod_of_nonneg hy0).trans HT0.out
  have ht4 : y0 % (n : Int) = (t : Int) := HT0.out
  have htn : t < n := by have := Int.emod_lt_of_pos y0 (b := (n : Int)) (by omega); have := HT0.out; omega
  have hn0 : ¬ n = 0 := by omega
  have hwy : IntKind.i64.wrap y0 = y0 := IntWalk.i64_in _ (by omega)
  have hwz0 : IntKind.i64.wrap z0 = z0 := IntWalk.i64_in _ (by omega)
  obtain ⟨tv, HTO⟩ : ∃ x, Hid (too ps t = x) := ⟨_, Lib.hid rfl⟩
  have htv : 0 ≤ tv ∧ tv ≤ 9000 := by have := HP.out.at_ t; rw [HTO.out] at this; omega
  have hwa : IntKind.i64.wrap (tv + z0) = tv + z0 := IntWalk.i64_in _ (by omega)
  have k1 := Bk.new w 24 #[.int .i64 b, .slice A n c]
  have hb : Below w.heap.size w (w.alloc (.cells #[.int .i64 b, .slice A n c] 24)) := (Below.refl _ _).alloc (Nat.le_refl _) _
  have d0 := k1.cell 0
  have d1 := k1.cell 1
  go_enter Try.func13, Try.ntmps13
  go_wp2_with fail
  clear d0 d1
  obtain ⟨u1, hu⟩ : ∃ k, w.heap.size = k := ⟨_, rfl⟩
  obtain ⟨w1, hW⟩ : ∃ W, w.alloc (.cells #[.int .i64 b, .slice A n c] 24) = W := ⟨_, rfl⟩
  rw [hW] at k1 hb ⊢
  rw [hu] at k1 ⊢
  clear hW hu
  have Bw1 : Below w.heap.size w w1 := hb
  replace h_y := h_y.next hb (Nat.le_refl _) hb.size
  replace h_p := h_p.next hb (Nat.le_refl _) hb.size
  clear hb
  refine (aFine b A n c ps _ h_p _ HF).mono ?_
  rintro e w2 ⟨rfl, hb⟩
  have Bw2 : Below w.heap.size w w2 := Bw1.trans (hb.mono Bw1.size)
  replace h_y := h_y.next hb (Nat.le_refl _) hb.size
  replace h_p := h_p.next hb (Nat.le_refl _) hb.size
  replace k1 := k1.below hb k1.lt
  clear Bw1
  clear hb
  have d_k1_0 := k1.cell 0
  have d_k1_1 := k1.cell 1
  go_wp2_with fail
  clear d_k1_0 d_k1_1
  refine (fCount b A n c ps _ h_p (by omega) hc ((NG : Int), 0) HC).mono ?_
  rintro e w3 ⟨rfl, hb⟩
  have Bw3 : Below w.heap.size w w3 := Bw2.trans (hb.mono Bw2.size)
  replace h_y := h_y.next hb (Nat.le_refl _) hb.size
  replace h_p := h_p.next hb (Nat.le_refl _) hb.size
  replace k1 := k1.below hb k1.lt
  clear Bw2
  clear hb
  have d_k1_0 := k1.cell 0
  have d_k1_1 := k1.cell 1
  go_wp2
  clear d_k1_0 d_k1_1
  rename_i K0 hK0
  refine wp_cut (fun a a' V => ∃ (q u cap : Nat) (ad : Addr) , a' = (Act.put (Act.put (Act.put (Act.put (Act.put (Act.put (Act.put (Act.put a (some 45) (.pointer (some ⟨u1, 0, none⟩))) (some 46) (.int .i64 b)) (some 48) (.pointer (some ⟨u1, 1, none⟩))) (some 49) (.slice A n c)) (some 47) (.slice (some ⟨q, 0, none⟩) 0 0)) (some 50) (.slice (some ad) n cap)) (some 51) (.agg #[.int .i64 b, .slice (some ad) n cap])) (some 13) (.pointer (some ⟨u, 0, none⟩))) ∧ Below w3.heap.size w3 V ∧ Bk V u 24 #[.int .i64 b, .slice (some ad) n cap] ∧ Os V w3.heap.size (some ad) n cap (ps)) ?_ ?_
  · have d0 : w3.drew.cell? ⟨u1, 0, none⟩ = some (.int .i64 b) := k1.drew.cell 0
    have d1 : w3.drew.cell? ⟨u1, 1, none⟩ = some (.slice A n c) := k1.drew.cell 1
    refine wp_region_noPanic ?_
    refine wp_region_held_drew (S := fun V => V.cell? ⟨u1, 0, none⟩ = some (.int .i64 b) ∧ V.cell? ⟨u1, 1, none⟩ = some (.slice A n c)) hmix ⟨d0, d1⟩ (fun hS => ?_)
    clear d0 d1
    obtain ⟨V0, hW⟩ : ∃ V, w3.drew = V := ⟨_, rfl⟩
    have hb : Below w3.heap.size w3 V0 := hW ▸ below_drewN (Below.refl _ _) 1
    rw [hW] at hS ⊢
    clear hW
    refine wpAnyH_take (i := 0) (v := ?_) rfl (by kernel_rfl) (by kernel_rfl) (by kernel_rfl) (fun _ _ _ h => h) (Or.inl ⟨by rfl, ?_⟩) hS ?_
    rotate_left
    · intro w hSw
      (try dsimp only at hSw)
      go_simp
      (try with_reducible rfl)
    try simp (maxSteps := 10000000) only [Act.put, List.setIfInBounds_toArray, List.set_cons_zero, List.set_cons_succ, List.getElem_toArray, List.getElem_cons_zero]
    refine wpAnyH_take (i := 1) (v := ?_) rfl (by kernel_rfl) (by kernel_rfl) (by kernel_rfl) (fun _ _ _ h => h) (Or.inl ⟨by rfl, ?_⟩) hS ?_
    rotate_left
    · intro w hSw
      (try dsimp only at hSw)
      go_simp
      (try with_reducible rfl)
    try simp (maxSteps := 10000000) only [Act.put, List.setIfInBounds_toArray, List.set_cons_zero, List.set_cons_succ, List.getElem_toArray, List.getElem_cons_zero, List.getElem_cons_succ]
    refine wpAnyH_take (i := 3) (v := ?_) rfl (by kernel_rfl) (by kernel_rfl) (by kernel_rfl) (fun _ _ _ h => h) (Or.inl ⟨by rfl, ?_⟩) hS ?_
    rotate_left
    · intro w hSw
      (try dsimp only at hSw)
      go_simp
      (try with_reducible rfl)
    try simp (maxSteps := 10000000) only [Act.put, List.setIfInBounds_toArray, List.set_cons_zero, List.set_cons_succ, List.getElem_toArray, List.getElem_cons_zero, List.getElem_cons_succ]
    refine wpAnyH_take (i := 4) (v := ?_) rfl (by kernel_rfl) (by kernel_rfl) (by kernel_rfl) (fun _ _ _ h => h) (Or.inl ⟨by rfl, ?_⟩) hS ?_
    rotate_left
    · intro w hSw
      (try dsimp only at hSw)
      go_simp
      (try with_reducible rfl)
    try simp (maxSteps := 10000000) only [Act.put, List.setIfInBounds_toArray, List.set_cons_zero, List.set_cons_succ, List.getElem_toArray, List.getElem_cons_zero, List.getElem_cons_succ]
    refine wpAnyH_ready (rs := [2, 7]) (by kernel_rfl) (by simp) ?_
    refine AllReadyH.cons rfl (fun K hK => ?_) (AllReadyH.cons rfl (fun K hK => ?_) AllReadyH.nil)
    · go_simp
      have ho := (Os.lit0 V0).base hb.size
      replace hb := hb.alloc hb.size (.cells #[] 67)
      obtain ⟨q, hu⟩ : ∃ k, V0.heap.size = k := ⟨_, rfl⟩
      obtain ⟨V1, hW⟩ : ∃ W, V0.alloc (.cells #[] 67) = W := ⟨_, rfl⟩
      rw [hW] at ho hb  ⊢
      rw [hu] at ho ⊢
      clear hW hu
      refine hK.out _ _ ⟨(k1.below hb k1.lt).cell 0, (k1.below hb k1.lt).cell 1⟩ (fun hS => ?_)
      clear hK K
      try simp (maxSteps := 10000000) only [Act.put, List.setIfInBounds_toArray, List.set_cons_zero, List.set_cons_succ, List.getElem_toArray, List.getElem_cons_zero, List.getElem_cons_succ]
      refine wpAnyH_ready (rs := [5, 7]) (by kernel_rfl) (by simp) ?_
      refine AllReadyH.cons rfl (fun K hK => ?_) (AllReadyH.cons rfl (fun K hK => ?_) AllReadyH.nil)
      · refine step_push_stops rfl (.tmp 47) (.tmp 49) rfl w3.heap.size (some ⟨q, 0, none⟩) (0) 0 ([]) rfl ho _ A (n) c (ps) rfl (h_p.below hb) (by omega) (by omega) hb.size ?_
        intro A1 cap1 V2 ho2 hg
        have hb2 := hb.grown hg hb.size (fun r e => (ho.lt r e).1)
        replace ho := ho2
        replace hb := hb2
        clear ho2 hb2 hg
        try simp only [Nat.zero_add, List.nil_append] at ho ⊢
        have hnl : n = n := by omega
        rw [hnl] at ho ⊢
        clear hnl
        obtain ⟨ad, hA⟩ : ∃ ad, A1 = some ad := by
          obtain ⟨g, hA, _⟩ := ho.row (by omega)
          exact ⟨_, hA⟩
        subst hA
        obtain ⟨cap, hcap⟩ : ∃ k, cap1 = k := ⟨_, rfl⟩
        rw [hcap] at ho ⊢
        clear hcap
        refine hK.out _ _ ⟨(k1.below hb k1.lt).cell 0, (k1.below hb k1.lt).cell 1⟩ (fun hS => ?_)
        clear hK K
        try simp (maxSteps := 10000000) only [Act.put, List.setIfInBounds_toArray, List.set_cons_zero, List.set_cons_succ, List.getElem_toArray, List.getElem_cons_zero, List.getElem_cons_succ]
        refine wpAnyH_take (i := 6) (v := ?_) rfl (by kernel_rfl) (by kernel_rfl) (by kernel_rfl) (fun _ _ _ h => h) (Or.inl ⟨by rfl, ?_⟩) hS ?_
        rotate_left
        · intro w hSw
          (try dsimp only at hSw)
          go_simp
          (try with_reducible rfl)
        try simp (maxSteps := 10000000) only [Act.put, List.setIfInBounds_toArray, List.set_cons_zero, List.set_cons_succ, List.getElem_toArray, List.getElem_cons_zero, List.getElem_cons_succ]
        refine wpAnyH_ready (rs := [7]) (by kernel_rfl) (by simp) ?_
        refine AllReadyH.cons rfl (fun K hK => ?_) AllReadyH.nil
        go_simp
        have kb := Bk.new V2 24 #[.int .i64 0, .slice none 0 0]
        have hub := hb.size
        replace hb := hb.alloc hb.size (.cells #[.int .i64 0, .slice none 0 0] 24)
        replace ho := ho.alloc (.cells #[.int .i64 0, .slice none 0 0] 24)
        obtain ⟨u, hu⟩ : ∃ k, V2.heap.size = k := ⟨_, rfl⟩
        obtain ⟨V3, hW⟩ : ∃ W, V2.alloc (.cells #[.int .i64 0, .slice none 0 0] 24) = W := ⟨_, rfl⟩
        rw [hW] at kb hb ho ⊢
        rw [hu] at kb hub ⊢
        clear hW hu
        refine hK.out _ _ ⟨(k1.below hb k1.lt).cell 0, (k1.below hb k1.lt).cell 1⟩ (fun hS => ?_)
        clear hK K
        try simp (maxSteps := 10000000) only [Act.put, List.setIfInBounds_toArray, List.set_cons_zero, List.set_cons_succ, List.getElem_toArray, List.getElem_cons_zero, List.getElem_cons_succ]
        refine wpAnyH_ready (rs := [8]) (by kernel_rfl) (by simp) ?_
        refine AllReadyH.cons rfl (fun K hK => ?_) AllReadyH.nil
        have c0 := kb.cell 0
        have c1 := kb.cell 1
        have f0 := kb.frozen 0
        have f1 := kb.frozen 1
        go_simp
        clear c0 c1 f0 f1
        have hbs := (hb.setCell (p := ⟨u, 0, none⟩) hub (.int .i64 b)).setCell (p := ⟨u, 1, none⟩) hub (.slice (some ad) n cap)
        have kbs := (kb.set_ 0 (.int .i64 b)).set_ 1 (.slice (some ad) n cap)
        have hos := (ho.setOther (p := ⟨u, 0, none⟩) (ho.bk_ne kb (by decide)) (.int .i64 b)).setOther (p := ⟨u, 1, none⟩) (ho.bk_ne kb (by decide)) (.slice (some ad) n cap)
        refine hK.out _ _ ⟨(k1.below hbs k1.lt).cell 0, (k1.below hbs k1.lt).cell 1⟩ (fun hS => ?_)
        clear hK K
        try simp (maxSteps := 10000000) only [Act.put, List.setIfInBounds_toArray, List.set_cons_zero, List.set_cons_succ, List.getElem_toArray, List.getElem_cons_zero, List.getElem_cons_succ]
        refine wpAnyH_done (by kernel_rfl) (NoPanic.normal ?_) _
        exact ⟨q, u, cap, ad, rfl, hbs, kbs, hos⟩
      · go_simp
        have kb := Bk.new V1 24 #[.int .i64 0, .slice none 0 0]
        have hub := hb.size
        replace hb := hb.alloc hb.size (.cells #[.int .i64 0, .slice none 0 0] 24)
        replace ho := ho.alloc (.cells #[.int .i64 0, .slice none 0 0] 24)
        obtain ⟨u, hu⟩ : ∃ k, V1.heap.size = k := ⟨_, rfl⟩
        obtain ⟨V2, hW⟩ : ∃ W, V1.alloc (.cells #[.int .i64 0, .slice none 0 0] 24) = W := ⟨_, rfl⟩
        rw [hW] at kb hb ho ⊢
        rw [hu] at kb hub ⊢
        clear hW hu
        refine hK.out _ _ ⟨(k1.below hb k1.lt).cell 0, (k1.below hb k1.lt).cell 1⟩ (fun hS => ?_)
        clear hK K
        try simp (maxSteps := 10000000) only [Act.put, List.setIfInBounds_toArray, List.set_cons_zero, List.set_cons_succ, List.getElem_toArray, List.getElem_cons_zero, List.getElem_cons_succ]
        refine wpAnyH_ready (rs := [5]) (by kernel_rfl) (by simp) ?_
        refine AllReadyH.cons rfl (fun K hK => ?_) AllReadyH.nil
        refine step_push_stops rfl (.tmp 47) (.tmp 49) rfl w3.heap.size (some ⟨q, 0, none⟩) (0) 0 ([]) rfl ho _ A (n) c (ps) rfl (h_p.below hb) (by omega) (by omega) hb.size ?_
        intro A1 cap1 V3 ho2 hg
        have hb2 := hb.grown hg hb.size (fun r e => (ho.lt r e).1)
        replace kb := kb.grown hg (ho.bk_ne kb (by decide))
        replace ho := ho2
        replace hb := hb2
        clear ho2 hb2 hg
        try simp only [Nat.zero_add, List.nil_append] at ho ⊢
        have hnl : n = n := by omega
        rw [hnl] at ho ⊢
        clear hnl
        obtain ⟨ad, hA⟩ : ∃ ad, A1 = some ad := by
          obtain ⟨g, hA, _⟩ := ho.row (by omega)
          exact ⟨_, hA⟩
        subst hA
        obtain ⟨cap, hcap⟩ : ∃ k, cap1 = k := ⟨_, rfl⟩
        rw [hcap] at ho ⊢
        clear hcap
        refine hK.out _ _ ⟨(k1.below hb k1.lt).cell 0, (k1.below hb k1.lt).cell 1⟩ (fun hS => ?_)
        clear hK K
        try simp (maxSteps := 10000000) only [Act.put, List.setIfInBounds_toArray, List.set_cons_zero, List.set_cons_succ, List.getElem_toArray, List.getElem_cons_zero, List.getElem_cons_succ]
        refine wpAnyH_take (i := 6) (v := ?_) rfl (by kernel_rfl) (by kernel_rfl) (by kernel_rfl) (fun _ _ _ h => h) (Or.inl ⟨by rfl, ?_⟩) hS ?_
        rotate_left
        · intro w hSw
          (try dsimp only at hSw)
          go_simp
          (try with_reducible rfl)
        try simp (maxSteps := 10000000) only [Act.put, List.setIfInBounds_toArray, List.set_cons_zero, List.set_cons_succ, List.getElem_toArray, List.getElem_cons_zero, List.getElem_cons_succ]
        refine wpAnyH_ready (rs := [8]) (by kernel_rfl) (by simp) ?_
        refine AllReadyH.cons rfl (fun K hK => ?_) AllReadyH.nil
        have c0 := kb.cell 0
        have c1 := kb.cell 1
        have f0 := kb.frozen 0
        have f1 := kb.frozen 1
        go_simp
        clear c0 c1 f0 f1
        have hbs := (hb.setCell (p := ⟨u, 0, none⟩) hub (.int .i64 b)).setCell (p := ⟨u, 1, none⟩) hub (.slice (some ad) n cap)
        have kbs := (kb.set_ 0 (.int .i64 b)).set_ 1 (.slice (some ad) n cap)
        have hos := (ho.setOther (p := ⟨u, 0, none⟩) (ho.bk_ne kb (by decide)) (.int .i64 b)).setOther (p := ⟨u, 1, none⟩) (ho.bk_ne kb (by decide)) (.slice (some ad) n cap)
        refine hK.out _ _ ⟨(k1.below hbs k1.lt).cell 0, (k1.below hbs k1.lt).cell 1⟩ (fun hS => ?_)
        clear hK K
        try simp (maxSteps := 10000000) only [Act.put, List.setIfInBounds_toArray, List.set_cons_zero, List.set_cons_succ, List.getElem_toArray, List.getElem_cons_zero, List.getElem_cons_succ]
        refine wpAnyH_done (by kernel_rfl) (NoPanic.normal ?_) _
        exact ⟨q, u, cap, ad, rfl, hbs, kbs, hos⟩
    · go_simp
      have kb := Bk.new V0 24 #[.int .i64 0, .slice none 0 0]
      have hub := hb.size
      replace hb := hb.alloc hb.size (.cells #[.int .i64 0, .slice none 0 0] 24)
      obtain ⟨u, hu⟩ : ∃ k, V0.heap.size = k := ⟨_, rfl⟩
      obtain ⟨V1, hW⟩ : ∃ W, V0.alloc (.cells #[.int .i64 0, .slice none 0 0] 24) = W := ⟨_, rfl⟩
      rw [hW] at kb hb  ⊢
      rw [hu] at kb hub ⊢
      clear hW hu
      refine hK.out _ _ ⟨(k1.below hb k1.lt).cell 0, (k1.below hb k1.lt).cell 1⟩ (fun hS => ?_)
      clear hK K
      try simp (maxSteps := 10000000) only [Act.put, List.setIfInBounds_toArray, List.set_cons_zero, List.set_cons_succ, List.getElem_toArray, List.getElem_cons_zero, List.getElem_cons_succ]
      refine wpAnyH_ready (rs := [2]) (by kernel_rfl) (by simp) ?_
      refine AllReadyH.cons rfl (fun K hK => ?_) AllReadyH.nil
      go_simp
      have ho := (Os.lit0 V1).base hb.size
      replace hb := hb.alloc hb.size (.cells #[] 67)
      replace kb := kb.alloc (.cells #[] 67)
      obtain ⟨q, hu⟩ : ∃ k, V1.heap.size = k := ⟨_, rfl⟩
      obtain ⟨V2, hW⟩ : ∃ W, V1.alloc (.cells #[] 67) = W := ⟨_, rfl⟩
      rw [hW] at ho hb kb ⊢
      rw [hu] at ho ⊢
      clear hW hu
      refine hK.out _ _ ⟨(k1.below hb k1.lt).cell 0, (k1.below hb k1.lt).cell 1⟩ (fun hS => ?_)
      clear hK K
      try simp (maxSteps := 10000000) only [Act.put, List.setIfInBounds_toArray, List.set_cons_zero, List.set_cons_succ, List.getElem_toArray, List.getElem_cons_zero, List.getElem_cons_succ]
      refine wpAnyH_ready (rs := [5]) (by kernel_rfl) (by simp) ?_
      refine AllReadyH.cons rfl (fun K hK => ?_) AllReadyH.nil
      refine step_push_stops rfl (.tmp 47) (.tmp 49) rfl w3.heap.size (some ⟨q, 0, none⟩) (0) 0 ([]) rfl ho _ A (n) c (ps) rfl (h_p.below hb) (by omega) (by omega) hb.size ?_
      intro A1 cap1 V3 ho2 hg
      have hb2 := hb.grown hg hb.size (fun r e => (ho.lt r e).1)
      replace kb := kb.grown hg (ho.bk_ne kb (by decide))
      replace ho := ho2
      replace hb := hb2
      clear ho2 hb2 hg
      try simp only [Nat.zero_add, List.nil_append] at ho ⊢
      have hnl : n = n := by omega
      rw [hnl] at ho ⊢
      clear hnl
      obtain ⟨ad, hA⟩ : ∃ ad, A1 = some ad := by
        obtain ⟨g, hA, _⟩ := ho.row (by omega)
        exact ⟨_, hA⟩
      subst hA
      obtain ⟨cap, hcap⟩ : ∃ k, cap1 = k := ⟨_, rfl⟩
      rw [hcap] at ho ⊢
      clear hcap
      refine hK.out _ _ ⟨(k1.below hb k1.lt).cell 0, (k1.below hb k1.lt).cell 1⟩ (fun hS => ?_)
      clear hK K
      try simp (maxSteps := 10000000) only [Act.put, List.setIfInBounds_toArray, List.set_cons_zero, List.set_cons_succ, List.getElem_toArray, List.getElem_cons_zero, List.getElem_cons_succ]
      refine wpAnyH_take (i := 6) (v := ?_) rfl (by kernel_rfl) (by kernel_rfl) (by kernel_rfl) (fun _ _ _ h => h) (Or.inl ⟨by rfl, ?_⟩) hS ?_
      rotate_left
      · intro w hSw
        (try dsimp only at hSw)
        go_simp
        (try with_reducible rfl)
      try simp (maxSteps := 10000000) only [Act.put, List.setIfInBounds_toArray, List.set_cons_zero, List.set_cons_succ, List.getElem_toArray, List.getElem_cons_zero, List.getElem_cons_succ]
      refine wpAnyH_ready (rs := [8]) (by kernel_rfl) (by simp) ?_
      refine AllReadyH.cons rfl (fun K hK => ?_) AllReadyH.nil
      have c0 := kb.cell 0
      have c1 := kb.cell 1
      have f0 := kb.frozen 0
      have f1 := kb.frozen 1
      go_simp
      clear c0 c1 f0 f1
      have hbs := (hb.setCell (p := ⟨u, 0, none⟩) hub (.int .i64 b)).setCell (p := ⟨u, 1, none⟩) hub (.slice (some ad) n cap)
      have kbs := (kb.set_ 0 (.int .i64 b)).set_ 1 (.slice (some ad) n cap)
      have hos := (ho.setOther (p := ⟨u, 0, none⟩) (ho.bk_ne kb (by decide)) (.int .i64 b)).setOther (p := ⟨u, 1, none⟩) (ho.bk_ne kb (by decide)) (.slice (some ad) n cap)
      refine hK.out _ _ ⟨(k1.below hbs k1.lt).cell 0, (k1.below hbs k1.lt).cell 1⟩ (fun hS => ?_)
      clear hK K
      try simp (maxSteps := 10000000) only [Act.put, List.setIfInBounds_toArray, List.set_cons_zero, List.set_cons_succ, List.getElem_toArray, List.getElem_cons_zero, List.getElem_cons_succ]
      refine wpAnyH_done (by kernel_rfl) (NoPanic.normal ?_) _
      exact ⟨q, u, cap, ad, rfl, hbs, kbs, hos⟩
  rintro a' V ⟨q, u, cap, ad, rfl, hb, kb, ho⟩
  try simp (maxSteps := 10000000) only [Act.put, List.setIfInBounds_toArray, List.set_cons_zero, List.set_cons_succ]
  refine hK0 _ _ ?_
  clear hK0 K0
  obtain ⟨yv, hyv, hyb⟩ : ∃ y, (if tv + z0 < 9000 then tv + z0 else 9000) = y ∧ tv ≤ y ∧ y ≤ 9000 := ⟨_, rfl, by split <;> omega, by split <;> omega⟩
  obtain ⟨qs, HQ⟩ : ∃ l, Hid (ps.set t (plc ps t, yv) = l) := ⟨_, Lib.hid rfl⟩
  have c0 := (k1.below hb k1.lt).cell 0
  have c1 := (k1.below hb k1.lt).cell 1
  have e0 := kb.cell 0
  have e1 := kb.cell 1
  go_wp2
  clear c0 c1 e0 e1
  obtain ⟨ad2, hA, _, _, p1⟩ := ho.rp.at2 htn
  obtain rfl : ad = ad2 := Option.some.inj hA
  clear hA
  rw [HTO.out] at p1
  have e1 : V.drew.cell? ⟨u, 1, none⟩ = some (.slice (some ad) n cap) := kb.drew.cell 1
  have p1 : V.drew.cell? ⟨(ad.add (t * 2)).block, (ad.add (t * 2)).off + 1, none⟩ = some (.int .i64 tv) := p1
  refine wp_region_noPanic ?_
  refine wp_region_held_drew (S := fun V => V.cell? ⟨u, 1, none⟩ = some (.slice (some ad) n cap)) hmix e1 (fun hS => ?_)
  clear e1
  have kb := kb.drew
  have ho := ho.drew
  have hb2 := hb.trans (below_drewN (Below.refl _ V) 1 |>.mono hb.size)
  obtain ⟨V2, hW⟩ : ∃ X, V.drew = X := ⟨_, rfl⟩
  have hb : Below w3.heap.size w3 V2 := hW ▸ hb2
  rw [hW] at hS kb ho p1 ⊢
  clear hW hb2
  refine wpAnyH_take (i := 0) (v := ?_) rfl (by kernel_rfl) (by kernel_rfl) (by kernel_rfl) (fun _ _ _ h => h) (Or.inl ⟨by rfl, ?_⟩) hS ?_
  rotate_left
  · intro w hSw
    (try dsimp only at hSw)
    go_simp
    (try with_reducible rfl)
  try simp (maxSteps := 10000000) only [Act.put, List.setIfInBounds_toArray, List.set_cons_zero, List.set_cons_succ, List.getElem_toArray, List.getElem_cons_zero]
  refine wpAnyH_take (i := 1) (v := ?_) rfl (by kernel_rfl) (by kernel_rfl) (by kernel_rfl) (fun _ _ _ h => h) (Or.inl ⟨by rfl, ?_⟩) hS ?_
  rotate_left
  · intro w hSw
    (try dsimp only at hSw)
    go_simp
    (try with_reducible rfl)
  try simp (maxSteps := 10000000) only [Act.put, List.setIfInBounds_toArray, List.set_cons_zero, List.set_cons_succ, List.getElem_toArray, List.getElem_cons_zero, List.getElem_cons_succ]
  refine wpAnyH_take (i := 2) (v := ?_) rfl (by kernel_rfl) (by kernel_rfl) (by kernel_rfl) (fun _ _ _ h => h) (Or.inl ⟨by rfl, ?_⟩) hS ?_
  rotate_left
  · intro w hSw
    (try dsimp only at hSw)
    go_simp
    (try with_reducible rfl)
  try simp (maxSteps := 10000000) only [Act.put, List.setIfInBounds_toArray, List.set_cons_zero, List.set_cons_succ, List.getElem_toArray, List.getElem_cons_zero, List.getElem_cons_succ]
  refine wpAnyH_take (i := 3) (v := ?_) rfl (by kernel_rfl) (by kernel_rfl) (by kernel_rfl) (fun _ _ _ h => h) (Or.inl ⟨by rfl, ?_⟩) hS ?_
  rotate_left
  · intro w hSw
    (try dsimp only at hSw)
    go_simp
    (try with_reducible rfl)
  try simp (maxSteps := 10000000) only [Act.put, List.setIfInBounds_toArray, List.set_cons_zero, List.set_cons_succ, List.getElem_toArray, List.getElem_cons_zero, List.getElem_cons_succ]
  refine wpAnyH_take (i := 4) (v := ?_) rfl (by kernel_rfl) (by kernel_rfl) (by kernel_rfl) (fun _ _ _ h => h) (Or.inl ⟨by rfl, ?_⟩) hS ?_
  rotate_left
  · intro w hSw
    (try dsimp only at hSw)
    go_simp
    (try with_reducible rfl)
  try simp (maxSteps := 10000000) only [Act.put, List.setIfInBounds_toArray, List.set_cons_zero, List.set_cons_succ, List.getElem_toArray, List.getElem_cons_zero, List.getElem_cons_succ]
  refine wpAnyH_take (i := 5) (v := ?_) rfl (by kernel_rfl) (by kernel_rfl) (by kernel_rfl) (fun _ _ _ h => h) (Or.inl ⟨by rfl, ?_⟩) hS ?_
  rotate_left
  · intro w hSw
    (try dsimp only at hSw)
    go_simp
    (try with_reducible rfl)
  try simp (maxSteps := 10000000) only [Act.put, List.setIfInBounds_toArray, List.set_cons_zero, List.set_cons_succ, List.getElem_toArray, List.getElem_cons_zero, List.getElem_cons_succ]
  refine wpAnyH_take (i := 6) (v := ?_) rfl (by kernel_rfl) (by kernel_rfl) (by kernel_rfl) (fun _ _ _ h => h) (Or.inl ⟨by rfl, ?_⟩) hS ?_
  rotate_left
  · intro w hSw
    (try dsimp only at hSw)
    go_simp
    (try with_reducible rfl)
  try simp (maxSteps := 10000000) only [Act.put, List.setIfInBounds_toArray, List.set_cons_zero, List.set_cons_succ, List.getElem_toArray, List.getElem_cons_zero, List.getElem_cons_succ]
  refine wpAnyH_take (i := 7) (v := ?_) rfl (by kernel_rfl) (by kernel_rfl) (by kernel_rfl) (fun _ _ _ h => h) (Or.inl ⟨by rfl, ?_⟩) hS ?_
  rotate_left
  · intro w hSw
    (try dsimp only at hSw)
    go_simp
    (try with_reducible rfl)
  try simp (maxSteps := 10000000) only [Act.put, List.setIfInBounds_toArray, List.set_cons_zero, List.set_cons_succ, List.getElem_toArray, List.getElem_cons_zero, List.getElem_cons_succ]
  refine wpAnyH_take (i := 9) (v := ?_) rfl (by kernel_rfl) (by kernel_rfl) (by kernel_rfl) (fun _ _ _ h => h) (Or.inl ⟨by rfl, ?_⟩) hS ?_
  rotate_left
  · intro w hSw
    (try dsimp only at hSw)
    go_simp
    (try with_reducible rfl)
  try simp (maxSteps := 10000000) only [Act.put, List.setIfInBounds_toArray, List.set_cons_zero, List.set_cons_succ, List.getElem_toArray, List.getElem_cons_zero, List.getElem_cons_succ]
  refine wpAnyH_take (i := 10) (v := ?_) rfl (by kernel_rfl) (by kernel_rfl) (by kernel_rfl) (fun _ _ _ h => h) (Or.inl ⟨by rfl, ?_⟩) hS ?_
  rotate_left
  · intro w hSw
    (try dsimp only at hSw)
    go_simp
    (try with_reducible rfl)
  try simp (maxSteps := 10000000) only [Act.put, List.setIfInBounds_toArray, List.set_cons_zero, List.set_cons_succ, List.getElem_toArray, List.getElem_cons_zero, List.getElem_cons_succ]
  refine wpAnyH_ready (rs := [8]) (by kernel_rfl) (by simp) ?_
  refine AllReadyH.cons rfl (fun K hK => ?_) AllReadyH.nil
  go_simp
  refine hK.out _ _ hS (fun hS => ?_)
  clear hK K
  try simp (maxSteps := 10000000) only [Act.put, List.setIfInBounds_toArray, List.set_cons_zero, List.set_cons_succ, List.getElem_toArray, List.getElem_cons_zero, List.getElem_cons_succ]
  refine wpAnyH_take (i := 11) (v := ?_) rfl (by kernel_rfl) (by kernel_rfl) (by kernel_rfl) (fun _ _ _ h => h) (Or.inl ⟨by rfl, ?_⟩) hS ?_
  rotate_left
  · intro w hSw
    (try dsimp only at hSw)
    go_simp
    (try with_reducible rfl)
  try simp (maxSteps := 10000000) only [Act.put, List.setIfInBounds_toArray, List.set_cons_zero, List.set_cons_succ, List.getElem_toArray, List.getElem_cons_zero, List.getElem_cons_succ]
  refine wpAnyH_take (i := 12) (v := ?_) rfl (by kernel_rfl) (by kernel_rfl) (by kernel_rfl) (fun _ _ _ h => h) (Or.inl ⟨by rfl, ?_⟩) hS ?_
  rotate_left
  · intro w hSw
    (try dsimp only at hSw)
    go_simp
    (try with_reducible rfl)
  try simp (maxSteps := 10000000) only [Act.put, List.setIfInBounds_toArray, List.set_cons_zero, List.set_cons_succ, List.getElem_toArray, List.getElem_cons_zero, List.getElem_cons_succ]
  refine wpAnyH_take (i := 13) (v := ?_) rfl (by kernel_rfl) (by kernel_rfl) (by kernel_rfl) (fun _ _ _ h => h) (Or.inl ⟨by rfl, ?_⟩) hS ?_
  rotate_left
  · intro w hSw
    (try dsimp only at hSw)
    go_simp
    (try with_reducible rfl)
  try simp (maxSteps := 10000000) only [Act.put, List.setIfInBounds_toArray, List.set_cons_zero, List.set_cons_succ, List.getElem_toArray, List.getElem_cons_zero, List.getElem_cons_succ]
  refine wpAnyH_take (i := 14) (v := ?_) rfl (by kernel_rfl) (by kernel_rfl) (by kernel_rfl) (fun _ _ _ h => h) (Or.inl ⟨by rfl, ?_⟩) hS ?_
  rotate_left
  · intro w hSw
    (try dsimp only at hSw)
    go_simp
    (try with_reducible rfl)
  try simp (maxSteps := 10000000) only [Act.put, List.setIfInBounds_toArray, List.set_cons_zero, List.set_cons_succ, List.getElem_toArray, List.getElem_cons_zero, List.getElem_cons_succ]
  refine wpAnyH_ready (rs := [15]) (by kernel_rfl) (by simp) ?_
  refine AllReadyH.cons rfl (fun K hK => ?_) AllReadyH.nil
  have f1 := ho.frozen2 (by omega) t
  go_simp
  clear f1 p1
  have hbs := ho.below2 (by omega) hb (Nat.le_refl _) t (.int .i64 yv)
  have kbs := ho.box2 (by omega) kb (by decide) t (.int .i64 yv)
  have hos := ho.put2 htn yv
  rw [HQ.out] at hos
  refine hK.out _ _ (kbs.cell 1) (fun hS => ?_)
  clear hK K
  refine wpAnyH_done (by kernel_rfl) (NoPanic.normal ?_) _
  have hb := hbs
  have kb := kbs
  have h_q := hos.rp
  have hcq := hos.cap
  clear hbs kbs hos ho hS
  obtain ⟨w4, hW⟩ : ∃ X, (V2.setCell ⟨(ad.add (t * 2)).block, (ad.add (t * 2)).off + 1, none⟩ (.int .i64 yv)) = X := ⟨_, rfl⟩
  rw [hW] at hb kb h_q ⊢
  clear hW
  have Bw4 : Below w.heap.size w w4 := Bw3.trans (hb.mono Bw3.size)
  replace h_y := h_y.next hb (Nat.le_refl _) hb.size
  replace h_p := h_p.next hb (Nat.le_refl _) hb.size
  replace k1 := k1.below hb k1.lt
  clear Bw3
  clear hb
  obtain ⟨NQ, HNQ⟩ : ∃ N, Hid ((goodR b qs).length = N) := ⟨_, Lib.hid rfl⟩
  have HPQ : Hid (Pier b qs) := Lib.hid (by
    rw [← HQ.out]
    exact raise_pier HP.out (by rw [HL.out]; exact htn) (by rw [HTO.out]; exact hyb))
  have hNQ : NQ ≤ 252 := by rw [← HNQ.out]; exact good_count b qs HPQ.out
  have HCQ : Hid (countS b qs = ((NQ : Int), 0)) := Lib.hid (by unfold countS; rw [if_pos (checkPier_ok.2 HPQ.out), HNQ.out])
  have hNN : ¬ NQ < NG := by
    have h := more_count HP.out (k := t) (y := yv) (by rw [HL.out]; exact htn) (by rw [HTO.out]; exact hyb)
    rw [HQ.out, HNQ.out, HNG.out] at h
    omega
  have d_k1_0 := k1.cell 0
  have d_k1_1 := k1.cell 1
  have d_kb_0 := kb.cell 0
  have d_kb_1 := kb.cell 1
  go_wp2_with fail
  clear d_k1_0 d_k1_1 d_kb_0 d_kb_1
  refine (fCount b (some ad) n cap qs _ h_q (by omega) hcq ((NQ : Int), 0) HCQ).mono ?_
  rintro e w5 ⟨rfl, hb⟩
  have Bw5 : Below w.heap.size w w5 := Bw4.trans (hb.mono Bw4.size)
  replace h_y := h_y.next hb (Nat.le_refl _) hb.size
  replace h_p := h_p.next hb (Nat.le_refl _) hb.size
  replace k1 := k1.below hb k1.lt
  replace kb := kb.below hb kb.lt
  replace h_q := h_q.next hb (Nat.le_refl _) hb.size
  clear Bw4
  clear hb
  clear h_q
  clear kb
  by_cases hn2 : n < 2
  · have d_k1_0 := k1.cell 0
    have d_k1_1 := k1.cell 1
    go_wp2_with fail
    clear d_k1_0 d_k1_1
    refine (aWorks _).mono ?_
    rintro e w6 ⟨rfl, hb⟩
    have Bw6 : Below w.heap.size w w6 := Bw5.trans (hb.mono Bw5.size)
    replace h_y := h_y.next hb (Nat.le_refl _) hb.size
    replace h_p := h_p.next hb (Nat.le_refl _) hb.size
    replace k1 := k1.below hb k1.lt
    clear Bw5
    clear hb
    go_wp2
    go_ret
    exact ⟨rfl, Bw6⟩
  obtain ⟨ad0, rfl, _⟩ := h_p.at2 htn
  obtain ⟨nm, HNM⟩ : ∃ k : Nat, Hid (n = k + 1) := ⟨n - 1, Lib.hid (by omega)⟩
  have hwn : IntKind.i64.wrap ((n : Int) - 1) = (nm : Int) := by rw [IntWalk.i64_in _ (by omega)]; have := HNM.out; omega
  have hwm : IntKind.i64.wrap ((nm : Int) + 1) = (n : Int) := by rw [IntWalk.i64_in _ (by have := HNM.out; omega)]; have := HNM.out; omega
  have hnc : nm ≤ c := by have := HNM.out; omega
  have hnmn : nm < n := by have := HNM.out; omega
  have HCASE : Hid ((checkRoundS b ps (ofN (walkedL b ps bs)) = ([], 12) ∧ shortestS b ps = ([], 0, 12)) ∨ ((∃ S, checkRoundS b ps (ofN (walkedL b ps bs)) = (S, 0)) ∧ ∃ x y, shortestS b ps = (x, y, 0)) ∨ (checkRoundS b ps (ofN (walkedL b ps bs)) = ([], 12) ∧ ∃ x y, shortestS b ps = (x, y, 0))) := Lib.hid (more_cases HP.out bs)
  obtain ⟨j1, HJ1⟩ : ∃ j : Nat, Hid (1 = j) := ⟨_, Lib.hid rfl⟩
  have hw1 : IntKind.i64.wrap 1 = (j1 : Int) := by rw [← HJ1.out]; rfl
  obtain ⟨qx, HQX⟩ : ∃ l, Hid (ps.take 0 ++ ps.drop j1 = l) := ⟨_, Lib.hid rfl⟩
  have HCUT : Hid (cutS 0 ps = qx) := Lib.hid (by rw [← HQX.out, ← HJ1.out]; rfl)
  have hc1 : ¬ c = j1 := by have := HJ1.out; omega
  have hj1n : j1 ≤ n := by have := HJ1.out; omega
  have hj1c : j1 ≤ c := by have := HJ1.out; omega
  have d_k1_0 := k1.cell 0
  have d_k1_1 := k1.cell 1
  go_wp2
  clear d_k1_0 d_k1_1
  rename_i K0 hK0
  refine wp_cut (fun a a' V => ∃ (q u cap : Nat) (ad : Addr)  (A1 : Option Addr) (cap1 : Nat), a' = (Act.put (Act.put (Act.put (Act.put (Act.put (Act.put (Act.put (Act.put (Act.put (Act.put (Act.put (Act.put (Act.put (Act.put (Act.put (Act.put a (some 99) (.pointer (some ⟨u1, 0, none⟩))) (some 100) (.int .i64 b)) (some 102) (.pointer (some ⟨u1, 1, none⟩))) (some 103) (.slice (some ad0) n c)) (some 104) (.int .i64 0)) (some 105) (.slice (some ad0) 0 c)) (some 107) (.pointer (some ⟨u1, 1, none⟩))) (some 108) (.slice (some ad0) n c)) (some 109) (.int .i64 0)) (some 110) (.int .i64 (j1 : Int))) (some 111) (.slice (some (ad0.add (j1 * 2))) nm (c - j1))) (some 101) (.slice (some ⟨q, 0, none⟩) 0 0)) (some 106) (.slice A1 0 cap1)) (some 112) (.slice (some ad) nm cap)) (some 113) (.agg #[.int .i64 b, .slice (some ad) nm cap])) (some 18) (.pointer (some ⟨u, 0, none⟩))) ∧ Below w5.heap.size w5 V ∧ Bk V u 24 #[.int .i64 b, .slice (some ad) nm cap] ∧ Os V w5.heap.size (some ad) nm cap (qx)) ?_ ?_
  · have d0 : w5.drew.cell? ⟨u1, 0, none⟩ = some (.int .i64 b) := k1.drew.cell 0
    have d1 : w5.drew.cell? ⟨u1, 1, none⟩ = some (.slice (some ad0) n c) := k1.drew.cell 1
    refine wp_region_noPanic ?_
    refine wp_region_held_drew (S := fun V => V.cell? ⟨u1, 0, none⟩ = some (.int .i64 b) ∧ V.cell? ⟨u1, 1, none⟩ = some (.slice (some ad0) n c)) hmix ⟨d0, d1⟩ (fun hS => ?_)
    clear d0 d1
    obtain ⟨V0, hW⟩ : ∃ V, w5.drew = V := ⟨_, rfl⟩
    have hb : Below w5.heap.size w5 V0 := hW ▸ below_drewN (Below.refl _ _) 1
    rw [hW] at hS ⊢
    clear hW
    refine wpAnyH_take (i := 0) (v := ?_) rfl (by kernel_rfl) (by kernel_rfl) (by kernel_rfl) (fun _ _ _ h => h) (Or.inl ⟨by rfl, ?_⟩) hS ?_
    rotate_left
    · intro w hSw
      (try dsimp only at hSw)
      go_simp
      (try with_reducible rfl)
    try simp (maxSteps := 10000000) only [Act.put, List.setIfInBounds_toArray, List.set_cons_zero, List.set_cons_succ, List.getElem_toArray, List.getElem_cons_zero]
    refine wpAnyH_take (i := 1) (v := ?_) rfl (by kernel_rfl) (by kernel_rfl) (by kernel_rfl) (fun _ _ _ h => h) (Or.inl ⟨by rfl, ?_⟩) hS ?_
    rotate_left
    · intro w hSw
      (try dsimp only at hSw)
      go_simp
      (try with_reducible rfl)
    try simp (maxSteps := 10000000) only [Act.put, List.setIfInBounds_toArray, List.set_cons_zero, List.set_cons_succ, List.getElem_toArray, List.getElem_cons_zero, List.getElem_cons_succ]
    refine wpAnyH_take (i := 3) (v := ?_) rfl (by kernel_rfl) (by kernel_rfl) (by kernel_rfl) (fun _ _ _ h => h) (Or.inl ⟨by rfl, ?_⟩) hS ?_
    rotate_left
    · intro w hSw
      (try dsimp only at hSw)
      go_simp
      (try with_reducible rfl)
    try simp (maxSteps := 10000000) only [Act.put, List.setIfInBounds_toArray, List.set_cons_zero, List.set_cons_succ, List.getElem_toArray, List.getElem_cons_zero, List.getElem_cons_succ]
    refine wpAnyH_take (i := 4) (v := ?_) rfl (by kernel_rfl) (by kernel_rfl) (by kernel_rfl) (fun _ _ _ h => h) (Or.inl ⟨by rfl, ?_⟩) hS ?_
    rotate_left
    · intro w hSw
      (try dsimp only at hSw)
      go_simp
      (try with_reducible rfl)
    try simp (maxSteps := 10000000) only [Act.put, List.setIfInBounds_toArray, List.set_cons_zero, List.set_cons_succ, List.getElem_toArray, List.getElem_cons_zero, List.getElem_cons_succ]
    refine wpAnyH_take (i := 5) (v := ?_) rfl (by kernel_rfl) (by kernel_rfl) (by kernel_rfl) (fun _ _ _ h => h) (Or.inl ⟨by rfl, ?_⟩) hS ?_
    rotate_left
    · intro w hSw
      (try dsimp only at hSw)
      go_simp
      (try with_reducible rfl)
    try simp (maxSteps := 10000000) only [Act.put, List.setIfInBounds_toArray, List.set_cons_zero, List.set_cons_succ, List.getElem_toArray, List.getElem_cons_zero, List.getElem_cons_succ]
    refine wpAnyH_take (i := 6) (v := ?_) rfl (by kernel_rfl) (by kernel_rfl) (by kernel_rfl) (fun _ _ _ h => h) (Or.inl ⟨by rfl, ?_⟩) hS ?_
    rotate_left
    · intro w hSw
      (try dsimp only at hSw)
      go_simp
      (try with_reducible rfl)
    try simp (maxSteps := 10000000) only [Act.put, List.setIfInBounds_toArray, List.set_cons_zero, List.set_cons_succ, List.getElem_toArray, List.getElem_cons_zero, List.getElem_cons_succ]
    refine wpAnyH_take (i := 8) (v := ?_) rfl (by kernel_rfl) (by kernel_rfl) (by kernel_rfl) (fun _ _ _ h => h) (Or.inl ⟨by rfl, ?_⟩) hS ?_
    rotate_left
    · intro w hSw
      (try dsimp only at hSw)
      go_simp
      (try with_reducible rfl)
    try simp (maxSteps := 10000000) only [Act.put, List.setIfInBounds_toArray, List.set_cons_zero, List.set_cons_succ, List.getElem_toArray, List.getElem_cons_zero, List.getElem_cons_succ]
    refine wpAnyH_take (i := 9) (v := ?_) rfl (by kernel_rfl) (by kernel_rfl) (by kernel_rfl) (fun _ _ _ h => h) (Or.inl ⟨by rfl, ?_⟩) hS ?_
    rotate_left
    · intro w hSw
      (try dsimp only at hSw)
      go_simp
      (try with_reducible rfl)
    try simp (maxSteps := 10000000) only [Act.put, List.setIfInBounds_toArray, List.set_cons_zero, List.set_cons_succ, List.getElem_toArray, List.getElem_cons_zero, List.getElem_cons_succ]
    refine wpAnyH_take (i := 10) (v := ?_) rfl (by kernel_rfl) (by kernel_rfl) (by kernel_rfl) (fun _ _ _ h => h) (Or.inl ⟨by rfl, ?_⟩) hS ?_
    rotate_left
    · intro w hSw
      (try dsimp only at hSw)
      go_simp
      (try with_reducible rfl)
    try simp (maxSteps := 10000000) only [Act.put, List.setIfInBounds_toArray, List.set_cons_zero, List.set_cons_succ, List.getElem_toArray, List.getElem_cons_zero, List.getElem_cons_succ]
    refine wpAnyH_take (i := 11) (v := ?_) rfl (by kernel_rfl) (by kernel_rfl) (by kernel_rfl) (fun _ _ _ h => h) (Or.inl ⟨by rfl, ?_⟩) hS ?_
    rotate_left
    · intro w hSw
      (try dsimp only at hSw)
      go_simp
      (try with_reducible rfl)
    try simp (maxSteps := 10000000) only [Act.put, List.setIfInBounds_toArray, List.set_cons_zero, List.set_cons_succ, List.getElem_toArray, List.getElem_cons_zero, List.getElem_cons_succ]
    refine wpAnyH_take (i := 12) (v := ?_) rfl (by kernel_rfl) (by kernel_rfl) (by kernel_rfl) (fun _ _ _ h => h) (Or.inl ⟨by rfl, ?_⟩) hS ?_
    rotate_left
    · intro w hSw
      (try dsimp only at hSw)
      go_simp
      (try with_reducible rfl)
    try simp (maxSteps := 10000000) only [Act.put, List.setIfInBounds_toArray, List.set_cons_zero, List.set_cons_succ, List.getElem_toArray, List.getElem_cons_zero, List.getElem_cons_succ]
    refine wpAnyH_ready (rs := [2, 15]) (by kernel_rfl) (by simp) ?_
    refine AllReadyH.cons rfl (fun K hK => ?_) (AllReadyH.cons rfl (fun K hK => ?_) AllReadyH.nil)
    · go_simp
      have ho := (Os.lit0 V0).base hb.size
      replace hb := hb.alloc hb.size (.cells #[] 67)
      obtain ⟨q, hu⟩ : ∃ k, V0.heap.size = k := ⟨_, rfl⟩
      obtain ⟨V1, hW⟩ : ∃ W, V0.alloc (.cells #[] 67) = W := ⟨_, rfl⟩
      rw [hW] at ho hb  ⊢
      rw [hu] at ho ⊢
      clear hW hu
      refine hK.out _ _ ⟨(k1.below hb k1.lt).cell 0, (k1.below hb k1.lt).cell 1⟩ (fun hS => ?_)
      clear hK K
      try simp (maxSteps := 10000000) only [Act.put, List.setIfInBounds_toArray, List.set_cons_zero, List.set_cons_succ, List.getElem_toArray, List.getElem_cons_zero, List.getElem_cons_succ]
      refine wpAnyH_ready (rs := [7, 15]) (by kernel_rfl) (by simp) ?_
      refine AllReadyH.cons rfl (fun K hK => ?_) (AllReadyH.cons rfl (fun K hK => ?_) AllReadyH.nil)
      · refine step_push_stops rfl (.tmp 101) (.tmp 105) rfl w5.heap.size (some ⟨q, 0, none⟩) (0) 0 ([]) rfl ho _ (some ad0) (0) c (ps.take 0) rfl ((h_p.below hb).front (k := 0) (by have := HNM.out; omega)) (by omega) (by omega) hb.size ?_
        intro A1 cap1 V2 ho2 hg
        have hb2 := hb.grown hg hb.size (fun r e => (ho.lt r e).1)
        replace ho := ho2
        replace hb := hb2
        clear ho2 hb2 hg
        try simp only [Nat.zero_add, List.nil_append] at ho ⊢
        refine hK.out _ _ ⟨(k1.below hb k1.lt).cell 0, (k1.below hb k1.lt).cell 1⟩ (fun hS => ?_)
        clear hK K
        try simp (maxSteps := 10000000) only [Act.put, List.setIfInBounds_toArray, List.set_cons_zero, List.set_cons_succ, List.getElem_toArray, List.getElem_cons_zero, List.getElem_cons_succ]
        refine wpAnyH_ready (rs := [13, 15]) (by kernel_rfl) (by simp) ?_
        refine AllReadyH.cons rfl (fun K hK => ?_) (AllReadyH.cons rfl (fun K hK => ?_) AllReadyH.nil)
        · refine step_push_stops rfl (.tmp 106) (.tmp 111) rfl w5.heap.size A1 (0) cap1 (ps.take 0) rfl ho _ (some (ad0.add (j1 * 2))) (n - j1) _ (ps.drop j1) rfl ((h_p.below hb).back (k := j1) (by have := HNM.out; omega)) (by omega) (by omega) hb.size ?_
          intro A2 cap2 V3 ho2 hg
          have hb2 := hb.grown hg hb.size (fun r e => (ho.lt r e).1)
          replace ho := ho2
          replace hb := hb2
          clear ho2 hb2 hg
          try simp only [Nat.zero_add] at ho ⊢
          have hnl : n - j1 = nm := by have := HNM.out; have := HJ1.out; omega
          rw [hnl] at ho ⊢
          clear hnl
          rw [HQX.out] at ho
          obtain ⟨ad, hA⟩ : ∃ ad, A2 = some ad := by
            obtain ⟨g, hA, _⟩ := ho.row (by have := HNM.out; have := HJ1.out; omega)
            exact ⟨_, hA⟩
          subst hA
          obtain ⟨cap, hcap⟩ : ∃ k, cap2 = k := ⟨_, rfl⟩
          rw [hcap] at ho ⊢
          clear hcap
          refine hK.out _ _ ⟨(k1.below hb k1.lt).cell 0, (k1.below hb k1.lt).cell 1⟩ (fun hS => ?_)
          clear hK K
          try simp (maxSteps := 10000000) only [Act.put, List.setIfInBounds_toArray, List.set_cons_zero, List.set_cons_succ, List.getElem_toArray, List.getElem_cons_zero, List.getElem_cons_succ]
          refine wpAnyH_take (i := 14) (v := ?_) rfl (by kernel_rfl) (by kernel_rfl) (by kernel_rfl) (fun _ _ _ h => h) (Or.inl ⟨by rfl, ?_⟩) hS ?_
          rotate_left
          · intro w hSw
            (try dsimp only at hSw)
            go_simp
            (try with_reducible rfl)
          try simp (maxSteps := 10000000) only [Act.put, List.setIfInBounds_toArray, List.set_cons_zero, List.set_cons_succ, List.getElem_toArray, List.getElem_cons_zero, List.getElem_cons_succ]
          refine wpAnyH_ready (rs := [15]) (by kernel_rfl) (by simp) ?_
          refine AllReadyH.cons rfl (fun K hK => ?_) AllReadyH.nil
          go_simp
          have kb := Bk.new V3 24 #[.int .i64 0, .slice none 0 0]
          have hub := hb.size
          replace hb := hb.alloc hb.size (.cells #[.int .i64 0, .slice none 0 0] 24)
          replace ho := ho.alloc (.cells #[.int .i64 0, .slice none 0 0] 24)
          obtain ⟨u, hu⟩ : ∃ k, V3.heap.size = k := ⟨_, rfl⟩
          obtain ⟨V4, hW⟩ : ∃ W, V3.alloc (.cells #[.int .i64 0, .slice none 0 0] 24) = W := ⟨_, rfl⟩
          rw [hW] at kb hb ho ⊢
          rw [hu] at kb hub ⊢
          clear hW hu
          refine hK.out _ _ ⟨(k1.below hb k1.lt).cell 0, (k1.below hb k1.lt).cell 1⟩ (fun hS => ?_)
          clear hK K
          try simp (maxSteps := 10000000) only [Act.put, List.setIfInBounds_toArray, List.set_cons_zero, List.set_cons_succ, List.getElem_toArray, List.getElem_cons_zero, List.getElem_cons_succ]
          refine wpAnyH_ready (rs := [16]) (by kernel_rfl) (by simp) ?_
          refine AllReadyH.cons rfl (fun K hK => ?_) AllReadyH.nil
          have c0 := kb.cell 0
          have c1 := kb.cell 1
          have f0 := kb.frozen 0
          have f1 := kb.frozen 1
          go_simp
          clear c0 c1 f0 f1
          have hbs := (hb.setCell (p := ⟨u, 0, none⟩) hub (.int .i64 b)).setCell (p := ⟨u, 1, none⟩) hub (.slice (some ad) nm cap)
          have kbs := (kb.set_ 0 (.int .i64 b)).set_ 1 (.slice (some ad) nm cap)
          have hos := (ho.setOther (p := ⟨u, 0, none⟩) (ho.bk_ne kb (by decide)) (.int .i64 b)).setOther (p := ⟨u, 1, none⟩) (ho.bk_ne kb (by decide)) (.slice (some ad) nm cap)
          refine hK.out _ _ ⟨(k1.below hbs k1.lt).cell 0, (k1.below hbs k1.lt).cell 1⟩ (fun hS => ?_)
          clear hK K
          try simp (maxSteps := 10000000) only [Act.put, List.setIfInBounds_toArray, List.set_cons_zero, List.set_cons_succ, List.getElem_toArray, List.getElem_cons_zero, List.getElem_cons_succ]
          refine wpAnyH_done (by kernel_rfl) (NoPanic.normal ?_) _
          exact ⟨q, u, cap, ad, A1, cap1, rfl, hbs, kbs, hos⟩
        · go_simp
          have kb := Bk.new V2 24 #[.int .i64 0, .slice none 0 0]
          have hub := hb.size
          replace hb := hb.alloc hb.size (.cells #[.int .i64 0, .slice none 0 0] 24)
          replace ho := ho.alloc (.cells #[.int .i64 0, .slice none 0 0] 24)
          obtain ⟨u, hu⟩ : ∃ k, V2.heap.size = k := ⟨_, rfl⟩
          obtain ⟨V3, hW⟩ : ∃ W, V2.alloc (.cells #[.int .i64 0, .slice none 0 0] 24) = W := ⟨_, rfl⟩
          rw [hW] at kb hb ho ⊢
          rw [hu] at kb hub ⊢
          clear hW hu
          refine hK.out _ _ ⟨(k1.below hb k1.lt).cell 0, (k1.below hb k1.lt).cell 1⟩ (fun hS => ?_)
          clear hK K
          try simp (maxSteps := 10000000) only [Act.put, List.setIfInBounds_toArray, List.set_cons_zero, List.set_cons_succ, List.getElem_toArray, List.getElem_cons_zero, List.getElem_cons_succ]
          refine wpAnyH_ready (rs := [13]) (by kernel_rfl) (by simp) ?_
          refine AllReadyH.cons rfl (fun K hK => ?_) AllReadyH.nil
          refine step_push_stops rfl (.tmp 106) (.tmp 111) rfl w5.heap.size A1 (0) cap1 (ps.take 0) rfl ho _ (some (ad0.add (j1 * 2))) (n - j1) _ (ps.drop j1) rfl ((h_p.below hb).back (k := j1) (by have := HNM.out; omega)) (by omega) (by omega) hb.size ?_
          intro A2 cap2 V4 ho2 hg
          have hb2 := hb.grown hg hb.size (fun r e => (ho.lt r e).1)
          replace kb := kb.grown hg (ho.bk_ne kb (by decide))
          replace ho := ho2
          replace hb := hb2
          clear ho2 hb2 hg
          try simp only [Nat.zero_add] at ho ⊢
          have hnl : n - j1 = nm := by have := HNM.out; have := HJ1.out; omega
          rw [hnl] at ho ⊢
          clear hnl
          rw [HQX.out] at ho
          obtain ⟨ad, hA⟩ : ∃ ad, A2 = some ad := by
            obtain ⟨g, hA, _⟩ := ho.row (by have := HNM.out; have := HJ1.out; omega)
            exact ⟨_, hA⟩
          subst hA
          obtain ⟨cap, hcap⟩ : ∃ k, cap2 = k := ⟨_, rfl⟩
          rw [hcap] at ho ⊢
          clear hcap
          refine hK.out _ _ ⟨(k1.below hb k1.lt).cell 0, (k1.below hb k1.lt).cell 1⟩ (fun hS => ?_)
          clear hK K
          try simp (maxSteps := 10000000) only [Act.put, List.setIfInBounds_toArray, List.set_cons_zero, List.set_cons_succ, List.getElem_toArray, List.getElem_cons_zero, List.getElem_cons_succ]
          refine wpAnyH_take (i := 14) (v := ?_) rfl (by kernel_rfl) (by kernel_rfl) (by kernel_rfl) (fun _ _ _ h => h) (Or.inl ⟨by rfl, ?_⟩) hS ?_
          rotate_left
          · intro w hSw
            (try dsimp only at hSw)
            go_simp
            (try with_reducible rfl)
          try simp (maxSteps := 10000000) only [Act.put, List.setIfInBounds_toArray, List.set_cons_zero, List.set_cons_succ, List.getElem_toArray, List.getElem_cons_zero, List.getElem_cons_succ]
          refine wpAnyH_ready (rs := [16]) (by kernel_rfl) (by simp) ?_
          refine AllReadyH.cons rfl (fun K hK => ?_) AllReadyH.nil
          have c0 := kb.cell 0
          have c1 := kb.cell 1
          have f0 := kb.frozen 0
          have f1 := kb.frozen 1
          go_simp
          clear c0 c1 f0 f1
          have hbs := (hb.setCell (p := ⟨u, 0, none⟩) hub (.int .i64 b)).setCell (p := ⟨u, 1, none⟩) hub (.slice (some ad) nm cap)
          have kbs := (kb.set_ 0 (.int .i64 b)).set_ 1 (.slice (some ad) nm cap)
          have hos := (ho.setOther (p := ⟨u, 0, none⟩) (ho.bk_ne kb (by decide)) (.int .i64 b)).setOther (p := ⟨u, 1, none⟩) (ho.bk_ne kb (by decide)) (.slice (some ad) nm cap)
          refine hK.out _ _ ⟨(k1.below hbs k1.lt).cell 0, (k1.below hbs k1.lt).cell 1⟩ (fun hS => ?_)
          clear hK K
          try simp (maxSteps := 10000000) only [Act.put, List.setIfInBounds_toArray, List.set_cons_zero, List.set_cons_succ, List.getElem_toArray, List.getElem_cons_zero, List.getElem_cons_succ]
          refine wpAnyH_done (by kernel_rfl) (NoPanic.normal ?_) _
          exact ⟨q, u, cap, ad, A1, cap1, rfl, hbs, kbs, hos⟩
      · go_simp
        have kb := Bk.new V1 24 #[.int .i64 0, .slice none 0 0]
        have hub := hb.size
        replace hb := hb.alloc hb.size (.cells #[.int .i64 0, .slice none 0 0] 24)
        replace ho := ho.alloc (.cells #[.int .i64 0, .slice none 0 0] 24)
        obtain ⟨u, hu⟩ : ∃ k, V1.heap.size = k := ⟨_, rfl⟩
        obtain ⟨V2, hW⟩ : ∃ W, V1.alloc (.cells #[.int .i64 0, .slice none 0 0] 24) = W := ⟨_, rfl⟩
        rw [hW] at kb hb ho ⊢
        rw [hu] at kb hub ⊢
        clear hW hu
        refine hK.out _ _ ⟨(k1.below hb k1.lt).cell 0, (k1.below hb k1.lt).cell 1⟩ (fun hS => ?_)
        clear hK K
        try simp (maxSteps := 10000000) only [Act.put, List.setIfInBounds_toArray, List.set_cons_zero, List.set_cons_succ, List.getElem_toArray, List.getElem_cons_zero, List.getElem_cons_succ]
        refine wpAnyH_ready (rs := [7]) (by kernel_rfl) (by simp) ?_
        refine AllReadyH.cons rfl (fun K hK => ?_) AllReadyH.nil
        refine step_push_stops rfl (.tmp 101) (.tmp 105) rfl w5.heap.size (some ⟨q, 0, none⟩) (0) 0 ([]) rfl ho _ (some ad0) (0) c (ps.take 0) rfl ((h_p.below hb).front (k := 0) (by have := HNM.out; omega)) (by omega) (by omega) hb.size ?_
        intro A1 cap1 V3 ho2 hg
        have hb2 := hb.grown hg hb.size (fun r e => (ho.lt r e).1)
        replace kb := kb.grown hg (ho.bk_ne kb (by decide))
        replace ho := ho2
        replace hb := hb2
        clear ho2 hb2 hg
        try simp only [Nat.zero_add, List.nil_append] at ho ⊢
        refine hK.out _ _ ⟨(k1.below hb k1.lt).cell 0, (k1.below hb k1.lt).cell 1⟩ (fun hS => ?_)
        clear hK K
        try simp (maxSteps := 10000000) only [Act.put, List.setIfInBounds_toArray, List.set_cons_zero, List.set_cons_succ, List.getElem_toArray, List.getElem_cons_zero, List.getElem_cons_succ]
        refine wpAnyH_ready (rs := [13]) (by kernel_rfl) (by simp) ?_
        refine AllReadyH.cons rfl (fun K hK => ?_) AllReadyH.nil
        refine step_push_stops rfl (.tmp 106) (.tmp 111) rfl w5.heap.size A1 (0) cap1 (ps.take 0) rfl ho _ (some (ad0.add (j1 * 2))) (n - j1) _ (ps.drop j1) rfl ((h_p.below hb).back (k := j1) (by have := HNM.out; omega)) (by omega) (by omega) hb.size ?_
        intro A2 cap2 V4 ho2 hg
        have hb2 := hb.grown hg hb.size (fun r e => (ho.lt r e).1)
        replace kb := kb.grown hg (ho.bk_ne kb (by decide))
        replace ho := ho2
        replace hb := hb2
        clear ho2 hb2 hg
        try simp only [Nat.zero_add] at ho ⊢
        have hnl : n - j1 = nm := by have := HNM.out; have := HJ1.out; omega
        rw [hnl] at ho ⊢
        clear hnl
        rw [HQX.out] at ho
        obtain ⟨ad, hA⟩ : ∃ ad, A2 = some ad := by
          obtain ⟨g, hA, _⟩ := ho.row (by have := HNM.out; have := HJ1.out; omega)
          exact ⟨_, hA⟩
        subst hA
        obtain ⟨cap, hcap⟩ : ∃ k, cap2 = k := ⟨_, rfl⟩
        rw [hcap] at ho ⊢
        clear hcap
        refine hK.out _ _ ⟨(k1.below hb k1.lt).cell 0, (k1.below hb k1.lt).cell 1⟩ (fun hS => ?_)
        clear hK K
        try simp (maxSteps := 10000000) only [Act.put, List.setIfInBounds_toArray, List.set_cons_zero, List.set_cons_succ, List.getElem_toArray, List.getElem_cons_zero, List.getElem_cons_succ]
        refine wpAnyH_take (i := 14) (v := ?_) rfl (by kernel_rfl) (by kernel_rfl) (by kernel_rfl) (fun _ _ _ h => h) (Or.inl ⟨by rfl, ?_⟩) hS ?_
        rotate_left
        · intro w hSw
          (try dsimp only at hSw)
          go_simp
          (try with_reducible rfl)
        try simp (maxSteps := 10000000) only [Act.put, List.setIfInBounds_toArray, List.set_cons_zero, List.set_cons_succ, List.getElem_toArray, List.getElem_cons_zero, List.getElem_cons_succ]
        refine wpAnyH_ready (rs := [16]) (by kernel_rfl) (by simp) ?_
        refine AllReadyH.cons rfl (fun K hK => ?_) AllReadyH.nil
        have c0 := kb.cell 0
        have c1 := kb.cell 1
        have f0 := kb.frozen 0
        have f1 := kb.frozen 1
        go_simp
        clear c0 c1 f0 f1
        have hbs := (hb.setCell (p := ⟨u, 0, none⟩) hub (.int .i64 b)).setCell (p := ⟨u, 1, none⟩) hub (.slice (some ad) nm cap)
        have kbs := (kb.set_ 0 (.int .i64 b)).set_ 1 (.slice (some ad) nm cap)
        have hos := (ho.setOther (p := ⟨u, 0, none⟩) (ho.bk_ne kb (by decide)) (.int .i64 b)).setOther (p := ⟨u, 1, none⟩) (ho.bk_ne kb (by decide)) (.slice (some ad) nm cap)
        refine hK.out _ _ ⟨(k1.below hbs k1.lt).cell 0, (k1.below hbs k1.lt).cell 1⟩ (fun hS => ?_)
        clear hK K
        try simp (maxSteps := 10000000) only [Act.put, List.setIfInBounds_toArray, List.set_cons_zero, List.set_cons_succ, List.getElem_toArray, List.getElem_cons_zero, List.getElem_cons_succ]
        refine wpAnyH_done (by kernel_rfl) (NoPanic.normal ?_) _
        exact ⟨q, u, cap, ad, A1, cap1, rfl, hbs, kbs, hos⟩
    · go_simp
      have kb := Bk.new V0 24 #[.int .i64 0, .slice none 0 0]
      have hub := hb.size
      replace hb := hb.alloc hb.size (.cells #[.int .i64 0, .slice none 0 0] 24)
      obtain ⟨u, hu⟩ : ∃ k, V0.heap.size = k := ⟨_, rfl⟩
      obtain ⟨V1, hW⟩ : ∃ W, V0.alloc (.cells #[.int .i64 0, .slice none 0 0] 24) = W := ⟨_, rfl⟩
      rw [hW] at kb hb  ⊢
      rw [hu] at kb hub ⊢
      clear hW hu
      refine hK.out _ _ ⟨(k1.below hb k1.lt).cell 0, (k1.below hb k1.lt).cell 1⟩ (fun hS => ?_)
      clear hK K
      try simp (maxSteps := 10000000) only [Act.put, List.setIfInBounds_toArray, List.set_cons_zero, List.set_cons_succ, List.getElem_toArray, List.getElem_cons_zero, List.getElem_cons_succ]
      refine wpAnyH_ready (rs := [2]) (by kernel_rfl) (by simp) ?_
      refine AllReadyH.cons rfl (fun K hK => ?_) AllReadyH.nil
      go_simp
      have ho := (Os.lit0 V1).base hb.size
      replace hb := hb.alloc hb.size (.cells #[] 67)
      replace kb := kb.alloc (.cells #[] 67)
      obtain ⟨q, hu⟩ : ∃ k, V1.heap.size = k := ⟨_, rfl⟩
      obtain ⟨V2, hW⟩ : ∃ W, V1.alloc (.cells #[] 67) = W := ⟨_, rfl⟩
      rw [hW] at ho hb kb ⊢
      rw [hu] at ho ⊢
      clear hW hu
      refine hK.out _ _ ⟨(k1.below hb k1.lt).cell 0, (k1.below hb k1.lt).cell 1⟩ (fun hS => ?_)
      clear hK K
      try simp (maxSteps := 10000000) only [Act.put, List.setIfInBounds_toArray, List.set_cons_zero, List.set_cons_succ, List.getElem_toArray, List.getElem_cons_zero, List.getElem_cons_succ]
      refine wpAnyH_ready (rs := [7]) (by kernel_rfl) (by simp) ?_
      refine AllReadyH.cons rfl (fun K hK => ?_) AllReadyH.nil
      refine step_push_stops rfl (.tmp 101) (.tmp 105) rfl w5.heap.size (some ⟨q, 0, none⟩) (0) 0 ([]) rfl ho _ (some ad0) (0) c (ps.take 0) rfl ((h_p.below hb).front (k := 0) (by have := HNM.out; omega)) (by omega) (by omega) hb.size ?_
      intro A1 cap1 V3 ho2 hg
      have hb2 := hb.grown hg hb.size (fun r e => (ho.lt r e).1)
      replace kb := kb.grown hg (ho.bk_ne kb (by decide))
      replace ho := ho2
      replace hb := hb2
      clear ho2 hb2 hg
      try simp only [Nat.zero_add, List.nil_append] at ho ⊢
      refine hK.out _ _ ⟨(k1.below hb k1.lt).cell 0, (k1.below hb k1.lt).cell 1⟩ (fun hS => ?_)
      clear hK K
      try simp (maxSteps := 10000000) only [Act.put, List.setIfInBounds_toArray, List.set_cons_zero, List.set_cons_succ, List.getElem_toArray, List.getElem_cons_zero, List.getElem_cons_succ]
      refine wpAnyH_ready (rs := [13]) (by kernel_rfl) (by simp) ?_
      refine AllReadyH.cons rfl (fun K hK => ?_) AllReadyH.nil
      refine step_push_stops rfl (.tmp 106) (.tmp 111) rfl w5.heap.size A1 (0) cap1 (ps.take 0) rfl ho _ (some (ad0.add (j1 * 2))) (n - j1) _ (ps.drop j1) rfl ((h_p.below hb).back (k := j1) (by have := HNM.out; omega)) (by omega) (by omega) hb.size ?_
      intro A2 cap2 V4 ho2 hg
      have hb2 := hb.grown hg hb.size (fun r e => (ho.lt r e).1)
      replace kb := kb.grown hg (ho.bk_ne kb (by decide))
      replace ho := ho2
      replace hb := hb2
      clear ho2 hb2 hg
      try simp only [Nat.zero_add] at ho ⊢
      have hnl : n - j1 = nm := by have := HNM.out; have := HJ1.out; omega
      rw [hnl] at ho ⊢
      clear hnl
      rw [HQX.out] at ho
      obtain ⟨ad, hA⟩ : ∃ ad, A2 = some ad := by
        obtain ⟨g, hA, _⟩ := ho.row (by have := HNM.out; have := HJ1.out; omega)
        exact ⟨_, hA⟩
      subst hA
      obtain ⟨cap, hcap⟩ : ∃ k, cap2 = k := ⟨_, rfl⟩
      rw [hcap] at ho ⊢
      clear hcap
      refine hK.out _ _ ⟨(k1.below hb k1.lt).cell 0, (k1.below hb k1.lt).cell 1⟩ (fun hS => ?_)
      clear hK K
      try simp (maxSteps := 10000000) only [Act.put, List.setIfInBounds_toArray, List.set_cons_zero, List.set_cons_succ, List.getElem_toArray, List.getElem_cons_zero, List.getElem_cons_succ]
      refine wpAnyH_take (i := 14) (v := ?_) rfl (by kernel_rfl) (by kernel_rfl) (by kernel_rfl) (fun _ _ _ h => h) (Or.inl ⟨by rfl, ?_⟩) hS ?_
      rotate_left
      · intro w hSw
        (try dsimp only at hSw)
        go_simp
        (try with_reducible rfl)
      try simp (maxSteps := 10000000) only [Act.put, List.setIfInBounds_toArray, List.set_cons_zero, List.set_cons_succ, List.getElem_toArray, List.getElem_cons_zero, List.getElem_cons_succ]
      refine wpAnyH_ready (rs := [16]) (by kernel_rfl) (by simp) ?_
      refine AllReadyH.cons rfl (fun K hK => ?_) AllReadyH.nil
      have c0 := kb.cell 0
      have c1 := kb.cell 1
      have f0 := kb.frozen 0
      have f1 := kb.frozen 1
      go_simp
      clear c0 c1 f0 f1
      have hbs := (hb.setCell (p := ⟨u, 0, none⟩) hub (.int .i64 b)).setCell (p := ⟨u, 1, none⟩) hub (.slice (some ad) nm cap)
      have kbs := (kb.set_ 0 (.int .i64 b)).set_ 1 (.slice (some ad) nm cap)
      have hos := (ho.setOther (p := ⟨u, 0, none⟩) (ho.bk_ne kb (by decide)) (.int .i64 b)).setOther (p := ⟨u, 1, none⟩) (ho.bk_ne kb (by decide)) (.slice (some ad) nm cap)
      refine hK.out _ _ ⟨(k1.below hbs k1.lt).cell 0, (k1.below hbs k1.lt).cell 1⟩ (fun hS => ?_)
      clear hK K
      try simp (maxSteps := 10000000) only [Act.put, List.setIfInBounds_toArray, List.set_cons_zero, List.set_cons_succ, List.getElem_toArray, List.getElem_cons_zero, List.getElem_cons_succ]
      refine wpAnyH_done (by kernel_rfl) (NoPanic.normal ?_) _
      exact ⟨q, u, cap, ad, A1, cap1, rfl, hbs, kbs, hos⟩
  rintro a' w6 ⟨q, u, cap, ad, A1, cap1, rfl, hb, kx, ho⟩
  try simp (maxSteps := 10000000) only [Act.put, List.setIfInBounds_toArray, List.set_cons_zero, List.set_cons_succ]
  refine hK0 _ _ ?_
  clear hK0 K0
  have hcx := ho.cap
  have h_x := ho.rp
  clear ho
  have Bw6 : Below w.heap.size w w6 := Bw5.trans (hb.mono Bw5.size)
  replace h_y := h_y.next hb (Nat.le_refl _) hb.size
  replace h_p := h_p.next hb (Nat.le_refl _) hb.size
  replace k1 := k1.below hb k1.lt
  clear Bw5
  clear hb
  have d_k1_0 := k1.cell 0
  have d_k1_1 := k1.cell 1
  have d_kx_0 := kx.cell 0
  have d_kx_1 := kx.cell 1
  go_wp2_with fail
  clear d_k1_0 d_k1_1 d_kx_0 d_kx_1
  refine (aWalked b (some ad0) n c ps Y my cy bs _ h_p HP h_y (by omega)).mono ?_
  rintro e w7 ⟨Aw, cw, rfl, ho, hcw, hb⟩
  have Bw7 : Below w.heap.size w w7 := Bw6.trans (hb.mono Bw6.size)
  replace h_y := h_y.next hb (Nat.le_refl _) hb.size
  replace h_p := h_p.next hb (Nat.le_refl _) hb.size
  replace k1 := k1.below hb k1.lt
  replace kx := kx.below hb kx.lt
  replace h_x := h_x.next hb (Nat.le_refl _) hb.size
  clear Bw6
  clear hb
  have h_w := ho.ri
  clear ho
  have d_k1_0 := k1.cell 0
  have d_k1_1 := k1.cell 1
  have d_kx_0 := kx.cell 0
  have d_kx_1 := kx.cell 1
  go_wp2
  clear d_k1_0 d_k1_1 d_kx_0 d_kx_1
  obtain ⟨own, HOW⟩ : ∃ l, Hid (walkedL b ps bs = l) := ⟨_, Lib.hid rfl⟩
  rw [HOW.out] at h_w
  have HOL : Hid (own.length = n) := Lib.hid (by have := h_w.len; rw [ofN_length] at this; exact this)
  have HOI : Hid (∀ i ∈ own, i < n) := Lib.hid (by
    have := allR_in (walked_all b ps bs)
    rw [HOW.out, HL.out] at this
    exact this)
  go_loopw [20, 21] (fun l i wr => ∃ (k j : Nat) (A' : Option Addr) (c' : Nat) (xs : List Nat), k ≤ n ∧ i = .int .i64 (k : Int) ∧ l = .slice A' j c' ∧ Hid (lessL 0 (own.take k) = xs) ∧ Oj wr w7.heap.size A' j c' (ofN xs) ∧ Below w7.heap.size w7 wr) (fun _ i _ => n - (intOf i).toNat)
  case atStart => exact ⟨0, 0, none, 0, [], Nat.zero_le _, rfl, rfl, Lib.hid (by simp [lessL]), Oj.nil_ _ _, Below.refl _ _⟩
  case round =>
    obtain ⟨k, j, A', c', xs, hk, rfl, rfl, HXS, ho, hb⟩ := hrel
    have hj : j ≤ 10 := by
      have h1 := ho.len
      rw [ofN_length, ← HXS.out] at h1
      have h2 := lessL_len 0 (own.take k)
      rw [List.length_take, HOL.out] at h2
      omega
    have hsz : w7.heap.size ≤ wr.heap.size := hb.size
    by_cases hlt : k < n
    · obtain ⟨aw, xi, rfl, _, cx, HXI, _⟩ := (h_w.below hb).at_ hlt
      obtain ⟨x, HX, rfl⟩ : ∃ x : Nat, Hid (own[k]? = some x) ∧ xi = (x : Int) := by
        obtain ⟨x, h1, h2⟩ := ofN_at HXI.out
        exact ⟨x, Lib.hid h1, h2⟩
      have hxn : x < n := HOI.out x (List.mem_of_getElem? HX.out)
      have HLT := Lib.hid (lessL_take (g := 0) HX.out)
      clear HXI
      by_cases hxg : x = 0
      · have HN : Hid (lessL 0 (own.take (k + 1)) = xs) := Lib.hid (by rw [HLT.out, if_pos hxg, HXS.out])
        clear HLT
        subst hxg
        go_wp2
        go_roundw
        case rel => exact ⟨k + 1, j, A', c', xs, by omega, by go_num, rfl, HN, ho, hb⟩
        case measure => simp [intOf]; omega
      · have hxb : ((x : Int) == 0) = false := by simp; omega
        have hxc : ((x : Int) = 0) = False := by simp; omega
        by_cases hgx : 0 < x
        · obtain ⟨x1, HX1⟩ : ∃ x1 : Nat, Hid (x = x1 + 1) := ⟨x - 1, Lib.hid (by omega)⟩
          have hwx : IntKind.i64.wrap ((x : Int) - 1) = (x1 : Int) := by rw [IntWalk.i64_in _ (by omega)]; have := HX1.out; omega
          have HN : Hid (lessL 0 (own.take (k + 1)) = xs ++ [x1]) := Lib.hid (by rw [HLT.out, if_neg hxg, HXS.out, show dn 0 x = x1 from by unfold dn; rw [if_pos hgx]; have := HX1.out; omega])
          clear HLT
          go_wp2_with (at_builtin; go_must (refine push_num rfl (.tmp 138) (.tmp 140) rfl w7.heap.size A' j c' (ofN xs) rfl (ho.alloc _) ⟨wr.heap.size, 0, none⟩ 1 (x1 : Int) rfl (cell_new1 _ _ _) (by omega) (by simp only [World.size_alloc]; omega) ?_); intro g1 cap1 w2 ho1 hg1)
          have hb2 : Below w7.heap.size w7 w2 := (hb.alloc (by omega) _).grown hg1 (by simp; omega) (fun r e => (ho.lt r e).1)
          go_roundw
          case rel => exact ⟨k + 1, j + 1, _, _, xs ++ [x1], by omega, by go_num, rfl, HN, by rw [ofN_append]; exact ho1, hb2⟩
          case measure => simp [intOf]; omega
        · exfalso; omega
    · have hkn : n = k := by omega
      have HXF : Hid (lessL 0 own = xs) := Lib.hid (by
        have h1 := HXS.out
        rw [List.take_of_length_le (by rw [HOL.out]; omega)] at h1
        exact h1)
      clear HXS hkn
      have hcl := ho.cap
      have h_l := ho.ri
      clear ho
      obtain ⟨w8, hW⟩ : ∃ W : World, wr = W := ⟨_, rfl⟩
      rw [hW] at hb h_l ⊢
      clear hW
      have Bw8 : Below w.heap.size w w8 := Bw7.trans (hb.mono Bw7.size)
      replace h_y := h_y.next hb (Nat.le_refl _) hb.size
      replace h_p := h_p.next hb (Nat.le_refl _) hb.size
      replace k1 := k1.below hb k1.lt
      replace kx := kx.below hb kx.lt
      replace h_x := h_x.next hb (Nat.le_refl _) hb.size
      replace h_w := h_w.next hb (Nat.le_refl _) hb.size
      clear Bw7
      clear hb
      have h0 := HCASE.out
      rw [HOW.out] at h0
      rcases h0 with h1 | h1 | h1
      · have HK3 : Hid (checkRoundS b ps (ofN own) = ([], 12)) := Lib.hid h1.1
        obtain ⟨sa, sb, HS1⟩ : ∃ x y, Hid (shortestS b ps = (x, y, 12)) := ⟨_, _, Lib.hid h1.2⟩
        clear h1
        obtain ⟨T4, e4, HK4⟩ : ∃ x y, Hid (checkRoundS b qx (ofN xs) = (x, y)) := ⟨_, _, Lib.hid rfl⟩
        obtain ⟨ta, tb, e6, HS2⟩ : ∃ x y e, Hid (shortestS b qx = (x, y, e)) := ⟨_, _, _, Lib.hid rfl⟩
        have d_k1_0 := k1.cell 0
        have d_k1_1 := k1.cell 1
        have d_kx_0 := kx.cell 0
        have d_kx_1 := kx.cell 1
        go_wp2_with fail
        clear d_k1_0 d_k1_1 d_kx_0 d_kx_1
        refine (fCkRound b (some ad0) n c ps _ n cw (ofN own) _ h_p (by omega) hc h_w (by omega) hcw ([], 12) HK3).mono ?_
        rintro e w9 ⟨As, ns, cs, rfl, ho, hb⟩
        have Bw9 : Below w.heap.size w w9 := Bw8.trans (hb.mono Bw8.size)
        replace h_y := h_y.next hb (Nat.le_refl _) hb.size
        replace h_p := h_p.next hb (Nat.le_refl _) hb.size
        replace k1 := k1.below hb k1.lt
        replace kx := kx.below hb kx.lt
        replace h_x := h_x.next hb (Nat.le_refl _) hb.size
        replace h_w := h_w.next hb (Nat.le_refl _) hb.size
        replace h_l := h_l.next hb (Nat.le_refl _) hb.size
        clear Bw8
        clear hb
        clear ho
        have d_k1_0 := k1.cell 0
        have d_k1_1 := k1.cell 1
        have d_kx_0 := kx.cell 0
        have d_kx_1 := kx.cell 1
        go_wp2_with fail
        clear d_k1_0 d_k1_1 d_kx_0 d_kx_1
        refine (fCkRound b (some ad) nm cap qx A' j c' (ofN xs) _ h_x (by have := HNM.out; omega) hcx h_l (by omega) hcl (T4, e4) HK4).mono ?_
        rintro e w10 ⟨At, nt, ct, rfl, ho, hb⟩
        have Bw10 : Below w.heap.size w w10 := Bw9.trans (hb.mono Bw9.size)
        replace h_y := h_y.next hb (Nat.le_refl _) hb.size
        replace h_p := h_p.next hb (Nat.le_refl _) hb.size
        replace k1 := k1.below hb k1.lt
        replace kx := kx.below hb kx.lt
        replace h_x := h_x.next hb (Nat.le_refl _) hb.size
        replace h_w := h_w.next hb (Nat.le_refl _) hb.size
        replace h_l := h_l.next hb (Nat.le_refl _) hb.size
        clear Bw9
        clear hb
        clear ho
        have d_k1_0 := k1.cell 0
        have d_k1_1 := k1.cell 1
        have d_kx_0 := kx.cell 0
        have d_kx_1 := kx.cell 1
        go_wp2_with fail
        clear d_k1_0 d_k1_1 d_kx_0 d_kx_1
        refine (fShortest b (some ad0) n c ps _ h_p (by omega) hc (sa, sb, 12) HS1).mono ?_
        rintro e w11 ⟨rfl, hb⟩
        have Bw11 : Below w.heap.size w w11 := Bw10.trans (hb.mono Bw10.size)
        replace h_y := h_y.next hb (Nat.le_refl _) hb.size
        replace h_p := h_p.next hb (Nat.le_refl _) hb.size
        replace k1 := k1.below hb k1.lt
        replace kx := kx.below hb kx.lt
        replace h_x := h_x.next hb (Nat.le_refl _) hb.size
        replace h_w := h_w.next hb (Nat.le_refl _) hb.size
        replace h_l := h_l.next hb (Nat.le_refl _) hb.size
        clear Bw10
        clear hb
        have d_k1_0 := k1.cell 0
        have d_k1_1 := k1.cell 1
        have d_kx_0 := kx.cell 0
        have d_kx_1 := kx.cell 1
        go_wp2_with fail
        clear d_k1_0 d_k1_1 d_kx_0 d_kx_1
        refine (fShortest b (some ad) nm cap qx _ h_x (by have := HNM.out; omega) hcx (ta, tb, e6) HS2).mono ?_
        rintro e w12 ⟨rfl, hb⟩
        have Bw12 : Below w.heap.size w w12 := Bw11.trans (hb.mono Bw11.size)
        replace h_y := h_y.next hb (Nat.le_refl _) hb.size
        replace h_p := h_p.next hb (Nat.le_refl _) hb.size
        replace k1 := k1.below hb k1.lt
        replace kx := kx.below hb kx.lt
        replace h_x := h_x.next hb (Nat.le_refl _) hb.size
        replace h_w := h_w.next hb (Nat.le_refl _) hb.size
        replace h_l := h_l.next hb (Nat.le_refl _) hb.size
        clear Bw11
        clear hb
        have d_k1_0 := k1.cell 0
        have d_k1_1 := k1.cell 1
        have d_kx_0 := kx.cell 0
        have d_kx_1 := kx.cell 1
        go_wp2_with fail
        clear d_k1_0 d_k1_1 d_kx_0 d_kx_1
        refine (aWorks _).mono ?_
        rintro e w13 ⟨rfl, hb⟩
        have Bw13 : Below w.heap.size w w13 := Bw12.trans (hb.mono Bw12.size)
        replace h_y := h_y.next hb (Nat.le_refl _) hb.size
        replace h_p := h_p.next hb (Nat.le_refl _) hb.size
        replace k1 := k1.below hb k1.lt
        replace kx := kx.below hb kx.lt
        replace h_x := h_x.next hb (Nat.le_refl _) hb.size
        replace h_w := h_w.next hb (Nat.le_refl _) hb.size
        replace h_l := h_l.next hb (Nat.le_refl _) hb.size
        clear Bw12
        clear hb
        go_wp2
        go_ret
        exact ⟨rfl, Bw13⟩
      · obtain ⟨S3, h2⟩ := h1.1
        have HK3 : Hid (checkRoundS b ps (ofN own) = (S3, 0)) := Lib.hid h2
        obtain ⟨sa, sb, h3⟩ := h1.2
        have HS1 : Hid (shortestS b ps = (sa, sb, 0)) := Lib.hid h3
        clear h1 h2 h3
        obtain ⟨T4, e4, HK4⟩ : ∃ x y, Hid (checkRoundS b qx (ofN xs) = (x, y)) := ⟨_, _, Lib.hid rfl⟩
        obtain ⟨ta, tb, e6, HS2⟩ : ∃ x y e, Hid (shortestS b qx = (x, y, e)) := ⟨_, _, _, Lib.hid rfl⟩
        have he4 : e4 = 0 := by
          have h := more_round HP.out (g := 0) (by rw [HL.out]; omega) (by first | (left; rfl) | (right; rw [HL.out]; have := HNM.out; omega)) (by rw [HL.out]; omega) (walked_all b ps bs) (by rw [HOW.out, HK3.out])
          rw [HOW.out, HXF.out, HCUT.out, HK4.out] at h
          exact h
        subst he4
        have hes : e6 = 0 ∧ tb ≤ sb := by
          have h := cut_shortest HP.out (g := 0) (by rw [HL.out]; omega) (by first | (left; rfl) | (right; rw [HL.out]; have := HNM.out; omega)) (by rw [HL.out]; omega) (by rw [HS1.out])
          rw [HCUT.out, HS2.out, HS1.out] at h
          exact h
        obtain ⟨he6, hsb⟩ := hes
        subst he6
        have d_k1_0 := k1.cell 0
        have d_k1_1 := k1.cell 1
        have d_kx_0 := kx.cell 0
        have d_kx_1 := kx.cell 1
        go_wp2_with fail
        clear d_k1_0 d_k1_1 d_kx_0 d_kx_1
        refine (fCkRound b (some ad0) n c ps _ n cw (ofN own) _ h_p (by omega) hc h_w (by omega) hcw (S3, 0) HK3).mono ?_
        rintro e w9 ⟨As, ns, cs, rfl, ho, hb⟩
        have Bw9 : Below w.heap.size w w9 := Bw8.trans (hb.mono Bw8.size)
        replace h_y := h_y.next hb (Nat.le_refl _) hb.size
        replace h_p := h_p.next hb (Nat.le_refl _) hb.size
        replace k1 := k1.below hb k1.lt
        replace kx := kx.below hb kx.lt
        replace h_x := h_x.next hb (Nat.le_refl _) hb.size
        replace h_w := h_w.next hb (Nat.le_refl _) hb.size
        replace h_l := h_l.next hb (Nat.le_refl _) hb.size
        clear Bw8
        clear hb
        clear ho
        have d_k1_0 := k1.cell 0
        have d_k1_1 := k1.cell 1
        have d_kx_0 := kx.cell 0
        have d_kx_1 := kx.cell 1
        go_wp2_with fail
        clear d_k1_0 d_k1_1 d_kx_0 d_kx_1
        refine (fCkRound b (some ad) nm cap qx A' j c' (ofN xs) _ h_x (by have := HNM.out; omega) hcx h_l (by omega) hcl (T4, 0) HK4).mono ?_
        rintro e w10 ⟨At, nt, ct, rfl, ho, hb⟩
        have Bw10 : Below w.heap.size w w10 := Bw9.trans (hb.mono Bw9.size)
        replace h_y := h_y.next hb (Nat.le_refl _) hb.size
        replace h_p := h_p.next hb (Nat.le_refl _) hb.size
        replace k1 := k1.below hb k1.lt
        replace kx := kx.below hb kx.lt
        replace h_x := h_x.next hb (Nat.le_refl _) hb.size
        replace h_w := h_w.next hb (Nat.le_refl _) hb.size
        replace h_l := h_l.next hb (Nat.le_refl _) hb.size
        clear Bw9
        clear hb
        clear ho
        have d_k1_0 := k1.cell 0
        have d_k1_1 := k1.cell 1
        have d_kx_0 := kx.cell 0
        have d_kx_1 := kx.cell 1
        go_wp2_with fail
        clear d_k1_0 d_k1_1 d_kx_0 d_kx_1
        refine (fShortest b (some ad0) n c ps _ h_p (by omega) hc (sa, sb, 0) HS1).mono ?_
        rintro e w11 ⟨rfl, hb⟩
        have Bw11 : Below w.heap.size w w11 := Bw10.trans (hb.mono Bw10.size)
        replace h_y := h_y.next hb (Nat.le_refl _) hb.size
        replace h_p := h_p.next hb (Nat.le_refl _) hb.size
        replace k1 := k1.below hb k1.lt
        replace kx := kx.below hb kx.lt
        replace h_x := h_x.next hb (Nat.le_refl _) hb.size
        replace h_w := h_w.next hb (Nat.le_refl _) hb.size
        replace h_l := h_l.next hb (Nat.le_refl _) hb.size
        clear Bw10
        clear hb
        have d_k1_0 := k1.cell 0
        have d_k1_1 := k1.cell 1
        have d_kx_0 := kx.cell 0
        have d_kx_1 := kx.cell 1
        go_wp2_with fail
        clear d_k1_0 d_k1_1 d_kx_0 d_kx_1
        refine (fShortest b (some ad) nm cap qx _ h_x (by have := HNM.out; omega) hcx (ta, tb, 0) HS2).mono ?_
        rintro e w12 ⟨rfl, hb⟩
        have Bw12 : Below w.heap.size w w12 := Bw11.trans (hb.mono Bw11.size)
        replace h_y := h_y.next hb (Nat.le_refl _) hb.size
        replace h_p := h_p.next hb (Nat.le_refl _) hb.size
        replace k1 := k1.below hb k1.lt
        replace kx := kx.below hb kx.lt
        replace h_x := h_x.next hb (Nat.le_refl _) hb.size
        replace h_w := h_w.next hb (Nat.le_refl _) hb.size
        replace h_l := h_l.next hb (Nat.le_refl _) hb.size
        clear Bw11
        clear hb
        have d_k1_0 := k1.cell 0
        have d_k1_1 := k1.cell 1
        have d_kx_0 := kx.cell 0
        have d_kx_1 := kx.cell 1
        go_wp2_with fail
        clear d_k1_0 d_k1_1 d_kx_0 d_kx_1
        refine (aWorks _).mono ?_
        rintro e w13 ⟨rfl, hb⟩
        have Bw13 : Below w.heap.size w w13 := Bw12.trans (hb.mono Bw12.size)
        replace h_y := h_y.next hb (Nat.le_refl _) hb.size
        replace h_p := h_p.next hb (Nat.le_refl _) hb.size
        replace k1 := k1.below hb k1.lt
        replace kx := kx.below hb kx.lt
        replace h_x := h_x.next hb (Nat.le_refl _) hb.size
        replace h_w := h_w.next hb (Nat.le_refl _) hb.size
        replace h_l := h_l.next hb (Nat.le_refl _) hb.size
        clear Bw12
        clear hb
        go_wp2
        go_ret
        exact ⟨rfl, Bw13⟩
      · have HK3 : Hid (checkRoundS b ps (ofN own) = ([], 12)) := Lib.hid h1.1
        obtain ⟨sa, sb, h3⟩ := h1.2
        have HS1 : Hid (shortestS b ps = (sa, sb, 0)) := Lib.hid h3
        clear h1 h3
        obtain ⟨T4, e4, HK4⟩ : ∃ x y, Hid (checkRoundS b qx (ofN xs) = (x, y)) := ⟨_, _, Lib.hid rfl⟩
        obtain ⟨ta, tb, e6, HS2⟩ : ∃ x y e, Hid (shortestS b qx = (x, y, e)) := ⟨_, _, _, Lib.hid rfl⟩
        have hes : e6 = 0 ∧ tb ≤ sb := by
          have h := cut_shortest HP.out (g := 0) (by rw [HL.out]; omega) (by first | (left; rfl) | (right; rw [HL.out]; have := HNM.out; omega)) (by rw [HL.out]; omega) (by rw [HS1.out])
          rw [HCUT.out, HS2.out, HS1.out] at h
          exact h
        obtain ⟨he6, hsb⟩ := hes
        subst he6
        have d_k1_0 := k1.cell 0
        have d_k1_1 := k1.cell 1
        have d_kx_0 := kx.cell 0
        have d_kx_1 := kx.cell 1
        go_wp2_with fail
        clear d_k1_0 d_k1_1 d_kx_0 d_kx_1
        refine (fCkRound b (some ad0) n c ps _ n cw (ofN own) _ h_p (by omega) hc h_w (by omega) hcw ([], 12) HK3).mono ?_
        rintro e w9 ⟨As, ns, cs, rfl, ho, hb⟩
        have Bw9 : Below w.heap.size w w9 := Bw8.trans (hb.mono Bw8.size)
        replace h_y := h_y.next hb (Nat.le_refl _) hb.size
        replace h_p := h_p.next hb (Nat.le_refl _) hb.size
        replace k1 := k1.below hb k1.lt
        replace kx := kx.below hb kx.lt
        replace h_x := h_x.next hb (Nat.le_refl _) hb.size
        replace h_w := h_w.next hb (Nat.le_refl _) hb.size
        replace h_l := h_l.next hb (Nat.le_refl _) hb.size
        clear Bw8
        clear hb
        clear ho
        have d_k1_0 := k1.cell 0
        have d_k1_1 := k1.cell 1
        have d_kx_0 := kx.cell 0
        have d_kx_1 := kx.cell 1
        go_wp2_with fail
        clear d_k1_0 d_k1_1 d_kx_0 d_kx_1
        refine (fCkRound b (some ad) nm cap qx A' j c' (ofN xs) _ h_x (by have := HNM.out; omega) hcx h_l (by omega) hcl (T4, e4) HK4).mono ?_
        rintro e w10 ⟨At, nt, ct, rfl, ho, hb⟩
        have Bw10 : Below w.heap.size w w10 := Bw9.trans (hb.mono Bw9.size)
        replace h_y := h_y.next hb (Nat.le_refl _) hb.size
        replace h_p := h_p.next hb (Nat.le_refl _) hb.size
        replace k1 := k1.below hb k1.lt
        replace kx := kx.below hb kx.lt
        replace h_x := h_x.next hb (Nat.le_refl _) hb.size
        replace h_w := h_w.next hb (Nat.le_refl _) hb.size
        replace h_l := h_l.next hb (Nat.le_refl _) hb.size
        clear Bw9
        clear hb
        clear ho
        have d_k1_0 := k1.cell 0
        have d_k1_1 := k1.cell 1
        have d_kx_0 := kx.cell 0
        have d_kx_1 := kx.cell 1
        go_wp2_with fail
        clear d_k1_0 d_k1_1 d_kx_0 d_kx_1
        refine (fShortest b (some ad0) n c ps _ h_p (by omega) hc (sa, sb, 0) HS1).mono ?_
        rintro e w11 ⟨rfl, hb⟩
        have Bw11 : Below w.heap.size w w11 := Bw10.trans (hb.mono Bw10.size)
        replace h_y := h_y.next hb (Nat.le_refl _) hb.size
        replace h_p := h_p.next hb (Nat.le_refl _) hb.size
        replace k1 := k1.below hb k1.lt
        replace kx := kx.below hb kx.lt
        replace h_x := h_x.next hb (Nat.le_refl _) hb.size
        replace h_w := h_w.next hb (Nat.le_refl _) hb.size
        replace h_l := h_l.next hb (Nat.le_refl _) hb.size
        clear Bw10
        clear hb
        have d_k1_0 := k1.cell 0
        have d_k1_1 := k1.cell 1
        have d_kx_0 := kx.cell 0
        have d_kx_1 := kx.cell 1
        go_wp2_with fail
        clear d_k1_0 d_k1_1 d_kx_0 d_kx_1
        refine (fShortest b (some ad) nm cap qx _ h_x (by have := HNM.out; omega) hcx (ta, tb, 0) HS2).mono ?_
        rintro e w12 ⟨rfl, hb⟩
        have Bw12 : Below w.heap.size w w12 := Bw11.trans (hb.mono Bw11.size)
        replace h_y := h_y.next hb (Nat.le_refl _) hb.size
        replace h_p := h_p.next hb (Nat.le_refl _) hb.size
        replace k1 := k1.below hb k1.lt
        replace kx := kx.below hb kx.lt
        replace h_x := h_x.next hb (Nat.le_refl _) hb.size
        replace h_w := h_w.next hb (Nat.le_refl _) hb.size
        replace h_l := h_l.next hb (Nat.le_refl _) hb.size
        clear Bw11
        clear hb
        have d_k1_0 := k1.cell 0
        have d_k1_1 := k1.cell 1
        have d_kx_0 := kx.cell 0
        have d_kx_1 := kx.cell 1
        go_wp2_with fail
        clear d_k1_0 d_k1_1 d_kx_0 d_kx_1
        refine (aWorks _).mono ?_
        rintro e w13 ⟨rfl, hb⟩
        have Bw13 : Below w.heap.size w w13 := Bw12.trans (hb.mono Bw12.size)
        replace h_y := h_y.next hb (Nat.le_refl _) hb.size
        replace h_p := h_p.next hb (Nat.le_refl _) hb.size
        replace k1 := k1.below hb k1.lt
        replace kx := kx.below hb kx.lt
        replace h_x := h_x.next hb (Nat.le_refl _) hb.size
        replace h_w := h_w.next hb (Nat.le_refl _) hb.size
        replace h_l := h_l.next hb (Nat.le_refl _) hb.size
        clear Bw12
        clear hb
        go_wp2
        go_ret
        exact ⟨rfl, Bw13⟩
end Go.Proofs.Ytaekjnjignlmoaa
