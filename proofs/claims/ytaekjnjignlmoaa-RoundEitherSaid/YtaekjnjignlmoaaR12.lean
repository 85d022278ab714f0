/-
  The reference: 'Within'. Printed by gen_r12.py.
-/
import Derived.Test.YtaekjnjignlmoaaR8
import Derived.Test.YtaekjnjignlmoaaI
namespace Go.Proofs.Ytaekjnjignlmoaa
open Go.RowKit Go.Shelf

set_option maxRecDepth 100000 in
set_option maxHeartbeats 8000000 in
theorem rWithin (b : Int) (A : Option Addr) (n c : Nat) (ps : List (Int × Int)) (s : Int) (w : World) (h_p : Rp w w.heap.size A n ps) (hn : n ≤ 1048576) (v1 v2 v3 : Int) (HV : Hid (withinS b ps s = (v1, v2, v3))) :
    Calls Try.prog 32 #[.agg #[.int .i64 b, .slice A n c], .int .i64 s] w (RetRE w v1 v2 v3) := by
  have HL := Lib.hid h_p.len
  obtain ⟨q, HQ⟩ : ∃ q, Hid (checkPier b ps = q) := ⟨_, Lib.hid rfl⟩
  have hmix : Try.prog.follows .mixedOrders = true := by kernel_rfl
  have k1 := (Bk.new w 24 #[.int .i64 b, .slice A n c]).alloc (.cells #[.int .i64 0, .int .i64 0] 43)
  have kR := Bk.new (w.alloc (.cells #[.int .i64 b, .slice A n c] 24)) 43 #[.int .i64 0, .int .i64 0]
  have hb : Below w.heap.size w ((w.alloc (.cells #[.int .i64 b, .slice A n c] 24)).alloc (.cells #[.int .i64 0, .int .i64 0] 43)) := ((Below.refl _ w).alloc (Nat.le_refl _) _).alloc (by simp) _
  simp only [World.size_alloc] at kR
  have d0 := k1.cell 0
  have d1 := k1.cell 1
  go_enter Try.func32, Try.ntmps32
  go_wp2_with fail
  clear d0 d1
  try simp only [World.size_alloc]
  obtain ⟨u1, hu1⟩ : ∃ k, w.heap.size = k := ⟨_, rfl⟩
  obtain ⟨uR, huR⟩ : ∃ k, w.heap.size + 1 = k := ⟨_, rfl⟩
  rw [huR] at kR ⊢
  rw [hu1] at k1 ⊢
  obtain ⟨w1, hW⟩ : ∃ W, (w.alloc (.cells #[.int .i64 b, .slice A n c] 24)).alloc (.cells #[.int .i64 0, .int .i64 0] 43) = W := ⟨_, rfl⟩
  rw [hW] at k1 kR hb ⊢
  have HU1 := Lib.hid hu1
  have HUR := Lib.hid huR
  clear hW hu1 huR
  have Bw1 : Below w.heap.size w w1 := hb
  replace h_p := h_p.next hb (Nat.le_refl _) hb.size
  clear hb
  refine (rCheckPier b A n c ps _ h_p hn q HQ).mono ?_
  rintro e w2 ⟨rfl, hb⟩
  have Bw2 : Below w.heap.size w w2 := Bw1.trans (hb.mono Bw1.size)
  replace h_p := h_p.next hb (Nat.le_refl _) hb.size
  replace k1 := k1.below hb k1.lt
  replace kR := kR.below hb kR.lt
  clear Bw1
  clear hb
  by_cases hq : q = 0
  rotate_left
  · have hqb : (q != 0) = true := by simp [hq]
    have HNQ := Lib.hid hq
    clear hq
    have d_k1_0 := k1.cell 0
    have d_k1_1 := k1.cell 1
    have d_kR_0 := kR.cell 0
    have d_kR_1 := kR.cell 1
    go_wp2_with fail
    clear d_k1_0 d_k1_1 d_kR_0 d_kR_1
    refine (rCheckPier b A n c ps _ h_p hn q HQ).mono ?_
    rintro e w3 ⟨rfl, hb⟩
    have Bw3 : Below w.heap.size w w3 := Bw2.trans (hb.mono Bw2.size)
    replace h_p := h_p.next hb (Nat.le_refl _) hb.size
    replace k1 := k1.below hb k1.lt
    replace kR := kR.below hb kR.lt
    clear Bw2
    clear hb
    have HE : Hid (v1 = 0 ∧ v2 = 0 ∧ v3 = q) := Lib.hid (by have h := HV.out; unfold withinS at h; rw [HQ.out, if_neg HNQ.out] at h; cases h; exact ⟨rfl, rfl, rfl⟩)
    have f0 := kR.frozen 0
    have f1 := kR.frozen 1
    have r3 := (kR.set_ 0 (.int .i64 0)).set_ 1 (.int .i64 0)
    have d_k1_0 := k1.cell 0
    have d_k1_1 := k1.cell 1
    have d_kR_0 := kR.cell 0
    have d_kR_1 := kR.cell 1
    go_wp2
    refine bodyPost_ret (results_range rfl _ rfl r3) rfl ⟨by rw [HE.out.1, HE.out.2.1, HE.out.2.2]; rfl, ?_⟩
    exact (Bw3.setCell (p := ⟨uR, 0, none⟩) (by have := HUR.out; simp; omega) _).setCell (p := ⟨uR, 1, none⟩) (by have := HUR.out; simp; omega) _
  subst hq
  have HP : Hid (Pier b ps) := Lib.hid (checkPier_ok.1 HQ.out)
  have hn1 : 1 ≤ n := by rw [← HL.out]; exact HP.out.lo
  have hn10 : n ≤ 10 := by rw [← HL.out]; exact HP.out.hi
  have HV2 : Hid ((if s < 0 ∨ (n : Int) ≤ s then ((0, 0, 2) : Int × Int × Int) else if goodR b ps = [] then (0, 0, 12) else (minOf (stepsAt b ps s.toNat), maxOf (stepsAt b ps s.toNat), 0)) = (v1, v2, v3)) := Lib.hid (by
    have h := HV.out
    unfold withinS at h
    rw [HQ.out, if_pos rfl, HL.out] at h
    exact h)
  by_cases hs0 : s < 0
  · have HE : Hid (v1 = 0 ∧ v2 = 0 ∧ v3 = 2) := Lib.hid (by have h := HV2.out; rw [if_pos (.inl hs0)] at h; cases h; exact ⟨rfl, rfl, rfl⟩)
    have f0 := kR.frozen 0
    have f1 := kR.frozen 1
    have r3 := (kR.set_ 0 (.int .i64 0)).set_ 1 (.int .i64 0)
    have d_k1_0 := k1.cell 0
    have d_k1_1 := k1.cell 1
    have d_kR_0 := kR.cell 0
    have d_kR_1 := kR.cell 1
    go_wp2
    refine bodyPost_ret (results_range rfl _ rfl r3) rfl ⟨by rw [HE.out.1, HE.out.2.1, HE.out.2.2]; rfl, ?_⟩
    exact (Bw2.setCell (p := ⟨uR, 0, none⟩) (by have := HUR.out; simp; omega) _).setCell (p := ⟨uR, 1, none⟩) (by have := HUR.out; simp; omega) _
  by_cases hs1 : (n : Int) ≤ s
  · have hd0 : decide (s < 0) = false := decide_eq_false hs0
    have HS0 := Lib.hid hs0
    clear hs0
    have HE : Hid (v1 = 0 ∧ v2 = 0 ∧ v3 = 2) := Lib.hid (by have h := HV2.out; rw [if_pos (.inr hs1)] at h; cases h; exact ⟨rfl, rfl, rfl⟩)
    have f0 := kR.frozen 0
    have f1 := kR.frozen 1
    have r3 := (kR.set_ 0 (.int .i64 0)).set_ 1 (.int .i64 0)
    have d_k1_0 := k1.cell 0
    have d_k1_1 := k1.cell 1
    have d_kR_0 := kR.cell 0
    have d_kR_1 := kR.cell 1
    go_wp2
    refine bodyPost_ret (results_range rfl _ rfl r3) rfl ⟨by rw [HE.out.1, HE.out.2.1, HE.out.2.2]; rfl, ?_⟩
    exact (Bw2.setCell (p := ⟨uR, 0, none⟩) (by have := HUR.out; simp; omega) _).setCell (p := ⟨uR, 1, none⟩) (by have := HUR.out; simp; omega) _
  obtain ⟨t, rfl⟩ : ∃ t : Nat, s = (t : Int) := ⟨s.toNat, by omega⟩
  have htn : t < n := by omega
  have HV3 : Hid ((if goodR b ps = [] then ((0, 0, 12) : Int × Int × Int) else (minOf (stepsAt b ps t), maxOf (stepsAt b ps t), 0)) = (v1, v2, v3)) := Lib.hid (by
    have h := HV2.out
    rw [if_neg (by omega), Int.toNat_natCast] at h
    exact h)
  clear hs0 hs1
  obtain ⟨NG, HNG⟩ : ∃ N, Hid ((goodR b ps).length = N) := ⟨_, Lib.hid rfl⟩
  have hNGb : NG ≤ 252 := by
    have h1 := allR_many HP.out
    have h2 := List.length_filter_le (inTimeB b ps) (allR b ps)
    have h3 := HNG.out
    unfold goodR at h3
    omega
  obtain ⟨xs, HXS⟩ : ∃ xs, Hid (stepsAt b ps t = xs) := ⟨_, Lib.hid rfl⟩
  have HXL : Hid (xs.length = NG) := Lib.hid (by rw [← HXS.out]; unfold stepsAt; rw [List.length_map]; exact HNG.out)
  have htn0 : ¬ n ≤ t := by omega
  have d_k1_0 := k1.cell 0
  have d_k1_1 := k1.cell 1
  have d_kR_0 := kR.cell 0
  have d_kR_1 := kR.cell 1
  go_wp2_with fail
  clear d_k1_0 d_k1_1 d_kR_0 d_kR_1
  refine (rGood b A n c ps _ h_p HP NG HNG).mono ?_
  rintro e w3 ⟨Al, cl, rfl, hro, hb⟩
  have Bw3 : Below w.heap.size w w3 := Bw2.trans (hb.mono Bw2.size)
  replace h_p := h_p.next hb (Nat.le_refl _) hb.size
  replace k1 := k1.below hb k1.lt
  replace kR := kR.below hb kR.lt
  clear Bw2
  clear hb
  have h_l := hro
  clear hro htn0
  by_cases hng : NG = 0
  · have hnb : ((NG : Int) == 0) = true := by simp [hng]
    have HNG0 := Lib.hid hng
    clear hng
    have HE : Hid (v1 = 0 ∧ v2 = 0 ∧ v3 = 12) := Lib.hid (by have h := HV3.out; rw [if_pos (List.eq_nil_of_length_eq_zero (by rw [HNG.out]; exact HNG0.out))] at h; cases h; exact ⟨rfl, rfl, rfl⟩)
    have f0 := kR.frozen 0
    have f1 := kR.frozen 1
    have r3 := (kR.set_ 0 (.int .i64 0)).set_ 1 (.int .i64 0)
    have d_k1_0 := k1.cell 0
    have d_k1_1 := k1.cell 1
    have d_kR_0 := kR.cell 0
    have d_kR_1 := kR.cell 1
    go_wp2
    refine bodyPost_ret (results_range rfl _ rfl r3) rfl ⟨by rw [HE.out.1, HE.out.2.1, HE.out.2.2]; rfl, ?_⟩
    exact (Bw3.setCell (p := ⟨uR, 0, none⟩) (by have := HUR.out; simp; omega) _).setCell (p := ⟨uR, 1, none⟩) (by have := HUR.out; simp; omega) _
  · have hnb : ((NG : Int) == 0) = false := by simp [hng]
    have hng0 : 0 < NG := by omega
    have HNG0 := Lib.hid hng
    clear hng
    obtain ⟨ad, gr, cg, L, rfl, _, _, cl0, HLk, hrow⟩ := h_l.at_ hng0
    obtain ⟨l, HLl⟩ : ∃ l, Hid ((goodR b ps)[0]? = some l) := ⟨_, Lib.hid (List.getElem?_eq_getElem (by rw [HNG.out]; exact hng0))⟩
    have HLo : Hid (L = ofN l) := Lib.hid (by
      have h1 := HLk.out
      rw [List.getElem?_map, HLl.out] at h1
      exact (Option.some.inj h1).symm)
    rw [HLo.out] at hrow
    have HAl : Hid (l ∈ allR b ps) := Lib.hid (mem_goodR.1 (List.mem_of_getElem? HLl.out)).1
    have h_r := hrow.ri
    clear hrow
    obtain ⟨T, HT⟩ : ∃ T, Hid ((stepsL b ps l).take n = T) := ⟨_, Lib.hid rfl⟩
    have HTL : Hid (T.length = n) := Lib.hid (by
      obtain ⟨s, hs, hkk, _⟩ := full_round HP.out HAl.out
      rw [← HT.out, stepsL_some hs, List.length_take, hkk.out]
      omega)
    obtain ⟨x, HX⟩ : ∃ z, Hid (nth T t = z) := ⟨_, Lib.hid rfl⟩
    have HXK : Hid (xs[0]? = some x) := Lib.hid (by
      rw [← HXS.out]
      unfold stepsAt
      rw [List.getElem?_map, HLl.out, ← HX.out, ← HT.out, nth_take htn]
      rfl)
    have c0a : w3.cell? ad = some (.slice (some ⟨gr, 0, none⟩) n cg) := cl0
    clear cl0
    have d_k1_0 := k1.cell 0
    have d_k1_1 := k1.cell 1
    have d_kR_0 := kR.cell 0
    have d_kR_1 := kR.cell 1
    go_wp2
    clear d_k1_0 d_k1_1 d_kR_0 d_kR_1
    have e_k1_0 := k1.drew.cell 0
    have e_k1_1 := k1.drew.cell 1
    have e_c0a : w3.drew.cell? (ad) = some (.slice (some ⟨gr, 0, none⟩) n cg) := c0a
    refine wp_region_noPanic ?_
    refine wp_region_held_drew (S := fun V => V.cell? ⟨u1, 0, none⟩ = some (.int .i64 b) ∧ V.cell? ⟨u1, 1, none⟩ = some (.slice A n c) ∧ V.cell? (ad) = some (.slice (some ⟨gr, 0, none⟩) n cg)) hmix ⟨e_k1_0, e_k1_1, e_c0a⟩ (fun hS => ?_)
    clear e_k1_0 e_k1_1 e_c0a
    obtain ⟨w4, hW⟩ : ∃ W, w3.drew = W := ⟨_, rfl⟩
    have hb : Below w3.heap.size w3 w4 := hW ▸ below_drewN (Below.refl _ _) 1
    rw [hW] at hS ⊢
    clear hW
    have Bw4 : Below w.heap.size w w4 := Bw3.trans (hb.mono Bw3.size)
    replace h_p := h_p.next hb (Nat.le_refl _) hb.size
    replace k1 := k1.below hb k1.lt
    replace kR := kR.below hb kR.lt
    replace h_l := h_l.below hb
    replace h_r := h_r.next hb (Nat.le_refl _) hb.size
    replace c0a := (hb.cell (World.block_lt_of_cell? _ _ c0a)).trans c0a
    clear Bw3
    clear hb
    refine wpAnyH_take (i := 0) (v := ?_) rfl (by kernel_rfl) (by kernel_rfl) (by kernel_rfl) (fun _ _ _ h => h) (Or.inl ⟨by rfl, ?_⟩) hS ?_
    rotate_left
    · intro w hSw
      (try dsimp only at hSw)
      go_simp
      (try with_reducible rfl)
    try simp (maxSteps := 10000000) only [Act.put, List.setIfInBounds_toArray, List.set_cons_zero, List.set_cons_succ, List.getElem_toArray, List.getElem_cons_zero]
    refine wpAnyH_take (i := 1) (v := ?_) rfl (by kernel_rfl) (by kernel_rfl) (by kernel_rfl) (fun _ _ _ h => h) (Or.inl ⟨by rfl, ?_⟩) hS ?_
    rotate_left
    · intro w hSw
      (try dsimp only at hSw)
      go_simp
      (try with_reducible rfl)
    try simp (maxSteps := 10000000) only [Act.put, List.setIfInBounds_toArray, List.set_cons_zero, List.set_cons_succ, List.getElem_toArray, List.getElem_cons_zero, List.getElem_cons_succ]
    refine wpAnyH_take (i := 2) (v := ?_) rfl (by kernel_rfl) (by kernel_rfl) (by kernel_rfl) (fun _ _ _ h => h) (Or.inl ⟨by rfl, ?_⟩) hS ?_
    rotate_left
    · intro w hSw
      (try dsimp only at hSw)
      go_simp
      (try with_reducible rfl)
    try simp (maxSteps := 10000000) only [Act.put, List.setIfInBounds_toArray, List.set_cons_zero, List.set_cons_succ, List.getElem_toArray, List.getElem_cons_zero, List.getElem_cons_succ]
    refine wpAnyH_take (i := 3) (v := ?_) rfl (by kernel_rfl) (by kernel_rfl) (by kernel_rfl) (fun _ _ _ h => h) (Or.inl ⟨by rfl, ?_⟩) hS ?_
    rotate_left
    · intro w hSw
      (try dsimp only at hSw)
      go_simp
      (try with_reducible rfl)
    try simp (maxSteps := 10000000) only [Act.put, List.setIfInBounds_toArray, List.set_cons_zero, List.set_cons_succ, List.getElem_toArray, List.getElem_cons_zero, List.getElem_cons_succ]
    refine wpAnyH_take (i := 5) (v := ?_) rfl (by kernel_rfl) (by kernel_rfl) (by kernel_rfl) (fun _ _ _ h => h) (Or.inl ⟨by rfl, ?_⟩) hS ?_
    rotate_left
    · intro w hSw
      (try dsimp only at hSw)
      go_simp
      (try with_reducible rfl)
    try simp (maxSteps := 10000000) only [Act.put, List.setIfInBounds_toArray, List.set_cons_zero, List.set_cons_succ, List.getElem_toArray, List.getElem_cons_zero, List.getElem_cons_succ]
    refine wpAnyH_ready (rs := [4]) (by kernel_rfl) (by simp) ?_
    refine AllReadyH.cons rfl (fun K hK => ?_) AllReadyH.nil
    go_simp
    refine (rStepsOf b A n c ps _ n cg l _ h_p HP h_r HAl T HT).mono ?_
    rintro e w5 ⟨As, ns, cs, rfl, ho, hb⟩
    have Bw5 : Below w.heap.size w w5 := Bw4.trans (hb.mono Bw4.size)
    replace h_p := h_p.next hb (Nat.le_refl _) hb.size
    replace k1 := k1.below hb k1.lt
    replace kR := kR.below hb kR.lt
    replace h_l := h_l.below hb
    replace h_r := h_r.next hb (Nat.le_refl _) hb.size
    replace c0a := (hb.cell (World.block_lt_of_cell? _ _ c0a)).trans c0a
    clear Bw4
    clear hb
    have h_s := ho.ri
    clear ho
    have hns : ns = n := by rw [← h_s.len]; exact HTL.out
    obtain ⟨adT, xT, rfl, _, cT, hxT, _⟩ := h_s.at_ (show t < ns by omega)
    have HXT : xT = x := by rw [← nth_some hxT.out]; exact HX.out
    rw [HXT] at cT
    have htns : t < ns := by omega
    clear HXT hns
    refine hK.out _ _ ⟨k1.cell 0, k1.cell 1, c0a⟩ (fun hS => ?_)
    clear hK K
    try simp (maxSteps := 10000000) only [Act.put, List.setIfInBounds_toArray, List.set_cons_zero, List.set_cons_succ, List.getElem_toArray, List.getElem_cons_zero, List.getElem_cons_succ]
    refine wpAnyH_ready (rs := [6]) (by kernel_rfl) (by simp) ?_
    refine AllReadyH.cons rfl (fun K hK => ?_) AllReadyH.nil
    go_simp
    refine hK.out _ _ ⟨k1.cell 0, k1.cell 1, c0a⟩ (fun hS => ?_)
    clear hK K
    try simp (maxSteps := 10000000) only [Act.put, List.setIfInBounds_toArray, List.set_cons_zero, List.set_cons_succ, List.getElem_toArray, List.getElem_cons_zero, List.getElem_cons_succ]
    refine wpAnyH_ready (rs := [7]) (by kernel_rfl) (by simp) ?_
    refine AllReadyH.cons rfl (fun K hK => ?_) AllReadyH.nil
    go_simp
    refine hK.out _ _ ⟨k1.cell 0, k1.cell 1, c0a⟩ (fun hS => ?_)
    clear hK K
    try simp (maxSteps := 10000000) only [Act.put, List.setIfInBounds_toArray, List.set_cons_zero, List.set_cons_succ, List.getElem_toArray, List.getElem_cons_zero, List.getElem_cons_succ]
    refine wpAnyH_take (i := 8) (v := ?_) rfl (by kernel_rfl) (by kernel_rfl) (by kernel_rfl) (fun _ _ _ h => h) (Or.inl ⟨by rfl, ?_⟩) hS ?_
    rotate_left
    · intro w hSw
      (try dsimp only at hSw)
      go_simp
      (try with_reducible rfl)
    try simp (maxSteps := 10000000) only [Act.put, List.setIfInBounds_toArray, List.set_cons_zero, List.set_cons_succ, List.getElem_toArray, List.getElem_cons_zero, List.getElem_cons_succ]
    refine wpAnyH_done (by kernel_rfl) (NoPanic.normal ?_) _
    clear hS
    clear cT htns
    clear h_r
    clear c0a
    clear h_s
    obtain ⟨x0, HX0⟩ : ∃ z, Hid (x = z ∧ xs[0]? = some z) := ⟨x, Lib.hid ⟨rfl, HXK.out⟩⟩
    rw [HX0.out.1]
    clear HXK
    have d_k1_0 := k1.cell 0
    have d_k1_1 := k1.cell 1
    have d_kR_0 := kR.cell 0
    have d_kR_1 := kR.cell 1
    go_wp2
    clear d_k1_0 d_k1_1 d_kR_0 d_kR_1
    have k8 := Bk.new w5 43 #[.int .i64 x0, .int .i64 x0]
    have hb8 : Below w5.heap.size w5 (w5.alloc (.cells #[.int .i64 x0, .int .i64 x0] 43)) := (Below.refl _ _).alloc (Nat.le_refl _) _
    obtain ⟨u8, hu8⟩ : ∃ k, w5.heap.size = k := ⟨_, rfl⟩
    have hRl := kR.lt
    have h1l := k1.lt
    rw [hu8] at k8 hb8 hRl h1l ⊢
    have HU8 := Lib.hid hu8
    clear hu8
    have HB0 : Hid (minOf (xs.take (max 0 1)) = x0 ∧ maxOf (xs.take (max 0 1)) = x0) := Lib.hid (by
      have h1 := HX0.out.2
      cases xs with
      | nil => cases h1
      | cons y ys =>
        have : y = x0 := by simpa using h1
        subst this
        exact ⟨rfl, rfl⟩)
    go_loopw [9] (fun i wr => ∃ k : Nat, k ≤ NG ∧ i = .int .i64 (k : Int) ∧ Bk wr u8 43 #[.int .i64 (minOf (xs.take (max k 1))), .int .i64 (maxOf (xs.take (max k 1)))] ∧ Below u8 w5 wr) (fun i _ => NG - (intOf i).toNat)
    case atStart => exact ⟨0, Nat.zero_le _, rfl, by rw [HB0.out.1, HB0.out.2]; exact k8, hb8⟩
    case round =>
      clear k8 hb8
      obtain ⟨k, hk, rfl, k8, hbu⟩ := hrel
      obtain ⟨lo, HLO⟩ : ∃ z, Hid (minOf (xs.take (max k 1)) = z) := ⟨_, Lib.hid rfl⟩
      obtain ⟨hi, HHI⟩ : ∃ z, Hid (maxOf (xs.take (max k 1)) = z) := ⟨_, Lib.hid rfl⟩
      rw [HLO.out, HHI.out] at k8
      obtain ⟨w6, hW⟩ : ∃ W : World, wr = W := ⟨_, rfl⟩
      rw [hW] at hbu k8 ⊢
      clear hW
      have Bl := hbu
      rw [← HU8.out] at hbu
      have hb := hbu
      clear hbu
      have Bw6 : Below w.heap.size w w6 := Bw5.trans (hb.mono Bw5.size)
      replace h_p := h_p.next hb (Nat.le_refl _) hb.size
      replace k1 := k1.below hb k1.lt
      replace kR := kR.below hb kR.lt
      replace h_l := h_l.below hb
      clear Bw5
      clear hb
      by_cases hlt : k < NG
      · obtain ⟨ad', gr, cg, L, hA, _, _, cl0, HLk, hrow⟩ := h_l.at_ hlt
        obtain rfl : ad = ad' := Option.some.inj hA
        clear hA
        obtain ⟨l, HLl⟩ : ∃ l, Hid ((goodR b ps)[k]? = some l) := ⟨_, Lib.hid (List.getElem?_eq_getElem (by rw [HNG.out]; exact hlt))⟩
        have HLo : Hid (L = ofN l) := Lib.hid (by
          have h1 := HLk.out
          rw [List.getElem?_map, HLl.out] at h1
          exact (Option.some.inj h1).symm)
        rw [HLo.out] at hrow
        have HAl : Hid (l ∈ allR b ps) := Lib.hid (mem_goodR.1 (List.mem_of_getElem? HLl.out)).1
        have h_r := hrow.ri
        clear hrow
        obtain ⟨T, HT⟩ : ∃ T, Hid ((stepsL b ps l).take n = T) := ⟨_, Lib.hid rfl⟩
        have HTL : Hid (T.length = n) := Lib.hid (by
          obtain ⟨s, hs, hkk, _⟩ := full_round HP.out HAl.out
          rw [← HT.out, stepsL_some hs, List.length_take, hkk.out]
          omega)
        obtain ⟨x, HX⟩ : ∃ z, Hid (nth T t = z) := ⟨_, Lib.hid rfl⟩
        have HXK : Hid (xs[k]? = some x) := Lib.hid (by
          rw [← HXS.out]
          unfold stepsAt
          rw [List.getElem?_map, HLl.out, ← HX.out, ← HT.out, nth_take htn]
          rfl)
        have d_k1_0 := k1.cell 0
        have d_k1_1 := k1.cell 1
        have d_kR_0 := kR.cell 0
        have d_kR_1 := kR.cell 1
        have d_k8_0 := k8.cell 0
        have d_k8_1 := k8.cell 1
        go_wp2
        clear d_k1_0 d_k1_1 d_kR_0 d_kR_1 d_k8_0 d_k8_1
        have e_k1_0 := k1.drew.cell 0
        have e_k1_1 := k1.drew.cell 1
        have e_cl0 : w6.drew.cell? (ad.add k) = some (.slice (some ⟨gr, 0, none⟩) n cg) := cl0
        refine wp_region_noPanic ?_
        refine wp_region_held_drew (S := fun V => V.cell? ⟨u1, 0, none⟩ = some (.int .i64 b) ∧ V.cell? ⟨u1, 1, none⟩ = some (.slice A n c) ∧ V.cell? (ad.add k) = some (.slice (some ⟨gr, 0, none⟩) n cg)) hmix ⟨e_k1_0, e_k1_1, e_cl0⟩ (fun hS => ?_)
        clear e_k1_0 e_k1_1 e_cl0
        obtain ⟨w7, hW⟩ : ∃ W, w6.drew = W := ⟨_, rfl⟩
        have hb : Below w6.heap.size w6 w7 := hW ▸ below_drewN (Below.refl _ _) 1
        rw [hW] at hS ⊢
        clear hW
        have Bw7 : Below w.heap.size w w7 := Bw6.trans (hb.mono Bw6.size)
        replace h_p := h_p.next hb (Nat.le_refl _) hb.size
        replace k1 := k1.below hb k1.lt
        replace kR := kR.below hb kR.lt
        replace h_l := h_l.below hb
        replace Bl := Bl.trans (hb.mono (Nat.le_trans (Nat.le_of_lt k8.lt) (Nat.le_refl _)))
        replace k8 := k8.below hb k8.lt
        replace h_r := h_r.next hb (Nat.le_refl _) hb.size
        replace cl0 := (hb.cell (World.block_lt_of_cell? _ _ cl0)).trans cl0
        clear Bw6
        clear hb
        refine wpAnyH_take (i := 0) (v := ?_) rfl (by kernel_rfl) (by kernel_rfl) (by kernel_rfl) (fun _ _ _ h => h) (Or.inl ⟨by rfl, ?_⟩) hS ?_
        rotate_left
        · intro w hSw
          (try dsimp only at hSw)
          go_simp
          (try with_reducible rfl)
        try simp (maxSteps := 10000000) only [Act.put, List.setIfInBounds_toArray, List.set_cons_zero, List.set_cons_succ, List.getElem_toArray, List.getElem_cons_zero]
        refine wpAnyH_take (i := 1) (v := ?_) rfl (by kernel_rfl) (by kernel_rfl) (by kernel_rfl) (fun _ _ _ h => h) (Or.inl ⟨by rfl, ?_⟩) hS ?_
        rotate_left
        · intro w hSw
          (try dsimp only at hSw)
          go_simp
          (try with_reducible rfl)
        try simp (maxSteps := 10000000) only [Act.put, List.setIfInBounds_toArray, List.set_cons_zero, List.set_cons_succ, List.getElem_toArray, List.getElem_cons_zero, List.getElem_cons_succ]
        refine wpAnyH_take (i := 2) (v := ?_) rfl (by kernel_rfl) (by kernel_rfl) (by kernel_rfl) (fun _ _ _ h => h) (Or.inl ⟨by rfl, ?_⟩) hS ?_
        rotate_left
        · intro w hSw
          (try dsimp only at hSw)
          go_simp
          (try with_reducible rfl)
        try simp (maxSteps := 10000000) only [Act.put, List.setIfInBounds_toArray, List.set_cons_zero, List.set_cons_succ, List.getElem_toArray, List.getElem_cons_zero, List.getElem_cons_succ]
        refine wpAnyH_take (i := 3) (v := ?_) rfl (by kernel_rfl) (by kernel_rfl) (by kernel_rfl) (fun _ _ _ h => h) (Or.inl ⟨by rfl, ?_⟩) hS ?_
        rotate_left
        · intro w hSw
          (try dsimp only at hSw)
          go_simp
          (try with_reducible rfl)
        try simp (maxSteps := 10000000) only [Act.put, List.setIfInBounds_toArray, List.set_cons_zero, List.set_cons_succ, List.getElem_toArray, List.getElem_cons_zero, List.getElem_cons_succ]
        refine wpAnyH_take (i := 4) (v := ?_) rfl (by kernel_rfl) (by kernel_rfl) (by kernel_rfl) (fun _ _ _ h => h) (Or.inl ⟨by rfl, ?_⟩) hS ?_
        rotate_left
        · intro w hSw
          (try dsimp only at hSw)
          go_simp
          (try with_reducible rfl)
        try simp (maxSteps := 10000000) only [Act.put, List.setIfInBounds_toArray, List.set_cons_zero, List.set_cons_succ, List.getElem_toArray, List.getElem_cons_zero, List.getElem_cons_succ]
        refine wpAnyH_take (i := 6) (v := ?_) rfl (by kernel_rfl) (by kernel_rfl) (by kernel_rfl) (fun _ _ _ h => h) (Or.inl ⟨by rfl, ?_⟩) hS ?_
        rotate_left
        · intro w hSw
          (try dsimp only at hSw)
          go_simp
          (try with_reducible rfl)
        try simp (maxSteps := 10000000) only [Act.put, List.setIfInBounds_toArray, List.set_cons_zero, List.set_cons_succ, List.getElem_toArray, List.getElem_cons_zero, List.getElem_cons_succ]
        refine wpAnyH_ready (rs := [5]) (by kernel_rfl) (by simp) ?_
        refine AllReadyH.cons rfl (fun K hK => ?_) AllReadyH.nil
        go_simp
        refine (rStepsOf b A n c ps _ n cg l _ h_p HP h_r HAl T HT).mono ?_
        rintro e w8 ⟨As, ns, cs, rfl, ho, hb⟩
        have Bw8 : Below w.heap.size w w8 := Bw7.trans (hb.mono Bw7.size)
        replace h_p := h_p.next hb (Nat.le_refl _) hb.size
        replace k1 := k1.below hb k1.lt
        replace kR := kR.below hb kR.lt
        replace h_l := h_l.below hb
        replace Bl := Bl.trans (hb.mono (Nat.le_trans (Nat.le_of_lt k8.lt) (Nat.le_refl _)))
        replace k8 := k8.below hb k8.lt
        replace h_r := h_r.next hb (Nat.le_refl _) hb.size
        replace cl0 := (hb.cell (World.block_lt_of_cell? _ _ cl0)).trans cl0
        clear Bw7
        clear hb
        have h_s := ho.ri
        clear ho
        have hns : ns = n := by rw [← h_s.len]; exact HTL.out
        obtain ⟨adT, xT, rfl, _, cT, hxT, _⟩ := h_s.at_ (show t < ns by omega)
        have HXT : xT = x := by rw [← nth_some hxT.out]; exact HX.out
        rw [HXT] at cT
        have htns : t < ns := by omega
        clear HXT hns
        refine hK.out _ _ ⟨k1.cell 0, k1.cell 1, cl0⟩ (fun hS => ?_)
        clear hK K
        try simp (maxSteps := 10000000) only [Act.put, List.setIfInBounds_toArray, List.set_cons_zero, List.set_cons_succ, List.getElem_toArray, List.getElem_cons_zero, List.getElem_cons_succ]
        refine wpAnyH_ready (rs := [7]) (by kernel_rfl) (by simp) ?_
        refine AllReadyH.cons rfl (fun K hK => ?_) AllReadyH.nil
        go_simp
        refine hK.out _ _ ⟨k1.cell 0, k1.cell 1, cl0⟩ (fun hS => ?_)
        clear hK K
        try simp (maxSteps := 10000000) only [Act.put, List.setIfInBounds_toArray, List.set_cons_zero, List.set_cons_succ, List.getElem_toArray, List.getElem_cons_zero, List.getElem_cons_succ]
        refine wpAnyH_ready (rs := [8]) (by kernel_rfl) (by simp) ?_
        refine AllReadyH.cons rfl (fun K hK => ?_) AllReadyH.nil
        go_simp
        refine hK.out _ _ ⟨k1.cell 0, k1.cell 1, cl0⟩ (fun hS => ?_)
        clear hK K
        try simp (maxSteps := 10000000) only [Act.put, List.setIfInBounds_toArray, List.set_cons_zero, List.set_cons_succ, List.getElem_toArray, List.getElem_cons_zero, List.getElem_cons_succ]
        refine wpAnyH_take (i := 9) (v := ?_) rfl (by kernel_rfl) (by kernel_rfl) (by kernel_rfl) (fun _ _ _ h => h) (Or.inl ⟨by rfl, ?_⟩) hS ?_
        rotate_left
        · intro w hSw
          (try dsimp only at hSw)
          go_simp
          (try with_reducible rfl)
        try simp (maxSteps := 10000000) only [Act.put, List.setIfInBounds_toArray, List.set_cons_zero, List.set_cons_succ, List.getElem_toArray, List.getElem_cons_zero, List.getElem_cons_succ]
        refine wpAnyH_done (by kernel_rfl) (NoPanic.normal ?_) _
        clear hS
        clear cT htns
        clear h_r
        clear cl0
        clear h_s
        have HNL : Hid (minOf (xs.take (max (k + 1) 1)) = (if x < lo then x else lo) ∧ maxOf (xs.take (max (k + 1) 1)) = (if hi < x then x else hi)) := Lib.hid (by
          rcases Nat.eq_zero_or_pos k with h0 | h0
          · have h1 := HLO.out
            have h3 := HHI.out
            have h2 := HXK.out
            rw [h0] at h1 h2 h3
            rw [h0, show max (0 + 1) 1 = 1 from rfl]
            rw [show max 0 1 = 1 from rfl] at h1 h3
            have h4 : lo = x ∧ hi = x := by
              rw [← h1, ← h3]
              cases xs with
              | nil => cases h2
              | cons y ys =>
                have : y = x := by simpa using h2
                subst this
                exact ⟨rfl, rfl⟩
            rw [h1, h3, h4.1, h4.2]
            constructor <;> split <;> rfl
          · have hne : xs.take k ≠ [] := by
              intro e
              have h1 := congrArg List.length e
              rw [List.length_take, HXL.out] at h1
              simp at h1
              omega
            have h1 := HLO.out
            have h3 := HHI.out
            rw [show max k 1 = k by omega] at h1 h3
            rw [show max (k + 1) 1 = k + 1 by omega, take_snoc HXK.out, minOf_snoc hne, maxOf_snoc hne, h1, h3]
            exact ⟨rfl, rfl⟩)
        have f80 := k8.frozen 0
        have f81 := k8.frozen 1
        by_cases hx1 : x < lo
        · by_cases hx2 : hi < x
          · have HN2 : Hid (minOf (xs.take (max (k + 1) 1)) = x ∧ maxOf (xs.take (max (k + 1) 1)) = x) := Lib.hid (by rw [HNL.out.1, HNL.out.2, if_pos hx1, if_pos hx2]; exact ⟨rfl, rfl⟩)
            have k9 := (k8.set_ 0 (.int .i64 x)).set_ 1 (.int .i64 x)
            have d_k1_0 := k1.cell 0
            have d_k1_1 := k1.cell 1
            have d_kR_0 := kR.cell 0
            have d_kR_1 := kR.cell 1
            have d_k8_0 := k8.cell 0
            have d_k8_1 := k8.cell 1
            go_wp2
            clear d_k1_0 d_k1_1 d_kR_0 d_kR_1 d_k8_0 d_k8_1
            go_roundw
            case rel => exact ⟨k + 1, by omega, by go_num, by rw [HN2.out.1, HN2.out.2]; exact k9, (Bl.setCell (p := ⟨u8, 0, none⟩) (Nat.le_refl _) _).setCell (p := ⟨u8, 1, none⟩) (Nat.le_refl _) _⟩
            case measure => simp [intOf]; omega
          · have HN2 : Hid (minOf (xs.take (max (k + 1) 1)) = x ∧ maxOf (xs.take (max (k + 1) 1)) = hi) := Lib.hid (by rw [HNL.out.1, HNL.out.2, if_pos hx1, if_neg hx2]; exact ⟨rfl, rfl⟩)
            have k9 := (k8.set_ 0 (.int .i64 x)).set_ 1 (.int .i64 hi)
            have d_k1_0 := k1.cell 0
            have d_k1_1 := k1.cell 1
            have d_kR_0 := kR.cell 0
            have d_kR_1 := kR.cell 1
            have d_k8_0 := k8.cell 0
            have d_k8_1 := k8.cell 1
            go_wp2
            clear d_k1_0 d_k1_1 d_kR_0 d_kR_1 d_k8_0 d_k8_1
            go_roundw
            case rel => exact ⟨k + 1, by omega, by go_num, by rw [HN2.out.1, HN2.out.2]; exact k9, (Bl.setCell (p := ⟨u8, 0, none⟩) (Nat.le_refl _) _).setCell (p := ⟨u8, 1, none⟩) (Nat.le_refl _) _⟩
            case measure => simp [intOf]; omega
        · by_cases hx2 : hi < x
          · have HN2 : Hid (minOf (xs.take (max (k + 1) 1)) = lo ∧ maxOf (xs.take (max (k + 1) 1)) = x) := Lib.hid (by rw [HNL.out.1, HNL.out.2, if_neg hx1, if_pos hx2]; exact ⟨rfl, rfl⟩)
            have k9 := (k8.set_ 0 (.int .i64 lo)).set_ 1 (.int .i64 x)
            have d_k1_0 := k1.cell 0
            have d_k1_1 := k1.cell 1
            have d_kR_0 := kR.cell 0
            have d_kR_1 := kR.cell 1
            have d_k8_0 := k8.cell 0
            have d_k8_1 := k8.cell 1
            go_wp2
            clear d_k1_0 d_k1_1 d_kR_0 d_kR_1 d_k8_0 d_k8_1
            go_roundw
            case rel => exact ⟨k + 1, by omega, by go_num, by rw [HN2.out.1, HN2.out.2]; exact k9, (Bl.setCell (p := ⟨u8, 0, none⟩) (Nat.le_refl _) _).setCell (p := ⟨u8, 1, none⟩) (Nat.le_refl _) _⟩
            case measure => simp [intOf]; omega
          · have HN2 : Hid (minOf (xs.take (max (k + 1) 1)) = lo ∧ maxOf (xs.take (max (k + 1) 1)) = hi) := Lib.hid (by rw [HNL.out.1, HNL.out.2, if_neg hx1, if_neg hx2]; exact ⟨rfl, rfl⟩)
            have k9 := (k8.set_ 0 (.int .i64 lo)).set_ 1 (.int .i64 hi)
            have d_k1_0 := k1.cell 0
            have d_k1_1 := k1.cell 1
            have d_kR_0 := kR.cell 0
            have d_kR_1 := kR.cell 1
            have d_k8_0 := k8.cell 0
            have d_k8_1 := k8.cell 1
            go_wp2
            clear d_k1_0 d_k1_1 d_kR_0 d_kR_1 d_k8_0 d_k8_1
            go_roundw
            case rel => exact ⟨k + 1, by omega, by go_num, by rw [HN2.out.1, HN2.out.2]; exact k9, (Bl.setCell (p := ⟨u8, 0, none⟩) (Nat.le_refl _) _).setCell (p := ⟨u8, 1, none⟩) (Nat.le_refl _) _⟩
            case measure => simp [intOf]; omega
      · have hgne : goodR b ps ≠ [] := fun e => by have := HNG.out; rw [e] at this; have h2 := HNG0.out; simp at this; omega
        have HE : Hid (v1 = lo ∧ v2 = hi ∧ v3 = 0) := Lib.hid (by have h := HV3.out; rw [if_neg hgne, HXS.out] at h; have h1 := HLO.out; have h2 := HHI.out; rw [List.take_of_length_le (by rw [HXL.out]; omega)] at h1 h2; rw [h1, h2] at h; cases h; exact ⟨rfl, rfl, rfl⟩)
        have f0 := kR.frozen 0
        have f1 := kR.frozen 1
        have r3 := (kR.set_ 0 (.int .i64 lo)).set_ 1 (.int .i64 hi)
        have d_k1_0 := k1.cell 0
        have d_k1_1 := k1.cell 1
        have d_kR_0 := kR.cell 0
        have d_kR_1 := kR.cell 1
        have d_k8_0 := k8.cell 0
        have d_k8_1 := k8.cell 1
        go_wp2
        refine bodyPost_ret (results_range rfl _ rfl r3) rfl ⟨by rw [HE.out.1, HE.out.2.1, HE.out.2.2]; rfl, ?_⟩
        exact (Bw6.setCell (p := ⟨uR, 0, none⟩) (by have := HUR.out; simp; omega) _).setCell (p := ⟨uR, 1, none⟩) (by have := HUR.out; simp; omega) _
end Go.Proofs.Ytaekjnjignlmoaa
