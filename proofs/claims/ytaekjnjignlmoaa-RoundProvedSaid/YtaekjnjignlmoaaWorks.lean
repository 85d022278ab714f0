/-
  The laws' 'Works'. Printed by gen_works.py.
-/
import Derived.Test.YtaekjnjignlmoaaLw2
import Derived.Test.YtaekjnjignlmoaaLw3
import Derived.Test.YtaekjnjignlmoaaKk
namespace Go.Proofs.Ytaekjnjignlmoaa
open Go.RowKit Go.Shelf

theorem fCkBoundsT (b : Int) (A : Option Addr) (n c : Nat) (ps : List (Int × Int)) (D : Option Addr) (N dc : Nat) (Rs : List (List (Int × Int))) (w : World) (hx : Rp w w.heap.size A n ps) (hn : n ≤ 1048576) (hc : n ≤ c) (hD : Bd w w.heap.size D N Rs) (hN : N ≤ 1048576) (hLs : Hid (∀ L ∈ Rs, L.length ≤ 1048576)) (v : Int × Int) (HV : Hid (ckBoundsS b ps Rs = v)) :
    Calls Try.prog 36 #[.agg #[.int .i64 b, .slice A n c], .slice D N dc] w (RetII w v.1 v.2) := by
  rw [← HV.out]
  exact fCkBounds b A n c ps D N dc Rs w hx hn hc hD hN hLs
theorem fBoundsT (b : Int) (A : Option Addr) (n c : Nat) (ps : List (Int × Int)) (w : World) (hx : Rp w w.heap.size A n ps) (hn : n ≤ 1048576) (hc : n ≤ c) (v : Int) (HV : Hid (checkPier b ps = v)) (Rs : List (List (Int × Int))) (HR : Hid (boundsS b ps = Rs)) :
    Calls Try.prog 38 #[.agg #[.int .i64 b, .slice A n c]] w (RetBd w Rs v) := by
  rw [← HV.out, ← HR.out]
  exact fBounds b A n c ps w hx hn hc
theorem wp_cut {P : Program} {c : Code} {K : Act → World → Prop} {Q : Exit → Act → World → Prop} {a : Act} {w : World} (R : Act → Act → World → Prop) (h1 : c.wp P (Exit.then (R a) Q) a w) (h2 : ∀ a' w', R a a' w' → K a' w') : c.wp P (Exit.then K Q) a w :=
  wp_mono h1 fun e a' w' h => by
    cases e
    case normal => exact h2 _ _ h
    all_goals exact h
set_option maxRecDepth 100000 in
set_option maxHeartbeats 16000000 in
theorem aWorks (w : World) : Calls Try.prog 18 #[] w (RetB w true) := by
  have hmix : Try.prog.follows .mixedOrders = true := by kernel_rfl
  go_enter Try.func18, Try.ntmps18
  go_wp2_with fail
  refine (aGood _).mono ?_
  rintro e w1 ⟨A1, c1, rfl, hog, hb⟩
  have hc1 := hog.cap
  have pg := hog.rp
  clear hog
  have Bw1 : Below w.heap.size w w1 := hb
  clear hb
  go_wp2_with fail
  refine (aLate _).mono ?_
  rintro e w2 ⟨A2, c2, rfl, hol, hb⟩
  have hc2 := hol.cap
  have pl := hol.rp
  clear hol
  have Bw2 : Below w.heap.size w w2 := Bw1.trans (hb.mono Bw1.size)
  replace pg := pg.next hb (Nat.le_refl _) hb.size
  clear Bw1 hb
  go_wp2
  have k1 := (Bk.new w2 24 #[.int .i64 5, .slice A1 4 c1]).alloc (.cells #[.int .i64 5, .slice A2 4 c2] 24)
  have k2 := Bk.new (w2.alloc (.cells #[.int .i64 5, .slice A1 4 c1] 24)) 24 #[.int .i64 5, .slice A2 4 c2]
  have hb : Below w2.heap.size w2 ((w2.alloc (.cells #[.int .i64 5, .slice A1 4 c1] 24)).alloc (.cells #[.int .i64 5, .slice A2 4 c2] 24)) := ((Below.refl _ w2).alloc (Nat.le_refl _) _).alloc (by simp) _
  simp only [World.size_alloc] at k2 ⊢
  obtain ⟨u1, hu1⟩ : ∃ k, w2.heap.size = k := ⟨_, rfl⟩
  obtain ⟨u2, hu2⟩ : ∃ k, w2.heap.size + 1 = k := ⟨_, rfl⟩
  rw [hu2] at k2 ⊢
  rw [hu1] at k1 ⊢
  obtain ⟨w3, hW⟩ : ∃ W, (w2.alloc (.cells #[.int .i64 5, .slice A1 4 c1] 24)).alloc (.cells #[.int .i64 5, .slice A2 4 c2] 24) = W := ⟨_, rfl⟩
  rw [hW] at k1 k2 hb ⊢
  clear hW hu1 hu2
  have Bw3 : Below w.heap.size w w3 := Bw2.trans (hb.mono Bw2.size)
  replace pg := pg.next hb (Nat.le_refl _) hb.size
  replace pl := pl.next hb (Nat.le_refl _) hb.size
  clear Bw2 hb
  go_wp2
  have d0 := k1.drew.cell 0
  have d1 := k1.drew.cell 1
  refine wp_region_noPanic ?_
  refine wp_region_held_drew (S := fun V => V.cell? ⟨u1, 0, none⟩ = some (.int .i64 5) ∧ V.cell? ⟨u1, 1, none⟩ = some (.slice A1 4 c1)) hmix ⟨d0, d1⟩ (fun hS => ?_)
  clear d0 d1
  refine wpAnyH_take (i := 0) (v := ?_) rfl (by kernel_rfl) (by kernel_rfl) (by kernel_rfl) (fun _ _ _ h => h) (Or.inl ⟨by rfl, ?_⟩) hS ?_
  rotate_left
  · intro w hSw
    (try dsimp only at hSw)
    go_simp
    (try with_reducible rfl)
  try simp (maxSteps := 10000000) only [Act.put, List.setIfInBounds_toArray, List.set_cons_zero, List.set_cons_succ, List.getElem_toArray, List.getElem_cons_zero]
  refine wpAnyH_ready (rs := [1]) (by kernel_rfl) (by simp) ?_
  refine AllReadyH.cons rfl (fun K hK => ?_) AllReadyH.nil
  go_simp
  have hb : Below w3.heap.size w3 (w3.alloc (.cells #[.int .i64 2, .int .i64 1, .int .i64 0, .int .i64 3] 3)).drew := below_drewN ((Below.refl _ w3).alloc (Nat.le_refl _) _) 1
  have h_l : Ri (w3.alloc (.cells #[.int .i64 2, .int .i64 1, .int .i64 0, .int .i64 3] 3)).drew (w3.alloc (.cells #[.int .i64 2, .int .i64 1, .int .i64 0, .int .i64 3] 3)).drew.heap.size (some ⟨w3.heap.size, 0, none⟩) 4 ([2, 1, 0, 3] : List Int) := (Oj.lit w3 #[.int .i64 2, .int .i64 1, .int .i64 0, .int .i64 3] 4 [2, 1, 0, 3] rfl rfl (by omega)).ri
  obtain ⟨w4, hW⟩ : ∃ W, (w3.alloc (.cells #[.int .i64 2, .int .i64 1, .int .i64 0, .int .i64 3] 3)).drew = W := ⟨_, rfl⟩
  rw [hW] at hb h_l ⊢
  clear hW
  have Bw4 : Below w.heap.size w w4 := Bw3.trans (hb.mono Bw3.size)
  replace pg := pg.next hb (Nat.le_refl _) hb.size
  replace pl := pl.next hb (Nat.le_refl _) hb.size
  replace k1 := k1.below hb k1.lt
  replace k2 := k2.below hb k2.lt
  clear Bw3 hb
  refine hK.out _ _ ⟨k1.cell 0, k1.cell 1⟩ (fun hS => ?_)
  clear hK K
  try simp (maxSteps := 10000000) only [Act.put, List.setIfInBounds_toArray, List.set_cons_zero, List.set_cons_succ, List.getElem_toArray, List.getElem_cons_zero, List.getElem_cons_succ]
  refine wpAnyH_ready (rs := [2]) (by kernel_rfl) (by simp) ?_
  refine AllReadyH.cons rfl (fun K hK => ?_) AllReadyH.nil
  go_simp
  refine (aOf _ _).mono ?_
  rintro e w' ⟨rfl, rfl⟩
  refine hK.out _ _ hS (fun hS => ?_)
  clear hK K
  try simp (maxSteps := 10000000) only [Act.put, List.setIfInBounds_toArray, List.set_cons_zero, List.set_cons_succ, List.getElem_toArray, List.getElem_cons_zero, List.getElem_cons_succ]
  refine wpAnyH_ready (rs := [3]) (by kernel_rfl) (by simp) ?_
  refine AllReadyH.cons rfl (fun K hK => ?_) AllReadyH.nil
  go_simp
  refine (fCkRound 5 A1 4 c1 goodPs _ 4 4 [2, 1, 0, 3] _ pg (by omega) hc1 h_l (by omega) (Nat.le_refl _) ([7, 5, 2, 15], 0) (Lib.hid (by decide +kernel))).mono ?_
  rintro e w5 ⟨A5, n5, c_5, rfl, ho, hb⟩
  have Bw5 : Below w.heap.size w w5 := Bw4.trans (hb.mono Bw4.size)
  replace pg := pg.next hb (Nat.le_refl _) hb.size
  replace pl := pl.next hb (Nat.le_refl _) hb.size
  replace k1 := k1.below hb k1.lt
  replace k2 := k2.below hb k2.lt
  replace h_l := h_l.next hb (Nat.le_refl _) hb.size
  clear Bw4 hb
  have ra := ho.ri
  clear ho
  clear h_l
  refine hK.out _ _ ⟨k1.cell 0, k1.cell 1⟩ (fun hS => ?_)
  clear hK K
  try simp (maxSteps := 10000000) only
  refine wpAnyH_take (i := 4) (v := ?_) rfl (by kernel_rfl) (by kernel_rfl) (by kernel_rfl) (fun _ _ _ h => h) (Or.inl ⟨by rfl, ?_⟩) hS ?_
  rotate_left
  · intro w hSw
    (try dsimp only at hSw)
    go_simp
    (try with_reducible rfl)
  try simp (maxSteps := 10000000) only [Act.put, List.setIfInBounds_toArray, List.set_cons_zero, List.set_cons_succ, List.getElem_toArray, List.getElem_cons_zero, List.getElem_cons_succ]
  refine wpAnyH_take (i := 5) (v := ?_) rfl (by kernel_rfl) (by kernel_rfl) (by kernel_rfl) (fun _ _ _ h => h) (Or.inl ⟨by rfl, ?_⟩) hS ?_
  rotate_left
  · intro w hSw
    (try dsimp only at hSw)
    go_simp
    (try with_reducible rfl)
  try simp (maxSteps := 10000000) only [Act.put, List.setIfInBounds_toArray, List.set_cons_zero, List.set_cons_succ, List.getElem_toArray, List.getElem_cons_zero, List.getElem_cons_succ]
  refine wpAnyH_take (i := 6) (v := ?_) rfl (by kernel_rfl) (by kernel_rfl) (by kernel_rfl) (fun _ _ _ h => h) (Or.inl ⟨by rfl, ?_⟩) hS ?_
  rotate_left
  · intro w hSw
    (try dsimp only at hSw)
    go_simp
    (try with_reducible rfl)
  try simp (maxSteps := 10000000) only [Act.put, List.setIfInBounds_toArray, List.set_cons_zero, List.set_cons_succ, List.getElem_toArray, List.getElem_cons_zero, List.getElem_cons_succ]
  refine wpAnyH_take (i := 7) (v := ?_) rfl (by kernel_rfl) (by kernel_rfl) (by kernel_rfl) (fun _ _ _ h => h) (Or.inl ⟨by rfl, ?_⟩) hS ?_
  rotate_left
  · intro w hSw
    (try dsimp only at hSw)
    go_simp
    (try with_reducible rfl)
  try simp (maxSteps := 10000000) only [Act.put, List.setIfInBounds_toArray, List.set_cons_zero, List.set_cons_succ, List.getElem_toArray, List.getElem_cons_zero, List.getElem_cons_succ]
  refine wpAnyH_take (i := 8) (v := ?_) rfl (by kernel_rfl) (by kernel_rfl) (by kernel_rfl) (fun _ _ _ h => h) (Or.inl ⟨by rfl, ?_⟩) hS ?_
  rotate_left
  · intro w hSw
    (try dsimp only at hSw)
    go_simp
    (try with_reducible rfl)
  try simp (maxSteps := 10000000) only [Act.put, List.setIfInBounds_toArray, List.set_cons_zero, List.set_cons_succ, List.getElem_toArray, List.getElem_cons_zero, List.getElem_cons_succ]
  refine wpAnyH_done (by kernel_rfl) (NoPanic.normal ?_) _
  clear hS
  go_wp2
  have d0 := k1.drew.cell 0
  have d1 := k1.drew.cell 1
  refine wp_region_noPanic ?_
  refine wp_region_held_drew (S := fun V => V.cell? ⟨u1, 0, none⟩ = some (.int .i64 5) ∧ V.cell? ⟨u1, 1, none⟩ = some (.slice A1 4 c1)) hmix ⟨d0, d1⟩ (fun hS => ?_)
  clear d0 d1
  refine wpAnyH_take (i := 0) (v := ?_) rfl (by kernel_rfl) (by kernel_rfl) (by kernel_rfl) (fun _ _ _ h => h) (Or.inl ⟨by rfl, ?_⟩) hS ?_
  rotate_left
  · intro w hSw
    (try dsimp only at hSw)
    go_simp
    (try with_reducible rfl)
  try simp (maxSteps := 10000000) only [Act.put, List.setIfInBounds_toArray, List.set_cons_zero, List.set_cons_succ, List.getElem_toArray, List.getElem_cons_zero]
  refine wpAnyH_ready (rs := [1]) (by kernel_rfl) (by simp) ?_
  refine AllReadyH.cons rfl (fun K hK => ?_) AllReadyH.nil
  go_simp
  have hb : Below w5.heap.size w5 (w5.alloc (.cells #[.int .i64 0, .int .i64 1, .int .i64 2, .int .i64 3] 3)).drew := below_drewN ((Below.refl _ w5).alloc (Nat.le_refl _) _) 1
  have h_l : Ri (w5.alloc (.cells #[.int .i64 0, .int .i64 1, .int .i64 2, .int .i64 3] 3)).drew (w5.alloc (.cells #[.int .i64 0, .int .i64 1, .int .i64 2, .int .i64 3] 3)).drew.heap.size (some ⟨w5.heap.size, 0, none⟩) 4 ([0, 1, 2, 3] : List Int) := (Oj.lit w5 #[.int .i64 0, .int .i64 1, .int .i64 2, .int .i64 3] 4 [0, 1, 2, 3] rfl rfl (by omega)).ri
  obtain ⟨w6, hW⟩ : ∃ W, (w5.alloc (.cells #[.int .i64 0, .int .i64 1, .int .i64 2, .int .i64 3] 3)).drew = W := ⟨_, rfl⟩
  rw [hW] at hb h_l ⊢
  clear hW
  have Bw6 : Below w.heap.size w w6 := Bw5.trans (hb.mono Bw5.size)
  replace pg := pg.next hb (Nat.le_refl _) hb.size
  replace pl := pl.next hb (Nat.le_refl _) hb.size
  replace k1 := k1.below hb k1.lt
  replace k2 := k2.below hb k2.lt
  replace ra := ra.next hb (Nat.le_refl _) hb.size
  clear Bw5 hb
  refine hK.out _ _ ⟨k1.cell 0, k1.cell 1⟩ (fun hS => ?_)
  clear hK K
  try simp (maxSteps := 10000000) only [Act.put, List.setIfInBounds_toArray, List.set_cons_zero, List.set_cons_succ, List.getElem_toArray, List.getElem_cons_zero, List.getElem_cons_succ]
  refine wpAnyH_ready (rs := [2]) (by kernel_rfl) (by simp) ?_
  refine AllReadyH.cons rfl (fun K hK => ?_) AllReadyH.nil
  go_simp
  refine (aOf _ _).mono ?_
  rintro e w' ⟨rfl, rfl⟩
  refine hK.out _ _ hS (fun hS => ?_)
  clear hK K
  try simp (maxSteps := 10000000) only [Act.put, List.setIfInBounds_toArray, List.set_cons_zero, List.set_cons_succ, List.getElem_toArray, List.getElem_cons_zero, List.getElem_cons_succ]
  refine wpAnyH_ready (rs := [3]) (by kernel_rfl) (by simp) ?_
  refine AllReadyH.cons rfl (fun K hK => ?_) AllReadyH.nil
  go_simp
  refine (fCkRound 5 A1 4 c1 goodPs _ 4 4 [0, 1, 2, 3] _ pg (by omega) hc1 h_l (by omega) (Nat.le_refl _) ([], 16) (Lib.hid (by decide +kernel))).mono ?_
  rintro e w7 ⟨A7, n7, c_7, rfl, ho, hb⟩
  have Bw7 : Below w.heap.size w w7 := Bw6.trans (hb.mono Bw6.size)
  replace pg := pg.next hb (Nat.le_refl _) hb.size
  replace pl := pl.next hb (Nat.le_refl _) hb.size
  replace k1 := k1.below hb k1.lt
  replace k2 := k2.below hb k2.lt
  replace ra := ra.next hb (Nat.le_refl _) hb.size
  replace h_l := h_l.next hb (Nat.le_refl _) hb.size
  clear Bw6 hb
  clear h_l
  refine hK.out _ _ ⟨k1.cell 0, k1.cell 1⟩ (fun hS => ?_)
  clear hK K
  try simp (maxSteps := 10000000) only
  refine wpAnyH_take (i := 4) (v := ?_) rfl (by kernel_rfl) (by kernel_rfl) (by kernel_rfl) (fun _ _ _ h => h) (Or.inl ⟨by rfl, ?_⟩) hS ?_
  rotate_left
  · intro w hSw
    (try dsimp only at hSw)
    go_simp
    (try with_reducible rfl)
  try simp (maxSteps := 10000000) only [Act.put, List.setIfInBounds_toArray, List.set_cons_zero, List.set_cons_succ, List.getElem_toArray, List.getElem_cons_zero, List.getElem_cons_succ]
  refine wpAnyH_take (i := 5) (v := ?_) rfl (by kernel_rfl) (by kernel_rfl) (by kernel_rfl) (fun _ _ _ h => h) (Or.inl ⟨by rfl, ?_⟩) hS ?_
  rotate_left
  · intro w hSw
    (try dsimp only at hSw)
    go_simp
    (try with_reducible rfl)
  try simp (maxSteps := 10000000) only [Act.put, List.setIfInBounds_toArray, List.set_cons_zero, List.set_cons_succ, List.getElem_toArray, List.getElem_cons_zero, List.getElem_cons_succ]
  refine wpAnyH_take (i := 6) (v := ?_) rfl (by kernel_rfl) (by kernel_rfl) (by kernel_rfl) (fun _ _ _ h => h) (Or.inl ⟨by rfl, ?_⟩) hS ?_
  rotate_left
  · intro w hSw
    (try dsimp only at hSw)
    go_simp
    (try with_reducible rfl)
  try simp (maxSteps := 10000000) only [Act.put, List.setIfInBounds_toArray, List.set_cons_zero, List.set_cons_succ, List.getElem_toArray, List.getElem_cons_zero, List.getElem_cons_succ]
  refine wpAnyH_take (i := 7) (v := ?_) rfl (by kernel_rfl) (by kernel_rfl) (by kernel_rfl) (fun _ _ _ h => h) (Or.inl ⟨by rfl, ?_⟩) hS ?_
  rotate_left
  · intro w hSw
    (try dsimp only at hSw)
    go_simp
    (try with_reducible rfl)
  try simp (maxSteps := 10000000) only [Act.put, List.setIfInBounds_toArray, List.set_cons_zero, List.set_cons_succ, List.getElem_toArray, List.getElem_cons_zero, List.getElem_cons_succ]
  refine wpAnyH_take (i := 8) (v := ?_) rfl (by kernel_rfl) (by kernel_rfl) (by kernel_rfl) (fun _ _ _ h => h) (Or.inl ⟨by rfl, ?_⟩) hS ?_
  rotate_left
  · intro w hSw
    (try dsimp only at hSw)
    go_simp
    (try with_reducible rfl)
  try simp (maxSteps := 10000000) only [Act.put, List.setIfInBounds_toArray, List.set_cons_zero, List.set_cons_succ, List.getElem_toArray, List.getElem_cons_zero, List.getElem_cons_succ]
  refine wpAnyH_done (by kernel_rfl) (NoPanic.normal ?_) _
  clear hS
  go_wp2
  have d0 := k1.drew.cell 0
  have d1 := k1.drew.cell 1
  refine wp_region_noPanic ?_
  refine wp_region_held_drew (S := fun V => V.cell? ⟨u1, 0, none⟩ = some (.int .i64 5) ∧ V.cell? ⟨u1, 1, none⟩ = some (.slice A1 4 c1)) hmix ⟨d0, d1⟩ (fun hS => ?_)
  clear d0 d1
  refine wpAnyH_take (i := 0) (v := ?_) rfl (by kernel_rfl) (by kernel_rfl) (by kernel_rfl) (fun _ _ _ h => h) (Or.inl ⟨by rfl, ?_⟩) hS ?_
  rotate_left
  · intro w hSw
    (try dsimp only at hSw)
    go_simp
    (try with_reducible rfl)
  try simp (maxSteps := 10000000) only [Act.put, List.setIfInBounds_toArray, List.set_cons_zero, List.set_cons_succ, List.getElem_toArray, List.getElem_cons_zero]
  refine wpAnyH_ready (rs := [1]) (by kernel_rfl) (by simp) ?_
  refine AllReadyH.cons rfl (fun K hK => ?_) AllReadyH.nil
  go_simp
  have hb : Below w7.heap.size w7 (w7.alloc (.cells #[.int .i64 1, .int .i64 0, .int .i64 2, .int .i64 3] 3)).drew := below_drewN ((Below.refl _ w7).alloc (Nat.le_refl _) _) 1
  have h_l : Ri (w7.alloc (.cells #[.int .i64 1, .int .i64 0, .int .i64 2, .int .i64 3] 3)).drew (w7.alloc (.cells #[.int .i64 1, .int .i64 0, .int .i64 2, .int .i64 3] 3)).drew.heap.size (some ⟨w7.heap.size, 0, none⟩) 4 ([1, 0, 2, 3] : List Int) := (Oj.lit w7 #[.int .i64 1, .int .i64 0, .int .i64 2, .int .i64 3] 4 [1, 0, 2, 3] rfl rfl (by omega)).ri
  obtain ⟨w8, hW⟩ : ∃ W, (w7.alloc (.cells #[.int .i64 1, .int .i64 0, .int .i64 2, .int .i64 3] 3)).drew = W := ⟨_, rfl⟩
  rw [hW] at hb h_l ⊢
  clear hW
  have Bw8 : Below w.heap.size w w8 := Bw7.trans (hb.mono Bw7.size)
  replace pg := pg.next hb (Nat.le_refl _) hb.size
  replace pl := pl.next hb (Nat.le_refl _) hb.size
  replace k1 := k1.below hb k1.lt
  replace k2 := k2.below hb k2.lt
  replace ra := ra.next hb (Nat.le_refl _) hb.size
  clear Bw7 hb
  refine hK.out _ _ ⟨k1.cell 0, k1.cell 1⟩ (fun hS => ?_)
  clear hK K
  try simp (maxSteps := 10000000) only [Act.put, List.setIfInBounds_toArray, List.set_cons_zero, List.set_cons_succ, List.getElem_toArray, List.getElem_cons_zero, List.getElem_cons_succ]
  refine wpAnyH_ready (rs := [2]) (by kernel_rfl) (by simp) ?_
  refine AllReadyH.cons rfl (fun K hK => ?_) AllReadyH.nil
  go_simp
  refine (aOf _ _).mono ?_
  rintro e w' ⟨rfl, rfl⟩
  refine hK.out _ _ hS (fun hS => ?_)
  clear hK K
  try simp (maxSteps := 10000000) only [Act.put, List.setIfInBounds_toArray, List.set_cons_zero, List.set_cons_succ, List.getElem_toArray, List.getElem_cons_zero, List.getElem_cons_succ]
  refine wpAnyH_ready (rs := [3]) (by kernel_rfl) (by simp) ?_
  refine AllReadyH.cons rfl (fun K hK => ?_) AllReadyH.nil
  go_simp
  refine (fCkRound 5 A1 4 c1 goodPs _ 4 4 [1, 0, 2, 3] _ pg (by omega) hc1 h_l (by omega) (Nat.le_refl _) ([], 12) (Lib.hid (by decide +kernel))).mono ?_
  rintro e w9 ⟨A9, n9, c_9, rfl, ho, hb⟩
  have Bw9 : Below w.heap.size w w9 := Bw8.trans (hb.mono Bw8.size)
  replace pg := pg.next hb (Nat.le_refl _) hb.size
  replace pl := pl.next hb (Nat.le_refl _) hb.size
  replace k1 := k1.below hb k1.lt
  replace k2 := k2.below hb k2.lt
  replace ra := ra.next hb (Nat.le_refl _) hb.size
  replace h_l := h_l.next hb (Nat.le_refl _) hb.size
  clear Bw8 hb
  clear h_l
  refine hK.out _ _ ⟨k1.cell 0, k1.cell 1⟩ (fun hS => ?_)
  clear hK K
  try simp (maxSteps := 10000000) only
  refine wpAnyH_take (i := 4) (v := ?_) rfl (by kernel_rfl) (by kernel_rfl) (by kernel_rfl) (fun _ _ _ h => h) (Or.inl ⟨by rfl, ?_⟩) hS ?_
  rotate_left
  · intro w hSw
    (try dsimp only at hSw)
    go_simp
    (try with_reducible rfl)
  try simp (maxSteps := 10000000) only [Act.put, List.setIfInBounds_toArray, List.set_cons_zero, List.set_cons_succ, List.getElem_toArray, List.getElem_cons_zero, List.getElem_cons_succ]
  refine wpAnyH_take (i := 5) (v := ?_) rfl (by kernel_rfl) (by kernel_rfl) (by kernel_rfl) (fun _ _ _ h => h) (Or.inl ⟨by rfl, ?_⟩) hS ?_
  rotate_left
  · intro w hSw
    (try dsimp only at hSw)
    go_simp
    (try with_reducible rfl)
  try simp (maxSteps := 10000000) only [Act.put, List.setIfInBounds_toArray, List.set_cons_zero, List.set_cons_succ, List.getElem_toArray, List.getElem_cons_zero, List.getElem_cons_succ]
  refine wpAnyH_take (i := 6) (v := ?_) rfl (by kernel_rfl) (by kernel_rfl) (by kernel_rfl) (fun _ _ _ h => h) (Or.inl ⟨by rfl, ?_⟩) hS ?_
  rotate_left
  · intro w hSw
    (try dsimp only at hSw)
    go_simp
    (try with_reducible rfl)
  try simp (maxSteps := 10000000) only [Act.put, List.setIfInBounds_toArray, List.set_cons_zero, List.set_cons_succ, List.getElem_toArray, List.getElem_cons_zero, List.getElem_cons_succ]
  refine wpAnyH_take (i := 7) (v := ?_) rfl (by kernel_rfl) (by kernel_rfl) (by kernel_rfl) (fun _ _ _ h => h) (Or.inl ⟨by rfl, ?_⟩) hS ?_
  rotate_left
  · intro w hSw
    (try dsimp only at hSw)
    go_simp
    (try with_reducible rfl)
  try simp (maxSteps := 10000000) only [Act.put, List.setIfInBounds_toArray, List.set_cons_zero, List.set_cons_succ, List.getElem_toArray, List.getElem_cons_zero, List.getElem_cons_succ]
  refine wpAnyH_take (i := 8) (v := ?_) rfl (by kernel_rfl) (by kernel_rfl) (by kernel_rfl) (fun _ _ _ h => h) (Or.inl ⟨by rfl, ?_⟩) hS ?_
  rotate_left
  · intro w hSw
    (try dsimp only at hSw)
    go_simp
    (try with_reducible rfl)
  try simp (maxSteps := 10000000) only [Act.put, List.setIfInBounds_toArray, List.set_cons_zero, List.set_cons_succ, List.getElem_toArray, List.getElem_cons_zero, List.getElem_cons_succ]
  refine wpAnyH_done (by kernel_rfl) (NoPanic.normal ?_) _
  clear hS
  go_wp2
  have d0 := k1.drew.cell 0
  have d1 := k1.drew.cell 1
  refine wp_region_noPanic ?_
  refine wp_region_held_drew (S := fun V => V.cell? ⟨u1, 0, none⟩ = some (.int .i64 5) ∧ V.cell? ⟨u1, 1, none⟩ = some (.slice A1 4 c1)) hmix ⟨d0, d1⟩ (fun hS => ?_)
  clear d0 d1
  refine wpAnyH_take (i := 0) (v := ?_) rfl (by kernel_rfl) (by kernel_rfl) (by kernel_rfl) (fun _ _ _ h => h) (Or.inl ⟨by rfl, ?_⟩) hS ?_
  rotate_left
  · intro w hSw
    (try dsimp only at hSw)
    go_simp
    (try with_reducible rfl)
  try simp (maxSteps := 10000000) only [Act.put, List.setIfInBounds_toArray, List.set_cons_zero, List.set_cons_succ, List.getElem_toArray, List.getElem_cons_zero]
  refine wpAnyH_ready (rs := [1]) (by kernel_rfl) (by simp) ?_
  refine AllReadyH.cons rfl (fun K hK => ?_) AllReadyH.nil
  go_simp
  have hb : Below w9.heap.size w9 (w9.alloc (.cells #[.int .i64 2, .int .i64 1, .int .i64 0, .int .i64 2] 3)).drew := below_drewN ((Below.refl _ w9).alloc (Nat.le_refl _) _) 1
  have h_l : Ri (w9.alloc (.cells #[.int .i64 2, .int .i64 1, .int .i64 0, .int .i64 2] 3)).drew (w9.alloc (.cells #[.int .i64 2, .int .i64 1, .int .i64 0, .int .i64 2] 3)).drew.heap.size (some ⟨w9.heap.size, 0, none⟩) 4 ([2, 1, 0, 2] : List Int) := (Oj.lit w9 #[.int .i64 2, .int .i64 1, .int .i64 0, .int .i64 2] 4 [2, 1, 0, 2] rfl rfl (by omega)).ri
  obtain ⟨w10, hW⟩ : ∃ W, (w9.alloc (.cells #[.int .i64 2, .int .i64 1, .int .i64 0, .int .i64 2] 3)).drew = W := ⟨_, rfl⟩
  rw [hW] at hb h_l ⊢
  clear hW
  have Bw10 : Below w.heap.size w w10 := Bw9.trans (hb.mono Bw9.size)
  replace pg := pg.next hb (Nat.le_refl _) hb.size
  replace pl := pl.next hb (Nat.le_refl _) hb.size
  replace k1 := k1.below hb k1.lt
  replace k2 := k2.below hb k2.lt
  replace ra := ra.next hb (Nat.le_refl _) hb.size
  clear Bw9 hb
  refine hK.out _ _ ⟨k1.cell 0, k1.cell 1⟩ (fun hS => ?_)
  clear hK K
  try simp (maxSteps := 10000000) only [Act.put, List.setIfInBounds_toArray, List.set_cons_zero, List.set_cons_succ, List.getElem_toArray, List.getElem_cons_zero, List.getElem_cons_succ]
  refine wpAnyH_ready (rs := [2]) (by kernel_rfl) (by simp) ?_
  refine AllReadyH.cons rfl (fun K hK => ?_) AllReadyH.nil
  go_simp
  refine (aOf _ _).mono ?_
  rintro e w' ⟨rfl, rfl⟩
  refine hK.out _ _ hS (fun hS => ?_)
  clear hK K
  try simp (maxSteps := 10000000) only [Act.put, List.setIfInBounds_toArray, List.set_cons_zero, List.set_cons_succ, List.getElem_toArray, List.getElem_cons_zero, List.getElem_cons_succ]
  refine wpAnyH_ready (rs := [3]) (by kernel_rfl) (by simp) ?_
  refine AllReadyH.cons rfl (fun K hK => ?_) AllReadyH.nil
  go_simp
  refine (fCkRound 5 A1 4 c1 goodPs _ 4 4 [2, 1, 0, 2] _ pg (by omega) hc1 h_l (by omega) (Nat.le_refl _) ([], 2) (Lib.hid (by decide +kernel))).mono ?_
  rintro e w11 ⟨A11, n11, c_11, rfl, ho, hb⟩
  have Bw11 : Below w.heap.size w w11 := Bw10.trans (hb.mono Bw10.size)
  replace pg := pg.next hb (Nat.le_refl _) hb.size
  replace pl := pl.next hb (Nat.le_refl _) hb.size
  replace k1 := k1.below hb k1.lt
  replace k2 := k2.below hb k2.lt
  replace ra := ra.next hb (Nat.le_refl _) hb.size
  replace h_l := h_l.next hb (Nat.le_refl _) hb.size
  clear Bw10 hb
  clear h_l
  refine hK.out _ _ ⟨k1.cell 0, k1.cell 1⟩ (fun hS => ?_)
  clear hK K
  try simp (maxSteps := 10000000) only
  refine wpAnyH_take (i := 4) (v := ?_) rfl (by kernel_rfl) (by kernel_rfl) (by kernel_rfl) (fun _ _ _ h => h) (Or.inl ⟨by rfl, ?_⟩) hS ?_
  rotate_left
  · intro w hSw
    (try dsimp only at hSw)
    go_simp
    (try with_reducible rfl)
  try simp (maxSteps := 10000000) only [Act.put, List.setIfInBounds_toArray, List.set_cons_zero, List.set_cons_succ, List.getElem_toArray, List.getElem_cons_zero, List.getElem_cons_succ]
  refine wpAnyH_take (i := 5) (v := ?_) rfl (by kernel_rfl) (by kernel_rfl) (by kernel_rfl) (fun _ _ _ h => h) (Or.inl ⟨by rfl, ?_⟩) hS ?_
  rotate_left
  · intro w hSw
    (try dsimp only at hSw)
    go_simp
    (try with_reducible rfl)
  try simp (maxSteps := 10000000) only [Act.put, List.setIfInBounds_toArray, List.set_cons_zero, List.set_cons_succ, List.getElem_toArray, List.getElem_cons_zero, List.getElem_cons_succ]
  refine wpAnyH_take (i := 6) (v := ?_) rfl (by kernel_rfl) (by kernel_rfl) (by kernel_rfl) (fun _ _ _ h => h) (Or.inl ⟨by rfl, ?_⟩) hS ?_
  rotate_left
  · intro w hSw
    (try dsimp only at hSw)
    go_simp
    (try with_reducible rfl)
  try simp (maxSteps := 10000000) only [Act.put, List.setIfInBounds_toArray, List.set_cons_zero, List.set_cons_succ, List.getElem_toArray, List.getElem_cons_zero, List.getElem_cons_succ]
  refine wpAnyH_take (i := 7) (v := ?_) rfl (by kernel_rfl) (by kernel_rfl) (by kernel_rfl) (fun _ _ _ h => h) (Or.inl ⟨by rfl, ?_⟩) hS ?_
  rotate_left
  · intro w hSw
    (try dsimp only at hSw)
    go_simp
    (try with_reducible rfl)
  try simp (maxSteps := 10000000) only [Act.put, List.setIfInBounds_toArray, List.set_cons_zero, List.set_cons_succ, List.getElem_toArray, List.getElem_cons_zero, List.getElem_cons_succ]
  refine wpAnyH_take (i := 8) (v := ?_) rfl (by kernel_rfl) (by kernel_rfl) (by kernel_rfl) (fun _ _ _ h => h) (Or.inl ⟨by rfl, ?_⟩) hS ?_
  rotate_left
  · intro w hSw
    (try dsimp only at hSw)
    go_simp
    (try with_reducible rfl)
  try simp (maxSteps := 10000000) only [Act.put, List.setIfInBounds_toArray, List.set_cons_zero, List.set_cons_succ, List.getElem_toArray, List.getElem_cons_zero, List.getElem_cons_succ]
  refine wpAnyH_done (by kernel_rfl) (NoPanic.normal ?_) _
  clear hS
  have d0 := k1.cell 0
  have d1 := k1.cell 1
  go_wp2_with fail
  clear d0 d1
  refine (fShortest 5 A1 4 c1 goodPs _ pg (by omega) hc1 ([2, 1, 0, 3], 15, 0) (Lib.hid (by decide +kernel))).mono ?_
  rintro e w12 ⟨rfl, hb⟩
  have Bw12 : Below w.heap.size w w12 := Bw11.trans (hb.mono Bw11.size)
  replace pg := pg.next hb (Nat.le_refl _) hb.size
  replace pl := pl.next hb (Nat.le_refl _) hb.size
  replace k1 := k1.below hb k1.lt
  replace k2 := k2.below hb k2.lt
  replace ra := ra.next hb (Nat.le_refl _) hb.size
  clear Bw11 hb
  have d0 := k2.cell 0
  have d1 := k2.cell 1
  go_wp2_with fail
  clear d0 d1
  refine (fShortest 5 A2 4 c2 latePs _ pl (by omega) hc2 ([], 0, 12) (Lib.hid (by decide +kernel))).mono ?_
  rintro e w13 ⟨rfl, hb⟩
  have Bw13 : Below w.heap.size w w13 := Bw12.trans (hb.mono Bw12.size)
  replace pg := pg.next hb (Nat.le_refl _) hb.size
  replace pl := pl.next hb (Nat.le_refl _) hb.size
  replace k1 := k1.below hb k1.lt
  replace k2 := k2.below hb k2.lt
  replace ra := ra.next hb (Nat.le_refl _) hb.size
  clear Bw12 hb
  have d0 := k1.cell 0
  have d1 := k1.cell 1
  go_wp2_with fail
  clear d0 d1
  refine (fRound 5 A1 4 c1 goodPs _ pg (by omega) hc1 ([2, 1, 0, 3], 15, 0) (Lib.hid (by decide +kernel))).mono ?_
  rintro e w14 ⟨Al, nl, cl_, rfl, ho, hb⟩
  have Bw14 : Below w.heap.size w w14 := Bw13.trans (hb.mono Bw13.size)
  replace pg := pg.next hb (Nat.le_refl _) hb.size
  replace pl := pl.next hb (Nat.le_refl _) hb.size
  replace k1 := k1.below hb k1.lt
  replace k2 := k2.below hb k2.lt
  replace ra := ra.next hb (Nat.le_refl _) hb.size
  clear Bw13 hb
  have rl := ho.ri
  clear ho
  have d0 := k1.cell 0
  have d1 := k1.cell 1
  go_wp2_with fail
  clear d0 d1
  refine (fCount 5 A1 4 c1 goodPs _ pg (by omega) hc1 (2, 0) (Lib.hid (by decide +kernel))).mono ?_
  rintro e w15 ⟨rfl, hb⟩
  have Bw15 : Below w.heap.size w w15 := Bw14.trans (hb.mono Bw14.size)
  replace pg := pg.next hb (Nat.le_refl _) hb.size
  replace pl := pl.next hb (Nat.le_refl _) hb.size
  replace k1 := k1.below hb k1.lt
  replace k2 := k2.below hb k2.lt
  replace ra := ra.next hb (Nat.le_refl _) hb.size
  replace rl := rl.next hb (Nat.le_refl _) hb.size
  clear Bw14 hb
  have d0 := k1.cell 0
  have d1 := k1.cell 1
  go_wp2_with fail
  clear d0 d1
  refine (fWithinR 5 A1 4 c1 goodPs _ 1 pg (by omega) hc1 (1, 5, 0) (Lib.hid (by decide +kernel))).mono ?_
  rintro e w16 ⟨rfl, hb⟩
  have Bw16 : Below w.heap.size w w16 := Bw15.trans (hb.mono Bw15.size)
  replace pg := pg.next hb (Nat.le_refl _) hb.size
  replace pl := pl.next hb (Nat.le_refl _) hb.size
  replace k1 := k1.below hb k1.lt
  replace k2 := k2.below hb k2.lt
  replace ra := ra.next hb (Nat.le_refl _) hb.size
  replace rl := rl.next hb (Nat.le_refl _) hb.size
  clear Bw15 hb
  have d0 := (k1.alloc (.cells #[.int .i64 1, .int .i64 5] 43)).cell 0
  have d1 := (k1.alloc (.cells #[.int .i64 1, .int .i64 5] 43)).cell 1
  go_wp2_with fail
  clear d0 d1
  have k3 := Bk.new w16 43 #[.int .i64 1, .int .i64 5]
  have hb : Below w16.heap.size w16 (w16.alloc (.cells #[.int .i64 1, .int .i64 5] 43)) := (Below.refl _ _).alloc (Nat.le_refl _) _
  obtain ⟨u3, hu⟩ : ∃ k, w16.heap.size = k := ⟨_, rfl⟩
  obtain ⟨w17, hW⟩ : ∃ W, w16.alloc (.cells #[.int .i64 1, .int .i64 5] 43) = W := ⟨_, rfl⟩
  rw [hW] at k3 hb ⊢
  rw [hu] at k3 ⊢
  clear hW
  have Bw17 : Below w.heap.size w w17 := Bw16.trans (hb.mono Bw16.size)
  replace pg := pg.next hb (Nat.le_refl _) hb.size
  replace pl := pl.next hb (Nat.le_refl _) hb.size
  replace k1 := k1.below hb k1.lt
  replace k2 := k2.below hb k2.lt
  replace ra := ra.next hb (Nat.le_refl _) hb.size
  replace rl := rl.next hb (Nat.le_refl _) hb.size
  clear Bw16 hb
  clear hu
  refine (fWithinR 5 A1 4 c1 goodPs _ 4 pg (by omega) hc1 (0, 0, 2) (Lib.hid (by decide +kernel))).mono ?_
  rintro e w18 ⟨rfl, hb⟩
  have Bw18 : Below w.heap.size w w18 := Bw17.trans (hb.mono Bw17.size)
  replace pg := pg.next hb (Nat.le_refl _) hb.size
  replace pl := pl.next hb (Nat.le_refl _) hb.size
  replace k1 := k1.below hb k1.lt
  replace k2 := k2.below hb k2.lt
  replace ra := ra.next hb (Nat.le_refl _) hb.size
  replace rl := rl.next hb (Nat.le_refl _) hb.size
  replace k3 := k3.below hb k3.lt
  clear Bw17 hb
  have d0 := (k1.alloc (.cells #[.int .i64 0, .int .i64 0] 43)).cell 0
  have d1 := (k1.alloc (.cells #[.int .i64 0, .int .i64 0] 43)).cell 1
  go_wp2_with fail
  clear d0 d1
  have k4 := Bk.new w18 43 #[.int .i64 0, .int .i64 0]
  have hb : Below w18.heap.size w18 (w18.alloc (.cells #[.int .i64 0, .int .i64 0] 43)) := (Below.refl _ _).alloc (Nat.le_refl _) _
  obtain ⟨u4, hu⟩ : ∃ k, w18.heap.size = k := ⟨_, rfl⟩
  obtain ⟨w19, hW⟩ : ∃ W, w18.alloc (.cells #[.int .i64 0, .int .i64 0] 43) = W := ⟨_, rfl⟩
  rw [hW] at k4 hb ⊢
  rw [hu] at k4 ⊢
  clear hW
  have Bw19 : Below w.heap.size w w19 := Bw18.trans (hb.mono Bw18.size)
  replace pg := pg.next hb (Nat.le_refl _) hb.size
  replace pl := pl.next hb (Nat.le_refl _) hb.size
  replace k1 := k1.below hb k1.lt
  replace k2 := k2.below hb k2.lt
  replace ra := ra.next hb (Nat.le_refl _) hb.size
  replace rl := rl.next hb (Nat.le_refl _) hb.size
  replace k3 := k3.below hb k3.lt
  clear Bw18 hb
  clear hu
  refine (fDelay 5 A1 4 c1 goodPs _ pg (by omega) hc1 (-2, 0) (Lib.hid (by decide +kernel))).mono ?_
  rintro e w20 ⟨rfl, hb⟩
  have Bw20 : Below w.heap.size w w20 := Bw19.trans (hb.mono Bw19.size)
  replace pg := pg.next hb (Nat.le_refl _) hb.size
  replace pl := pl.next hb (Nat.le_refl _) hb.size
  replace k1 := k1.below hb k1.lt
  replace k2 := k2.below hb k2.lt
  replace ra := ra.next hb (Nat.le_refl _) hb.size
  replace rl := rl.next hb (Nat.le_refl _) hb.size
  replace k3 := k3.below hb k3.lt
  replace k4 := k4.below hb k4.lt
  clear Bw19 hb
  have d0 := k2.cell 0
  have d1 := k2.cell 1
  go_wp2_with fail
  clear d0 d1
  refine (fDelay 5 A2 4 c2 latePs _ pl (by omega) hc2 (1, 0) (Lib.hid (by decide +kernel))).mono ?_
  rintro e w21 ⟨rfl, hb⟩
  have Bw21 : Below w.heap.size w w21 := Bw20.trans (hb.mono Bw20.size)
  replace pg := pg.next hb (Nat.le_refl _) hb.size
  replace pl := pl.next hb (Nat.le_refl _) hb.size
  replace k1 := k1.below hb k1.lt
  replace k2 := k2.below hb k2.lt
  replace ra := ra.next hb (Nat.le_refl _) hb.size
  replace rl := rl.next hb (Nat.le_refl _) hb.size
  replace k3 := k3.below hb k3.lt
  replace k4 := k4.below hb k4.lt
  clear Bw20 hb
  have d0 := k1.cell 0
  have d1 := k1.cell 1
  go_wp2_with fail
  clear d0 d1
  refine (fBoundsT 5 A1 4 c1 goodPs _ pg (by omega) hc1 0 (Lib.hid (by decide +kernel)) _ (Lib.hid rfl)).mono ?_
  rintro e w22 ⟨Db, Nb, cb, rfl, hbd, _, hb⟩
  have Bw22 : Below w.heap.size w w22 := Bw21.trans (hb.mono Bw21.size)
  replace pg := pg.next hb (Nat.le_refl _) hb.size
  replace pl := pl.next hb (Nat.le_refl _) hb.size
  replace k1 := k1.below hb k1.lt
  replace k2 := k2.below hb k2.lt
  replace ra := ra.next hb (Nat.le_refl _) hb.size
  replace rl := rl.next hb (Nat.le_refl _) hb.size
  replace k3 := k3.below hb k3.lt
  replace k4 := k4.below hb k4.lt
  clear Bw21 hb
  have rb := hbd
  clear hbd
  go_wp2
  have d0 := k1.drew.cell 0
  have d1 := k1.drew.cell 1
  refine wp_region_noPanic ?_
  refine wp_region_held_drew (S := fun V => V.cell? ⟨u1, 0, none⟩ = some (.int .i64 5) ∧ V.cell? ⟨u1, 1, none⟩ = some (.slice A1 4 c1)) hmix ⟨d0, d1⟩ (fun hS => ?_)
  clear d0 d1
  refine wpAnyH_take (i := 0) (v := ?_) rfl (by kernel_rfl) (by kernel_rfl) (by kernel_rfl) (fun _ _ _ h => h) (Or.inl ⟨by rfl, ?_⟩) hS ?_
  rotate_left
  · intro w hSw
    (try dsimp only at hSw)
    go_simp
    (try with_reducible rfl)
  try simp (maxSteps := 10000000) only [Act.put, List.setIfInBounds_toArray, List.set_cons_zero, List.set_cons_succ, List.getElem_toArray, List.getElem_cons_zero]
  refine wpAnyH_ready (rs := [1]) (by kernel_rfl) (by simp) ?_
  refine AllReadyH.cons rfl (fun K hK => ?_) AllReadyH.nil
  go_simp
  refine (aTable 14 _).mono ?_
  rintro e w23 ⟨O, ks, rfl, hob, hks, _, _, hbt⟩
  have hb : Below w22.heap.size w22 w23 := (below_drewN (Below.refl _ w22) 1).trans hbt
  clear hbt
  have h_t := hob.bd hks
  clear hob hks
  have Bw23 : Below w.heap.size w w23 := Bw22.trans (hb.mono Bw22.size)
  replace pg := pg.next hb (Nat.le_refl _) hb.size
  replace pl := pl.next hb (Nat.le_refl _) hb.size
  replace k1 := k1.below hb k1.lt
  replace k2 := k2.below hb k2.lt
  replace ra := ra.next hb (Nat.le_refl _) hb.size
  replace rl := rl.next hb (Nat.le_refl _) hb.size
  replace k3 := k3.below hb k3.lt
  replace k4 := k4.below hb k4.lt
  replace rb := rb.next hb (Nat.le_refl _) hb.size
  clear Bw22 hb
  refine hK.out _ _ ⟨k1.cell 0, k1.cell 1⟩ (fun hS => ?_)
  clear hK K
  try simp (maxSteps := 10000000) only [Act.put, List.setIfInBounds_toArray, List.set_cons_zero, List.set_cons_succ, List.getElem_toArray, List.getElem_cons_zero, List.getElem_cons_succ]
  refine wpAnyH_ready (rs := [2]) (by kernel_rfl) (by simp) ?_
  refine AllReadyH.cons rfl (fun K hK => ?_) AllReadyH.nil
  go_simp
  refine (fCkBoundsT 5 A1 4 c1 goodPs (some ⟨O, 0, none⟩) 3 3 _ _ pg (by omega) hc1 h_t (by omega) (Lib.hid (by decide +kernel)) (14, 0) (Lib.hid (by decide +kernel))).mono ?_
  rintro e w24 ⟨rfl, hb⟩
  have Bw24 : Below w.heap.size w w24 := Bw23.trans (hb.mono Bw23.size)
  replace pg := pg.next hb (Nat.le_refl _) hb.size
  replace pl := pl.next hb (Nat.le_refl _) hb.size
  replace k1 := k1.below hb k1.lt
  replace k2 := k2.below hb k2.lt
  replace ra := ra.next hb (Nat.le_refl _) hb.size
  replace rl := rl.next hb (Nat.le_refl _) hb.size
  replace k3 := k3.below hb k3.lt
  replace k4 := k4.below hb k4.lt
  replace rb := rb.next hb (Nat.le_refl _) hb.size
  replace h_t := h_t.next hb (Nat.le_refl _) hb.size
  clear Bw23 hb
  clear h_t
  refine hK.out _ _ ⟨k1.cell 0, k1.cell 1⟩ (fun hS => ?_)
  clear hK K
  try simp (maxSteps := 10000000) only
  refine wpAnyH_take (i := 3) (v := ?_) rfl (by kernel_rfl) (by kernel_rfl) (by kernel_rfl) (fun _ _ _ h => h) (Or.inl ⟨by rfl, ?_⟩) hS ?_
  rotate_left
  · intro w hSw
    (try dsimp only at hSw)
    go_simp
    (try with_reducible rfl)
  try simp (maxSteps := 10000000) only [Act.put, List.setIfInBounds_toArray, List.set_cons_zero, List.set_cons_succ, List.getElem_toArray, List.getElem_cons_zero, List.getElem_cons_succ]
  refine wpAnyH_take (i := 4) (v := ?_) rfl (by kernel_rfl) (by kernel_rfl) (by kernel_rfl) (fun _ _ _ h => h) (Or.inl ⟨by rfl, ?_⟩) hS ?_
  rotate_left
  · intro w hSw
    (try dsimp only at hSw)
    go_simp
    (try with_reducible rfl)
  try simp (maxSteps := 10000000) only [Act.put, List.setIfInBounds_toArray, List.set_cons_zero, List.set_cons_succ, List.getElem_toArray, List.getElem_cons_zero, List.getElem_cons_succ]
  refine wpAnyH_take (i := 5) (v := ?_) rfl (by kernel_rfl) (by kernel_rfl) (by kernel_rfl) (fun _ _ _ h => h) (Or.inl ⟨by rfl, ?_⟩) hS ?_
  rotate_left
  · intro w hSw
    (try dsimp only at hSw)
    go_simp
    (try with_reducible rfl)
  try simp (maxSteps := 10000000) only [Act.put, List.setIfInBounds_toArray, List.set_cons_zero, List.set_cons_succ, List.getElem_toArray, List.getElem_cons_zero, List.getElem_cons_succ]
  refine wpAnyH_take (i := 6) (v := ?_) rfl (by kernel_rfl) (by kernel_rfl) (by kernel_rfl) (fun _ _ _ h => h) (Or.inl ⟨by rfl, ?_⟩) hS ?_
  rotate_left
  · intro w hSw
    (try dsimp only at hSw)
    go_simp
    (try with_reducible rfl)
  try simp (maxSteps := 10000000) only [Act.put, List.setIfInBounds_toArray, List.set_cons_zero, List.set_cons_succ, List.getElem_toArray, List.getElem_cons_zero, List.getElem_cons_succ]
  refine wpAnyH_take (i := 7) (v := ?_) rfl (by kernel_rfl) (by kernel_rfl) (by kernel_rfl) (fun _ _ _ h => h) (Or.inl ⟨by rfl, ?_⟩) hS ?_
  rotate_left
  · intro w hSw
    (try dsimp only at hSw)
    go_simp
    (try with_reducible rfl)
  try simp (maxSteps := 10000000) only [Act.put, List.setIfInBounds_toArray, List.set_cons_zero, List.set_cons_succ, List.getElem_toArray, List.getElem_cons_zero, List.getElem_cons_succ]
  refine wpAnyH_done (by kernel_rfl) (NoPanic.normal ?_) _
  clear hS
  go_wp2
  have d0 := k1.drew.cell 0
  have d1 := k1.drew.cell 1
  refine wp_region_noPanic ?_
  refine wp_region_held_drew (S := fun V => V.cell? ⟨u1, 0, none⟩ = some (.int .i64 5) ∧ V.cell? ⟨u1, 1, none⟩ = some (.slice A1 4 c1)) hmix ⟨d0, d1⟩ (fun hS => ?_)
  clear d0 d1
  refine wpAnyH_take (i := 0) (v := ?_) rfl (by kernel_rfl) (by kernel_rfl) (by kernel_rfl) (fun _ _ _ h => h) (Or.inl ⟨by rfl, ?_⟩) hS ?_
  rotate_left
  · intro w hSw
    (try dsimp only at hSw)
    go_simp
    (try with_reducible rfl)
  try simp (maxSteps := 10000000) only [Act.put, List.setIfInBounds_toArray, List.set_cons_zero, List.set_cons_succ, List.getElem_toArray, List.getElem_cons_zero]
  refine wpAnyH_ready (rs := [1]) (by kernel_rfl) (by simp) ?_
  refine AllReadyH.cons rfl (fun K hK => ?_) AllReadyH.nil
  go_simp
  refine (aTable 16 _).mono ?_
  rintro e w25 ⟨O, ks, rfl, hob, hks, _, _, hbt⟩
  have hb : Below w24.heap.size w24 w25 := (below_drewN (Below.refl _ w24) 1).trans hbt
  clear hbt
  have h_t := hob.bd hks
  clear hob hks
  have Bw25 : Below w.heap.size w w25 := Bw24.trans (hb.mono Bw24.size)
  replace pg := pg.next hb (Nat.le_refl _) hb.size
  replace pl := pl.next hb (Nat.le_refl _) hb.size
  replace k1 := k1.below hb k1.lt
  replace k2 := k2.below hb k2.lt
  replace ra := ra.next hb (Nat.le_refl _) hb.size
  replace rl := rl.next hb (Nat.le_refl _) hb.size
  replace k3 := k3.below hb k3.lt
  replace k4 := k4.below hb k4.lt
  replace rb := rb.next hb (Nat.le_refl _) hb.size
  clear Bw24 hb
  refine hK.out _ _ ⟨k1.cell 0, k1.cell 1⟩ (fun hS => ?_)
  clear hK K
  try simp (maxSteps := 10000000) only [Act.put, List.setIfInBounds_toArray, List.set_cons_zero, List.set_cons_succ, List.getElem_toArray, List.getElem_cons_zero, List.getElem_cons_succ]
  refine wpAnyH_ready (rs := [2]) (by kernel_rfl) (by simp) ?_
  refine AllReadyH.cons rfl (fun K hK => ?_) AllReadyH.nil
  go_simp
  refine (fCkBoundsT 5 A1 4 c1 goodPs (some ⟨O, 0, none⟩) 3 3 _ _ pg (by omega) hc1 h_t (by omega) (Lib.hid (by decide +kernel)) (0, 14) (Lib.hid (by decide +kernel))).mono ?_
  rintro e w26 ⟨rfl, hb⟩
  have Bw26 : Below w.heap.size w w26 := Bw25.trans (hb.mono Bw25.size)
  replace pg := pg.next hb (Nat.le_refl _) hb.size
  replace pl := pl.next hb (Nat.le_refl _) hb.size
  replace k1 := k1.below hb k1.lt
  replace k2 := k2.below hb k2.lt
  replace ra := ra.next hb (Nat.le_refl _) hb.size
  replace rl := rl.next hb (Nat.le_refl _) hb.size
  replace k3 := k3.below hb k3.lt
  replace k4 := k4.below hb k4.lt
  replace rb := rb.next hb (Nat.le_refl _) hb.size
  replace h_t := h_t.next hb (Nat.le_refl _) hb.size
  clear Bw25 hb
  clear h_t
  refine hK.out _ _ ⟨k1.cell 0, k1.cell 1⟩ (fun hS => ?_)
  clear hK K
  try simp (maxSteps := 10000000) only
  refine wpAnyH_take (i := 3) (v := ?_) rfl (by kernel_rfl) (by kernel_rfl) (by kernel_rfl) (fun _ _ _ h => h) (Or.inl ⟨by rfl, ?_⟩) hS ?_
  rotate_left
  · intro w hSw
    (try dsimp only at hSw)
    go_simp
    (try with_reducible rfl)
  try simp (maxSteps := 10000000) only [Act.put, List.setIfInBounds_toArray, List.set_cons_zero, List.set_cons_succ, List.getElem_toArray, List.getElem_cons_zero, List.getElem_cons_succ]
  refine wpAnyH_take (i := 4) (v := ?_) rfl (by kernel_rfl) (by kernel_rfl) (by kernel_rfl) (fun _ _ _ h => h) (Or.inl ⟨by rfl, ?_⟩) hS ?_
  rotate_left
  · intro w hSw
    (try dsimp only at hSw)
    go_simp
    (try with_reducible rfl)
  try simp (maxSteps := 10000000) only [Act.put, List.setIfInBounds_toArray, List.set_cons_zero, List.set_cons_succ, List.getElem_toArray, List.getElem_cons_zero, List.getElem_cons_succ]
  refine wpAnyH_take (i := 5) (v := ?_) rfl (by kernel_rfl) (by kernel_rfl) (by kernel_rfl) (fun _ _ _ h => h) (Or.inl ⟨by rfl, ?_⟩) hS ?_
  rotate_left
  · intro w hSw
    (try dsimp only at hSw)
    go_simp
    (try with_reducible rfl)
  try simp (maxSteps := 10000000) only [Act.put, List.setIfInBounds_toArray, List.set_cons_zero, List.set_cons_succ, List.getElem_toArray, List.getElem_cons_zero, List.getElem_cons_succ]
  refine wpAnyH_take (i := 6) (v := ?_) rfl (by kernel_rfl) (by kernel_rfl) (by kernel_rfl) (fun _ _ _ h => h) (Or.inl ⟨by rfl, ?_⟩) hS ?_
  rotate_left
  · intro w hSw
    (try dsimp only at hSw)
    go_simp
    (try with_reducible rfl)
  try simp (maxSteps := 10000000) only [Act.put, List.setIfInBounds_toArray, List.set_cons_zero, List.set_cons_succ, List.getElem_toArray, List.getElem_cons_zero, List.getElem_cons_succ]
  refine wpAnyH_take (i := 7) (v := ?_) rfl (by kernel_rfl) (by kernel_rfl) (by kernel_rfl) (fun _ _ _ h => h) (Or.inl ⟨by rfl, ?_⟩) hS ?_
  rotate_left
  · intro w hSw
    (try dsimp only at hSw)
    go_simp
    (try with_reducible rfl)
  try simp (maxSteps := 10000000) only [Act.put, List.setIfInBounds_toArray, List.set_cons_zero, List.set_cons_succ, List.getElem_toArray, List.getElem_cons_zero, List.getElem_cons_succ]
  refine wpAnyH_done (by kernel_rfl) (NoPanic.normal ?_) _
  clear hS
  have d0 := k2.cell 0
  have d1 := k2.cell 1
  go_wp2_with fail
  clear d0 d1
  refine (fClash 5 A2 4 c2 latePs _ pl (by omega) hc2 ([0, 2], 0) (Lib.hid (by decide +kernel))).mono ?_
  rintro e w27 ⟨Ac, nc, cc, rfl, ho, hb⟩
  have Bw27 : Below w.heap.size w w27 := Bw26.trans (hb.mono Bw26.size)
  replace pg := pg.next hb (Nat.le_refl _) hb.size
  replace pl := pl.next hb (Nat.le_refl _) hb.size
  replace k1 := k1.below hb k1.lt
  replace k2 := k2.below hb k2.lt
  replace ra := ra.next hb (Nat.le_refl _) hb.size
  replace rl := rl.next hb (Nat.le_refl _) hb.size
  replace k3 := k3.below hb k3.lt
  replace k4 := k4.below hb k4.lt
  replace rb := rb.next hb (Nat.le_refl _) hb.size
  clear Bw26 hb
  have rc := ho.ri
  clear ho
  have d0 := k1.cell 0
  have d1 := k1.cell 1
  go_wp2_with fail
  clear d0 d1
  refine (fClash 5 A1 4 c1 goodPs _ pg (by omega) hc1 ([], 5) (Lib.hid (by decide +kernel))).mono ?_
  rintro e w28 ⟨Az, nz, cz, rfl, ho, hb⟩
  have Bw28 : Below w.heap.size w w28 := Bw27.trans (hb.mono Bw27.size)
  replace pg := pg.next hb (Nat.le_refl _) hb.size
  replace pl := pl.next hb (Nat.le_refl _) hb.size
  replace k1 := k1.below hb k1.lt
  replace k2 := k2.below hb k2.lt
  replace ra := ra.next hb (Nat.le_refl _) hb.size
  replace rl := rl.next hb (Nat.le_refl _) hb.size
  replace k3 := k3.below hb k3.lt
  replace k4 := k4.below hb k4.lt
  replace rb := rb.next hb (Nat.le_refl _) hb.size
  replace rc := rc.next hb (Nat.le_refl _) hb.size
  clear Bw27 hb
  go_wp2
  rename_i K0 hK0
  refine wp_cut (fun a a' W => ∃ q1 q2 : Nat, a' = (Act.put (Act.put (Act.put (Act.put (Act.put (Act.put (Act.put (Act.put (Act.put (Act.put a (some 136) (.agg #[.int .i64 5, .slice A2 4 c2])) (some 137) (.slice (some ⟨q1, 0, none⟩) 2 2)) (some 138) (.slice (some ⟨q1, 0, none⟩) 2 2)) (some 139) (.int .i64 0)) (some 140) (.agg #[.int .i64 5, .slice A2 4 c2])) (some 141) (.slice (some ⟨q2, 0, none⟩) 2 2)) (some 142) (.slice (some ⟨q2, 0, none⟩) 2 2)) (some 143) (.int .i64 5)) (some 37) (.int .i64 0)) (some 38) (.int .i64 5)) ∧ Below w.heap.size w W ∧ Rp W W.heap.size A1 4 goodPs ∧ Rp W W.heap.size A2 4 latePs ∧ Bk W u1 24 #[.int .i64 5, .slice A1 4 c1] ∧ Bk W u2 24 #[.int .i64 5, .slice A2 4 c2] ∧ Ri W W.heap.size A5 n5 [7, 5, 2, 15] ∧ Ri W W.heap.size Al nl (ofN [2, 1, 0, 3]) ∧ Bk W u3 43 #[.int .i64 1, .int .i64 5] ∧ Bk W u4 43 #[.int .i64 0, .int .i64 0] ∧ Bd W W.heap.size Db Nb (boundsS 5 goodPs) ∧ Ri W W.heap.size Ac nc (ofN [0, 2])) ?_ ?_
  · have d0 := k2.drew.cell 0
    have d1 := k2.drew.cell 1
    refine wp_region_noPanic ?_
    refine wp_region_held_drew (S := fun V => V.cell? ⟨u2, 0, none⟩ = some (.int .i64 5) ∧ V.cell? ⟨u2, 1, none⟩ = some (.slice A2 4 c2)) hmix ⟨d0, d1⟩ (fun hS => ?_)
    clear d0 d1
    obtain ⟨w29, hW⟩ : ∃ W, w28.drew = W := ⟨_, rfl⟩
    have hb : Below w28.heap.size w28 w29 := hW ▸ below_drewN (Below.refl _ _) 1
    rw [hW] at hS ⊢
    clear hW
    have Bw29 : Below w.heap.size w w29 := Bw28.trans (hb.mono Bw28.size)
    replace pg := pg.next hb (Nat.le_refl _) hb.size
    replace pl := pl.next hb (Nat.le_refl _) hb.size
    replace k1 := k1.below hb k1.lt
    replace k2 := k2.below hb k2.lt
    replace ra := ra.next hb (Nat.le_refl _) hb.size
    replace rl := rl.next hb (Nat.le_refl _) hb.size
    replace k3 := k3.below hb k3.lt
    replace k4 := k4.below hb k4.lt
    replace rb := rb.next hb (Nat.le_refl _) hb.size
    replace rc := rc.next hb (Nat.le_refl _) hb.size
    clear Bw28 hb
    refine wpAnyH_take (i := 0) (v := ?_) rfl (by kernel_rfl) (by kernel_rfl) (by kernel_rfl) (fun _ _ _ h => h) (Or.inl ⟨by rfl, ?_⟩) hS ?_
    rotate_left
    · intro w hSw
      (try dsimp only at hSw)
      go_simp
      (try with_reducible rfl)
    try simp (maxSteps := 10000000) only [Act.put, List.setIfInBounds_toArray, List.set_cons_zero, List.set_cons_succ, List.getElem_toArray, List.getElem_cons_zero]
    refine wpAnyH_take (i := 4) (v := ?_) rfl (by kernel_rfl) (by kernel_rfl) (by kernel_rfl) (fun _ _ _ h => h) (Or.inl ⟨by rfl, ?_⟩) hS ?_
    rotate_left
    · intro w hSw
      (try dsimp only at hSw)
      go_simp
      (try with_reducible rfl)
    try simp (maxSteps := 10000000) only [Act.put, List.setIfInBounds_toArray, List.set_cons_zero, List.set_cons_succ, List.getElem_toArray, List.getElem_cons_zero, List.getElem_cons_succ]
    refine wpAnyH_ready (rs := [1, 5]) (by kernel_rfl) (by simp) ?_
    refine AllReadyH.cons rfl (fun K hK => ?_) (AllReadyH.cons rfl (fun K hK => ?_) AllReadyH.nil)
    · go_simp
      have hb : Below w29.heap.size w29 (w29.alloc (.cells #[.int .i64 0, .int .i64 2] 3)) := (Below.refl _ w29).alloc (Nat.le_refl _) _
      have h_x : Ri (w29.alloc (.cells #[.int .i64 0, .int .i64 2] 3)) (w29.alloc (.cells #[.int .i64 0, .int .i64 2] 3)).heap.size (some ⟨w29.heap.size, 0, none⟩) 2 ([0, 2] : List Int) := (Oj.lit w29 #[.int .i64 0, .int .i64 2] 2 [0, 2] rfl rfl (by omega)).ri
      obtain ⟨qh_x, hq⟩ : ∃ k, w29.heap.size = k := ⟨_, rfl⟩
      rw [hq] at h_x ⊢
      obtain ⟨w30, hW⟩ : ∃ W, w29.alloc (.cells #[.int .i64 0, .int .i64 2] 3) = W := ⟨_, rfl⟩
      rw [hW] at hb h_x ⊢
      clear hW hq
      have Bw30 : Below w.heap.size w w30 := Bw29.trans (hb.mono Bw29.size)
      replace pg := pg.next hb (Nat.le_refl _) hb.size
      replace pl := pl.next hb (Nat.le_refl _) hb.size
      replace k1 := k1.below hb k1.lt
      replace k2 := k2.below hb k2.lt
      replace ra := ra.next hb (Nat.le_refl _) hb.size
      replace rl := rl.next hb (Nat.le_refl _) hb.size
      replace k3 := k3.below hb k3.lt
      replace k4 := k4.below hb k4.lt
      replace rb := rb.next hb (Nat.le_refl _) hb.size
      replace rc := rc.next hb (Nat.le_refl _) hb.size
      clear Bw29 hb
      refine hK.out _ _ ⟨k2.cell 0, k2.cell 1⟩ (fun hS => ?_)
      clear hK K
      try simp (maxSteps := 10000000) only [Act.put, List.setIfInBounds_toArray, List.set_cons_zero, List.set_cons_succ, List.getElem_toArray, List.getElem_cons_zero, List.getElem_cons_succ]
      refine wpAnyH_ready (rs := [2, 5]) (by kernel_rfl) (by simp) ?_
      refine AllReadyH.cons rfl (fun K hK => ?_) (AllReadyH.cons rfl (fun K hK => ?_) AllReadyH.nil)
      · go_simp
        refine (aOf _ _).mono ?_
        rintro e w' ⟨rfl, rfl⟩
        refine hK.out _ _ hS (fun hS => ?_)
        clear hK K
        try simp (maxSteps := 10000000) only [Act.put, List.setIfInBounds_toArray, List.set_cons_zero, List.set_cons_succ, List.getElem_toArray, List.getElem_cons_zero, List.getElem_cons_succ]
        refine wpAnyH_ready (rs := [3, 5]) (by kernel_rfl) (by simp) ?_
        refine AllReadyH.cons rfl (fun K hK => ?_) (AllReadyH.cons rfl (fun K hK => ?_) AllReadyH.nil)
        · go_simp
          refine (fCkClash 5 A2 4 c2 latePs _ 2 2 [0, 2] _ pl (by omega) hc2 h_x (by omega) 0 (Lib.hid (by decide +kernel))).mono ?_
          rintro e w31 ⟨rfl, hb⟩
          have Bw31 : Below w.heap.size w w31 := Bw30.trans (hb.mono Bw30.size)
          replace pg := pg.next hb (Nat.le_refl _) hb.size
          replace pl := pl.next hb (Nat.le_refl _) hb.size
          replace k1 := k1.below hb k1.lt
          replace k2 := k2.below hb k2.lt
          replace ra := ra.next hb (Nat.le_refl _) hb.size
          replace rl := rl.next hb (Nat.le_refl _) hb.size
          replace k3 := k3.below hb k3.lt
          replace k4 := k4.below hb k4.lt
          replace rb := rb.next hb (Nat.le_refl _) hb.size
          replace rc := rc.next hb (Nat.le_refl _) hb.size
          replace h_x := h_x.next hb (Nat.le_refl _) hb.size
          clear Bw30 hb
          clear h_x
          refine hK.out _ _ ⟨k2.cell 0, k2.cell 1⟩ (fun hS => ?_)
          clear hK K
          try simp (maxSteps := 10000000) only [Act.put, List.setIfInBounds_toArray, List.set_cons_zero, List.set_cons_succ, List.getElem_toArray, List.getElem_cons_zero, List.getElem_cons_succ]
          refine wpAnyH_ready (rs := [5]) (by kernel_rfl) (by simp) ?_
          refine AllReadyH.cons rfl (fun K hK => ?_) AllReadyH.nil
          go_simp
          have hb : Below w31.heap.size w31 (w31.alloc (.cells #[.int .i64 0, .int .i64 1] 3)) := (Below.refl _ w31).alloc (Nat.le_refl _) _
          have h_y : Ri (w31.alloc (.cells #[.int .i64 0, .int .i64 1] 3)) (w31.alloc (.cells #[.int .i64 0, .int .i64 1] 3)).heap.size (some ⟨w31.heap.size, 0, none⟩) 2 ([0, 1] : List Int) := (Oj.lit w31 #[.int .i64 0, .int .i64 1] 2 [0, 1] rfl rfl (by omega)).ri
          obtain ⟨qh_y, hq⟩ : ∃ k, w31.heap.size = k := ⟨_, rfl⟩
          rw [hq] at h_y ⊢
          obtain ⟨w32, hW⟩ : ∃ W, w31.alloc (.cells #[.int .i64 0, .int .i64 1] 3) = W := ⟨_, rfl⟩
          rw [hW] at hb h_y ⊢
          clear hW hq
          have Bw32 : Below w.heap.size w w32 := Bw31.trans (hb.mono Bw31.size)
          replace pg := pg.next hb (Nat.le_refl _) hb.size
          replace pl := pl.next hb (Nat.le_refl _) hb.size
          replace k1 := k1.below hb k1.lt
          replace k2 := k2.below hb k2.lt
          replace ra := ra.next hb (Nat.le_refl _) hb.size
          replace rl := rl.next hb (Nat.le_refl _) hb.size
          replace k3 := k3.below hb k3.lt
          replace k4 := k4.below hb k4.lt
          replace rb := rb.next hb (Nat.le_refl _) hb.size
          replace rc := rc.next hb (Nat.le_refl _) hb.size
          clear Bw31 hb
          refine hK.out _ _ ⟨k2.cell 0, k2.cell 1⟩ (fun hS => ?_)
          clear hK K
          try simp (maxSteps := 10000000) only [Act.put, List.setIfInBounds_toArray, List.set_cons_zero, List.set_cons_succ, List.getElem_toArray, List.getElem_cons_zero, List.getElem_cons_succ]
          refine wpAnyH_ready (rs := [6]) (by kernel_rfl) (by simp) ?_
          refine AllReadyH.cons rfl (fun K hK => ?_) AllReadyH.nil
          go_simp
          refine (aOf _ _).mono ?_
          rintro e w' ⟨rfl, rfl⟩
          refine hK.out _ _ hS (fun hS => ?_)
          clear hK K
          try simp (maxSteps := 10000000) only [Act.put, List.setIfInBounds_toArray, List.set_cons_zero, List.set_cons_succ, List.getElem_toArray, List.getElem_cons_zero, List.getElem_cons_succ]
          refine wpAnyH_ready (rs := [7]) (by kernel_rfl) (by simp) ?_
          refine AllReadyH.cons rfl (fun K hK => ?_) AllReadyH.nil
          go_simp
          refine (fCkClash 5 A2 4 c2 latePs _ 2 2 [0, 1] _ pl (by omega) hc2 h_y (by omega) 5 (Lib.hid (by decide +kernel))).mono ?_
          rintro e w33 ⟨rfl, hb⟩
          have Bw33 : Below w.heap.size w w33 := Bw32.trans (hb.mono Bw32.size)
          replace pg := pg.next hb (Nat.le_refl _) hb.size
          replace pl := pl.next hb (Nat.le_refl _) hb.size
          replace k1 := k1.below hb k1.lt
          replace k2 := k2.below hb k2.lt
          replace ra := ra.next hb (Nat.le_refl _) hb.size
          replace rl := rl.next hb (Nat.le_refl _) hb.size
          replace k3 := k3.below hb k3.lt
          replace k4 := k4.below hb k4.lt
          replace rb := rb.next hb (Nat.le_refl _) hb.size
          replace rc := rc.next hb (Nat.le_refl _) hb.size
          replace h_y := h_y.next hb (Nat.le_refl _) hb.size
          clear Bw32 hb
          clear h_y
          refine hK.out _ _ ⟨k2.cell 0, k2.cell 1⟩ (fun hS => ?_)
          clear hK K
          try simp (maxSteps := 10000000) only [Act.put, List.setIfInBounds_toArray, List.set_cons_zero, List.set_cons_succ, List.getElem_toArray, List.getElem_cons_zero, List.getElem_cons_succ]
          refine wpAnyH_take (i := 8) (v := ?_) rfl (by kernel_rfl) (by kernel_rfl) (by kernel_rfl) (fun _ _ _ h => h) (Or.inl ⟨by rfl, ?_⟩) hS ?_
          rotate_left
          · intro w hSw
            (try dsimp only at hSw)
            go_simp
            (try with_reducible rfl)
          try simp (maxSteps := 10000000) only [Act.put, List.setIfInBounds_toArray, List.set_cons_zero, List.set_cons_succ, List.getElem_toArray, List.getElem_cons_zero, List.getElem_cons_succ]
          refine wpAnyH_take (i := 9) (v := ?_) rfl (by kernel_rfl) (by kernel_rfl) (by kernel_rfl) (fun _ _ _ h => h) (Or.inl ⟨by rfl, ?_⟩) hS ?_
          rotate_left
          · intro w hSw
            (try dsimp only at hSw)
            go_simp
            (try with_reducible rfl)
          try simp (maxSteps := 10000000) only [Act.put, List.setIfInBounds_toArray, List.set_cons_zero, List.set_cons_succ, List.getElem_toArray, List.getElem_cons_zero, List.getElem_cons_succ]
          refine wpAnyH_done (by kernel_rfl) (NoPanic.normal ?_) _
          clear hS
          exact ⟨qh_x, qh_y, rfl, Bw33, pg, pl, k1, k2, ra, rl, k3, k4, rb, rc⟩
        · go_simp
          have hb : Below w30.heap.size w30 (w30.alloc (.cells #[.int .i64 0, .int .i64 1] 3)) := (Below.refl _ w30).alloc (Nat.le_refl _) _
          have h_y : Ri (w30.alloc (.cells #[.int .i64 0, .int .i64 1] 3)) (w30.alloc (.cells #[.int .i64 0, .int .i64 1] 3)).heap.size (some ⟨w30.heap.size, 0, none⟩) 2 ([0, 1] : List Int) := (Oj.lit w30 #[.int .i64 0, .int .i64 1] 2 [0, 1] rfl rfl (by omega)).ri
          obtain ⟨qh_y, hq⟩ : ∃ k, w30.heap.size = k := ⟨_, rfl⟩
          rw [hq] at h_y ⊢
          obtain ⟨w31, hW⟩ : ∃ W, w30.alloc (.cells #[.int .i64 0, .int .i64 1] 3) = W := ⟨_, rfl⟩
          rw [hW] at hb h_y ⊢
          clear hW hq
          have Bw31 : Below w.heap.size w w31 := Bw30.trans (hb.mono Bw30.size)
          replace pg := pg.next hb (Nat.le_refl _) hb.size
          replace pl := pl.next hb (Nat.le_refl _) hb.size
          replace k1 := k1.below hb k1.lt
          replace k2 := k2.below hb k2.lt
          replace ra := ra.next hb (Nat.le_refl _) hb.size
          replace rl := rl.next hb (Nat.le_refl _) hb.size
          replace k3 := k3.below hb k3.lt
          replace k4 := k4.below hb k4.lt
          replace rb := rb.next hb (Nat.le_refl _) hb.size
          replace rc := rc.next hb (Nat.le_refl _) hb.size
          replace h_x := h_x.next hb (Nat.le_refl _) hb.size
          clear Bw30 hb
          refine hK.out _ _ ⟨k2.cell 0, k2.cell 1⟩ (fun hS => ?_)
          clear hK K
          try simp (maxSteps := 10000000) only [Act.put, List.setIfInBounds_toArray, List.set_cons_zero, List.set_cons_succ, List.getElem_toArray, List.getElem_cons_zero, List.getElem_cons_succ]
          refine wpAnyH_ready (rs := [3]) (by kernel_rfl) (by simp) ?_
          refine AllReadyH.cons rfl (fun K hK => ?_) AllReadyH.nil
          go_simp
          refine (fCkClash 5 A2 4 c2 latePs _ 2 2 [0, 2] _ pl (by omega) hc2 h_x (by omega) 0 (Lib.hid (by decide +kernel))).mono ?_
          rintro e w32 ⟨rfl, hb⟩
          have Bw32 : Below w.heap.size w w32 := Bw31.trans (hb.mono Bw31.size)
          replace pg := pg.next hb (Nat.le_refl _) hb.size
          replace pl := pl.next hb (Nat.le_refl _) hb.size
          replace k1 := k1.below hb k1.lt
          replace k2 := k2.below hb k2.lt
          replace ra := ra.next hb (Nat.le_refl _) hb.size
          replace rl := rl.next hb (Nat.le_refl _) hb.size
          replace k3 := k3.below hb k3.lt
          replace k4 := k4.below hb k4.lt
          replace rb := rb.next hb (Nat.le_refl _) hb.size
          replace rc := rc.next hb (Nat.le_refl _) hb.size
          replace h_x := h_x.next hb (Nat.le_refl _) hb.size
          replace h_y := h_y.next hb (Nat.le_refl _) hb.size
          clear Bw31 hb
          clear h_x
          refine hK.out _ _ ⟨k2.cell 0, k2.cell 1⟩ (fun hS => ?_)
          clear hK K
          try simp (maxSteps := 10000000) only [Act.put, List.setIfInBounds_toArray, List.set_cons_zero, List.set_cons_succ, List.getElem_toArray, List.getElem_cons_zero, List.getElem_cons_succ]
          refine wpAnyH_ready (rs := [6]) (by kernel_rfl) (by simp) ?_
          refine AllReadyH.cons rfl (fun K hK => ?_) AllReadyH.nil
          go_simp
          refine (aOf _ _).mono ?_
          rintro e w' ⟨rfl, rfl⟩
          refine hK.out _ _ hS (fun hS => ?_)
          clear hK K
          try simp (maxSteps := 10000000) only [Act.put, List.setIfInBounds_toArray, List.set_cons_zero, List.set_cons_succ, List.getElem_toArray, List.getElem_cons_zero, List.getElem_cons_succ]
          refine wpAnyH_ready (rs := [7]) (by kernel_rfl) (by simp) ?_
          refine AllReadyH.cons rfl (fun K hK => ?_) AllReadyH.nil
          go_simp
          refine (fCkClash 5 A2 4 c2 latePs _ 2 2 [0, 1] _ pl (by omega) hc2 h_y (by omega) 5 (Lib.hid (by decide +kernel))).mono ?_
          rintro e w33 ⟨rfl, hb⟩
          have Bw33 : Below w.heap.size w w33 := Bw32.trans (hb.mono Bw32.size)
          replace pg := pg.next hb (Nat.le_refl _) hb.size
          replace pl := pl.next hb (Nat.le_refl _) hb.size
          replace k1 := k1.below hb k1.lt
          replace k2 := k2.below hb k2.lt
          replace ra := ra.next hb (Nat.le_refl _) hb.size
          replace rl := rl.next hb (Nat.le_refl _) hb.size
          replace k3 := k3.below hb k3.lt
          replace k4 := k4.below hb k4.lt
          replace rb := rb.next hb (Nat.le_refl _) hb.size
          replace rc := rc.next hb (Nat.le_refl _) hb.size
          replace h_y := h_y.next hb (Nat.le_refl _) hb.size
          clear Bw32 hb
          clear h_y
          refine hK.out _ _ ⟨k2.cell 0, k2.cell 1⟩ (fun hS => ?_)
          clear hK K
          try simp (maxSteps := 10000000) only [Act.put, List.setIfInBounds_toArray, List.set_cons_zero, List.set_cons_succ, List.getElem_toArray, List.getElem_cons_zero, List.getElem_cons_succ]
          refine wpAnyH_take (i := 8) (v := ?_) rfl (by kernel_rfl) (by kernel_rfl) (by kernel_rfl) (fun _ _ _ h => h) (Or.inl ⟨by rfl, ?_⟩) hS ?_
          rotate_left
          · intro w hSw
            (try dsimp only at hSw)
            go_simp
            (try with_reducible rfl)
          try simp (maxSteps := 10000000) only [Act.put, List.setIfInBounds_toArray, List.set_cons_zero, List.set_cons_succ, List.getElem_toArray, List.getElem_cons_zero, List.getElem_cons_succ]
          refine wpAnyH_take (i := 9) (v := ?_) rfl (by kernel_rfl) (by kernel_rfl) (by kernel_rfl) (fun _ _ _ h => h) (Or.inl ⟨by rfl, ?_⟩) hS ?_
          rotate_left
          · intro w hSw
            (try dsimp only at hSw)
            go_simp
            (try with_reducible rfl)
          try simp (maxSteps := 10000000) only [Act.put, List.setIfInBounds_toArray, List.set_cons_zero, List.set_cons_succ, List.getElem_toArray, List.getElem_cons_zero, List.getElem_cons_succ]
          refine wpAnyH_done (by kernel_rfl) (NoPanic.normal ?_) _
          clear hS
          exact ⟨qh_x, qh_y, rfl, Bw33, pg, pl, k1, k2, ra, rl, k3, k4, rb, rc⟩
      · go_simp
        have hb : Below w30.heap.size w30 (w30.alloc (.cells #[.int .i64 0, .int .i64 1] 3)) := (Below.refl _ w30).alloc (Nat.le_refl _) _
        have h_y : Ri (w30.alloc (.cells #[.int .i64 0, .int .i64 1] 3)) (w30.alloc (.cells #[.int .i64 0, .int .i64 1] 3)).heap.size (some ⟨w30.heap.size, 0, none⟩) 2 ([0, 1] : List Int) := (Oj.lit w30 #[.int .i64 0, .int .i64 1] 2 [0, 1] rfl rfl (by omega)).ri
        obtain ⟨qh_y, hq⟩ : ∃ k, w30.heap.size = k := ⟨_, rfl⟩
        rw [hq] at h_y ⊢
        obtain ⟨w31, hW⟩ : ∃ W, w30.alloc (.cells #[.int .i64 0, .int .i64 1] 3) = W := ⟨_, rfl⟩
        rw [hW] at hb h_y ⊢
        clear hW hq
        have Bw31 : Below w.heap.size w w31 := Bw30.trans (hb.mono Bw30.size)
        replace pg := pg.next hb (Nat.le_refl _) hb.size
        replace pl := pl.next hb (Nat.le_refl _) hb.size
        replace k1 := k1.below hb k1.lt
        replace k2 := k2.below hb k2.lt
        replace ra := ra.next hb (Nat.le_refl _) hb.size
        replace rl := rl.next hb (Nat.le_refl _) hb.size
        replace k3 := k3.below hb k3.lt
        replace k4 := k4.below hb k4.lt
        replace rb := rb.next hb (Nat.le_refl _) hb.size
        replace rc := rc.next hb (Nat.le_refl _) hb.size
        replace h_x := h_x.next hb (Nat.le_refl _) hb.size
        clear Bw30 hb
        refine hK.out _ _ ⟨k2.cell 0, k2.cell 1⟩ (fun hS => ?_)
        clear hK K
        try simp (maxSteps := 10000000) only [Act.put, List.setIfInBounds_toArray, List.set_cons_zero, List.set_cons_succ, List.getElem_toArray, List.getElem_cons_zero, List.getElem_cons_succ]
        refine wpAnyH_ready (rs := [2]) (by kernel_rfl) (by simp) ?_
        refine AllReadyH.cons rfl (fun K hK => ?_) AllReadyH.nil
        go_simp
        refine (aOf _ _).mono ?_
        rintro e w' ⟨rfl, rfl⟩
        refine hK.out _ _ hS (fun hS => ?_)
        clear hK K
        try simp (maxSteps := 10000000) only [Act.put, List.setIfInBounds_toArray, List.set_cons_zero, List.set_cons_succ, List.getElem_toArray, List.getElem_cons_zero, List.getElem_cons_succ]
        refine wpAnyH_ready (rs := [3]) (by kernel_rfl) (by simp) ?_
        refine AllReadyH.cons rfl (fun K hK => ?_) AllReadyH.nil
        go_simp
        refine (fCkClash 5 A2 4 c2 latePs _ 2 2 [0, 2] _ pl (by omega) hc2 h_x (by omega) 0 (Lib.hid (by decide +kernel))).mono ?_
        rintro e w32 ⟨rfl, hb⟩
        have Bw32 : Below w.heap.size w w32 := Bw31.trans (hb.mono Bw31.size)
        replace pg := pg.next hb (Nat.le_refl _) hb.size
        replace pl := pl.next hb (Nat.le_refl _) hb.size
        replace k1 := k1.below hb k1.lt
        replace k2 := k2.below hb k2.lt
        replace ra := ra.next hb (Nat.le_refl _) hb.size
        replace rl := rl.next hb (Nat.le_refl _) hb.size
        replace k3 := k3.below hb k3.lt
        replace k4 := k4.below hb k4.lt
        replace rb := rb.next hb (Nat.le_refl _) hb.size
        replace rc := rc.next hb (Nat.le_refl _) hb.size
        replace h_x := h_x.next hb (Nat.le_refl _) hb.size
        replace h_y := h_y.next hb (Nat.le_refl _) hb.size
        clear Bw31 hb
        clear h_x
        refine hK.out _ _ ⟨k2.cell 0, k2.cell 1⟩ (fun hS => ?_)
        clear hK K
        try simp (maxSteps := 10000000) only [Act.put, List.setIfInBounds_toArray, List.set_cons_zero, List.set_cons_succ, List.getElem_toArray, List.getElem_cons_zero, List.getElem_cons_succ]
        refine wpAnyH_ready (rs := [6]) (by kernel_rfl) (by simp) ?_
        refine AllReadyH.cons rfl (fun K hK => ?_) AllReadyH.nil
        go_simp
        refine (aOf _ _).mono ?_
        rintro e w' ⟨rfl, rfl⟩
        refine hK.out _ _ hS (fun hS => ?_)
        clear hK K
        try simp (maxSteps := 10000000) only [Act.put, List.setIfInBounds_toArray, List.set_cons_zero, List.set_cons_succ, List.getElem_toArray, List.getElem_cons_zero, List.getElem_cons_succ]
        refine wpAnyH_ready (rs := [7]) (by kernel_rfl) (by simp) ?_
        refine AllReadyH.cons rfl (fun K hK => ?_) AllReadyH.nil
        go_simp
        refine (fCkClash 5 A2 4 c2 latePs _ 2 2 [0, 1] _ pl (by omega) hc2 h_y (by omega) 5 (Lib.hid (by decide +kernel))).mono ?_
        rintro e w33 ⟨rfl, hb⟩
        have Bw33 : Below w.heap.size w w33 := Bw32.trans (hb.mono Bw32.size)
        replace pg := pg.next hb (Nat.le_refl _) hb.size
        replace pl := pl.next hb (Nat.le_refl _) hb.size
        replace k1 := k1.below hb k1.lt
        replace k2 := k2.below hb k2.lt
        replace ra := ra.next hb (Nat.le_refl _) hb.size
        replace rl := rl.next hb (Nat.le_refl _) hb.size
        replace k3 := k3.below hb k3.lt
        replace k4 := k4.below hb k4.lt
        replace rb := rb.next hb (Nat.le_refl _) hb.size
        replace rc := rc.next hb (Nat.le_refl _) hb.size
        replace h_y := h_y.next hb (Nat.le_refl _) hb.size
        clear Bw32 hb
        clear h_y
        refine hK.out _ _ ⟨k2.cell 0, k2.cell 1⟩ (fun hS => ?_)
        clear hK K
        try simp (maxSteps := 10000000) only [Act.put, List.setIfInBounds_toArray, List.set_cons_zero, List.set_cons_succ, List.getElem_toArray, List.getElem_cons_zero, List.getElem_cons_succ]
        refine wpAnyH_take (i := 8) (v := ?_) rfl (by kernel_rfl) (by kernel_rfl) (by kernel_rfl) (fun _ _ _ h => h) (Or.inl ⟨by rfl, ?_⟩) hS ?_
        rotate_left
        · intro w hSw
          (try dsimp only at hSw)
          go_simp
          (try with_reducible rfl)
        try simp (maxSteps := 10000000) only [Act.put, List.setIfInBounds_toArray, List.set_cons_zero, List.set_cons_succ, List.getElem_toArray, List.getElem_cons_zero, List.getElem_cons_succ]
        refine wpAnyH_take (i := 9) (v := ?_) rfl (by kernel_rfl) (by kernel_rfl) (by kernel_rfl) (fun _ _ _ h => h) (Or.inl ⟨by rfl, ?_⟩) hS ?_
        rotate_left
        · intro w hSw
          (try dsimp only at hSw)
          go_simp
          (try with_reducible rfl)
        try simp (maxSteps := 10000000) only [Act.put, List.setIfInBounds_toArray, List.set_cons_zero, List.set_cons_succ, List.getElem_toArray, List.getElem_cons_zero, List.getElem_cons_succ]
        refine wpAnyH_done (by kernel_rfl) (NoPanic.normal ?_) _
        clear hS
        exact ⟨qh_x, qh_y, rfl, Bw33, pg, pl, k1, k2, ra, rl, k3, k4, rb, rc⟩
    · go_simp
      have hb : Below w29.heap.size w29 (w29.alloc (.cells #[.int .i64 0, .int .i64 1] 3)) := (Below.refl _ w29).alloc (Nat.le_refl _) _
      have h_y : Ri (w29.alloc (.cells #[.int .i64 0, .int .i64 1] 3)) (w29.alloc (.cells #[.int .i64 0, .int .i64 1] 3)).heap.size (some ⟨w29.heap.size, 0, none⟩) 2 ([0, 1] : List Int) := (Oj.lit w29 #[.int .i64 0, .int .i64 1] 2 [0, 1] rfl rfl (by omega)).ri
      obtain ⟨qh_y, hq⟩ : ∃ k, w29.heap.size = k := ⟨_, rfl⟩
      rw [hq] at h_y ⊢
      obtain ⟨w30, hW⟩ : ∃ W, w29.alloc (.cells #[.int .i64 0, .int .i64 1] 3) = W := ⟨_, rfl⟩
      rw [hW] at hb h_y ⊢
      clear hW hq
      have Bw30 : Below w.heap.size w w30 := Bw29.trans (hb.mono Bw29.size)
      replace pg := pg.next hb (Nat.le_refl _) hb.size
      replace pl := pl.next hb (Nat.le_refl _) hb.size
      replace k1 := k1.below hb k1.lt
      replace k2 := k2.below hb k2.lt
      replace ra := ra.next hb (Nat.le_refl _) hb.size
      replace rl := rl.next hb (Nat.le_refl _) hb.size
      replace k3 := k3.below hb k3.lt
      replace k4 := k4.below hb k4.lt
      replace rb := rb.next hb (Nat.le_refl _) hb.size
      replace rc := rc.next hb (Nat.le_refl _) hb.size
      clear Bw29 hb
      refine hK.out _ _ ⟨k2.cell 0, k2.cell 1⟩ (fun hS => ?_)
      clear hK K
      try simp (maxSteps := 10000000) only [Act.put, List.setIfInBounds_toArray, List.set_cons_zero, List.set_cons_succ, List.getElem_toArray, List.getElem_cons_zero, List.getElem_cons_succ]
      refine wpAnyH_ready (rs := [1]) (by kernel_rfl) (by simp) ?_
      refine AllReadyH.cons rfl (fun K hK => ?_) AllReadyH.nil
      go_simp
      have hb : Below w30.heap.size w30 (w30.alloc (.cells #[.int .i64 0, .int .i64 2] 3)) := (Below.refl _ w30).alloc (Nat.le_refl _) _
      have h_x : Ri (w30.alloc (.cells #[.int .i64 0, .int .i64 2] 3)) (w30.alloc (.cells #[.int .i64 0, .int .i64 2] 3)).heap.size (some ⟨w30.heap.size, 0, none⟩) 2 ([0, 2] : List Int) := (Oj.lit w30 #[.int .i64 0, .int .i64 2] 2 [0, 2] rfl rfl (by omega)).ri
      obtain ⟨qh_x, hq⟩ : ∃ k, w30.heap.size = k := ⟨_, rfl⟩
      rw [hq] at h_x ⊢
      obtain ⟨w31, hW⟩ : ∃ W, w30.alloc (.cells #[.int .i64 0, .int .i64 2] 3) = W := ⟨_, rfl⟩
      rw [hW] at hb h_x ⊢
      clear hW hq
      have Bw31 : Below w.heap.size w w31 := Bw30.trans (hb.mono Bw30.size)
      replace pg := pg.next hb (Nat.le_refl _) hb.size
      replace pl := pl.next hb (Nat.le_refl _) hb.size
      replace k1 := k1.below hb k1.lt
      replace k2 := k2.below hb k2.lt
      replace ra := ra.next hb (Nat.le_refl _) hb.size
      replace rl := rl.next hb (Nat.le_refl _) hb.size
      replace k3 := k3.below hb k3.lt
      replace k4 := k4.below hb k4.lt
      replace rb := rb.next hb (Nat.le_refl _) hb.size
      replace rc := rc.next hb (Nat.le_refl _) hb.size
      replace h_y := h_y.next hb (Nat.le_refl _) hb.size
      clear Bw30 hb
      refine hK.out _ _ ⟨k2.cell 0, k2.cell 1⟩ (fun hS => ?_)
      clear hK K
      try simp (maxSteps := 10000000) only [Act.put, List.setIfInBounds_toArray, List.set_cons_zero, List.set_cons_succ, List.getElem_toArray, List.getElem_cons_zero, List.getElem_cons_succ]
      refine wpAnyH_ready (rs := [2]) (by kernel_rfl) (by simp) ?_
      refine AllReadyH.cons rfl (fun K hK => ?_) AllReadyH.nil
      go_simp
      refine (aOf _ _).mono ?_
      rintro e w' ⟨rfl, rfl⟩
      refine hK.out _ _ hS (fun hS => ?_)
      clear hK K
      try simp (maxSteps := 10000000) only [Act.put, List.setIfInBounds_toArray, List.set_cons_zero, List.set_cons_succ, List.getElem_toArray, List.getElem_cons_zero, List.getElem_cons_succ]
      refine wpAnyH_ready (rs := [3]) (by kernel_rfl) (by simp) ?_
      refine AllReadyH.cons rfl (fun K hK => ?_) AllReadyH.nil
      go_simp
      refine (fCkClash 5 A2 4 c2 latePs _ 2 2 [0, 2] _ pl (by omega) hc2 h_x (by omega) 0 (Lib.hid (by decide +kernel))).mono ?_
      rintro e w32 ⟨rfl, hb⟩
      have Bw32 : Below w.heap.size w w32 := Bw31.trans (hb.mono Bw31.size)
      replace pg := pg.next hb (Nat.le_refl _) hb.size
      replace pl := pl.next hb (Nat.le_refl _) hb.size
      replace k1 := k1.below hb k1.lt
      replace k2 := k2.below hb k2.lt
      replace ra := ra.next hb (Nat.le_refl _) hb.size
      replace rl := rl.next hb (Nat.le_refl _) hb.size
      replace k3 := k3.below hb k3.lt
      replace k4 := k4.below hb k4.lt
      replace rb := rb.next hb (Nat.le_refl _) hb.size
      replace rc := rc.next hb (Nat.le_refl _) hb.size
      replace h_y := h_y.next hb (Nat.le_refl _) hb.size
      replace h_x := h_x.next hb (Nat.le_refl _) hb.size
      clear Bw31 hb
      clear h_x
      refine hK.out _ _ ⟨k2.cell 0, k2.cell 1⟩ (fun hS => ?_)
      clear hK K
      try simp (maxSteps := 10000000) only [Act.put, List.setIfInBounds_toArray, List.set_cons_zero, List.set_cons_succ, List.getElem_toArray, List.getElem_cons_zero, List.getElem_cons_succ]
      refine wpAnyH_ready (rs := [6]) (by kernel_rfl) (by simp) ?_
      refine AllReadyH.cons rfl (fun K hK => ?_) AllReadyH.nil
      go_simp
      refine (aOf _ _).mono ?_
      rintro e w' ⟨rfl, rfl⟩
      refine hK.out _ _ hS (fun hS => ?_)
      clear hK K
      try simp (maxSteps := 10000000) only [Act.put, List.setIfInBounds_toArray, List.set_cons_zero, List.set_cons_succ, List.getElem_toArray, List.getElem_cons_zero, List.getElem_cons_succ]
      refine wpAnyH_ready (rs := [7]) (by kernel_rfl) (by simp) ?_
      refine AllReadyH.cons rfl (fun K hK => ?_) AllReadyH.nil
      go_simp
      refine (fCkClash 5 A2 4 c2 latePs _ 2 2 [0, 1] _ pl (by omega) hc2 h_y (by omega) 5 (Lib.hid (by decide +kernel))).mono ?_
      rintro e w33 ⟨rfl, hb⟩
      have Bw33 : Below w.heap.size w w33 := Bw32.trans (hb.mono Bw32.size)
      replace pg := pg.next hb (Nat.le_refl _) hb.size
      replace pl := pl.next hb (Nat.le_refl _) hb.size
      replace k1 := k1.below hb k1.lt
      replace k2 := k2.below hb k2.lt
      replace ra := ra.next hb (Nat.le_refl _) hb.size
      replace rl := rl.next hb (Nat.le_refl _) hb.size
      replace k3 := k3.below hb k3.lt
      replace k4 := k4.below hb k4.lt
      replace rb := rb.next hb (Nat.le_refl _) hb.size
      replace rc := rc.next hb (Nat.le_refl _) hb.size
      replace h_y := h_y.next hb (Nat.le_refl _) hb.size
      clear Bw32 hb
      clear h_y
      refine hK.out _ _ ⟨k2.cell 0, k2.cell 1⟩ (fun hS => ?_)
      clear hK K
      try simp (maxSteps := 10000000) only [Act.put, List.setIfInBounds_toArray, List.set_cons_zero, List.set_cons_succ, List.getElem_toArray, List.getElem_cons_zero, List.getElem_cons_succ]
      refine wpAnyH_take (i := 8) (v := ?_) rfl (by kernel_rfl) (by kernel_rfl) (by kernel_rfl) (fun _ _ _ h => h) (Or.inl ⟨by rfl, ?_⟩) hS ?_
      rotate_left
      · intro w hSw
        (try dsimp only at hSw)
        go_simp
        (try with_reducible rfl)
      try simp (maxSteps := 10000000) only [Act.put, List.setIfInBounds_toArray, List.set_cons_zero, List.set_cons_succ, List.getElem_toArray, List.getElem_cons_zero, List.getElem_cons_succ]
      refine wpAnyH_take (i := 9) (v := ?_) rfl (by kernel_rfl) (by kernel_rfl) (by kernel_rfl) (fun _ _ _ h => h) (Or.inl ⟨by rfl, ?_⟩) hS ?_
      rotate_left
      · intro w hSw
        (try dsimp only at hSw)
        go_simp
        (try with_reducible rfl)
      try simp (maxSteps := 10000000) only [Act.put, List.setIfInBounds_toArray, List.set_cons_zero, List.set_cons_succ, List.getElem_toArray, List.getElem_cons_zero, List.getElem_cons_succ]
      refine wpAnyH_done (by kernel_rfl) (NoPanic.normal ?_) _
      clear hS
      exact ⟨qh_x, qh_y, rfl, Bw33, pg, pl, k1, k2, ra, rl, k3, k4, rb, rc⟩
  rintro a' V0 ⟨qh_x, qh_y, rfl, BV0, pg, pl, k1, k2, ra, rl, k3, k4, rb, rc⟩
  try simp (maxSteps := 10000000) only [Act.put, List.setIfInBounds_toArray, List.set_cons_zero, List.set_cons_succ]
  refine hK0 _ _ ?_
  go_wp2_with fail
  go_wp2_with fail
  have hb : Below V0.heap.size V0 (V0.alloc (.cells #[.int .i64 7, .int .i64 5, .int .i64 2, .int .i64 15] 2)) := (Below.refl _ V0).alloc (Nat.le_refl _) _
  have h_l : Ri (V0.alloc (.cells #[.int .i64 7, .int .i64 5, .int .i64 2, .int .i64 15] 2)) (V0.alloc (.cells #[.int .i64 7, .int .i64 5, .int .i64 2, .int .i64 15] 2)).heap.size (some ⟨V0.heap.size, 0, none⟩) 4 ([7, 5, 2, 15] : List Int) := (Oi.lit V0 #[.int .i64 7, .int .i64 5, .int .i64 2, .int .i64 15] 4 [7, 5, 2, 15] rfl rfl (by omega)).ri
  obtain ⟨w30, hW⟩ : ∃ W, V0.alloc (.cells #[.int .i64 7, .int .i64 5, .int .i64 2, .int .i64 15] 2) = W := ⟨_, rfl⟩
  rw [hW] at hb h_l ⊢
  clear hW
  have Bw30 : Below w.heap.size w w30 := BV0.trans (hb.mono BV0.size)
  replace pg := pg.next hb (Nat.le_refl _) hb.size
  replace pl := pl.next hb (Nat.le_refl _) hb.size
  replace k1 := k1.below hb k1.lt
  replace k2 := k2.below hb k2.lt
  replace ra := ra.next hb (Nat.le_refl _) hb.size
  replace rl := rl.next hb (Nat.le_refl _) hb.size
  replace k3 := k3.below hb k3.lt
  replace k4 := k4.below hb k4.lt
  replace rb := rb.next hb (Nat.le_refl _) hb.size
  replace rc := rc.next hb (Nat.le_refl _) hb.size
  clear BV0 hb
  refine (aLongsOf _ _).mono ?_
  rintro e w' ⟨rfl, rfl⟩
  go_wp2_with fail
  refine (aLongsT _ _ _ _ _ _ _ _ ([7, 5, 2, 15]) ([7, 5, 2, 15]) _ ra h_l (by have h := ra.len; simp at h; omega) (by omega) true (Lib.hid (by decide +kernel))).mono ?_
  rintro e w31 ⟨rfl, hb⟩
  have Bw31 : Below w.heap.size w w31 := Bw30.trans (hb.mono Bw30.size)
  replace pg := pg.next hb (Nat.le_refl _) hb.size
  replace pl := pl.next hb (Nat.le_refl _) hb.size
  replace k1 := k1.below hb k1.lt
  replace k2 := k2.below hb k2.lt
  replace ra := ra.next hb (Nat.le_refl _) hb.size
  replace rl := rl.next hb (Nat.le_refl _) hb.size
  replace k3 := k3.below hb k3.lt
  replace k4 := k4.below hb k4.lt
  replace rb := rb.next hb (Nat.le_refl _) hb.size
  replace rc := rc.next hb (Nat.le_refl _) hb.size
  replace h_l := h_l.next hb (Nat.le_refl _) hb.size
  clear Bw30 hb
  clear h_l ra
  go_wp2_with fail
  have hb : Below w31.heap.size w31 (w31.alloc (.cells #[.int .i64 2, .int .i64 1, .int .i64 0, .int .i64 3] 3)) := (Below.refl _ w31).alloc (Nat.le_refl _) _
  have h_l : Ri (w31.alloc (.cells #[.int .i64 2, .int .i64 1, .int .i64 0, .int .i64 3] 3)) (w31.alloc (.cells #[.int .i64 2, .int .i64 1, .int .i64 0, .int .i64 3] 3)).heap.size (some ⟨w31.heap.size, 0, none⟩) 4 ([2, 1, 0, 3] : List Int) := (Oj.lit w31 #[.int .i64 2, .int .i64 1, .int .i64 0, .int .i64 3] 4 [2, 1, 0, 3] rfl rfl (by omega)).ri
  obtain ⟨w32, hW⟩ : ∃ W, w31.alloc (.cells #[.int .i64 2, .int .i64 1, .int .i64 0, .int .i64 3] 3) = W := ⟨_, rfl⟩
  rw [hW] at hb h_l ⊢
  clear hW
  have Bw32 : Below w.heap.size w w32 := Bw31.trans (hb.mono Bw31.size)
  replace pg := pg.next hb (Nat.le_refl _) hb.size
  replace pl := pl.next hb (Nat.le_refl _) hb.size
  replace k1 := k1.below hb k1.lt
  replace k2 := k2.below hb k2.lt
  replace rl := rl.next hb (Nat.le_refl _) hb.size
  replace k3 := k3.below hb k3.lt
  replace k4 := k4.below hb k4.lt
  replace rb := rb.next hb (Nat.le_refl _) hb.size
  replace rc := rc.next hb (Nat.le_refl _) hb.size
  clear Bw31 hb
  refine (aOf _ _).mono ?_
  rintro e w' ⟨rfl, rfl⟩
  go_wp2_with fail
  refine (aIntsT _ _ _ _ _ _ _ _ (ofN [2, 1, 0, 3]) ([2, 1, 0, 3]) _ rl h_l (by have h := rl.len; simp [ofN] at h; omega) (by omega) true (Lib.hid (by decide +kernel))).mono ?_
  rintro e w33 ⟨rfl, hb⟩
  have Bw33 : Below w.heap.size w w33 := Bw32.trans (hb.mono Bw32.size)
  replace pg := pg.next hb (Nat.le_refl _) hb.size
  replace pl := pl.next hb (Nat.le_refl _) hb.size
  replace k1 := k1.below hb k1.lt
  replace k2 := k2.below hb k2.lt
  replace rl := rl.next hb (Nat.le_refl _) hb.size
  replace k3 := k3.below hb k3.lt
  replace k4 := k4.below hb k4.lt
  replace rb := rb.next hb (Nat.le_refl _) hb.size
  replace rc := rc.next hb (Nat.le_refl _) hb.size
  replace h_l := h_l.next hb (Nat.le_refl _) hb.size
  clear Bw32 hb
  clear h_l rl
  have d0 := k3.cell 0
  have d1 := k3.cell 1
  go_wp2_with fail
  clear d0 d1
  refine (aTable 15 _).mono ?_
  rintro e w34 ⟨O2, ks2, rfl, hob, hks, _, _, hb⟩
  have h_t := hob.bd hks
  clear hob hks
  have Bw34 : Below w.heap.size w w34 := Bw33.trans (hb.mono Bw33.size)
  replace pg := pg.next hb (Nat.le_refl _) hb.size
  replace pl := pl.next hb (Nat.le_refl _) hb.size
  replace k1 := k1.below hb k1.lt
  replace k2 := k2.below hb k2.lt
  replace k3 := k3.below hb k3.lt
  replace k4 := k4.below hb k4.lt
  replace rb := rb.next hb (Nat.le_refl _) hb.size
  replace rc := rc.next hb (Nat.le_refl _) hb.size
  clear Bw33 hb
  go_wp2_with fail
  refine (aSame _ _ _ _ _ _ _ _ _ _ _ rb h_t (by have h := rb.len; rw [← h]; decide +kernel) (by omega) (Lib.hid (by decide +kernel)) (Lib.hid (by decide +kernel)) true (Lib.hid (by decide +kernel))).mono ?_
  rintro e w35 ⟨rfl, hb⟩
  have Bw35 : Below w.heap.size w w35 := Bw34.trans (hb.mono Bw34.size)
  replace pg := pg.next hb (Nat.le_refl _) hb.size
  replace pl := pl.next hb (Nat.le_refl _) hb.size
  replace k1 := k1.below hb k1.lt
  replace k2 := k2.below hb k2.lt
  replace k3 := k3.below hb k3.lt
  replace k4 := k4.below hb k4.lt
  replace rb := rb.next hb (Nat.le_refl _) hb.size
  replace rc := rc.next hb (Nat.le_refl _) hb.size
  replace h_t := h_t.next hb (Nat.le_refl _) hb.size
  clear Bw34 hb
  clear h_t rb
  go_wp2_with fail
  have hb : Below w35.heap.size w35 (w35.alloc (.cells #[.int .i64 0, .int .i64 2] 3)) := (Below.refl _ w35).alloc (Nat.le_refl _) _
  have h_l : Ri (w35.alloc (.cells #[.int .i64 0, .int .i64 2] 3)) (w35.alloc (.cells #[.int .i64 0, .int .i64 2] 3)).heap.size (some ⟨w35.heap.size, 0, none⟩) 2 ([0, 2] : List Int) := (Oj.lit w35 #[.int .i64 0, .int .i64 2] 2 [0, 2] rfl rfl (by omega)).ri
  obtain ⟨w36, hW⟩ : ∃ W, w35.alloc (.cells #[.int .i64 0, .int .i64 2] 3) = W := ⟨_, rfl⟩
  rw [hW] at hb h_l ⊢
  clear hW
  have Bw36 : Below w.heap.size w w36 := Bw35.trans (hb.mono Bw35.size)
  replace pg := pg.next hb (Nat.le_refl _) hb.size
  replace pl := pl.next hb (Nat.le_refl _) hb.size
  replace k1 := k1.below hb k1.lt
  replace k2 := k2.below hb k2.lt
  replace k3 := k3.below hb k3.lt
  replace k4 := k4.below hb k4.lt
  replace rc := rc.next hb (Nat.le_refl _) hb.size
  clear Bw35 hb
  refine (aOf _ _).mono ?_
  rintro e w' ⟨rfl, rfl⟩
  go_wp2_with fail
  refine (aIntsT _ _ _ _ _ _ _ _ (ofN [0, 2]) ([0, 2]) _ rc h_l (by have h := rc.len; simp [ofN] at h; omega) (by omega) true (Lib.hid (by decide +kernel))).mono ?_
  rintro e w37 ⟨rfl, hb⟩
  have Bw37 : Below w.heap.size w w37 := Bw36.trans (hb.mono Bw36.size)
  replace pg := pg.next hb (Nat.le_refl _) hb.size
  replace pl := pl.next hb (Nat.le_refl _) hb.size
  replace k1 := k1.below hb k1.lt
  replace k2 := k2.below hb k2.lt
  replace k3 := k3.below hb k3.lt
  replace k4 := k4.below hb k4.lt
  replace rc := rc.next hb (Nat.le_refl _) hb.size
  replace h_l := h_l.next hb (Nat.le_refl _) hb.size
  clear Bw36 hb
  clear h_l rc
  go_wp2
  go_ret
  exact ⟨rfl, Bw37⟩
end Go.Proofs.Ytaekjnjignlmoaa
