/-
  RoundKnown: the examples of the chapter are as they are told; a closed statement, no condition.
-/
import Derived.Test.YtaekjnjignlmoaaWorks
import Derived.Test.YtaekjnjignlmoaaRow
namespace Go.Proofs.Ytaekjnjignlmoaa
open Go.Shelf Go.ChangeShapes Go.WideShapes Go.ChangeAt Go.RowKit

set_option maxRecDepth 100000 in
set_option maxHeartbeats 16000000 in
theorem wKnown (w : World) : Calls Try.prog 16 #[] w (RetB w true) := by
  have hmix : Try.prog.follows .mixedOrders = true := by kernel_rfl
  go_enter Try.func16, Try.ntmps16
  go_wp2_with fail
  refine (aGood _).mono ?_
  rintro e w1 ⟨A1, c1, rfl, hog, hb⟩
  have hc1 := hog.cap
  have pg := hog.rp
  clear hog
  have Bw1 : Below w.heap.size w w1 := hb
  clear hb
  go_wp2_with fail
  refine (aLate _).mono ?_
  rintro e w2 ⟨A2, c2, rfl, hol, hb⟩
  have hc2 := hol.cap
  have pl := hol.rp
  clear hol
  have Bw2 : Below w.heap.size w w2 := Bw1.trans (hb.mono Bw1.size)
  replace pg := pg.next hb (Nat.le_refl _) hb.size
  clear Bw1 hb
  go_wp2
  have k1 := (Bk.new w2 24 #[.int .i64 5, .slice A1 4 c1]).alloc (.cells #[.int .i64 5, .slice A2 4 c2] 24)
  have k2 := Bk.new (w2.alloc (.cells #[.int .i64 5, .slice A1 4 c1] 24)) 24 #[.int .i64 5, .slice A2 4 c2]
  have hb : Below w2.heap.size w2 ((w2.alloc (.cells #[.int .i64 5, .slice A1 4 c1] 24)).alloc (.cells #[.int .i64 5, .slice A2 4 c2] 24)) := ((Below.refl _ w2).alloc (Nat.le_refl _) _).alloc (by simp) _
  simp only [World.size_alloc] at k2 ⊢
  obtain ⟨u1, hu1⟩ : ∃ k, w2.heap.size = k := ⟨_, rfl⟩
  obtain ⟨u2, hu2⟩ : ∃ k, w2.heap.size + 1 = k := ⟨_, rfl⟩
  rw [hu2] at k2 ⊢
  rw [hu1] at k1 ⊢
  obtain ⟨w3, hW⟩ : ∃ W, (w2.alloc (.cells #[.int .i64 5, .slice A1 4 c1] 24)).alloc (.cells #[.int .i64 5, .slice A2 4 c2] 24) = W := ⟨_, rfl⟩
  rw [hW] at k1 k2 hb ⊢
  clear hW hu1 hu2
  have Bw3 : Below w.heap.size w w3 := Bw2.trans (hb.mono Bw2.size)
  replace pg := pg.next hb (Nat.le_refl _) hb.size
  replace pl := pl.next hb (Nat.le_refl _) hb.size
  clear Bw2 hb
  go_wp2
  have d0 := k1.drew.cell 0
  have d1 := k1.drew.cell 1
  refine wp_region_noPanic ?_
  refine wp_region_held_drew (S := fun V => V.cell? ⟨u1, 0, none⟩ = some (.int .i64 5) ∧ V.cell? ⟨u1, 1, none⟩ = some (.slice A1 4 c1)) hmix ⟨d0, d1⟩ (fun hS => ?_)
  clear d0 d1
  refine wpAnyH_take (i := 0) (v := ?_) rfl (by kernel_rfl) (by kernel_rfl) (by kernel_rfl) (fun _ _ _ h => h) (Or.inl ⟨by rfl, ?_⟩) hS ?_
  rotate_left
  · intro w hSw
    (try dsimp only at hSw)
    go_simp
    (try with_reducible rfl)
  try simp (maxSteps := 10000000) only [Act.put, List.setIfInBounds_toArray, List.set_cons_zero, List.set_cons_succ, List.getElem_toArray, List.getElem_cons_zero, List.getElem_cons_succ]
  refine wpAnyH_ready (rs := [1]) (by kernel_rfl) (by simp) ?_
  refine AllReadyH.cons rfl (fun K hK => ?_) AllReadyH.nil
  go_simp
  have hb : Below w3.heap.size w3 (w3.alloc (.cells #[.int .i64 1, .int .i64 2, .int .i64 0, .int .i64 3] 3)).drew := below_drewN ((Below.refl _ w3).alloc (Nat.le_refl _) _) 1
  have h_l : Ri (w3.alloc (.cells #[.int .i64 1, .int .i64 2, .int .i64 0, .int .i64 3] 3)).drew (w3.alloc (.cells #[.int .i64 1, .int .i64 2, .int .i64 0, .int .i64 3] 3)).drew.heap.size (some ⟨w3.heap.size, 0, none⟩) 4 ([1, 2, 0, 3] : List Int) := (Oj.lit w3 #[.int .i64 1, .int .i64 2, .int .i64 0, .int .i64 3] 4 [1, 2, 0, 3] rfl rfl (by omega)).ri
  obtain ⟨w4, hW⟩ : ∃ W, (w3.alloc (.cells #[.int .i64 1, .int .i64 2, .int .i64 0, .int .i64 3] 3)).drew = W := ⟨_, rfl⟩
  rw [hW] at hb h_l ⊢
  clear hW
  have Bw4 : Below w.heap.size w w4 := Bw3.trans (hb.mono Bw3.size)
  replace pg := pg.next hb (Nat.le_refl _) hb.size
  replace pl := pl.next hb (Nat.le_refl _) hb.size
  replace k1 := k1.below hb k1.lt
  replace k2 := k2.below hb k2.lt
  clear Bw3 hb
  refine hK.out _ _ ⟨k1.cell 0, k1.cell 1⟩ (fun hS => ?_)
  clear hK K
  try simp (maxSteps := 10000000) only [Act.put, List.setIfInBounds_toArray, List.set_cons_zero, List.set_cons_succ, List.getElem_toArray, List.getElem_cons_zero, List.getElem_cons_succ]
  refine wpAnyH_ready (rs := [2]) (by kernel_rfl) (by simp) ?_
  refine AllReadyH.cons rfl (fun K hK => ?_) AllReadyH.nil
  go_simp
  refine (aOf _ _).mono ?_
  rintro e w' ⟨rfl, rfl⟩
  refine hK.out _ _ hS (fun hS => ?_)
  clear hK K
  try simp (maxSteps := 10000000) only [Act.put, List.setIfInBounds_toArray, List.set_cons_zero, List.set_cons_succ, List.getElem_toArray, List.getElem_cons_zero, List.getElem_cons_succ]
  refine wpAnyH_ready (rs := [3]) (by kernel_rfl) (by simp) ?_
  refine AllReadyH.cons rfl (fun K hK => ?_) AllReadyH.nil
  go_simp
  refine (fCkRound 5 A1 4 c1 goodPs _ 4 4 [1, 2, 0, 3] _ pg (by omega) hc1 h_l (by omega) (Nat.le_refl _) ([9, 1, 4, 17], 0) (Lib.hid (by decide +kernel))).mono ?_
  rintro e w5 ⟨A5, n5, c_5, rfl, ho, hb⟩
  have Bw5 : Below w.heap.size w w5 := Bw4.trans (hb.mono Bw4.size)
  replace pg := pg.next hb (Nat.le_refl _) hb.size
  replace pl := pl.next hb (Nat.le_refl _) hb.size
  replace k1 := k1.below hb k1.lt
  replace k2 := k2.below hb k2.lt
  replace h_l := h_l.next hb (Nat.le_refl _) hb.size
  clear Bw4 hb
  have ra := ho.ri
  clear ho
  clear h_l
  refine hK.out _ _ ⟨k1.cell 0, k1.cell 1⟩ (fun hS => ?_)
  clear hK K
  try simp (maxSteps := 10000000) only [Act.put, List.setIfInBounds_toArray, List.set_cons_zero, List.set_cons_succ, List.getElem_toArray, List.getElem_cons_zero, List.getElem_cons_succ]
  refine wpAnyH_take (i := 4) (v := ?_) rfl (by kernel_rfl) (by kernel_rfl) (by kernel_rfl) (fun _ _ _ h => h) (Or.inl ⟨by rfl, ?_⟩) hS ?_
  rotate_left
  · intro w hSw
    (try dsimp only at hSw)
    go_simp
    (try with_reducible rfl)
  try simp (maxSteps := 10000000) only [Act.put, List.setIfInBounds_toArray, List.set_cons_zero, List.set_cons_succ, List.getElem_toArray, List.getElem_cons_zero, List.getElem_cons_succ]
  refine wpAnyH_take (i := 5) (v := ?_) rfl (by kernel_rfl) (by kernel_rfl) (by kernel_rfl) (fun _ _ _ h => h) (Or.inl ⟨by rfl, ?_⟩) hS ?_
  rotate_left
  · intro w hSw
    (try dsimp only at hSw)
    go_simp
    (try with_reducible rfl)
  try simp (maxSteps := 10000000) only [Act.put, List.setIfInBounds_toArray, List.set_cons_zero, List.set_cons_succ, List.getElem_toArray, List.getElem_cons_zero, List.getElem_cons_succ]
  refine wpAnyH_take (i := 6) (v := ?_) rfl (by kernel_rfl) (by kernel_rfl) (by kernel_rfl) (fun _ _ _ h => h) (Or.inl ⟨by rfl, ?_⟩) hS ?_
  rotate_left
  · intro w hSw
    (try dsimp only at hSw)
    go_simp
    (try with_reducible rfl)
  try simp (maxSteps := 10000000) only [Act.put, List.setIfInBounds_toArray, List.set_cons_zero, List.set_cons_succ, List.getElem_toArray, List.getElem_cons_zero, List.getElem_cons_succ]
  refine wpAnyH_take (i := 7) (v := ?_) rfl (by kernel_rfl) (by kernel_rfl) (by kernel_rfl) (fun _ _ _ h => h) (Or.inl ⟨by rfl, ?_⟩) hS ?_
  rotate_left
  · intro w hSw
    (try dsimp only at hSw)
    go_simp
    (try with_reducible rfl)
  try simp (maxSteps := 10000000) only [Act.put, List.setIfInBounds_toArray, List.set_cons_zero, List.set_cons_succ, List.getElem_toArray, List.getElem_cons_zero, List.getElem_cons_succ]
  refine wpAnyH_take (i := 8) (v := ?_) rfl (by kernel_rfl) (by kernel_rfl) (by kernel_rfl) (fun _ _ _ h => h) (Or.inl ⟨by rfl, ?_⟩) hS ?_
  rotate_left
  · intro w hSw
    (try dsimp only at hSw)
    go_simp
    (try with_reducible rfl)
  try simp (maxSteps := 10000000) only [Act.put, List.setIfInBounds_toArray, List.set_cons_zero, List.set_cons_succ, List.getElem_toArray, List.getElem_cons_zero, List.getElem_cons_succ]
  refine wpAnyH_done (by kernel_rfl) (NoPanic.normal ?_) _
  clear hS
  have d0 := k2.cell 0
  have d1 := k2.cell 1
  go_wp2_with fail
  clear d0 d1
  refine (fCount 5 A2 4 c2 latePs _ pl (by omega) hc2 (0, 0) (Lib.hid (by decide +kernel))).mono ?_
  rintro e w6 ⟨rfl, hb⟩
  have Bw6 : Below w.heap.size w w6 := Bw5.trans (hb.mono Bw5.size)
  replace pg := pg.next hb (Nat.le_refl _) hb.size
  replace pl := pl.next hb (Nat.le_refl _) hb.size
  replace k1 := k1.below hb k1.lt
  replace k2 := k2.below hb k2.lt
  replace ra := ra.next hb (Nat.le_refl _) hb.size
  clear Bw5 hb
  have d0 := k1.cell 0
  have d1 := k1.cell 1
  go_wp2_with fail
  clear d0 d1
  refine (fWithinR 5 A1 4 c1 goodPs _ 3 pg (by omega) hc1 (15, 17, 0) (Lib.hid (by decide +kernel))).mono ?_
  rintro e w7 ⟨rfl, hb⟩
  have Bw7 : Below w.heap.size w w7 := Bw6.trans (hb.mono Bw6.size)
  replace pg := pg.next hb (Nat.le_refl _) hb.size
  replace pl := pl.next hb (Nat.le_refl _) hb.size
  replace k1 := k1.below hb k1.lt
  replace k2 := k2.below hb k2.lt
  replace ra := ra.next hb (Nat.le_refl _) hb.size
  clear Bw6 hb
  have d0 := (k2.alloc (.cells #[.int .i64 15, .int .i64 17] 43)).cell 0
  have d1 := (k2.alloc (.cells #[.int .i64 15, .int .i64 17] 43)).cell 1
  go_wp2_with fail
  clear d0 d1
  have k3 := Bk.new w7 43 #[.int .i64 15, .int .i64 17]
  have hb : Below w7.heap.size w7 (w7.alloc (.cells #[.int .i64 15, .int .i64 17] 43)) := (Below.refl _ _).alloc (Nat.le_refl _) _
  obtain ⟨u3, hu⟩ : ∃ k, w7.heap.size = k := ⟨_, rfl⟩
  obtain ⟨w8, hW⟩ : ∃ W, w7.alloc (.cells #[.int .i64 15, .int .i64 17] 43) = W := ⟨_, rfl⟩
  rw [hW] at k3 hb ⊢
  rw [hu] at k3 ⊢
  clear hW
  have Bw8 : Below w.heap.size w w8 := Bw7.trans (hb.mono Bw7.size)
  replace pg := pg.next hb (Nat.le_refl _) hb.size
  replace pl := pl.next hb (Nat.le_refl _) hb.size
  replace k1 := k1.below hb k1.lt
  replace k2 := k2.below hb k2.lt
  replace ra := ra.next hb (Nat.le_refl _) hb.size
  clear Bw7 hb
  clear hu
  refine (fWithinR 5 A2 4 c2 latePs _ 1 pl (by omega) hc2 (0, 0, 12) (Lib.hid (by decide +kernel))).mono ?_
  rintro e w9 ⟨rfl, hb⟩
  have Bw9 : Below w.heap.size w w9 := Bw8.trans (hb.mono Bw8.size)
  replace pg := pg.next hb (Nat.le_refl _) hb.size
  replace pl := pl.next hb (Nat.le_refl _) hb.size
  replace k1 := k1.below hb k1.lt
  replace k2 := k2.below hb k2.lt
  replace ra := ra.next hb (Nat.le_refl _) hb.size
  replace k3 := k3.below hb k3.lt
  clear Bw8 hb
  go_wp2
  have k4 := Bk.new w9 43 #[.int .i64 0, .int .i64 0]
  have hb : Below w9.heap.size w9 (w9.alloc (.cells #[.int .i64 0, .int .i64 0] 43)) := (Below.refl _ _).alloc (Nat.le_refl _) _
  obtain ⟨u4, hu⟩ : ∃ k, w9.heap.size = k := ⟨_, rfl⟩
  obtain ⟨w10, hW⟩ : ∃ W, w9.alloc (.cells #[.int .i64 0, .int .i64 0] 43) = W := ⟨_, rfl⟩
  rw [hW] at k4 hb ⊢
  rw [hu] at k4 ⊢
  clear hW
  have Bw10 : Below w.heap.size w w10 := Bw9.trans (hb.mono Bw9.size)
  replace pg := pg.next hb (Nat.le_refl _) hb.size
  replace pl := pl.next hb (Nat.le_refl _) hb.size
  replace k1 := k1.below hb k1.lt
  replace k2 := k2.below hb k2.lt
  replace ra := ra.next hb (Nat.le_refl _) hb.size
  replace k3 := k3.below hb k3.lt
  clear Bw9 hb
  clear hu
  have d0 := k1.drew.cell 0
  have d1 := k1.drew.cell 1
  refine wp_region_noPanic ?_
  refine wp_region_held_drew (S := fun V => V.cell? ⟨u1, 0, none⟩ = some (.int .i64 5) ∧ V.cell? ⟨u1, 1, none⟩ = some (.slice A1 4 c1)) hmix ⟨d0, d1⟩ (fun hS => ?_)
  clear d0 d1
  refine wpAnyH_take (i := 0) (v := ?_) rfl (by kernel_rfl) (by kernel_rfl) (by kernel_rfl) (fun _ _ _ h => h) (Or.inl ⟨by rfl, ?_⟩) hS ?_
  rotate_left
  · intro w hSw
    (try dsimp only at hSw)
    go_simp
    (try with_reducible rfl)
  try simp (maxSteps := 10000000) only [Act.put, List.setIfInBounds_toArray, List.set_cons_zero, List.set_cons_succ, List.getElem_toArray, List.getElem_cons_zero, List.getElem_cons_succ]
  refine wpAnyH_ready (rs := [1]) (by kernel_rfl) (by simp) ?_
  refine AllReadyH.cons rfl (fun K hK => ?_) AllReadyH.nil
  go_simp
  refine (aTable 15 _).mono ?_
  rintro e w11 ⟨O, ks, rfl, hob, hks, _, _, hbt⟩
  have hb : Below w10.heap.size w10 w11 := (below_drewN (Below.refl _ w10) 1).trans hbt
  clear hbt
  have h_t := hob.bd hks
  clear hob hks
  have Bw11 : Below w.heap.size w w11 := Bw10.trans (hb.mono Bw10.size)
  replace pg := pg.next hb (Nat.le_refl _) hb.size
  replace pl := pl.next hb (Nat.le_refl _) hb.size
  replace k1 := k1.below hb k1.lt
  replace k2 := k2.below hb k2.lt
  replace ra := ra.next hb (Nat.le_refl _) hb.size
  replace k3 := k3.below hb k3.lt
  replace k4 := k4.below hb k4.lt
  clear Bw10 hb
  refine hK.out _ _ ⟨k1.cell 0, k1.cell 1⟩ (fun hS => ?_)
  clear hK K
  try simp (maxSteps := 10000000) only [Act.put, List.setIfInBounds_toArray, List.set_cons_zero, List.set_cons_succ, List.getElem_toArray, List.getElem_cons_zero, List.getElem_cons_succ]
  refine wpAnyH_ready (rs := [2]) (by kernel_rfl) (by simp) ?_
  refine AllReadyH.cons rfl (fun K hK => ?_) AllReadyH.nil
  go_simp
  refine (fCkBoundsT 5 A1 4 c1 goodPs (some ⟨O, 0, none⟩) 3 3 _ _ pg (by omega) hc1 h_t (by omega) (Lib.hid (by decide +kernel)) (15, 0) (Lib.hid (by decide +kernel))).mono ?_
  rintro e w12 ⟨rfl, hb⟩
  have Bw12 : Below w.heap.size w w12 := Bw11.trans (hb.mono Bw11.size)
  replace pg := pg.next hb (Nat.le_refl _) hb.size
  replace pl := pl.next hb (Nat.le_refl _) hb.size
  replace k1 := k1.below hb k1.lt
  replace k2 := k2.below hb k2.lt
  replace ra := ra.next hb (Nat.le_refl _) hb.size
  replace k3 := k3.below hb k3.lt
  replace k4 := k4.below hb k4.lt
  replace h_t := h_t.next hb (Nat.le_refl _) hb.size
  clear Bw11 hb
  clear h_t
  refine hK.out _ _ ⟨k1.cell 0, k1.cell 1⟩ (fun hS => ?_)
  clear hK K
  try simp (maxSteps := 10000000) only [Act.put, List.setIfInBounds_toArray, List.set_cons_zero, List.set_cons_succ, List.getElem_toArray, List.getElem_cons_zero, List.getElem_cons_succ]
  refine wpAnyH_take (i := 3) (v := ?_) rfl (by kernel_rfl) (by kernel_rfl) (by kernel_rfl) (fun _ _ _ h => h) (Or.inl ⟨by rfl, ?_⟩) hS ?_
  rotate_left
  · intro w hSw
    (try dsimp only at hSw)
    go_simp
    (try with_reducible rfl)
  try simp (maxSteps := 10000000) only [Act.put, List.setIfInBounds_toArray, List.set_cons_zero, List.set_cons_succ, List.getElem_toArray, List.getElem_cons_zero, List.getElem_cons_succ]
  refine wpAnyH_take (i := 4) (v := ?_) rfl (by kernel_rfl) (by kernel_rfl) (by kernel_rfl) (fun _ _ _ h => h) (Or.inl ⟨by rfl, ?_⟩) hS ?_
  rotate_left
  · intro w hSw
    (try dsimp only at hSw)
    go_simp
    (try with_reducible rfl)
  try simp (maxSteps := 10000000) only [Act.put, List.setIfInBounds_toArray, List.set_cons_zero, List.set_cons_succ, List.getElem_toArray, List.getElem_cons_zero, List.getElem_cons_succ]
  refine wpAnyH_take (i := 5) (v := ?_) rfl (by kernel_rfl) (by kernel_rfl) (by kernel_rfl) (fun _ _ _ h => h) (Or.inl ⟨by rfl, ?_⟩) hS ?_
  rotate_left
  · intro w hSw
    (try dsimp only at hSw)
    go_simp
    (try with_reducible rfl)
  try simp (maxSteps := 10000000) only [Act.put, List.setIfInBounds_toArray, List.set_cons_zero, List.set_cons_succ, List.getElem_toArray, List.getElem_cons_zero, List.getElem_cons_succ]
  refine wpAnyH_take (i := 6) (v := ?_) rfl (by kernel_rfl) (by kernel_rfl) (by kernel_rfl) (fun _ _ _ h => h) (Or.inl ⟨by rfl, ?_⟩) hS ?_
  rotate_left
  · intro w hSw
    (try dsimp only at hSw)
    go_simp
    (try with_reducible rfl)
  try simp (maxSteps := 10000000) only [Act.put, List.setIfInBounds_toArray, List.set_cons_zero, List.set_cons_succ, List.getElem_toArray, List.getElem_cons_zero, List.getElem_cons_succ]
  refine wpAnyH_take (i := 7) (v := ?_) rfl (by kernel_rfl) (by kernel_rfl) (by kernel_rfl) (fun _ _ _ h => h) (Or.inl ⟨by rfl, ?_⟩) hS ?_
  rotate_left
  · intro w hSw
    (try dsimp only at hSw)
    go_simp
    (try with_reducible rfl)
  try simp (maxSteps := 10000000) only [Act.put, List.setIfInBounds_toArray, List.set_cons_zero, List.set_cons_succ, List.getElem_toArray, List.getElem_cons_zero, List.getElem_cons_succ]
  refine wpAnyH_done (by kernel_rfl) (NoPanic.normal ?_) _
  clear hS
  go_wp2_with fail
  refine (aTable 15 _).mono ?_
  rintro e V ⟨O, ks, rfl, hob, hks, hO, hkk, hbt⟩
  obtain ⟨q0, q1, q2, rfl⟩ : ∃ a b c, ks = [a, b, c] := by
    match ks, hks with
    | [a, b, c], _ => exact ⟨a, b, c, rfl⟩
  have hq0 : ([q0, q1, q2] : List Nat)[0]? = some q0 := rfl
  have z0 : V.cell? ⟨O, 0, none⟩ = some (.slice (some ⟨q0, 0, none⟩) 3 3) := hob.row hq0
  have z1 : V.cell? ⟨q0, 3, none⟩ = some (.int .i64 (gvE (tableRs 15) 0 1 1)) := hob.num hq0 (y := 1) (e := 1) (by omega) (by omega)
  have z2 : V.frozen? ⟨q0, 3, none⟩ = false := hob.frozen hq0 3
  have hbs : Below w12.heap.size w12 (V.setCell ⟨q0, 3, none⟩ (.int .i64 3)) := hbt.setCell (p := ⟨q0, 3, none⟩) (hkk q0 (by simp)) _
  have hob2 := hob.set_ hq0 (y := 1) (e := 1) (by omega) (by omega) 3
  have h_t := hob2.bd hks
  have d0 := (k1.below hbs k1.lt).cell 0
  have d1 := (k1.below hbs k1.lt).cell 1
  clear hob hob2 hbt
  go_wp2_with fail
  clear d0 d1 z0 z1 z2
  obtain ⟨w13, hW⟩ : ∃ W, V.setCell ⟨q0, 3, none⟩ (.int .i64 3) = W := ⟨_, rfl⟩
  rw [hW] at hbs ⊢
  rw [show (⟨q0, 1 * 2 + 1, none⟩ : Addr) = ⟨q0, 3, none⟩ from rfl, hW] at h_t
  clear hW
  have Bw13 : Below w.heap.size w w13 := Bw12.trans (hbs.mono Bw12.size)
  replace pg := pg.next hbs (Nat.le_refl _) hbs.size
  replace pl := pl.next hbs (Nat.le_refl _) hbs.size
  replace k1 := k1.below hbs k1.lt
  replace k2 := k2.below hbs k2.lt
  replace ra := ra.next hbs (Nat.le_refl _) hbs.size
  replace k3 := k3.below hbs k3.lt
  replace k4 := k4.below hbs k4.lt
  clear Bw12 hbs
  refine (fCkBoundsT 5 A1 4 c1 goodPs _ 3 3 _ _ pg (by omega) hc1 h_t (by omega) (Lib.hid (by decide +kernel)) (0, 14) (Lib.hid (by decide +kernel))).mono ?_
  rintro e w14 ⟨rfl, hb⟩
  have Bw14 : Below w.heap.size w w14 := Bw13.trans (hb.mono Bw13.size)
  replace pg := pg.next hb (Nat.le_refl _) hb.size
  replace pl := pl.next hb (Nat.le_refl _) hb.size
  replace k1 := k1.below hb k1.lt
  replace k2 := k2.below hb k2.lt
  replace ra := ra.next hb (Nat.le_refl _) hb.size
  replace k3 := k3.below hb k3.lt
  replace k4 := k4.below hb k4.lt
  replace h_t := h_t.next hb (Nat.le_refl _) hb.size
  clear Bw13 hb
  clear h_t
  go_wp2
  have d0 := k2.drew.cell 0
  have d1 := k2.drew.cell 1
  refine wp_region_noPanic ?_
  refine wp_region_held_drew (S := fun V => V.cell? ⟨u2, 0, none⟩ = some (.int .i64 5) ∧ V.cell? ⟨u2, 1, none⟩ = some (.slice A2 4 c2)) hmix ⟨d0, d1⟩ (fun hS => ?_)
  clear d0 d1
  refine wpAnyH_take (i := 0) (v := ?_) rfl (by kernel_rfl) (by kernel_rfl) (by kernel_rfl) (fun _ _ _ h => h) (Or.inl ⟨by rfl, ?_⟩) hS ?_
  rotate_left
  · intro w hSw
    (try dsimp only at hSw)
    go_simp
    (try with_reducible rfl)
  try simp (maxSteps := 10000000) only [Act.put, List.setIfInBounds_toArray, List.set_cons_zero, List.set_cons_succ, List.getElem_toArray, List.getElem_cons_zero, List.getElem_cons_succ]
  refine wpAnyH_ready (rs := [1]) (by kernel_rfl) (by simp) ?_
  refine AllReadyH.cons rfl (fun K hK => ?_) AllReadyH.nil
  go_simp
  have hb : Below w14.heap.size w14 (w14.alloc (.cells #[.int .i64 2, .int .i64 0] 3)).drew := below_drewN ((Below.refl _ w14).alloc (Nat.le_refl _) _) 1
  have h_l : Ri (w14.alloc (.cells #[.int .i64 2, .int .i64 0] 3)).drew (w14.alloc (.cells #[.int .i64 2, .int .i64 0] 3)).drew.heap.size (some ⟨w14.heap.size, 0, none⟩) 2 ([2, 0] : List Int) := (Oj.lit w14 #[.int .i64 2, .int .i64 0] 2 [2, 0] rfl rfl (by omega)).ri
  obtain ⟨w15, hW⟩ : ∃ W, (w14.alloc (.cells #[.int .i64 2, .int .i64 0] 3)).drew = W := ⟨_, rfl⟩
  rw [hW] at hb h_l ⊢
  clear hW
  have Bw15 : Below w.heap.size w w15 := Bw14.trans (hb.mono Bw14.size)
  replace pg := pg.next hb (Nat.le_refl _) hb.size
  replace pl := pl.next hb (Nat.le_refl _) hb.size
  replace k1 := k1.below hb k1.lt
  replace k2 := k2.below hb k2.lt
  replace ra := ra.next hb (Nat.le_refl _) hb.size
  replace k3 := k3.below hb k3.lt
  replace k4 := k4.below hb k4.lt
  clear Bw14 hb
  refine hK.out _ _ ⟨k2.cell 0, k2.cell 1⟩ (fun hS => ?_)
  clear hK K
  try simp (maxSteps := 10000000) only [Act.put, List.setIfInBounds_toArray, List.set_cons_zero, List.set_cons_succ, List.getElem_toArray, List.getElem_cons_zero, List.getElem_cons_succ]
  refine wpAnyH_ready (rs := [2]) (by kernel_rfl) (by simp) ?_
  refine AllReadyH.cons rfl (fun K hK => ?_) AllReadyH.nil
  go_simp
  refine (aOf _ _).mono ?_
  rintro e w' ⟨rfl, rfl⟩
  refine hK.out _ _ hS (fun hS => ?_)
  clear hK K
  try simp (maxSteps := 10000000) only [Act.put, List.setIfInBounds_toArray, List.set_cons_zero, List.set_cons_succ, List.getElem_toArray, List.getElem_cons_zero, List.getElem_cons_succ]
  refine wpAnyH_ready (rs := [3]) (by kernel_rfl) (by simp) ?_
  refine AllReadyH.cons rfl (fun K hK => ?_) AllReadyH.nil
  go_simp
  refine (fCkClash 5 A2 4 c2 latePs _ 2 2 [2, 0] _ pl (by omega) hc2 h_l (by omega) 2 (Lib.hid (by decide +kernel))).mono ?_
  rintro e w16 ⟨rfl, hb⟩
  have Bw16 : Below w.heap.size w w16 := Bw15.trans (hb.mono Bw15.size)
  replace pg := pg.next hb (Nat.le_refl _) hb.size
  replace pl := pl.next hb (Nat.le_refl _) hb.size
  replace k1 := k1.below hb k1.lt
  replace k2 := k2.below hb k2.lt
  replace ra := ra.next hb (Nat.le_refl _) hb.size
  replace k3 := k3.below hb k3.lt
  replace k4 := k4.below hb k4.lt
  replace h_l := h_l.next hb (Nat.le_refl _) hb.size
  clear Bw15 hb
  clear h_l
  refine hK.out _ _ ⟨k2.cell 0, k2.cell 1⟩ (fun hS => ?_)
  clear hK K
  try simp (maxSteps := 10000000) only [Act.put, List.setIfInBounds_toArray, List.set_cons_zero, List.set_cons_succ, List.getElem_toArray, List.getElem_cons_zero, List.getElem_cons_succ]
  refine wpAnyH_take (i := 4) (v := ?_) rfl (by kernel_rfl) (by kernel_rfl) (by kernel_rfl) (fun _ _ _ h => h) (Or.inl ⟨by rfl, ?_⟩) hS ?_
  rotate_left
  · intro w hSw
    (try dsimp only at hSw)
    go_simp
    (try with_reducible rfl)
  try simp (maxSteps := 10000000) only [Act.put, List.setIfInBounds_toArray, List.set_cons_zero, List.set_cons_succ, List.getElem_toArray, List.getElem_cons_zero, List.getElem_cons_succ]
  refine wpAnyH_done (by kernel_rfl) (NoPanic.normal ?_) _
  clear hS
  go_wp2_with fail
  have hb : Below w16.heap.size w16 (w16.alloc (.cells #[.int .i64 9, .int .i64 1, .int .i64 4, .int .i64 17] 2)) := (Below.refl _ w16).alloc (Nat.le_refl _) _
  have h_l : Ri (w16.alloc (.cells #[.int .i64 9, .int .i64 1, .int .i64 4, .int .i64 17] 2)) (w16.alloc (.cells #[.int .i64 9, .int .i64 1, .int .i64 4, .int .i64 17] 2)).heap.size (some ⟨w16.heap.size, 0, none⟩) 4 ([9, 1, 4, 17] : List Int) := (Oi.lit w16 #[.int .i64 9, .int .i64 1, .int .i64 4, .int .i64 17] 4 [9, 1, 4, 17] rfl rfl (by omega)).ri
  obtain ⟨w17, hW⟩ : ∃ W, w16.alloc (.cells #[.int .i64 9, .int .i64 1, .int .i64 4, .int .i64 17] 2) = W := ⟨_, rfl⟩
  rw [hW] at hb h_l ⊢
  clear hW
  have Bw17 : Below w.heap.size w w17 := Bw16.trans (hb.mono Bw16.size)
  replace pg := pg.next hb (Nat.le_refl _) hb.size
  replace pl := pl.next hb (Nat.le_refl _) hb.size
  replace k1 := k1.below hb k1.lt
  replace k2 := k2.below hb k2.lt
  replace ra := ra.next hb (Nat.le_refl _) hb.size
  replace k3 := k3.below hb k3.lt
  replace k4 := k4.below hb k4.lt
  clear Bw16 hb
  refine (aLongsOf _ _).mono ?_
  rintro e w' ⟨rfl, rfl⟩
  go_wp2_with fail
  refine (aLongsT _ _ _ _ _ _ _ _ ([9, 1, 4, 17]) ([9, 1, 4, 17]) _ ra h_l (by have h := ra.len; simp [ofN] at h; omega) (by omega) true (Lib.hid (by decide +kernel))).mono ?_
  rintro e w18 ⟨rfl, hb⟩
  have Bw18 : Below w.heap.size w w18 := Bw17.trans (hb.mono Bw17.size)
  replace pg := pg.next hb (Nat.le_refl _) hb.size
  replace pl := pl.next hb (Nat.le_refl _) hb.size
  replace k1 := k1.below hb k1.lt
  replace k2 := k2.below hb k2.lt
  replace ra := ra.next hb (Nat.le_refl _) hb.size
  replace k3 := k3.below hb k3.lt
  replace k4 := k4.below hb k4.lt
  replace h_l := h_l.next hb (Nat.le_refl _) hb.size
  clear Bw17 hb
  clear h_l ra
  have d0 := k3.cell 0
  have d1 := k3.cell 1
  have d2 := k1.cell 0
  have d3 := k1.cell 1
  go_wp2_with fail
  clear d0 d1 d2 d3
  refine (fCheckPier 5 A1 4 c1 goodPs _ pg (by omega)).mono ?_
  rintro e w19 ⟨rfl, hb⟩
  rw [show checkPier 5 goodPs = 0 from by decide +kernel]
  have Bw19 : Below w.heap.size w w19 := Bw18.trans (hb.mono Bw18.size)
  replace pg := pg.next hb (Nat.le_refl _) hb.size
  replace pl := pl.next hb (Nat.le_refl _) hb.size
  replace k1 := k1.below hb k1.lt
  replace k2 := k2.below hb k2.lt
  replace k3 := k3.below hb k3.lt
  replace k4 := k4.below hb k4.lt
  clear Bw18 hb
  go_wp2_with fail
  refine (aWorks _).mono ?_
  rintro e w20 ⟨rfl, hb⟩
  have Bw20 : Below w.heap.size w w20 := Bw19.trans (hb.mono Bw19.size)
  replace pg := pg.next hb (Nat.le_refl _) hb.size
  replace pl := pl.next hb (Nat.le_refl _) hb.size
  replace k1 := k1.below hb k1.lt
  replace k2 := k2.below hb k2.lt
  replace k3 := k3.below hb k3.lt
  replace k4 := k4.below hb k4.lt
  clear Bw19 hb
  go_wp2
  go_ret
  exact ⟨rfl, Bw20⟩

set_option maxRecDepth 100000 in
theorem RoundKnown_lifted (os : Go.Os) (started : os.Started) (H : Type) (enc : TypeId × Value → H) :
    ReturnsInHanded {} Try.checked os 16 .any (Rows.roundKnownSpec.pre6 enc Try.prog Try.f16 Rows.roundKnownRow.domain false) (Rows.roundKnownSpec.post enc Try.prog Try.f16 false true false false) := by
  refine returnsInHanded_of_change (C := Try.checked) row_own started (by kernel_rfl) Try.func16
    (ChangeSpec.witness6 (enc := enc) (C := Try.checked) false ⟨#[], #[], []⟩ 8 (by kernel_rfl) (by kernel_rfl) (by kernel_rfl) (by kernel_rfl)) ?_
  intro W base args ds gs before hval0 hW _ _
  have hW' := hW
  obtain ⟨p, q, hA0, hV, rfl, _, _⟩ := hW
  have hA : DataW.TrodAll enc Try.prog W 0 (fun _ => true) true Try.f16.params.toList args.toList ds p := hA0
  rw [Try.params16] at hA
  obtain ⟨rfl, rfl, rfl⟩ := trodAll_none hA
  obtain ⟨rfl, rfl⟩ := trodVars_none hV
  clear hA0 hval0

  refine (wKnown W).mono fun e W' ⟨he, hb⟩ => ?_
  subst he
  exact ⟨_, rfl, _, _, _, [], (([] : List MemPlace)), [], hW', trodAll_mk1 (shut_bool Try.underlying4 true), trodAll_mk0, rfl, hb.frame _, fun h => by cases h⟩
theorem RoundKnown_holds : Rows.RoundKnownSaid :=
  OpenClaim.holds_of_wide 16 Try.f16 rfl rfl rfl rfl rfl rfl rfl ⟨rfl, rfl, rfl, rfl, rfl⟩ rfl rfl rfl rfl rfl (by kernel_rfl) Try.func16 (by kernel_rfl)
    (of_decide_eq_true (by kernel_rfl)) (by unfold Func.isWrapper; first | (rw [if_pos (by decide +kernel)]; kernel_rfl) | (rw [if_neg (by decide +kernel)]; exact ⟨rfl, rfl⟩))
    (fun os started H enc _ => RoundKnown_lifted os started H enc)
#print axioms RoundKnown_holds
end Go.Proofs.Ytaekjnjignlmoaa
