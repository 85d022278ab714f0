/-
  The reference: 'IsShaped' and 'valueOf'. Printed by gen_r23.py.
-/
import Derived.Test.YtaekjnjignlmoaaR2
import Derived.Test.YtaekjnjignlmoaaTb
namespace Go.Proofs.Ytaekjnjignlmoaa
open Go.RowKit Go.Shelf

set_option maxRecDepth 100000 in
set_option maxHeartbeats 8000000 in
theorem rIsShaped (b : Int) (A : Option Addr) (n c : Nat) (ps : List (Int × Int)) (w : World) (h_p : Rp w w.heap.size A n ps) (HP : Hid (Pier b ps)) (D : Option Addr) (N dc : Nat) (Rs : List (List (Int × Int))) (h_b : Bd w w.heap.size D N Rs) (hN : N ≤ 1000) (_hLs : Hid (∀ L ∈ Rs, L.length ≤ 1048576)) (r : Bool) (HR : Hid ((decide (Rs.length = lefts b ps + 1) && Rs.all (fun L => decide (L.length = ps.length - lefts b ps + 1))) = r)) :
    Calls Try.prog 83 #[.agg #[.int .i64 b, .slice A n c], .slice D N dc] w (RetB w r) := by
  have HL := Lib.hid h_p.len
  have hn1 : 1 ≤ n := by rw [← HL.out]; exact HP.out.lo
  have hn10 : n ≤ 10 := by rw [← HL.out]; exact HP.out.hi
  have hqn := lefts_le b ps
  rw [HL.out] at hqn
  obtain ⟨q, HQ⟩ : ∃ q, Hid (lefts b ps = q) := ⟨_, Lib.hid rfl⟩
  rw [HQ.out] at hqn
  have HB := Lib.hid h_b.len
  have hwq : IntKind.i64.wrap ((q : Int) + 1) = (q : Int) + 1 := IntWalk.i64_in _ (by omega)
  have hmix : Try.prog.follows .mixedOrders = true := by kernel_rfl
  have k1 := Bk.new w 24 #[.int .i64 b, .slice A n c]
  have hb : Below w.heap.size w (w.alloc (.cells #[.int .i64 b, .slice A n c] 24)) := (Below.refl _ _).alloc (Nat.le_refl _) _
  have q0 := k1.cell 0
  have q1 := k1.cell 1
  go_enter Try.func83, Try.ntmps83
  go_wp2_with fail
  clear q0 q1
  obtain ⟨u1, hu⟩ : ∃ k, w.heap.size = k := ⟨_, rfl⟩
  obtain ⟨w1, hW⟩ : ∃ W, w.alloc (.cells #[.int .i64 b, .slice A n c] 24) = W := ⟨_, rfl⟩
  rw [hW] at k1 hb ⊢
  rw [hu] at k1 ⊢
  clear hW
  have HU := Lib.hid hu
  clear hu
  have Bw1 : Below w.heap.size w w1 := hb
  replace h_p := h_p.next hb (Nat.le_refl _) hb.size
  replace h_b := h_b.next hb (Nat.le_refl _) hb.size
  clear hb
  refine (rLefts b A n c ps _ h_p HP q HQ).mono ?_
  rintro e w2 ⟨rfl, hb⟩
  have Bw2 : Below w.heap.size w w2 := Bw1.trans (hb.mono Bw1.size)
  replace h_p := h_p.next hb (Nat.le_refl _) hb.size
  replace h_b := h_b.next hb (Nat.le_refl _) hb.size
  replace k1 := k1.below hb k1.lt
  clear Bw1
  clear hb
  by_cases hNq : N = q + 1
  rotate_left
  · have hne : ((N : Int) != (q : Int) + 1) = true := by simp; omega
    have HRR : Hid (r = false) := Lib.hid (by
      rw [← HR.out, HB.out, HQ.out]
      simp
      intro h
      exact absurd h hNq)
    have hNI : ¬ (N : Int) = (q : Int) + 1 := by omega
    clear hNq
    have d_k1_0 := k1.cell 0
    have d_k1_1 := k1.cell 1
    go_wp2
    go_ret
    exact ⟨(by rw [HRR.out]; try rfl), Bw2⟩
  have heq : ((N : Int) != (q : Int) + 1) = false := by simp; omega
  have heq2 : (N : Int) = (q : Int) + 1 := by omega
  have HNQ := Lib.hid hNq
  have hNq1 : q < N := by omega
  obtain ⟨R, HR0⟩ : ∃ R, Hid (n - q + 1 = R) := ⟨_, Lib.hid rfl⟩
  have hR0 : IntKind.i64.wrap ((n : Int) - (q : Int)) = (n : Int) - (q : Int) := IntWalk.i64_in _ (by omega)
  have hR1 : IntKind.i64.wrap ((n : Int) - (q : Int) + 1) = (R : Int) := by rw [IntWalk.i64_in _ (by omega)]; have := HR0.out; omega
  clear hNq
  have d_k1_0 := k1.cell 0
  have d_k1_1 := k1.cell 1
  go_wp2
  clear d_k1_0 d_k1_1
  clear heq heq2
  go_loopw [6] (fun i wr => ∃ k : Nat, k ≤ N ∧ i = .int .i64 (k : Int) ∧ Hid (∀ x : Nat, x < k → (Rs[x]?.getD []).length = R) ∧ Below w2.heap.size w2 wr) (fun i _ => N - (intOf i).toNat)
  case atStart => exact ⟨0, by omega, rfl, Lib.hid (fun x h => absurd h (Nat.not_lt_zero _)), Below.refl _ _⟩
  case round =>
    obtain ⟨k, hk, rfl, HK, hb⟩ := hrel
    obtain ⟨w3, hW⟩ : ∃ W : World, wr = W := ⟨_, rfl⟩
    rw [hW] at hb ⊢
    clear hW
    have Bl := hb
    have Bw3 : Below w.heap.size w w3 := Bw2.trans (hb.mono Bw2.size)
    replace h_p := h_p.next hb (Nat.le_refl _) hb.size
    replace h_b := h_b.next hb (Nat.le_refl _) hb.size
    replace k1 := k1.below hb k1.lt
    clear Bw2
    clear hb
    by_cases hlt : k < N
    · obtain ⟨ad, A', c', mk, L, rfl, _, r1, HLk, HLm, hmc, _⟩ := h_b.at_ hlt
      have hkq : k ≤ q := by have := HNQ.out; omega
      have HGK : Hid (Rs[k]?.getD [] = L) := Lib.hid (by rw [HLk.out]; rfl)
      have hwk : IntKind.i64.wrap (k : Int) = (k : Int) := IntWalk.i64_in _ (by omega)
      by_cases hm : mk = R
      · have hmb : ((mk : Int) != (R : Int)) = false := by simp; omega
        have hmi : ((mk : Int) = (R : Int)) = True := by simp; omega
        have HM := Lib.hid hm
        clear hm
        have d_k1_0 := k1.cell 0
        have d_k1_1 := k1.cell 1
        go_wp2
        clear d_k1_0 d_k1_1
        skip
        have d_k1_0 := k1.cell 0
        have d_k1_1 := k1.cell 1
        go_wp2
        clear d_k1_0 d_k1_1
        have e_k1_0 := k1.drew.cell 0
        have e_k1_1 := k1.drew.cell 1
        have e_r1 : w3.drew.cell? (ad.add k) = some (.slice A' mk c') := r1
        refine wp_region_held_drew (S := fun V => V.cell? ⟨u1, 0, none⟩ = some (.int .i64 b) ∧ V.cell? ⟨u1, 1, none⟩ = some (.slice A n c) ∧ V.cell? (ad.add k) = some (.slice A' mk c')) hmix ⟨e_k1_0, e_k1_1, e_r1⟩ (fun hS => ?_)
        clear e_k1_0 e_k1_1 e_r1
        obtain ⟨w4, hW⟩ : ∃ W, w3.drew = W := ⟨_, rfl⟩
        have hb : Below w3.heap.size w3 w4 := hW ▸ below_drewN (Below.refl _ _) 1
        rw [hW] at hS ⊢
        clear hW
        have Bw4 : Below w.heap.size w w4 := Bw3.trans (hb.mono Bw3.size)
        replace h_p := h_p.next hb (Nat.le_refl _) hb.size
        replace h_b := h_b.next hb (Nat.le_refl _) hb.size
        replace k1 := k1.below hb k1.lt
        replace Bl := Bl.trans (hb.mono Bl.size)
        replace r1 := (hb.cell (World.block_lt_of_cell? _ _ r1)).trans r1
        clear Bw3
        clear hb
        refine wpAnyH_take (i := 0) (v := ?_) rfl (by kernel_rfl) (by kernel_rfl) (by kernel_rfl) (fun _ _ _ h => h) (Or.inl ⟨by rfl, ?_⟩) hS ?_
        rotate_left
        · intro w hSw
          (try dsimp only at hSw)
          go_simp
          (try with_reducible rfl)
        try simp (maxSteps := 10000000) only [Act.put, List.setIfInBounds_toArray, List.set_cons_zero, List.set_cons_succ, List.getElem_toArray, List.getElem_cons_zero]
        refine wpAnyH_take (i := 1) (v := ?_) rfl (by kernel_rfl) (by kernel_rfl) (by kernel_rfl) (fun _ _ _ h => h) (Or.inl ⟨by rfl, ?_⟩) hS ?_
        rotate_left
        · intro w hSw
          (try dsimp only at hSw)
          go_simp
          (try with_reducible rfl)
        try simp (maxSteps := 10000000) only [Act.put, List.setIfInBounds_toArray, List.set_cons_zero, List.set_cons_succ, List.getElem_toArray, List.getElem_cons_zero, List.getElem_cons_succ]
        refine wpAnyH_take (i := 2) (v := ?_) rfl (by kernel_rfl) (by kernel_rfl) (by kernel_rfl) (fun _ _ _ h => h) (Or.inl ⟨by rfl, ?_⟩) hS ?_
        rotate_left
        · intro w hSw
          (try dsimp only at hSw)
          go_simp
          (try with_reducible rfl)
        try simp (maxSteps := 10000000) only [Act.put, List.setIfInBounds_toArray, List.set_cons_zero, List.set_cons_succ, List.getElem_toArray, List.getElem_cons_zero, List.getElem_cons_succ]
        refine wpAnyH_take (i := 3) (v := ?_) rfl (by kernel_rfl) (by kernel_rfl) (by kernel_rfl) (fun _ _ _ h => h) (Or.inl ⟨by rfl, ?_⟩) hS ?_
        rotate_left
        · intro w hSw
          (try dsimp only at hSw)
          go_simp
          (try with_reducible rfl)
        try simp (maxSteps := 10000000) only [Act.put, List.setIfInBounds_toArray, List.set_cons_zero, List.set_cons_succ, List.getElem_toArray, List.getElem_cons_zero, List.getElem_cons_succ]
        refine wpAnyH_take (i := 4) (v := ?_) rfl (by kernel_rfl) (by kernel_rfl) (by kernel_rfl) (fun _ _ _ h => h) (Or.inl ⟨by rfl, ?_⟩) hS ?_
        rotate_left
        · intro w hSw
          (try dsimp only at hSw)
          go_simp
          (try with_reducible rfl)
        try simp (maxSteps := 10000000) only [Act.put, List.setIfInBounds_toArray, List.set_cons_zero, List.set_cons_succ, List.getElem_toArray, List.getElem_cons_zero, List.getElem_cons_succ]
        refine wpAnyH_take (i := 5) (v := ?_) rfl (by kernel_rfl) (by kernel_rfl) (by kernel_rfl) (fun _ _ _ h => h) (Or.inl ⟨by rfl, ?_⟩) hS ?_
        rotate_left
        · intro w hSw
          (try dsimp only at hSw)
          go_simp
          (try with_reducible rfl)
        try simp (maxSteps := 10000000) only [Act.put, List.setIfInBounds_toArray, List.set_cons_zero, List.set_cons_succ, List.getElem_toArray, List.getElem_cons_zero, List.getElem_cons_succ]
        refine wpAnyH_take (i := 6) (v := ?_) rfl (by kernel_rfl) (by kernel_rfl) (by kernel_rfl) (fun _ _ _ h => h) (Or.inl ⟨by rfl, ?_⟩) hS ?_
        rotate_left
        · intro w hSw
          (try dsimp only at hSw)
          go_simp
          (try with_reducible rfl)
        try simp (maxSteps := 10000000) only [Act.put, List.setIfInBounds_toArray, List.set_cons_zero, List.set_cons_succ, List.getElem_toArray, List.getElem_cons_zero, List.getElem_cons_succ]
        refine wpAnyH_take (i := 7) (v := ?_) rfl (by kernel_rfl) (by kernel_rfl) (by kernel_rfl) (fun _ _ _ h => h) (Or.inl ⟨by rfl, ?_⟩) hS ?_
        rotate_left
        · intro w hSw
          (try dsimp only at hSw)
          go_simp
          (try with_reducible rfl)
        try simp (maxSteps := 10000000) only [Act.put, List.setIfInBounds_toArray, List.set_cons_zero, List.set_cons_succ, List.getElem_toArray, List.getElem_cons_zero, List.getElem_cons_succ]
        refine wpAnyH_take (i := 8) (v := ?_) rfl (by kernel_rfl) (by kernel_rfl) (by kernel_rfl) (fun _ _ _ h => h) (Or.inl ⟨by rfl, ?_⟩) hS ?_
        rotate_left
        · intro w hSw
          (try dsimp only at hSw)
          go_simp
          (try with_reducible rfl)
        try simp (maxSteps := 10000000) only [Act.put, List.setIfInBounds_toArray, List.set_cons_zero, List.set_cons_succ, List.getElem_toArray, List.getElem_cons_zero, List.getElem_cons_succ]
        refine wpAnyH_take (i := 9) (v := ?_) rfl (by kernel_rfl) (by kernel_rfl) (by kernel_rfl) (fun _ _ _ h => h) (Or.inl ⟨by rfl, ?_⟩) hS ?_
        rotate_left
        · intro w hSw
          (try dsimp only at hSw)
          go_simp
          (try with_reducible rfl)
        try simp (maxSteps := 10000000) only [Act.put, List.setIfInBounds_toArray, List.set_cons_zero, List.set_cons_succ, List.getElem_toArray, List.getElem_cons_zero, List.getElem_cons_succ]
        refine wpAnyH_take (i := 10) (v := ?_) rfl (by kernel_rfl) (by kernel_rfl) (by kernel_rfl) (fun _ _ _ h => h) (Or.inl ⟨by rfl, ?_⟩) hS ?_
        rotate_left
        · intro w hSw
          (try dsimp only at hSw)
          go_simp
          (try with_reducible rfl)
        try simp (maxSteps := 10000000) only [Act.put, List.setIfInBounds_toArray, List.set_cons_zero, List.set_cons_succ, List.getElem_toArray, List.getElem_cons_zero, List.getElem_cons_succ]
        refine wpAnyH_take (i := 11) (v := ?_) rfl (by kernel_rfl) (by kernel_rfl) (by kernel_rfl) (fun _ _ _ h => h) (Or.inl ⟨by rfl, ?_⟩) hS ?_
        rotate_left
        · intro w hSw
          (try dsimp only at hSw)
          go_simp
          (try with_reducible rfl)
        try simp (maxSteps := 10000000) only [Act.put, List.setIfInBounds_toArray, List.set_cons_zero, List.set_cons_succ, List.getElem_toArray, List.getElem_cons_zero, List.getElem_cons_succ]
        refine wpAnyH_done (by kernel_rfl) ?_ _
        clear hS
        have HK2 : Hid (∀ x : Nat, x < k + 1 → (Rs[x]?.getD []).length = R) := Lib.hid (fun x h => by
          by_cases he : x = k
          · rw [he, HGK.out, HLm.out]; exact HM.out
          · exact HK.out x (by omega))
        go_wp2
        go_roundw
        case rel => exact ⟨k + 1, by omega, by go_num, HK2, Bl⟩
        case measure => simp [intOf]; omega
      · have hmb : ((mk : Int) != (R : Int)) = true := by simp; omega
        have hmi : ((mk : Int) = (R : Int)) = False := by simp; omega
        have HM := Lib.hid hm
        clear hm
        have d_k1_0 := k1.cell 0
        have d_k1_1 := k1.cell 1
        go_wp2
        clear d_k1_0 d_k1_1
        skip
        have d_k1_0 := k1.cell 0
        have d_k1_1 := k1.cell 1
        go_wp2
        clear d_k1_0 d_k1_1
        have e_k1_0 := k1.drew.cell 0
        have e_k1_1 := k1.drew.cell 1
        have e_r1 : w3.drew.cell? (ad.add k) = some (.slice A' mk c') := r1
        refine wp_region_held_drew (S := fun V => V.cell? ⟨u1, 0, none⟩ = some (.int .i64 b) ∧ V.cell? ⟨u1, 1, none⟩ = some (.slice A n c) ∧ V.cell? (ad.add k) = some (.slice A' mk c')) hmix ⟨e_k1_0, e_k1_1, e_r1⟩ (fun hS => ?_)
        clear e_k1_0 e_k1_1 e_r1
        obtain ⟨w4, hW⟩ : ∃ W, w3.drew = W := ⟨_, rfl⟩
        have hb : Below w3.heap.size w3 w4 := hW ▸ below_drewN (Below.refl _ _) 1
        rw [hW] at hS ⊢
        clear hW
        have Bw4 : Below w.heap.size w w4 := Bw3.trans (hb.mono Bw3.size)
        replace h_p := h_p.next hb (Nat.le_refl _) hb.size
        replace h_b := h_b.next hb (Nat.le_refl _) hb.size
        replace k1 := k1.below hb k1.lt
        replace Bl := Bl.trans (hb.mono Bl.size)
        replace r1 := (hb.cell (World.block_lt_of_cell? _ _ r1)).trans r1
        clear Bw3
        clear hb
        refine wpAnyH_take (i := 0) (v := ?_) rfl (by kernel_rfl) (by kernel_rfl) (by kernel_rfl) (fun _ _ _ h => h) (Or.inl ⟨by rfl, ?_⟩) hS ?_
        rotate_left
        · intro w hSw
          (try dsimp only at hSw)
          go_simp
          (try with_reducible rfl)
        try simp (maxSteps := 10000000) only [Act.put, List.setIfInBounds_toArray, List.set_cons_zero, List.set_cons_succ, List.getElem_toArray, List.getElem_cons_zero]
        refine wpAnyH_take (i := 1) (v := ?_) rfl (by kernel_rfl) (by kernel_rfl) (by kernel_rfl) (fun _ _ _ h => h) (Or.inl ⟨by rfl, ?_⟩) hS ?_
        rotate_left
        · intro w hSw
          (try dsimp only at hSw)
          go_simp
          (try with_reducible rfl)
        try simp (maxSteps := 10000000) only [Act.put, List.setIfInBounds_toArray, List.set_cons_zero, List.set_cons_succ, List.getElem_toArray, List.getElem_cons_zero, List.getElem_cons_succ]
        refine wpAnyH_take (i := 2) (v := ?_) rfl (by kernel_rfl) (by kernel_rfl) (by kernel_rfl) (fun _ _ _ h => h) (Or.inl ⟨by rfl, ?_⟩) hS ?_
        rotate_left
        · intro w hSw
          (try dsimp only at hSw)
          go_simp
          (try with_reducible rfl)
        try simp (maxSteps := 10000000) only [Act.put, List.setIfInBounds_toArray, List.set_cons_zero, List.set_cons_succ, List.getElem_toArray, List.getElem_cons_zero, List.getElem_cons_succ]
        refine wpAnyH_take (i := 3) (v := ?_) rfl (by kernel_rfl) (by kernel_rfl) (by kernel_rfl) (fun _ _ _ h => h) (Or.inl ⟨by rfl, ?_⟩) hS ?_
        rotate_left
        · intro w hSw
          (try dsimp only at hSw)
          go_simp
          (try with_reducible rfl)
        try simp (maxSteps := 10000000) only [Act.put, List.setIfInBounds_toArray, List.set_cons_zero, List.set_cons_succ, List.getElem_toArray, List.getElem_cons_zero, List.getElem_cons_succ]
        refine wpAnyH_take (i := 4) (v := ?_) rfl (by kernel_rfl) (by kernel_rfl) (by kernel_rfl) (fun _ _ _ h => h) (Or.inl ⟨by rfl, ?_⟩) hS ?_
        rotate_left
        · intro w hSw
          (try dsimp only at hSw)
          go_simp
          (try with_reducible rfl)
        try simp (maxSteps := 10000000) only [Act.put, List.setIfInBounds_toArray, List.set_cons_zero, List.set_cons_succ, List.getElem_toArray, List.getElem_cons_zero, List.getElem_cons_succ]
        refine wpAnyH_take (i := 5) (v := ?_) rfl (by kernel_rfl) (by kernel_rfl) (by kernel_rfl) (fun _ _ _ h => h) (Or.inl ⟨by rfl, ?_⟩) hS ?_
        rotate_left
        · intro w hSw
          (try dsimp only at hSw)
          go_simp
          (try with_reducible rfl)
        try simp (maxSteps := 10000000) only [Act.put, List.setIfInBounds_toArray, List.set_cons_zero, List.set_cons_succ, List.getElem_toArray, List.getElem_cons_zero, List.getElem_cons_succ]
        refine wpAnyH_take (i := 6) (v := ?_) rfl (by kernel_rfl) (by kernel_rfl) (by kernel_rfl) (fun _ _ _ h => h) (Or.inl ⟨by rfl, ?_⟩) hS ?_
        rotate_left
        · intro w hSw
          (try dsimp only at hSw)
          go_simp
          (try with_reducible rfl)
        try simp (maxSteps := 10000000) only [Act.put, List.setIfInBounds_toArray, List.set_cons_zero, List.set_cons_succ, List.getElem_toArray, List.getElem_cons_zero, List.getElem_cons_succ]
        refine wpAnyH_take (i := 7) (v := ?_) rfl (by kernel_rfl) (by kernel_rfl) (by kernel_rfl) (fun _ _ _ h => h) (Or.inl ⟨by rfl, ?_⟩) hS ?_
        rotate_left
        · intro w hSw
          (try dsimp only at hSw)
          go_simp
          (try with_reducible rfl)
        try simp (maxSteps := 10000000) only [Act.put, List.setIfInBounds_toArray, List.set_cons_zero, List.set_cons_succ, List.getElem_toArray, List.getElem_cons_zero, List.getElem_cons_succ]
        refine wpAnyH_take (i := 8) (v := ?_) rfl (by kernel_rfl) (by kernel_rfl) (by kernel_rfl) (fun _ _ _ h => h) (Or.inl ⟨by rfl, ?_⟩) hS ?_
        rotate_left
        · intro w hSw
          (try dsimp only at hSw)
          go_simp
          (try with_reducible rfl)
        try simp (maxSteps := 10000000) only [Act.put, List.setIfInBounds_toArray, List.set_cons_zero, List.set_cons_succ, List.getElem_toArray, List.getElem_cons_zero, List.getElem_cons_succ]
        refine wpAnyH_take (i := 9) (v := ?_) rfl (by kernel_rfl) (by kernel_rfl) (by kernel_rfl) (fun _ _ _ h => h) (Or.inl ⟨by rfl, ?_⟩) hS ?_
        rotate_left
        · intro w hSw
          (try dsimp only at hSw)
          go_simp
          (try with_reducible rfl)
        try simp (maxSteps := 10000000) only [Act.put, List.setIfInBounds_toArray, List.set_cons_zero, List.set_cons_succ, List.getElem_toArray, List.getElem_cons_zero, List.getElem_cons_succ]
        refine wpAnyH_take (i := 10) (v := ?_) rfl (by kernel_rfl) (by kernel_rfl) (by kernel_rfl) (fun _ _ _ h => h) (Or.inl ⟨by rfl, ?_⟩) hS ?_
        rotate_left
        · intro w hSw
          (try dsimp only at hSw)
          go_simp
          (try with_reducible rfl)
        try simp (maxSteps := 10000000) only [Act.put, List.setIfInBounds_toArray, List.set_cons_zero, List.set_cons_succ, List.getElem_toArray, List.getElem_cons_zero, List.getElem_cons_succ]
        refine wpAnyH_take (i := 11) (v := ?_) rfl (by kernel_rfl) (by kernel_rfl) (by kernel_rfl) (fun _ _ _ h => h) (Or.inl ⟨by rfl, ?_⟩) hS ?_
        rotate_left
        · intro w hSw
          (try dsimp only at hSw)
          go_simp
          (try with_reducible rfl)
        try simp (maxSteps := 10000000) only [Act.put, List.setIfInBounds_toArray, List.set_cons_zero, List.set_cons_succ, List.getElem_toArray, List.getElem_cons_zero, List.getElem_cons_succ]
        refine wpAnyH_done (by kernel_rfl) ?_ _
        clear hS
        have HRR : Hid (r = false) := Lib.hid (by
          rw [← HR.out]
          simp only [Bool.and_eq_false_iff]
          right
          rw [List.all_eq_false]
          refine ⟨L, List.mem_of_getElem? HLk.out, ?_⟩
          rw [HL.out, HQ.out, HR0.out, HLm.out]
          simpa using HM.out)
        go_wp2
        go_ret
        exact ⟨(by rw [HRR.out]; try rfl), Bw4⟩
    · have HRR : Hid (r = true) := Lib.hid (by
        rw [← HR.out]
        simp only [Bool.and_eq_true]
        refine ⟨decide_eq_true (by rw [HB.out, HQ.out]; exact HNQ.out), List.all_eq_true.2 fun L hL => ?_⟩
        obtain ⟨j, hj, he⟩ := List.getElem_of_mem hL
        have h1 := HK.out j (by rw [HB.out] at hj; omega)
        rw [List.getElem?_eq_getElem hj, Option.getD_some, he] at h1
        rw [HL.out, HQ.out, HR0.out, h1]
        exact decide_eq_true rfl)
      have hkq : q < k := by have := HNQ.out; omega
      have hkq2 : ¬ k ≤ q := by omega
      go_wp2
      go_ret
      exact ⟨(by rw [HRR.out]; try rfl), Bw3⟩
set_option maxRecDepth 100000 in
set_option maxHeartbeats 8000000 in
theorem rValueOf (b : Int) (A : Option Addr) (n c : Nat) (ps : List (Int × Int)) (w : World) (h_p : Rp w w.heap.size A n ps) (HP : Hid (Pier b ps)) (D : Option Addr) (N dc X m : Nat) (num : Nat → Nat → Nat → Int) (h_t : Tb w w.heap.size D N X m num) (_hN : N ≤ 1000) (hm : m ≤ 1000) (HNB : Hid (∀ x y e, -1 ≤ num x y e ∧ num x y e ≤ 9000)) (hX : lefts b ps < X) (hM : n - lefts b ps < m) (v : Int) (HV : Hid (valueE b ps num = v)) :
    Calls Try.prog 85 #[.agg #[.int .i64 b, .slice A n c], .slice D N dc] w (RetI w v) := by
  have HL := Lib.hid h_p.len
  have hn1 : 1 ≤ n := by rw [← HL.out]; exact HP.out.lo
  have hn10 : n ≤ 10 := by rw [← HL.out]; exact HP.out.hi
  have hqn := lefts_le b ps
  rw [HL.out] at hqn
  obtain ⟨q, HQ⟩ : ∃ q, Hid (lefts b ps = q) := ⟨_, Lib.hid rfl⟩
  rw [HQ.out] at hqn
  rw [HQ.out] at hX hM
  have hXN := h_t.1
  obtain ⟨R, HR0⟩ : ∃ R, Hid (n - q = R) := ⟨_, Lib.hid rfl⟩
  have hR0 : IntKind.i64.wrap ((n : Int) - (q : Int)) = (R : Int) := by rw [IntWalk.i64_in _ (by omega)]; have := HR0.out; omega
  have hRm : R < m := by have := HR0.out; omega
  have hqN : q < N := by omega
  have hwq : IntKind.i64.wrap (q : Int) = (q : Int) := IntWalk.i64_in _ (by omega)
  have hwR : IntKind.i64.wrap (R : Int) = (R : Int) := IntWalk.i64_in _ (by omega)
  obtain ⟨z0, HZ0⟩ : ∃ z, Hid (num q R 0 = z) := ⟨_, Lib.hid rfl⟩
  obtain ⟨z1, HZ1⟩ : ∃ z, Hid (num q R 1 = z) := ⟨_, Lib.hid rfl⟩
  have hz0 := (HNB.out q R 0).1
  have hz1 := (HNB.out q R 1).1
  rw [HZ0.out] at hz0
  rw [HZ1.out] at hz1
  have hmix : Try.prog.follows .mixedOrders = true := by kernel_rfl
  have k1 := Bk.new w 24 #[.int .i64 b, .slice A n c]
  have hb : Below w.heap.size w (w.alloc (.cells #[.int .i64 b, .slice A n c] 24)) := (Below.refl _ _).alloc (Nat.le_refl _) _
  have q0 := k1.cell 0
  have q1 := k1.cell 1
  go_enter Try.func85, Try.ntmps85
  go_wp2_with fail
  clear q0 q1
  obtain ⟨u1, hu⟩ : ∃ k, w.heap.size = k := ⟨_, rfl⟩
  obtain ⟨w1, hW⟩ : ∃ W, w.alloc (.cells #[.int .i64 b, .slice A n c] 24) = W := ⟨_, rfl⟩
  rw [hW] at k1 hb ⊢
  rw [hu] at k1 ⊢
  clear hW
  have HU := Lib.hid hu
  clear hu
  have Bw1 : Below w.heap.size w w1 := hb
  replace h_p := h_p.next hb (Nat.le_refl _) hb.size
  replace h_t := h_t.next hb (Nat.le_refl _) hb.size
  clear hb
  refine (rLefts b A n c ps _ h_p HP q HQ).mono ?_
  rintro e w2 ⟨rfl, hb⟩
  have Bw2 : Below w.heap.size w w2 := Bw1.trans (hb.mono Bw1.size)
  replace h_p := h_p.next hb (Nat.le_refl _) hb.size
  replace h_t := h_t.next hb (Nat.le_refl _) hb.size
  replace k1 := k1.below hb k1.lt
  clear Bw1
  clear hb
  obtain ⟨ad, rk, cr, rfl, _, r1, _, _, v0, v1⟩ := h_t.at_ (x := q) (y := R) (by omega) (by omega)
  rw [HZ0.out] at v0
  rw [HZ1.out] at v1
  have d_k1_0 := k1.cell 0
  have d_k1_1 := k1.cell 1
  go_wp2
  clear d_k1_0 d_k1_1
  have e_k1_0 := k1.drew.cell 0
  have e_k1_1 := k1.drew.cell 1
  have e_r1 : w2.drew.cell? (ad.add q) = some (.slice (some rk) m cr) := r1
  have e_v0 : w2.drew.cell? (rk.add (R * 2)) = some (.int .i64 z0) := v0
  have e_v1 : w2.drew.cell? (⟨(rk.add (R * 2)).block, (rk.add (R * 2)).off + 1, none⟩) = some (.int .i64 z1) := v1
  refine wp_region_held_drew (S := fun V => V.cell? ⟨u1, 0, none⟩ = some (.int .i64 b) ∧ V.cell? ⟨u1, 1, none⟩ = some (.slice A n c) ∧ V.cell? (ad.add q) = some (.slice (some rk) m cr) ∧ V.cell? (rk.add (R * 2)) = some (.int .i64 z0) ∧ V.cell? (⟨(rk.add (R * 2)).block, (rk.add (R * 2)).off + 1, none⟩) = some (.int .i64 z1)) hmix ⟨e_k1_0, e_k1_1, e_r1, e_v0, e_v1⟩ (fun hS => ?_)
  clear e_k1_0 e_k1_1 e_r1 e_v0 e_v1
  obtain ⟨w3, hW⟩ : ∃ W, w2.drew = W := ⟨_, rfl⟩
  have hb : Below w2.heap.size w2 w3 := hW ▸ below_drewN (Below.refl _ _) 1
  rw [hW] at hS ⊢
  clear hW
  have Bw3 : Below w.heap.size w w3 := Bw2.trans (hb.mono Bw2.size)
  replace h_p := h_p.next hb (Nat.le_refl _) hb.size
  replace h_t := h_t.next hb (Nat.le_refl _) hb.size
  replace k1 := k1.below hb k1.lt
  replace r1 := (hb.cell (World.block_lt_of_cell? _ _ r1)).trans r1
  replace v0 := (hb.cell (World.block_lt_of_cell? _ _ v0)).trans v0
  replace v1 := (hb.cell (World.block_lt_of_cell? _ _ v1)).trans v1
  clear Bw2
  clear hb
  refine wpAnyH_take (i := 0) (v := ?_) rfl (by kernel_rfl) (by kernel_rfl) (by kernel_rfl) (fun _ _ _ h => h) (Or.inl ⟨by rfl, ?_⟩) hS ?_
  rotate_left
  · intro w hSw
    (try dsimp only at hSw)
    go_simp
    (try with_reducible rfl)
  try simp (maxSteps := 10000000) only [Act.put, List.setIfInBounds_toArray, List.set_cons_zero, List.set_cons_succ, List.getElem_toArray, List.getElem_cons_zero]
  refine wpAnyH_take (i := 1) (v := ?_) rfl (by kernel_rfl) (by kernel_rfl) (by kernel_rfl) (fun _ _ _ h => h) (Or.inl ⟨by rfl, ?_⟩) hS ?_
  rotate_left
  · intro w hSw
    (try dsimp only at hSw)
    go_simp
    (try with_reducible rfl)
  try simp (maxSteps := 10000000) only [Act.put, List.setIfInBounds_toArray, List.set_cons_zero, List.set_cons_succ, List.getElem_toArray, List.getElem_cons_zero, List.getElem_cons_succ]
  refine wpAnyH_take (i := 2) (v := ?_) rfl (by kernel_rfl) (by kernel_rfl) (by kernel_rfl) (fun _ _ _ h => h) (Or.inl ⟨by rfl, ?_⟩) hS ?_
  rotate_left
  · intro w hSw
    (try dsimp only at hSw)
    go_simp
    (try with_reducible rfl)
  try simp (maxSteps := 10000000) only [Act.put, List.setIfInBounds_toArray, List.set_cons_zero, List.set_cons_succ, List.getElem_toArray, List.getElem_cons_zero, List.getElem_cons_succ]
  refine wpAnyH_take (i := 3) (v := ?_) rfl (by kernel_rfl) (by kernel_rfl) (by kernel_rfl) (fun _ _ _ h => h) (Or.inl ⟨by rfl, ?_⟩) hS ?_
  rotate_left
  · intro w hSw
    (try dsimp only at hSw)
    go_simp
    (try with_reducible rfl)
  try simp (maxSteps := 10000000) only [Act.put, List.setIfInBounds_toArray, List.set_cons_zero, List.set_cons_succ, List.getElem_toArray, List.getElem_cons_zero, List.getElem_cons_succ]
  refine wpAnyH_take (i := 4) (v := ?_) rfl (by kernel_rfl) (by kernel_rfl) (by kernel_rfl) (fun _ _ _ h => h) (Or.inl ⟨by rfl, ?_⟩) hS ?_
  rotate_left
  · intro w hSw
    (try dsimp only at hSw)
    go_simp
    (try with_reducible rfl)
  try simp (maxSteps := 10000000) only [Act.put, List.setIfInBounds_toArray, List.set_cons_zero, List.set_cons_succ, List.getElem_toArray, List.getElem_cons_zero, List.getElem_cons_succ]
  refine wpAnyH_take (i := 5) (v := ?_) rfl (by kernel_rfl) (by kernel_rfl) (by kernel_rfl) (fun _ _ _ h => h) (Or.inl ⟨by rfl, ?_⟩) hS ?_
  rotate_left
  · intro w hSw
    (try dsimp only at hSw)
    go_simp
    (try with_reducible rfl)
  try simp (maxSteps := 10000000) only [Act.put, List.setIfInBounds_toArray, List.set_cons_zero, List.set_cons_succ, List.getElem_toArray, List.getElem_cons_zero, List.getElem_cons_succ]
  refine wpAnyH_take (i := 6) (v := ?_) rfl (by kernel_rfl) (by kernel_rfl) (by kernel_rfl) (fun _ _ _ h => h) (Or.inl ⟨by rfl, ?_⟩) hS ?_
  rotate_left
  · intro w hSw
    (try dsimp only at hSw)
    go_simp
    (try with_reducible rfl)
  try simp (maxSteps := 10000000) only [Act.put, List.setIfInBounds_toArray, List.set_cons_zero, List.set_cons_succ, List.getElem_toArray, List.getElem_cons_zero, List.getElem_cons_succ]
  refine wpAnyH_take (i := 7) (v := ?_) rfl (by kernel_rfl) (by kernel_rfl) (by kernel_rfl) (fun _ _ _ h => h) (Or.inl ⟨by rfl, ?_⟩) hS ?_
  rotate_left
  · intro w hSw
    (try dsimp only at hSw)
    go_simp
    (try with_reducible rfl)
  try simp (maxSteps := 10000000) only [Act.put, List.setIfInBounds_toArray, List.set_cons_zero, List.set_cons_succ, List.getElem_toArray, List.getElem_cons_zero, List.getElem_cons_succ]
  refine wpAnyH_take (i := 8) (v := ?_) rfl (by kernel_rfl) (by kernel_rfl) (by kernel_rfl) (fun _ _ _ h => h) (Or.inl ⟨by rfl, ?_⟩) hS ?_
  rotate_left
  · intro w hSw
    (try dsimp only at hSw)
    go_simp
    (try with_reducible rfl)
  try simp (maxSteps := 10000000) only [Act.put, List.setIfInBounds_toArray, List.set_cons_zero, List.set_cons_succ, List.getElem_toArray, List.getElem_cons_zero, List.getElem_cons_succ]
  refine wpAnyH_take (i := 9) (v := ?_) rfl (by kernel_rfl) (by kernel_rfl) (by kernel_rfl) (fun _ _ _ h => h) (Or.inl ⟨by rfl, ?_⟩) hS ?_
  rotate_left
  · intro w hSw
    (try dsimp only at hSw)
    go_simp
    (try with_reducible rfl)
  try simp (maxSteps := 10000000) only [Act.put, List.setIfInBounds_toArray, List.set_cons_zero, List.set_cons_succ, List.getElem_toArray, List.getElem_cons_zero, List.getElem_cons_succ]
  refine wpAnyH_take (i := 10) (v := ?_) rfl (by kernel_rfl) (by kernel_rfl) (by kernel_rfl) (fun _ _ _ h => h) (Or.inl ⟨by rfl, ?_⟩) hS ?_
  rotate_left
  · intro w hSw
    (try dsimp only at hSw)
    go_simp
    (try with_reducible rfl)
  try simp (maxSteps := 10000000) only [Act.put, List.setIfInBounds_toArray, List.set_cons_zero, List.set_cons_succ, List.getElem_toArray, List.getElem_cons_zero, List.getElem_cons_succ]
  refine wpAnyH_ready (rs := [11]) (by kernel_rfl) (by simp) ?_
  refine AllReadyH.cons rfl (fun K hK => ?_) AllReadyH.nil
  go_simp
  have kl := Bk.new w3 76 #[.int .i64 0, .int .i64 0]
  have hb := (Below.refl w3.heap.size w3).alloc (Nat.le_refl _) (.cells #[.int .i64 0, .int .i64 0] 76)
  obtain ⟨ul, hu⟩ : ∃ k, w3.heap.size = k := ⟨_, rfl⟩
  obtain ⟨V2, hW⟩ : ∃ W, w3.alloc (.cells #[.int .i64 0, .int .i64 0] 76) = W := ⟨_, rfl⟩
  rw [hW] at kl hb ⊢
  have hub : w3.heap.size ≤ ul := Nat.le_of_eq hu
  rw [hu] at kl ⊢
  clear hW hu
  have r1b := (hb.cell (World.block_lt_of_cell? _ _ r1)).trans r1
  have v0b := (hb.cell (World.block_lt_of_cell? _ _ v0)).trans v0
  have v1b := (hb.cell (World.block_lt_of_cell? _ _ v1)).trans v1
  refine hK.out _ _ ⟨(k1.below hb k1.lt).cell 0, (k1.below hb k1.lt).cell 1, r1b, v0b, v1b⟩ (fun hS => ?_)
  clear hK K r1b v0b v1b
  try simp (maxSteps := 10000000) only [Act.put, List.setIfInBounds_toArray, List.set_cons_zero, List.set_cons_succ, List.getElem_toArray, List.getElem_cons_zero, List.getElem_cons_succ]
  refine wpAnyH_ready (rs := [12]) (by kernel_rfl) (by simp) ?_
  refine AllReadyH.cons rfl (fun K hK => ?_) AllReadyH.nil
  have c0 := kl.cell 0
  have c1 := kl.cell 1
  have f0 := kl.frozen 0
  have f1 := kl.frozen 1
  go_simp
  clear c0 c1 f0 f1
  have hb3 := (hb.setCell (p := ⟨ul, 0, none⟩) hub (.int .i64 z0)).setCell (p := ⟨ul, 1, none⟩) hub (.int .i64 z1)
  have kl3 := (kl.set_ 0 (.int .i64 z0)).set_ 1 (.int .i64 z1)
  clear hb kl
  have hb := hb3
  clear hb3
  obtain ⟨V3, hW⟩ : ∃ W, (V2.setCell ⟨ul, 0, none⟩ (.int .i64 z0)).setCell ⟨ul, 1, none⟩ (.int .i64 z1) = W := ⟨_, rfl⟩
  rw [hW] at hb kl3 ⊢
  clear hW
  have BV3 : Below w.heap.size w V3 := Bw3.trans (hb.mono Bw3.size)
  replace h_p := h_p.next hb (Nat.le_refl _) hb.size
  replace h_t := h_t.next hb (Nat.le_refl _) hb.size
  replace k1 := k1.below hb k1.lt
  replace r1 := (hb.cell (World.block_lt_of_cell? _ _ r1)).trans r1
  replace v0 := (hb.cell (World.block_lt_of_cell? _ _ v0)).trans v0
  replace v1 := (hb.cell (World.block_lt_of_cell? _ _ v1)).trans v1
  clear Bw3
  clear hb
  refine hK.out _ _ ⟨k1.cell 0, k1.cell 1, r1, v0, v1⟩ (fun hS => ?_)
  clear hK K
  try simp (maxSteps := 10000000) only [Act.put, List.setIfInBounds_toArray, List.set_cons_zero, List.set_cons_succ, List.getElem_toArray, List.getElem_cons_zero, List.getElem_cons_succ]
  refine wpAnyH_done (by kernel_rfl) ?_ _
  clear hS
  clear r1
  clear v0
  clear v1
  have HVE : Hid (v = if z1 < 0 then (if z0 < 0 then z1 else z0) else if z0 < 0 ∨ z1 < z0 then z1 else z0) := Lib.hid (by
    rw [← HV.out]
    unfold valueE
    rw [HQ.out, HL.out, HR0.out, HZ0.out, HZ1.out]
    unfold lessE
    split
    · split <;> omega
    · rfl)
  by_cases h0 : z0 < 0
  · have h02 : decide (z0 < 0) = true := decide_eq_true h0
    have HRR : Hid (v = z1) := Lib.hid (by rw [HVE.out]; split <;> first | (split <;> first | rfl | omega) | rfl)
    clear h0
    have d_k1_0 := k1.cell 0
    have d_k1_1 := k1.cell 1
    have d_kl3_0 := kl3.cell 0
    have d_kl3_1 := kl3.cell 1
    go_wp2
    go_ret
    exact ⟨ret_i HRR.out.symm, BV3⟩
  have h02 : decide (z0 < 0) = false := decide_eq_false h0
  by_cases h1 : 0 ≤ z1
  · have h12 : decide (0 ≤ z1) = true := decide_eq_true h1
    by_cases h2 : z1 < z0
    · have h22 : decide (z1 < z0) = true := decide_eq_true h2
      have HRR : Hid (v = z1) := Lib.hid (by rw [HVE.out]; split <;> first | (split <;> first | rfl | omega) | omega)
      clear h0 h1 h2
      have d_k1_0 := k1.cell 0
      have d_k1_1 := k1.cell 1
      have d_kl3_0 := kl3.cell 0
      have d_kl3_1 := kl3.cell 1
      go_wp2
      go_ret
      exact ⟨ret_i HRR.out.symm, BV3⟩
    · have h22 : decide (z1 < z0) = false := decide_eq_false h2
      have HRR : Hid (v = z0) := Lib.hid (by rw [HVE.out]; split <;> first | (split <;> first | rfl | omega) | omega)
      clear h0 h1 h2
      have d_k1_0 := k1.cell 0
      have d_k1_1 := k1.cell 1
      have d_kl3_0 := kl3.cell 0
      have d_kl3_1 := kl3.cell 1
      go_wp2
      go_ret
      exact ⟨ret_i HRR.out.symm, BV3⟩
  · have h12 : decide (0 ≤ z1) = false := decide_eq_false h1
    have HRR : Hid (v = z0) := Lib.hid (by rw [HVE.out]; split <;> first | (split <;> first | rfl | omega) | omega)
    clear h0 h1
    have d_k1_0 := k1.cell 0
    have d_k1_1 := k1.cell 1
    have d_kl3_0 := kl3.cell 0
    have d_kl3_1 := kl3.cell 1
    go_wp2
    go_ret
    exact ⟨ret_i HRR.out.symm, BV3⟩
end Go.Proofs.Ytaekjnjignlmoaa
