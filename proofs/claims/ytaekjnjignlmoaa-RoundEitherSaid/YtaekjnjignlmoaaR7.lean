/-
  The reference: 'All', 'Good'. Printed by gen_r7.py.
-/
import Derived.Test.YtaekjnjignlmoaaR6
import Derived.Test.YtaekjnjignlmoaaR4
namespace Go.Proofs.Ytaekjnjignlmoaa
open Go.RowKit Go.Shelf

set_option maxRecDepth 100000 in
set_option maxHeartbeats 4000000 in
theorem rAll (b : Int) (A : Option Addr) (n c : Nat) (ps : List (Int × Int)) (w : World) (h_p : Rp w w.heap.size A n ps) (HP : Hid (Pier b ps)) (N : Nat) (HN : Hid ((allR b ps).length = N)) :
    Calls Try.prog 74 #[.agg #[.int .i64 b, .slice A n c]] w (RetRR w w.heap.size N n (allR b ps)) := by
  have HL := Lib.hid h_p.len
  have hn1 : 1 ≤ n := by rw [← HL.out]; exact HP.out.lo
  have hn10 : n ≤ 10 := by rw [← HL.out]; exact HP.out.hi
  obtain ⟨q, HQ⟩ : ∃ q, Hid (lefts b ps = q) := ⟨_, Lib.hid rfl⟩
  have hqn : q ≤ n := by rw [← HQ.out, ← HL.out]; exact lefts_le b ps
  have hmix : Try.prog.follows .mixedOrders = true := by kernel_rfl
  have k1 := Bk.new w 24 #[.int .i64 b, .slice A n c]
  have hb : Below w.heap.size w (w.alloc (.cells #[.int .i64 b, .slice A n c] 24)) := (Below.refl _ _).alloc (Nat.le_refl _) _
  obtain ⟨u1, hu⟩ : ∃ k, w.heap.size = k := ⟨_, rfl⟩
  go_enter Try.func74, Try.ntmps74
  go_wp2
  obtain ⟨w1, hW⟩ : ∃ W, w.alloc (.cells #[.int .i64 b, .slice A n c] 24) = W := ⟨_, rfl⟩
  rw [hW] at k1 hb ⊢
  rw [hu] at k1 ⊢
  clear hW
  have Bw1 : Below w.heap.size w w1 := hb
  replace h_p := h_p.next hb (Nat.le_refl _) hb.size
  clear hb
  have q0 := k1.drew.cell 0
  have q1 := k1.drew.cell 1
  clear q0 q1
  have e0 := k1.drew.cell 0
  have e1 := k1.drew.cell 1
  refine wp_region_held_drew (S := fun V => V.cell? ⟨u1, 0, none⟩ = some (.int .i64 b) ∧ V.cell? ⟨u1, 1, none⟩ = some (.slice A n c)) hmix ⟨e0, e1⟩ (fun hS => ?_)
  clear e0 e1
  obtain ⟨w2, hW⟩ : ∃ W, w1.drew = W := ⟨_, rfl⟩
  have hb : Below w1.heap.size w1 w2 := hW ▸ below_drewN (Below.refl _ _) 1
  rw [hW] at hS ⊢
  clear hW
  have Bw2 : Below w.heap.size w w2 := Bw1.trans (hb.mono Bw1.size)
  replace h_p := h_p.next hb (Nat.le_refl _) hb.size
  replace k1 := k1.below hb k1.lt
  clear Bw1
  clear hb
  refine wpAnyH_take (i := 0) (v := ?_) rfl (by kernel_rfl) (by kernel_rfl) (by kernel_rfl) (fun _ _ _ h => h) (Or.inl ⟨by rfl, ?_⟩) hS ?_
  rotate_left
  · intro w hSw
    (try dsimp only at hSw)
    go_simp
    (try with_reducible rfl)
  try simp (maxSteps := 10000000) only [Act.put, List.setIfInBounds_toArray, List.set_cons_zero, List.set_cons_succ, List.getElem_toArray, List.getElem_cons_zero]
  refine wpAnyH_take (i := 1) (v := ?_) rfl (by kernel_rfl) (by kernel_rfl) (by kernel_rfl) (fun _ _ _ h => h) (Or.inl ⟨by rfl, ?_⟩) hS ?_
  rotate_left
  · intro w hSw
    (try dsimp only at hSw)
    go_simp
    (try with_reducible rfl)
  try simp (maxSteps := 10000000) only [Act.put, List.setIfInBounds_toArray, List.set_cons_zero, List.set_cons_succ, List.getElem_toArray, List.getElem_cons_zero, List.getElem_cons_succ]
  refine wpAnyH_take (i := 2) (v := ?_) rfl (by kernel_rfl) (by kernel_rfl) (by kernel_rfl) (fun _ _ _ h => h) (Or.inl ⟨by rfl, ?_⟩) hS ?_
  rotate_left
  · intro w hSw
    (try dsimp only at hSw)
    go_simp
    (try with_reducible rfl)
  try simp (maxSteps := 10000000) only [Act.put, List.setIfInBounds_toArray, List.set_cons_zero, List.set_cons_succ, List.getElem_toArray, List.getElem_cons_zero, List.getElem_cons_succ]
  refine wpAnyH_take (i := 3) (v := ?_) rfl (by kernel_rfl) (by kernel_rfl) (by kernel_rfl) (fun _ _ _ h => h) (Or.inl ⟨by rfl, ?_⟩) hS ?_
  rotate_left
  · intro w hSw
    (try dsimp only at hSw)
    go_simp
    (try with_reducible rfl)
  try simp (maxSteps := 10000000) only [Act.put, List.setIfInBounds_toArray, List.set_cons_zero, List.set_cons_succ, List.getElem_toArray, List.getElem_cons_zero, List.getElem_cons_succ]
  refine wpAnyH_take (i := 5) (v := ?_) rfl (by kernel_rfl) (by kernel_rfl) (by kernel_rfl) (fun _ _ _ h => h) (Or.inl ⟨by rfl, ?_⟩) hS ?_
  rotate_left
  · intro w hSw
    (try dsimp only at hSw)
    go_simp
    (try with_reducible rfl)
  try simp (maxSteps := 10000000) only [Act.put, List.setIfInBounds_toArray, List.set_cons_zero, List.set_cons_succ, List.getElem_toArray, List.getElem_cons_zero, List.getElem_cons_succ]
  refine wpAnyH_ready (rs := [4]) (by kernel_rfl) (by simp) ?_
  refine AllReadyH.cons rfl (fun K hK => ?_) AllReadyH.nil
  go_simp
  refine (rLefts b A n c ps _ h_p HP q HQ).mono ?_
  rintro e w3 ⟨rfl, hb⟩
  have Bw3 : Below w.heap.size w w3 := Bw2.trans (hb.mono Bw2.size)
  replace h_p := h_p.next hb (Nat.le_refl _) hb.size
  replace k1 := k1.below hb k1.lt
  clear Bw2
  clear hb
  refine hK.out _ _ ⟨k1.cell 0, k1.cell 1⟩ (fun hS => ?_)
  clear hK K
  try simp (maxSteps := 10000000) only [Act.put, List.setIfInBounds_toArray, List.set_cons_zero, List.set_cons_succ, List.getElem_toArray, List.getElem_cons_zero, List.getElem_cons_succ]
  refine wpAnyH_ready (rs := [6]) (by kernel_rfl) (by simp) ?_
  refine AllReadyH.cons rfl (fun K hK => ?_) AllReadyH.nil
  go_simp
  refine (rLefts b A n c ps _ h_p HP q HQ).mono ?_
  rintro e w4 ⟨rfl, hb⟩
  have Bw4 : Below w.heap.size w w4 := Bw3.trans (hb.mono Bw3.size)
  replace h_p := h_p.next hb (Nat.le_refl _) hb.size
  replace k1 := k1.below hb k1.lt
  clear Bw3
  clear hb
  refine hK.out _ _ ⟨k1.cell 0, k1.cell 1⟩ (fun hS => ?_)
  clear hK K
  try simp (maxSteps := 10000000) only [Act.put, List.setIfInBounds_toArray, List.set_cons_zero, List.set_cons_succ, List.getElem_toArray, List.getElem_cons_zero, List.getElem_cons_succ]
  refine wpAnyH_ready (rs := [7]) (by kernel_rfl) (by simp) ?_
  refine AllReadyH.cons rfl (fun K hK => ?_) AllReadyH.nil
  go_simp
  have HG2 : Hid ((genR n n q q).length = N) := Lib.hid (by rw [← HN.out]; unfold allR; rw [HL.out, HQ.out])
  refine (rGoOn n u1 hn10 n q q 0 [] none 0 w4 (by omega) hqn hqn (by omega) hn1 (Oj.nil_ _ _) (by have := Bw4.size; omega) N HG2).mono ?_
  rintro e w5 ⟨Ao, co, rfl, hro, hb⟩
  have hro2 := hro.base_ (ob' := u1) (by have := Bw4.size; omega)
  have Bw5 : Below w.heap.size w w5 := Bw4.trans (hb.mono Bw4.size)
  have k2 := k1.below hb k1.lt
  refine hK.out _ _ ⟨k2.cell 0, k2.cell 1⟩ (fun hS => ?_)
  clear hK K
  try simp (maxSteps := 10000000) only [Act.put, List.setIfInBounds_toArray, List.set_cons_zero, List.set_cons_succ, List.getElem_toArray, List.getElem_cons_zero, List.getElem_cons_succ]
  refine wpAnyH_take (i := 8) (v := ?_) rfl (by kernel_rfl) (by kernel_rfl) (by kernel_rfl) (fun _ _ _ h => h) (Or.inl ⟨by rfl, ?_⟩) hS ?_
  rotate_left
  · intro w hSw
    (try dsimp only at hSw)
    go_simp
    (try with_reducible rfl)
  try simp (maxSteps := 10000000) only [Act.put, List.setIfInBounds_toArray, List.set_cons_zero, List.set_cons_succ, List.getElem_toArray, List.getElem_cons_zero, List.getElem_cons_succ]
  refine wpAnyH_done (by kernel_rfl) ?_ _
  clear hS
  go_wp2
  go_ret
  refine ⟨Ao, co, rfl, ?_, Bw5⟩
  have HE : Hid ((genR n n q q).map (([] : List Nat) ++ ·) = allR b ps) := Lib.hid (by
    unfold allR
    rw [HL.out, HQ.out]
    exact List.map_id' _)
  rw [HE.out] at hro2
  rw [hu]
  exact hro2
end Go.Proofs.Ytaekjnjignlmoaa
