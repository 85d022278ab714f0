/-
  The reference: 'place' and 'to'. Printed by gen_r20.py.
-/
import Derived.Test.YtaekjnjignlmoaaR1
import Derived.Test.YtaekjnjignlmoaaR2
import Derived.Test.YtaekjnjignlmoaaSt
namespace Go.Proofs.Ytaekjnjignlmoaa
open Go.RowKit Go.Shelf

/-- What a call that returns a number, or that there is none, comes to. -/
def RetOp (w : World) (v : Option Int) (r : Ending) (w' : World) : Prop := r = .returned (.tuple #[.int .i64 (v.getD 0), .bool v.isSome]) ∧ Below w.heap.size w w'
set_option maxRecDepth 100000 in
set_option maxHeartbeats 2000000 in
theorem rPlace0 (b : Int) (A : Option Addr) (n c : Nat) (ps : List (Int × Int)) (w : World) (h_p : Rp w w.heap.size A n ps) (HP : Hid (Pier b ps)) (x y : Nat) (hx : x ≤ lefts b ps) (hy : y ≤ n - lefts b ps) (v : Option Int) (HV : Hid (placeE b ps x y 0 = v)) :
    Calls Try.prog 88 #[.agg #[.int .i64 b, .slice A n c], .int .i64 (x : Int), .int .i64 (y : Int), .int .i64 0] w (RetOp w v) := by
  have HL := Lib.hid h_p.len
  have hn1 : 1 ≤ n := by rw [← HL.out]; exact HP.out.lo
  have hn10 : n ≤ 10 := by rw [← HL.out]; exact HP.out.hi
  have hqn := lefts_le b ps
  rw [HL.out] at hqn
  obtain ⟨q, HQ⟩ : ∃ q, Hid (lefts b ps = q) := ⟨_, Lib.hid rfl⟩
  rw [HQ.out] at hx hy hqn
  have hmix : Try.prog.follows .mixedOrders = true := by kernel_rfl
  have k1 := Bk.new w 24 #[.int .i64 b, .slice A n c]
  have hb : Below w.heap.size w (w.alloc (.cells #[.int .i64 b, .slice A n c] 24)) := (Below.refl _ _).alloc (Nat.le_refl _) _
  have q0 := k1.cell 0
  have q1 := k1.cell 1
  go_enter Try.func88, Try.ntmps88
  go_wp2_with fail
  clear q0 q1
  obtain ⟨u1, hu⟩ : ∃ k, w.heap.size = k := ⟨_, rfl⟩
  obtain ⟨w1, hW⟩ : ∃ W, w.alloc (.cells #[.int .i64 b, .slice A n c] 24) = W := ⟨_, rfl⟩
  rw [hW] at k1 hb ⊢
  rw [hu] at k1 ⊢
  clear hW
  have HU := Lib.hid hu
  clear hu
  have Bw1 : Below w.heap.size w w1 := hb
  replace h_p := h_p.next hb (Nat.le_refl _) hb.size
  clear hb
  refine (rLefts b A n c ps _ h_p HP q HQ).mono ?_
  rintro e w2 ⟨rfl, hb⟩
  have Bw2 : Below w.heap.size w w2 := Bw1.trans (hb.mono Bw1.size)
  replace h_p := h_p.next hb (Nat.le_refl _) hb.size
  replace k1 := k1.below hb k1.lt
  clear Bw1
  clear hb
  by_cases h0 : x + y = 0
  · have hx0 : x = 0 := by omega
    have hy0 : y = 0 := by omega
    have HPL : Hid (v = some b) := Lib.hid (by rw [← HV.out]; unfold placeE; rw [if_pos h0])
    clear h0
    subst hx0 hy0
    have d_k1_0 := k1.cell 0
    have d_k1_1 := k1.cell 1
    go_wp2
    go_ret2
    exact ⟨by rw [HPL.out]; rfl, Bw2⟩
  by_cases h1 : 0 < x
  · obtain ⟨k, HK⟩ : ∃ k : Nat, Hid (stopE b ps x y 0 = k) := ⟨_, Lib.hid rfl⟩
    have hk : k + x = q := by have := HK.out; unfold stopE at this; rw [if_pos rfl, HQ.out] at this; omega
    have hkn : k < n := by omega
    have HPL : Hid (v = some (plc ps k)) := Lib.hid (by
      rw [← HV.out, ← HK.out]
      unfold placeE
      rw [if_neg h0, if_pos (by unfold isE; rw [if_pos rfl]; exact decide_eq_true h1)])
    obtain ⟨ad, rfl, _, c1, _⟩ := h_p.at2 hkn
    have hxb : (((x : Int) == 0) && ((y : Int) == 0)) = false := by first | (simp; omega) | simp
    have hwk : IntKind.i64.wrap ((q : Int) - (x : Int)) = (k : Int) := by rw [IntWalk.i64_in _ (by omega)]; omega
    have h2 : ¬ x = 0 := by omega
    clear hk h0
    by_cases hx0 : x = 0
    · exfalso
      omega
    · have hxc : ((x : Int) == 0) = false := by simp; omega
      have d_k1_0 := k1.cell 0
      have d_k1_1 := k1.cell 1
      go_wp2
      go_ret2
      exact ⟨by rw [HPL.out]; rfl, Bw2⟩
  · have HPL : Hid (v = none) := Lib.hid (by
      rw [← HV.out]
      unfold placeE
      rw [if_neg h0, if_neg (by unfold isE; rw [if_pos rfl]; simp; omega)])
    have hv0 : x = 0 := by omega
    have h3 : ((y : Int) == 0) = false := by simp; omega
    clear h0 h1
    subst hv0
    have d_k1_0 := k1.cell 0
    have d_k1_1 := k1.cell 1
    go_wp2
    go_ret2
    exact ⟨by rw [HPL.out]; rfl, Bw2⟩
set_option maxRecDepth 100000 in
set_option maxHeartbeats 2000000 in
theorem rPlace1 (b : Int) (A : Option Addr) (n c : Nat) (ps : List (Int × Int)) (w : World) (h_p : Rp w w.heap.size A n ps) (HP : Hid (Pier b ps)) (x y : Nat) (hx : x ≤ lefts b ps) (hy : y ≤ n - lefts b ps) (v : Option Int) (HV : Hid (placeE b ps x y 1 = v)) :
    Calls Try.prog 88 #[.agg #[.int .i64 b, .slice A n c], .int .i64 (x : Int), .int .i64 (y : Int), .int .i64 1] w (RetOp w v) := by
  have HL := Lib.hid h_p.len
  have hn1 : 1 ≤ n := by rw [← HL.out]; exact HP.out.lo
  have hn10 : n ≤ 10 := by rw [← HL.out]; exact HP.out.hi
  have hqn := lefts_le b ps
  rw [HL.out] at hqn
  obtain ⟨q, HQ⟩ : ∃ q, Hid (lefts b ps = q) := ⟨_, Lib.hid rfl⟩
  rw [HQ.out] at hx hy hqn
  have hmix : Try.prog.follows .mixedOrders = true := by kernel_rfl
  have k1 := Bk.new w 24 #[.int .i64 b, .slice A n c]
  have hb : Below w.heap.size w (w.alloc (.cells #[.int .i64 b, .slice A n c] 24)) := (Below.refl _ _).alloc (Nat.le_refl _) _
  have q0 := k1.cell 0
  have q1 := k1.cell 1
  go_enter Try.func88, Try.ntmps88
  go_wp2_with fail
  clear q0 q1
  obtain ⟨u1, hu⟩ : ∃ k, w.heap.size = k := ⟨_, rfl⟩
  obtain ⟨w1, hW⟩ : ∃ W, w.alloc (.cells #[.int .i64 b, .slice A n c] 24) = W := ⟨_, rfl⟩
  rw [hW] at k1 hb ⊢
  rw [hu] at k1 ⊢
  clear hW
  have HU := Lib.hid hu
  clear hu
  have Bw1 : Below w.heap.size w w1 := hb
  replace h_p := h_p.next hb (Nat.le_refl _) hb.size
  clear hb
  refine (rLefts b A n c ps _ h_p HP q HQ).mono ?_
  rintro e w2 ⟨rfl, hb⟩
  have Bw2 : Below w.heap.size w w2 := Bw1.trans (hb.mono Bw1.size)
  replace h_p := h_p.next hb (Nat.le_refl _) hb.size
  replace k1 := k1.below hb k1.lt
  clear Bw1
  clear hb
  by_cases h0 : x + y = 0
  · have hx0 : x = 0 := by omega
    have hy0 : y = 0 := by omega
    have HPL : Hid (v = some b) := Lib.hid (by rw [← HV.out]; unfold placeE; rw [if_pos h0])
    clear h0
    subst hx0 hy0
    have d_k1_0 := k1.cell 0
    have d_k1_1 := k1.cell 1
    go_wp2
    go_ret2
    exact ⟨by rw [HPL.out]; rfl, Bw2⟩
  by_cases h1 : 0 < y
  · obtain ⟨k, HK⟩ : ∃ k : Nat, Hid (stopE b ps x y 1 = k) := ⟨_, Lib.hid rfl⟩
    have hk : k + 1 = q + y := by have := HK.out; unfold stopE at this; rw [if_neg (by decide), HQ.out] at this; omega
    have hkn : k < n := by omega
    have HPL : Hid (v = some (plc ps k)) := Lib.hid (by
      rw [← HV.out, ← HK.out]
      unfold placeE
      rw [if_neg h0, if_pos (by unfold isE; rw [if_neg (by decide)]; exact decide_eq_true h1)])
    obtain ⟨ad, rfl, _, c1, _⟩ := h_p.at2 hkn
    have hxb : (((x : Int) == 0) && ((y : Int) == 0)) = false := by first | (simp; omega) | simp
    have hwk : IntKind.i64.wrap ((q : Int) + (y : Int) - 1) = (k : Int) := by rw [IntWalk.i64_in _ (by omega)]; omega
    have h2 : ¬ y = 0 := by omega
    have hwq : IntKind.i64.wrap ((q : Int) + (y : Int)) = (q : Int) + (y : Int) := IntWalk.i64_in _ (by omega)
    clear hk h0
    by_cases hx0 : x = 0
    · subst hx0
      have hyc : ((y : Int) == 0) = false := by simp; omega
      have d_k1_0 := k1.cell 0
      have d_k1_1 := k1.cell 1
      go_wp2
      go_ret2
      exact ⟨by rw [HPL.out]; rfl, Bw2⟩
    · have hxc : ((x : Int) == 0) = false := by simp; omega
      have d_k1_0 := k1.cell 0
      have d_k1_1 := k1.cell 1
      go_wp2
      go_ret2
      exact ⟨by rw [HPL.out]; rfl, Bw2⟩
  · have HPL : Hid (v = none) := Lib.hid (by
      rw [← HV.out]
      unfold placeE
      rw [if_neg h0, if_neg (by unfold isE; rw [if_neg (by decide)]; simp; omega)])
    have hv0 : y = 0 := by omega
    have h3 : ((x : Int) == 0) = false := by simp; omega
    clear h0 h1
    subst hv0
    have d_k1_0 := k1.cell 0
    have d_k1_1 := k1.cell 1
    go_wp2
    go_ret2
    exact ⟨by rw [HPL.out]; rfl, Bw2⟩
theorem rPlace (b : Int) (A : Option Addr) (n c : Nat) (ps : List (Int × Int)) (w : World) (h_p : Rp w w.heap.size A n ps) (HP : Hid (Pier b ps)) (x y : Nat) (hx : x ≤ lefts b ps) (hy : y ≤ n - lefts b ps) (e : Nat) (he : e < 2) (v : Option Int) (HV : Hid (placeE b ps x y e = v)) :
    Calls Try.prog 88 #[.agg #[.int .i64 b, .slice A n c], .int .i64 (x : Int), .int .i64 (y : Int), .int .i64 (e : Int)] w (RetOp w v) := by
  match e, he with
  | 0, _ => exact rPlace0 b A n c ps w h_p HP x y hx hy v HV
  | 1, _ => exact rPlace1 b A n c ps w h_p HP x y hx hy v HV
set_option maxRecDepth 100000 in
set_option maxHeartbeats 2000000 in
theorem rTo0 (b : Int) (A : Option Addr) (n c : Nat) (ps : List (Int × Int)) (w : World) (h_p : Rp w w.heap.size A n ps) (HP : Hid (Pier b ps)) (x y : Nat) (hx : x ≤ lefts b ps) (_hy : y ≤ n - lefts b ps) (hi : isE x y 0 = true) (v : Int) (HV0 : Hid (too ps (stopE b ps x y 0) = v)) :
    Calls Try.prog 117 #[.agg #[.int .i64 b, .slice A n c], .int .i64 (x : Int), .int .i64 (y : Int), .int .i64 0] w (RetI w v) := by
  have HL := Lib.hid h_p.len
  have hn1 : 1 ≤ n := by rw [← HL.out]; exact HP.out.lo
  have hn10 : n ≤ 10 := by rw [← HL.out]; exact HP.out.hi
  have hqn := lefts_le b ps
  rw [HL.out] at hqn
  obtain ⟨q, HQ⟩ : ∃ q, Hid (lefts b ps = q) := ⟨_, Lib.hid rfl⟩
  rw [HQ.out] at hx hqn
  have h1 : 0 < x := by unfold isE at hi; rw [if_pos rfl] at hi; exact of_decide_eq_true hi
  obtain ⟨k, HK⟩ : ∃ k : Nat, Hid (stopE b ps x y 0 = k) := ⟨_, Lib.hid rfl⟩
  have hk : k + x = q := by have := HK.out; unfold stopE at this; rw [if_pos rfl, HQ.out] at this; omega
  have hkn : k < n := by omega
  have HV : Hid (too ps k = v) := Lib.hid (by rw [← HK.out]; exact HV0.out)
  have hmix : Try.prog.follows .mixedOrders = true := by kernel_rfl
  have k1 := Bk.new w 24 #[.int .i64 b, .slice A n c]
  have hb : Below w.heap.size w (w.alloc (.cells #[.int .i64 b, .slice A n c] 24)) := (Below.refl _ _).alloc (Nat.le_refl _) _
  have q0 := k1.cell 0
  have q1 := k1.cell 1
  go_enter Try.func117, Try.ntmps117
  go_wp2_with fail
  clear q0 q1
  obtain ⟨u1, hu⟩ : ∃ k, w.heap.size = k := ⟨_, rfl⟩
  obtain ⟨w1, hW⟩ : ∃ W, w.alloc (.cells #[.int .i64 b, .slice A n c] 24) = W := ⟨_, rfl⟩
  rw [hW] at k1 hb ⊢
  rw [hu] at k1 ⊢
  clear hW
  have HU := Lib.hid hu
  clear hu
  have Bw1 : Below w.heap.size w w1 := hb
  replace h_p := h_p.next hb (Nat.le_refl _) hb.size
  clear hb
  obtain ⟨ad, rfl, _, _, c1⟩ := h_p.at2 hkn
  rw [HV.out] at c1
  have hwk : IntKind.i64.wrap ((q : Int) - (x : Int)) = (k : Int) := by rw [IntWalk.i64_in _ (by omega)]; omega
  clear hk
  have d_k1_0 := k1.cell 0
  have d_k1_1 := k1.cell 1
  go_wp2
  clear d_k1_0 d_k1_1
  have e_k1_0 := k1.drew.cell 0
  have e_k1_1 := k1.drew.cell 1
  have e_c1 : w1.drew.cell? (⟨(ad.add (k * 2)).block, (ad.add (k * 2)).off + 1, none⟩) = some (.int .i64 v) := c1
  refine wp_region_noPanic ?_
  refine wp_region_held_drew (S := fun V => V.cell? ⟨u1, 0, none⟩ = some (.int .i64 b) ∧ V.cell? ⟨u1, 1, none⟩ = some (.slice (some ad) n c) ∧ V.cell? (⟨(ad.add (k * 2)).block, (ad.add (k * 2)).off + 1, none⟩) = some (.int .i64 v)) hmix ⟨e_k1_0, e_k1_1, e_c1⟩ (fun hS => ?_)
  clear e_k1_0 e_k1_1 e_c1
  obtain ⟨w2, hW⟩ : ∃ W, w1.drew = W := ⟨_, rfl⟩
  have hb : Below w1.heap.size w1 w2 := hW ▸ below_drewN (Below.refl _ _) 1
  rw [hW] at hS ⊢
  clear hW
  have Bw2 : Below w.heap.size w w2 := Bw1.trans (hb.mono Bw1.size)
  replace h_p := h_p.next hb (Nat.le_refl _) hb.size
  replace k1 := k1.below hb k1.lt
  replace c1 := (hb.cell (World.block_lt_of_cell? _ _ c1)).trans c1
  clear Bw1
  clear hb
  refine wpAnyH_take (i := 0) (v := ?_) rfl (by kernel_rfl) (by kernel_rfl) (by kernel_rfl) (fun _ _ _ h => h) (Or.inl ⟨by rfl, ?_⟩) hS ?_
  rotate_left
  · intro w hSw
    (try dsimp only at hSw)
    go_simp
    (try with_reducible rfl)
  try simp (maxSteps := 10000000) only [Act.put, List.setIfInBounds_toArray, List.set_cons_zero, List.set_cons_succ, List.getElem_toArray, List.getElem_cons_zero]
  refine wpAnyH_take (i := 1) (v := ?_) rfl (by kernel_rfl) (by kernel_rfl) (by kernel_rfl) (fun _ _ _ h => h) (Or.inl ⟨by rfl, ?_⟩) hS ?_
  rotate_left
  · intro w hSw
    (try dsimp only at hSw)
    go_simp
    (try with_reducible rfl)
  try simp (maxSteps := 10000000) only [Act.put, List.setIfInBounds_toArray, List.set_cons_zero, List.set_cons_succ, List.getElem_toArray, List.getElem_cons_zero, List.getElem_cons_succ]
  refine wpAnyH_take (i := 2) (v := ?_) rfl (by kernel_rfl) (by kernel_rfl) (by kernel_rfl) (fun _ _ _ h => h) (Or.inl ⟨by rfl, ?_⟩) hS ?_
  rotate_left
  · intro w hSw
    (try dsimp only at hSw)
    go_simp
    (try with_reducible rfl)
  try simp (maxSteps := 10000000) only [Act.put, List.setIfInBounds_toArray, List.set_cons_zero, List.set_cons_succ, List.getElem_toArray, List.getElem_cons_zero, List.getElem_cons_succ]
  refine wpAnyH_take (i := 4) (v := ?_) rfl (by kernel_rfl) (by kernel_rfl) (by kernel_rfl) (fun _ _ _ h => h) (Or.inl ⟨by rfl, ?_⟩) hS ?_
  rotate_left
  · intro w hSw
    (try dsimp only at hSw)
    go_simp
    (try with_reducible rfl)
  try simp (maxSteps := 10000000) only [Act.put, List.setIfInBounds_toArray, List.set_cons_zero, List.set_cons_succ, List.getElem_toArray, List.getElem_cons_zero, List.getElem_cons_succ]
  refine wpAnyH_ready (rs := [3]) (by kernel_rfl) (by simp) ?_
  refine AllReadyH.cons rfl (fun K hK => ?_) AllReadyH.nil
  go_simp
  refine (rLefts b (some ad) n c ps _ h_p HP q HQ).mono ?_
  rintro e w3 ⟨rfl, hb⟩
  have Bw3 : Below w.heap.size w w3 := Bw2.trans (hb.mono Bw2.size)
  replace h_p := h_p.next hb (Nat.le_refl _) hb.size
  replace k1 := k1.below hb k1.lt
  replace c1 := (hb.cell (World.block_lt_of_cell? _ _ c1)).trans c1
  clear Bw2
  clear hb
  refine hK.out _ _ ⟨k1.cell 0, k1.cell 1, c1⟩ (fun hS => ?_)
  clear hK K
  try simp (maxSteps := 10000000) only [Act.put, List.setIfInBounds_toArray, List.set_cons_zero, List.set_cons_succ, List.getElem_toArray, List.getElem_cons_zero, List.getElem_cons_succ]
  refine wpAnyH_take (i := 5) (v := ?_) rfl (by kernel_rfl) (by kernel_rfl) (by kernel_rfl) (fun _ _ _ h => h) (Or.inl ⟨by rfl, ?_⟩) hS ?_
  rotate_left
  · intro w hSw
    (try dsimp only at hSw)
    go_simp
    (try with_reducible rfl)
  try simp (maxSteps := 10000000) only [Act.put, List.setIfInBounds_toArray, List.set_cons_zero, List.set_cons_succ, List.getElem_toArray, List.getElem_cons_zero, List.getElem_cons_succ]
  refine wpAnyH_take (i := 6) (v := ?_) rfl (by kernel_rfl) (by kernel_rfl) (by kernel_rfl) (fun _ _ _ h => h) (Or.inl ⟨by rfl, ?_⟩) hS ?_
  rotate_left
  · intro w hSw
    (try dsimp only at hSw)
    go_simp
    (try with_reducible rfl)
  try simp (maxSteps := 10000000) only [Act.put, List.setIfInBounds_toArray, List.set_cons_zero, List.set_cons_succ, List.getElem_toArray, List.getElem_cons_zero, List.getElem_cons_succ]
  refine wpAnyH_take (i := 7) (v := ?_) rfl (by kernel_rfl) (by kernel_rfl) (by kernel_rfl) (fun _ _ _ h => h) (Or.inl ⟨by rfl, ?_⟩) hS ?_
  rotate_left
  · intro w hSw
    (try dsimp only at hSw)
    go_simp
    (try with_reducible rfl)
  try simp (maxSteps := 10000000) only [Act.put, List.setIfInBounds_toArray, List.set_cons_zero, List.set_cons_succ, List.getElem_toArray, List.getElem_cons_zero, List.getElem_cons_succ]
  refine wpAnyH_take (i := 8) (v := ?_) rfl (by kernel_rfl) (by kernel_rfl) (by kernel_rfl) (fun _ _ _ h => h) (Or.inl ⟨by rfl, ?_⟩) hS ?_
  rotate_left
  · intro w hSw
    (try dsimp only at hSw)
    go_simp
    (try with_reducible rfl)
  try simp (maxSteps := 10000000) only [Act.put, List.setIfInBounds_toArray, List.set_cons_zero, List.set_cons_succ, List.getElem_toArray, List.getElem_cons_zero, List.getElem_cons_succ]
  refine wpAnyH_take (i := 9) (v := ?_) rfl (by kernel_rfl) (by kernel_rfl) (by kernel_rfl) (fun _ _ _ h => h) (Or.inl ⟨by rfl, ?_⟩) hS ?_
  rotate_left
  · intro w hSw
    (try dsimp only at hSw)
    go_simp
    (try with_reducible rfl)
  try simp (maxSteps := 10000000) only [Act.put, List.setIfInBounds_toArray, List.set_cons_zero, List.set_cons_succ, List.getElem_toArray, List.getElem_cons_zero, List.getElem_cons_succ]
  refine wpAnyH_done (by kernel_rfl) (NoPanic.normal ?_) _
  clear hS
  go_wp2
  go_ret
  exact ⟨rfl, Bw3⟩
set_option maxRecDepth 100000 in
set_option maxHeartbeats 2000000 in
theorem rTo1 (b : Int) (A : Option Addr) (n c : Nat) (ps : List (Int × Int)) (w : World) (h_p : Rp w w.heap.size A n ps) (HP : Hid (Pier b ps)) (x y : Nat) (_hx : x ≤ lefts b ps) (hy : y ≤ n - lefts b ps) (hi : isE x y 1 = true) (v : Int) (HV0 : Hid (too ps (stopE b ps x y 1) = v)) :
    Calls Try.prog 117 #[.agg #[.int .i64 b, .slice A n c], .int .i64 (x : Int), .int .i64 (y : Int), .int .i64 1] w (RetI w v) := by
  have HL := Lib.hid h_p.len
  have hn1 : 1 ≤ n := by rw [← HL.out]; exact HP.out.lo
  have hn10 : n ≤ 10 := by rw [← HL.out]; exact HP.out.hi
  have hqn := lefts_le b ps
  rw [HL.out] at hqn
  obtain ⟨q, HQ⟩ : ∃ q, Hid (lefts b ps = q) := ⟨_, Lib.hid rfl⟩
  rw [HQ.out] at hy hqn
  have h1 : 0 < y := by unfold isE at hi; rw [if_neg (by decide)] at hi; exact of_decide_eq_true hi
  obtain ⟨k, HK⟩ : ∃ k : Nat, Hid (stopE b ps x y 1 = k) := ⟨_, Lib.hid rfl⟩
  have hk : k + 1 = q + y := by have := HK.out; unfold stopE at this; rw [if_neg (by decide), HQ.out] at this; omega
  have hkn : k < n := by omega
  have HV : Hid (too ps k = v) := Lib.hid (by rw [← HK.out]; exact HV0.out)
  have hmix : Try.prog.follows .mixedOrders = true := by kernel_rfl
  have k1 := Bk.new w 24 #[.int .i64 b, .slice A n c]
  have hb : Below w.heap.size w (w.alloc (.cells #[.int .i64 b, .slice A n c] 24)) := (Below.refl _ _).alloc (Nat.le_refl _) _
  have q0 := k1.cell 0
  have q1 := k1.cell 1
  go_enter Try.func117, Try.ntmps117
  go_wp2_with fail
  clear q0 q1
  obtain ⟨u1, hu⟩ : ∃ k, w.heap.size = k := ⟨_, rfl⟩
  obtain ⟨w1, hW⟩ : ∃ W, w.alloc (.cells #[.int .i64 b, .slice A n c] 24) = W := ⟨_, rfl⟩
  rw [hW] at k1 hb ⊢
  rw [hu] at k1 ⊢
  clear hW
  have HU := Lib.hid hu
  clear hu
  have Bw1 : Below w.heap.size w w1 := hb
  replace h_p := h_p.next hb (Nat.le_refl _) hb.size
  clear hb
  obtain ⟨ad, rfl, _, _, c1⟩ := h_p.at2 hkn
  rw [HV.out] at c1
  have hwk : IntKind.i64.wrap ((q : Int) + (y : Int) - 1) = (k : Int) := by rw [IntWalk.i64_in _ (by omega)]; omega
  have hwq : IntKind.i64.wrap ((q : Int) + (y : Int)) = (q : Int) + (y : Int) := IntWalk.i64_in _ (by omega)
  clear hk
  have d_k1_0 := k1.cell 0
  have d_k1_1 := k1.cell 1
  go_wp2
  clear d_k1_0 d_k1_1
  have e_k1_0 := k1.drew.cell 0
  have e_k1_1 := k1.drew.cell 1
  have e_c1 : w1.drew.cell? (⟨(ad.add (k * 2)).block, (ad.add (k * 2)).off + 1, none⟩) = some (.int .i64 v) := c1
  refine wp_region_noPanic ?_
  refine wp_region_held_drew (S := fun V => V.cell? ⟨u1, 0, none⟩ = some (.int .i64 b) ∧ V.cell? ⟨u1, 1, none⟩ = some (.slice (some ad) n c) ∧ V.cell? (⟨(ad.add (k * 2)).block, (ad.add (k * 2)).off + 1, none⟩) = some (.int .i64 v)) hmix ⟨e_k1_0, e_k1_1, e_c1⟩ (fun hS => ?_)
  clear e_k1_0 e_k1_1 e_c1
  obtain ⟨w2, hW⟩ : ∃ W, w1.drew = W := ⟨_, rfl⟩
  have hb : Below w1.heap.size w1 w2 := hW ▸ below_drewN (Below.refl _ _) 1
  rw [hW] at hS ⊢
  clear hW
  have Bw2 : Below w.heap.size w w2 := Bw1.trans (hb.mono Bw1.size)
  replace h_p := h_p.next hb (Nat.le_refl _) hb.size
  replace k1 := k1.below hb k1.lt
  replace c1 := (hb.cell (World.block_lt_of_cell? _ _ c1)).trans c1
  clear Bw1
  clear hb
  refine wpAnyH_take (i := 0) (v := ?_) rfl (by kernel_rfl) (by kernel_rfl) (by kernel_rfl) (fun _ _ _ h => h) (Or.inl ⟨by rfl, ?_⟩) hS ?_
  rotate_left
  · intro w hSw
    (try dsimp only at hSw)
    go_simp
    (try with_reducible rfl)
  try simp (maxSteps := 10000000) only [Act.put, List.setIfInBounds_toArray, List.set_cons_zero, List.set_cons_succ, List.getElem_toArray, List.getElem_cons_zero]
  refine wpAnyH_take (i := 1) (v := ?_) rfl (by kernel_rfl) (by kernel_rfl) (by kernel_rfl) (fun _ _ _ h => h) (Or.inl ⟨by rfl, ?_⟩) hS ?_
  rotate_left
  · intro w hSw
    (try dsimp only at hSw)
    go_simp
    (try with_reducible rfl)
  try simp (maxSteps := 10000000) only [Act.put, List.setIfInBounds_toArray, List.set_cons_zero, List.set_cons_succ, List.getElem_toArray, List.getElem_cons_zero, List.getElem_cons_succ]
  refine wpAnyH_take (i := 2) (v := ?_) rfl (by kernel_rfl) (by kernel_rfl) (by kernel_rfl) (fun _ _ _ h => h) (Or.inl ⟨by rfl, ?_⟩) hS ?_
  rotate_left
  · intro w hSw
    (try dsimp only at hSw)
    go_simp
    (try with_reducible rfl)
  try simp (maxSteps := 10000000) only [Act.put, List.setIfInBounds_toArray, List.set_cons_zero, List.set_cons_succ, List.getElem_toArray, List.getElem_cons_zero, List.getElem_cons_succ]
  refine wpAnyH_take (i := 4) (v := ?_) rfl (by kernel_rfl) (by kernel_rfl) (by kernel_rfl) (fun _ _ _ h => h) (Or.inl ⟨by rfl, ?_⟩) hS ?_
  rotate_left
  · intro w hSw
    (try dsimp only at hSw)
    go_simp
    (try with_reducible rfl)
  try simp (maxSteps := 10000000) only [Act.put, List.setIfInBounds_toArray, List.set_cons_zero, List.set_cons_succ, List.getElem_toArray, List.getElem_cons_zero, List.getElem_cons_succ]
  refine wpAnyH_ready (rs := [3]) (by kernel_rfl) (by simp) ?_
  refine AllReadyH.cons rfl (fun K hK => ?_) AllReadyH.nil
  go_simp
  refine (rLefts b (some ad) n c ps _ h_p HP q HQ).mono ?_
  rintro e w3 ⟨rfl, hb⟩
  have Bw3 : Below w.heap.size w w3 := Bw2.trans (hb.mono Bw2.size)
  replace h_p := h_p.next hb (Nat.le_refl _) hb.size
  replace k1 := k1.below hb k1.lt
  replace c1 := (hb.cell (World.block_lt_of_cell? _ _ c1)).trans c1
  clear Bw2
  clear hb
  refine hK.out _ _ ⟨k1.cell 0, k1.cell 1, c1⟩ (fun hS => ?_)
  clear hK K
  try simp (maxSteps := 10000000) only [Act.put, List.setIfInBounds_toArray, List.set_cons_zero, List.set_cons_succ, List.getElem_toArray, List.getElem_cons_zero, List.getElem_cons_succ]
  refine wpAnyH_take (i := 5) (v := ?_) rfl (by kernel_rfl) (by kernel_rfl) (by kernel_rfl) (fun _ _ _ h => h) (Or.inl ⟨by rfl, ?_⟩) hS ?_
  rotate_left
  · intro w hSw
    (try dsimp only at hSw)
    go_simp
    (try with_reducible rfl)
  try simp (maxSteps := 10000000) only [Act.put, List.setIfInBounds_toArray, List.set_cons_zero, List.set_cons_succ, List.getElem_toArray, List.getElem_cons_zero, List.getElem_cons_succ]
  refine wpAnyH_take (i := 6) (v := ?_) rfl (by kernel_rfl) (by kernel_rfl) (by kernel_rfl) (fun _ _ _ h => h) (Or.inl ⟨by rfl, ?_⟩) hS ?_
  rotate_left
  · intro w hSw
    (try dsimp only at hSw)
    go_simp
    (try with_reducible rfl)
  try simp (maxSteps := 10000000) only [Act.put, List.setIfInBounds_toArray, List.set_cons_zero, List.set_cons_succ, List.getElem_toArray, List.getElem_cons_zero, List.getElem_cons_succ]
  refine wpAnyH_take (i := 7) (v := ?_) rfl (by kernel_rfl) (by kernel_rfl) (by kernel_rfl) (fun _ _ _ h => h) (Or.inl ⟨by rfl, ?_⟩) hS ?_
  rotate_left
  · intro w hSw
    (try dsimp only at hSw)
    go_simp
    (try with_reducible rfl)
  try simp (maxSteps := 10000000) only [Act.put, List.setIfInBounds_toArray, List.set_cons_zero, List.set_cons_succ, List.getElem_toArray, List.getElem_cons_zero, List.getElem_cons_succ]
  refine wpAnyH_take (i := 8) (v := ?_) rfl (by kernel_rfl) (by kernel_rfl) (by kernel_rfl) (fun _ _ _ h => h) (Or.inl ⟨by rfl, ?_⟩) hS ?_
  rotate_left
  · intro w hSw
    (try dsimp only at hSw)
    go_simp
    (try with_reducible rfl)
  try simp (maxSteps := 10000000) only [Act.put, List.setIfInBounds_toArray, List.set_cons_zero, List.set_cons_succ, List.getElem_toArray, List.getElem_cons_zero, List.getElem_cons_succ]
  refine wpAnyH_take (i := 9) (v := ?_) rfl (by kernel_rfl) (by kernel_rfl) (by kernel_rfl) (fun _ _ _ h => h) (Or.inl ⟨by rfl, ?_⟩) hS ?_
  rotate_left
  · intro w hSw
    (try dsimp only at hSw)
    go_simp
    (try with_reducible rfl)
  try simp (maxSteps := 10000000) only [Act.put, List.setIfInBounds_toArray, List.set_cons_zero, List.set_cons_succ, List.getElem_toArray, List.getElem_cons_zero, List.getElem_cons_succ]
  refine wpAnyH_take (i := 10) (v := ?_) rfl (by kernel_rfl) (by kernel_rfl) (by kernel_rfl) (fun _ _ _ h => h) (Or.inl ⟨by rfl, ?_⟩) hS ?_
  rotate_left
  · intro w hSw
    (try dsimp only at hSw)
    go_simp
    (try with_reducible rfl)
  try simp (maxSteps := 10000000) only [Act.put, List.setIfInBounds_toArray, List.set_cons_zero, List.set_cons_succ, List.getElem_toArray, List.getElem_cons_zero, List.getElem_cons_succ]
  refine wpAnyH_done (by kernel_rfl) (NoPanic.normal ?_) _
  clear hS
  go_wp2
  go_ret
  exact ⟨rfl, Bw3⟩
theorem rTo (b : Int) (A : Option Addr) (n c : Nat) (ps : List (Int × Int)) (w : World) (h_p : Rp w w.heap.size A n ps) (HP : Hid (Pier b ps)) (x y : Nat) (hx : x ≤ lefts b ps) (hy : y ≤ n - lefts b ps) (e : Nat) (he : e < 2) (hi : isE x y e = true) (v : Int) (HV : Hid (too ps (stopE b ps x y e) = v)) :
    Calls Try.prog 117 #[.agg #[.int .i64 b, .slice A n c], .int .i64 (x : Int), .int .i64 (y : Int), .int .i64 (e : Int)] w (RetI w v) := by
  match e, he with
  | 0, _ => exact rTo0 b A n c ps w h_p HP x y hx hy hi v HV
  | 1, _ => exact rTo1 b A n c ps w h_p HP x y hx hy hi v HV
end Go.Proofs.Ytaekjnjignlmoaa
