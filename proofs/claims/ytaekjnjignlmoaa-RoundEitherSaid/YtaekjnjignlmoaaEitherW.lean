/-
  RoundEither: either some round is in time, and no given stops clash, or there are stops that clash, of which none can be left out, and no given round is in time; not both: for every pier, every round by numbers and every set of stops by bits; no condition.
-/
import Derived.Test.YtaekjnjignlmoaaWorks
import Derived.Test.YtaekjnjignlmoaaRowP
import Derived.Test.YtaekjnjignlmoaaWl
import Derived.Test.YtaekjnjignlmoaaWk
import Derived.Test.YtaekjnjignlmoaaR15
import Derived.Test.YtaekjnjignlmoaaR16
import Derived.Test.YtaekjnjignlmoaaEth
import Derived.Test.YtaekjnjignlmoaaAp
namespace Go.Proofs.Ytaekjnjignlmoaa
open Go.Shelf Go.ChangeShapes Go.WideShapes Go.ChangeAt Go.RowKit

set_option maxRecDepth 100000 in
set_option maxHeartbeats 32000000 in
theorem wEither (b : Int) (A : Option Addr) (n c : Nat) (ps : List (Int × Int)) (Y : Option Addr) (my cy : Nat) (bs : List Int) (y0 : Int) (hy0 : 0 ≤ y0) (hy1 : y0 ≤ 65535) (w : World) (hx : Rp w w.heap.size A n ps) (hc : n ≤ c) (hy : Ru w w.heap.size Y my bs) :
    Calls Try.prog 9 #[.agg #[.int .i64 b, .slice A n c], .slice Y my cy, .int .u16 y0] w (RetB w true) := by
  obtain ⟨z, rfl⟩ : ∃ z : Nat, y0 = (z : Int) := ⟨y0.toNat, by omega⟩
  have hz : z < 65536 := by omega
  have h_p := hx
  have h_y := hy
  by_cases hf : n ≤ 14 ∧ checkPier b ps = 0
  rotate_left
  · have HF : Hid (decide (n ≤ 14 ∧ checkPier b ps = 0) = false) := Lib.hid (decide_eq_false hf)
    have k1 := Bk.new w 24 #[.int .i64 b, .slice A n c]
    have hb : Below w.heap.size w (w.alloc (.cells #[.int .i64 b, .slice A n c] 24)) := (Below.refl _ _).alloc (Nat.le_refl _) _
    have d0 := k1.cell 0
    have d1 := k1.cell 1
    go_enter Try.func9, Try.ntmps9
    go_wp2_with fail
    clear d0 d1
    obtain ⟨u1, hu⟩ : ∃ k, w.heap.size = k := ⟨_, rfl⟩
    obtain ⟨w1, hW⟩ : ∃ W, w.alloc (.cells #[.int .i64 b, .slice A n c] 24) = W := ⟨_, rfl⟩
    rw [hW] at k1 hb ⊢
    rw [hu] at k1 ⊢
    clear hW hu
    have Bw1 : Below w.heap.size w w1 := hb
    replace h_y := h_y.next hb (Nat.le_refl _) hb.size
    replace h_p := h_p.next hb (Nat.le_refl _) hb.size
    clear hb
    refine (aFine b A n c ps _ h_p _ HF).mono ?_
    rintro e w2 ⟨rfl, hb⟩
    have Bw2 : Below w.heap.size w w2 := Bw1.trans (hb.mono Bw1.size)
    replace h_y := h_y.next hb (Nat.le_refl _) hb.size
    replace h_p := h_p.next hb (Nat.le_refl _) hb.size
    replace k1 := k1.below hb k1.lt
    clear Bw1
    clear hb
    have d_k1_0 := k1.cell 0
    have d_k1_1 := k1.cell 1
    go_wp2_with fail
    clear d_k1_0 d_k1_1
    refine (aWorks _).mono ?_
    rintro e w3 ⟨rfl, hb⟩
    have Bw3 : Below w.heap.size w w3 := Bw2.trans (hb.mono Bw2.size)
    replace h_y := h_y.next hb (Nat.le_refl _) hb.size
    replace h_p := h_p.next hb (Nat.le_refl _) hb.size
    replace k1 := k1.below hb k1.lt
    clear Bw2
    clear hb
    go_wp2
    go_ret
    exact ⟨rfl, Bw3⟩
  have HF : Hid (decide (n ≤ 14 ∧ checkPier b ps = 0) = true) := Lib.hid (decide_eq_true hf)
  have HP : Hid (Pier b ps) := Lib.hid (checkPier_ok.1 hf.2)
  have HL := Lib.hid hx.len
  have hn1 : 1 ≤ n := by rw [← HL.out]; exact HP.out.lo
  have hn10 : n ≤ 10 := by rw [← HL.out]; exact HP.out.hi
  clear hf
  by_cases hm40 : 40 < my
  · have k1 := Bk.new w 24 #[.int .i64 b, .slice A n c]
    have hb : Below w.heap.size w (w.alloc (.cells #[.int .i64 b, .slice A n c] 24)) := (Below.refl _ _).alloc (Nat.le_refl _) _
    have d0 := k1.cell 0
    have d1 := k1.cell 1
    go_enter Try.func9, Try.ntmps9
    go_wp2_with fail
    clear d0 d1
    obtain ⟨u1, hu⟩ : ∃ k, w.heap.size = k := ⟨_, rfl⟩
    obtain ⟨w1, hW⟩ : ∃ W, w.alloc (.cells #[.int .i64 b, .slice A n c] 24) = W := ⟨_, rfl⟩
    rw [hW] at k1 hb ⊢
    rw [hu] at k1 ⊢
    clear hW hu
    have Bw1 : Below w.heap.size w w1 := hb
    replace h_y := h_y.next hb (Nat.le_refl _) hb.size
    replace h_p := h_p.next hb (Nat.le_refl _) hb.size
    clear hb
    refine (aFine b A n c ps _ h_p _ HF).mono ?_
    rintro e w2 ⟨rfl, hb⟩
    have Bw2 : Below w.heap.size w w2 := Bw1.trans (hb.mono Bw1.size)
    replace h_y := h_y.next hb (Nat.le_refl _) hb.size
    replace h_p := h_p.next hb (Nat.le_refl _) hb.size
    replace k1 := k1.below hb k1.lt
    clear Bw1
    clear hb
    have d_k1_0 := k1.cell 0
    have d_k1_1 := k1.cell 1
    go_wp2_with fail
    clear d_k1_0 d_k1_1
    refine (aWorks _).mono ?_
    rintro e w3 ⟨rfl, hb⟩
    have Bw3 : Below w.heap.size w w3 := Bw2.trans (hb.mono Bw2.size)
    replace h_y := h_y.next hb (Nat.le_refl _) hb.size
    replace h_p := h_p.next hb (Nat.le_refl _) hb.size
    replace k1 := k1.below hb k1.lt
    clear Bw2
    clear hb
    go_wp2
    go_ret
    exact ⟨rfl, Bw3⟩
  have hmix : Try.prog.follows .mixedOrders = true := by kernel_rfl
  obtain ⟨NG, HNG⟩ : ∃ N, Hid ((goodR b ps).length = N) := ⟨_, Lib.hid rfl⟩
  have hNGb : NG ≤ 252 := by rw [← HNG.out]; exact good_count b ps HP.out
  have hNG0 : decide ((NG : Int) < 0) = false := decide_eq_false (by omega)
  have hNG1 : decide (252 < (NG : Int)) = false := decide_eq_false (by omega)
  have hwz : IntKind.i64.wrap (z : Int) = (z : Int) := IntWalk.i64_in _ (by omega)
  have HC : Hid (countS b ps = ((NG : Int), 0)) := Lib.hid (by unfold countS; rw [if_pos (checkPier_ok.2 HP.out), HNG.out])
  obtain ⟨LZ, HLZ⟩ : ∃ L, Hid (listedN z n = L) := ⟨_, Lib.hid rfl⟩
  obtain ⟨mz, HMZ⟩ : ∃ m, Hid (LZ.length = m) := ⟨_, Lib.hid rfl⟩
  have hmz : mz ≤ 10 := by
    have h1 := listedN_len z n
    rw [HLZ.out, HMZ.out] at h1
    omega
  by_cases hng : goodR b ps ≠ []
  · have hng1 : 0 < NG := (by
      have h := List.length_pos_iff.2 hng
      rw [HNG.out] at h
      omega)
    have HCL : Hid (clashS b ps = ([], 5)) := Lib.hid (either_some HP.out hng)
    have HQ : Hid (checkClashS b ps (ofN LZ) = 5) := Lib.hid (by
      have h := (either_in HP.out bs z hng).2.2
      rw [HL.out, HLZ.out] at h
      exact h)
    clear hng
    obtain ⟨S, e3, HS0⟩ : ∃ S e, Hid (checkRoundS b ps (ofN (walkedL b ps bs)) = (S, e)) := ⟨_, _, Lib.hid rfl⟩
    have h3 := ckRound_two HP.out bs
    rw [HS0.out] at h3
    dsimp only at h3
    rcases h3 with rfl | rfl
    · have HCK : Hid (checkRoundS b ps (ofN (walkedL b ps bs)) = (S, 0)) := Lib.hid (HS0.out)
      have k1 := Bk.new w 24 #[.int .i64 b, .slice A n c]
      have hb : Below w.heap.size w (w.alloc (.cells #[.int .i64 b, .slice A n c] 24)) := (Below.refl _ _).alloc (Nat.le_refl _) _
      have d0 := k1.cell 0
      have d1 := k1.cell 1
      go_enter Try.func9, Try.ntmps9
      go_wp2_with fail
      clear d0 d1
      obtain ⟨u1, hu⟩ : ∃ k, w.heap.size = k := ⟨_, rfl⟩
      obtain ⟨w1, hW⟩ : ∃ W, w.alloc (.cells #[.int .i64 b, .slice A n c] 24) = W := ⟨_, rfl⟩
      rw [hW] at k1 hb ⊢
      rw [hu] at k1 ⊢
      clear hW hu
      have Bw1 : Below w.heap.size w w1 := hb
      replace h_y := h_y.next hb (Nat.le_refl _) hb.size
      replace h_p := h_p.next hb (Nat.le_refl _) hb.size
      clear hb
      refine (aFine b A n c ps _ h_p _ HF).mono ?_
      rintro e w2 ⟨rfl, hb⟩
      have Bw2 : Below w.heap.size w w2 := Bw1.trans (hb.mono Bw1.size)
      replace h_y := h_y.next hb (Nat.le_refl _) hb.size
      replace h_p := h_p.next hb (Nat.le_refl _) hb.size
      replace k1 := k1.below hb k1.lt
      clear Bw1
      clear hb
      have d_k1_0 := k1.cell 0
      have d_k1_1 := k1.cell 1
      go_wp2_with fail
      clear d_k1_0 d_k1_1
      refine (fCount b A n c ps _ h_p (by omega) hc ((NG : Int), 0) HC).mono ?_
      rintro e w3 ⟨rfl, hb⟩
      have Bw3 : Below w.heap.size w w3 := Bw2.trans (hb.mono Bw2.size)
      replace h_y := h_y.next hb (Nat.le_refl _) hb.size
      replace h_p := h_p.next hb (Nat.le_refl _) hb.size
      replace k1 := k1.below hb k1.lt
      clear Bw2
      clear hb
      have d_k1_0 := k1.cell 0
      have d_k1_1 := k1.cell 1
      go_wp2_with fail
      clear d_k1_0 d_k1_1
      refine (fClash b A n c ps _ h_p (by omega) hc ([], 5) HCL).mono ?_
      rintro e w4 ⟨Aa, na, ca, rfl, ho, hb⟩
      have Bw4 : Below w.heap.size w w4 := Bw3.trans (hb.mono Bw3.size)
      replace h_y := h_y.next hb (Nat.le_refl _) hb.size
      replace h_p := h_p.next hb (Nat.le_refl _) hb.size
      replace k1 := k1.below hb k1.lt
      clear Bw3
      clear hb
      have hca := ho.cap
      have h_l := ho.ri
      clear ho
      dsimp only at h_l ⊢
      obtain rfl : na = 0 := h_l.len.symm
      have d_k1_0 := k1.cell 0
      have d_k1_1 := k1.cell 1
      go_wp2
      clear d_k1_0 d_k1_1
      have e_k1_0 := k1.drew.cell 0
      have e_k1_1 := k1.drew.cell 1
      refine wp_region_noPanic ?_
      refine wp_region_held_drew (S := fun V => V.cell? ⟨u1, 0, none⟩ = some (.int .i64 b) ∧ V.cell? ⟨u1, 1, none⟩ = some (.slice A n c)) hmix ⟨e_k1_0, e_k1_1⟩ (fun hS => ?_)
      clear e_k1_0 e_k1_1
      obtain ⟨w5, hW⟩ : ∃ W, w4.drew = W := ⟨_, rfl⟩
      have hb : Below w4.heap.size w4 w5 := hW ▸ below_drewN (Below.refl _ _) 1
      rw [hW] at hS ⊢
      clear hW
      have Bw5 : Below w.heap.size w w5 := Bw4.trans (hb.mono Bw4.size)
      replace h_y := h_y.next hb (Nat.le_refl _) hb.size
      replace h_p := h_p.next hb (Nat.le_refl _) hb.size
      replace k1 := k1.below hb k1.lt
      replace h_l := h_l.next hb (Nat.le_refl _) hb.size
      clear Bw4
      clear hb
      refine wpAnyH_take (i := 0) (v := ?_) rfl (by kernel_rfl) (by kernel_rfl) (by kernel_rfl) (fun _ _ _ h => h) (Or.inl ⟨by rfl, ?_⟩) hS ?_
      rotate_left
      · intro w hSw
        (try dsimp only at hSw)
        go_simp
        (try with_reducible rfl)
      try simp (maxSteps := 10000000) only [Act.put, List.setIfInBounds_toArray, List.set_cons_zero, List.set_cons_succ, List.getElem_toArray, List.getElem_cons_zero]
      refine wpAnyH_take (i := 1) (v := ?_) rfl (by kernel_rfl) (by kernel_rfl) (by kernel_rfl) (fun _ _ _ h => h) (Or.inl ⟨by rfl, ?_⟩) hS ?_
      rotate_left
      · intro w hSw
        (try dsimp only at hSw)
        go_simp
        (try with_reducible rfl)
      try simp (maxSteps := 10000000) only [Act.put, List.setIfInBounds_toArray, List.set_cons_zero, List.set_cons_succ, List.getElem_toArray, List.getElem_cons_zero, List.getElem_cons_succ]
      refine wpAnyH_take (i := 2) (v := ?_) rfl (by kernel_rfl) (by kernel_rfl) (by kernel_rfl) (fun _ _ _ h => h) (Or.inl ⟨by rfl, ?_⟩) hS ?_
      rotate_left
      · intro w hSw
        (try dsimp only at hSw)
        go_simp
        (try with_reducible rfl)
      try simp (maxSteps := 10000000) only [Act.put, List.setIfInBounds_toArray, List.set_cons_zero, List.set_cons_succ, List.getElem_toArray, List.getElem_cons_zero, List.getElem_cons_succ]
      refine wpAnyH_ready (rs := [3]) (by kernel_rfl) (by simp) ?_
      refine AllReadyH.cons rfl (fun K hK => ?_) AllReadyH.nil
      go_simp
      refine (aWalked b A n c ps Y my cy bs _ h_p HP h_y (by omega)).mono ?_
      rintro e w6 ⟨Aw, cw, rfl, ho, hcw, hb⟩
      have Bw6 : Below w.heap.size w w6 := Bw5.trans (hb.mono Bw5.size)
      replace h_y := h_y.next hb (Nat.le_refl _) hb.size
      replace h_p := h_p.next hb (Nat.le_refl _) hb.size
      replace k1 := k1.below hb k1.lt
      replace h_l := h_l.next hb (Nat.le_refl _) hb.size
      clear Bw5
      clear hb
      have h_w := ho.ri
      clear ho
      refine hK.out _ _ ⟨k1.cell 0, k1.cell 1⟩ (fun hS => ?_)
      clear hK K
      try simp (maxSteps := 10000000) only [Act.put, List.setIfInBounds_toArray, List.set_cons_zero, List.set_cons_succ, List.getElem_toArray, List.getElem_cons_zero, List.getElem_cons_succ]
      refine wpAnyH_ready (rs := [4]) (by kernel_rfl) (by simp) ?_
      refine AllReadyH.cons rfl (fun K hK => ?_) AllReadyH.nil
      go_simp
      refine (fCkRound b A n c ps _ n cw (ofN (walkedL b ps bs)) _ h_p (by omega) hc h_w (by omega) hcw (S, 0) HCK).mono ?_
      rintro e w7 ⟨As, ns, cs, rfl, ho, hb⟩
      have Bw7 : Below w.heap.size w w7 := Bw6.trans (hb.mono Bw6.size)
      replace h_y := h_y.next hb (Nat.le_refl _) hb.size
      replace h_p := h_p.next hb (Nat.le_refl _) hb.size
      replace k1 := k1.below hb k1.lt
      replace h_l := h_l.next hb (Nat.le_refl _) hb.size
      replace h_w := h_w.next hb (Nat.le_refl _) hb.size
      clear Bw6
      clear hb
      refine hK.out _ _ ⟨k1.cell 0, k1.cell 1⟩ (fun hS => ?_)
      clear hK K
      try simp (maxSteps := 10000000) only
      refine wpAnyH_take (i := 5) (v := ?_) rfl (by kernel_rfl) (by kernel_rfl) (by kernel_rfl) (fun _ _ _ h => h) (Or.inl ⟨by rfl, ?_⟩) hS ?_
      rotate_left
      · intro w hSw
        (try dsimp only at hSw)
        go_simp
        (try with_reducible rfl)
      try simp (maxSteps := 10000000) only [Act.put, List.setIfInBounds_toArray, List.set_cons_zero, List.set_cons_succ, List.getElem_toArray, List.getElem_cons_zero, List.getElem_cons_succ]
      refine wpAnyH_take (i := 6) (v := ?_) rfl (by kernel_rfl) (by kernel_rfl) (by kernel_rfl) (fun _ _ _ h => h) (Or.inl ⟨by rfl, ?_⟩) hS ?_
      rotate_left
      · intro w hSw
        (try dsimp only at hSw)
        go_simp
        (try with_reducible rfl)
      try simp (maxSteps := 10000000) only [Act.put, List.setIfInBounds_toArray, List.set_cons_zero, List.set_cons_succ, List.getElem_toArray, List.getElem_cons_zero, List.getElem_cons_succ]
      refine wpAnyH_take (i := 7) (v := ?_) rfl (by kernel_rfl) (by kernel_rfl) (by kernel_rfl) (fun _ _ _ h => h) (Or.inl ⟨by rfl, ?_⟩) hS ?_
      rotate_left
      · intro w hSw
        (try dsimp only at hSw)
        go_simp
        (try with_reducible rfl)
      try simp (maxSteps := 10000000) only [Act.put, List.setIfInBounds_toArray, List.set_cons_zero, List.set_cons_succ, List.getElem_toArray, List.getElem_cons_zero, List.getElem_cons_succ]
      refine wpAnyH_take (i := 8) (v := ?_) rfl (by kernel_rfl) (by kernel_rfl) (by kernel_rfl) (fun _ _ _ h => h) (Or.inl ⟨by rfl, ?_⟩) hS ?_
      rotate_left
      · intro w hSw
        (try dsimp only at hSw)
        go_simp
        (try with_reducible rfl)
      try simp (maxSteps := 10000000) only [Act.put, List.setIfInBounds_toArray, List.set_cons_zero, List.set_cons_succ, List.getElem_toArray, List.getElem_cons_zero, List.getElem_cons_succ]
      refine wpAnyH_take (i := 9) (v := ?_) rfl (by kernel_rfl) (by kernel_rfl) (by kernel_rfl) (fun _ _ _ h => h) (Or.inl ⟨by rfl, ?_⟩) hS ?_
      rotate_left
      · intro w hSw
        (try dsimp only at hSw)
        go_simp
        (try with_reducible rfl)
      try simp (maxSteps := 10000000) only [Act.put, List.setIfInBounds_toArray, List.set_cons_zero, List.set_cons_succ, List.getElem_toArray, List.getElem_cons_zero, List.getElem_cons_succ]
      refine wpAnyH_done (by kernel_rfl) (NoPanic.normal ?_) _
      clear hS
      clear ho
      clear h_w
      have d_k1_0 := k1.cell 0
      have d_k1_1 := k1.cell 1
      go_wp2_with fail
      clear d_k1_0 d_k1_1
      refine (rListed z n _ hz (by omega) LZ HLZ mz HMZ).mono ?_
      rintro e w8 ⟨Az, cz, rfl, ho, hb⟩
      have Bw8 : Below w.heap.size w w8 := Bw7.trans (hb.mono Bw7.size)
      replace h_y := h_y.next hb (Nat.le_refl _) hb.size
      replace h_p := h_p.next hb (Nat.le_refl _) hb.size
      replace k1 := k1.below hb k1.lt
      replace h_l := h_l.next hb (Nat.le_refl _) hb.size
      clear Bw7
      clear hb
      have h_z := ho.ri
      clear ho
      have d_k1_0 := k1.cell 0
      have d_k1_1 := k1.cell 1
      go_wp2_with fail
      clear d_k1_0 d_k1_1
      refine (fCkClash b A n c ps Az mz cz (ofN LZ) _ h_p (by omega) hc h_z (by omega) 5 HQ).mono ?_
      rintro e w9 ⟨rfl, hb⟩
      have Bw9 : Below w.heap.size w w9 := Bw8.trans (hb.mono Bw8.size)
      replace h_y := h_y.next hb (Nat.le_refl _) hb.size
      replace h_p := h_p.next hb (Nat.le_refl _) hb.size
      replace k1 := k1.below hb k1.lt
      replace h_l := h_l.next hb (Nat.le_refl _) hb.size
      replace h_z := h_z.next hb (Nat.le_refl _) hb.size
      clear Bw8
      clear hb
      clear h_z
      have d_k1_0 := k1.cell 0
      have d_k1_1 := k1.cell 1
      go_wp2_with fail
      clear d_k1_0 d_k1_1
      refine (aWorks _).mono ?_
      rintro e w10 ⟨rfl, hb⟩
      have Bw10 : Below w.heap.size w w10 := Bw9.trans (hb.mono Bw9.size)
      replace h_y := h_y.next hb (Nat.le_refl _) hb.size
      replace h_p := h_p.next hb (Nat.le_refl _) hb.size
      replace k1 := k1.below hb k1.lt
      replace h_l := h_l.next hb (Nat.le_refl _) hb.size
      clear Bw9
      clear hb
      go_wp2
      go_ret
      exact ⟨rfl, Bw10⟩
    · have HCK : Hid (checkRoundS b ps (ofN (walkedL b ps bs)) = ([], 12)) := Lib.hid (by
        have h := ckRound_all HP.out (walked_all b ps bs)
        have h' := HS0.out
        unfold ofN at h' ⊢
        rw [h] at h' ⊢
        split at h'
        · simp at h'
        · rename_i hn
          rw [if_neg hn])
      have k1 := Bk.new w 24 #[.int .i64 b, .slice A n c]
      have hb : Below w.heap.size w (w.alloc (.cells #[.int .i64 b, .slice A n c] 24)) := (Below.refl _ _).alloc (Nat.le_refl _) _
      have d0 := k1.cell 0
      have d1 := k1.cell 1
      go_enter Try.func9, Try.ntmps9
      go_wp2_with fail
      clear d0 d1
      obtain ⟨u1, hu⟩ : ∃ k, w.heap.size = k := ⟨_, rfl⟩
      obtain ⟨w1, hW⟩ : ∃ W, w.alloc (.cells #[.int .i64 b, .slice A n c] 24) = W := ⟨_, rfl⟩
      rw [hW] at k1 hb ⊢
      rw [hu] at k1 ⊢
      clear hW hu
      have Bw1 : Below w.heap.size w w1 := hb
      replace h_y := h_y.next hb (Nat.le_refl _) hb.size
      replace h_p := h_p.next hb (Nat.le_refl _) hb.size
      clear hb
      refine (aFine b A n c ps _ h_p _ HF).mono ?_
      rintro e w2 ⟨rfl, hb⟩
      have Bw2 : Below w.heap.size w w2 := Bw1.trans (hb.mono Bw1.size)
      replace h_y := h_y.next hb (Nat.le_refl _) hb.size
      replace h_p := h_p.next hb (Nat.le_refl _) hb.size
      replace k1 := k1.below hb k1.lt
      clear Bw1
      clear hb
      have d_k1_0 := k1.cell 0
      have d_k1_1 := k1.cell 1
      go_wp2_with fail
      clear d_k1_0 d_k1_1
      refine (fCount b A n c ps _ h_p (by omega) hc ((NG : Int), 0) HC).mono ?_
      rintro e w3 ⟨rfl, hb⟩
      have Bw3 : Below w.heap.size w w3 := Bw2.trans (hb.mono Bw2.size)
      replace h_y := h_y.next hb (Nat.le_refl _) hb.size
      replace h_p := h_p.next hb (Nat.le_refl _) hb.size
      replace k1 := k1.below hb k1.lt
      clear Bw2
      clear hb
      have d_k1_0 := k1.cell 0
      have d_k1_1 := k1.cell 1
      go_wp2_with fail
      clear d_k1_0 d_k1_1
      refine (fClash b A n c ps _ h_p (by omega) hc ([], 5) HCL).mono ?_
      rintro e w4 ⟨Aa, na, ca, rfl, ho, hb⟩
      have Bw4 : Below w.heap.size w w4 := Bw3.trans (hb.mono Bw3.size)
      replace h_y := h_y.next hb (Nat.le_refl _) hb.size
      replace h_p := h_p.next hb (Nat.le_refl _) hb.size
      replace k1 := k1.below hb k1.lt
      clear Bw3
      clear hb
      have hca := ho.cap
      have h_l := ho.ri
      clear ho
      dsimp only at h_l ⊢
      obtain rfl : na = 0 := h_l.len.symm
      have d_k1_0 := k1.cell 0
      have d_k1_1 := k1.cell 1
      go_wp2
      clear d_k1_0 d_k1_1
      have e_k1_0 := k1.drew.cell 0
      have e_k1_1 := k1.drew.cell 1
      refine wp_region_noPanic ?_
      refine wp_region_held_drew (S := fun V => V.cell? ⟨u1, 0, none⟩ = some (.int .i64 b) ∧ V.cell? ⟨u1, 1, none⟩ = some (.slice A n c)) hmix ⟨e_k1_0, e_k1_1⟩ (fun hS => ?_)
      clear e_k1_0 e_k1_1
      obtain ⟨w5, hW⟩ : ∃ W, w4.drew = W := ⟨_, rfl⟩
      have hb : Below w4.heap.size w4 w5 := hW ▸ below_drewN (Below.refl _ _) 1
      rw [hW] at hS ⊢
      clear hW
      have Bw5 : Below w.heap.size w w5 := Bw4.trans (hb.mono Bw4.size)
      replace h_y := h_y.next hb (Nat.le_refl _) hb.size
      replace h_p := h_p.next hb (Nat.le_refl _) hb.size
      replace k1 := k1.below hb k1.lt
      replace h_l := h_l.next hb (Nat.le_refl _) hb.size
      clear Bw4
      clear hb
      refine wpAnyH_take (i := 0) (v := ?_) rfl (by kernel_rfl) (by kernel_rfl) (by kernel_rfl) (fun _ _ _ h => h) (Or.inl ⟨by rfl, ?_⟩) hS ?_
      rotate_left
      · intro w hSw
        (try dsimp only at hSw)
        go_simp
        (try with_reducible rfl)
      try simp (maxSteps := 10000000) only [Act.put, List.setIfInBounds_toArray, List.set_cons_zero, List.set_cons_succ, List.getElem_toArray, List.getElem_cons_zero]
      refine wpAnyH_take (i := 1) (v := ?_) rfl (by kernel_rfl) (by kernel_rfl) (by kernel_rfl) (fun _ _ _ h => h) (Or.inl ⟨by rfl, ?_⟩) hS ?_
      rotate_left
      · intro w hSw
        (try dsimp only at hSw)
        go_simp
        (try with_reducible rfl)
      try simp (maxSteps := 10000000) only [Act.put, List.setIfInBounds_toArray, List.set_cons_zero, List.set_cons_succ, List.getElem_toArray, List.getElem_cons_zero, List.getElem_cons_succ]
      refine wpAnyH_take (i := 2) (v := ?_) rfl (by kernel_rfl) (by kernel_rfl) (by kernel_rfl) (fun _ _ _ h => h) (Or.inl ⟨by rfl, ?_⟩) hS ?_
      rotate_left
      · intro w hSw
        (try dsimp only at hSw)
        go_simp
        (try with_reducible rfl)
      try simp (maxSteps := 10000000) only [Act.put, List.setIfInBounds_toArray, List.set_cons_zero, List.set_cons_succ, List.getElem_toArray, List.getElem_cons_zero, List.getElem_cons_succ]
      refine wpAnyH_ready (rs := [3]) (by kernel_rfl) (by simp) ?_
      refine AllReadyH.cons rfl (fun K hK => ?_) AllReadyH.nil
      go_simp
      refine (aWalked b A n c ps Y my cy bs _ h_p HP h_y (by omega)).mono ?_
      rintro e w6 ⟨Aw, cw, rfl, ho, hcw, hb⟩
      have Bw6 : Below w.heap.size w w6 := Bw5.trans (hb.mono Bw5.size)
      replace h_y := h_y.next hb (Nat.le_refl _) hb.size
      replace h_p := h_p.next hb (Nat.le_refl _) hb.size
      replace k1 := k1.below hb k1.lt
      replace h_l := h_l.next hb (Nat.le_refl _) hb.size
      clear Bw5
      clear hb
      have h_w := ho.ri
      clear ho
      refine hK.out _ _ ⟨k1.cell 0, k1.cell 1⟩ (fun hS => ?_)
      clear hK K
      try simp (maxSteps := 10000000) only [Act.put, List.setIfInBounds_toArray, List.set_cons_zero, List.set_cons_succ, List.getElem_toArray, List.getElem_cons_zero, List.getElem_cons_succ]
      refine wpAnyH_ready (rs := [4]) (by kernel_rfl) (by simp) ?_
      refine AllReadyH.cons rfl (fun K hK => ?_) AllReadyH.nil
      go_simp
      refine (fCkRound b A n c ps _ n cw (ofN (walkedL b ps bs)) _ h_p (by omega) hc h_w (by omega) hcw ([], 12) HCK).mono ?_
      rintro e w7 ⟨As, ns, cs, rfl, ho, hb⟩
      have Bw7 : Below w.heap.size w w7 := Bw6.trans (hb.mono Bw6.size)
      replace h_y := h_y.next hb (Nat.le_refl _) hb.size
      replace h_p := h_p.next hb (Nat.le_refl _) hb.size
      replace k1 := k1.below hb k1.lt
      replace h_l := h_l.next hb (Nat.le_refl _) hb.size
      replace h_w := h_w.next hb (Nat.le_refl _) hb.size
      clear Bw6
      clear hb
      refine hK.out _ _ ⟨k1.cell 0, k1.cell 1⟩ (fun hS => ?_)
      clear hK K
      try simp (maxSteps := 10000000) only
      refine wpAnyH_take (i := 5) (v := ?_) rfl (by kernel_rfl) (by kernel_rfl) (by kernel_rfl) (fun _ _ _ h => h) (Or.inl ⟨by rfl, ?_⟩) hS ?_
      rotate_left
      · intro w hSw
        (try dsimp only at hSw)
        go_simp
        (try with_reducible rfl)
      try simp (maxSteps := 10000000) only [Act.put, List.setIfInBounds_toArray, List.set_cons_zero, List.set_cons_succ, List.getElem_toArray, List.getElem_cons_zero, List.getElem_cons_succ]
      refine wpAnyH_take (i := 6) (v := ?_) rfl (by kernel_rfl) (by kernel_rfl) (by kernel_rfl) (fun _ _ _ h => h) (Or.inl ⟨by rfl, ?_⟩) hS ?_
      rotate_left
      · intro w hSw
        (try dsimp only at hSw)
        go_simp
        (try with_reducible rfl)
      try simp (maxSteps := 10000000) only [Act.put, List.setIfInBounds_toArray, List.set_cons_zero, List.set_cons_succ, List.getElem_toArray, List.getElem_cons_zero, List.getElem_cons_succ]
      refine wpAnyH_take (i := 7) (v := ?_) rfl (by kernel_rfl) (by kernel_rfl) (by kernel_rfl) (fun _ _ _ h => h) (Or.inl ⟨by rfl, ?_⟩) hS ?_
      rotate_left
      · intro w hSw
        (try dsimp only at hSw)
        go_simp
        (try with_reducible rfl)
      try simp (maxSteps := 10000000) only [Act.put, List.setIfInBounds_toArray, List.set_cons_zero, List.set_cons_succ, List.getElem_toArray, List.getElem_cons_zero, List.getElem_cons_succ]
      refine wpAnyH_take (i := 8) (v := ?_) rfl (by kernel_rfl) (by kernel_rfl) (by kernel_rfl) (fun _ _ _ h => h) (Or.inl ⟨by rfl, ?_⟩) hS ?_
      rotate_left
      · intro w hSw
        (try dsimp only at hSw)
        go_simp
        (try with_reducible rfl)
      try simp (maxSteps := 10000000) only [Act.put, List.setIfInBounds_toArray, List.set_cons_zero, List.set_cons_succ, List.getElem_toArray, List.getElem_cons_zero, List.getElem_cons_succ]
      refine wpAnyH_take (i := 9) (v := ?_) rfl (by kernel_rfl) (by kernel_rfl) (by kernel_rfl) (fun _ _ _ h => h) (Or.inl ⟨by rfl, ?_⟩) hS ?_
      rotate_left
      · intro w hSw
        (try dsimp only at hSw)
        go_simp
        (try with_reducible rfl)
      try simp (maxSteps := 10000000) only [Act.put, List.setIfInBounds_toArray, List.set_cons_zero, List.set_cons_succ, List.getElem_toArray, List.getElem_cons_zero, List.getElem_cons_succ]
      refine wpAnyH_done (by kernel_rfl) (NoPanic.normal ?_) _
      clear hS
      clear ho
      clear h_w
      have d_k1_0 := k1.cell 0
      have d_k1_1 := k1.cell 1
      go_wp2_with fail
      clear d_k1_0 d_k1_1
      refine (rListed z n _ hz (by omega) LZ HLZ mz HMZ).mono ?_
      rintro e w8 ⟨Az, cz, rfl, ho, hb⟩
      have Bw8 : Below w.heap.size w w8 := Bw7.trans (hb.mono Bw7.size)
      replace h_y := h_y.next hb (Nat.le_refl _) hb.size
      replace h_p := h_p.next hb (Nat.le_refl _) hb.size
      replace k1 := k1.below hb k1.lt
      replace h_l := h_l.next hb (Nat.le_refl _) hb.size
      clear Bw7
      clear hb
      have h_z := ho.ri
      clear ho
      have d_k1_0 := k1.cell 0
      have d_k1_1 := k1.cell 1
      go_wp2_with fail
      clear d_k1_0 d_k1_1
      refine (fCkClash b A n c ps Az mz cz (ofN LZ) _ h_p (by omega) hc h_z (by omega) 5 HQ).mono ?_
      rintro e w9 ⟨rfl, hb⟩
      have Bw9 : Below w.heap.size w w9 := Bw8.trans (hb.mono Bw8.size)
      replace h_y := h_y.next hb (Nat.le_refl _) hb.size
      replace h_p := h_p.next hb (Nat.le_refl _) hb.size
      replace k1 := k1.below hb k1.lt
      replace h_l := h_l.next hb (Nat.le_refl _) hb.size
      replace h_z := h_z.next hb (Nat.le_refl _) hb.size
      clear Bw8
      clear hb
      clear h_z
      have d_k1_0 := k1.cell 0
      have d_k1_1 := k1.cell 1
      go_wp2_with fail
      clear d_k1_0 d_k1_1
      refine (aWorks _).mono ?_
      rintro e w10 ⟨rfl, hb⟩
      have Bw10 : Below w.heap.size w w10 := Bw9.trans (hb.mono Bw9.size)
      replace h_y := h_y.next hb (Nat.le_refl _) hb.size
      replace h_p := h_p.next hb (Nat.le_refl _) hb.size
      replace k1 := k1.below hb k1.lt
      replace h_l := h_l.next hb (Nat.le_refl _) hb.size
      clear Bw9
      clear hb
      go_wp2
      go_ret
      exact ⟨rfl, Bw10⟩
  · have hng0 : goodR b ps = [] := Decidable.not_not.1 hng
    clear hng
    have hng1 : ¬ 0 < NG := (by
      have h := HNG.out
      rw [hng0] at h
      simp at h
      omega)
    obtain ⟨L, g1, g2, g3, g4, g5, g6, g7⟩ := either_out HP.out bs z hng0
    rw [HL.out] at g3 g6
    rw [HLZ.out] at g6
    have HCL : Hid (clashS b ps = (L, 0)) := Lib.hid g1
    obtain ⟨LL, HLL⟩ : ∃ LL, Hid (ofN L = LL) := ⟨_, Lib.hid rfl⟩
    obtain ⟨m, HLM2⟩ : ∃ m, Hid (L.length = m) := ⟨_, Lib.hid rfl⟩
    have HLM : Hid (LL.length = m) := Lib.hid (by rw [← HLL.out, ofN_length]; exact HLM2.out)
    have hm10 : m ≤ 10 := by have := HLM2.out; omega
    have hm1 : 0 < m := by have := HLM2.out; omega
    have HCK : Hid (checkRoundS b ps (ofN (walkedL b ps bs)) = ([], 12)) := Lib.hid g4
    have HCL0 : Hid (checkClashS b ps LL = 0) := Lib.hid (by rw [← HLL.out]; exact g5)
    have HCC : Hid (∀ i : Nat, i < L.length → checkClashS b ps (ofN (L.take i ++ L.drop (i + 1))) = 5) := Lib.hid g7
    have HQ2 : Hid (checkClashS b ps (ofN LZ) = 0 → m ≤ mz) := Lib.hid (by rw [← HLM2.out, ← HMZ.out]; exact g6)
    have h5 := checkClash_two HP.out z
    rw [HL.out, HLZ.out] at h5
    clear g1 g2 g3 g4 g5 g6 g7 hng0
    rcases h5 with h5 | h5
    · have HQ : Hid (checkClashS b ps (ofN LZ) = 0) := Lib.hid h5
      have hmm : ¬ mz < m := (by have := HQ2.out h5; omega)
      clear h5
      have k1 := Bk.new w 24 #[.int .i64 b, .slice A n c]
      have hb : Below w.heap.size w (w.alloc (.cells #[.int .i64 b, .slice A n c] 24)) := (Below.refl _ _).alloc (Nat.le_refl _) _
      have d0 := k1.cell 0
      have d1 := k1.cell 1
      go_enter Try.func9, Try.ntmps9
      go_wp2_with fail
      clear d0 d1
      obtain ⟨u1, hu⟩ : ∃ k, w.heap.size = k := ⟨_, rfl⟩
      obtain ⟨w1, hW⟩ : ∃ W, w.alloc (.cells #[.int .i64 b, .slice A n c] 24) = W := ⟨_, rfl⟩
      rw [hW] at k1 hb ⊢
      rw [hu] at k1 ⊢
      clear hW hu
      have Bw1 : Below w.heap.size w w1 := hb
      replace h_y := h_y.next hb (Nat.le_refl _) hb.size
      replace h_p := h_p.next hb (Nat.le_refl _) hb.size
      clear hb
      refine (aFine b A n c ps _ h_p _ HF).mono ?_
      rintro e w2 ⟨rfl, hb⟩
      have Bw2 : Below w.heap.size w w2 := Bw1.trans (hb.mono Bw1.size)
      replace h_y := h_y.next hb (Nat.le_refl _) hb.size
      replace h_p := h_p.next hb (Nat.le_refl _) hb.size
      replace k1 := k1.below hb k1.lt
      clear Bw1
      clear hb
      have d_k1_0 := k1.cell 0
      have d_k1_1 := k1.cell 1
      go_wp2_with fail
      clear d_k1_0 d_k1_1
      refine (fCount b A n c ps _ h_p (by omega) hc ((NG : Int), 0) HC).mono ?_
      rintro e w3 ⟨rfl, hb⟩
      have Bw3 : Below w.heap.size w w3 := Bw2.trans (hb.mono Bw2.size)
      replace h_y := h_y.next hb (Nat.le_refl _) hb.size
      replace h_p := h_p.next hb (Nat.le_refl _) hb.size
      replace k1 := k1.below hb k1.lt
      clear Bw2
      clear hb
      have d_k1_0 := k1.cell 0
      have d_k1_1 := k1.cell 1
      go_wp2_with fail
      clear d_k1_0 d_k1_1
      refine (fClash b A n c ps _ h_p (by omega) hc (L, 0) HCL).mono ?_
      rintro e w4 ⟨Aa, na, ca, rfl, ho, hb⟩
      have Bw4 : Below w.heap.size w w4 := Bw3.trans (hb.mono Bw3.size)
      replace h_y := h_y.next hb (Nat.le_refl _) hb.size
      replace h_p := h_p.next hb (Nat.le_refl _) hb.size
      replace k1 := k1.below hb k1.lt
      clear Bw3
      clear hb
      have hca := ho.cap
      have h_l := ho.ri
      clear ho
      dsimp only at h_l ⊢
      rw [HLL.out] at h_l
      obtain rfl : na = m := h_l.len.symm.trans HLM.out
      have d_k1_0 := k1.cell 0
      have d_k1_1 := k1.cell 1
      go_wp2
      clear d_k1_0 d_k1_1
      have e_k1_0 := k1.drew.cell 0
      have e_k1_1 := k1.drew.cell 1
      refine wp_region_noPanic ?_
      refine wp_region_held_drew (S := fun V => V.cell? ⟨u1, 0, none⟩ = some (.int .i64 b) ∧ V.cell? ⟨u1, 1, none⟩ = some (.slice A n c)) hmix ⟨e_k1_0, e_k1_1⟩ (fun hS => ?_)
      clear e_k1_0 e_k1_1
      obtain ⟨w5, hW⟩ : ∃ W, w4.drew = W := ⟨_, rfl⟩
      have hb : Below w4.heap.size w4 w5 := hW ▸ below_drewN (Below.refl _ _) 1
      rw [hW] at hS ⊢
      clear hW
      have Bw5 : Below w.heap.size w w5 := Bw4.trans (hb.mono Bw4.size)
      replace h_y := h_y.next hb (Nat.le_refl _) hb.size
      replace h_p := h_p.next hb (Nat.le_refl _) hb.size
      replace k1 := k1.below hb k1.lt
      replace h_l := h_l.next hb (Nat.le_refl _) hb.size
      clear Bw4
      clear hb
      refine wpAnyH_take (i := 0) (v := ?_) rfl (by kernel_rfl) (by kernel_rfl) (by kernel_rfl) (fun _ _ _ h => h) (Or.inl ⟨by rfl, ?_⟩) hS ?_
      rotate_left
      · intro w hSw
        (try dsimp only at hSw)
        go_simp
        (try with_reducible rfl)
      try simp (maxSteps := 10000000) only [Act.put, List.setIfInBounds_toArray, List.set_cons_zero, List.set_cons_succ, List.getElem_toArray, List.getElem_cons_zero]
      refine wpAnyH_take (i := 1) (v := ?_) rfl (by kernel_rfl) (by kernel_rfl) (by kernel_rfl) (fun _ _ _ h => h) (Or.inl ⟨by rfl, ?_⟩) hS ?_
      rotate_left
      · intro w hSw
        (try dsimp only at hSw)
        go_simp
        (try with_reducible rfl)
      try simp (maxSteps := 10000000) only [Act.put, List.setIfInBounds_toArray, List.set_cons_zero, List.set_cons_succ, List.getElem_toArray, List.getElem_cons_zero, List.getElem_cons_succ]
      refine wpAnyH_take (i := 2) (v := ?_) rfl (by kernel_rfl) (by kernel_rfl) (by kernel_rfl) (fun _ _ _ h => h) (Or.inl ⟨by rfl, ?_⟩) hS ?_
      rotate_left
      · intro w hSw
        (try dsimp only at hSw)
        go_simp
        (try with_reducible rfl)
      try simp (maxSteps := 10000000) only [Act.put, List.setIfInBounds_toArray, List.set_cons_zero, List.set_cons_succ, List.getElem_toArray, List.getElem_cons_zero, List.getElem_cons_succ]
      refine wpAnyH_ready (rs := [3]) (by kernel_rfl) (by simp) ?_
      refine AllReadyH.cons rfl (fun K hK => ?_) AllReadyH.nil
      go_simp
      refine (aWalked b A n c ps Y my cy bs _ h_p HP h_y (by omega)).mono ?_
      rintro e w6 ⟨Aw, cw, rfl, ho, hcw, hb⟩
      have Bw6 : Below w.heap.size w w6 := Bw5.trans (hb.mono Bw5.size)
      replace h_y := h_y.next hb (Nat.le_refl _) hb.size
      replace h_p := h_p.next hb (Nat.le_refl _) hb.size
      replace k1 := k1.below hb k1.lt
      replace h_l := h_l.next hb (Nat.le_refl _) hb.size
      clear Bw5
      clear hb
      have h_w := ho.ri
      clear ho
      refine hK.out _ _ ⟨k1.cell 0, k1.cell 1⟩ (fun hS => ?_)
      clear hK K
      try simp (maxSteps := 10000000) only [Act.put, List.setIfInBounds_toArray, List.set_cons_zero, List.set_cons_succ, List.getElem_toArray, List.getElem_cons_zero, List.getElem_cons_succ]
      refine wpAnyH_ready (rs := [4]) (by kernel_rfl) (by simp) ?_
      refine AllReadyH.cons rfl (fun K hK => ?_) AllReadyH.nil
      go_simp
      refine (fCkRound b A n c ps _ n cw (ofN (walkedL b ps bs)) _ h_p (by omega) hc h_w (by omega) hcw ([], 12) HCK).mono ?_
      rintro e w7 ⟨As, ns, cs, rfl, ho, hb⟩
      have Bw7 : Below w.heap.size w w7 := Bw6.trans (hb.mono Bw6.size)
      replace h_y := h_y.next hb (Nat.le_refl _) hb.size
      replace h_p := h_p.next hb (Nat.le_refl _) hb.size
      replace k1 := k1.below hb k1.lt
      replace h_l := h_l.next hb (Nat.le_refl _) hb.size
      replace h_w := h_w.next hb (Nat.le_refl _) hb.size
      clear Bw6
      clear hb
      refine hK.out _ _ ⟨k1.cell 0, k1.cell 1⟩ (fun hS => ?_)
      clear hK K
      try simp (maxSteps := 10000000) only
      refine wpAnyH_take (i := 5) (v := ?_) rfl (by kernel_rfl) (by kernel_rfl) (by kernel_rfl) (fun _ _ _ h => h) (Or.inl ⟨by rfl, ?_⟩) hS ?_
      rotate_left
      · intro w hSw
        (try dsimp only at hSw)
        go_simp
        (try with_reducible rfl)
      try simp (maxSteps := 10000000) only [Act.put, List.setIfInBounds_toArray, List.set_cons_zero, List.set_cons_succ, List.getElem_toArray, List.getElem_cons_zero, List.getElem_cons_succ]
      refine wpAnyH_take (i := 6) (v := ?_) rfl (by kernel_rfl) (by kernel_rfl) (by kernel_rfl) (fun _ _ _ h => h) (Or.inl ⟨by rfl, ?_⟩) hS ?_
      rotate_left
      · intro w hSw
        (try dsimp only at hSw)
        go_simp
        (try with_reducible rfl)
      try simp (maxSteps := 10000000) only [Act.put, List.setIfInBounds_toArray, List.set_cons_zero, List.set_cons_succ, List.getElem_toArray, List.getElem_cons_zero, List.getElem_cons_succ]
      refine wpAnyH_take (i := 7) (v := ?_) rfl (by kernel_rfl) (by kernel_rfl) (by kernel_rfl) (fun _ _ _ h => h) (Or.inl ⟨by rfl, ?_⟩) hS ?_
      rotate_left
      · intro w hSw
        (try dsimp only at hSw)
        go_simp
        (try with_reducible rfl)
      try simp (maxSteps := 10000000) only [Act.put, List.setIfInBounds_toArray, List.set_cons_zero, List.set_cons_succ, List.getElem_toArray, List.getElem_cons_zero, List.getElem_cons_succ]
      refine wpAnyH_take (i := 8) (v := ?_) rfl (by kernel_rfl) (by kernel_rfl) (by kernel_rfl) (fun _ _ _ h => h) (Or.inl ⟨by rfl, ?_⟩) hS ?_
      rotate_left
      · intro w hSw
        (try dsimp only at hSw)
        go_simp
        (try with_reducible rfl)
      try simp (maxSteps := 10000000) only [Act.put, List.setIfInBounds_toArray, List.set_cons_zero, List.set_cons_succ, List.getElem_toArray, List.getElem_cons_zero, List.getElem_cons_succ]
      refine wpAnyH_take (i := 9) (v := ?_) rfl (by kernel_rfl) (by kernel_rfl) (by kernel_rfl) (fun _ _ _ h => h) (Or.inl ⟨by rfl, ?_⟩) hS ?_
      rotate_left
      · intro w hSw
        (try dsimp only at hSw)
        go_simp
        (try with_reducible rfl)
      try simp (maxSteps := 10000000) only [Act.put, List.setIfInBounds_toArray, List.set_cons_zero, List.set_cons_succ, List.getElem_toArray, List.getElem_cons_zero, List.getElem_cons_succ]
      refine wpAnyH_done (by kernel_rfl) (NoPanic.normal ?_) _
      clear hS
      clear ho
      clear h_w
      have d_k1_0 := k1.cell 0
      have d_k1_1 := k1.cell 1
      go_wp2_with fail
      clear d_k1_0 d_k1_1
      refine (rListed z n _ hz (by omega) LZ HLZ mz HMZ).mono ?_
      rintro e w8 ⟨Az, cz, rfl, ho, hb⟩
      have Bw8 : Below w.heap.size w w8 := Bw7.trans (hb.mono Bw7.size)
      replace h_y := h_y.next hb (Nat.le_refl _) hb.size
      replace h_p := h_p.next hb (Nat.le_refl _) hb.size
      replace k1 := k1.below hb k1.lt
      replace h_l := h_l.next hb (Nat.le_refl _) hb.size
      clear Bw7
      clear hb
      have h_z := ho.ri
      clear ho
      have d_k1_0 := k1.cell 0
      have d_k1_1 := k1.cell 1
      go_wp2_with fail
      clear d_k1_0 d_k1_1
      refine (fCkClash b A n c ps Az mz cz (ofN LZ) _ h_p (by omega) hc h_z (by omega) 0 HQ).mono ?_
      rintro e w9 ⟨rfl, hb⟩
      have Bw9 : Below w.heap.size w w9 := Bw8.trans (hb.mono Bw8.size)
      replace h_y := h_y.next hb (Nat.le_refl _) hb.size
      replace h_p := h_p.next hb (Nat.le_refl _) hb.size
      replace k1 := k1.below hb k1.lt
      replace h_l := h_l.next hb (Nat.le_refl _) hb.size
      replace h_z := h_z.next hb (Nat.le_refl _) hb.size
      clear Bw8
      clear hb
      clear h_z
      have d_k1_0 := k1.cell 0
      have d_k1_1 := k1.cell 1
      go_wp2_with fail
      clear d_k1_0 d_k1_1
      refine (fCkClash b A n c ps Aa na ca LL _ h_p (by omega) hc h_l (by omega) 0 HCL0).mono ?_
      rintro e w10 ⟨rfl, hb⟩
      have Bw10 : Below w.heap.size w w10 := Bw9.trans (hb.mono Bw9.size)
      replace h_y := h_y.next hb (Nat.le_refl _) hb.size
      replace h_p := h_p.next hb (Nat.le_refl _) hb.size
      replace k1 := k1.below hb k1.lt
      replace h_l := h_l.next hb (Nat.le_refl _) hb.size
      clear Bw9
      clear hb
      have d_k1_0 := k1.cell 0
      have d_k1_1 := k1.cell 1
      go_wp2_with fail
      clear d_k1_0 d_k1_1
      refine (rCheckClash b A n c ps Aa na ca LL _ h_p (by omega) h_l (by omega) 0 HCL0).mono ?_
      rintro e w11 ⟨rfl, hb⟩
      have Bw11 : Below w.heap.size w w11 := Bw10.trans (hb.mono Bw10.size)
      replace h_y := h_y.next hb (Nat.le_refl _) hb.size
      replace h_p := h_p.next hb (Nat.le_refl _) hb.size
      replace k1 := k1.below hb k1.lt
      replace h_l := h_l.next hb (Nat.le_refl _) hb.size
      clear Bw10
      clear hb
      have d_k1_0 := k1.cell 0
      have d_k1_1 := k1.cell 1
      go_wp2
      clear d_k1_0 d_k1_1
      go_loopw [15] (fun i wr => ∃ k : Nat, k ≤ na ∧ i = .int .i64 (k : Int) ∧ Below w11.heap.size w11 wr) (fun i _ => na - (intOf i).toNat)
      case atStart => exact ⟨0, Nat.zero_le _, rfl, Below.refl _ _⟩
      case round =>
        obtain ⟨k, hk, rfl, hb⟩ := hrel
        obtain ⟨w12, hW⟩ : ∃ W : World, wr = W := ⟨_, rfl⟩
        rw [hW] at hb ⊢
        clear hW
        have Bl := hb
        have Bw12 : Below w.heap.size w w12 := Bw11.trans (hb.mono Bw11.size)
        replace h_y := h_y.next hb (Nat.le_refl _) hb.size
        replace h_p := h_p.next hb (Nat.le_refl _) hb.size
        replace k1 := k1.below hb k1.lt
        replace h_l := h_l.next hb (Nat.le_refl _) hb.size
        clear Bw11
        clear hb
        by_cases hlt : k < na
        · obtain ⟨ad, _, rfl, _⟩ := h_l.at_ hlt
          obtain ⟨j1, HK1⟩ : ∃ j1 : Nat, Hid (k + 1 = j1) := ⟨_, Lib.hid rfl⟩
          have hk1 : (k : Int) + 1 = (j1 : Int) := by have := HK1.out; omega
          have hk1n : j1 ≤ na := by have := HK1.out; omega
          have hj10 : 0 < j1 := by have := HK1.out; omega
          have hwk : IntKind.i64.wrap ((k : Int) + 1) = (j1 : Int) := by rw [IntWalk.i64_in _ (by omega)]; exact hk1
          have HCI : Hid (checkClashS b ps (LL.take k ++ LL.drop j1) = 5) := Lib.hid (by
            rw [← HLL.out, ← HK1.out]
            have := HCC.out k (by rw [HLM2.out]; exact hlt)
            unfold ofN at this ⊢
            rw [List.map_append, List.map_take, List.map_drop] at this
            exact this)
          have hcka : k ≤ ca := by omega
          have hck1 : j1 ≤ ca := by omega
          clear hk1
          by_cases hkc : j1 = ca
          · have hcn : ca ≤ na := by omega
            have d_k1_0 := k1.cell 0
            have d_k1_1 := k1.cell 1
            go_wp2
            clear d_k1_0 d_k1_1
            refine wp_region_held_drew (S := fun _ => True) hmix trivial (fun hS => ?_)
            obtain ⟨w13, hW⟩ : ∃ W, w12.drew = W := ⟨_, rfl⟩
            have hb : Below w12.heap.size w12 w13 := hW ▸ below_drewN (Below.refl _ _) 1
            rw [hW]
            clear hW
            have Bw13 : Below w.heap.size w w13 := Bw12.trans (hb.mono Bw12.size)
            replace h_y := h_y.next hb (Nat.le_refl _) hb.size
            replace h_p := h_p.next hb (Nat.le_refl _) hb.size
            replace k1 := k1.below hb k1.lt
            replace h_l := h_l.next hb (Nat.le_refl _) hb.size
            replace Bl := Bl.trans (hb.mono Bl.size)
            clear Bw12
            clear hb
            refine wpAnyH_take (i := 1) (v := ?_) rfl (by kernel_rfl) (by kernel_rfl) (by kernel_rfl) (fun _ _ _ h => h) (Or.inl ⟨by rfl, ?_⟩) hS ?_
            rotate_left
            · intro w hSw
              (try dsimp only at hSw)
              go_simp
              (try with_reducible rfl)
            try simp (maxSteps := 10000000) only [Act.put, List.setIfInBounds_toArray, List.set_cons_zero, List.set_cons_succ, List.getElem_toArray, List.getElem_cons_zero, List.getElem_cons_succ]
            refine wpAnyH_take (i := 2) (v := ?_) rfl (by kernel_rfl) (by kernel_rfl) (by kernel_rfl) (fun _ _ _ h => h) (Or.inl ⟨by rfl, ?_⟩) hS ?_
            rotate_left
            · intro w hSw
              (try dsimp only at hSw)
              go_simp
              (try with_reducible rfl)
            try simp (maxSteps := 10000000) only [Act.put, List.setIfInBounds_toArray, List.set_cons_zero, List.set_cons_succ, List.getElem_toArray, List.getElem_cons_zero, List.getElem_cons_succ]
            refine wpAnyH_take (i := 3) (v := ?_) rfl (by kernel_rfl) (by kernel_rfl) (by kernel_rfl) (fun _ _ _ h => h) (Or.inl ⟨by rfl, ?_⟩) hS ?_
            rotate_left
            · intro w hSw
              (try dsimp only at hSw)
              go_simp
              (try with_reducible rfl)
            try simp (maxSteps := 10000000) only [Act.put, List.setIfInBounds_toArray, List.set_cons_zero, List.set_cons_succ, List.getElem_toArray, List.getElem_cons_zero, List.getElem_cons_succ]
            refine wpAnyH_take (i := 5) (v := ?_) rfl (by kernel_rfl) (by kernel_rfl) (by kernel_rfl) (fun _ _ _ h => h) (Or.inl ⟨by rfl, ?_⟩) hS ?_
            rotate_left
            · intro w hSw
              (try dsimp only at hSw)
              go_simp
              (try with_reducible rfl)
            try simp (maxSteps := 10000000) only [Act.put, List.setIfInBounds_toArray, List.set_cons_zero, List.set_cons_succ, List.getElem_toArray, List.getElem_cons_zero, List.getElem_cons_succ]
            refine wpAnyH_take (i := 6) (v := ?_) rfl (by kernel_rfl) (by kernel_rfl) (by kernel_rfl) (fun _ _ _ h => h) (Or.inl ⟨by rfl, ?_⟩) hS ?_
            rotate_left
            · intro w hSw
              (try dsimp only at hSw)
              go_simp
              (try with_reducible rfl)
            try simp (maxSteps := 10000000) only [Act.put, List.setIfInBounds_toArray, List.set_cons_zero, List.set_cons_succ, List.getElem_toArray, List.getElem_cons_zero, List.getElem_cons_succ]
            refine wpAnyH_take (i := 7) (v := ?_) rfl (by kernel_rfl) (by kernel_rfl) (by kernel_rfl) (fun _ _ _ h => h) (Or.inl ⟨by rfl, ?_⟩) hS ?_
            rotate_left
            · intro w hSw
              (try dsimp only at hSw)
              go_simp
              (try with_reducible rfl)
            try simp (maxSteps := 10000000) only [Act.put, List.setIfInBounds_toArray, List.set_cons_zero, List.set_cons_succ, List.getElem_toArray, List.getElem_cons_zero, List.getElem_cons_succ]
            refine wpAnyH_take (i := 8) (v := ?_) rfl (by kernel_rfl) (by kernel_rfl) (by kernel_rfl) (fun _ _ _ h => h) (Or.inl ⟨by rfl, ?_⟩) hS ?_
            rotate_left
            · intro w hSw
              (try dsimp only at hSw)
              go_simp
              (try with_reducible rfl)
            try simp (maxSteps := 10000000) only [Act.put, List.setIfInBounds_toArray, List.set_cons_zero, List.set_cons_succ, List.getElem_toArray, List.getElem_cons_zero, List.getElem_cons_succ]
            refine wpAnyH_ready (rs := [0]) (by kernel_rfl) (by simp) ?_
            refine AllReadyH.cons rfl (fun K hK => ?_) AllReadyH.nil
            go_simp
            refine hK.out _ _ trivial (fun hS => ?_)
            clear hK K
            try simp (maxSteps := 10000000) only [Act.put, List.setIfInBounds_toArray, List.set_cons_zero, List.set_cons_succ, List.getElem_toArray, List.getElem_cons_zero, List.getElem_cons_succ]
            refine wpAnyH_ready (rs := [4]) (by kernel_rfl) (by simp) ?_
            refine AllReadyH.cons rfl (fun K hK => ?_) AllReadyH.nil
            refine step_push_nums rfl (.tmp 130) (.tmp 133) rfl w13.heap.size (some ⟨w13.heap.size, 0, none⟩) 0 0 [] rfl (Oj.lit0 w13) _ (some ad) k _ (LL.take k) rfl ((h_l.take hk).alloc (Nat.le_refl _) _) (by omega) (by omega) (by simp) ?_
            intro A1 cap1 v1 ho1 hg1
            simp only [Nat.zero_add, List.nil_append] at ho1 ⊢
            have bv1 : Below w13.heap.size w13 v1 := ((Below.refl _ w13).alloc (Nat.le_refl _) _).grown hg1 (by simp) (fun r e => by simp at e; omega)
            have h_l1 := h_l.next bv1 (Nat.le_refl _) bv1.size
            refine hK.out _ _ trivial (fun hS => ?_)
            clear hK K
            try simp (maxSteps := 10000000) only [Act.put, List.setIfInBounds_toArray, List.set_cons_zero, List.set_cons_succ, List.getElem_toArray, List.getElem_cons_zero, List.getElem_cons_succ]
            refine wpAnyH_ready (rs := [9]) (by kernel_rfl) (by simp) ?_
            refine AllReadyH.cons rfl (fun K hK => ?_) AllReadyH.nil
            refine step_push_nums rfl (.tmp 134) (.tmp 138) rfl w13.heap.size A1 k cap1 (LL.take k) rfl ho1 _ (some ad) 0 0 [] rfl (Ri.nil_ (B := 0) (w := v1) _) (by omega) (by omega) bv1.size ?_
            intro A2 cap2 v2 ho2 hg2
            have hb : Below w13.heap.size w13 v2 := bv1.grown hg2 bv1.size (fun r e => (ho1.lt r e).1)
            refine hK.out _ _ trivial (fun hS => ?_)
            clear hK K
            try simp (maxSteps := 10000000) only [Act.put, List.setIfInBounds_toArray, List.set_cons_zero, List.set_cons_succ, List.getElem_toArray, List.getElem_cons_zero, List.getElem_cons_succ]
            refine wpAnyH_take (i := 10) (v := ?_) rfl (by kernel_rfl) (by kernel_rfl) (by kernel_rfl) (fun _ _ _ h => h) (Or.inl ⟨by rfl, ?_⟩) hS ?_
            rotate_left
            · intro w hSw
              (try dsimp only at hSw)
              go_simp
              (try with_reducible rfl)
            try simp (maxSteps := 10000000) only [Act.put, List.setIfInBounds_toArray, List.set_cons_zero, List.set_cons_succ, List.getElem_toArray, List.getElem_cons_zero, List.getElem_cons_succ]
            refine wpAnyH_done (by kernel_rfl) ?_ _
            clear hS hg1 hg2 ho1 bv1 h_l1
            have h_r := ho2.ri
            clear ho2
            have Bv2 : Below w.heap.size w v2 := Bw13.trans (hb.mono Bw13.size)
            replace h_y := h_y.next hb (Nat.le_refl _) hb.size
            replace h_p := h_p.next hb (Nat.le_refl _) hb.size
            replace k1 := k1.below hb k1.lt
            replace h_l := h_l.next hb (Nat.le_refl _) hb.size
            replace Bl := Bl.trans (hb.mono Bl.size)
            clear Bw13
            clear hb
            have HCI2 : Hid (checkClashS b ps (LL.take k ++ []) = 5) := Lib.hid (by
              have := HCI.out
              rw [List.drop_of_length_le (by rw [HLM.out]; omega)] at this
              exact this)
            have d_k1_0 := k1.cell 0
            have d_k1_1 := k1.cell 1
            go_wp2_with fail
            clear d_k1_0 d_k1_1
            refine (fCkClash b A n c ps A2 _ cap2 _ _ h_p (by omega) hc h_r (by omega) 5 HCI2).mono ?_
            rintro e w14 ⟨rfl, hb⟩
            have Bw14 : Below w.heap.size w w14 := Bv2.trans (hb.mono Bv2.size)
            replace h_y := h_y.next hb (Nat.le_refl _) hb.size
            replace h_p := h_p.next hb (Nat.le_refl _) hb.size
            replace k1 := k1.below hb k1.lt
            replace h_l := h_l.next hb (Nat.le_refl _) hb.size
            replace Bl := Bl.trans (hb.mono Bl.size)
            replace h_r := h_r.next hb (Nat.le_refl _) hb.size
            clear Bv2
            clear hb
            go_wp2
            go_roundw
            case rel => exact ⟨j1, by omega, by go_num, Bl⟩
            case measure => simp [intOf]; have := HK1.out; omega
          · have hkc2 : ¬ ca = j1 := by omega
            have d_k1_0 := k1.cell 0
            have d_k1_1 := k1.cell 1
            go_wp2
            clear d_k1_0 d_k1_1
            refine wp_region_held_drew (S := fun _ => True) hmix trivial (fun hS => ?_)
            obtain ⟨w13, hW⟩ : ∃ W, w12.drew = W := ⟨_, rfl⟩
            have hb : Below w12.heap.size w12 w13 := hW ▸ below_drewN (Below.refl _ _) 1
            rw [hW]
            clear hW
            have Bw13 : Below w.heap.size w w13 := Bw12.trans (hb.mono Bw12.size)
            replace h_y := h_y.next hb (Nat.le_refl _) hb.size
            replace h_p := h_p.next hb (Nat.le_refl _) hb.size
            replace k1 := k1.below hb k1.lt
            replace h_l := h_l.next hb (Nat.le_refl _) hb.size
            replace Bl := Bl.trans (hb.mono Bl.size)
            clear Bw12
            clear hb
            refine wpAnyH_take (i := 1) (v := ?_) rfl (by kernel_rfl) (by kernel_rfl) (by kernel_rfl) (fun _ _ _ h => h) (Or.inl ⟨by rfl, ?_⟩) hS ?_
            rotate_left
            · intro w hSw
              (try dsimp only at hSw)
              go_simp
              (try with_reducible rfl)
            try simp (maxSteps := 10000000) only [Act.put, List.setIfInBounds_toArray, List.set_cons_zero, List.set_cons_succ, List.getElem_toArray, List.getElem_cons_zero, List.getElem_cons_succ]
            refine wpAnyH_take (i := 2) (v := ?_) rfl (by kernel_rfl) (by kernel_rfl) (by kernel_rfl) (fun _ _ _ h => h) (Or.inl ⟨by rfl, ?_⟩) hS ?_
            rotate_left
            · intro w hSw
              (try dsimp only at hSw)
              go_simp
              (try with_reducible rfl)
            try simp (maxSteps := 10000000) only [Act.put, List.setIfInBounds_toArray, List.set_cons_zero, List.set_cons_succ, List.getElem_toArray, List.getElem_cons_zero, List.getElem_cons_succ]
            refine wpAnyH_take (i := 3) (v := ?_) rfl (by kernel_rfl) (by kernel_rfl) (by kernel_rfl) (fun _ _ _ h => h) (Or.inl ⟨by rfl, ?_⟩) hS ?_
            rotate_left
            · intro w hSw
              (try dsimp only at hSw)
              go_simp
              (try with_reducible rfl)
            try simp (maxSteps := 10000000) only [Act.put, List.setIfInBounds_toArray, List.set_cons_zero, List.set_cons_succ, List.getElem_toArray, List.getElem_cons_zero, List.getElem_cons_succ]
            refine wpAnyH_take (i := 5) (v := ?_) rfl (by kernel_rfl) (by kernel_rfl) (by kernel_rfl) (fun _ _ _ h => h) (Or.inl ⟨by rfl, ?_⟩) hS ?_
            rotate_left
            · intro w hSw
              (try dsimp only at hSw)
              go_simp
              (try with_reducible rfl)
            try simp (maxSteps := 10000000) only [Act.put, List.setIfInBounds_toArray, List.set_cons_zero, List.set_cons_succ, List.getElem_toArray, List.getElem_cons_zero, List.getElem_cons_succ]
            refine wpAnyH_take (i := 6) (v := ?_) rfl (by kernel_rfl) (by kernel_rfl) (by kernel_rfl) (fun _ _ _ h => h) (Or.inl ⟨by rfl, ?_⟩) hS ?_
            rotate_left
            · intro w hSw
              (try dsimp only at hSw)
              go_simp
              (try with_reducible rfl)
            try simp (maxSteps := 10000000) only [Act.put, List.setIfInBounds_toArray, List.set_cons_zero, List.set_cons_succ, List.getElem_toArray, List.getElem_cons_zero, List.getElem_cons_succ]
            refine wpAnyH_take (i := 7) (v := ?_) rfl (by kernel_rfl) (by kernel_rfl) (by kernel_rfl) (fun _ _ _ h => h) (Or.inl ⟨by rfl, ?_⟩) hS ?_
            rotate_left
            · intro w hSw
              (try dsimp only at hSw)
              go_simp
              (try with_reducible rfl)
            try simp (maxSteps := 10000000) only [Act.put, List.setIfInBounds_toArray, List.set_cons_zero, List.set_cons_succ, List.getElem_toArray, List.getElem_cons_zero, List.getElem_cons_succ]
            refine wpAnyH_take (i := 8) (v := ?_) rfl (by kernel_rfl) (by kernel_rfl) (by kernel_rfl) (fun _ _ _ h => h) (Or.inl ⟨by rfl, ?_⟩) hS ?_
            rotate_left
            · intro w hSw
              (try dsimp only at hSw)
              go_simp
              (try with_reducible rfl)
            try simp (maxSteps := 10000000) only [Act.put, List.setIfInBounds_toArray, List.set_cons_zero, List.set_cons_succ, List.getElem_toArray, List.getElem_cons_zero, List.getElem_cons_succ]
            refine wpAnyH_ready (rs := [0]) (by kernel_rfl) (by simp) ?_
            refine AllReadyH.cons rfl (fun K hK => ?_) AllReadyH.nil
            go_simp
            refine hK.out _ _ trivial (fun hS => ?_)
            clear hK K
            try simp (maxSteps := 10000000) only [Act.put, List.setIfInBounds_toArray, List.set_cons_zero, List.set_cons_succ, List.getElem_toArray, List.getElem_cons_zero, List.getElem_cons_succ]
            refine wpAnyH_ready (rs := [4]) (by kernel_rfl) (by simp) ?_
            refine AllReadyH.cons rfl (fun K hK => ?_) AllReadyH.nil
            refine step_push_nums rfl (.tmp 130) (.tmp 133) rfl w13.heap.size (some ⟨w13.heap.size, 0, none⟩) 0 0 [] rfl (Oj.lit0 w13) _ (some ad) k _ (LL.take k) rfl ((h_l.take hk).alloc (Nat.le_refl _) _) (by omega) (by omega) (by simp) ?_
            intro A1 cap1 v1 ho1 hg1
            simp only [Nat.zero_add, List.nil_append] at ho1 ⊢
            have bv1 : Below w13.heap.size w13 v1 := ((Below.refl _ w13).alloc (Nat.le_refl _) _).grown hg1 (by simp) (fun r e => by simp at e; omega)
            have h_l1 := h_l.next bv1 (Nat.le_refl _) bv1.size
            refine hK.out _ _ trivial (fun hS => ?_)
            clear hK K
            try simp (maxSteps := 10000000) only [Act.put, List.setIfInBounds_toArray, List.set_cons_zero, List.set_cons_succ, List.getElem_toArray, List.getElem_cons_zero, List.getElem_cons_succ]
            refine wpAnyH_ready (rs := [9]) (by kernel_rfl) (by simp) ?_
            refine AllReadyH.cons rfl (fun K hK => ?_) AllReadyH.nil
            refine step_push_nums rfl (.tmp 134) (.tmp 138) rfl w13.heap.size A1 k cap1 (LL.take k) rfl ho1 _ (some (ad.add j1)) (na - j1) _ (LL.drop j1) rfl (h_l1.back hk1n) (by omega) (by omega) bv1.size ?_
            intro A2 cap2 v2 ho2 hg2
            have hb : Below w13.heap.size w13 v2 := bv1.grown hg2 bv1.size (fun r e => (ho1.lt r e).1)
            refine hK.out _ _ trivial (fun hS => ?_)
            clear hK K
            try simp (maxSteps := 10000000) only [Act.put, List.setIfInBounds_toArray, List.set_cons_zero, List.set_cons_succ, List.getElem_toArray, List.getElem_cons_zero, List.getElem_cons_succ]
            refine wpAnyH_take (i := 10) (v := ?_) rfl (by kernel_rfl) (by kernel_rfl) (by kernel_rfl) (fun _ _ _ h => h) (Or.inl ⟨by rfl, ?_⟩) hS ?_
            rotate_left
            · intro w hSw
              (try dsimp only at hSw)
              go_simp
              (try with_reducible rfl)
            try simp (maxSteps := 10000000) only [Act.put, List.setIfInBounds_toArray, List.set_cons_zero, List.set_cons_succ, List.getElem_toArray, List.getElem_cons_zero, List.getElem_cons_succ]
            refine wpAnyH_done (by kernel_rfl) ?_ _
            clear hS hg1 hg2 ho1 bv1 h_l1
            have h_r := ho2.ri
            clear ho2
            have Bv2 : Below w.heap.size w v2 := Bw13.trans (hb.mono Bw13.size)
            replace h_y := h_y.next hb (Nat.le_refl _) hb.size
            replace h_p := h_p.next hb (Nat.le_refl _) hb.size
            replace k1 := k1.below hb k1.lt
            replace h_l := h_l.next hb (Nat.le_refl _) hb.size
            replace Bl := Bl.trans (hb.mono Bl.size)
            clear Bw13
            clear hb
            have d_k1_0 := k1.cell 0
            have d_k1_1 := k1.cell 1
            go_wp2_with fail
            clear d_k1_0 d_k1_1
            refine (fCkClash b A n c ps A2 _ cap2 _ _ h_p (by omega) hc h_r (by omega) 5 HCI).mono ?_
            rintro e w14 ⟨rfl, hb⟩
            have Bw14 : Below w.heap.size w w14 := Bv2.trans (hb.mono Bv2.size)
            replace h_y := h_y.next hb (Nat.le_refl _) hb.size
            replace h_p := h_p.next hb (Nat.le_refl _) hb.size
            replace k1 := k1.below hb k1.lt
            replace h_l := h_l.next hb (Nat.le_refl _) hb.size
            replace Bl := Bl.trans (hb.mono Bl.size)
            replace h_r := h_r.next hb (Nat.le_refl _) hb.size
            clear Bv2
            clear hb
            go_wp2
            go_roundw
            case rel => exact ⟨j1, by omega, by go_num, Bl⟩
            case measure => simp [intOf]; have := HK1.out; omega
        · have d_k1_0 := k1.cell 0
          have d_k1_1 := k1.cell 1
          go_wp2_with fail
          clear d_k1_0 d_k1_1
          refine (aWorks _).mono ?_
          rintro e w13 ⟨rfl, hb⟩
          have Bw13 : Below w.heap.size w w13 := Bw12.trans (hb.mono Bw12.size)
          replace h_y := h_y.next hb (Nat.le_refl _) hb.size
          replace h_p := h_p.next hb (Nat.le_refl _) hb.size
          replace k1 := k1.below hb k1.lt
          replace h_l := h_l.next hb (Nat.le_refl _) hb.size
          replace Bl := Bl.trans (hb.mono Bl.size)
          clear Bw12
          clear hb
          go_wp2
          go_ret
          exact ⟨rfl, Bw13⟩
    · have HQ : Hid (checkClashS b ps (ofN LZ) = 5) := Lib.hid h5
      clear h5
      have k1 := Bk.new w 24 #[.int .i64 b, .slice A n c]
      have hb : Below w.heap.size w (w.alloc (.cells #[.int .i64 b, .slice A n c] 24)) := (Below.refl _ _).alloc (Nat.le_refl _) _
      have d0 := k1.cell 0
      have d1 := k1.cell 1
      go_enter Try.func9, Try.ntmps9
      go_wp2_with fail
      clear d0 d1
      obtain ⟨u1, hu⟩ : ∃ k, w.heap.size = k := ⟨_, rfl⟩
      obtain ⟨w1, hW⟩ : ∃ W, w.alloc (.cells #[.int .i64 b, .slice A n c] 24) = W := ⟨_, rfl⟩
      rw [hW] at k1 hb ⊢
      rw [hu] at k1 ⊢
      clear hW hu
      have Bw1 : Below w.heap.size w w1 := hb
      replace h_y := h_y.next hb (Nat.le_refl _) hb.size
      replace h_p := h_p.next hb (Nat.le_refl _) hb.size
      clear hb
      refine (aFine b A n c ps _ h_p _ HF).mono ?_
      rintro e w2 ⟨rfl, hb⟩
      have Bw2 : Below w.heap.size w w2 := Bw1.trans (hb.mono Bw1.size)
      replace h_y := h_y.next hb (Nat.le_refl _) hb.size
      replace h_p := h_p.next hb (Nat.le_refl _) hb.size
      replace k1 := k1.below hb k1.lt
      clear Bw1
      clear hb
      have d_k1_0 := k1.cell 0
      have d_k1_1 := k1.cell 1
      go_wp2_with fail
      clear d_k1_0 d_k1_1
      refine (fCount b A n c ps _ h_p (by omega) hc ((NG : Int), 0) HC).mono ?_
      rintro e w3 ⟨rfl, hb⟩
      have Bw3 : Below w.heap.size w w3 := Bw2.trans (hb.mono Bw2.size)
      replace h_y := h_y.next hb (Nat.le_refl _) hb.size
      replace h_p := h_p.next hb (Nat.le_refl _) hb.size
      replace k1 := k1.below hb k1.lt
      clear Bw2
      clear hb
      have d_k1_0 := k1.cell 0
      have d_k1_1 := k1.cell 1
      go_wp2_with fail
      clear d_k1_0 d_k1_1
      refine (fClash b A n c ps _ h_p (by omega) hc (L, 0) HCL).mono ?_
      rintro e w4 ⟨Aa, na, ca, rfl, ho, hb⟩
      have Bw4 : Below w.heap.size w w4 := Bw3.trans (hb.mono Bw3.size)
      replace h_y := h_y.next hb (Nat.le_refl _) hb.size
      replace h_p := h_p.next hb (Nat.le_refl _) hb.size
      replace k1 := k1.below hb k1.lt
      clear Bw3
      clear hb
      have hca := ho.cap
      have h_l := ho.ri
      clear ho
      dsimp only at h_l ⊢
      rw [HLL.out] at h_l
      obtain rfl : na = m := h_l.len.symm.trans HLM.out
      have d_k1_0 := k1.cell 0
      have d_k1_1 := k1.cell 1
      go_wp2
      clear d_k1_0 d_k1_1
      have e_k1_0 := k1.drew.cell 0
      have e_k1_1 := k1.drew.cell 1
      refine wp_region_noPanic ?_
      refine wp_region_held_drew (S := fun V => V.cell? ⟨u1, 0, none⟩ = some (.int .i64 b) ∧ V.cell? ⟨u1, 1, none⟩ = some (.slice A n c)) hmix ⟨e_k1_0, e_k1_1⟩ (fun hS => ?_)
      clear e_k1_0 e_k1_1
      obtain ⟨w5, hW⟩ : ∃ W, w4.drew = W := ⟨_, rfl⟩
      have hb : Below w4.heap.size w4 w5 := hW ▸ below_drewN (Below.refl _ _) 1
      rw [hW] at hS ⊢
      clear hW
      have Bw5 : Below w.heap.size w w5 := Bw4.trans (hb.mono Bw4.size)
      replace h_y := h_y.next hb (Nat.le_refl _) hb.size
      replace h_p := h_p.next hb (Nat.le_refl _) hb.size
      replace k1 := k1.below hb k1.lt
      replace h_l := h_l.next hb (Nat.le_refl _) hb.size
      clear Bw4
      clear hb
      refine wpAnyH_take (i := 0) (v := ?_) rfl (by kernel_rfl) (by kernel_rfl) (by kernel_rfl) (fun _ _ _ h => h) (Or.inl ⟨by rfl, ?_⟩) hS ?_
      rotate_left
      · intro w hSw
        (try dsimp only at hSw)
        go_simp
        (try with_reducible rfl)
      try simp (maxSteps := 10000000) only [Act.put, List.setIfInBounds_toArray, List.set_cons_zero, List.set_cons_succ, List.getElem_toArray, List.getElem_cons_zero]
      refine wpAnyH_take (i := 1) (v := ?_) rfl (by kernel_rfl) (by kernel_rfl) (by kernel_rfl) (fun _ _ _ h => h) (Or.inl ⟨by rfl, ?_⟩) hS ?_
      rotate_left
      · intro w hSw
        (try dsimp only at hSw)
        go_simp
        (try with_reducible rfl)
      try simp (maxSteps := 10000000) only [Act.put, List.setIfInBounds_toArray, List.set_cons_zero, List.set_cons_succ, List.getElem_toArray, List.getElem_cons_zero, List.getElem_cons_succ]
      refine wpAnyH_take (i := 2) (v := ?_) rfl (by kernel_rfl) (by kernel_rfl) (by kernel_rfl) (fun _ _ _ h => h) (Or.inl ⟨by rfl, ?_⟩) hS ?_
      rotate_left
      · intro w hSw
        (try dsimp only at hSw)
        go_simp
        (try with_reducible rfl)
      try simp (maxSteps := 10000000) only [Act.put, List.setIfInBounds_toArray, List.set_cons_zero, List.set_cons_succ, List.getElem_toArray, List.getElem_cons_zero, List.getElem_cons_succ]
      refine wpAnyH_ready (rs := [3]) (by kernel_rfl) (by simp) ?_
      refine AllReadyH.cons rfl (fun K hK => ?_) AllReadyH.nil
      go_simp
      refine (aWalked b A n c ps Y my cy bs _ h_p HP h_y (by omega)).mono ?_
      rintro e w6 ⟨Aw, cw, rfl, ho, hcw, hb⟩
      have Bw6 : Below w.heap.size w w6 := Bw5.trans (hb.mono Bw5.size)
      replace h_y := h_y.next hb (Nat.le_refl _) hb.size
      replace h_p := h_p.next hb (Nat.le_refl _) hb.size
      replace k1 := k1.below hb k1.lt
      replace h_l := h_l.next hb (Nat.le_refl _) hb.size
      clear Bw5
      clear hb
      have h_w := ho.ri
      clear ho
      refine hK.out _ _ ⟨k1.cell 0, k1.cell 1⟩ (fun hS => ?_)
      clear hK K
      try simp (maxSteps := 10000000) only [Act.put, List.setIfInBounds_toArray, List.set_cons_zero, List.set_cons_succ, List.getElem_toArray, List.getElem_cons_zero, List.getElem_cons_succ]
      refine wpAnyH_ready (rs := [4]) (by kernel_rfl) (by simp) ?_
      refine AllReadyH.cons rfl (fun K hK => ?_) AllReadyH.nil
      go_simp
      refine (fCkRound b A n c ps _ n cw (ofN (walkedL b ps bs)) _ h_p (by omega) hc h_w (by omega) hcw ([], 12) HCK).mono ?_
      rintro e w7 ⟨As, ns, cs, rfl, ho, hb⟩
      have Bw7 : Below w.heap.size w w7 := Bw6.trans (hb.mono Bw6.size)
      replace h_y := h_y.next hb (Nat.le_refl _) hb.size
      replace h_p := h_p.next hb (Nat.le_refl _) hb.size
      replace k1 := k1.below hb k1.lt
      replace h_l := h_l.next hb (Nat.le_refl _) hb.size
      replace h_w := h_w.next hb (Nat.le_refl _) hb.size
      clear Bw6
      clear hb
      refine hK.out _ _ ⟨k1.cell 0, k1.cell 1⟩ (fun hS => ?_)
      clear hK K
      try simp (maxSteps := 10000000) only
      refine wpAnyH_take (i := 5) (v := ?_) rfl (by kernel_rfl) (by kernel_rfl) (by kernel_rfl) (fun _ _ _ h => h) (Or.inl ⟨by rfl, ?_⟩) hS ?_
      rotate_left
      · intro w hSw
        (try dsimp only at hSw)
        go_simp
        (try with_reducible rfl)
      try simp (maxSteps := 10000000) only [Act.put, List.setIfInBounds_toArray, List.set_cons_zero, List.set_cons_succ, List.getElem_toArray, List.getElem_cons_zero, List.getElem_cons_succ]
      refine wpAnyH_take (i := 6) (v := ?_) rfl (by kernel_rfl) (by kernel_rfl) (by kernel_rfl) (fun _ _ _ h => h) (Or.inl ⟨by rfl, ?_⟩) hS ?_
      rotate_left
      · intro w hSw
        (try dsimp only at hSw)
        go_simp
        (try with_reducible rfl)
      try simp (maxSteps := 10000000) only [Act.put, List.setIfInBounds_toArray, List.set_cons_zero, List.set_cons_succ, List.getElem_toArray, List.getElem_cons_zero, List.getElem_cons_succ]
      refine wpAnyH_take (i := 7) (v := ?_) rfl (by kernel_rfl) (by kernel_rfl) (by kernel_rfl) (fun _ _ _ h => h) (Or.inl ⟨by rfl, ?_⟩) hS ?_
      rotate_left
      · intro w hSw
        (try dsimp only at hSw)
        go_simp
        (try with_reducible rfl)
      try simp (maxSteps := 10000000) only [Act.put, List.setIfInBounds_toArray, List.set_cons_zero, List.set_cons_succ, List.getElem_toArray, List.getElem_cons_zero, List.getElem_cons_succ]
      refine wpAnyH_take (i := 8) (v := ?_) rfl (by kernel_rfl) (by kernel_rfl) (by kernel_rfl) (fun _ _ _ h => h) (Or.inl ⟨by rfl, ?_⟩) hS ?_
      rotate_left
      · intro w hSw
        (try dsimp only at hSw)
        go_simp
        (try with_reducible rfl)
      try simp (maxSteps := 10000000) only [Act.put, List.setIfInBounds_toArray, List.set_cons_zero, List.set_cons_succ, List.getElem_toArray, List.getElem_cons_zero, List.getElem_cons_succ]
      refine wpAnyH_take (i := 9) (v := ?_) rfl (by kernel_rfl) (by kernel_rfl) (by kernel_rfl) (fun _ _ _ h => h) (Or.inl ⟨by rfl, ?_⟩) hS ?_
      rotate_left
      · intro w hSw
        (try dsimp only at hSw)
        go_simp
        (try with_reducible rfl)
      try simp (maxSteps := 10000000) only [Act.put, List.setIfInBounds_toArray, List.set_cons_zero, List.set_cons_succ, List.getElem_toArray, List.getElem_cons_zero, List.getElem_cons_succ]
      refine wpAnyH_done (by kernel_rfl) (NoPanic.normal ?_) _
      clear hS
      clear ho
      clear h_w
      have d_k1_0 := k1.cell 0
      have d_k1_1 := k1.cell 1
      go_wp2_with fail
      clear d_k1_0 d_k1_1
      refine (rListed z n _ hz (by omega) LZ HLZ mz HMZ).mono ?_
      rintro e w8 ⟨Az, cz, rfl, ho, hb⟩
      have Bw8 : Below w.heap.size w w8 := Bw7.trans (hb.mono Bw7.size)
      replace h_y := h_y.next hb (Nat.le_refl _) hb.size
      replace h_p := h_p.next hb (Nat.le_refl _) hb.size
      replace k1 := k1.below hb k1.lt
      replace h_l := h_l.next hb (Nat.le_refl _) hb.size
      clear Bw7
      clear hb
      have h_z := ho.ri
      clear ho
      have d_k1_0 := k1.cell 0
      have d_k1_1 := k1.cell 1
      go_wp2_with fail
      clear d_k1_0 d_k1_1
      refine (fCkClash b A n c ps Az mz cz (ofN LZ) _ h_p (by omega) hc h_z (by omega) 5 HQ).mono ?_
      rintro e w9 ⟨rfl, hb⟩
      have Bw9 : Below w.heap.size w w9 := Bw8.trans (hb.mono Bw8.size)
      replace h_y := h_y.next hb (Nat.le_refl _) hb.size
      replace h_p := h_p.next hb (Nat.le_refl _) hb.size
      replace k1 := k1.below hb k1.lt
      replace h_l := h_l.next hb (Nat.le_refl _) hb.size
      replace h_z := h_z.next hb (Nat.le_refl _) hb.size
      clear Bw8
      clear hb
      clear h_z
      have d_k1_0 := k1.cell 0
      have d_k1_1 := k1.cell 1
      go_wp2_with fail
      clear d_k1_0 d_k1_1
      refine (fCkClash b A n c ps Aa na ca LL _ h_p (by omega) hc h_l (by omega) 0 HCL0).mono ?_
      rintro e w10 ⟨rfl, hb⟩
      have Bw10 : Below w.heap.size w w10 := Bw9.trans (hb.mono Bw9.size)
      replace h_y := h_y.next hb (Nat.le_refl _) hb.size
      replace h_p := h_p.next hb (Nat.le_refl _) hb.size
      replace k1 := k1.below hb k1.lt
      replace h_l := h_l.next hb (Nat.le_refl _) hb.size
      clear Bw9
      clear hb
      have d_k1_0 := k1.cell 0
      have d_k1_1 := k1.cell 1
      go_wp2_with fail
      clear d_k1_0 d_k1_1
      refine (rCheckClash b A n c ps Aa na ca LL _ h_p (by omega) h_l (by omega) 0 HCL0).mono ?_
      rintro e w11 ⟨rfl, hb⟩
      have Bw11 : Below w.heap.size w w11 := Bw10.trans (hb.mono Bw10.size)
      replace h_y := h_y.next hb (Nat.le_refl _) hb.size
      replace h_p := h_p.next hb (Nat.le_refl _) hb.size
      replace k1 := k1.below hb k1.lt
      replace h_l := h_l.next hb (Nat.le_refl _) hb.size
      clear Bw10
      clear hb
      have d_k1_0 := k1.cell 0
      have d_k1_1 := k1.cell 1
      go_wp2
      clear d_k1_0 d_k1_1
      go_loopw [15] (fun i wr => ∃ k : Nat, k ≤ na ∧ i = .int .i64 (k : Int) ∧ Below w11.heap.size w11 wr) (fun i _ => na - (intOf i).toNat)
      case atStart => exact ⟨0, Nat.zero_le _, rfl, Below.refl _ _⟩
      case round =>
        obtain ⟨k, hk, rfl, hb⟩ := hrel
        obtain ⟨w12, hW⟩ : ∃ W : World, wr = W := ⟨_, rfl⟩
        rw [hW] at hb ⊢
        clear hW
        have Bl := hb
        have Bw12 : Below w.heap.size w w12 := Bw11.trans (hb.mono Bw11.size)
        replace h_y := h_y.next hb (Nat.le_refl _) hb.size
        replace h_p := h_p.next hb (Nat.le_refl _) hb.size
        replace k1 := k1.below hb k1.lt
        replace h_l := h_l.next hb (Nat.le_refl _) hb.size
        clear Bw11
        clear hb
        by_cases hlt : k < na
        · obtain ⟨ad, _, rfl, _⟩ := h_l.at_ hlt
          obtain ⟨j1, HK1⟩ : ∃ j1 : Nat, Hid (k + 1 = j1) := ⟨_, Lib.hid rfl⟩
          have hk1 : (k : Int) + 1 = (j1 : Int) := by have := HK1.out; omega
          have hk1n : j1 ≤ na := by have := HK1.out; omega
          have hj10 : 0 < j1 := by have := HK1.out; omega
          have hwk : IntKind.i64.wrap ((k : Int) + 1) = (j1 : Int) := by rw [IntWalk.i64_in _ (by omega)]; exact hk1
          have HCI : Hid (checkClashS b ps (LL.take k ++ LL.drop j1) = 5) := Lib.hid (by
            rw [← HLL.out, ← HK1.out]
            have := HCC.out k (by rw [HLM2.out]; exact hlt)
            unfold ofN at this ⊢
            rw [List.map_append, List.map_take, List.map_drop] at this
            exact this)
          have hcka : k ≤ ca := by omega
          have hck1 : j1 ≤ ca := by omega
          clear hk1
          by_cases hkc : j1 = ca
          · have hcn : ca ≤ na := by omega
            have d_k1_0 := k1.cell 0
            have d_k1_1 := k1.cell 1
            go_wp2
            clear d_k1_0 d_k1_1
            refine wp_region_held_drew (S := fun _ => True) hmix trivial (fun hS => ?_)
            obtain ⟨w13, hW⟩ : ∃ W, w12.drew = W := ⟨_, rfl⟩
            have hb : Below w12.heap.size w12 w13 := hW ▸ below_drewN (Below.refl _ _) 1
            rw [hW]
            clear hW
            have Bw13 : Below w.heap.size w w13 := Bw12.trans (hb.mono Bw12.size)
            replace h_y := h_y.next hb (Nat.le_refl _) hb.size
            replace h_p := h_p.next hb (Nat.le_refl _) hb.size
            replace k1 := k1.below hb k1.lt
            replace h_l := h_l.next hb (Nat.le_refl _) hb.size
            replace Bl := Bl.trans (hb.mono Bl.size)
            clear Bw12
            clear hb
            refine wpAnyH_take (i := 1) (v := ?_) rfl (by kernel_rfl) (by kernel_rfl) (by kernel_rfl) (fun _ _ _ h => h) (Or.inl ⟨by rfl, ?_⟩) hS ?_
            rotate_left
            · intro w hSw
              (try dsimp only at hSw)
              go_simp
              (try with_reducible rfl)
            try simp (maxSteps := 10000000) only [Act.put, List.setIfInBounds_toArray, List.set_cons_zero, List.set_cons_succ, List.getElem_toArray, List.getElem_cons_zero, List.getElem_cons_succ]
            refine wpAnyH_take (i := 2) (v := ?_) rfl (by kernel_rfl) (by kernel_rfl) (by kernel_rfl) (fun _ _ _ h => h) (Or.inl ⟨by rfl, ?_⟩) hS ?_
            rotate_left
            · intro w hSw
              (try dsimp only at hSw)
              go_simp
              (try with_reducible rfl)
            try simp (maxSteps := 10000000) only [Act.put, List.setIfInBounds_toArray, List.set_cons_zero, List.set_cons_succ, List.getElem_toArray, List.getElem_cons_zero, List.getElem_cons_succ]
            refine wpAnyH_take (i := 3) (v := ?_) rfl (by kernel_rfl) (by kernel_rfl) (by kernel_rfl) (fun _ _ _ h => h) (Or.inl ⟨by rfl, ?_⟩) hS ?_
            rotate_left
            · intro w hSw
              (try dsimp only at hSw)
              go_simp
              (try with_reducible rfl)
            try simp (maxSteps := 10000000) only [Act.put, List.setIfInBounds_toArray, List.set_cons_zero, List.set_cons_succ, List.getElem_toArray, List.getElem_cons_zero, List.getElem_cons_succ]
            refine wpAnyH_take (i := 5) (v := ?_) rfl (by kernel_rfl) (by kernel_rfl) (by kernel_rfl) (fun _ _ _ h => h) (Or.inl ⟨by rfl, ?_⟩) hS ?_
            rotate_left
            · intro w hSw
              (try dsimp only at hSw)
              go_simp
              (try with_reducible rfl)
            try simp (maxSteps := 10000000) only [Act.put, List.setIfInBounds_toArray, List.set_cons_zero, List.set_cons_succ, List.getElem_toArray, List.getElem_cons_zero, List.getElem_cons_succ]
            refine wpAnyH_take (i := 6) (v := ?_) rfl (by kernel_rfl) (by kernel_rfl) (by kernel_rfl) (fun _ _ _ h => h) (Or.inl ⟨by rfl, ?_⟩) hS ?_
            rotate_left
            · intro w hSw
              (try dsimp only at hSw)
              go_simp
              (try with_reducible rfl)
            try simp (maxSteps := 10000000) only [Act.put, List.setIfInBounds_toArray, List.set_cons_zero, List.set_cons_succ, List.getElem_toArray, List.getElem_cons_zero, List.getElem_cons_succ]
            refine wpAnyH_take (i := 7) (v := ?_) rfl (by kernel_rfl) (by kernel_rfl) (by kernel_rfl) (fun _ _ _ h => h) (Or.inl ⟨by rfl, ?_⟩) hS ?_
            rotate_left
            · intro w hSw
              (try dsimp only at hSw)
              go_simp
              (try with_reducible rfl)
            try simp (maxSteps := 10000000) only [Act.put, List.setIfInBounds_toArray, List.set_cons_zero, List.set_cons_succ, List.getElem_toArray, List.getElem_cons_zero, List.getElem_cons_succ]
            refine wpAnyH_take (i := 8) (v := ?_) rfl (by kernel_rfl) (by kernel_rfl) (by kernel_rfl) (fun _ _ _ h => h) (Or.inl ⟨by rfl, ?_⟩) hS ?_
            rotate_left
            · intro w hSw
              (try dsimp only at hSw)
              go_simp
              (try with_reducible rfl)
            try simp (maxSteps := 10000000) only [Act.put, List.setIfInBounds_toArray, List.set_cons_zero, List.set_cons_succ, List.getElem_toArray, List.getElem_cons_zero, List.getElem_cons_succ]
            refine wpAnyH_ready (rs := [0]) (by kernel_rfl) (by simp) ?_
            refine AllReadyH.cons rfl (fun K hK => ?_) AllReadyH.nil
            go_simp
            refine hK.out _ _ trivial (fun hS => ?_)
            clear hK K
            try simp (maxSteps := 10000000) only [Act.put, List.setIfInBounds_toArray, List.set_cons_zero, List.set_cons_succ, List.getElem_toArray, List.getElem_cons_zero, List.getElem_cons_succ]
            refine wpAnyH_ready (rs := [4]) (by kernel_rfl) (by simp) ?_
            refine AllReadyH.cons rfl (fun K hK => ?_) AllReadyH.nil
            refine step_push_nums rfl (.tmp 130) (.tmp 133) rfl w13.heap.size (some ⟨w13.heap.size, 0, none⟩) 0 0 [] rfl (Oj.lit0 w13) _ (some ad) k _ (LL.take k) rfl ((h_l.take hk).alloc (Nat.le_refl _) _) (by omega) (by omega) (by simp) ?_
            intro A1 cap1 v1 ho1 hg1
            simp only [Nat.zero_add, List.nil_append] at ho1 ⊢
            have bv1 : Below w13.heap.size w13 v1 := ((Below.refl _ w13).alloc (Nat.le_refl _) _).grown hg1 (by simp) (fun r e => by simp at e; omega)
            have h_l1 := h_l.next bv1 (Nat.le_refl _) bv1.size
            refine hK.out _ _ trivial (fun hS => ?_)
            clear hK K
            try simp (maxSteps := 10000000) only [Act.put, List.setIfInBounds_toArray, List.set_cons_zero, List.set_cons_succ, List.getElem_toArray, List.getElem_cons_zero, List.getElem_cons_succ]
            refine wpAnyH_ready (rs := [9]) (by kernel_rfl) (by simp) ?_
            refine AllReadyH.cons rfl (fun K hK => ?_) AllReadyH.nil
            refine step_push_nums rfl (.tmp 134) (.tmp 138) rfl w13.heap.size A1 k cap1 (LL.take k) rfl ho1 _ (some ad) 0 0 [] rfl (Ri.nil_ (B := 0) (w := v1) _) (by omega) (by omega) bv1.size ?_
            intro A2 cap2 v2 ho2 hg2
            have hb : Below w13.heap.size w13 v2 := bv1.grown hg2 bv1.size (fun r e => (ho1.lt r e).1)
            refine hK.out _ _ trivial (fun hS => ?_)
            clear hK K
            try simp (maxSteps := 10000000) only [Act.put, List.setIfInBounds_toArray, List.set_cons_zero, List.set_cons_succ, List.getElem_toArray, List.getElem_cons_zero, List.getElem_cons_succ]
            refine wpAnyH_take (i := 10) (v := ?_) rfl (by kernel_rfl) (by kernel_rfl) (by kernel_rfl) (fun _ _ _ h => h) (Or.inl ⟨by rfl, ?_⟩) hS ?_
            rotate_left
            · intro w hSw
              (try dsimp only at hSw)
              go_simp
              (try with_reducible rfl)
            try simp (maxSteps := 10000000) only [Act.put, List.setIfInBounds_toArray, List.set_cons_zero, List.set_cons_succ, List.getElem_toArray, List.getElem_cons_zero, List.getElem_cons_succ]
            refine wpAnyH_done (by kernel_rfl) ?_ _
            clear hS hg1 hg2 ho1 bv1 h_l1
            have h_r := ho2.ri
            clear ho2
            have Bv2 : Below w.heap.size w v2 := Bw13.trans (hb.mono Bw13.size)
            replace h_y := h_y.next hb (Nat.le_refl _) hb.size
            replace h_p := h_p.next hb (Nat.le_refl _) hb.size
            replace k1 := k1.below hb k1.lt
            replace h_l := h_l.next hb (Nat.le_refl _) hb.size
            replace Bl := Bl.trans (hb.mono Bl.size)
            clear Bw13
            clear hb
            have HCI2 : Hid (checkClashS b ps (LL.take k ++ []) = 5) := Lib.hid (by
              have := HCI.out
              rw [List.drop_of_length_le (by rw [HLM.out]; omega)] at this
              exact this)
            have d_k1_0 := k1.cell 0
            have d_k1_1 := k1.cell 1
            go_wp2_with fail
            clear d_k1_0 d_k1_1
            refine (fCkClash b A n c ps A2 _ cap2 _ _ h_p (by omega) hc h_r (by omega) 5 HCI2).mono ?_
            rintro e w14 ⟨rfl, hb⟩
            have Bw14 : Below w.heap.size w w14 := Bv2.trans (hb.mono Bv2.size)
            replace h_y := h_y.next hb (Nat.le_refl _) hb.size
            replace h_p := h_p.next hb (Nat.le_refl _) hb.size
            replace k1 := k1.below hb k1.lt
            replace h_l := h_l.next hb (Nat.le_refl _) hb.size
            replace Bl := Bl.trans (hb.mono Bl.size)
            replace h_r := h_r.next hb (Nat.le_refl _) hb.size
            clear Bv2
            clear hb
            go_wp2
            go_roundw
            case rel => exact ⟨j1, by omega, by go_num, Bl⟩
            case measure => simp [intOf]; have := HK1.out; omega
          · have hkc2 : ¬ ca = j1 := by omega
            have d_k1_0 := k1.cell 0
            have d_k1_1 := k1.cell 1
            go_wp2
            clear d_k1_0 d_k1_1
            refine wp_region_held_drew (S := fun _ => True) hmix trivial (fun hS => ?_)
            obtain ⟨w13, hW⟩ : ∃ W, w12.drew = W := ⟨_, rfl⟩
            have hb : Below w12.heap.size w12 w13 := hW ▸ below_drewN (Below.refl _ _) 1
            rw [hW]
            clear hW
            have Bw13 : Below w.heap.size w w13 := Bw12.trans (hb.mono Bw12.size)
            replace h_y := h_y.next hb (Nat.le_refl _) hb.size
            replace h_p := h_p.next hb (Nat.le_refl _) hb.size
            replace k1 := k1.below hb k1.lt
            replace h_l := h_l.next hb (Nat.le_refl _) hb.size
            replace Bl := Bl.trans (hb.mono Bl.size)
            clear Bw12
            clear hb
            refine wpAnyH_take (i := 1) (v := ?_) rfl (by kernel_rfl) (by kernel_rfl) (by kernel_rfl) (fun _ _ _ h => h) (Or.inl ⟨by rfl, ?_⟩) hS ?_
            rotate_left
            · intro w hSw
              (try dsimp only at hSw)
              go_simp
              (try with_reducible rfl)
            try simp (maxSteps := 10000000) only [Act.put, List.setIfInBounds_toArray, List.set_cons_zero, List.set_cons_succ, List.getElem_toArray, List.getElem_cons_zero, List.getElem_cons_succ]
            refine wpAnyH_take (i := 2) (v := ?_) rfl (by kernel_rfl) (by kernel_rfl) (by kernel_rfl) (fun _ _ _ h => h) (Or.inl ⟨by rfl, ?_⟩) hS ?_
            rotate_left
            · intro w hSw
              (try dsimp only at hSw)
              go_simp
              (try with_reducible rfl)
            try simp (maxSteps := 10000000) only [Act.put, List.setIfInBounds_toArray, List.set_cons_zero, List.set_cons_succ, List.getElem_toArray, List.getElem_cons_zero, List.getElem_cons_succ]
            refine wpAnyH_take (i := 3) (v := ?_) rfl (by kernel_rfl) (by kernel_rfl) (by kernel_rfl) (fun _ _ _ h => h) (Or.inl ⟨by rfl, ?_⟩) hS ?_
            rotate_left
            · intro w hSw
              (try dsimp only at hSw)
              go_simp
              (try with_reducible rfl)
            try simp (maxSteps := 10000000) only [Act.put, List.setIfInBounds_toArray, List.set_cons_zero, List.set_cons_succ, List.getElem_toArray, List.getElem_cons_zero, List.getElem_cons_succ]
            refine wpAnyH_take (i := 5) (v := ?_) rfl (by kernel_rfl) (by kernel_rfl) (by kernel_rfl) (fun _ _ _ h => h) (Or.inl ⟨by rfl, ?_⟩) hS ?_
            rotate_left
            · intro w hSw
              (try dsimp only at hSw)
              go_simp
              (try with_reducible rfl)
            try simp (maxSteps := 10000000) only [Act.put, List.setIfInBounds_toArray, List.set_cons_zero, List.set_cons_succ, List.getElem_toArray, List.getElem_cons_zero, List.getElem_cons_succ]
            refine wpAnyH_take (i := 6) (v := ?_) rfl (by kernel_rfl) (by kernel_rfl) (by kernel_rfl) (fun _ _ _ h => h) (Or.inl ⟨by rfl, ?_⟩) hS ?_
            rotate_left
            · intro w hSw
              (try dsimp only at hSw)
              go_simp
              (try with_reducible rfl)
            try simp (maxSteps := 10000000) only [Act.put, List.setIfInBounds_toArray, List.set_cons_zero, List.set_cons_succ, List.getElem_toArray, List.getElem_cons_zero, List.getElem_cons_succ]
            refine wpAnyH_take (i := 7) (v := ?_) rfl (by kernel_rfl) (by kernel_rfl) (by kernel_rfl) (fun _ _ _ h => h) (Or.inl ⟨by rfl, ?_⟩) hS ?_
            rotate_left
            · intro w hSw
              (try dsimp only at hSw)
              go_simp
              (try with_reducible rfl)
            try simp (maxSteps := 10000000) only [Act.put, List.setIfInBounds_toArray, List.set_cons_zero, List.set_cons_succ, List.getElem_toArray, List.getElem_cons_zero, List.getElem_cons_succ]
            refine wpAnyH_take (i := 8) (v := ?_) rfl (by kernel_rfl) (by kernel_rfl) (by kernel_rfl) (fun _ _ _ h => h) (Or.inl ⟨by rfl, ?_⟩) hS ?_
            rotate_left
            · intro w hSw
              (try dsimp only at hSw)
              go_simp
              (try with_reducible rfl)
            try simp (maxSteps := 10000000) only [Act.put, List.setIfInBounds_toArray, List.set_cons_zero, List.set_cons_succ, List.getElem_toArray, List.getElem_cons_zero, List.getElem_cons_succ]
            refine wpAnyH_ready (rs := [0]) (by kernel_rfl) (by simp) ?_
            refine AllReadyH.cons rfl (fun K hK => ?_) AllReadyH.nil
            go_simp
            refine hK.out _ _ trivial (fun hS => ?_)
            clear hK K
            try simp (maxSteps := 10000000) only [Act.put, List.setIfInBounds_toArray, List.set_cons_zero, List.set_cons_succ, List.getElem_toArray, List.getElem_cons_zero, List.getElem_cons_succ]
            refine wpAnyH_ready (rs := [4]) (by kernel_rfl) (by simp) ?_
            refine AllReadyH.cons rfl (fun K hK => ?_) AllReadyH.nil
            refine step_push_nums rfl (.tmp 130) (.tmp 133) rfl w13.heap.size (some ⟨w13.heap.size, 0, none⟩) 0 0 [] rfl (Oj.lit0 w13) _ (some ad) k _ (LL.take k) rfl ((h_l.take hk).alloc (Nat.le_refl _) _) (by omega) (by omega) (by simp) ?_
            intro A1 cap1 v1 ho1 hg1
            simp only [Nat.zero_add, List.nil_append] at ho1 ⊢
            have bv1 : Below w13.heap.size w13 v1 := ((Below.refl _ w13).alloc (Nat.le_refl _) _).grown hg1 (by simp) (fun r e => by simp at e; omega)
            have h_l1 := h_l.next bv1 (Nat.le_refl _) bv1.size
            refine hK.out _ _ trivial (fun hS => ?_)
            clear hK K
            try simp (maxSteps := 10000000) only [Act.put, List.setIfInBounds_toArray, List.set_cons_zero, List.set_cons_succ, List.getElem_toArray, List.getElem_cons_zero, List.getElem_cons_succ]
            refine wpAnyH_ready (rs := [9]) (by kernel_rfl) (by simp) ?_
            refine AllReadyH.cons rfl (fun K hK => ?_) AllReadyH.nil
            refine step_push_nums rfl (.tmp 134) (.tmp 138) rfl w13.heap.size A1 k cap1 (LL.take k) rfl ho1 _ (some (ad.add j1)) (na - j1) _ (LL.drop j1) rfl (h_l1.back hk1n) (by omega) (by omega) bv1.size ?_
            intro A2 cap2 v2 ho2 hg2
            have hb : Below w13.heap.size w13 v2 := bv1.grown hg2 bv1.size (fun r e => (ho1.lt r e).1)
            refine hK.out _ _ trivial (fun hS => ?_)
            clear hK K
            try simp (maxSteps := 10000000) only [Act.put, List.setIfInBounds_toArray, List.set_cons_zero, List.set_cons_succ, List.getElem_toArray, List.getElem_cons_zero, List.getElem_cons_succ]
            refine wpAnyH_take (i := 10) (v := ?_) rfl (by kernel_rfl) (by kernel_rfl) (by kernel_rfl) (fun _ _ _ h => h) (Or.inl ⟨by rfl, ?_⟩) hS ?_
            rotate_left
            · intro w hSw
              (try dsimp only at hSw)
              go_simp
              (try with_reducible rfl)
            try simp (maxSteps := 10000000) only [Act.put, List.setIfInBounds_toArray, List.set_cons_zero, List.set_cons_succ, List.getElem_toArray, List.getElem_cons_zero, List.getElem_cons_succ]
            refine wpAnyH_done (by kernel_rfl) ?_ _
            clear hS hg1 hg2 ho1 bv1 h_l1
            have h_r := ho2.ri
            clear ho2
            have Bv2 : Below w.heap.size w v2 := Bw13.trans (hb.mono Bw13.size)
            replace h_y := h_y.next hb (Nat.le_refl _) hb.size
            replace h_p := h_p.next hb (Nat.le_refl _) hb.size
            replace k1 := k1.below hb k1.lt
            replace h_l := h_l.next hb (Nat.le_refl _) hb.size
            replace Bl := Bl.trans (hb.mono Bl.size)
            clear Bw13
            clear hb
            have d_k1_0 := k1.cell 0
            have d_k1_1 := k1.cell 1
            go_wp2_with fail
            clear d_k1_0 d_k1_1
            refine (fCkClash b A n c ps A2 _ cap2 _ _ h_p (by omega) hc h_r (by omega) 5 HCI).mono ?_
            rintro e w14 ⟨rfl, hb⟩
            have Bw14 : Below w.heap.size w w14 := Bv2.trans (hb.mono Bv2.size)
            replace h_y := h_y.next hb (Nat.le_refl _) hb.size
            replace h_p := h_p.next hb (Nat.le_refl _) hb.size
            replace k1 := k1.below hb k1.lt
            replace h_l := h_l.next hb (Nat.le_refl _) hb.size
            replace Bl := Bl.trans (hb.mono Bl.size)
            replace h_r := h_r.next hb (Nat.le_refl _) hb.size
            clear Bv2
            clear hb
            go_wp2
            go_roundw
            case rel => exact ⟨j1, by omega, by go_num, Bl⟩
            case measure => simp [intOf]; have := HK1.out; omega
        · have d_k1_0 := k1.cell 0
          have d_k1_1 := k1.cell 1
          go_wp2_with fail
          clear d_k1_0 d_k1_1
          refine (aWorks _).mono ?_
          rintro e w13 ⟨rfl, hb⟩
          have Bw13 : Below w.heap.size w w13 := Bw12.trans (hb.mono Bw12.size)
          replace h_y := h_y.next hb (Nat.le_refl _) hb.size
          replace h_p := h_p.next hb (Nat.le_refl _) hb.size
          replace k1 := k1.below hb k1.lt
          replace h_l := h_l.next hb (Nat.le_refl _) hb.size
          replace Bl := Bl.trans (hb.mono Bl.size)
          clear Bw12
          clear hb
          go_wp2
          go_ret
          exact ⟨rfl, Bw13⟩


set_option maxRecDepth 100000 in
theorem RoundEither_lifted (os : Go.Os) (started : os.Started) (H : Type) (enc : TypeId × Value → H) :
    ReturnsInHanded {} Try.checked os 9 .any (Rows.roundEitherSpec.pre6 enc Try.prog Try.f9 Rows.roundEitherRow.domain false) (Rows.roundEitherSpec.post enc Try.prog Try.f9 false true false false) := by
  refine returnsInHanded_of_change (C := Try.checked) row_own started (by kernel_rfl) Try.func9
    (ChangeSpec.witness6 (enc := enc) (C := Try.checked) false ⟨#[], #[.agg #[.int .i64 0, .slice none 0 0], .slice none 0 0, .int .u16 0], []⟩ 8 (by kernel_rfl) (by kernel_rfl) (by kernel_rfl) (by kernel_rfl)) ?_
  intro W base args ds gs before hval0 hW _ _
  have hval : ∀ (j : Nat) t v, Try.f9.params[j]? = some t → args[j]? = some v → Value.okWide Try.prog W .any base t v := hval0
  have hW' := hW
  obtain ⟨p, q, hA0, hV, rfl, _, _⟩ := hW
  have hA : DataW.TrodAll enc Try.prog W 0 (fun _ => true) true Try.f9.params.toList args.toList ds p := hA0
  rw [Try.params9] at hA hval
  obtain ⟨v0, v1, v2, d0, d1, d2, p0, p1, p2, rfl, rfl, rfl, h0, h1, h2⟩ := trodAll_three hA
  obtain ⟨rfl, rfl⟩ := trodVars_none hV
  clear hA0 hval0
  simp only [List.append_nil] at hW'
  have hlt : ∀ x ∈ (p0 ++ p1 ++ p2), x.block < W.heap.size := fun x hx => by simpa using hW'.lt x hx
  have a0 := fun W' (hb : Below W.heap.size W W') => row_stays (t := 24) (by kernel_rfl) (of_decide_eq_true (by kernel_rfl)) h0 (fun x hx => hlt x (by simp [hx])) hb
  have a1 := fun W' (hb : Below W.heap.size W W') => row_stays (t := 55) (by kernel_rfl) (of_decide_eq_true (by kernel_rfl)) h1 (fun x hx => hlt x (by simp [hx])) hb
  have a2 := fun W' (hb : Below W.heap.size W W') => row_stays (t := 58) (by kernel_rfl) (of_decide_eq_true (by kernel_rfl)) h2 (fun x hx => hlt x (by simp [hx])) hb
  obtain ⟨b0, A0, n0, c0, ps0, rfl, hc0, hm0, hx0⟩ := row_pier (hval 0 24 v0 rfl rfl) h0 (fun x hx => hlt x (by simp [hx]))
  obtain ⟨A1, n1, c1, xs1, rfl, hc1, hm1, hx1, hw1⟩ := row_ints (t := 55) (e := 5) (k := .u8) (by kernel_rfl) (by kernel_rfl) (by kernel_rfl) (hval 1 55 v1 rfl rfl) h1 (fun x hx => hlt x (by simp [hx]))
  obtain ⟨x2, rfl, _, _, wx2⟩ := open_int (P := Try.prog) (k := .u16) (t := 58) (by kernel_rfl) (hval 2 58 v2 rfl rfl) h2
  refine (wEither b0 A0 n0 c0 ps0 A1 n1 c1 xs1 x2 (u16_lo wx2) (u16_hi wx2) W hx0 hc0 (Ru.of_row hx1 hw1)).mono fun e W' ⟨he, hb⟩ => ?_
  subst he
  exact ⟨_, rfl, _, _, _, [], (p0 ++ p1 ++ p2), [], hW', trodAll_mk1 (shut_bool Try.underlying4 true), (by simp only [List.append_assoc]; exact trodAll_mk3 (a0 _ hb) (a1 _ hb) (a2 _ hb)), rfl, hb.frame _, fun h => by cases h⟩
theorem RoundEither_holds : Rows.RoundEitherSaid :=
  OpenClaim.holds_of_wide 9 Try.f9 rfl rfl rfl rfl rfl rfl rfl ⟨rfl, rfl, rfl, rfl, rfl⟩ rfl rfl rfl rfl rfl (by kernel_rfl) Try.func9 (by kernel_rfl)
    (of_decide_eq_true (by kernel_rfl)) (by unfold Func.isWrapper; first | (rw [if_pos (by decide +kernel)]; kernel_rfl) | (rw [if_neg (by decide +kernel)]; exact ⟨rfl, rfl⟩))
    (fun os started H enc _ => RoundEither_lifted os started H enc)
#print axioms RoundEither_holds
end Go.Proofs.Ytaekjnjignlmoaa
