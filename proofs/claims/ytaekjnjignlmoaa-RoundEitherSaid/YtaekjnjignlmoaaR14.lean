/-
  The reference: 'Clashes'. Printed by gen_r14.py.
-/
import Derived.Test.YtaekjnjignlmoaaR7
import Derived.Test.YtaekjnjignlmoaaR5
namespace Go.Proofs.Ytaekjnjignlmoaa
open Go.RowKit Go.Shelf

set_option maxRecDepth 100000 in
set_option maxHeartbeats 8000000 in
theorem rClashes (b : Int) (A : Option Addr) (n c : Nat) (ps : List (Int × Int)) (S : Option Addr) (m ds : Nat) (l : List Nat) (w : World) (h_p : Rp w w.heap.size A n ps) (HP : Hid (Pier b ps)) (h_s : Ri w w.heap.size S m (ofN l)) (hm : m ≤ 1048576) (HA : Hid (∀ i ∈ l, i < n)) :
    Calls Try.prog 95 #[.agg #[.int .i64 b, .slice A n c], .slice S m ds] w (RetB w (clashB b ps l)) := by
  have HL := Lib.hid h_p.len
  have HLL : Hid (l.length = m) := Lib.hid (by rw [← ofN_length]; exact h_s.len)
  have hn1 : 1 ≤ n := by rw [← HL.out]; exact HP.out.lo
  have hn10 : n ≤ 10 := by rw [← HL.out]; exact HP.out.hi
  have hmix : Try.prog.follows .mixedOrders = true := by kernel_rfl
  have k1 := Bk.new w 24 #[.int .i64 b, .slice A n c]
  have hb : Below w.heap.size w (w.alloc (.cells #[.int .i64 b, .slice A n c] 24)) := (Below.refl _ _).alloc (Nat.le_refl _) _
  have q0 := k1.cell 0
  have q1 := k1.cell 1
  go_enter Try.func95, Try.ntmps95
  go_wp2_with fail
  clear q0 q1
  obtain ⟨u1, hu⟩ : ∃ k, w.heap.size = k := ⟨_, rfl⟩
  obtain ⟨w1, hW⟩ : ∃ W, w.alloc (.cells #[.int .i64 b, .slice A n c] 24) = W := ⟨_, rfl⟩
  rw [hW] at k1 hb ⊢
  rw [hu] at k1 ⊢
  clear hW
  have HU := Lib.hid hu
  clear hu
  have Bw1 : Below w.heap.size w w1 := hb
  replace h_p := h_p.next hb (Nat.le_refl _) hb.size
  replace h_s := h_s.next hb (Nat.le_refl _) hb.size
  clear hb
  obtain ⟨NA, HNA⟩ : ∃ N, Hid ((allR b ps).length = N) := ⟨_, Lib.hid rfl⟩
  have hNAb : NA ≤ 252 := by rw [← HNA.out]; exact allR_many HP.out
  refine (rAll b A n c ps _ h_p HP NA HNA).mono ?_
  rintro e w2 ⟨Al, cl, rfl, hro, hb⟩
  have Bw2 : Below w.heap.size w w2 := Bw1.trans (hb.mono Bw1.size)
  replace h_p := h_p.next hb (Nat.le_refl _) hb.size
  replace h_s := h_s.next hb (Nat.le_refl _) hb.size
  replace k1 := k1.below hb k1.lt
  clear Bw1
  clear hb
  have h_l := hro.rrj (Nat.le_refl _)
  clear hro
  have d_k1_0 := k1.cell 0
  have d_k1_1 := k1.cell 1
  go_wp2
  clear d_k1_0 d_k1_1
  go_loopw [6] (fun i wr => ∃ k : Nat, k ≤ NA ∧ i = .int .i64 (k : Int) ∧ Hid (((allR b ps).take k).all (lateIn b ps l) = true) ∧ Below w2.heap.size w2 wr) (fun i _ => NA - (intOf i).toNat)
  case atStart => exact ⟨0, Nat.zero_le _, rfl, Lib.hid rfl, Below.refl _ _⟩
  case round =>
    obtain ⟨k, hk, rfl, HNO, hb⟩ := hrel
    obtain ⟨w3, hW⟩ : ∃ W : World, wr = W := ⟨_, rfl⟩
    rw [hW] at hb ⊢
    clear hW
    have Bl := hb
    have Bw3 : Below w.heap.size w w3 := Bw2.trans (hb.mono Bw2.size)
    replace h_p := h_p.next hb (Nat.le_refl _) hb.size
    replace h_s := h_s.next hb (Nat.le_refl _) hb.size
    replace k1 := k1.below hb k1.lt
    replace h_l := h_l.below hb
    clear Bw2
    clear hb
    by_cases hlt : k < NA
    · obtain ⟨ad, gr, cg, L, rfl, _, _, cl0, HLk, hrow⟩ := h_l.at_ hlt
      obtain ⟨y, HLl⟩ : ∃ y, Hid ((allR b ps)[k]? = some y) := ⟨_, Lib.hid (List.getElem?_eq_getElem (by rw [HNA.out]; exact hlt))⟩
      have HLo : Hid (L = ofN y) := Lib.hid (by
        have h1 := HLk.out
        rw [List.getElem?_map, HLl.out] at h1
        exact (Option.some.inj h1).symm)
      rw [HLo.out] at hrow
      have HAl : Hid (y ∈ allR b ps) := Lib.hid (List.mem_of_getElem? HLl.out)
      have h_r := hrow.ri
      clear hrow
      obtain ⟨T, HT⟩ : ∃ T, Hid ((stepsL b ps y).take n = T) := ⟨_, Lib.hid rfl⟩
      have HTN : Hid (T.length = n) := Lib.hid (by
        obtain ⟨s, hs, hk, _⟩ := full_round HP.out HAl.out
        rw [← HT.out, stepsL_some hs, List.length_take, hk.out]
        omega)
      obtain ⟨f, HF⟩ : ∃ f : Nat → Bool, Hid (f = fun i => decide (too ps i < nth T i)) := ⟨_, Lib.hid rfl⟩
      have HFL : Hid (l.any f = lateIn b ps l y) := Lib.hid (by
        unfold lateIn
        rw [Bool.eq_iff_iff, List.any_eq_true, List.any_eq_true]
        rw [HF.out, ← HT.out]
        refine ⟨fun ⟨i, hi, h⟩ => ⟨i, hi, ?_⟩, fun ⟨i, hi, h⟩ => ⟨i, hi, ?_⟩⟩
        · have h2 := nth_take (xs := stepsL b ps y) (HA.out i hi)
          dsimp only at h
          rwa [h2] at h
        · have h2 := nth_take (xs := stepsL b ps y) (HA.out i hi)
          dsimp only
          rwa [h2])
      have HSN : Hid (((allR b ps).take (k + 1)).all (lateIn b ps l) = lateIn b ps l y) := Lib.hid (by
        rw [take_snoc HLl.out, List.all_append, HNO.out]
        simp)
      have d_k1_0 := k1.cell 0
      have d_k1_1 := k1.cell 1
      go_wp2
      clear d_k1_0 d_k1_1
      have e_k1_0 := k1.drew.cell 0
      have e_k1_1 := k1.drew.cell 1
      have e_cl0 : w3.drew.cell? (ad.add k) = some (.slice (some ⟨gr, 0, none⟩) n cg) := cl0
      refine wp_region_noPanic ?_
      refine wp_region_held_drew (S := fun V => V.cell? ⟨u1, 0, none⟩ = some (.int .i64 b) ∧ V.cell? ⟨u1, 1, none⟩ = some (.slice A n c) ∧ V.cell? (ad.add k) = some (.slice (some ⟨gr, 0, none⟩) n cg)) hmix ⟨e_k1_0, e_k1_1, e_cl0⟩ (fun hS => ?_)
      clear e_k1_0 e_k1_1 e_cl0
      obtain ⟨w4, hW⟩ : ∃ W, w3.drew = W := ⟨_, rfl⟩
      have hb : Below w3.heap.size w3 w4 := hW ▸ below_drewN (Below.refl _ _) 1
      rw [hW] at hS ⊢
      clear hW
      have Bw4 : Below w.heap.size w w4 := Bw3.trans (hb.mono Bw3.size)
      replace h_p := h_p.next hb (Nat.le_refl _) hb.size
      replace h_s := h_s.next hb (Nat.le_refl _) hb.size
      replace k1 := k1.below hb k1.lt
      replace h_l := h_l.below hb
      replace Bl := Bl.trans (hb.mono Bl.size)
      replace h_r := h_r.next hb (Nat.le_refl _) hb.size
      replace cl0 := (hb.cell (World.block_lt_of_cell? _ _ cl0)).trans cl0
      clear Bw3
      clear hb
      refine wpAnyH_take (i := 0) (v := ?_) rfl (by kernel_rfl) (by kernel_rfl) (by kernel_rfl) (fun _ _ _ h => h) (Or.inl ⟨by rfl, ?_⟩) hS ?_
      rotate_left
      · intro w hSw
        (try dsimp only at hSw)
        go_simp
        (try with_reducible rfl)
      try simp (maxSteps := 10000000) only [Act.put, List.setIfInBounds_toArray, List.set_cons_zero, List.set_cons_succ, List.getElem_toArray, List.getElem_cons_zero]
      refine wpAnyH_take (i := 1) (v := ?_) rfl (by kernel_rfl) (by kernel_rfl) (by kernel_rfl) (fun _ _ _ h => h) (Or.inl ⟨by rfl, ?_⟩) hS ?_
      rotate_left
      · intro w hSw
        (try dsimp only at hSw)
        go_simp
        (try with_reducible rfl)
      try simp (maxSteps := 10000000) only [Act.put, List.setIfInBounds_toArray, List.set_cons_zero, List.set_cons_succ, List.getElem_toArray, List.getElem_cons_zero, List.getElem_cons_succ]
      refine wpAnyH_take (i := 2) (v := ?_) rfl (by kernel_rfl) (by kernel_rfl) (by kernel_rfl) (fun _ _ _ h => h) (Or.inl ⟨by rfl, ?_⟩) hS ?_
      rotate_left
      · intro w hSw
        (try dsimp only at hSw)
        go_simp
        (try with_reducible rfl)
      try simp (maxSteps := 10000000) only [Act.put, List.setIfInBounds_toArray, List.set_cons_zero, List.set_cons_succ, List.getElem_toArray, List.getElem_cons_zero, List.getElem_cons_succ]
      refine wpAnyH_take (i := 3) (v := ?_) rfl (by kernel_rfl) (by kernel_rfl) (by kernel_rfl) (fun _ _ _ h => h) (Or.inl ⟨by rfl, ?_⟩) hS ?_
      rotate_left
      · intro w hSw
        (try dsimp only at hSw)
        go_simp
        (try with_reducible rfl)
      try simp (maxSteps := 10000000) only [Act.put, List.setIfInBounds_toArray, List.set_cons_zero, List.set_cons_succ, List.getElem_toArray, List.getElem_cons_zero, List.getElem_cons_succ]
      refine wpAnyH_take (i := 4) (v := ?_) rfl (by kernel_rfl) (by kernel_rfl) (by kernel_rfl) (fun _ _ _ h => h) (Or.inl ⟨by rfl, ?_⟩) hS ?_
      rotate_left
      · intro w hSw
        (try dsimp only at hSw)
        go_simp
        (try with_reducible rfl)
      try simp (maxSteps := 10000000) only [Act.put, List.setIfInBounds_toArray, List.set_cons_zero, List.set_cons_succ, List.getElem_toArray, List.getElem_cons_zero, List.getElem_cons_succ]
      refine wpAnyH_ready (rs := [5]) (by kernel_rfl) (by simp) ?_
      refine AllReadyH.cons rfl (fun K hK => ?_) AllReadyH.nil
      go_simp
      refine (rStepsOf b A n c ps _ n cg y _ h_p HP h_r HAl T HT).mono ?_
      rintro e w5 ⟨As, ns, cs, rfl, ho, hb⟩
      have Bw5 : Below w.heap.size w w5 := Bw4.trans (hb.mono Bw4.size)
      replace h_p := h_p.next hb (Nat.le_refl _) hb.size
      replace h_s := h_s.next hb (Nat.le_refl _) hb.size
      replace k1 := k1.below hb k1.lt
      replace h_l := h_l.below hb
      replace Bl := Bl.trans (hb.mono Bl.size)
      replace h_r := h_r.next hb (Nat.le_refl _) hb.size
      replace cl0 := (hb.cell (World.block_lt_of_cell? _ _ cl0)).trans cl0
      clear Bw4
      clear hb
      have h_t := ho.ri
      clear ho
      refine hK.out _ _ ⟨k1.cell 0, k1.cell 1, cl0⟩ (fun hS => ?_)
      clear hK K
      try simp (maxSteps := 10000000) only [Act.put, List.setIfInBounds_toArray, List.set_cons_zero, List.set_cons_succ, List.getElem_toArray, List.getElem_cons_zero, List.getElem_cons_succ]
      refine wpAnyH_take (i := 6) (v := ?_) rfl (by kernel_rfl) (by kernel_rfl) (by kernel_rfl) (fun _ _ _ h => h) (Or.inl ⟨by rfl, ?_⟩) hS ?_
      rotate_left
      · intro w hSw
        (try dsimp only at hSw)
        go_simp
        (try with_reducible rfl)
      try simp (maxSteps := 10000000) only [Act.put, List.setIfInBounds_toArray, List.set_cons_zero, List.set_cons_succ, List.getElem_toArray, List.getElem_cons_zero, List.getElem_cons_succ]
      refine wpAnyH_done (by kernel_rfl) (NoPanic.normal ?_) _
      clear hS
      clear h_r
      clear cl0
      obtain rfl : ns = n := by rw [← h_t.len]; exact HTN.out
      have d_k1_0 := k1.cell 0
      have d_k1_1 := k1.cell 1
      go_wp2
      clear d_k1_0 d_k1_1
      have d0 := k1.cell 0
      have d1 : w5.cell? ⟨u1, 1, none⟩ = some (.slice A ns c) := k1.cell 1
      obtain ⟨V, hV⟩ : ∃ V : World, V = w5 := ⟨_, rfl⟩
      go_loopw [8, 9] (fun lt j wr => ∃ jN dd : Nat, jN ≤ m ∧ j = .int .i64 (jN : Int) ∧ lt = .bool ((l.take jN).any f) ∧ wr = w5.drewN dd) (fun _ j _ => m - (intOf j).toNat)
      case atStart => exact ⟨0, 0, Nat.zero_le _, rfl, rfl, rfl⟩
      case round =>
        obtain ⟨jN, dd, hj, rfl, rfl, rfl⟩ := hrel
        obtain ⟨ev, HEV⟩ : ∃ ev : Bool, Hid ((l.take jN).any f = ev) := ⟨_, Lib.hid rfl⟩
        rw [HEV.out]
        by_cases hltj : jN < m
        · obtain ⟨ad1, x1, rfl, _, p1, hx1, _⟩ := h_s.at_ hltj
          obtain ⟨i, hi1, rfl⟩ := ofN_at hx1.out
          have HI := Lib.hid hi1
          have hin : i < ns := HA.out i (List.mem_of_getElem? hi1)
          clear hi1 hx1
          have HNX : Hid ((l.take (jN + 1)).any f = (ev || f i)) := Lib.hid (by
            rw [take_snoc HI.out, List.any_append, HEV.out]
            simp)
          cases ev
          · obtain ⟨ad2, t2, rfl, _, p2, ht2, _⟩ := h_t.at_ hin
            obtain ⟨ad3, rfl, _, _, p3⟩ := h_p.at2 hin
            obtain ⟨z, HZ⟩ : ∃ z, Hid (too ps i = z) := ⟨_, Lib.hid rfl⟩
            rw [HZ.out] at p3
            have HT2 : Hid (nth T i = t2) := Lib.hid (nth_some ht2.out)
            clear ht2
            obtain ⟨r, HR⟩ : ∃ r : Bool, Hid (decide (z < t2) = r) := ⟨_, Lib.hid rfl⟩
            have HNY : Hid ((l.take (jN + 1)).any f = r) := Lib.hid (by
              rw [HNX.out, HF.out, ← HR.out, ← HT2.out, ← HZ.out]
              rfl)
            have hr := HR.out
            cases r
            all_goals
              go_wp2
              go_quiet (fail)
              go_wp2
              go_roundw
              case rel => exact ⟨jN + 1, _, by omega, by go_num, by rw [HNY.out], rfl⟩
              case measure => simp [intOf]; omega
          · go_wp2
            go_quiet (fail)
            go_wp2
            go_roundw
            case rel => exact ⟨jN + 1, _, by omega, by go_num, by rw [HNX.out]; rfl, rfl⟩
            case measure => simp [intOf]; omega
        · have HE : Hid (ev = lateIn b ps l y) := Lib.hid (by
            rw [← HFL.out, ← HEV.out, List.take_of_length_le (by rw [HLL.out]; omega)])
          obtain ⟨w6, hW⟩ : ∃ W : World, w5.drewN dd = W := ⟨_, rfl⟩
          have hb : Below w5.heap.size w5 w6 := hW ▸ below_drewN (Below.refl _ _) dd
          rw [hW]
          clear hW d0 d1 hV
          have Bw6 : Below w.heap.size w w6 := Bw5.trans (hb.mono Bw5.size)
          replace h_p := h_p.next hb (Nat.le_refl _) hb.size
          replace h_s := h_s.next hb (Nat.le_refl _) hb.size
          replace k1 := k1.below hb k1.lt
          replace h_l := h_l.below hb
          replace Bl := Bl.trans (hb.mono Bl.size)
          replace h_t := h_t.next hb (Nat.le_refl _) hb.size
          clear Bw5
          clear hb
          cases ev
          · have HE2 : Hid (clashB b ps l = false) := Lib.hid (by
              unfold clashB
              rw [← Bool.not_eq_true, List.all_eq_true]
              intro h
              have h1 := h y HAl.out
              rw [← HE.out] at h1
              cases h1)
            go_wp2
            go_ret
            exact ⟨ret_b HE2.out.symm, Bw6⟩
          · have HN2 : Hid (((allR b ps).take (k + 1)).all (lateIn b ps l) = true) := Lib.hid (by rw [HSN.out, ← HE.out])
            go_wp2
            go_roundw
            case rel => exact ⟨k + 1, by omega, by go_num, HN2, Bl⟩
            case measure => simp [intOf]; omega
    · have HE : Hid (clashB b ps l = true) := Lib.hid (by
        have h := HNO.out
        rwa [List.take_of_length_le (by rw [HNA.out]; omega)] at h)
      go_wp2
      go_ret
      exact ⟨ret_b HE.out.symm, Bw3⟩
end Go.Proofs.Ytaekjnjignlmoaa
