/-
  The reference: 'lateBits'. Printed by gen_r18.py.
-/
import Derived.Test.YtaekjnjignlmoaaR7
import Derived.Test.YtaekjnjignlmoaaR5
import Derived.Test.YtaekjnjignlmoaaR16
namespace Go.Proofs.Ytaekjnjignlmoaa
open Go.RowKit Go.Shelf

/-- Bits: which of the first numbers a test holds of. -/
def lateN (f : Nat → Bool) : Nat → Nat
  | 0 => 0
  | k + 1 => if f k then lateN f k ||| 2 ^ k else lateN f k
theorem lateN_congr {f g : Nat → Bool} : ∀ k : Nat, (∀ i : Nat, i < k → f i = g i) → lateN f k = lateN g k
  | 0, _ => rfl
  | k + 1, h => by rw [lateN, lateN, h k (by omega), lateN_congr k (fun i hi => h i (by omega))]
theorem lateN_lt (f : Nat → Bool) : ∀ k : Nat, lateN f k < 2 ^ k
  | 0 => by simp [lateN]
  | k + 1 => by
    have h1 := lateN_lt f k
    have h2 : 2 ^ k < 2 ^ (k + 1) := Nat.pow_lt_pow_right (by omega) (by omega)
    rw [lateN]
    split
    · exact Nat.or_lt_two_pow (by omega) h2
    · omega
theorem lateN_bit (f : Nat → Bool) : ∀ (k i : Nat), (lateN f k).testBit i = (decide (i < k) && f i)
  | 0, i => by simp [lateN]
  | k + 1, i => by
    have ih := lateN_bit f k i
    rw [lateN]
    by_cases hf : f k = true
    · rw [if_pos hf, Nat.testBit_or, ih, Nat.testBit_two_pow]
      rcases Nat.lt_trichotomy i k with h | h | h
      · simp [show i < k + 1 by omega, h, show ¬ k = i by omega]
      · subst h; simp [hf]
      · simp [show ¬ i < k + 1 by omega, show ¬ i < k by omega, show ¬ k = i by omega]
    · rw [if_neg hf, ih]
      rcases Nat.lt_trichotomy i k with h | h | h
      · simp [show i < k + 1 by omega, h]
      · subst h; simp [Bool.not_eq_true _ ▸ hf]
      · simp [show ¬ i < k + 1 by omega, show ¬ i < k by omega]
/-- Which stops are late in a round, by bits. -/
def bitsR (b : Int) (ps : List (Int × Int)) (n : Nat) (y : List Nat) : Nat := lateN (fun i => decide (too ps i < nth (stepsL b ps y) i)) n
def lateBitsR (b : Int) (ps : List (Int × Int)) (n : Nat) : List Nat := (allR b ps).map (bitsR b ps n)
set_option maxRecDepth 100000 in
set_option maxHeartbeats 8000000 in
theorem rLateBits (b : Int) (A : Option Addr) (n c : Nat) (ps : List (Int × Int)) (w : World) (h_p : Rp w w.heap.size A n ps) (HP : Hid (Pier b ps)) (NA : Nat) (HNA : Hid ((allR b ps).length = NA)) :
    Calls Try.prog 91 #[.agg #[.int .i64 b, .slice A n c]] w fun e w' => ∃ (A : Option Addr) (c : Nat), e = .returned (.slice A NA c) ∧ Oj w' w.heap.size A NA c (ofN (lateBitsR b ps n)) ∧ Below w.heap.size w w' := by
  have HL := Lib.hid h_p.len
  have hn1 : 1 ≤ n := by rw [← HL.out]; exact HP.out.lo
  have hn10 : n ≤ 10 := by rw [← HL.out]; exact HP.out.hi
  have hmix : Try.prog.follows .mixedOrders = true := by kernel_rfl
  have k1 := Bk.new w 24 #[.int .i64 b, .slice A n c]
  have hb : Below w.heap.size w (w.alloc (.cells #[.int .i64 b, .slice A n c] 24)) := (Below.refl _ _).alloc (Nat.le_refl _) _
  have q0 := k1.cell 0
  have q1 := k1.cell 1
  go_enter Try.func91, Try.ntmps91
  go_wp2_with fail
  clear q0 q1
  obtain ⟨u1, hu⟩ : ∃ k, w.heap.size = k := ⟨_, rfl⟩
  obtain ⟨w1, hW⟩ : ∃ W, w.alloc (.cells #[.int .i64 b, .slice A n c] 24) = W := ⟨_, rfl⟩
  rw [hW] at k1 hb ⊢
  rw [hu] at k1 ⊢
  clear hW
  have HU := Lib.hid hu
  clear hu
  have Bw1 : Below w.heap.size w w1 := hb
  replace h_p := h_p.next hb (Nat.le_refl _) hb.size
  clear hb
  have hNAb : NA ≤ 252 := by rw [← HNA.out]; exact allR_many HP.out
  refine (rAll b A n c ps _ h_p HP NA HNA).mono ?_
  rintro e w2 ⟨Al, cl, rfl, hro, hb⟩
  have Bw2 : Below w.heap.size w w2 := Bw1.trans (hb.mono Bw1.size)
  replace h_p := h_p.next hb (Nat.le_refl _) hb.size
  replace k1 := k1.below hb k1.lt
  clear Bw1
  clear hb
  have h_l := hro.rrj (Nat.le_refl _)
  clear hro
  have d_k1_0 := k1.cell 0
  have d_k1_1 := k1.cell 1
  go_wp2
  clear d_k1_0 d_k1_1
  have hwl : w.heap.size ≤ w2.heap.size := Bw2.size
  go_loopw [4, 5] (fun o i wr => ∃ (k : Nat) (A' : Option Addr) (c' : Nat), k ≤ NA ∧ i = .int .i64 (k : Int) ∧ o = .slice A' k c' ∧ Oj wr w2.heap.size A' k c' (ofN (((allR b ps).take k).map (bitsR b ps n))) ∧ Below w2.heap.size w2 wr) (fun _ i _ => NA - (intOf i).toNat)
  case atStart => exact ⟨0, none, 0, Nat.zero_le _, rfl, rfl, Oj.nil_ _ _, Below.refl _ _⟩
  case round =>
    obtain ⟨k, A', c', hk, rfl, rfl, hout, hb⟩ := hrel
    have hAb : ∀ r, A'.map Addr.block = some r → w2.heap.size ≤ r := fun r e => (hout.lt r e).1
    have hsz : w2.heap.size ≤ wr.heap.size := hb.size
    obtain ⟨w3, hW⟩ : ∃ W : World, wr = W := ⟨_, rfl⟩
    rw [hW] at hb hout hsz ⊢
    clear hW
    have Bl := hb
    have Bw3 : Below w.heap.size w w3 := Bw2.trans (hb.mono Bw2.size)
    replace h_p := h_p.next hb (Nat.le_refl _) hb.size
    replace k1 := k1.below hb k1.lt
    replace h_l := h_l.below hb
    clear Bw2
    clear hb
    by_cases hlt : k < NA
    · obtain ⟨ad, gr, cg, L, rfl, _, _, cl0, HLk, hrow⟩ := h_l.at_ hlt
      obtain ⟨y, HLl⟩ : ∃ y, Hid ((allR b ps)[k]? = some y) := ⟨_, Lib.hid (List.getElem?_eq_getElem (by rw [HNA.out]; exact hlt))⟩
      have HLo : Hid (L = ofN y) := Lib.hid (by
        have h1 := HLk.out
        rw [List.getElem?_map, HLl.out] at h1
        exact (Option.some.inj h1).symm)
      rw [HLo.out] at hrow
      have HAl : Hid (y ∈ allR b ps) := Lib.hid (List.mem_of_getElem? HLl.out)
      have h_r := hrow.ri
      clear hrow
      obtain ⟨T, HT⟩ : ∃ T, Hid ((stepsL b ps y).take n = T) := ⟨_, Lib.hid rfl⟩
      have HTN : Hid (T.length = n) := Lib.hid (by
        obtain ⟨s, hs, hk, _⟩ := full_round HP.out HAl.out
        rw [← HT.out, stepsL_some hs, List.length_take, hk.out]
        omega)
      obtain ⟨f, HF⟩ : ∃ f : Nat → Bool, Hid ((fun i => decide (too ps i < nth T i)) = f) := ⟨_, Lib.hid rfl⟩
      have HFL : Hid (lateN f n = bitsR b ps n y) := Lib.hid (by
        unfold bitsR
        refine lateN_congr n fun i hi => ?_
        rw [← HF.out, ← HT.out]
        dsimp only
        rw [nth_take (xs := stepsL b ps y) hi])
      have HSN : Hid (ofN (((allR b ps).take (k + 1)).map (bitsR b ps n)) = ofN (((allR b ps).take k).map (bitsR b ps n)) ++ [((bitsR b ps n y : Nat) : Int)]) := Lib.hid (by
        rw [take_snoc HLl.out, List.map_append, ofN_append]
        rfl)
      have d_k1_0 := k1.cell 0
      have d_k1_1 := k1.cell 1
      go_wp2
      clear d_k1_0 d_k1_1
      have e_k1_0 := k1.drew.cell 0
      have e_k1_1 := k1.drew.cell 1
      have e_cl0 : w3.drew.cell? (ad.add k) = some (.slice (some ⟨gr, 0, none⟩) n cg) := cl0
      refine wp_region_noPanic ?_
      refine wp_region_held_drew (S := fun V => V.cell? ⟨u1, 0, none⟩ = some (.int .i64 b) ∧ V.cell? ⟨u1, 1, none⟩ = some (.slice A n c) ∧ V.cell? (ad.add k) = some (.slice (some ⟨gr, 0, none⟩) n cg)) hmix ⟨e_k1_0, e_k1_1, e_cl0⟩ (fun hS => ?_)
      clear e_k1_0 e_k1_1 e_cl0
      obtain ⟨w4, hW⟩ : ∃ W, w3.drew = W := ⟨_, rfl⟩
      have hb : Below w3.heap.size w3 w4 := hW ▸ below_drewN (Below.refl _ _) 1
      rw [hW] at hS ⊢
      clear hW
      have Bw4 : Below w.heap.size w w4 := Bw3.trans (hb.mono Bw3.size)
      replace h_p := h_p.next hb (Nat.le_refl _) hb.size
      replace k1 := k1.below hb k1.lt
      replace h_l := h_l.below hb
      replace Bl := Bl.trans (hb.mono Bl.size)
      replace hout := hout.below hb
      replace h_r := h_r.next hb (Nat.le_refl _) hb.size
      replace cl0 := (hb.cell (World.block_lt_of_cell? _ _ cl0)).trans cl0
      clear Bw3
      clear hb
      refine wpAnyH_take (i := 0) (v := ?_) rfl (by kernel_rfl) (by kernel_rfl) (by kernel_rfl) (fun _ _ _ h => h) (Or.inl ⟨by rfl, ?_⟩) hS ?_
      rotate_left
      · intro w hSw
        (try dsimp only at hSw)
        go_simp
        (try with_reducible rfl)
      try simp (maxSteps := 10000000) only [Act.put, List.setIfInBounds_toArray, List.set_cons_zero, List.set_cons_succ, List.getElem_toArray, List.getElem_cons_zero]
      refine wpAnyH_take (i := 1) (v := ?_) rfl (by kernel_rfl) (by kernel_rfl) (by kernel_rfl) (fun _ _ _ h => h) (Or.inl ⟨by rfl, ?_⟩) hS ?_
      rotate_left
      · intro w hSw
        (try dsimp only at hSw)
        go_simp
        (try with_reducible rfl)
      try simp (maxSteps := 10000000) only [Act.put, List.setIfInBounds_toArray, List.set_cons_zero, List.set_cons_succ, List.getElem_toArray, List.getElem_cons_zero, List.getElem_cons_succ]
      refine wpAnyH_take (i := 2) (v := ?_) rfl (by kernel_rfl) (by kernel_rfl) (by kernel_rfl) (fun _ _ _ h => h) (Or.inl ⟨by rfl, ?_⟩) hS ?_
      rotate_left
      · intro w hSw
        (try dsimp only at hSw)
        go_simp
        (try with_reducible rfl)
      try simp (maxSteps := 10000000) only [Act.put, List.setIfInBounds_toArray, List.set_cons_zero, List.set_cons_succ, List.getElem_toArray, List.getElem_cons_zero, List.getElem_cons_succ]
      refine wpAnyH_take (i := 3) (v := ?_) rfl (by kernel_rfl) (by kernel_rfl) (by kernel_rfl) (fun _ _ _ h => h) (Or.inl ⟨by rfl, ?_⟩) hS ?_
      rotate_left
      · intro w hSw
        (try dsimp only at hSw)
        go_simp
        (try with_reducible rfl)
      try simp (maxSteps := 10000000) only [Act.put, List.setIfInBounds_toArray, List.set_cons_zero, List.set_cons_succ, List.getElem_toArray, List.getElem_cons_zero, List.getElem_cons_succ]
      refine wpAnyH_take (i := 4) (v := ?_) rfl (by kernel_rfl) (by kernel_rfl) (by kernel_rfl) (fun _ _ _ h => h) (Or.inl ⟨by rfl, ?_⟩) hS ?_
      rotate_left
      · intro w hSw
        (try dsimp only at hSw)
        go_simp
        (try with_reducible rfl)
      try simp (maxSteps := 10000000) only [Act.put, List.setIfInBounds_toArray, List.set_cons_zero, List.set_cons_succ, List.getElem_toArray, List.getElem_cons_zero, List.getElem_cons_succ]
      refine wpAnyH_ready (rs := [5]) (by kernel_rfl) (by simp) ?_
      refine AllReadyH.cons rfl (fun K hK => ?_) AllReadyH.nil
      go_simp
      refine (rStepsOf b A n c ps _ n cg y _ h_p HP h_r HAl T HT).mono ?_
      rintro e w5 ⟨As, ns, cs, rfl, ho, hb⟩
      have Bw5 : Below w.heap.size w w5 := Bw4.trans (hb.mono Bw4.size)
      replace h_p := h_p.next hb (Nat.le_refl _) hb.size
      replace k1 := k1.below hb k1.lt
      replace h_l := h_l.below hb
      replace Bl := Bl.trans (hb.mono Bl.size)
      replace hout := hout.below hb
      replace h_r := h_r.next hb (Nat.le_refl _) hb.size
      replace cl0 := (hb.cell (World.block_lt_of_cell? _ _ cl0)).trans cl0
      clear Bw4
      clear hb
      have h_t := ho.ri
      clear ho
      refine hK.out _ _ ⟨k1.cell 0, k1.cell 1, cl0⟩ (fun hS => ?_)
      clear hK K
      try simp (maxSteps := 10000000) only [Act.put, List.setIfInBounds_toArray, List.set_cons_zero, List.set_cons_succ, List.getElem_toArray, List.getElem_cons_zero, List.getElem_cons_succ]
      refine wpAnyH_take (i := 6) (v := ?_) rfl (by kernel_rfl) (by kernel_rfl) (by kernel_rfl) (fun _ _ _ h => h) (Or.inl ⟨by rfl, ?_⟩) hS ?_
      rotate_left
      · intro w hSw
        (try dsimp only at hSw)
        go_simp
        (try with_reducible rfl)
      try simp (maxSteps := 10000000) only [Act.put, List.setIfInBounds_toArray, List.set_cons_zero, List.set_cons_succ, List.getElem_toArray, List.getElem_cons_zero, List.getElem_cons_succ]
      refine wpAnyH_done (by kernel_rfl) (NoPanic.normal ?_) _
      clear hS
      clear h_r
      clear cl0
      obtain rfl : ns = n := by rw [← h_t.len]; exact HTN.out
      have d_k1_0 := k1.cell 0
      have d_k1_1 := k1.cell 1
      go_wp2
      clear d_k1_0 d_k1_1
      have d0 := k1.cell 0
      have d1 : w5.cell? ⟨u1, 1, none⟩ = some (.slice A ns c) := k1.cell 1
      obtain ⟨V, hV⟩ : ∃ V : World, V = w5 := ⟨_, rfl⟩
      go_loopw [7, 8] (fun lt j wr => ∃ jN dd : Nat, jN ≤ ns ∧ j = .int .i64 (jN : Int) ∧ lt = .int .i64 ((lateN f jN : Nat) : Int) ∧ wr = w5.drewN dd) (fun _ j _ => ns - (intOf j).toNat)
      case atStart => exact ⟨0, 0, Nat.zero_le _, rfl, rfl, rfl⟩
      case round =>
        obtain ⟨jN, dd, hj, rfl, rfl, rfl⟩ := hrel
        obtain ⟨ev, HEV⟩ : ∃ ev : Nat, Hid (lateN f jN = ev) := ⟨_, Lib.hid rfl⟩
        rw [HEV.out]
        by_cases hltj : jN < ns
        · obtain ⟨ad2, t2, rfl, _, p2, ht2, _⟩ := h_t.at_ hltj
          obtain ⟨ad3, rfl, _, _, p3⟩ := h_p.at2 hltj
          obtain ⟨z, HZ⟩ : ∃ z, Hid (too ps jN = z) := ⟨_, Lib.hid rfl⟩
          rw [HZ.out] at p3
          have HT2 : Hid (nth T jN = t2) := Lib.hid (nth_some ht2.out)
          clear ht2
          obtain ⟨r, HR⟩ : ∃ r : Bool, Hid (decide (z < t2) = r) := ⟨_, Lib.hid rfl⟩
          have HFR : Hid (f jN = r) := Lib.hid (by rw [← HF.out, ← HR.out, ← HT2.out, ← HZ.out])
          have hr := HR.out
          obtain ⟨p, HPW⟩ : ∃ p : Nat, Hid (2 ^ jN = p) := ⟨_, Lib.hid rfl⟩
          obtain ⟨e2, HE2⟩ : ∃ e2 : Nat, Hid (ev ||| p = e2) := ⟨_, Lib.hid rfl⟩
          have hp10 : p ≤ 1024 := by rw [← HPW.out]; exact Nat.pow_le_pow_right (by omega) (show jN ≤ 10 by omega)
          have hev10 : ev < 1024 := by
            have h1 := lateN_lt f jN
            have h2 : (2 : Nat) ^ jN ≤ 1024 := Nat.pow_le_pow_right (by omega) (show jN ≤ 10 by omega)
            rw [HEV.out] at h1
            omega
          have hmin : min jN 64 = jN := by omega
          have hwp : IntKind.i64.wrap ((2 : Int) ^ jN) = (p : Int) := by
            have h : ((2 : Int) ^ jN) = (p : Int) := by rw [← HPW.out]; simp
            rw [h]
            exact IntWalk.i64_in _ (by omega)
          have hor : bits .or .i64 (ev : Int) (p : Int) = (e2 : Int) := by
            rw [or_i64 ev p (by omega) (by omega), HE2.out]
          cases r
          · have HNY : Hid (lateN f (jN + 1) = ev) := Lib.hid (by
              rw [lateN, HFR.out, HEV.out]
              rfl)
            go_wp2
            go_quiet (fail)
            go_wp2
            go_roundw
            case rel => exact ⟨jN + 1, _, by omega, by go_num, by rw [HNY.out], rfl⟩
            case measure => simp [intOf]; omega
          · have HNY : Hid (lateN f (jN + 1) = e2) := Lib.hid (by
              rw [lateN, HFR.out, HEV.out, HPW.out, ← HE2.out]
              rfl)
            go_wp2
            go_quiet (fail)
            go_wp2
            go_roundw
            case rel => exact ⟨jN + 1, _, by omega, by go_num, by rw [HNY.out], rfl⟩
            case measure => simp [intOf]; omega
        · have HE : Hid (ev = bitsR b ps ns y) := Lib.hid (by
            rw [← HFL.out, ← HEV.out, show jN = ns by omega])
          obtain ⟨w6, hW⟩ : ∃ W : World, w5.drewN dd = W := ⟨_, rfl⟩
          have hb : Below w5.heap.size w5 w6 := hW ▸ below_drewN (Below.refl _ _) dd
          rw [hW]
          clear hW d0 d1 hV
          have Bw6 : Below w.heap.size w w6 := Bw5.trans (hb.mono Bw5.size)
          replace h_p := h_p.next hb (Nat.le_refl _) hb.size
          replace k1 := k1.below hb k1.lt
          replace h_l := h_l.below hb
          replace Bl := Bl.trans (hb.mono Bl.size)
          replace hout := hout.below hb
          replace h_t := h_t.next hb (Nat.le_refl _) hb.size
          clear Bw5
          clear hb
          have hsz2 : w2.heap.size ≤ w6.heap.size := Bl.size
          go_wp2_with (at_builtin; go_must (refine push_num rfl (.tmp 44) (.tmp 46) rfl w2.heap.size A' k c' _ rfl (hout.alloc _) ⟨w6.heap.size, 0, none⟩ 1 (ev : Int) rfl (cell_new1 _ _ _) (by omega) (by simp only [World.size_alloc]; omega) ?_); intro g1 cap1 v2 ho1 hg1)
          have hb2 : Below w2.heap.size w2 v2 := (Bl.alloc (by omega) _).grown hg1 (by simp; omega) hAb
          go_roundw
          case rel => exact ⟨k + 1, _, _, by omega, by go_num, rfl, by rw [HSN.out, ← HE.out]; exact ho1, hb2⟩
          case measure => simp [intOf]; omega
    · have HK : Hid (k = NA) := Lib.hid (by omega)
      have HE : Hid (ofN (((allR b ps).take k).map (bitsR b ps n)) = ofN (lateBitsR b ps n)) := Lib.hid (by
        rw [List.take_of_length_le (by rw [HNA.out, HK.out]; exact Nat.le_refl _)]
        rfl)
      rw [HE.out] at hout
      go_wp2
      go_ret
      exact ⟨A', c', by rw [← HK.out]; rfl, by rw [← HK.out]; exact hout.base hwl, Bw3⟩
end Go.Proofs.Ytaekjnjignlmoaa
