/-
  The reference: 'CheckRound'.
-/
import Derived.Test.YtaekjnjignlmoaaR3
namespace Go.Proofs.Ytaekjnjignlmoaa
open Go.RowKit Go.Shelf

theorem nth_take {xs : List Int} {n i : Nat} (h : i < n) : nth (xs.take n) i = nth xs i := by
  unfold nth
  rw [List.getElem?_take, if_pos h]
theorem late_iff {ps : List (Int × Int)} {T : List Int} {n : Nat} (hn : ps.length = n) (h1 : 1 ≤ n) : (∀ i : Nat, i < n → nth (T.take n) i ≤ too ps i) ↔ ¬ 0 < lateL ps T := by
  rw [Int.not_lt, lateL_le (by omega), hn]
  exact ⟨fun h i hi => by have := h i hi; rw [nth_take hi] at this; omega, fun h i hi => by have := h i hi; rw [nth_take hi]; omega⟩
set_option maxRecDepth 100000 in
set_option maxHeartbeats 4000000 in
theorem rCkRound (b : Int) (A : Option Addr) (n c : Nat) (ps : List (Int × Int)) (B : Option Addr) (m d : Nat) (L : List Int) (w : World) (hx : Rp w w.heap.size A n ps) (hn : n ≤ 1048576) (hl : Ri w w.heap.size B m L) (hm : m ≤ 1048576) (hd : m ≤ d) (v : List Int × Int) (HV : Hid (checkRoundS b ps L = v)) :
    Calls Try.prog 20 #[.agg #[.int .i64 b, .slice A n c], .slice B m d] w (RetLE w v.1 v.2) := by
  have HL := Lib.hid hx.len
  have HM := Lib.hid hl.len
  have hmix : Try.prog.follows .mixedOrders = true := by kernel_rfl
  obtain ⟨q, HQ⟩ : ∃ q, Hid (checkPier b ps = q) := ⟨_, Lib.hid rfl⟩
  have k1 := Bk.new w 24 #[.int .i64 b, .slice A n c]
  have hb0 : Below w.heap.size w (w.alloc (.cells #[.int .i64 b, .slice A n c] 24)) := (Below.refl _ w).alloc (Nat.le_refl _) _
  have d0 := k1.cell 0
  have d1 := k1.cell 1
  have hx0 := hx.next hb0 (Nat.le_refl _) hb0.size
  have hl0 := hl.next hb0 (Nat.le_refl _) hb0.size
  go_enter Try.func20, Try.ntmps20
  go_wp2_with fail
  clear d0 d1
  refine (rCheckPier b A n c ps _ hx0 hn q HQ).mono ?_
  rintro e w1 ⟨rfl, hb⟩
  have hb1 := hb0.trans (hb.mono hb0.size)
  replace k1 := k1.below hb k1.lt
  have hx1 := hx0.next hb (Nat.le_refl _) hb.size
  have hl1 := hl0.next hb (Nat.le_refl _) hb.size
  clear hb hb0 hx0 hl0
  have d0 := k1.cell 0
  have d1 := k1.cell 1
  by_cases hq : q = 0
  rotate_left
  · have HE : Hid (v = ([], q)) := Lib.hid (by
      rw [← HV.out]
      unfold checkRoundS
      rw [HQ.out, if_neg hq])
    have hqb : (q != 0) = true := by simp [hq]
    have HNQ := Lib.hid hq
    clear hq
    go_wp2_with fail
    clear d0 d1
    refine (rCheckPier b A n c ps _ hx1 hn q HQ).mono ?_
    rintro e w2 ⟨rfl, hb⟩
    go_wp2
    go_ret2
    refine ⟨none, 0, 0, ?_, ?_, hb1.trans (hb.mono hb1.size)⟩
    · rw [HE.out]; rfl
    · rw [HE.out]; exact Oi.nil_ _ _
  subst hq
  have HP : Hid (Pier b ps) := Lib.hid (checkPier_ok.1 HQ.out)
  have hn1 : 1 ≤ n := by rw [← HL.out]; exact HP.out.lo
  have hn10 : n ≤ 10 := by rw [← HL.out]; exact HP.out.hi
  by_cases hmn : m = n
  rotate_left
  · have HE : Hid (v = ([], 15)) := Lib.hid (by
      rw [← HV.out]
      unfold checkRoundS
      rw [HQ.out, if_pos rfl, if_neg (by rw [HL.out, HM.out]; exact hmn)])
    have hqb : ((m : Int) != (n : Int)) = true := by simp; omega
    have HNM := Lib.hid hmn
    clear hmn
    go_wp2
    go_ret2
    refine ⟨none, 0, 0, ?_, ?_, hb1⟩
    · rw [HE.out]; rfl
    · rw [HE.out]; exact Oi.nil_ _ _
  subst hmn
  have HV2 : Hid ((if (List.range m).any (badAt L m) then (([], 2) : List Int × Int)
      else if stepsL b ps (natsL L) = zeros then ([], 16)
      else if 0 < lateL ps (stepsL b ps (natsL L)) then ([], 12)
      else ((stepsL b ps (natsL L)).take m, 0)) = v) := Lib.hid (by
    have h := HV.out
    unfold checkRoundS at h
    rw [HQ.out, if_pos rfl, if_pos (by rw [HL.out, HM.out]), HL.out] at h
    exact h)
  obtain ⟨V, hV⟩ : ∃ V : World, V = w1 := ⟨_, rfl⟩
  subst hV
  go_wp2
  clear d0 d1
  go_loopw [6] (fun i wr => ∃ k d : Nat, k ≤ m ∧ i = .int .i64 k ∧ wr = V.drewN d ∧ Hid ((List.range k).any (badAt L m) = false)) (fun i _ => m - (intOf i).toNat)
  case atStart => exact ⟨0, 0, Nat.zero_le _, rfl, rfl, Lib.hid rfl⟩
  case round =>
    obtain ⟨k, dd, hk, rfl, rfl, HNO⟩ := hrel
    by_cases hlt : k < m
    · obtain ⟨ad, x, rfl, _, cx, hxk, _⟩ := hl1.at_ hlt
      have HNX : Hid (nth L k = x) := Lib.hid (nth_some hxk.out)
      have htk := Ri.take hl1 (k := k) (by omega)
      have hkd : k ≤ d := by omega
      have HBAD : Hid (badAt L m k = true → v = ([], 2)) := Lib.hid fun h => by
        rw [← HV2.out, if_pos]
        exact List.any_eq_true.2 ⟨k, List.mem_range.2 hlt, h⟩
      by_cases h0 : x < 0
      · have HE := Lib.hid (HBAD.out (by unfold badAt outB; rw [HNX.out, decide_eq_true h0]; rfl))
        clear HBAD
        go_wp2
        go_quiet (fail)
        go_wp2
        go_ret2
        exact ⟨none, 0, 0, by rw [HE.out]; rfl, by rw [HE.out]; exact Oi.nil_ _ _, below_drewN (below_drewN hb1 _) _⟩
      by_cases h1 : (m : Int) ≤ x
      · have HE := Lib.hid (HBAD.out (by unfold badAt outB; rw [HNX.out, decide_eq_true (show (m : Int) - 1 < x by omega)]; simp))
        have hd0 : decide (x < 0) = false := decide_eq_false h0
        have hd1 : decide ((m : Int) ≤ x) = true := decide_eq_true h1
        clear HBAD h0 h1
        go_wp2
        go_quiet (fail)
        go_wp2
        go_ret2
        exact ⟨none, 0, 0, by rw [HE.out]; rfl, by rw [HE.out]; exact Oi.nil_ _ _, below_drewN (below_drewN hb1 _) _⟩
      obtain ⟨r, HR⟩ : ∃ r, Hid (decide (x ∈ L.take k) = r) := ⟨_, Lib.hid rfl⟩
      have HBR : Hid (badAt L m k = r) := Lib.hid (by
        unfold badAt
        rw [HNX.out, HR.out, outB_false.2 (by omega)]
        rfl)
      have hd0 : decide (x < 0) = false := decide_eq_false h0
      have hd1 : decide ((m : Int) ≤ x) = false := decide_eq_false h1
      clear h0 h1
      cases r
      · have HNO2 : Hid ((List.range (k + 1)).any (badAt L m) = false) := Lib.hid (by
          rw [List.range_succ, List.any_append, HNO.out]
          simp [HBR.out])
        clear HBAD
        go_wp2
        go_quiet ((go_at_call 62; exact still_in2 (rHas _ _ _ _ _ _ _ (htk.drewN _) (by omega))))
        rw [HR.out]
        go_wp2
        go_roundw
        case rel => exact ⟨k + 1, _, by omega, by go_num, rfl, HNO2⟩
        case measure => simp [intOf]; omega
      · have HE := Lib.hid (HBAD.out HBR.out)
        clear HBAD
        go_wp2
        go_quiet ((go_at_call 62; exact still_in2 (rHas _ _ _ _ _ _ _ (htk.drewN _) (by omega))))
        rw [HR.out]
        go_wp2
        go_ret2
        exact ⟨none, 0, 0, by rw [HE.out]; rfl, by rw [HE.out]; exact Oi.nil_ _ _, below_drewN (below_drewN hb1 _) _⟩
    · have hkn : m = k := by omega
      subst hkn
      have HG : Hid ((∀ x ∈ L, 0 ≤ x ∧ x < m) ∧ True) := Lib.hid ⟨(bad_none HM.out HNO.out).1, trivial⟩
      obtain ⟨l, HLN⟩ : ∃ l, Hid (natsL L = l) := ⟨_, Lib.hid rfl⟩
      have HLO : Hid (L = ofN l) := Lib.hid (by rw [← HLN.out]; exact (natsL_back fun x hx => (HG.out.1 x hx).1).symm)
      have HA : Hid (∀ i ∈ l, i < m) := Lib.hid (by rw [← HLN.out]; exact natsL_lt HG.out.1)
      have HV3 : Hid ((if stepsL b ps l = zeros then (([], 16) : List Int × Int) else if 0 < lateL ps (stepsL b ps l) then ([], 12) else ((stepsL b ps l).take m, 0)) = v) := Lib.hid (by
        have h := HV2.out
        rw [HNO.out, HLN.out] at h
        simpa using h)
      have hll : l.length = m := by
        have h := HM.out
        rw [HLO.out, ofN_length] at h
        exact h
      rw [HLO.out] at hl1
      have hbV : Below V.heap.size V (V.drewN dd) := below_drewN (Below.refl _ _) dd
      obtain ⟨W, hW⟩ : ∃ W, V.drewN dd = W := ⟨_, rfl⟩
      rw [hW] at hbV ⊢
      have hb2 := hb1.trans (hbV.mono hb1.size)
      have hx2 := hx1.next hbV (Nat.le_refl _) hbV.size
      have hl2 := hl1.next hbV (Nat.le_refl _) hbV.size
      have k2 := k1.below hbV k1.lt
      clear hW hbV hx1 hl1 k1 hb1
      have d0 := k2.cell 0
      have d1 := k2.cell 1
      obtain ⟨r, HR⟩ : ∃ r, Hid ((stAt b ps l).isSome = r) := ⟨_, Lib.hid rfl⟩
      go_wp2_with fail
      clear d0 d1
      refine (rIsRound b A m c ps B m d l W hx2 HP hl2 rfl HA r HR).mono ?_
      rintro e w3 ⟨rfl, hb⟩
      have hb3 := hb2.trans (hb.mono hb2.size)
      have hx3 := hx2.next hb (Nat.le_refl _) hb.size
      have hl3 := hl2.next hb (Nat.le_refl _) hb.size
      have k3 := k2.below hb k2.lt
      clear hb hb2 hx2 hl2 k2
      have d0 := k3.cell 0
      have d1 := k3.cell 1
      cases r
      · have HE : Hid (v = ([], 16)) := Lib.hid (by
          rw [← HV3.out, if_pos]
          refine stepsL_none ?_
          have h := HR.out
          cases hs : stAt b ps l with
          | none => rfl
          | some s => rw [hs] at h; cases h)
        go_wp2
        go_ret2
        exact ⟨none, 0, 0, by rw [HE.out]; rfl, by rw [HE.out]; exact Oi.nil_ _ _, hb3⟩
      · have HALL : Hid (l ∈ allR b ps) := Lib.hid (allR_iff.2 ⟨by rw [hll, HL.out], HR.out, by rw [HL.out]; exact HA.out⟩)
        have HNZ := Lib.hid (full_steps HP.out HALL.out)
        obtain ⟨T, HT⟩ : ∃ T, Hid ((stepsL b ps l).take m = T) := ⟨_, Lib.hid rfl⟩
        go_wp2_with fail
        clear d0 d1
        refine (rStepsOf b A m c ps B m d l w3 hx3 HP hl3 HALL T HT).mono ?_
        rintro e w4 ⟨A4, n4, c4, rfl, ho4, hb⟩
        have hb4 := hb3.trans (hb.mono hb3.size)
        have hx4 := hx3.next hb (Nat.le_refl _) hb.size
        have k4 := k3.below hb k3.lt
        clear hb hx3 hl3 k3
        have d0 := k4.cell 0
        have d1 := k4.cell 1
        have hn4 : n4 = m := by
          have h := ho4.len
          rw [← HT.out, List.length_take] at h
          obtain ⟨s, hs⟩ := Option.isSome_iff_exists.1 HR.out
          have := (stOk HP.out l s (by rw [HL.out]; exact HA.out) hs).out
          rw [stepsL_some hs] at h
          omega
        subst hn4
        obtain ⟨r2, HR2⟩ : ∃ r, Hid (decide (∀ i : Nat, i < n4 → nth T i ≤ too ps i) = r) := ⟨_, Lib.hid rfl⟩
        go_wp2_with fail
        clear d0 d1
        refine (rInTime b A n4 c ps A4 n4 c4 T w4 hx4 ho4.ri rfl (by omega) r2 HR2).mono ?_
        rintro e w5 ⟨rfl, hb⟩
        have hb5 := hb4.trans (hb.mono hb4.size)
        have ho5 := ho4.below hb
        cases r2
        · have HE : Hid (v = ([], 12)) := Lib.hid (by
            rw [← HV3.out, if_neg HNZ.out, if_pos]
            have h := of_decide_eq_false HR2.out
            rw [← HT.out, late_iff HL.out hn1, Classical.not_not] at h
            exact h)
          go_wp2
          go_ret2
          exact ⟨none, 0, 0, by rw [HE.out]; rfl, by rw [HE.out]; exact Oi.nil_ _ _, hb5⟩
        · have HE : Hid (v = (T, 0)) := Lib.hid (by
            rw [← HV3.out, if_neg HNZ.out, if_neg, HT.out]
            have h := of_decide_eq_true HR2.out
            rw [← HT.out, late_iff HL.out hn1] at h
            exact h)
          go_wp2
          go_ret2
          exact ⟨_, _, _, by rw [HE.out]; rfl, by rw [HE.out]; exact ho5.base hb3.size, hb5⟩
end Go.Proofs.Ytaekjnjignlmoaa
