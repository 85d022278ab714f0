/-
  The reference: 'Clash'. Printed by gen_r19.py.
-/
import Derived.Test.YtaekjnjignlmoaaR17
import Derived.Test.YtaekjnjignlmoaaR18
namespace Go.Proofs.Ytaekjnjignlmoaa
open Go.RowKit Go.Shelf

/-- The bits have a stop of those that are late of each round. -/
def hits (late : List Nat) (z : Nat) : Bool := late.all fun x => decide (x &&& z ≠ 0)
/-- The best of the lists so far, and one more. -/
def bestF (n : Nat) (late best : List Nat) (z : Nat) : List Nat := if (hits late z && (decide (best.length = 0) || decide ((listedN z n).length < best.length) || (decide ((listedN z n).length = best.length) && befI (ofN (listedN z n)) (ofN best)))) = true then listedN z n else best
def bestTo (n : Nat) (late : List Nat) : Nat → List Nat
  | 0 => []
  | k + 1 => bestF n late (bestTo n late k) (k + 1)
/-- What the reference's 'Clash' comes to. -/
def clashRef (b : Int) (ps : List (Int × Int)) : List Nat × Int :=
  if checkPier b ps = 0 then (if bestTo ps.length (lateBitsR b ps ps.length) (2 ^ ps.length - 1) = [] then ([], 5) else (bestTo ps.length (lateBitsR b ps ps.length) (2 ^ ps.length - 1), 0)) else ([], checkPier b ps)
set_option maxRecDepth 100000 in
set_option maxHeartbeats 8000000 in
theorem rClash (b : Int) (A : Option Addr) (n c : Nat) (ps : List (Int × Int)) (w : World) (h_p : Rp w w.heap.size A n ps) (hn : n ≤ 1048576) (v : List Nat × Int) (HV : Hid (clashRef b ps = v)) :
    Calls Try.prog 42 #[.agg #[.int .i64 b, .slice A n c]] w (RetJE w (ofN v.1) v.2) := by
  have HL := Lib.hid h_p.len
  obtain ⟨q, HQ⟩ : ∃ q, Hid (checkPier b ps = q) := ⟨_, Lib.hid rfl⟩
  have hmix : Try.prog.follows .mixedOrders = true := by kernel_rfl
  have k1 := Bk.new w 24 #[.int .i64 b, .slice A n c]
  have hb : Below w.heap.size w (w.alloc (.cells #[.int .i64 b, .slice A n c] 24)) := (Below.refl _ _).alloc (Nat.le_refl _) _
  have q0 := k1.cell 0
  have q1 := k1.cell 1
  go_enter Try.func42, Try.ntmps42
  go_wp2_with fail
  clear q0 q1
  obtain ⟨u1, hu⟩ : ∃ k, w.heap.size = k := ⟨_, rfl⟩
  obtain ⟨w1, hW⟩ : ∃ W, w.alloc (.cells #[.int .i64 b, .slice A n c] 24) = W := ⟨_, rfl⟩
  rw [hW] at k1 hb ⊢
  rw [hu] at k1 ⊢
  clear hW
  have HU := Lib.hid hu
  clear hu
  have Bw1 : Below w.heap.size w w1 := hb
  replace h_p := h_p.next hb (Nat.le_refl _) hb.size
  clear hb
  refine (rCheckPier b A n c ps _ h_p hn q HQ).mono ?_
  rintro e w2 ⟨rfl, hb⟩
  have Bw2 : Below w.heap.size w w2 := Bw1.trans (hb.mono Bw1.size)
  replace h_p := h_p.next hb (Nat.le_refl _) hb.size
  replace k1 := k1.below hb k1.lt
  clear Bw1
  clear hb
  by_cases hq : q = 0
  rotate_left
  · have hqb : (q != 0) = true := by simp [hq]
    have HNQ := Lib.hid hq
    clear hq
    have d_k1_0 := k1.cell 0
    have d_k1_1 := k1.cell 1
    go_wp2_with fail
    clear d_k1_0 d_k1_1
    refine (rCheckPier b A n c ps _ h_p hn q HQ).mono ?_
    rintro e w3 ⟨rfl, hb⟩
    have Bw3 : Below w.heap.size w w3 := Bw2.trans (hb.mono Bw2.size)
    replace h_p := h_p.next hb (Nat.le_refl _) hb.size
    replace k1 := k1.below hb k1.lt
    clear Bw2
    clear hb
    go_wp2
    go_ret2
    exact ⟨none, 0, 0, by rw [← HV.out]; unfold clashRef; rw [HQ.out, if_neg HNQ.out]; rfl, by rw [← HV.out]; unfold clashRef; rw [HQ.out, if_neg HNQ.out]; exact Oj.nil_ _ _, Bw3⟩
  subst hq
  have HP : Hid (Pier b ps) := Lib.hid (checkPier_ok.1 HQ.out)
  have hn1 : 1 ≤ n := by rw [← HL.out]; exact HP.out.lo
  have hn10 : n ≤ 10 := by rw [← HL.out]; exact HP.out.hi
  obtain ⟨NA, HNA⟩ : ∃ N, Hid ((allR b ps).length = N) := ⟨_, Lib.hid rfl⟩
  have hNAb : NA ≤ 252 := by rw [← HNA.out]; exact allR_many HP.out
  obtain ⟨late, HLT⟩ : ∃ L, Hid (lateBitsR b ps n = L) := ⟨_, Lib.hid rfl⟩
  have HLN : Hid (late.length = NA) := Lib.hid (by rw [← HLT.out]; unfold lateBitsR; rw [List.length_map]; exact HNA.out)
  have HLB : Hid (∀ x ∈ late, x < 1024) := Lib.hid (fun x hx => by
    rw [← HLT.out] at hx
    obtain ⟨y, _, rfl⟩ := List.mem_map.1 hx
    have h1 : bitsR b ps n y < 2 ^ n := lateN_lt _ _
    have h2 : (2 : Nat) ^ n ≤ 1024 := Nat.pow_le_pow_right (by omega) hn10
    omega)
  obtain ⟨p2, HP2⟩ : ∃ p : Nat, Hid (2 ^ n = p) := ⟨_, Lib.hid rfl⟩
  have hp1024 : p2 ≤ 1024 := by rw [← HP2.out]; exact Nat.pow_le_pow_right (by omega) hn10
  have hp1 : 1 ≤ p2 := by rw [← HP2.out]; exact Nat.pos_of_ne_zero (by simp)
  have hmin : min n 64 = n := by omega
  have hwp : IntKind.i64.wrap ((2 : Int) ^ n) = (p2 : Int) := by
    have h : ((2 : Int) ^ n) = (p2 : Int) := by rw [← HP2.out]; simp
    rw [h]
    exact IntWalk.i64_in _ (by omega)
  have d_k1_0 := k1.cell 0
  have d_k1_1 := k1.cell 1
  go_wp2_with fail
  clear d_k1_0 d_k1_1
  refine (rLateBits b A n c ps _ h_p HP NA HNA).mono ?_
  rintro e w3 ⟨Al, cl, rfl, hro, hb⟩
  have Bw3 : Below w.heap.size w w3 := Bw2.trans (hb.mono Bw2.size)
  replace h_p := h_p.next hb (Nat.le_refl _) hb.size
  replace k1 := k1.below hb k1.lt
  clear Bw2
  clear hb
  have h_l := hro
  clear hro
  rw [HLT.out] at h_l
  have d_k1_0 := k1.cell 0
  have d_k1_1 := k1.cell 1
  go_wp2
  clear d_k1_0 d_k1_1
  have hwl : w.heap.size ≤ w3.heap.size := Bw3.size
  go_loopw [6, 7] (fun o i wr => ∃ (k j : Nat) (A' : Option Addr) (c' : Nat) (best : List Nat), k + 1 ≤ p2 ∧ i = .int .i64 ((k : Int) + 1) ∧ o = .slice A' j c' ∧ Oj wr w.heap.size A' j c' (ofN best) ∧ Hid (bestTo n late k = best) ∧ Hid (best.length = j) ∧ j ≤ 10 ∧ Below w3.heap.size w3 wr) (fun _ i _ => p2 - (intOf i).toNat)
  case atStart => exact ⟨0, 0, none, 0, [], hp1, rfl, rfl, Oj.nil_ _ _, Lib.hid rfl, Lib.hid rfl, by omega, Below.refl _ _⟩
  case round =>
    obtain ⟨k, j, A', c', best, hk, rfl, rfl, hout, HBE, HJ, hj10, hb⟩ := hrel
    obtain ⟨z, HZ⟩ : ∃ z : Nat, Hid (k + 1 = z) := ⟨_, Lib.hid rfl⟩
    have hzk : (k : Int) + 1 = (z : Int) := by have := HZ.out; omega
    rw [hzk]
    clear hzk
    have hz1024 : z ≤ 1024 := by have := HZ.out; omega
    obtain ⟨w4, hW⟩ : ∃ W : World, wr = W := ⟨_, rfl⟩
    rw [hW] at hb hout ⊢
    clear hW
    have Bl := hb
    have Bw4 : Below w.heap.size w w4 := Bw3.trans (hb.mono Bw3.size)
    replace h_l := h_l.below hb
    clear Bw3
    clear hb
    by_cases hlt : z < p2
    · go_wp2
      have h_li := h_l.ri
      obtain ⟨f, HF⟩ : ∃ f : Nat → Bool, Hid ((fun x : Nat => decide (x &&& z ≠ 0)) = f) := ⟨_, Lib.hid rfl⟩
      go_loop [8, 9] (fun e i => ∃ iN : Nat, iN ≤ NA ∧ i = .int .i64 (iN : Int) ∧ e = .bool ((late.take iN).all f)) (fun _ i => NA - (intOf i).toNat)
      case atStart => exact ⟨0, Nat.zero_le _, rfl, rfl⟩
      case round =>
        obtain ⟨iN, hi, rfl, rfl⟩ := hrel
        obtain ⟨ev, HEV⟩ : ∃ ev : Bool, Hid ((late.take iN).all f = ev) := ⟨_, Lib.hid rfl⟩
        rw [HEV.out]
        by_cases hlti : iN < NA
        · obtain ⟨ad1, x1, rfl, _, p1, hx1, _⟩ := h_li.at_ hlti
          obtain ⟨x, hx2, rfl⟩ := ofN_at hx1.out
          have HI := Lib.hid hx2
          have hxb : x < 1024 := HLB.out x (List.mem_of_getElem? hx2)
          clear hx1 hx2
          have HNX : Hid ((late.take (iN + 1)).all f = (ev && f x)) := Lib.hid (by
            rw [take_snoc HI.out, List.all_append, HEV.out]
            simp)
          cases ev
          · go_wp2
            go_round
            case rel => exact ⟨iN + 1, by omega, by go_num, by rw [HNX.out]; rfl⟩
            case measure => simp [intOf]; omega
          · obtain ⟨g0, HG⟩ : ∃ g : Nat, Hid (x &&& z = g) := ⟨_, Lib.hid rfl⟩
            have hand : bits .and .i64 (x : Int) (z : Int) = (g0 : Int) := by rw [and_i64 x z (by omega) (by omega), HG.out]
            obtain ⟨r, HR⟩ : ∃ r : Bool, Hid (((g0 : Int) != 0) = r) := ⟨_, Lib.hid rfl⟩
            have HFR : Hid (f x = r) := Lib.hid (by
              rw [← HF.out, ← HR.out]
              dsimp only
              rw [HG.out]
              by_cases h : g0 = 0
              · subst h; rfl
              · rw [decide_eq_true h]; symm; simp [h])
            have hr := HR.out
            cases r
            all_goals
              go_wp2
              go_round
              case rel => exact ⟨iN + 1, by omega, by go_num, by rw [HNX.out, HFR.out]; rfl⟩
              case measure => simp [intOf]; omega
        · have HE : Hid (ev = hits late z) := Lib.hid (by
            rw [← HEV.out, List.take_of_length_le (by rw [HLN.out]; omega), ← HF.out]
            rfl)
          obtain ⟨l, HL2⟩ : ∃ l, Hid (listedN z n = l) := ⟨_, Lib.hid rfl⟩
          obtain ⟨m, HM⟩ : ∃ m, Hid (l.length = m) := ⟨_, Lib.hid rfl⟩
          have hm10 : m ≤ 10 := by
            have h := listedN_len z n
            rw [HL2.out, HM.out] at h
            omega
          have HST : Hid (bestTo n late (k + 1) = bestF n late best z) := Lib.hid (by rw [bestTo, HBE.out, HZ.out])
          clear h_li
          have hszb : w.heap.size ≤ w4.heap.size := Bw4.size
          go_wp2_with fail
          refine (rListed z n _ (by omega) (by omega) l HL2 m HM).mono ?_
          rintro e w5 ⟨A2, c2, rfl, h2, hb⟩
          have Bw5 : Below w.heap.size w w5 := Bw4.trans (hb.mono Bw4.size)
          replace h_l := h_l.below hb
          replace Bl := Bl.trans (hb.mono Bl.size)
          replace hout := hout.below hb
          clear Bw4
          clear hb
          have hnew := h2.base (base' := w.heap.size) hszb
          clear h2
          cases ev
          · have HS2 : Hid (bestTo n late (k + 1) = best) := Lib.hid (by
              rw [HST.out]
              unfold bestF
              rw [HL2.out, ← HE.out]
              simp)
            go_wp2
            go_roundw
            case rel => exact ⟨k + 1, j, A', c', best, by have := HZ.out; omega, by rw [← HZ.out], rfl, hout, HS2, HJ, hj10, Bl⟩
            case measure => simp [intOf]; have := HZ.out; omega
          · by_cases hj0 : j = 0
            · have HJ0 := Lib.hid hj0
              have hjb : ((j : Int) == 0) = true := by simp [hj0]
              clear hj0
              have HS2 : Hid (bestTo n late (k + 1) = l) := Lib.hid (by
                rw [HST.out]
                unfold bestF
                rw [HL2.out, ← HE.out]
                rw [if_pos]
                simp [HJ.out, HJ0.out])
              go_wp2
              go_roundw
              case rel => exact ⟨k + 1, m, A2, c2, l, by have := HZ.out; omega, by rw [← HZ.out], rfl, hnew, HS2, HM, hm10, Bl⟩
              case measure => simp [intOf]; have := HZ.out; omega
            have HJ0 := Lib.hid hj0
            have hjb : ((j : Int) == 0) = false := by simp [hj0]
            clear hj0
            by_cases hmj : m < j
            · have HMJ := Lib.hid hmj
              have HS2 : Hid (bestTo n late (k + 1) = l) := Lib.hid (by
                rw [HST.out]
                unfold bestF
                rw [HL2.out, ← HE.out]
                rw [if_pos]
                simp [HJ.out, HM.out, HMJ.out])
              go_wp2
              go_roundw
              case rel => exact ⟨k + 1, m, A2, c2, l, by have := HZ.out; omega, by rw [← HZ.out], rfl, hnew, HS2, HM, hm10, Bl⟩
              case measure => simp [intOf]; have := HZ.out; omega
            have HMJ := Lib.hid hmj
            by_cases hme : m = j
            rotate_left
            · have HME := Lib.hid hme
              have hmb : ((m : Int) == (j : Int)) = false := by simp; omega
              clear hme
              have HS2 : Hid (bestTo n late (k + 1) = best) := Lib.hid (by
                rw [HST.out]
                unfold bestF
                rw [HL2.out, ← HE.out]
                rw [if_neg]
                simp [HJ.out, HM.out, HMJ.out, HME.out, HJ0.out])
              go_wp2
              go_roundw
              case rel => exact ⟨k + 1, j, A', c', best, by have := HZ.out; omega, by rw [← HZ.out], rfl, hout, HS2, HJ, hj10, Bl⟩
              case measure => simp [intOf]; have := HZ.out; omega
            have HME := Lib.hid hme
            have hmb : ((m : Int) == (j : Int)) = true := by simp [hme]
            clear hme
            obtain ⟨r, HR⟩ : ∃ r : Bool, Hid (befI (ofN l) (ofN best) = r) := ⟨_, Lib.hid rfl⟩
            have hob := hout.ri
            have hobm : Ri w5 w5.heap.size A' m (ofN best) := by rw [HME.out]; exact hob
            have hbf := rBefore A2 m c2 (ofN l) A' c' (ofN best) w5 hnew.ri hobm (by omega) r HR
            have HBF : Hid (Calls Try.prog 92 #[.slice A2 m c2, .slice A' j c'] w5 (RetB w5 r)) := Lib.hid (by have := hbf; rw [HME.out] at this ⊢; exact this)
            clear hob hobm hbf
            go_wp2_with fail
            refine (HBF.out).mono ?_
            rintro e w6 ⟨rfl, hb⟩
            have Bw6 : Below w.heap.size w w6 := Bw5.trans (hb.mono Bw5.size)
            replace h_l := h_l.below hb
            replace Bl := Bl.trans (hb.mono Bl.size)
            replace hout := hout.below hb
            replace hnew := hnew.below hb
            clear Bw5
            clear hb
            cases r
            · have HS2 : Hid (bestTo n late (k + 1) = best) := Lib.hid (by
                rw [HST.out]
                unfold bestF
                rw [HL2.out, ← HE.out]
                rw [if_neg]
                simp [HJ.out, HM.out, HME.out, HJ0.out, HR.out])
              go_wp2
              go_roundw
              case rel => exact ⟨k + 1, j, A', c', best, by have := HZ.out; omega, by rw [← HZ.out], rfl, hout, HS2, HJ, hj10, Bl⟩
              case measure => simp [intOf]; have := HZ.out; omega
            · have HS2 : Hid (bestTo n late (k + 1) = l) := Lib.hid (by
                rw [HST.out]
                unfold bestF
                rw [HL2.out, ← HE.out]
                rw [if_pos]
                simp [HJ.out, HM.out, HME.out, HR.out])
              go_wp2
              go_roundw
              case rel => exact ⟨k + 1, m, A2, c2, l, by have := HZ.out; omega, by rw [← HZ.out], rfl, hnew, HS2, HM, hm10, Bl⟩
              case measure => simp [intOf]; have := HZ.out; omega
    · have HK : Hid (k = 2 ^ n - 1) := Lib.hid (by have := HZ.out; have := HP2.out; omega)
      have HV2 : Hid ((if best = [] then (([], 5) : List Nat × Int) else (best, 0)) = v) := Lib.hid (by
        rw [← HV.out]
        unfold clashRef
        rw [HQ.out, if_pos rfl, HL.out, HLT.out, ← HK.out, HBE.out])
      by_cases hj0 : j = 0
      · have hjb : ((j : Int) == 0) = true := by simp [hj0]
        have HE : Hid (v = ([], 5)) := Lib.hid (by rw [← HV2.out, if_pos (List.eq_nil_of_length_eq_zero (by rw [HJ.out]; exact hj0))])
        clear hj0
        go_wp2
        go_ret2
        exact ⟨none, 0, 0, by rw [HE.out]; rfl, by rw [HE.out]; exact Oj.nil_ _ _, Bw4⟩
      have hjb : ((j : Int) == 0) = false := by simp [hj0]
      have HE : Hid (v = (best, 0)) := Lib.hid (by rw [← HV2.out, if_neg (fun e => hj0 (by rw [← HJ.out, e]; rfl))])
      clear hj0
      go_wp2
      go_ret2
      exact ⟨A', j, c', by rw [HE.out]; rfl, by rw [HE.out]; exact hout, Bw4⟩
end Go.Proofs.Ytaekjnjignlmoaa
