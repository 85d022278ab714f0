/-
  The law TopLandedSkill, walked: its calls are given.
-/
import Derived.Test.YtibmpjhffeinoaaGreatMp
import Derived.Deep.DeepCutAuto
import Derived.Deep.RegionHeld3
import Derived.BigRegion
namespace Go.Proofs.YtibmpjhffeinoaaGreat
open Go.RowKit Go.Shelf

/-- What the calls of the law answer. -/
structure CsL (w : World) (bv : Value) (n p nq : Nat) (P : List (List Int)) (R : Nat → Int × Int) : Prop where
  chk : ∀ w', Below w.heap.size w w' → Calls Tryz.prog 10 #[bv] w' fun e w'' => e = .returned (.int .i64 0) ∧ Below w'.heap.size w' w''
  prt : ∀ w', Below w.heap.size w w' → Calls Tryz.prog 12 #[bv] w' fun e w'' => ∃ A, e = .returned (.tuple #[.slice A nq nq, .int .i64 0]) ∧ Mv w'' w''.heap.size A nq P ∧ Below w'.heap.size w' w''
  ref : ∀ w', Below w.heap.size w w' → Calls Tryz.prog 14 #[bv] w' fun e w'' => ∃ A c, e = .returned (.slice A nq c) ∧ Mv w'' w''.heap.size A nq P ∧ Below w'.heap.size w' w''
  lnd : ∀ w', Below w.heap.size w w' → ∀ i : Nat, i < n → Calls Tryz.prog 16 #[bv, .int .i64 (i : Int), .int .i64 (p : Int)] w' fun e w'' => e = .returned (.tuple #[.agg #[.int .i64 (R i).1, .int .i64 (R i).2], .int .i64 0]) ∧ Below w'.heap.size w' w''
  works : ∀ w', Calls Tryz.prog 11 #[] w' fun e w'' => e = .returned (.bool true) ∧ Below w'.heap.size w' w''
set_option maxRecDepth 100000 in
set_option maxHeartbeats 3200000 in
theorem fLanded (AN AP : Option Addr) (n cN np cP p nq : Nat) (S lv : Int) (Ls P : List (List Int)) (R : Nat → Int × Int) (part : List Int) (w : World) (h1 : 1 ≤ n) (h4 : n ≤ 4) (hlv : 0 ≤ lv ∧ lv ≤ 255)
    (hmv : Mv w w.heap.size AN n Ls) (hLs : ∀ L ∈ Ls, L.length = n) (hnq : P.length = nq) (hP1 : 1 ≤ nq) (hP4 : nq ≤ 4) (hPl : ∀ L ∈ P, L.length ≤ 4) (hp : (p : Int) = lv % (nq : Int)) (hpart : P[p]? = some part) (hPn : ∀ x ∈ part, ∃ k : Nat, x = k ∧ k < n)
    (hc : CsL w (.agg #[.int .i64 S, .slice AN n cN, .slice AP np cP]) n p nq P R)
    (hD : ∀ K, rounds (List.replicate n true) (msL (nn2 Ls) n) (wonS n part) n (K + 1) = rounds (List.replicate n true) (msL (nn2 Ls) n) (wonS n part) n K →
      ∀ i, i < n → (0 < (R i).1 ↔ 0 ≤ nth (rounds (List.replicate n true) (msL (nn2 Ls) n) (wonS n part) n K) i) ∧ (nq = 1 → 0 ≤ nth (rounds (List.replicate n true) (msL (nn2 Ls) n) (wonS n part) n K) i))
    (hE : ∀ K, rounds (List.replicate n false) (msL (nn2 Ls) n) (wonS n part) n (K + 1) = rounds (List.replicate n false) (msL (nn2 Ls) n) (wonS n part) n K →
      ∀ i, i < n → 0 ≤ nth (rounds (List.replicate n false) (msL (nn2 Ls) n) (wonS n part) n K) i → R i = (1, 1)) :
    Calls Tryz.prog 3 #[.agg #[.int .i64 S, .slice AN n cN, .slice AP np cP], .int .u8 lv] w fun e w' => e = .returned (.bool true) ∧ Below w.heap.size w w' := by
  obtain ⟨HDD, HEE, HRW, HPL, HPN, HPT, HPP⟩ : Hid (_) ∧ Hid (_) ∧ Hid (_) ∧ Hid (_) ∧ Hid (_) ∧ Hid (_) ∧ Hid (_) := ⟨Lib.hid hD, Lib.hid hE, Lib.hid hLs, Lib.hid hPl, Lib.hid hPn, Lib.hid hpart, Lib.hid hp⟩
  clear hD hE hLs hPl hPn hpart hp
  have hbk := Bk.new w 25 #[.int .i64 S, .slice AN n cN, .slice AP np cP]
  have hb1 := (Below.refl w.heap.size w).alloc (Nat.le_refl _) (.cells #[.int .i64 S, .slice AN n cN, .slice AP np cP] 25)
  generalize hW : w.alloc (.cells #[.int .i64 S, .slice AN n cN, .slice AP np cP] 25) = W at *
  have hs : W.heap.size = w.heap.size + 1 := by rw [← hW]; simp
  have c0 : W.cell? ⟨w.heap.size, 0, none⟩ = some (.int .i64 S) := hbk.cell 0
  have c1 : W.cell? ⟨w.heap.size, 1, none⟩ = some (.slice AN n cN) := hbk.cell 1
  have c2 : W.cell? ⟨w.heap.size, 2, none⟩ = some (.slice AP np cP) := hbk.cell 2
  have hn8 : n ≤ 8 := by omega
  have HNQ := Lib.hid hnq
  clear hnq
  have HC := Lib.hid hc
  clear hc
  go_enter Tryz.func3, Tryz.ntmps3
  go_wp2_with (go_at_call 10; refine (HC.out.chk _ hb1).mono ?_; rintro e w1 ⟨rfl, hb2⟩; have hbk2 := hbk.below hb2 (by omega); have hs2 := hb2.size; have hb3 := hb1.trans (hb2.mono (by omega)); have d0 : w1.cell? ⟨w.heap.size, 0, none⟩ = some (.int .i64 S) := hbk2.cell 0; have d1 : w1.cell? ⟨w.heap.size, 1, none⟩ = some (.slice AN n cN) := hbk2.cell 1; have d2 : w1.cell? ⟨w.heap.size, 2, none⟩ = some (.slice AP np cP) := hbk2.cell 2; clear hb1 hb2 c0 c1 c2 hbk)
  refine (HC.out.prt _ hb3).mono ?_
  rintro e w2 ⟨A1, rfl, hm1, hb4⟩
  have hs3 := hb4.size
  have hbk3 := hbk2.below hb4 (by omega)
  have hb5 := hb3.trans (hb4.mono (by omega))
  have e0 : w2.cell? ⟨w.heap.size, 0, none⟩ = some (.int .i64 S) := hbk3.cell 0
  have e1 : w2.cell? ⟨w.heap.size, 1, none⟩ = some (.slice AN n cN) := hbk3.cell 1
  have e2 : w2.cell? ⟨w.heap.size, 2, none⟩ = some (.slice AP np cP) := hbk3.cell 2
  clear hb3 hb4 d0 d1 d2 hbk2
  go_wp2_with fail
  refine (HC.out.ref _ hb5).mono ?_
  rintro e w3 ⟨A2, c2', rfl, hm2, hb6⟩
  have hs4 := hb6.size
  have hm3 := (hm1.below hb6).more hs4
  have hbk4 := hbk3.below hb6 (by omega)
  have hb7 := hb5.trans (hb6.mono (by omega))
  have f1 : w3.cell? ⟨w.heap.size, 1, none⟩ = some (.slice AN n cN) := hbk4.cell 1
  have hli := Lib.hid (lLists A1 A2 nq nq c2' w3.heap.size w3.heap.size P w3 hm3 hm2 (by omega) (fun L hL => by have := HPL.out L hL; omega))
  clear hb5 hb6 e0 e1 e2 hbk3 hm1 hm2
  go_wp2_with fail
  refine hli.out.mono ?_
  rintro e w4 ⟨rfl, mq, rfl⟩
  have hb8 := below_drewN hb7 mq
  have hbk5 : Bk (w3.drewN mq) w.heap.size 25 #[.int .i64 S, .slice AN n cN, .slice AP np cP] := hbk4
  have hm4 : Mv (w3.drewN mq) (w3.drewN mq).heap.size A1 nq P := hm3
  have g1 : (w3.drewN mq).cell? ⟨w.heap.size, 1, none⟩ = some (.slice AN n cN) := f1
  have hs5 : w.heap.size < (w3.drewN mq).heap.size := by show _ < w3.heap.size; omega
  generalize w3.drewN mq = w4 at *
  have hpq : lv % (nq : Int) = (p : Int) := HPP.out.symm
  have hq0 : ¬ nq = 0 := by omega
  have hpn : p < nq := by
    have h5 := Int.emod_lt_of_pos lv (show (0 : Int) < (nq : Int) by omega)
    omega
  have hmk1 := run_rowsi n (by omega)
  have hmk2 := run_bools n (by omega)
  clear hb7 hbk4 hm3 f1 hli hs4 hs3 hs2 hs
  go_upto_region 8 with fail
  go_cut [9, 10] (fun s9 s10 wx => ∃ m1 m2 : Nat, s9 = .slice (some ⟨m1, 0, none⟩) n n ∧ s10 = .slice (some ⟨m2, 0, none⟩) n n ∧ m1 ≠ m2 ∧ w4.heap.size ≤ m1 ∧ w4.heap.size ≤ m2 ∧ Bk wx m1 35 (Array.replicate n (Value.slice none 0 0)) ∧ Bk wx m2 4 (Array.replicate n (Value.bool false)) ∧ Below w4.heap.size w4 wx)
  case first =>
    go_region
    all_goals (go_wp2_with fail; go_meet)
    · exact ⟨w4.heap.size, w4.heap.size + 1, rfl, rfl, by omega, Nat.le_refl _, by omega, two_a w4 35 4 (Array.replicate n (Value.slice none 0 0)) (Array.replicate n (Value.bool false)), two_b w4 35 4 (Array.replicate n (Value.slice none 0 0)) (Array.replicate n (Value.bool false)), two_c w4 _ _⟩
    · exact ⟨w4.heap.size + 1, w4.heap.size, rfl, rfl, by omega, by omega, Nat.le_refl _, two_b w4 4 35 (Array.replicate n (Value.bool false)) (Array.replicate n (Value.slice none 0 0)), two_a w4 4 35 (Array.replicate n (Value.bool false)) (Array.replicate n (Value.slice none 0 0)), two_c w4 _ _⟩
  case rest =>
    obtain ⟨m1, m2, rfl, rfl, hne, hm1, hm2, bm1, bm2, hb9⟩ := hcut
    have hmA := MvI.new (base := wc.heap.size) bm1
    have hm1l := bm1.lt
    have hm2l := bm2.lt
    clear bm1 hmk1 hmk2
    rw [wonS_nil] at bm2
    rw [← msP_zero (nn2 Ls) n] at hmA
    have hbs : wc.heap.size ≤ wc.heap.size := Nat.le_refl _
    obtain ⟨base, HBs⟩ : ∃ base, Hid (wc.heap.size = base) := ⟨_, Lib.hid rfl⟩
    rw [HBs.out] at hmA hm1l hm2l
    have hbs : base ≤ wc.heap.size := by rw [HBs.out]; exact Nat.le_refl _
    obtain ⟨N, HN⟩ : ∃ N, Hid (nn2 Ls = N) := ⟨_, Lib.hid rfl⟩
    rw [HN.out] at hmA
    go_wp2
    go_loopw [11, 12] (fun t11 _ wr => ∃ i : Nat, i ≤ n ∧ t11 = .int .i64 (i : Int) ∧ MvI wr m1 base n (msP N n i 0) ∧ Bk wr m2 4 (bools (wonS n [])) ∧ base ≤ wr.heap.size ∧ Below w4.heap.size w4 wr) (fun t11 _ _ => n - (intOf t11).toNat)
    case atStart => exact ⟨0, Nat.zero_le _, rfl, hmA, bm2, hbs, hb9⟩
    case round =>
      clear hmA bm2 hbs hb9
      obtain ⟨i, hi, rfl, hmB, hbw, hbs, hbr⟩ := hrel
      by_cases hin : i < n
      · go_wp2
        go_loopw [12] (fun t12 wr => ∃ k : Nat, k ≤ n ∧ t12 = .int .i64 (k : Int) ∧ MvI wr m1 base n (msP N n i k) ∧ Bk wr m2 4 (bools (wonS n [])) ∧ base ≤ wr.heap.size ∧ Below w4.heap.size w4 wr) (fun t12 _ => n - (intOf t12).toNat)
        case atStart => exact ⟨0, Nat.zero_le _, rfl, hmB, hbw, hbs, hbr⟩
        case round =>
          clear hmB hbw hbs hbr
          obtain ⟨k, hk, rfl, hmB, hbw, hbs, hbr⟩ := hrel
          have hbA := hb8.trans (hbr.mono (by omega))
          by_cases hkn : k < n
          · have d1 : wr.cell? ⟨w.heap.size, 1, none⟩ = some (.slice AN n cN) := (hbr.cell (p := ⟨w.heap.size, 1, none⟩) hs5).trans g1
            have hmw := hmv.below hbA
            obtain ⟨L, hL⟩ : ∃ L, Ls[i]? = some L := ⟨_, List.getElem?_eq_getElem (by rw [hmv.1]; exact hin)⟩
            have hlen := HRW.out L (List.mem_of_getElem? hL)
            obtain ⟨ad, A0, c0, rfl, _, h2, _, hr⟩ := hmw.2 i L hL
            rw [hlen] at h2 hr
            obtain ⟨adx, x, rfl, _, hcx, _, HXg⟩ := hr.at_ hkn
            have HX : Hid (N i k = x) := Lib.hid (by rw [← HN.out]; unfold nn2; rw [hL]; exact HXg.out.symm)
            clear hL hlen hr hmw
            by_cases hx0 : 0 < x
            · obtain ⟨ad', A', c', e1, _, hcm, _, hrm⟩ := hmB.mv.2 i _ (msP_at hin)
              cases e1
              rw [add_lit0] at hcm
              have hll := mvL_len N i k
              have HY : Hid (mvL N i (k + 1) = mvL N i k ++ [(k : Int)]) := Lib.hid (mvL_yes (by rw [HX.out]; exact hx0))
              obtain ⟨q, hq⟩ : ∃ q, (mvL N i k).length = q := ⟨_, rfl⟩
              rw [hq] at hcm hrm hll
              have hws := Below.refl wr.heap.size wr
              have hfz : wr.frozen? ⟨m1, i, none⟩ = false := (hmB.cell hin).choose_spec.choose_spec.choose_spec.2
              go_wp2_with first | (at_builtin; refine push_nums rfl (.tmp 77) (.tmp 81) rfl wr.heap.size _ 0 0 [] rfl (Oj.lit0 wr) wr.heap.size A' q c' (mvL N i k) rfl (hrm.alloc (Nat.le_refl _) _) (by omega) (by omega) (by simp) ?_; intro A7 c7 v1 ho1 hg1; have hd1 := (hws.alloc (Nat.le_refl _) (.cells #[] 3)).grown hg1 (by simp) (fun k hk => by cases hk; exact Nat.le_refl _); have hds1 := hd1.size; rw [Nat.zero_add, List.nil_append] at ho1) | (at_builtin; refine push_num rfl (.tmp 82) (.tmp 84) rfl wr.heap.size A7 q c7 (mvL N i k) rfl (ho1.alloc _) ⟨v1.heap.size, 0, none⟩ 1 _ rfl (cell_new1 _ _ _) (by omega) (by simp only [World.size_alloc]; omega) ?_; intro g2 cap2 v2 ho2 hg2; have hd2 := Oj.pushed ho1 hd1 hds1 (Nat.le_refl _) hg2; have hds2 := hd2.size; have hmD := hmB.below hd2; obtain ⟨A0', n0, c0', hcl, hfz2⟩ := hmD.cell (i := i) hin)
              have hP := hmD.putOj (i := i) hm1l ho2 hbs (by simp [hq])
              rw [← HY.out, msP_set hin] at hP
              have hbw2 := (hbw.below hd2 (by omega)).far (p := ⟨m1, i, none⟩) (fun e => hne e.symm) (.slice (some ⟨g2, 0, none⟩) (q + 1) cap2)
              have hb11 := (hbr.trans (hd2.mono (by omega))).setCell (p := ⟨m1, i, none⟩) hm1 (.slice (some ⟨g2, 0, none⟩) (q + 1) cap2)
              exact ⟨⟨k + 1, by omega, by go_num, hP, hbw2, by omega, hb11⟩, by simp [intOf]; omega⟩
            · have HNo : Hid (msP N n i (k + 1) = msP N n i k) := Lib.hid (by
                rw [← msP_set hin, mvL_no (by rw [HX.out]; exact hx0)]
                refine List.ext_getElem? fun j => ?_
                rw [List.getElem?_set]
                split
                · rename_i e
                  subst e
                  rw [msP_at hin, if_pos (by simp [msP]; exact hin)]
                · rfl)
              rw [← HNo.out] at hmB
              go_wp2
              exact ⟨⟨k + 1, by omega, by go_num, hmB, hbw, hbs, hbr⟩, by simp [intOf]; omega⟩
          · obtain rfl : n = k := by omega
            rw [msP_next] at hmB
            go_wp2
            exact ⟨⟨i + 1, by omega, by go_num, hmB, hbw, hbs, hbr⟩, by simp [intOf]; omega⟩
      · obtain rfl : n = i := by omega
        rw [msP_all] at hmB
        obtain ⟨adq, AQ1, cq1, hA1, hadq, hcq, hcql, hrq⟩ := hm4.2 p part HPT.out
        subst hA1
        have HRQ := Lib.hid hrq
        have HCQ := Lib.hid hcq
        have hpl := HPL.out part (List.mem_of_getElem? HPT.out)
        obtain ⟨pn, HPn⟩ : ∃ pn, Hid (part.length = pn) := ⟨_, Lib.hid rfl⟩
        have h0 : Hid (part.take 0 = []) := Lib.hid (by simp)
        rw [← h0.out] at hbw
        rw [HPn.out] at hpl
        rw [HPn.out] at HRQ
        clear hrq hcq
        go_wp2
        go_loopw [13] (fun t13 wr => ∃ r : Nat, r ≤ pn ∧ t13 = .int .i64 (r : Int) ∧ MvI wr m1 base n (msL N n) ∧ Bk wr m2 4 (bools (wonS n (part.take r))) ∧ base ≤ wr.heap.size ∧ Below w4.heap.size w4 wr) (fun t13 _ => pn - (intOf t13).toNat)
        case atStart => exact ⟨0, Nat.zero_le _, rfl, hmB, hbw, hbs, hbr⟩
        case round =>
          clear hmB hbw hbs hbr h0
          obtain ⟨r, hr, rfl, hmB, hbw, hbs, hbr⟩ := hrel
          have hcq : wr.cell? (adq.add p) = some (.slice AQ1 pn cq1) := (hbr.cell (by rw [addr_block]; exact hadq)).trans (by rw [← HPn.out]; exact HCQ.out)
          by_cases hrn : r < pn
          · obtain ⟨ady, y, rfl, _, hcy, HY, _⟩ := (HRQ.out.below hbr).at_ hrn
            obtain ⟨yk, rfl, hyk⟩ := HPN.out y (List.mem_of_getElem? HY.out)
            obtain ⟨bb, hbb⟩ := wonS_cell (xs := part.take r) hyk
            have hcw : wr.cell? ⟨m2, yk, none⟩ = some (.bool bb) := by rw [hbw.cell]; exact hbb
            have hfw := hbw.frozen yk
            have hwi : IntKind.i64.wrap (yk : Int) = (yk : Int) := IntWalk.i64_in _ (by omega)
            have hbw2 := hbw.set_ yk (.bool true)
            rw [wonS_set HY.out] at hbw2
            have hmC := hmB.setOther (p := ⟨m2, yk, none⟩) (u := .bool true) (fun e => hne e.symm) hm2l
            have hb11 := hbr.setCell (p := ⟨m2, yk, none⟩) hm2 (.bool true)
            clear hbb
            go_wp2
            exact ⟨⟨r + 1, by omega, by go_num, hmC, hbw2, by simp [World.setCell]; omega, hb11⟩, by simp [intOf]; omega⟩
          · obtain rfl : pn = r := by omega
            rw [List.take_of_length_le (by rw [HPn.out]; omega)] at hbw
            have hwr := hbr.size
            have hmvM := hmB.mv
            have hrbM := Rb.of_bk hbw (wonS_len _ _)
            have hb12 := hb8.trans (hbr.mono (by omega))
            have hm5 := (hm4.below hbr).more hwr
            go_wp2_with (go_at_call 15; go_must (refine (fBoth _ _ _ _ _ _ _ _ hmvM hrbM h1 (by omega) (msL_ris N n)).mono ?_); rintro e w5 ⟨q1, K1, q2, K2, rfl, hd1, hf1, hd2, hf2, hb13⟩; have HF1 := Lib.hid hf1; have HF2 := Lib.hid hf2; clear hf1 hf2)
            have hs13 := hb13.size
            have hm6 := (hm5.below hb13).more hs13
            have hb14 := hb12.trans (hb13.mono (by omega))
            have HDL : Hid (∀ i, i < n → ∃ dv, (List.take n (rounds (List.replicate n true) (msL N n) (wonS n part) n K1))[i]? = some dv ∧ (0 < (R i).1 ↔ 0 ≤ dv) ∧ (nq = 1 → 0 ≤ dv)) := Lib.hid fun i hi => by
              have h4 := HDD.out K1 (by rw [HN.out]; exact HF1.out) i hi
              rw [HN.out] at h4
              have hl := rounds_len (ps := List.replicate n true) (Ms := msL N n) (ws := wonS n part) (n := n) K1
              refine ⟨_, ?_, h4⟩
              unfold nth
              rw [List.getElem?_take, if_pos hi, List.getElem?_eq_getElem (by omega)]
              rfl
            have HFL : Hid (∀ i, i < n → ∃ fv, (List.take n (rounds (List.replicate n false) (msL N n) (wonS n part) n K2))[i]? = some fv ∧ (0 ≤ fv → R i = (1, 1))) := Lib.hid fun i hi => by
              have h4 := HEE.out K2 (by rw [HN.out]; exact HF2.out) i hi
              rw [HN.out] at h4
              have hl := rounds_len (ps := List.replicate n false) (Ms := msL N n) (ws := wonS n part) (n := n) K2
              refine ⟨_, ?_, h4⟩
              unfold nth
              rw [List.getElem?_take, if_pos hi, List.getElem?_eq_getElem (by omega)]
              rfl
            have hbk6 := hbk5.below (hbr.trans (hb13.mono hwr)) hs5
            clear HF1 HF2 HDD HEE hm5 hb12 hb13 hmvM hrbM hmB hbw hbs hbr hcq
            generalize List.take n (rounds (List.replicate n true) (msL N n) (wonS n part) n K1) = dl at *
            generalize List.take n (rounds (List.replicate n false) (msL N n) (wonS n part) n K2) = fl at *
            have hw5b : w.heap.size < w5.heap.size := hbk6.lt
            clear hs13 hwr
            have hbZ := Below.refl w5.heap.size w5
            go_loopw [17, 18, 19] (fun t17 _ _ wr => ∃ i : Nat, i ≤ n ∧ t17 = .int .i64 (i : Int) ∧ Below w5.heap.size w5 wr) (fun t17 _ _ _ => n - (intOf t17).toNat)
            case atStart => exact ⟨0, Nat.zero_le _, rfl, hbZ⟩
            case round =>
              clear hbZ
              obtain ⟨i, hi, rfl, hbz⟩ := hrel
              by_cases hin : i < n
              · have hbk7 := hbk6.below hbz hw5b
                have c0 : wr.cell? ⟨w.heap.size, 0, none⟩ = some (.int .i64 S) := hbk7.cell 0
                have c1 : wr.cell? ⟨w.heap.size, 1, none⟩ = some (.slice AN n cN) := hbk7.cell 1
                have c2 : wr.cell? ⟨w.heap.size, 2, none⟩ = some (.slice AP np cP) := hbk7.cell 2
                have hzs := hbz.size
                have hbW := hb14.trans (hbz.mono (by omega))
                have hla := Lib.hid (HC.out.lnd wr hbW i hin)
                obtain ⟨dv, hdv, hD1, hD2⟩ := HDL.out i hin
                obtain ⟨fv, hfv, hF1⟩ := HFL.out i hin
                obtain ⟨x, hx⟩ : ∃ x, Hid ((R i).1 = x) := ⟨_, Lib.hid rfl⟩
                obtain ⟨y, hy⟩ : ∃ y, Hid ((R i).2 = y) := ⟨_, Lib.hid rfl⟩
                have hF2 : 0 ≤ fv → x = 1 ∧ y = 1 := fun h => by
                  have := hF1 h
                  rw [← hx.out, ← hy.out, this]
                  exact ⟨rfl, rfl⟩
                rw [hx.out] at hla hD1
                rw [hy.out] at hla
                clear hF1 hx hy
                go_wp2_with fail
                refine hla.out.mono ?_
                rintro e w6 ⟨rfl, hb15⟩
                have hbz2 : Below w5.heap.size w5 w6 := hbz.trans (hb15.mono hzs)
                have hzs2 := hbz2.size
                have hbN := hbz2.alloc hzs2 (.cells #[.int .i64 x, .int .i64 y] 39)
                have hnb := Bk.new w6 39 #[.int .i64 x, .int .i64 y]
                have n0 : (w6.alloc (.cells #[.int .i64 x, .int .i64 y] 39)).cell? ⟨w6.heap.size, 0, none⟩ = some (.int .i64 x) := hnb.cell 0
                have n1 : (w6.alloc (.cells #[.int .i64 x, .int .i64 y] 39)).cell? ⟨w6.heap.size, 1, none⟩ = some (.int .i64 y) := hnb.cell 1
                obtain ⟨ad1, dv2, e1, _, hcd, HDV, _⟩ := (hd1.below hbN).at_ hin
                cases e1
                obtain ⟨ad2, fv2, e2, _, hcf, HFV, _⟩ := (hd2.below hbN).at_ hin
                cases e2
                rw [add_lit0] at hcd hcf
                obtain rfl : dv2 = dv := by
                  have := HDV.out
                  rw [hdv] at this
                  exact (Option.some.inj this).symm
                obtain rfl : fv2 = fv := by
                  have := HFV.out
                  rw [hfv] at this
                  exact (Option.some.inj this).symm
                have hHD := Lib.hid hD1
                have hHD2 := Lib.hid hD2
                have hHF := Lib.hid hF2
                clear HDV HFV hdv hfv hla hb15 hbz2 hbz hzs c0 c1 c2 hbk7 hbW hnb hD1 hD2 hF2
                go_upto_region 28 with fail
                generalize w6.alloc (.cells #[.int .i64 x, .int .i64 y] 39) = w7 at *
                by_cases hx0 : 0 < x
                · have hdv0 : 0 ≤ dv2 := hHD.out.1 hx0
                  have hdv1 : ¬ dv2 < 0 := by omega
                  by_cases hf0 : 0 ≤ fv2
                  · obtain ⟨rfl, rfl⟩ := hHF.out hf0
                    by_cases hq1 : nq = 1
                    · have hq2 : ((nq : Int) == 1) = true := by simp [hq1]
                      clear hq1
                      go_quiet (fail)
                      go_wp2
                      exact ⟨⟨i + 1, by omega, by go_num, below_drewN hbN _⟩, by simp [intOf]; omega⟩
                    · have hq2 : ((nq : Int) == 1) = false := by simp; omega
                      clear hq1
                      go_quiet (fail)
                      go_wp2
                      exact ⟨⟨i + 1, by omega, by go_num, below_drewN hbN _⟩, by simp [intOf]; omega⟩
                  · by_cases hq1 : nq = 1
                    · have hq2 : ((nq : Int) == 1) = true := by simp [hq1]
                      clear hq1
                      go_quiet (fail)
                      go_wp2
                      exact ⟨⟨i + 1, by omega, by go_num, below_drewN hbN _⟩, by simp [intOf]; omega⟩
                    · have hq2 : ((nq : Int) == 1) = false := by simp; omega
                      clear hq1
                      go_quiet (fail)
                      go_wp2
                      exact ⟨⟨i + 1, by omega, by go_num, below_drewN hbN _⟩, by simp [intOf]; omega⟩
                · have hdv0 : ¬ 0 ≤ dv2 := fun h => hx0 (hHD.out.2 h)
                  have hf0 : ¬ 0 ≤ fv2 := fun h => hx0 (by rw [(hHF.out h).1]; decide)
                  have hq2 : ((nq : Int) == 1) = false := by
                    have : ¬ nq = 1 := fun h => hdv0 (hHD2.out h)
                    simp
                    omega
                  go_quiet (fail)
                  go_wp2
                  exact ⟨⟨i + 1, by omega, by go_num, below_drewN hbN _⟩, by simp [intOf]; omega⟩
              · obtain rfl : n = i := by omega
                have hwk := HC.out.works wr
                have hbW := hb14.trans (hbz.mono (by omega))
                have hzs := hbz.size
                clear hbz hb14
                go_wp2_with (go_at_call 11; go_must (refine (hwk).mono ?_); rintro e w6 ⟨rfl, hb15⟩)
                go_ret
                exact ⟨rfl, hbW.trans (hb15.mono (by omega))⟩
end Go.Proofs.YtibmpjhffeinoaaGreat
