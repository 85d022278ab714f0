/-
  The reference: paid, the rows of how few coins out of a stock.
-/
import Derived.Test.YtloibnmhgocboaaR3
import Derived.Test.YtloibnmhgocboaaRR
import Derived.Test.YtloibnmhgocboaaPd
import Derived.Test.YtloibnmhgocboaaQuiet
namespace Go.Proofs.Ytloibnmhgocboaa
open Go.RowKit

set_option maxRecDepth 100000 in
set_option maxHeartbeats 8000000 in
theorem rPaid (A : Option Addr) (n c : Nat) (cs : List Int) (D : Option Addr) (c2 : Nat) (st : List Int) (N : Nat) (w : World) (hx : Ri w w.heap.size A n cs) (hy : Ri w w.heap.size D n st) (hn : n ≤ 5) (hN : N ≤ 300) (HC : Hid (∀ c ∈ cs, 1 ≤ c ∧ c ≤ 50)) (HS : Hid (∀ s ∈ st, 0 ≤ s ∧ s ≤ 20)) :
    Calls Try.prog 79 #[.slice A n c, .slice D n c2, .int .i64 (N : Int)] w fun e w' => ∃ (A' : Option Addr) (c' : Nat), e = .returned (.slice A' (n + 1) c') ∧ RR w' w.heap.size A' (n + 1) c' (N + 1) (payT cs st N n n) ∧ Below w.heap.size w w' := by
  have HL := Lib.hid hx.len
  have HL2 := Lib.hid hy.len
  have HC1 : Hid (∀ c ∈ cs, 1 ≤ c) := Lib.hid (fun c h => (HC.out c h).1)
  have HS0 : Hid (∀ s ∈ st, 0 ≤ s) := Lib.hid (fun c h => (HS.out c h).1)
  have HLL : Hid (st.length = cs.length) := Lib.hid (by rw [HL.out, HL2.out])
  obtain ⟨P, HP⟩ : ∃ P : Nat, Hid (N + 1 = P) := ⟨_, Lib.hid rfl⟩
  rw [HP.out]
  have hP1 : (N : Int) + 1 = P := by have := HP.out; omega
  have hP2 : IntKind.i64.wrap (P : Int) = P := IntWalk.i64_in _ (by have := HP.out; omega)
  have hPN : N < P := by have := HP.out; omega
  have hP301 : P ≤ 301 := by have := HP.out; omega
  go_enter Try.func79, Try.ntmps79
  go_wp2_with (at_make; go_must (refine make_ints rfl (.tmp 16) (.tmp 16) rfl P _ rfl rfl rfl (by omega) ?_); go_must (intro w1 hr1 hb1))
  have hr2 : Oi w1 w.heap.size (some ⟨w.heap.size, 0, none⟩) P P (rowN N (mixZ 1)) := by rw [← mixZ_start, ← rowN_zero, HP.out]; exact hr1
  clear hr1
  go_loopw [8] (fun i wr => ∃ k : Nat, 1 ≤ k ∧ k ≤ P ∧ i = .int .i64 k ∧ Oi wr w.heap.size (some ⟨w.heap.size, 0, none⟩) P P (rowN N (mixZ k)) ∧ Below w.heap.size w wr) (fun i _ => P - (intOf i).toNat)
  case atStart => exact ⟨1, Nat.le_refl _, by omega, rfl, hr2, hb1⟩
  case round =>
    obtain ⟨k, h1k, hkP, rfl, ho, hb⟩ := hrel
    clear hr2 hb1
    by_cases hlt : k ≤ N
    · have hkP2 : k < P := by omega
      have hcell := ho.cell hkP2
      have hfr := ho.frozen k
      go_wp2
      go_roundw
      case rel => exact ⟨k + 1, by omega, by omega, by go_num, by rw [← mixZ_set hlt h1k]; exact ho.put_ k (-1), hb.setCell (Nat.le_refl _) _⟩
      case measure => simp [intOf]; omega
    · rw [mixZ_done HL.out (by omega)] at ho
      obtain ⟨V1, hV1⟩ : ∃ V : World, V = wr := ⟨_, rfl⟩
      subst hV1
      have hs1 := hb.size
      have hR1 := RR.lit1 hs1 ho
      have hB1 : Below w.heap.size w (V1.alloc (.cells #[.slice (some ⟨w.heap.size, 0, none⟩) P P] 22)) := hb.alloc hs1 _
      go_wp2
      go_loopw [9, 10] (fun o i wr => ∃ (j c' : Nat) (A' : Option Addr) (z : Int), j ≤ n ∧ z = (n : Int) - 1 - j ∧ i = .int .i64 z ∧ o = .slice A' (j + 1) c' ∧ RR wr w.heap.size A' (j + 1) c' P (payT cs st N n j) ∧ Below w.heap.size w wr) (fun _ i _ => (intOf i + 1).toNat)
      case atStart => exact ⟨0, 1, some ⟨V1.heap.size, 0, none⟩, (n : Int) - 1, Nat.zero_le _, by omega, by go_num, rfl, hR1, hB1⟩
      case round =>
        clear hR1 hB1
        obtain ⟨j, c', A', z, hj, hz, rfl, rfl, hR, hb2⟩ := hrel
        by_cases hz0 : 0 ≤ z
        · obtain ⟨q, rfl⟩ : ∃ q : Nat, z = q := ⟨z.toNat, by omega⟩
          have hqn : q < n := by omega
          have HJQ : Hid (n - j = q + 1) := Lib.hid (by omega)
          have HJQ2 : Hid (n - (j + 1) = q) := Lib.hid (by omega)
          have HZQ := Lib.hid hz
          have hjn1 : j + 1 ≤ n := by omega
          clear hz
          obtain ⟨V, hV⟩ : ∃ V : World, V = wr := ⟨_, rfl⟩
          subst hV
          have hs2 := hb2.size
          obtain ⟨ad, x, hA, hadb, hcx0, hxk, _⟩ := hx.at_ hqn
          subst hA
          obtain ⟨ad2, s, hD, hadb2, hcy0, hsk, _⟩ := hy.at_ hqn
          subst hD
          have hxb := HC.out x (List.mem_of_getElem? hxk.out)
          obtain ⟨hx1, hx50⟩ := hxb
          have hsb := HS.out s (List.mem_of_getElem? hsk.out)
          obtain ⟨hs0, hs20⟩ := hsb
          have HXN : Hid (nth cs q = x) := Lib.hid (nth_some hxk.out)
          have HSN : Hid (nth st q = s) := Lib.hid (nth_some hsk.out)
          have hcx1 : V.cell? (ad.add q) = some (.int .i64 x) := (hb2.cell (by rw [addr_block]; exact hadb)).trans hcx0
          have hcy1 : V.cell? (ad2.add q) = some (.int .i64 s) := (hb2.cell (by rw [addr_block]; exact hadb2)).trans hcy0
          go_wp2_with (at_make; go_must (refine make_ints rfl (.tmp 36) (.tmp 36) rfl P _ rfl rfl rfl (by omega) ?_); go_must (intro wn hrn hbn))
          have hrn2 : Oi wn V.heap.size (some ⟨V.heap.size, 0, none⟩) P P (rowN N (mixP cs st q 0 0)) := by rw [← mixP_start, ← rowN_zero, HP.out]; exact hrn
          clear hrn
          go_loopw [12] (fun i wr => ∃ k : Nat, k ≤ P ∧ i = .int .i64 k ∧ Oi wr V.heap.size (some ⟨V.heap.size, 0, none⟩) P P (rowN N (mixP cs st q k 0)) ∧ Below V.heap.size V wr) (fun i _ => P - (intOf i).toNat)
          case atStart => exact ⟨0, Nat.zero_le _, rfl, hrn2, hbn⟩
          case round =>
            clear hrn2 hbn
            obtain ⟨k, hkP3, rfl, ho3, hb3⟩ := hrel
            by_cases hkN : k ≤ N
            · have hkP4 : k < P := by omega
              obtain ⟨R, HR⟩ : ∃ R : Nat, Hid (roundsG s x (k : Int) = R) := ⟨_, Lib.hid rfl⟩
              have HRR : Hid (∀ t : Nat, t < R ↔ (t : Int) ≤ s ∧ (t : Int) * x ≤ k) := Lib.hid (fun t => by rw [← HR.out]; exact rounds_lt hs0 hx1 (by omega) t)
              have HPF : Hid (payF cs st q k = stepG (fun r => gmin (cs.drop (q + 1)) (st.drop (q + 1)) r) x k R) := Lib.hid (by rw [payF_step (by rw [HL.out]; exact hqn) HLL.out, HXN.out, HSN.out, HR.out])
              have HSB : Hid (∀ t : Nat, t ≤ R → -1 ≤ stepG (fun r => gmin (cs.drop (q + 1)) (st.drop (q + 1)) r) x k t ∧ stepG (fun r => gmin (cs.drop (q + 1)) (st.drop (q + 1)) r) x k t ≤ k) := Lib.hid (fun t ht => stepG_le hx1 (fun i hi => (gmin_le (fun y hy => HC1.out y (List.mem_of_mem_drop hy)) (fun y hy => HS0.out y (List.mem_of_mem_drop hy)) (by rw [List.length_drop, List.length_drop, HLL.out]) (by have := (HRR.out i).1 (by omega); omega)).2) (fun i hi => ((HRR.out i).1 (by omega)).2) (by omega))
              have hcell := ho3.cell hkP4
              have hfr := ho3.frozen k
              have hoS := ho3.put_ k (-1)
              rw [mixP_set cs st hkN] at hoS
              have hbS := hb3.setCell (p := ⟨V.heap.size, k, none⟩) (Nat.le_refl _) (.int .i64 (-1))
              go_wp2
              go_loopw [13] (fun i wr => ∃ (t : Nat) (z2 : Int), t ≤ R ∧ i = .int .i64 t ∧ Hid (stepG (fun r => gmin (cs.drop (q + 1)) (st.drop (q + 1)) r) x k t = z2) ∧ Oi wr V.heap.size (some ⟨V.heap.size, 0, none⟩) P P (rowN N (mixP cs st q k z2)) ∧ Below V.heap.size V wr) (fun i _ => R - (intOf i).toNat)
              case atStart => exact ⟨0, -1, Nat.zero_le _, rfl, Lib.hid rfl, hoS, hbS⟩
              case round =>
                clear hoS hbS hcell hfr ho3 hb3
                obtain ⟨t, z2, htR, rfl, HST, ho4, hb4⟩ := hrel
                have hzb := HSB.out t htR
                rw [HST.out] at hzb
                obtain ⟨hz1, hz2⟩ := hzb
                have hcx : wr.cell? (ad.add q) = some (.int .i64 x) := (hb4.cell (by rw [addr_block]; exact Nat.lt_of_lt_of_le hadb hs2)).trans hcx1
                have hcy : wr.cell? (ad2.add q) = some (.int .i64 s) := (hb4.cell (by rw [addr_block]; exact Nat.lt_of_lt_of_le hadb2 hs2)).trans hcy1
                have hcur := ho4.cell hkP4
                have hfr4 := ho4.frozen k
                rw [mixP_at cs st z2 hkN] at hcur
                obtain ⟨p, HPP⟩ : ∃ p, Hid ((t : Int) * x = p) := ⟨_, Lib.hid rfl⟩
                have hpx : (t : Int) * x = p := HPP.out
                have hp0 : 0 ≤ p := by rw [← hpx]; exact Int.mul_nonneg (by omega) (by omega)
                by_cases hltR : t < R
                · have hin2 := (HRR.out t).1 hltR
                  obtain ⟨hts, htx⟩ := hin2
                  rw [hpx] at htx
                  have hwp : IntKind.i64.wrap p = p := IntWalk.i64_in _ (by omega)
                  obtain ⟨u, HU⟩ : ∃ u : Nat, Hid ((k : Int) - p = u) := ⟨((k : Int) - p).toNat, Lib.hid (by omega)⟩
                  have hu : (k : Int) - p = u := HU.out
                  have hwu : IntKind.i64.wrap (u : Int) = u := IntWalk.i64_in _ (by omega)
                  have huN : u ≤ N := by omega
                  have huP : u < P := by omega
                  have hR4 := hR.below hb4
                  obtain ⟨ad3, g3, c3, L3, hA3, _, _, hc3, HL3, hO3⟩ := hR4.at_ (i := j) (by omega)
                  subst hA3
                  obtain ⟨y, HY⟩ : ∃ y, Hid (payF cs st (q + 1) u = y) := ⟨_, Lib.hid rfl⟩
                  have hcy3 := hO3.cell huP
                  rw [show nth L3 u = y by rw [payT_at HL3.out, nth_rowN huN, HJQ.out, HY.out]] at hcy3
                  have hyb := payF_bd (N := N) HC1.out HS0.out HLL.out (q + 1) u
                  rw [HY.out] at hyb
                  obtain ⟨hy0, hy1⟩ := hyb
                  have hwj : (j : Int) + 1 - 1 = j := by omega
                  have hwj2 : IntKind.i64.wrap (j : Int) = j := IntWalk.i64_in _ (by omega)
                  have hjl : j < j + 1 := by omega
                  have hq0 : (0 : Int) ≤ (t : Int) := by omega
                  have HSTEP : Hid (stepG (fun r => gmin (cs.drop (q + 1)) (st.drop (q + 1)) r) x k (t + 1) = if 0 ≤ y ∧ (z2 < 0 ∨ y + t < z2) then y + t else z2) := Lib.hid (by
                    have h1 : gmin (cs.drop (q + 1)) (st.drop (q + 1)) ((k : Int) - t * x) = y := by rw [HPP.out, HU.out]; exact HY.out
                    rw [stepG, h1, HST.out])
                  clear hR4
                  have hwy : IntKind.i64.wrap (y + (t : Int)) = y + (t : Int) := IntWalk.i64_in _ (by omega)
                  by_cases hyn : y < 0
                  · have HE : Hid ((if 0 ≤ y ∧ (z2 < 0 ∨ y + t < z2) then y + t else z2) = z2) := Lib.hid (if_neg (by omega))
                    go_wp2
                    go_quiet (fail)
                    go_wp2
                    go_roundw
                    case rel => exact ⟨t + 1, z2, by omega, by go_num, Lib.hid (HSTEP.out.trans HE.out), ho4, below_drewN hb4 _⟩
                    case measure => simp [intOf]; omega
                  · by_cases hzn : z2 < 0
                    · have HE : Hid ((if 0 ≤ y ∧ (z2 < 0 ∨ y + t < z2) then y + t else z2) = y + t) := Lib.hid (if_pos ⟨by omega, .inl hzn⟩)
                      go_wp2
                      go_quiet (fail)
                      go_wp2
                      go_roundw
                      case rel => exact ⟨t + 1, y + t, by omega, by go_num, Lib.hid (HSTEP.out.trans HE.out), by rw [← mixP_set cs st hkN z2]; exact (ho4.drewN _).put_ k (y + t), (below_drewN hb4 _).setCell (Nat.le_refl _) _⟩
                      case measure => simp [intOf]; omega
                    · by_cases hyz : y + t < z2
                      · have HE : Hid ((if 0 ≤ y ∧ (z2 < 0 ∨ y + t < z2) then y + t else z2) = y + t) := Lib.hid (if_pos ⟨by omega, .inr hyz⟩)
                        go_wp2
                        go_quiet (fail)
                        go_wp2
                        go_roundw
                        case rel => exact ⟨t + 1, y + t, by omega, by go_num, Lib.hid (HSTEP.out.trans HE.out), by rw [← mixP_set cs st hkN z2]; exact (ho4.drewN _).put_ k (y + t), (below_drewN hb4 _).setCell (Nat.le_refl _) _⟩
                        case measure => simp [intOf]; omega
                      · have HE : Hid ((if 0 ≤ y ∧ (z2 < 0 ∨ y + t < z2) then y + t else z2) = z2) := Lib.hid (if_neg (by omega))
                        go_wp2
                        go_quiet (fail)
                        go_wp2
                        go_roundw
                        case rel => exact ⟨t + 1, z2, by omega, by go_num, Lib.hid (HSTEP.out.trans HE.out), ho4, below_drewN hb4 _⟩
                        case measure => simp [intOf]; omega
                · obtain rfl : t = R := by omega
                  have hnot : ¬ ((t : Int) ≤ s ∧ p ≤ k) := fun h => hltR ((HRR.out t).2 ⟨h.1, by rw [hpx]; exact h.2⟩)
                  have HNX : Hid (rowN N (mixP cs st q k z2) = rowN N (mixP cs st q (k + 1) 0)) := Lib.hid (by rw [← mixP_next, HPF.out, HST.out])
                  rw [HNX.out] at ho4
                  by_cases hts : (t : Int) ≤ s
                  · have hpk : ¬ p ≤ (k : Int) := fun h => hnot ⟨hts, h⟩
                    have hpk2 : p ≤ 1000 := by
                      rw [← hpx]
                      have h1 : (t : Int) * x ≤ 20 * x := Int.mul_le_mul_of_nonneg_right (by omega) (by omega)
                      omega
                    have hwp : IntKind.i64.wrap p = p := IntWalk.i64_in _ (by omega)
                    clear hnot
                    go_wp2
                    go_roundw
                    case rel => exact ⟨k + 1, by omega, by go_num, ho4, hb4⟩
                    case measure => simp [intOf]; omega
                  · clear hnot
                    go_wp2
                    go_roundw
                    case rel => exact ⟨k + 1, by omega, by go_num, ho4, hb4⟩
                    case measure => simp [intOf]; omega
            · rw [mixP_done cs st 0 (by omega)] at ho3
              have hs3 := hb3.size
              have hR4 := hR.below hb3
              have ho5 := ho3.base hs2
              have HTS := Lib.hid (payT_succ cs st N n j)
              rw [HJQ2.out] at HTS
              have hb5 : Below w.heap.size w wr := hb2.trans (hb3.mono hs2)
              have hs5 := hb5.size
              go_wp2_with (at_builtin; refine push_row rfl (.tmp 105) (.tmp 107) rfl w.heap.size A' (j + 1) c' P (payT cs st N n j) rfl (hR4.alloc _) ⟨wr.heap.size, 0, none⟩ 1 V.heap.size P _ rfl (cell_new1 _ _ _) (ho5.alloc _) (by omega) (by simp only [World.size_alloc]; omega) ?_; intro g1 cap1 w1 hown1 hgrow1)
              go_roundw
              case rel => exact ⟨j + 1, cap1, some ⟨g1, 0, none⟩, (q : Int) - 1, hjn1, by have := HZQ.out; omega, by go_num, rfl, by rw [HTS.out]; exact hown1, hR4.pushed hb5 hs5 (Nat.le_refl _) hgrow1⟩
              case measure => (try simp [intOf]) <;> (try omega)
        · obtain rfl : j = n := by omega
          go_wp2
          go_ret
          exact ⟨_, _, rfl, hR, hb2⟩
end Go.Proofs.Ytloibnmhgocboaa
