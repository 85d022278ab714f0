/-
  The program: ways, Ways, Bad.
-/
import Derived.Test.YtloibnmhgocboaaF6
namespace Go.Proofs.Ytloibnmhgocboaa
open Go.RowKit Go.Shelf

set_option maxRecDepth 100000 in
set_option maxHeartbeats 4000000 in
theorem dWays (g0 m N0 : Nat) (A : Option Addr) (n c : Nat) (st cs : List Int) (ff : Int × Int → Option Int) (N : Nat) (hN : N ≤ 300) (HG : Hid (Good cs)) (w : World) (ht : Till w g0 m N0 A n c st ff) (hx : Ri w w.heap.size A n cs) :
    Calls Try.prog 76 #[.pointer (some ⟨g0, 0, none⟩), .int .i64 (N : Int)] w (RetI w (ways cs N)) := by
  have kg := ht.bk
  have hgl := kg.lt
  clear ht
  have HL := Lib.hid hx.len
  have k0 : w.cell? ⟨g0, 0, none⟩ = some (.slice A n c) := kg.cell 0
  have hn5 : n ≤ 5 := by rw [← HL.out]; exact HG.out.hi
  obtain ⟨P, HP⟩ : ∃ P : Nat, Hid (P = N + 1) := ⟨_, Lib.hid rfl⟩
  have hP1 : (N : Int) + 1 = P := by rw [HP.out]; omega
  have hP2 : IntKind.i64.wrap ((N : Int) + 1) = P := by rw [hP1]; exact IntWalk.i64_in _ (by have := HP.out; omega)
  have hPN : N < P := by rw [HP.out]; omega
  have hP0 : 0 < P := by omega
  have hP301 : P ≤ 301 := by have := HP.out; omega
  go_enter Try.func76, Try.ntmps76
  go_wp2_with (at_make; go_must (refine make_ints rfl (.tmp 12) (.tmp 12) rfl P _ rfl rfl rfl (by omega) ?_); go_must (intro w1 hr1 hb1; have hc1 := hr1.cell hP0; have hf1 := hr1.frozen 0; have k1 : w1.cell? ⟨g0, 0, none⟩ = some (.slice A n c) := (hb1.cell (p := ⟨g0, 0, none⟩) hgl).trans k0; have k2 : (w1.setCell ⟨w.heap.size, 0, none⟩ (.int .i64 1)).cell? ⟨g0, 0, none⟩ = some (.slice A n c) := (World.cell?_setCell_other _ _ _ _ (fun e => by have := congrArg Addr.block e; simp at this; omega)).trans k1))
  have hr2 := hr1.put_ 0 1
  have hr3 : Oi (w1.setCell ⟨w.heap.size, 0, none⟩ (.int .i64 1)) w.heap.size (some ⟨w.heap.size, 0, none⟩) P P (wRow cs N 0) := by
    rw [wRow_zero, ← startW_zeros, ← HP.out]
    exact hr2
  have hb2 := hb1.setCell (p := ⟨w.heap.size, 0, none⟩) (Nat.le_refl _) (.int .i64 1)
  clear hr1 hr2 hc1 hf1 k1 k2 hb1
  go_loopw [22] (fun i wr => ∃ k : Nat, k ≤ n ∧ i = .int .i64 k ∧ Oi wr w.heap.size (some ⟨w.heap.size, 0, none⟩) P P (wRow cs N k) ∧ Below w.heap.size w wr) (fun i _ => n - (intOf i).toNat)
  case atStart => exact ⟨0, Nat.zero_le _, rfl, hr3, hb2⟩
  case round =>
    obtain ⟨k, hk, rfl, ho, hb⟩ := hrel
    by_cases hlt : k < n
    · obtain ⟨ad, x, rfl, hadb, hcx0, hxk, _⟩ := hx.at_ hlt
      have hcx : wr.cell? (ad.add k) = some (.int .i64 x) := (hb.cell (by rw [addr_block]; exact hadb)).trans hcx0
      have hxg := HG.out.all x (List.mem_of_getElem? hxk.out)
      obtain ⟨X, rfl⟩ : ∃ X : Nat, x = X := ⟨x.toNat, by omega⟩
      have hX1 : 1 ≤ X := by omega
      have hX50 : X ≤ 50 := by omega
      have HSUC := Lib.hid (wRow_succ (N := N) hxk.out)
      have HAT := Lib.hid (fun (j : Nat) (hj : j ≤ N) => atC_wRow hxk.out hj)
      have HB1 := Lib.hid (fun (j : Nat) (hj : j ≤ N) => wRow_bd HG.out hN k j hj)
      have HB2 := Lib.hid (fun (j : Nat) (hj : j ≤ N) => wRow_bd HG.out hN (k + 1) j hj)
      have HLW := Lib.hid (wRow_len cs N k)
      obtain ⟨L, HLE⟩ : ∃ L, Hid (wRow cs N k = L) := ⟨_, Lib.hid rfl⟩
      rw [HLE.out] at ho
      have HST : Hid (mixW X L N X = L) := Lib.hid (mixW_start hX1 (by rw [← HLE.out]; exact HLW.out))
      have HAL : Hid (∀ j : Nat, j ≤ N → 0 ≤ atC X L j ∧ atC X L j ≤ 8208541201 ∧ 0 ≤ nth L j ∧ nth L j ≤ 8208541201) := Lib.hid (fun j hj => by
        have h1 := HAT.out j hj
        rw [HLE.out] at h1
        have h2 := HB2.out j hj
        have h3 := HB1.out j hj
        rw [HLE.out] at h3
        have h4 : atC X L j = nth (wRow cs N (k + 1)) j := h1
        omega)
      have HFIN : Hid (addC X L (N + 1) = wRow cs N (k + 1)) := Lib.hid (by rw [HSUC.out, HLE.out]; rfl)
      clear hxg
      go_wp2
      go_loopw [28] (fun i wr => ∃ a : Nat, a ≤ P ∧ i = .int .i64 a ∧ Oi wr w.heap.size (some ⟨w.heap.size, 0, none⟩) P P (mixW X L N (a + X)) ∧ Below w.heap.size w wr) (fun i _ => P - (intOf i).toNat)
      case atStart => exact ⟨0, Nat.zero_le _, rfl, by rw [Nat.zero_add, HST.out]; exact ho, hb⟩
      case round =>
        obtain ⟨a, ha, rfl, ho3, hb3⟩ := hrel
        by_cases hlt2 : a < P
        · have haN : a ≤ N := by have := HP.out; omega
          have hcell := ho3.cell hlt2
          rw [nth_mixW haN, if_pos (by omega)] at hcell
          obtain ⟨u, hu⟩ : ∃ u, atC X L a = u := ⟨_, rfl⟩
          have HU := Lib.hid hu
          rw [hu] at hcell
          have hub := HAL.out a haN
          rw [hu] at hub
          clear hu
          have hw0 : IntKind.i64.wrap ((a : Int) + X) = (a : Int) + X := IntWalk.i64_in _ (by omega)
          by_cases hto : a + X ≤ N
          · obtain ⟨t, HT⟩ : ∃ t : Nat, Hid (t = a + X) := ⟨_, Lib.hid rfl⟩
            have htP : t < P := by rw [HT.out]; omega
            have htN : t ≤ N := by rw [HT.out]; exact hto
            have hti : (a : Int) + X = t := by rw [HT.out]; omega
            have hcell2 := ho3.cell htP
            have hfr2 := ho3.frozen t
            rw [nth_mixW htN, if_neg (by rw [HT.out]; omega)] at hcell2
            obtain ⟨v, hv⟩ : ∃ v, nth L t = v := ⟨_, rfl⟩
            have HV := Lib.hid hv
            rw [hv] at hcell2
            have hvb := HAL.out t htN
            rw [hv] at hvb
            clear hv
            have hw1 : IntKind.i64.wrap (v + u) = v + u := IntWalk.i64_in _ (by omega)
            have HNEW : Hid (atC X L t = v + u) := Lib.hid (by rw [atC_eq X hX1, HV.out, if_pos (by rw [HT.out]; omega), show t - X = a by rw [HT.out]; omega, HU.out])
            have HMX : Hid (mixW X L N (a + 1 + X) = (mixW X L N (a + X)).set t (v + u)) := Lib.hid (by
              rw [← HNEW.out, show a + 1 + X = t + 1 by rw [HT.out]; omega, ← HT.out]
              exact (mixW_step htN).symm)
            have hw2 : IntKind.i64.wrap ((a : Int) + X) = t := by rw [hti]; exact IntWalk.i64_in _ (by omega)
            go_wp2
            go_roundw
            case rel => exact ⟨a + 1, by omega, by go_num, by rw [HMX.out]; exact ho3.put_ t (v + u), hb3.setCell (Nat.le_refl _) _⟩
            case measure => simp [intOf]; omega
          · have HMX : Hid (mixW X L N (a + 1 + X) = mixW X L N (a + X)) := Lib.hid (by rw [show a + 1 + X = a + X + 1 by omega]; exact mixW_over (by omega))
            have hgt : (N : Int) < (a : Int) + X := by omega
            go_wp2
            go_roundw
            case rel => exact ⟨a + 1, by omega, by go_num, by rw [HMX.out]; exact ho3, hb3⟩
            case measure => simp [intOf]; omega
        · have HMX : Hid (mixW X L N (a + X) = wRow cs N (k + 1)) := Lib.hid (by rw [mixW_all (by have := HP.out; omega)]; exact HFIN.out)
          rw [HMX.out] at ho3
          go_wp2
          go_roundw
          case rel => exact ⟨k + 1, by omega, by go_num, ho3, hb3⟩
          case measure => simp [intOf]; omega
    · obtain rfl : k = n := by omega
      have HE : Hid (nth (wRow cs N k) N = ways cs N) := Lib.hid (by
        unfold wRow
        rw [List.take_of_length_le (by rw [HL.out]; exact Nat.le_refl _)]
        rfl)
      have hcell := ho.cell hPN
      rw [HE.out] at hcell
      go_wp2
      go_ret
      exact ⟨rfl, hb⟩
set_option maxHeartbeats 1000000 in
theorem fWaysT (A : Option Addr) (n c : Nat) (cs : List Int) (a : Int) (w : World) (hx : Ri w w.heap.size A n cs) (hn : n ≤ 1048576) (hc : n ≤ c) (v r : Int) (HR : Hid (waysS cs a = (v, r))) : Calls Try.prog 45 #[.slice A n c, .int .i64 a] w (RetII w v r) := by
  obtain ⟨q, HQ⟩ : ∃ q, Hid (amountE cs a = q) := ⟨_, Lib.hid rfl⟩
  by_cases h0 : q = 0
  · subst h0
    obtain ⟨hg, ha0, ha1⟩ := amountE_ok.1 HQ.out
    have HG := Lib.hid hg
    obtain ⟨N, rfl⟩ : ∃ N : Nat, a = N := ⟨a.toNat, by omega⟩
    have hN : N ≤ 300 := by omega
    have HE : Hid (ways cs N = v ∧ 0 = r) := Lib.hid (by
      have e := HR.out
      unfold waysS at e
      rw [if_pos HQ.out] at e
      cases e
      exact ⟨rfl, rfl⟩)
    clear hg
    go_enter Try.func45, Try.ntmps45
    go_wp2_with fail
    refine (fOpen1_ok A n c cs (N : Int) w hx hc HQ).mono ?_
    rintro e w1 ⟨g, m, rfl, ht, hg1, hm1, hb1⟩
    have hx1 := hx.next hb1 (Nat.le_refl _) hb1.size
    go_wp2_with fail
    refine (dWays g m 0 A n c (stockN n) cs _ N hN HG w1 ht hx1).mono ?_
    rintro e w2 ⟨rfl, hb2⟩
    have hb3 := hb1.trans (hb2.mono hb1.size)
    go_wp2
    go_ret2
    exact ⟨ret_ii HE.out.1 HE.out.2, hb3⟩
  · have HE : Hid (0 = v ∧ q = r) := Lib.hid (by
      have e := HR.out
      unfold waysS at e
      rw [if_neg (by rw [HQ.out]; exact h0), HQ.out] at e
      cases e
      exact ⟨rfl, rfl⟩)
    have hq := ne0 h0
    go_enter Try.func45, Try.ntmps45
    go_wp2_with fail
    refine (fOpen1_err A n c cs a w hx hn hc q HQ h0).mono ?_
    rintro e w1 ⟨rfl, hb1⟩
    go_wp2
    go_ret2
    exact ⟨ret_ii HE.out.1 HE.out.2, hb1⟩
set_option maxHeartbeats 2000000 in
theorem fBadT (A : Option Addr) (n c : Nat) (cs : List Int) (w : World) (hx : Ri w w.heap.size A n cs) (hn : n ≤ 1048576) (hc : n ≤ c) (v r : Int) (HR : Hid (badS cs = (v, r))) : Calls Try.prog 35 #[.slice A n c] w (RetII w v r) := by
  obtain ⟨q, HQ⟩ : ∃ q, Hid (checkCoins cs = q) := ⟨_, Lib.hid rfl⟩
  have HL := Lib.hid hx.len
  by_cases h0 : q = 0
  · subst h0
    have hg := checkCoins_good.1 HQ.out
    have HG := Lib.hid hg
    have hn1 : 1 ≤ n := by rw [← HL.out]; exact hg.lo
    have hn5 : n ≤ 5 := by rw [← HL.out]; exact hg.hi
    obtain ⟨ad, h, rfl, hadb, hc0, hh0, _⟩ := hx.at_ (k := 0) (by omega)
    rw [addr_zero] at hc0
    clear hg
    by_cases h1 : h = 1
    · have hzb : (h != 1) = false := by simp [h1]
      have HH : Hid (nth cs 0 = 1) := Lib.hid (by rw [nth_some hh0.out]; exact h1)
      clear h1
      by_cases h3 : n < 3
      · have HE : Hid (0 = v ∧ 5 = r) := Lib.hid (by
          have e := HR.out
          unfold badS at e
          rw [if_pos HQ.out, if_neg (by rw [HH.out]; simp), if_pos (by rw [HL.out]; exact h3)] at e
          cases e
          exact ⟨rfl, rfl⟩)
        go_enter Try.func35, Try.ntmps35
        go_wp2_with fail
        refine (fCheckCoins _ _ _ _ _ hx (by omega) hc _ HQ).mono ?_
        rintro e w1 ⟨rfl, hb1⟩
        have hch : w1.cell? ad = some (.int .i64 h) := (hb1.cell hadb).trans hc0
        go_wp2
        go_ret2
        exact ⟨ret_ii HE.out.1 HE.out.2, hb1⟩
      · obtain ⟨i, HI⟩ : ∃ i, Hid (n = i + 2) := ⟨n - 2, Lib.hid (by omega)⟩
        have hi1 : i + 1 < n := by rw [HI.out]; omega
        obtain ⟨ad2, x, hA, _, cx0, hxk, _⟩ := hx.at_ hi1
        cases hA
        obtain ⟨ad2, y, hA, _, cy0, hyk, _⟩ := hx.at_ (k := i) (by omega)
        cases hA
        have hx50 := HG.out.all x (List.mem_of_getElem? hxk.out)
        have hy50 := HG.out.all y (List.mem_of_getElem? hyk.out)
        obtain ⟨j, HJ⟩ : ∃ j, Hid (j = i + 1) := ⟨_, Lib.hid rfl⟩
        rw [← HJ.out] at cx0
        have hn1' : (n : Int) - 1 = j := by rw [HI.out, HJ.out]; omega
        have hn2' : (n : Int) - 2 = i := by rw [HI.out]; omega
        have hw1 : IntKind.i64.wrap ((n : Int) - 1) = j := by rw [hn1']; exact IntWalk.i64_in _ (by have := HJ.out; omega)
        have hw2 : IntKind.i64.wrap ((n : Int) - 2) = i := by rw [hn2']; exact IntWalk.i64_in _ (by omega)
        have hjn : j < n := by rw [HJ.out]; exact hi1
        have hin : i < n := by omega
        obtain ⟨T, HT⟩ : ∃ T : Nat, Hid (x + y = T) := ⟨(x + y).toNat, Lib.hid (by omega)⟩
        have hxy : x + y = T := HT.out
        have hT : T ≤ 100 := by omega
        have hw3 : IntKind.i64.wrap (x + y) = T := by rw [hxy]; exact IntWalk.i64_in _ (by omega)
        have HTT : Hid (topTwo cs = T) := Lib.hid (by
          unfold topTwo
          have hl := HL.out
          have hi := HI.out
          rw [hl, show n - 1 = i + 1 by omega, show n - 2 = i by omega, nth_some hxk.out, nth_some hyk.out, hxy]
          rfl)
        have HE : Hid (badUpTo cs T = (v, r)) := Lib.hid (by
          have e := HR.out
          unfold badS at e
          rw [if_pos HQ.out, if_neg (by rw [HH.out]; simp), if_neg (by rw [HL.out]; exact h3), HTT.out] at e
          exact e)
        go_enter Try.func35, Try.ntmps35
        go_wp2_with fail
        refine (fCheckCoins _ _ _ _ _ hx (by omega) hc _ HQ).mono ?_
        rintro e w1 ⟨rfl, hb1⟩
        have hch : w1.cell? ad = some (.int .i64 h) := (hb1.cell hadb).trans hc0
        have cx1 : w1.cell? (ad.add j) = some (.int .i64 x) := (hb1.cell (by rw [addr_block]; exact hadb)).trans cx0
        have cy1 : w1.cell? (ad.add i) = some (.int .i64 y) := (hb1.cell (by rw [addr_block]; exact hadb)).trans cy0
        clear cx0 cy0
        go_wp2
        go_quiet (fail)
        go_wp2
        go_loopw [34] (fun a wr => ∃ k : Nat, k ≤ T ∧ a = .int .i64 k ∧ Below w.heap.size w wr ∧ Hid (∀ j : Nat, j < k → isBad cs j = false)) (fun a _ => T - (intOf a).toNat)
        case atStart => exact ⟨0, Nat.zero_le _, rfl, below_drewN hb1 _, Lib.hid (fun b hb => absurd hb (Nat.not_lt_zero b))⟩
        case round =>
          obtain ⟨k, hk, rfl, hb, HNB⟩ := hrel
          by_cases hlt : k < T
          · obtain ⟨e, HEK⟩ : ∃ e, Hid (checkBadS cs (k : Int) = e) := ⟨_, Lib.hid rfl⟩
            have hx1 := hx.next hb (Nat.le_refl _) hb.size
            by_cases he : e = 0
            · have hqe : (e == 0) = true := by simp [he]
              have HEV : Hid ((k : Int) = v ∧ 0 = r) := Lib.hid (by
                have hf : firstBad cs T = k := firstBad_eq (by unfold isBad; rw [HEK.out, he]; rfl) HNB.out hlt
                have h2 := HE.out
                unfold badUpTo at h2
                rw [hf, if_pos hlt] at h2
                cases h2
                exact ⟨rfl, rfl⟩)
              clear he
              go_wp2_with fail
              refine (fCheckBadT _ _ _ _ _ hx1 hn hc _ _ HEK).mono ?_
              rintro e w2 ⟨rfl, hb2⟩
              have hb3 := hb.trans (hb2.mono hb.size)
              go_wp2
              go_ret2
              exact ⟨ret_ii HEV.out.1 HEV.out.2, hb3⟩
            · have hqe : (e == 0) = false := by simp [he]
              have HNB2 : Hid (∀ j : Nat, j < k + 1 → isBad cs j = false) := Lib.hid (fun j hj => by
                rcases Nat.lt_or_ge j k with h | h
                · exact HNB.out j h
                · obtain rfl : j = k := by omega
                  unfold isBad
                  rw [HEK.out]
                  exact decide_eq_false he)
              clear he
              go_wp2_with fail
              refine (fCheckBadT _ _ _ _ _ hx1 hn hc _ _ HEK).mono ?_
              rintro e w2 ⟨rfl, hb2⟩
              have hb3 := hb.trans (hb2.mono hb.size)
              go_wp2
              go_roundw
              case rel => exact ⟨k + 1, by omega, by go_num, hb3, HNB2⟩
              case measure => simp [intOf]; omega
          · have HEV : Hid (0 = v ∧ 5 = r) := Lib.hid (by
              have hf : firstBad cs T = T := firstBad_none (by rw [show T = k by omega]; exact HNB.out)
              have h2 := HE.out
              unfold badUpTo at h2
              rw [hf, if_neg (by omega)] at h2
              cases h2
              exact ⟨rfl, rfl⟩)
            go_wp2
            go_ret2
            exact ⟨ret_ii HEV.out.1 HEV.out.2, hb⟩
    · have HE : Hid (0 = v ∧ 2 = r) := Lib.hid (by
        have e := HR.out
        unfold badS at e
        rw [if_pos HQ.out, if_pos (by rw [nth_some hh0.out]; exact h1)] at e
        cases e
        exact ⟨rfl, rfl⟩)
      have hzb : (h != 1) = true := by simp [h1]
      clear h1
      go_enter Try.func35, Try.ntmps35
      go_wp2_with fail
      refine (fCheckCoins _ _ _ _ _ hx (by omega) hc _ HQ).mono ?_
      rintro e w1 ⟨rfl, hb1⟩
      have hch : w1.cell? ad = some (.int .i64 h) := (hb1.cell hadb).trans hc0
      go_wp2
      go_ret2
      exact ⟨ret_ii HE.out.1 HE.out.2, hb1⟩
  · have HE : Hid (0 = v ∧ q = r) := Lib.hid (by
      have e := HR.out
      unfold badS at e
      rw [if_neg (by rw [HQ.out]; exact h0), HQ.out] at e
      cases e
      exact ⟨rfl, rfl⟩)
    have hq := ne0 h0
    go_enter Try.func35, Try.ntmps35
    go_wp2_with fail
    refine (fCheckCoins _ _ _ _ _ hx (by omega) hc _ HQ).mono ?_
    rintro e w1 ⟨rfl, hb1⟩
    go_wp2
    go_ret2
    exact ⟨ret_ii HE.out.1 HE.out.2, hb1⟩
end Go.Proofs.Ytloibnmhgocboaa
