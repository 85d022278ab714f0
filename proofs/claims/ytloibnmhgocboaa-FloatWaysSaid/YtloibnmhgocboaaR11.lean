/-
  The reference: CheckStock, WaysOf, Ways.
-/
import Derived.Test.YtloibnmhgocboaaR3
import Derived.Test.YtloibnmhgocboaaPQ
import Derived.Test.YtloibnmhgocboaaStill
namespace Go.Proofs.Ytloibnmhgocboaa
open Go.RowKit

set_option maxHeartbeats 2000000 in
theorem rCheckStock (A : Option Addr) (n c : Nat) (cs : List Int) (D : Option Addr) (n2 c2 : Nat) (st : List Int) (a : Int) (w : World) (hx : Ri w w.heap.size A n cs) (hy : Ri w w.heap.size D n2 st) (hn : n ≤ 1048576) (hn2 : n2 ≤ 1048576) (r : Int) (HR : Hid (stockE cs st a = r)) :
    Calls Try.prog 78 #[.slice A n c, .slice D n2 c2, .int .i64 a] w fun e w' => e = .returned (.int .i64 r) ∧ ∃ m, w' = w.drewN m := by
  obtain ⟨q, HQ⟩ : ∃ q, Hid (amountE cs a = q) := ⟨_, Lib.hid rfl⟩
  have HL := Lib.hid hx.len
  have HL2 := Lib.hid hy.len
  by_cases h0 : q = 0
  · subst h0
    by_cases h1 : n2 = n
    · subst h1
      have HN : Hid (¬ st.length ≠ cs.length) := Lib.hid (by rw [HL.out, HL2.out]; simp)
      go_enter Try.func78, Try.ntmps78
      go_wp2_with fail
      refine (rAmount _ _ _ _ _ _ _ hx (by omega) _ HQ).mono ?_
      rintro e w1 ⟨rfl, m1, rfl⟩
      go_wp2
      go_loop [7] (fun i => ∃ k : Nat, k ≤ n2 ∧ i = .int .i64 k ∧ Hid ((st.take k).any (outB 0 20) = false)) (fun i => n2 - (intOf i).toNat)
      case atStart => exact ⟨0, Nat.zero_le _, rfl, Lib.hid rfl⟩
      case round =>
        obtain ⟨k, hk, rfl, hno⟩ := hrel
        by_cases hlt : k < n2
        · obtain ⟨ad, x, rfl, _, hc, hxk, _⟩ := hy.at_ hlt
          have hbad : outB 0 20 x = true → Hid (r = 2) := fun h => Lib.hid (by
            have e := HR.out
            unfold stockE at e
            rw [if_pos HQ.out, if_neg HN.out, if_pos (List.any_eq_true.2 ⟨x, List.mem_of_getElem? hxk.out, h⟩)] at e
            exact e.symm)
          by_cases hlo : x < 0
          · have HE := hbad (by simp [outB, hlo])
            clear hbad
            go_wp2
            go_ret
            exact ⟨ret_i HE.out.symm, m1, rfl⟩
          · by_cases hhi : 20 < x
            · have HE := hbad (by simp [outB, hhi])
              clear hbad
              go_wp2
              go_ret
              exact ⟨ret_i HE.out.symm, m1, rfl⟩
            · have HX : Hid ((st.take (k + 1)).any (outB 0 20) = false) := Lib.hid (by rw [take_snoc hxk.out, List.any_append, hno.out]; simp [outB]; omega)
              clear hbad
              go_wp2
              go_round
              case rel => exact ⟨k + 1, by omega, by go_num, HX⟩
              case measure => simp [intOf]; omega
        · have HE : Hid (0 = r) := Lib.hid (by
            have e := HR.out
            unfold stockE at e
            have h2 := hno.out
            rw [List.take_of_length_le (by rw [HL2.out]; omega)] at h2
            rw [if_pos HQ.out, if_neg HN.out, h2] at e
            exact e)
          clear hno
          go_wp2
          go_ret
          exact ⟨ret_i HE.out, m1, rfl⟩
    · have HE : Hid (15 = r) := Lib.hid (by
        have e := HR.out
        unfold stockE at e
        rw [if_pos HQ.out, if_pos (by rw [HL.out, HL2.out]; exact h1)] at e
        exact e)
      have hne : ((n2 : Int) != (n : Int)) = true := by simp only [bne_iff_ne, ne_eq]; omega
      go_enter Try.func78, Try.ntmps78
      go_wp2_with fail
      refine (rAmount _ _ _ _ _ _ _ hx (by omega) _ HQ).mono ?_
      rintro e w1 ⟨rfl, m1, rfl⟩
      go_wp2
      go_ret
      exact ⟨ret_i HE.out, m1, rfl⟩
  · have HE : Hid (q = r) := Lib.hid (by
      have e := HR.out
      unfold stockE at e
      rw [if_neg (by rw [HQ.out]; exact h0), HQ.out] at e
      exact e)
    have hq := ne0 h0
    go_enter Try.func78, Try.ntmps78
    go_wp2_with fail
    refine (rAmount _ _ _ _ _ _ _ hx (by omega) _ HQ).mono ?_
    rintro e w1 ⟨rfl, m1, rfl⟩
    go_wp2_with fail
    refine (rAmount _ _ _ _ _ _ _ (hx.drewN m1) (by omega) _ HQ).mono ?_
    rintro e w1 ⟨rfl, m2, rfl⟩
    go_wp2
    go_ret
    exact ⟨ret_i HE.out, m1 + m2, rfl⟩

set_option maxRecDepth 100000 in
set_option maxHeartbeats 4000000 in
theorem rWaysOf (A : Option Addr) (n c : Nat) (cs : List Int) (N : Nat) (w : World) (hx : Ri w w.heap.size A n cs) (hN : N ≤ 300) (HG : Hid (Good cs)) :
    Calls Try.prog 77 #[.slice A n c, .int .i64 (N : Int)] w (RetI w (ways cs N)) := by
  have HL := Lib.hid hx.len
  have hn5 : n ≤ 5 := by rw [← HL.out]; exact HG.out.hi
  obtain ⟨P, HP⟩ : ∃ P : Nat, Hid (P = N + 1) := ⟨_, Lib.hid rfl⟩
  have hP1 : (N : Int) + 1 = P := by rw [HP.out]; omega
  have hP2 : IntKind.i64.wrap ((N : Int) + 1) = P := by rw [hP1]; exact IntWalk.i64_in _ (by have := HP.out; omega)
  have hPN : N < P := by rw [HP.out]; omega
  have hP0 : 0 < P := by omega
  have hP301 : P ≤ 301 := by have := HP.out; omega
  go_enter Try.func77, Try.ntmps77
  go_wp2_with (at_make; go_must (refine make_ints rfl (.tmp 9) (.tmp 9) rfl P _ rfl rfl rfl (by omega) ?_); go_must (intro w1 hr1 hb1; have hc1 := hr1.cell hP0; have hf1 := hr1.frozen 0))
  have hr2 := hr1.put_ 0 1
  have hr3 : Oi (w1.setCell ⟨w.heap.size, 0, none⟩ (.int .i64 1)) w.heap.size (some ⟨w.heap.size, 0, none⟩) P P (wRow cs N 0) := by
    rw [wRow_zero, ← startW_zeros, ← HP.out]
    exact hr2
  have hb2 := hb1.setCell (p := ⟨w.heap.size, 0, none⟩) (Nat.le_refl _) (.int .i64 1)
  clear hr1 hr2 hc1 hf1 hb1
  go_loopw [6] (fun i wr => ∃ k : Nat, k ≤ n ∧ i = .int .i64 k ∧ Oi wr w.heap.size (some ⟨w.heap.size, 0, none⟩) P P (wRow cs N k) ∧ Below w.heap.size w wr) (fun i _ => n - (intOf i).toNat)
  case atStart => exact ⟨0, Nat.zero_le _, rfl, hr3, hb2⟩
  case round =>
    obtain ⟨k, hk, rfl, ho, hb⟩ := hrel
    by_cases hlt : k < n
    · obtain ⟨ad, x, rfl, hadb, hcx0, hxk, _⟩ := hx.at_ hlt
      have hcx : wr.cell? (ad.add k) = some (.int .i64 x) := (hb.cell (by rw [addr_block]; exact hadb)).trans hcx0
      have hxg := HG.out.all x (List.mem_of_getElem? hxk.out)
      obtain ⟨X, rfl⟩ : ∃ X : Nat, x = X := ⟨x.toNat, by omega⟩
      have hX1 : 1 ≤ X := by omega
      have hX50 : X ≤ 50 := by omega
      have HSUC := Lib.hid (wRow_succ (N := N) hxk.out)
      have HAT := Lib.hid (fun (j : Nat) (hj : j ≤ N) => atC_wRow hxk.out hj)
      have HB1 := Lib.hid (fun (j : Nat) (hj : j ≤ N) => wRow_bd HG.out hN k j hj)
      have HB2 := Lib.hid (fun (j : Nat) (hj : j ≤ N) => wRow_bd HG.out hN (k + 1) j hj)
      have HLW := Lib.hid (wRow_len cs N k)
      obtain ⟨L, HLE⟩ : ∃ L, Hid (wRow cs N k = L) := ⟨_, Lib.hid rfl⟩
      rw [HLE.out] at ho
      have HST : Hid (mixW X L N X = L) := Lib.hid (mixW_start hX1 (by rw [← HLE.out]; exact HLW.out))
      have HAL : Hid (∀ j : Nat, j ≤ N → 0 ≤ atC X L j ∧ atC X L j ≤ 8208541201 ∧ 0 ≤ nth L j ∧ nth L j ≤ 8208541201) := Lib.hid (fun j hj => by
        have h1 := HAT.out j hj
        rw [HLE.out] at h1
        have h2 := HB2.out j hj
        have h3 := HB1.out j hj
        rw [HLE.out] at h3
        have h4 : atC X L j = nth (wRow cs N (k + 1)) j := h1
        omega)
      have HFIN : Hid (addC X L (N + 1) = wRow cs N (k + 1)) := Lib.hid (by rw [HSUC.out, HLE.out]; rfl)
      clear hxg
      go_wp2
      go_loopw [7] (fun i wr => ∃ t : Nat, X ≤ t ∧ (t ≤ P ∨ t = X) ∧ i = .int .i64 t ∧ Oi wr w.heap.size (some ⟨w.heap.size, 0, none⟩) P P (mixW X L N t) ∧ Below w.heap.size w wr) (fun i _ => P - (intOf i).toNat)
      case atStart => exact ⟨X, Nat.le_refl _, .inr rfl, rfl, by rw [HST.out]; exact ho, hb⟩
      case round =>
        obtain ⟨t, htX, htP0, rfl, ho3, hb3⟩ := hrel
        have hcx3 : wr.cell? (ad.add k) = some (.int .i64 (X : Int)) := (hb3.cell (by rw [addr_block]; exact hadb)).trans hcx0
        by_cases hto : t ≤ N
        · have htP : t < P := by have := HP.out; omega
          obtain ⟨a, HA⟩ : ∃ a : Nat, Hid (t = a + X) := ⟨t - X, Lib.hid (by omega)⟩
          have haP : a < P := by have := HA.out; omega
          have haN : a ≤ N := by have := HA.out; omega
          have hti : (t : Int) - X = a := by rw [HA.out]; omega
          have hwa : IntKind.i64.wrap (a : Int) = a := IntWalk.i64_in _ (by omega)
          have hcell := ho3.cell haP
          rw [nth_mixW haN, if_pos (by have := HA.out; omega)] at hcell
          obtain ⟨u, hu⟩ : ∃ u, atC X L a = u := ⟨_, rfl⟩
          have HU := Lib.hid hu
          rw [hu] at hcell
          have hub := HAL.out a haN
          rw [hu] at hub
          clear hu
          have hcell2 := ho3.cell htP
          have hfr2 := ho3.frozen t
          rw [nth_mixW hto, if_neg (by omega)] at hcell2
          obtain ⟨v, hv⟩ : ∃ v, nth L t = v := ⟨_, rfl⟩
          have HV := Lib.hid hv
          rw [hv] at hcell2
          have hvb := HAL.out t hto
          rw [hv] at hvb
          clear hv
          have hw1 : IntKind.i64.wrap (v + u) = v + u := IntWalk.i64_in _ (by omega)
          have HNEW : Hid (atC X L t = v + u) := Lib.hid (by rw [atC_eq X hX1, HV.out, if_pos htX, show t - X = a by have := HA.out; omega, HU.out])
          have HMX : Hid (mixW X L N (t + 1) = (mixW X L N t).set t (v + u)) := Lib.hid (by
            rw [← HNEW.out]
            exact (mixW_step hto).symm)
          go_wp2
          refine wp_region_still_tail 15 (by kernel_rfl) (by kernel_rfl) ?_
          simp only [List.take_succ_cons, List.take_zero, List.drop_succ_cons, List.drop_zero]
          change wpStill _ _ wr.drew _ _ _
          have d1 : wr.drew.cell? (ad.add k) = some (.int .i64 (X : Int)) := hcx3
          have d2 : wr.drew.cell? ⟨w.heap.size, a, none⟩ = some (.int .i64 u) := hcell
          have d3 : wr.drew.cell? ⟨w.heap.size, t, none⟩ = some (.int .i64 v) := hcell2
          have d4 : wr.drew.frozen? ⟨w.heap.size, t, none⟩ = false := hfr2
          iterate 15 still_step
          refine wpStill_nil ?_
          go_wp2
          go_roundw
          case rel => exact ⟨t + 1, by omega, .inl (by omega), by go_num, by rw [HMX.out]; exact ho3.drew.put_ t (v + u), (below_drewN hb3 1).setCell (Nat.le_refl _) _⟩
          case measure => simp [intOf]; omega
        · have HMX : Hid (mixW X L N t = wRow cs N (k + 1)) := Lib.hid (by rw [mixW_all (by omega)]; exact HFIN.out)
          rw [HMX.out] at ho3
          go_wp2
          go_roundw
          case rel => exact ⟨k + 1, by omega, by go_num, ho3, hb3⟩
          case measure => simp [intOf]; omega
    · obtain rfl : k = n := by omega
      have HE : Hid (nth (wRow cs N k) N = ways cs N) := Lib.hid (by
        unfold wRow
        rw [List.take_of_length_le (by rw [HL.out]; exact Nat.le_refl _)]
        rfl)
      have hcell := ho.cell hPN
      rw [HE.out] at hcell
      go_wp2
      go_ret
      exact ⟨rfl, hb⟩
set_option maxHeartbeats 1000000 in
theorem rWaysT (A : Option Addr) (n c : Nat) (cs : List Int) (a : Int) (w : World) (hx : Ri w w.heap.size A n cs) (hn : n ≤ 1048576) (v r : Int) (HR : Hid (waysS cs a = (v, r))) : Calls Try.prog 46 #[.slice A n c, .int .i64 a] w (RetII w v r) := by
  obtain ⟨q, HQ⟩ : ∃ q, Hid (amountE cs a = q) := ⟨_, Lib.hid rfl⟩
  by_cases h0 : q = 0
  · subst h0
    obtain ⟨hg, ha0, ha1⟩ := amountE_ok.1 HQ.out
    have HG := Lib.hid hg
    obtain ⟨N, rfl⟩ : ∃ N : Nat, a = N := ⟨a.toNat, by omega⟩
    have hN : N ≤ 300 := by omega
    have HE : Hid (ways cs N = v ∧ 0 = r) := Lib.hid (by
      have e := HR.out
      unfold waysS at e
      rw [if_pos HQ.out] at e
      cases e
      exact ⟨rfl, rfl⟩)
    clear hg
    go_enter Try.func46, Try.ntmps46
    go_wp2_with fail
    refine (rAmount _ _ _ _ _ _ _ hx (by omega) _ HQ).mono ?_
    rintro e w1 ⟨rfl, m1, rfl⟩
    go_wp2_with fail
    refine (rWaysOf A n c cs N _ (hx.drewN m1) hN HG).mono ?_
    rintro e w2 ⟨rfl, hb2⟩
    have hb3 := below_d hb2
    go_wp2
    go_ret2
    exact ⟨ret_ii HE.out.1 HE.out.2, hb3⟩
  · have HE : Hid (0 = v ∧ q = r) := Lib.hid (by
      have e := HR.out
      unfold waysS at e
      rw [if_neg (by rw [HQ.out]; exact h0), HQ.out] at e
      cases e
      exact ⟨rfl, rfl⟩)
    have hq := ne0 h0
    go_enter Try.func46, Try.ntmps46
    go_wp2_with fail
    refine (rAmount _ _ _ _ _ _ _ hx (by omega) _ HQ).mono ?_
    rintro e w1 ⟨rfl, m1, rfl⟩
    go_wp2_with fail
    refine (rAmount _ _ _ _ _ _ _ (hx.drewN m1) (by omega) _ HQ).mono ?_
    rintro e w1 ⟨rfl, m2, rfl⟩
    go_wp2
    go_ret2
    exact ⟨ret_ii HE.out.1 HE.out.2, below_d0 _ _⟩
end Go.Proofs.Ytloibnmhgocboaa
