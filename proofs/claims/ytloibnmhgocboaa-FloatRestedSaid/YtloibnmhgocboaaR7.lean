/-
  The reference: Rests.
-/
import Derived.Test.YtloibnmhgocboaaR6
import Derived.Test.YtloibnmhgocboaaPR
namespace Go.Proofs.Ytloibnmhgocboaa
open Go.RowKit

set_option maxRecDepth 100000 in
set_option maxHeartbeats 4000000 in
theorem rRestsOf (A : Option Addr) (n c : Nat) (cs : List Int) (w : World) (hx : Ri w w.heap.size A n cs) (HG : Hid (Good cs)) :
    Calls Try.prog 71 #[.slice A n c] w fun e w' => ∃ (A' : Option Addr) (c' : Nat), e = .returned (.slice A' (first cs) c') ∧ Oi w' w.heap.size A' (first cs) c' (restsL cs) ∧ Below w.heap.size w w' := by
  have HL := Lib.hid hx.len
  have hn1 : 1 ≤ n := by rw [← HL.out]; exact HG.out.lo
  have hn5 : n ≤ 5 := by rw [← HL.out]; exact HG.out.hi
  have HC1 : Hid (∀ c ∈ cs, 1 ≤ c) := Lib.hid HG.out.pos
  obtain ⟨f, HF⟩ : ∃ f, Hid (first cs = f) := ⟨_, Lib.hid rfl⟩
  have hfp := first_pos HG.out
  rw [HF.out] at hfp ⊢
  obtain ⟨hf1, hf50, hff⟩ := hfp
  obtain ⟨ad, h, rfl, hadb, hc0, hh0, _⟩ := hx.at_ (k := 0) (by omega)
  rw [addr_zero] at hc0
  obtain rfl : h = f := by rw [hff]; exact (nth_some hh0.out).symm
  clear hh0 hff
  go_enter Try.func71, Try.ntmps71
  go_wp2
  go_loopw [3, 4] (fun o i wr => ∃ (k c' : Nat) (A' : Option Addr), k ≤ f ∧ i = .int .i64 k ∧ o = .slice A' k c' ∧ Oi wr w.heap.size A' k c' (List.replicate k (-1)) ∧ Below w.heap.size w wr) (fun _ i _ => f - (intOf i).toNat)
  case atStart => exact ⟨0, 0, none, Nat.zero_le _, rfl, rfl, Oi.nil_ _ _, Below.refl _ _⟩
  case round =>
    obtain ⟨k, c', A', hk, rfl, rfl, ho, hb⟩ := hrel
    have hsz := hb.size
    have hc1 : wr.cell? ad = some (.int .i64 f) := (hb.cell hadb).trans hc0
    by_cases hlt : k < f
    · go_wp2_with (at_builtin; refine push_int rfl (.tmp 17) (.tmp 18) rfl (w.heap.size) A' k c' (List.replicate k (-1)) rfl (ho.alloc _) ⟨wr.heap.size, 0, none⟩ 1 _ rfl (cell_new1 _ _ _) (by omega) (by simp only [World.size_alloc]; omega) ?_; intro g cap w1 hown1 hgrow1)
      go_roundw
      case rel => exact ⟨k + 1, _, _, by omega, by go_num, rfl, by rw [List.replicate_succ']; exact hown1, ho.pushed hb hsz (Nat.le_refl _) hgrow1⟩
      case measure => simp [intOf]; omega
    · obtain rfl : k = f := by omega
      obtain ⟨W1, hW1⟩ : ∃ W1 : World, W1 = wr := ⟨_, rfl⟩
      subst hW1
      obtain ⟨g, rfl, hg1, hg2⟩ := ho.row (by omega)
      have h00 : Oi (W1.alloc (.cells #[.int .i64 1] 2)) W1.heap.size (some ⟨W1.heap.size, 0, none⟩) 1 1 (canR cs 1) := by
        have e : canR cs 1 = [1] := by
          rw [canR_succ]
          show [] ++ [canV cs 0] = [1]
          rw [canV, if_pos (can_zero cs)]
          rfl
        rw [e]
        exact Oi.lit1 W1 1
      go_wp2
      go_loopw [5, 6] (fun o i w3 => ∃ (a c3 : Nat) (A3 : Option Addr), a ≤ 5000 ∧ i = .int .i64 ((a : Int) + 1) ∧ o = .slice A3 (a + 1) c3 ∧ Oi w3 W1.heap.size A3 (a + 1) c3 (canR cs (a + 1)) ∧ Below W1.heap.size W1 w3) (fun _ i _ => 5001 - (intOf i).toNat)
      case atStart => exact ⟨0, 1, _, Nat.zero_le _, rfl, rfl, h00, (Below.refl _ _).alloc (Nat.le_refl _) _⟩
      case round =>
        obtain ⟨a, c3, A3, ha, rfl, rfl, ho3, hb3⟩ := hrel
        have hsz3 := hb3.size
        have hor := ho3.ri
        by_cases hlt2 : a < 5000
        · have HSUC : Hid (canR cs (a + 1 + 1) = canR cs (a + 1) ++ [canV cs (a + 1)]) := Lib.hid (canR_succ _ _)
          go_wp2
          go_loop [7, 8] (fun b i => ∃ (j : Nat) (z : Int), j ≤ n ∧ i = .int .i64 j ∧ b = .int .i64 z ∧ 0 ≤ z ∧ z ≤ 1 ∧ Hid (CanBy cs (a + 1) j z)) (fun _ i => n - (intOf i).toNat)
          case atStart => exact ⟨0, 0, Nat.zero_le _, rfl, rfl, by omega, by omega, Lib.hid (canBy_zero _ _)⟩
          case round =>
            obtain ⟨j, z, hj, rfl, rfl, hz0, hz1, HZ⟩ := hrel
            by_cases hlt3 : j < n
            · obtain ⟨ad', x, hA, _, hcx0, hxk, _⟩ := hx.at_ hlt3
              cases hA
              have hcx : wr.cell? (ad.add j) = some (.int .i64 x) := (hb3.cell (by rw [addr_block]; have := hb.size; omega)).trans ((hb.cell (by rw [addr_block]; exact hadb)).trans hcx0)
              clear hcx0
              have hx1 := HC1.out x (List.mem_of_getElem? hxk.out)
              have hx50 := (HG.out.all x (List.mem_of_getElem? hxk.out)).2
              have HXj : Hid (nth cs j = x) := Lib.hid (nth_some hxk.out)
              by_cases hle : x ≤ (a : Int) + 1
              · obtain ⟨p, HP⟩ : ∃ p : Nat, Hid ((a : Int) + 1 - x = p) := ⟨((a : Int) + 1 - x).toNat, Lib.hid (by omega)⟩
                have hp := HP.out
                obtain ⟨ad4, y, hA4, _, cy, hyk, _⟩ := hor.at_ (k := p) (by omega)
                subst hA4
                have HY : Hid (canV cs (a + 1 - x.toNat) = y) := Lib.hid (by
                  rw [show a + 1 - x.toNat = p by omega, ← canR_at cs (k := a + 1) (by omega)]
                  exact nth_some hyk.out)
                have hy01 := canV_or cs (a + 1 - x.toNat)
                rw [HY.out] at hy01
                have hw1 : IntKind.i64.wrap ((a : Int) + 1 - x) = p := by rw [hp]; exact IntWalk.i64_in _ (by omega)
                have HST : Hid (CanBy cs (a + 1) (j + 1) (if z < y then y else z)) := Lib.hid (by
                  have := canBy_step HZ.out (by rw [HL.out]; exact hlt3) (by rw [HXj.out]; omega)
                  rwa [HXj.out, HY.out] at this)
                have hy0 : 0 ≤ y := by omega
                have hy1 : y ≤ 1 := by omega
                clear hy01
                by_cases hzy : z < y
                · have HST2 : Hid (CanBy cs (a + 1) (j + 1) y) := Lib.hid (by have h := HST.out; rwa [if_pos hzy] at h)
                  have hmx : max z y = y := by omega
                  go_wp2
                  go_round
                  case rel => exact ⟨j + 1, y, by omega, by go_num, rfl, hy0, hy1, HST2⟩
                  case measure => simp [intOf]; omega
                · have HST2 : Hid (CanBy cs (a + 1) (j + 1) z) := Lib.hid (by have h := HST.out; rwa [if_neg hzy] at h)
                  have hmx : max z y = z := by omega
                  go_wp2
                  go_round
                  case rel => exact ⟨j + 1, z, by omega, by go_num, rfl, hz0, hz1, HST2⟩
                  case measure => simp [intOf]; omega
              · have HST2 : Hid (CanBy cs (a + 1) (j + 1) z) := Lib.hid (canBy_skip HZ.out (by rw [HXj.out]; omega))
                go_wp2
                go_round
                case rel => exact ⟨j + 1, z, by omega, by go_num, rfl, hz0, hz1, HST2⟩
                case measure => simp [intOf]; omega
            · have HK : Hid (z = canV cs (a + 1)) := Lib.hid (canBy_done HC1.out (by omega) (by rw [HL.out, show n = j by omega]; exact HZ.out))
              go_wp2_with (at_builtin; refine push_int rfl (.tmp 48) (.tmp 50) rfl (W1.heap.size) A3 (a + 1) c3 (canR cs (a + 1)) rfl (ho3.alloc _) ⟨wr.heap.size, 0, none⟩ 1 _ rfl (cell_new1 _ _ _) (by omega) (by simp only [World.size_alloc]; omega) ?_; intro g cap w1 hown1 hgrow1)
              go_roundw
              case rel => exact ⟨a + 1, _, _, by omega, by go_num, rfl, by rw [HSUC.out, ← HK.out]; exact hown1, ho3.pushed hb3 hsz3 (Nat.le_refl _) hgrow1⟩
              case measure => simp [intOf]; omega
        · have HA : Hid (a = 5000) := Lib.hid (by omega)
          have h30 : Oi wr w.heap.size (some ⟨g, 0, none⟩) k c' (restR cs 0) := by
            rw [restR_zero, HF.out]
            exact ho.below hb3
          have hbw := hb.trans (hb3.mono hsz)
          go_wp2
          go_loopw [9] (fun i w4 => ∃ q : Nat, q ≤ a + 1 ∧ i = .int .i64 (q : Int) ∧ Oi w4 w.heap.size (some ⟨g, 0, none⟩) k c' (restR cs q) ∧ Oi w4 W1.heap.size A3 (a + 1) c3 (canR cs (a + 1)) ∧ Below w.heap.size w w4) (fun i _ => a + 1 - (intOf i).toNat)
          case atStart => exact ⟨0, Nat.zero_le _, rfl, h30, ho3, hbw⟩
          case round =>
            obtain ⟨q, hq, rfl, hr, hcr, hb4⟩ := hrel
            have hk5 : a = 5000 := HA.out
            by_cases hlt4 : q < a + 1
            · have hq5 : (q : Int) ≤ 5000 := by omega
              obtain ⟨ad5, y, rfl, _, cy, hyk, _⟩ := hcr.ri.at_ hlt4
              have HY : Hid (canV cs q = y) := Lib.hid (by rw [← canR_at cs hlt4]; exact nth_some hyk.out)
              have hcf : wr.cell? ad = some (.int .i64 k) := (hb4.cell hadb).trans hc0
              obtain ⟨m, HM⟩ : ∃ m, Hid (q % k = m) := ⟨_, Lib.hid rfl⟩
              have hmk : m < k := by rw [← HM.out]; exact Nat.mod_lt _ (by omega)
              have hmod : (q : Int) % (k : Int) = m := by rw [← HM.out]; exact (Int.natCast_emod q k).symm
              have hmodt : Int.tmod (q : Int) (k : Int) = m := by rw [Int.tmod_eq_emod_of_nonneg (by omega)]; exact hmod
              have hkz : ((k : Int) == 0) = false := by simp; omega
              have c1 := hr.cell hmk
              have f1 := hr.frozen m
              have hf1' : 1 ≤ first cs := by rw [HF.out]; exact hf1
              obtain ⟨u, hu⟩ : ∃ u, nth (restR cs q) m = u := ⟨_, rfl⟩
              have HU := Lib.hid hu
              rw [hu] at c1
              clear hu
              clear hk5
              by_cases hy1 : y = 1
              · have qy : (y == 1) = true := by simp [hy1]
                have HCAN : Hid (can cs q) := Lib.hid (by
                  have h := HY.out
                  unfold canV at h
                  split at h
                  · assumption
                  · omega)
                clear hy1
                by_cases hu0 : u < 0
                · have HX : Hid (restR cs (q + 1) = (restR cs q).set m q) := Lib.hid (by
                    have h := restR_hit (k := q) hf1' HCAN.out
                    rw [HF.out, HM.out, HU.out] at h
                    exact h hu0)
                  go_wp2
                  go_roundw
                  case rel => exact ⟨q + 1, by omega, by go_num, by rw [HX.out]; exact hr.put_ m q, hcr.setBelow (p := ⟨g, m, none⟩) hg2 _, hb4.setCell hg1 _⟩
                  case measure => simp [intOf]; omega
                · have HX : Hid (restR cs (q + 1) = restR cs q) := Lib.hid (restR_miss hf1' (by rw [HF.out, HM.out, HU.out]; exact fun h => hu0 h.2))
                  go_wp2
                  go_roundw
                  case rel => exact ⟨q + 1, by omega, by go_num, by rw [HX.out]; exact hr, hcr, hb4⟩
                  case measure => simp [intOf]; omega
              · have qy : (y == 1) = false := by simp [hy1]
                have HX : Hid (restR cs (q + 1) = restR cs q) := Lib.hid (restR_miss hf1' (fun h => hy1 (by rw [← HY.out, canV, if_pos h.1])))
                clear hy1
                go_wp2
                go_roundw
                case rel => exact ⟨q + 1, by omega, by go_num, by rw [HX.out]; exact hr, hcr, hb4⟩
                case measure => simp [intOf]; omega
            · have HX : Hid (restR cs q = restsL cs) := Lib.hid (by rw [show q = a + 1 by omega, HA.out]; exact restR_all cs)
              rw [HX.out] at hr
              have hq5 : (5000 : Int) < q := by omega
              clear hk5
              go_wp2
              go_ret
              exact ⟨_, _, rfl, hr, hb4⟩
end Go.Proofs.Ytloibnmhgocboaa
