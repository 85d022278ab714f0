/-
  The reference: CheckCoins, Amount, Sum, CheckChange, FewestOf, Fewest, isBest.
-/
import Derived.Test.YtloibnmhgocboaaBase
import Derived.Test.YtloibnmhgocboaaPS
import Derived.Test.YtloibnmhgocboaaPost
import Derived.Test.YtloibnmhgocboaaQuiet
import Derived.Test.YtloibnmhgocboaaPQ
namespace Go.Proofs.Ytloibnmhgocboaa
open Go.RowKit

set_option maxHeartbeats 1000000 in
theorem rCheckCoins (A : Option Addr) (n c B : Nat) (cs : List Int) (w : World) (hx : Ri w B A n cs) (hn : n ≤ 1099511627776) (r : Int) (HR : Hid (checkCoins cs = r)) :
    Calls Try.prog 23 #[.slice A n c] w fun e w' => e = .returned (.int .i64 r) ∧ ∃ m, w' = w.drewN m := by
  have HL := Lib.hid hx.len
  by_cases h1 : n < 1
  · have HE : Hid (r = 6) := Lib.hid (HR.out.symm.trans (by unfold checkCoins; rw [if_pos (by rw [HL.out]; omega)]))
    go_enter Try.func23, Try.ntmps23
    go_wp2
    go_ret
    exact ⟨ret_i HE.out.symm, 0, rfl⟩
  · by_cases h5 : 5 < n
    · have HE : Hid (r = 6) := Lib.hid (HR.out.symm.trans (by unfold checkCoins; rw [if_pos (by rw [HL.out]; omega)]))
      go_enter Try.func23, Try.ntmps23
      go_wp2
      go_ret
      exact ⟨ret_i HE.out.symm, 0, rfl⟩
    · have HN : Hid (¬ (cs.length < 1 ∨ 5 < cs.length)) := Lib.hid (by rw [HL.out]; omega)
      go_enter Try.func23, Try.ntmps23
      go_wp2
      go_loop [3] (fun i => ∃ k : Nat, k ≤ n ∧ i = .int .i64 k ∧ Hid ((cs.take k).any (outB 1 50) = false)) (fun i => n - (intOf i).toNat)
      case atStart => exact ⟨0, Nat.zero_le _, rfl, Lib.hid rfl⟩
      case round =>
        obtain ⟨k, hk, rfl, hno⟩ := hrel
        by_cases hlt : k < n
        · obtain ⟨ad, x, rfl, _, hc, hxk, _⟩ := hx.at_ hlt
          have hbad : outB 1 50 x = true → Hid (r = 3) := fun h => Lib.hid (HR.out.symm.trans (by
            unfold checkCoins
            rw [if_neg HN.out, if_pos (List.any_eq_true.2 ⟨x, List.mem_of_getElem? hxk.out, h⟩)]))
          by_cases hlo : x < 1
          · have HE := hbad (by simp [outB, hlo])
            clear hbad
            go_wp2
            go_ret
            exact ⟨ret_i HE.out.symm, 0, rfl⟩
          · by_cases hhi : 50 < x
            · have HE := hbad (by simp [outB, hhi])
              clear hbad
              go_wp2
              go_ret
              exact ⟨ret_i HE.out.symm, 0, rfl⟩
            · have HX : Hid ((cs.take (k + 1)).any (outB 1 50) = false) := Lib.hid (by rw [take_snoc hxk.out, List.any_append, hno.out]; simp [outB]; omega)
              clear hbad
              go_wp2
              go_round
              case rel => exact ⟨k + 1, by omega, by go_num, HX⟩
              case measure => simp [intOf]; omega
        · have HBB : Hid (cs.any (outB 1 50) = false) := Lib.hid (by have := hno.out; rw [List.take_of_length_le (by rw [HL.out]; omega)] at this; exact this)
          clear hno
          go_wp2
          go_loopw [4] (fun i wr => ∃ q d : Nat, 1 ≤ q ∧ q ≤ n ∧ i = .int .i64 (q : Int) ∧ wr = w.drewN d ∧ Hid (∀ j : Nat, j + 1 < q → nth cs j < nth cs (j + 1))) (fun i _ => n - (intOf i).toNat)
          case atStart => exact ⟨1, 0, Nat.le_refl _, by omega, rfl, rfl, Lib.hid (fun j hj => absurd hj (by omega))⟩
          case round =>
            obtain ⟨q, d, hq1, hq, rfl, rfl, hasc⟩ := hrel
            by_cases hlt2 : q < n
            · obtain ⟨m, HM⟩ : ∃ m, Hid (q = m + 1) := ⟨q - 1, Lib.hid (by omega)⟩
              have hm : m < n := by rw [HM.out] at hlt2; omega
              obtain ⟨ad, x, hA, _, cx, hxk, _⟩ := hx.at_ hm
              obtain ⟨ad2, y, hA2, _, cy, hyk, _⟩ := hx.at_ hlt2
              subst hA
              cases hA2
              have HX : Hid (nth cs m = x ∧ nth cs (m + 1) = y) := Lib.hid ⟨nth_some hxk.out, by rw [← HM.out]; exact nth_some hyk.out⟩
              have hi2 : (q : Int) - 1 = m := by rw [HM.out]; omega
              have hi3 : IntKind.i64.wrap ((q : Int) - 1) = m := by rw [hi2]; exact IntWalk.i64_in _ (by omega)
              by_cases hle : y ≤ x
              · have HE : Hid (r = 2) := Lib.hid (HR.out.symm.trans (by
                  unfold checkCoins
                  rw [if_neg HN.out, HBB.out, if_neg (by decide), if_neg]
                  rw [ascB_iff]
                  intro h
                  have := h m (by rw [HL.out, ← HM.out]; exact hlt2)
                  rw [HX.out.1, HX.out.2] at this
                  omega))
                go_wp2
                go_quiet (fail)
                go_wp2
                go_ret
                exact ⟨ret_i HE.out.symm, d + _, by simp [World.drewN, Nat.add_assoc]; rfl⟩
              · have HX2 : Hid (∀ j : Nat, j + 1 < q + 1 → nth cs j < nth cs (j + 1)) := Lib.hid (fun j hj => by
                  rcases Nat.lt_or_ge (j + 1) q with h | h
                  · exact hasc.out j h
                  · obtain rfl : j = m := by have := HM.out; omega
                    rw [HX.out.1, HX.out.2]
                    omega)
                go_wp2
                go_quiet (fail)
                go_wp2
                go_roundw
                case rel => exact ⟨q + 1, _, by omega, by omega, by go_num, rfl, HX2⟩
                case measure => simp [intOf]; omega
            · have HE : Hid (r = 0) := Lib.hid (HR.out.symm.trans (by
                unfold checkCoins
                rw [if_neg HN.out, HBB.out, if_neg (by decide), if_pos]
                rw [ascB_iff, HL.out]
                intro i hi
                exact hasc.out i (by omega)))
              go_wp2
              go_ret
              exact ⟨ret_i HE.out.symm, d, rfl⟩

theorem ne0 {r : Int} (h : ¬ r = 0) : (r != 0) = true := by simpa using h
theorem drew2 (w : World) (a b : Nat) : (w.drewN a).drewN b = w.drewN (a + b) := by simp [World.drewN, Nat.add_assoc]
theorem ret_iii {a b c d e f : Int} (h : a = d) (k : b = e) (l : c = f) : Ending.returned (.tuple #[.int .i64 a, .int .i64 b, .int .i64 c]) = .returned (.tuple #[.int .i64 d, .int .i64 e, .int .i64 f]) := by rw [h, k, l]
theorem ret_le {A : Option Addr} {n c : Nat} {a b : Int} (h : a = b) : Ending.returned (.tuple #[.slice A n c, .int .i64 a]) = .returned (.tuple #[.slice A n c, .int .i64 b]) := by rw [h]
theorem ret_li {A : Option Addr} {n c : Nat} {a b s t : Int} (h : a = b) (k : s = t) : Ending.returned (.tuple #[.slice A n c, .int .i64 s, .int .i64 a]) = .returned (.tuple #[.slice A n c, .int .i64 t, .int .i64 b]) := by rw [h, k]
theorem ret_ii {a b c d : Int} (h : a = c) (k : b = d) : Ending.returned (.tuple #[.int .i64 a, .int .i64 b]) = .returned (.tuple #[.int .i64 c, .int .i64 d]) := by rw [h, k]
set_option maxHeartbeats 1000000 in
theorem rAmount (A : Option Addr) (n c B : Nat) (cs : List Int) (a : Int) (w : World) (hx : Ri w B A n cs) (hn : n ≤ 1099511627776) (r : Int) (HR : Hid (amountE cs a = r)) :
    Calls Try.prog 63 #[.slice A n c, .int .i64 a] w fun e w' => e = .returned (.int .i64 r) ∧ ∃ m, w' = w.drewN m := by
  obtain ⟨q, HQ⟩ : ∃ q, Hid (checkCoins cs = q) := ⟨_, Lib.hid rfl⟩
  by_cases h0 : q = 0
  · subst h0
    by_cases h1 : a < 0
    · have HE : Hid (r = 3) := Lib.hid (HR.out.symm.trans (by unfold amountE; rw [if_pos HQ.out, if_pos (.inl h1)]))
      go_enter Try.func63, Try.ntmps63
      go_wp2_with (go_at_call 23; refine (rCheckCoins _ _ _ _ _ _ hx hn _ HQ).mono ?_; rintro e w1 ⟨rfl, m, rfl⟩)
      go_ret
      exact ⟨ret_i HE.out.symm, m, rfl⟩
    · by_cases h2 : 300 < a
      · have HE : Hid (r = 3) := Lib.hid (HR.out.symm.trans (by unfold amountE; rw [if_pos HQ.out, if_pos (.inr h2)]))
        go_enter Try.func63, Try.ntmps63
        go_wp2_with (go_at_call 23; refine (rCheckCoins _ _ _ _ _ _ hx hn _ HQ).mono ?_; rintro e w1 ⟨rfl, m, rfl⟩)
        go_ret
        exact ⟨ret_i HE.out.symm, m, rfl⟩
      · have HE : Hid (r = 0) := Lib.hid (HR.out.symm.trans (by unfold amountE; rw [if_pos HQ.out, if_neg (by omega)]))
        go_enter Try.func63, Try.ntmps63
        go_wp2_with (go_at_call 23; refine (rCheckCoins _ _ _ _ _ _ hx hn _ HQ).mono ?_; rintro e w1 ⟨rfl, m, rfl⟩)
        go_ret
        exact ⟨ret_i HE.out.symm, m, rfl⟩
  · have HE : Hid (r = q) := Lib.hid (HR.out.symm.trans (by unfold amountE; rw [if_neg (by rw [HQ.out]; exact h0), HQ.out]))
    have hq := ne0 h0
    go_enter Try.func63, Try.ntmps63
    go_wp2_with fail
    refine (rCheckCoins _ _ _ _ _ _ hx hn _ HQ).mono ?_
    rintro e w1 ⟨rfl, m, rfl⟩
    go_wp2_with fail
    refine (rCheckCoins _ _ _ _ _ _ (hx.drewN m) hn _ HQ).mono ?_
    rintro e w1 ⟨rfl, m2, rfl⟩
    go_wp2
    go_ret
    exact ⟨ret_i HE.out.symm, m + m2, rfl⟩

set_option maxHeartbeats 2000000 in
theorem rSum (A : Option Addr) (n c B : Nat) (cs : List Int) (D : Option Addr) (c2 B2 : Nat) (v : List Int) (w : World) (hx : Ri w B A n cs) (hy : Ri w B2 D n v) (hn : n ≤ 5) (hc : Hid (∀ c ∈ cs, 0 ≤ c ∧ c ≤ 50)) (hv : Hid (∀ x ∈ v, 0 ≤ x ∧ x ≤ 1000)) :
    Calls Try.prog 56 #[.slice A n c, .slice D n c2] w fun e w' => e = .returned (.tuple #[.int .i64 (dot cs v), .int .i64 v.sum]) ∧ ∃ m, w' = w.drewN m := by
  have HL := Lib.hid hx.len
  have HL2 := Lib.hid hy.len
  go_enter Try.func56, Try.ntmps56
  go_wp2
  go_loopw [6, 7, 8] (fun s t i wr => ∃ k d : Nat, k ≤ n ∧ i = .int .i64 k ∧ s = .int .i64 (dotTo cs v k) ∧ t = .int .i64 (sumTo' v k) ∧ wr = w.drewN d) (fun _ _ i _ => n - (intOf i).toNat)
  case atStart => exact ⟨0, 0, Nat.zero_le _, rfl, rfl, rfl, rfl⟩
  case round =>
    obtain ⟨k, d, hk, rfl, rfl, rfl, rfl⟩ := hrel
    by_cases hlt : k < n
    · obtain ⟨ad, x, rfl, _, cx, hxk, _⟩ := hx.at_ hlt
      obtain ⟨ad2, y, rfl, _, cy, hyk, _⟩ := hy.at_ hlt
      have b1 := sums_bd hc.out hv.out k
      have b2 := sums_bd hc.out hv.out (k + 1)
      have e1 := dotTo_succ hxk.out hyk.out
      have e2 := sumTo'_succ hyk.out
      have hb1 := hc.out x (List.mem_of_getElem? hxk.out)
      have hb2 := hv.out y (List.mem_of_getElem? hyk.out)
      have h5 : 0 ≤ x * y := Int.mul_nonneg hb1.1 hb2.1
      have h6 : x * y ≤ 50 * 1000 := Int.mul_le_mul hb1.2 hb2.2 hb2.1 (by omega)
      have HX := Lib.hid e1
      have HY := Lib.hid e2
      obtain ⟨p, HP⟩ : ∃ p, Hid (dotTo cs v k = p) := ⟨_, Lib.hid rfl⟩
      obtain ⟨q, HQ⟩ : ∃ p, Hid (sumTo' v k = p) := ⟨_, Lib.hid rfl⟩
      rw [HP.out] at b1 ⊢
      rw [HQ.out] at b1 ⊢
      clear e1 e2 b2
      have w1 : IntKind.i64.wrap (x * y) = x * y := IntWalk.i64_in _ (by omega)
      have w2 : IntKind.i64.wrap (p + x * y) = p + x * y := IntWalk.i64_in _ (by omega)
      have w3 : IntKind.i64.wrap (q + y) = q + y := IntWalk.i64_in _ (by omega)
      go_wp2
      go_quiet (fail)
      go_wp2
      go_roundw
      case rel => exact ⟨k + 1, _, by omega, by go_num, by rw [HX.out, HP.out], by rw [HY.out, HQ.out], rfl⟩
      case measure => simp [intOf]; omega
    · obtain rfl : k = n := by omega
      have HE : Hid (dotTo cs v k = dot cs v ∧ sumTo' v k = v.sum) := Lib.hid ⟨dotTo_all HL.out HL2.out, sumTo'_all HL2.out⟩
      go_wp2
      go_ret2
      exact ⟨ret_ii HE.out.1 HE.out.2, d, rfl⟩
end Go.Proofs.Ytloibnmhgocboaa
