/-
  The laws' 'Same'.
-/
import Derived.Test.YtaekjnjignlmoaaLw1
import Derived.Test.YtaekjnjignlmoaaIt
namespace Go.Proofs.Ytaekjnjignlmoaa
open Go.RowKit Go.Shelf

theorem under_pair : Try.prog.underlying 76 = some (.array 2 2) := by kernel_rfl
theorem eq_pair (d : Nat) (w : World) (a b a' b' : Int) : (Op.equalIn (d + 1 + 1) 76 (.agg #[.int .i64 a, .int .i64 b]) (.agg #[.int .i64 a', .int .i64 b'])).run Try.prog w = .ok (a == a' && b == b') w := by
  obtain ⟨i, hi, _⟩ := info_parts info_int
  rw [run_equalIn_array w (d + 1) _ _ under_pair hi, eq_items d w _ _ [a, b] [a', b'] _ (fun i hi => ?_)]
  · refine congrArg (fun b => Result.ok b w) ?_
    simp [nth, List.range_succ]
  · have h2 : i < 2 := by simpa using hi
    match i, h2 with
    | 0, _ => exact ⟨rfl, rfl⟩
    | 1, _ => exact ⟨rfl, rfl⟩
set_option maxRecDepth 100000 in
set_option maxHeartbeats 2000000 in
theorem aSame (D1 D2 : Option Addr) (N1 c1 N2 c2 B1 B2 : Nat) (Rs Ss : List (List (Int × Int))) (w : World) (hx : Bd w B1 D1 N1 Rs) (hy : Bd w B2 D2 N2 Ss) (hN1 : N1 ≤ 1048576) (hN2 : N2 ≤ 1048576) (hL1 : Hid (∀ L ∈ Rs, L.length ≤ 1048576)) (hL2 : Hid (∀ L ∈ Ss, L.length ≤ 1048576)) (r : Bool) (HR : Hid (decide (Rs = Ss) = r)) :
    Calls Try.prog 40 #[.slice D1 N1 c1, .slice D2 N2 c2] w (RetB w r) := by
  have HLX := Lib.hid hx.len
  have HLY := Lib.hid hy.len
  by_cases hl : N1 = N2
  · subst hl
    go_enter Try.func40, Try.ntmps40
    go_wp2
    go_loopw [5] (fun i wr => ∃ k d : Nat, k ≤ N1 ∧ i = .int .i64 k ∧ wr = w.drewN d ∧ Hid (Rs.take k = Ss.take k)) (fun i _ => N1 - (intOf i).toNat)
    case atStart => exact ⟨0, 0, Nat.zero_le _, rfl, rfl, Lib.hid rfl⟩
    case round =>
      obtain ⟨k, d, hk, rfl, rfl, HT⟩ := hrel
      by_cases hlt : k < N1
      · obtain ⟨ad, A1, e1, m1, L, rfl, _, l1, hL, hLm, hmc, hrp⟩ := hx.at_ hlt
        obtain ⟨ad2, A2, e2, m2, M, rfl, _, l2, hM, hMm, hmc2, hrp2⟩ := hy.at_ hlt
        have hm1 : m1 ≤ 1048576 := by rw [← hLm.out]; exact hL1.out L (List.mem_of_getElem? hL.out)
        have hm2 : m2 ≤ 1048576 := by rw [← hMm.out]; exact hL2.out M (List.mem_of_getElem? hM.out)
        by_cases hmm : m1 = m2
        · subst hmm
          have hb : ((m1 : Int) != (m1 : Int)) = false := by simp
          go_wp2
          go_quiet (fail)
          go_wp2
          go_loopw [6] (fun i wr => ∃ j d : Nat, j ≤ m1 ∧ i = .int .i64 j ∧ wr = w.drewN d ∧ Hid (L.take j = M.take j)) (fun i _ => m1 - (intOf i).toNat)
          case atStart => exact ⟨0, d + nq, Nat.zero_le _, rfl, by simp [World.drewN, Nat.add_assoc], Lib.hid rfl⟩
          case round =>
            obtain ⟨j, d2, hj, rfl, rfl, HT2⟩ := hrel
            by_cases hltj : j < m1
            · obtain ⟨ad3, rfl, _, v1, v2⟩ := hrp.at2 hltj
              obtain ⟨ad4, rfl, _, u1, u2⟩ := hrp2.at2 hltj
              obtain ⟨x1, HX1⟩ : ∃ x, Hid (plc L j = x) := ⟨_, Lib.hid rfl⟩
              obtain ⟨y1, HY1⟩ : ∃ x, Hid (too L j = x) := ⟨_, Lib.hid rfl⟩
              obtain ⟨x2, HX2⟩ : ∃ x, Hid (plc M j = x) := ⟨_, Lib.hid rfl⟩
              obtain ⟨y2, HY2⟩ : ∃ x, Hid (too M j = x) := ⟨_, Lib.hid rfl⟩
              rw [HX1.out] at v1
              rw [HY1.out] at v2
              rw [HX2.out] at u1
              rw [HY2.out] at u2
              have hjL : j < L.length := by rw [hLm.out]; exact hltj
              have hjM : j < M.length := by rw [hMm.out]; exact hltj
              have HJL : Hid (L[j]? = some (x1, y1)) := Lib.hid (by
                have := plc_some (List.getElem?_eq_getElem hjL)
                rw [HX1.out, HY1.out] at this
                rw [List.getElem?_eq_getElem hjL]
                exact congrArg some (Prod.ext this.1.symm this.2.symm))
              have HJM : Hid (M[j]? = some (x2, y2)) := Lib.hid (by
                have := plc_some (List.getElem?_eq_getElem hjM)
                rw [HX2.out, HY2.out] at this
                rw [List.getElem?_eq_getElem hjM]
                exact congrArg some (Prod.ext this.1.symm this.2.symm))
              clear hjL hjM
              by_cases he : x1 = x2 ∧ y1 = y2
              · have hq : ∀ w : World, (Op.equalIn 10000 76 (.agg #[.int .i64 x1, .int .i64 y1]) (.agg #[.int .i64 x2, .int .i64 y2])).run Try.prog w = .ok true w := fun w => by
                  rw [eq_pair 9998 w, he.1, he.2]
                  simp
                have HT3 : Hid (L.take (j + 1) = M.take (j + 1)) := Lib.hid (by rw [take_snoc HJL.out, take_snoc HJM.out, HT2.out, he.1, he.2])
                clear he
                go_wp2
                go_quiet (fail)
                go_wp2
                go_roundw
                case rel => exact ⟨j + 1, _, by omega, by go_num, rfl, HT3⟩
                case measure => simp [intOf]; omega
              · have hq : ∀ w : World, (Op.equalIn 10000 76 (.agg #[.int .i64 x1, .int .i64 y1]) (.agg #[.int .i64 x2, .int .i64 y2])).run Try.prog w = .ok false w := fun w => by
                  rw [eq_pair 9998 w]
                  have : (x1 == x2 && y1 == y2) = false := by
                    rw [Bool.eq_false_iff]
                    intro h
                    simp at h
                    exact he h
                  rw [this]
                have HE : Hid (r = false) := Lib.hid (by
                  rw [← HR.out]
                  refine decide_eq_false fun e => he ?_
                  have h1 := hL.out
                  rw [e, hM.out] at h1
                  have h2 : L = M := (Option.some.inj h1).symm
                  have h3 := HJL.out
                  rw [h2, HJM.out] at h3
                  have h4 := Option.some.inj h3
                  exact ⟨(congrArg Prod.fst h4).symm, (congrArg Prod.snd h4).symm⟩)
                clear he
                go_wp2
                go_quiet (fail)
                go_wp2
                go_ret
                exact ⟨ret_b HE.out.symm, below_drewN (below_drewN (Below.refl _ _) d2) _⟩
            · have HTM : Hid (Rs.take (k + 1) = Ss.take (k + 1)) := Lib.hid (by
                have h := HT2.out
                rw [List.take_of_length_le (by rw [hLm.out]; omega), List.take_of_length_le (by rw [hMm.out]; omega)] at h
                rw [take_snoc hL.out, take_snoc hM.out, HT.out, h])
              go_wp2
              go_roundw
              case rel => exact ⟨k + 1, _, by omega, by go_num, rfl, HTM⟩
              case measure => simp [intOf]; omega
        · have hb : ((m1 : Int) != (m2 : Int)) = true := by simp; omega
          have HE : Hid (r = false) := Lib.hid (by
            rw [← HR.out]
            refine decide_eq_false fun e => hmm ?_
            have h1 := hL.out
            rw [e, hM.out] at h1
            rw [← hLm.out, ← hMm.out, Option.some.inj h1])
          clear hmm
          go_wp2
          go_quiet (fail)
          go_wp2
          go_ret
          exact ⟨ret_b HE.out.symm, below_drewN (below_drewN (Below.refl _ _) d) _⟩
      · have HE : Hid (r = true) := Lib.hid (by
          rw [← HR.out]
          refine decide_eq_true ?_
          have h := HT.out
          rwa [List.take_of_length_le (by rw [HLX.out]; omega), List.take_of_length_le (by rw [HLY.out]; omega)] at h)
        go_wp2
        go_ret
        exact ⟨ret_b HE.out.symm, below_drewN (Below.refl _ _) d⟩
  · have HE : Hid (r = false) := Lib.hid (by
      rw [← HR.out]
      refine decide_eq_false fun e => hl ?_
      rw [← HLX.out, ← HLY.out, e])
    have hb : ((N1 : Int) != (N2 : Int)) = true := by simp; omega
    go_enter Try.func40, Try.ntmps40
    go_wp2
    go_ret
    exact ⟨ret_b HE.out.symm, Below.refl _ _⟩
end Go.Proofs.Ytaekjnjignlmoaa
