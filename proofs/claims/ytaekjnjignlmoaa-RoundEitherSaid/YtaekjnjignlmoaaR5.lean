/-
  The reference: 'LateBy'. Printed by gen_lateby.py.
-/
import Derived.Test.YtaekjnjignlmoaaR4
import Derived.Test.YtaekjnjignlmoaaLp
namespace Go.Proofs.Ytaekjnjignlmoaa
open Go.RowKit Go.Shelf

theorem lateTo_take {ps : List (Int × Int)} {T : List Int} {n : Nat} (h1 : 1 ≤ n) : ∀ k : Nat, k ≤ n → lateTo ps (T.take n) k = lateTo ps T k
  | 0, _ => by
    show nth (T.take n) 0 - too ps 0 = nth T 0 - too ps 0
    rw [nth_take (by omega)]
  | k + 1, hk => by rw [lateTo_succ, lateTo_succ, lateTo_take h1 k (by omega), nth_take (by omega)]
set_option maxRecDepth 100000 in
set_option maxHeartbeats 4000000 in
theorem rLateBy (b : Int) (A : Option Addr) (n c : Nat) (ps : List (Int × Int)) (B : Option Addr) (m d : Nat) (l : List Nat) (w : World) (hx : Rp w w.heap.size A n ps) (HP : Hid (Pier b ps)) (hl : Ri w w.heap.size B m (ofN l)) (HA : Hid (l ∈ allR b ps)) (v : Int) (HV : Hid (lateL ps (stepsL b ps l) = v)) :
    Calls Try.prog 49 #[.agg #[.int .i64 b, .slice A n c], .slice B m d] w (RetI w v) := by
  have HL := Lib.hid hx.len
  have hmix : Try.prog.follows .mixedOrders = true := by kernel_rfl
  have hn1 : 1 ≤ n := by rw [← HL.out]; exact HP.out.lo
  have hn10 : n ≤ 10 := by rw [← HL.out]; exact HP.out.hi
  have hn0 : 0 < n := by omega
  obtain ⟨T, HT⟩ : ∃ T, Hid ((stepsL b ps l).take n = T) := ⟨_, Lib.hid rfl⟩
  have HTB : Hid (T.length = n ∧ ∀ i : Nat, i < n → 0 ≤ nth T i ∧ nth T i ≤ 10000) := Lib.hid (by
    obtain ⟨s, hs, hk, _⟩ := full_round HP.out HA.out
    have hlen := (allR_iff.1 HA.out).1
    rw [← HT.out, stepsL_some hs]
    refine ⟨by rw [List.length_take, hk.out]; omega, fun i hi => ?_⟩
    rw [nth_take hi]
    have := hk.outs i
    rw [HL.out] at hlen
    omega)
  have HVT : Hid (lateTo ps T n = v) := Lib.hid (by rw [← HT.out, lateTo_take hn1 n (Nat.le_refl _), ← HV.out]; unfold lateL; rw [HL.out])
  have k1 := Bk.new w 24 #[.int .i64 b, .slice A n c]
  have hb0 : Below w.heap.size w (w.alloc (.cells #[.int .i64 b, .slice A n c] 24)) := (Below.refl _ w).alloc (Nat.le_refl _) _
  have d0 := k1.cell 0
  have d1 := k1.cell 1
  have hx0 := hx.next hb0 (Nat.le_refl _) hb0.size
  have hl0 := hl.next hb0 (Nat.le_refl _) hb0.size
  go_enter Try.func49, Try.ntmps49
  go_wp2_with fail
  clear d0 d1
  refine (rStepsOf b A n c ps B m d l _ hx0 HP hl0 HA T HT).mono ?_
  rintro e w1 ⟨A1, n1, c1, rfl, ho, hb⟩
  have hb1 := hb0.trans (hb.mono hb0.size)
  have hx1 := hx0.next hb (Nat.le_refl _) hb.size
  replace k1 := k1.below hb k1.lt
  have hT := ho.ri
  obtain rfl : n1 = n := by rw [← ho.len]; exact HTB.out.1
  clear hb hb0 hx0 hl0 ho hl
  obtain ⟨ad, rfl, _, _, p0⟩ := hx1.at2 hn0
  obtain ⟨ad2, t0, rfl, _, q0, ht0, _⟩ := hT.at_ hn0
  obtain ⟨y0, HY0⟩ : ∃ y, Hid (too ps 0 = y) := ⟨_, Lib.hid rfl⟩
  rw [HY0.out] at p0
  have HT0 : Hid (nth T 0 = t0) := Lib.hid (nth_some ht0.out)
  have hy0b := HP.out.at_ 0
  have ht0b := HTB.out.2 0 hn0
  rw [HY0.out] at hy0b
  rw [HT0.out] at ht0b
  obtain ⟨m0, HM0⟩ : ∃ m, Hid (t0 - y0 = m) := ⟨_, Lib.hid rfl⟩
  have hw0 : IntKind.i64.wrap (t0 - y0) = m0 := (IntWalk.i64_in _ (by omega)).trans HM0.out
  have d0 := k1.cell 0
  have d1 : w1.cell? ⟨w.heap.size, 1, none⟩ = some (.slice (some ad) n1 c) := k1.cell 1
  have p0a : w1.cell? ⟨ad.block, ad.off + 1, none⟩ = some (.int .i64 y0) := p0
  have p0b : w1.cell? ⟨(ad.add 0).block, (ad.add 0).off + 1, none⟩ = some (.int .i64 y0) := p0
  have q0a : w1.cell? ad2 = some (.int .i64 t0) := q0
  have q0b : w1.cell? (ad2.add 0) = some (.int .i64 t0) := q0
  obtain ⟨V, hV⟩ : ∃ V : World, V = w1 := ⟨_, rfl⟩
  subst hV
  go_wp2
  go_quiet (fail)
  go_wp2
  clear p0a p0b q0a q0b p0 q0
  go_loopw [6, 7] (fun x i wr => ∃ k dd : Nat, k ≤ n1 ∧ i = .int .i64 k ∧ x = .int .i64 (lateTo ps T k) ∧ wr = V.drewN dd) (fun _ i _ => n1 - (intOf i).toNat)
  case atStart => exact ⟨0, _, Nat.zero_le _, rfl, by rw [← HM0.out, ← HT0.out, ← HY0.out]; rfl, rfl⟩
  case round =>
    obtain ⟨k, dd, hk, rfl, rfl, rfl⟩ := hrel
    obtain ⟨mk, HMK⟩ : ∃ z, Hid (lateTo ps T k = z) := ⟨_, Lib.hid rfl⟩
    rw [HMK.out]
    by_cases hlt : k < n1
    · obtain ⟨ad', hA, _, _, pk⟩ := hx1.at2 hlt
      obtain rfl : ad = ad' := Option.some.inj hA
      obtain ⟨ad2', tk, hA2, _, qk, htk, _⟩ := hT.at_ hlt
      obtain rfl : ad2 = ad2' := Option.some.inj hA2
      clear hA hA2
      obtain ⟨yk, HYK⟩ : ∃ y, Hid (too ps k = y) := ⟨_, Lib.hid rfl⟩
      rw [HYK.out] at pk
      have HTK : Hid (nth T k = tk) := Lib.hid (nth_some htk.out)
      have hykb := HP.out.at_ k
      have htkb := HTB.out.2 k hlt
      rw [HYK.out] at hykb
      rw [HTK.out] at htkb
      obtain ⟨z, HZ⟩ : ∃ z, Hid (tk - yk = z) := ⟨_, Lib.hid rfl⟩
      have hwz : IntKind.i64.wrap (tk - yk) = z := (IntWalk.i64_in _ (by omega)).trans HZ.out
      have HS : Hid (lateTo ps T (k + 1) = maxI mk z) := Lib.hid (by rw [lateTo_succ, HMK.out, HTK.out, HYK.out, HZ.out])
      by_cases hlt2 : mk < z
      · have HE : Hid (lateTo ps T (k + 1) = z) := Lib.hid (by rw [HS.out]; unfold maxI; rw [if_pos hlt2])
        go_wp2
        go_quiet (fail)
        go_wp2
        go_roundw
        case rel => exact ⟨k + 1, _, by omega, by go_num, by rw [HE.out], rfl⟩
        case measure => simp [intOf]; omega
      · have HE : Hid (lateTo ps T (k + 1) = mk) := Lib.hid (by rw [HS.out]; unfold maxI; rw [if_neg hlt2])
        go_wp2
        go_quiet (fail)
        go_wp2
        go_roundw
        case rel => exact ⟨k + 1, _, by omega, by go_num, by rw [HE.out], rfl⟩
        case measure => simp [intOf]; omega
    · have HE : Hid (mk = v) := Lib.hid (by rw [← HMK.out, show k = n1 from by omega, HVT.out])
      go_wp2
      go_ret
      exact ⟨ret_i HE.out, below_drewN hb1 _⟩
end Go.Proofs.Ytaekjnjignlmoaa
