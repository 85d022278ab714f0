/-
  The reference: 'Lefts', 'StepsOf'.
-/
import Derived.Test.YtaekjnjignlmoaaR1
import Derived.Test.YtaekjnjignlmoaaLp
import Derived.Test.YtaekjnjignlmoaaIt
namespace Go.Proofs.Ytaekjnjignlmoaa
open Go.RowKit Go.Shelf

set_option maxRecDepth 100000 in
set_option maxHeartbeats 1000000 in
theorem rLefts (b : Int) (A : Option Addr) (n c : Nat) (ps : List (Int × Int)) (w : World) (hx : Rp w w.heap.size A n ps) (HP : Hid (Pier b ps)) (q : Nat) (HQ : Hid (lefts b ps = q)) :
    Calls Try.prog 87 #[.agg #[.int .i64 b, .slice A n c]] w (RetI w (q : Int)) := by
  have HL := Lib.hid hx.len
  have hn10 : n ≤ 10 := by have := HP.out.hi; have := HL.out; omega
  have hqn : q ≤ n := by have := lefts_le b ps; have := HL.out; have := HQ.out; omega
  have hbk := Bk.new w 24 #[.int .i64 b, .slice A n c]
  obtain ⟨V, hV⟩ : ∃ V : World, V = w.alloc (.cells #[.int .i64 b, .slice A n c] 24) := ⟨_, rfl⟩
  have hb0 : Below w.heap.size w V := hV ▸ (Below.refl _ w).alloc (Nat.le_refl _) _
  rw [← hV] at hbk
  have hc0 : V.cell? ⟨w.heap.size, 0, none⟩ = some (.int .i64 b) := hbk.cell 0
  have hc1 : V.cell? ⟨w.heap.size, 1, none⟩ = some (.slice A n c) := hbk.cell 1
  have hx0 := hx.below hb0
  go_enter Try.func87, Try.ntmps87
  go_wp2
  rw [← hV]
  clear hV
  go_loopw [3] (fun i wr => ∃ k d : Nat, k ≤ q ∧ i = .int .i64 k ∧ wr = V.drewN d) (fun i _ => n + 1 - (intOf i).toNat)
  case atStart => exact ⟨0, 0, Nat.zero_le _, rfl, rfl⟩
  case round =>
    obtain ⟨k, d, hk, rfl, rfl⟩ := hrel
    by_cases hlt : k < n
    · obtain ⟨ad, rfl, hadb, c1, c2⟩ := hx0.at2 hlt
      clear c2
      have HI := Lib.hid (lefts_iff HP.out (i := k) (by rw [HL.out]; exact hlt))
      obtain ⟨x, HX⟩ : ∃ x, Hid (plc ps k = x) := ⟨_, Lib.hid rfl⟩
      rw [HX.out] at c1
      by_cases hxb : x < b
      · have HK : Hid (k < q) := Lib.hid (by rw [← HQ.out]; exact HI.out.1 (by rw [HX.out]; exact hxb))
        have hk1 := HK.out
        go_wp2
        go_quiet (fail)
        go_wp2
        go_roundw
        case rel => exact ⟨k + 1, _, by omega, by go_num, rfl⟩
        case measure => simp [intOf]; omega
      · have HK : Hid (k = q) := Lib.hid (by
          have h := HI.out
          rw [HX.out, HQ.out] at h
          have : ¬ k < q := fun h' => hxb (h.2 h')
          omega)
        go_wp2
        go_quiet (fail)
        go_wp2
        go_ret
        exact ⟨ret_i (by rw [HK.out]), below_drewN (below_drewN hb0 _) _⟩
    · have HK : Hid (k = q) := Lib.hid (by omega)
      go_wp2
      go_quiet (fail)
      go_wp2
      go_ret
      exact ⟨ret_i (by rw [HK.out]), below_drewN (below_drewN hb0 _) _⟩

theorem st_prefix {b : Int} {ps : List (Int × Int)} {l : List Nat} (h : (stAt b ps l).isSome = true) (k : Nat) : ∃ s, stAt b ps (l.take k) = some s := by
  cases hs : stAt b ps (l.take k) with
  | some s => exact ⟨s, rfl⟩
  | none =>
    have := stAt_none (m := l.drop k) hs
    rw [List.take_append_drop] at this
    rw [this] at h
    cases h
theorem move_of {ps : List (Int × Int)} {s t : St} {i : Nat} (h : stF ps (some s) i = some t) : t.at_ = plc ps i ∧ t.n = s.n + far s.at_ (plc ps i) ∧ t.out = s.out.set i (s.n + far s.at_ (plc ps i)) := by
  rcases stF_inv h with ⟨_, rfl⟩ | ⟨_, _, rfl⟩ <;> exact ⟨rfl, rfl, rfl⟩

set_option maxRecDepth 100000 in
set_option maxHeartbeats 2000000 in
theorem rStepsOf (b : Int) (A : Option Addr) (n c : Nat) (ps : List (Int × Int)) (B : Option Addr) (m d : Nat) (l : List Nat) (w : World) (hx : Rp w w.heap.size A n ps) (HP : Hid (Pier b ps)) (hl : Ri w w.heap.size B m (ofN l)) (HA : Hid (l ∈ allR b ps)) (T : List Int) (HT : Hid ((stepsL b ps l).take n = T)) :
    Calls Try.prog 64 #[.agg #[.int .i64 b, .slice A n c], .slice B m d] w (RetL w T) := by
  have HL := Lib.hid hx.len
  have HM := Lib.hid hl.len
  have hn10 : n ≤ 10 := by have := HP.out.hi; have := HL.out; omega
  obtain rfl : m = n := by
    have := HM.out
    rw [ofN_length, (allR_iff.1 HA.out).1, HL.out] at this
    exact this.symm
  have hbk := Bk.new w 24 #[.int .i64 b, .slice A m c]
  have hb0 : Below w.heap.size w (w.alloc (.cells #[.int .i64 b, .slice A m c] 24)) := (Below.refl _ w).alloc (Nat.le_refl _) _
  go_enter Try.func64, Try.ntmps64
  go_wp2_with (at_make; go_must (refine make_ints rfl (.tmp 10) (.tmp 10) rfl m _ rfl rfl rfl (by omega) ?_); go_must (intro w1 ho1 hb1; have hbk1 := hbk.below hb1 hbk.lt; have hc0 : w1.cell? ⟨w.heap.size, 0, none⟩ = some (.int .i64 b) := hbk1.cell 0; have hc1 : w1.cell? ⟨w.heap.size, 1, none⟩ = some (.slice A m c) := hbk1.cell 1))
  have hbw := hb0.trans (hb1.mono hb0.size)
  obtain ⟨u, hu⟩ : ∃ u, w.heap.size = u := ⟨_, rfl⟩
  rw [World.size_alloc] at ho1
  obtain ⟨g, hg⟩ : ∃ g, w.heap.size + 1 = g := ⟨_, rfl⟩
  have hug : u < g := by omega
  rw [hg] at ho1
  try rw [World.size_alloc]
  try rw [hg]
  rw [hu] at hbk1 hbw ⊢
  have hx0 := hx
  have hl0 := hl
  rw [hu] at hx0 hl0
  clear hx hl hb1 hb0 hbk hg hc0 hc1
  go_loopw [6, 7, 8] (fun x y i wr => ∃ (k : Nat) (s : St), k ≤ m ∧ i = .int .i64 k ∧ x = .int .i64 s.at_ ∧ y = .int .i64 s.n ∧ Hid (stAt b ps (l.take k) = some s) ∧ Oi wr g (some ⟨g, 0, none⟩) m m (s.out.take m) ∧ Bk wr u 24 #[.int .i64 b, .slice A m c] ∧ Below u w wr) (fun _ _ i _ => m - (intOf i).toNat)
  case atStart => exact ⟨0, st0 b ps, Nat.zero_le _, rfl, rfl, rfl, Lib.hid rfl, by
    have e : (st0 b ps).out.take m = List.replicate m 0 := by
      show (List.replicate 10 0).take m = _
      rw [List.take_replicate, Nat.min_eq_left hn10]
    rw [e]; exact ho1, hbk1, hbw⟩
  case round =>
    clear ho1 hbk1 hbw
    obtain ⟨k, s, hk, rfl, rfl, rfl, HS, ho, hbk, hb⟩ := hrel
    have hc0 : wr.cell? ⟨u, 0, none⟩ = some (.int .i64 b) := hbk.cell 0
    have hc1 : wr.cell? ⟨u, 1, none⟩ = some (.slice A m c) := hbk.cell 1
    have hlk : (l.take k).length = k := by rw [List.length_take, (allR_iff.1 HA.out).1, HL.out]; omega
    have hok := stOk HP.out (l.take k) s (fun i hi => (allR_iff.1 HA.out).2.2 i (List.mem_of_mem_take hi)) HS.out
    have hat := hok.at_
    have hsn := hok.n
    rw [hlk] at hsn
    have HOL := Lib.hid hok.out
    clear hok hlk
    obtain ⟨a0, n0, lo, hi, out⟩ := s
    simp only at ho hat hsn HOL ⊢
    have hn0 : n0 ≤ 10000 := by omega
    have hn00 : 0 ≤ n0 := hsn.1
    clear hsn
    by_cases hlt : k < m
    · obtain ⟨ad2, x0, rfl, _, cl, hxl, _⟩ := (hl0.below hb).at_ hlt
      obtain ⟨i, hi1, rfl⟩ := ofN_at hxl.out
      have HI := Lib.hid hi1
      have him : i < m := by have := (allR_iff.1 HA.out).2.2 i (List.mem_of_getElem? hi1); rw [HL.out] at this; exact this
      clear hi1 hxl
      obtain ⟨ad, rfl, hadb, c1, c2⟩ := (hx0.below hb).at2 him
      clear c2
      have hxb := HP.out.at_ i
      obtain ⟨x, HX⟩ : ∃ x, Hid (plc ps i = x) := ⟨_, Lib.hid rfl⟩
      rw [HX.out] at c1 hxb
      obtain ⟨t, HT2⟩ : ∃ t, Hid (stF ps (some ⟨a0, n0, lo, hi, out⟩) i = some t) := by
        obtain ⟨t, ht⟩ := st_prefix (allR_iff.1 HA.out).2.1 (k + 1)
        refine ⟨t, Lib.hid ?_⟩
        rw [take_snoc HI.out, stAt_snoc, HS.out] at ht
        exact ht
      have HST : Hid (stAt b ps (l.take (k + 1)) = some t) := Lib.hid (by rw [take_snoc HI.out, stAt_snoc, HS.out]; exact HT2.out)
      have HMV := Lib.hid (move_of HT2.out)
      obtain ⟨f, HF⟩ : ∃ f, Hid (far a0 x = f) := ⟨_, Lib.hid rfl⟩
      have hfb := far_bd hat ⟨hxb.1, hxb.2.1⟩
      rw [HF.out] at hfb
      obtain ⟨z, HZ⟩ : ∃ z, Hid (n0 + f = z) := ⟨_, Lib.hid rfl⟩
      have hwz : IntKind.i64.wrap (n0 + f) = z := by rw [IntWalk.i64_in _ (by omega)]; exact HZ.out
      go_wp2
      refine wp_region_still_tail 13 (by kernel_rfl) (by kernel_rfl) ?_
      simp only [List.take_succ_cons, List.take_zero, List.drop_succ_cons, List.drop_zero]
      change wpStill _ _ wr.drew _ _ _
      have d0 : wr.drew.cell? ⟨u, 1, none⟩ = some (.slice (some ad) m c) := hc1
      have d1 : wr.drew.cell? (ad2.add k) = some (.int .i64 i) := cl
      have d2 : wr.drew.cell? (ad.add (i * 2)) = some (.int .i64 x) := c1
      iterate 11 still_step
      still_call (flip_same (rFar a0 x wr.drew (by omega) (by omega)))
      rw [HF.out]
      still_step
      refine wpStill_nil ?_
      go_wp2
      go_quiet (fail)
      have hcO : wr.cell? ⟨g, i, none⟩ = some (.int .i64 (nth (out.take m) i)) := ho.cell him
      have hfO : wr.frozen? ⟨g, i, none⟩ = false := ho.frozen i
      have HNX : Hid (t.out.take m = (out.take m).set i z) := Lib.hid (by
        rw [HMV.out.2.2, HX.out, HF.out, HZ.out, List.take_set])
      have HNA : Hid (t.at_ = x) := Lib.hid (by rw [HMV.out.1, HX.out])
      have HNN : Hid (t.n = z) := Lib.hid (by rw [HMV.out.2.1, HX.out, HF.out, HZ.out])
      have ho2 := (ho.drewN (1 + nq)).put_ i z
      have hbk2 := (show Bk (wr.drewN (1 + nq)) u 24 #[.int .i64 b, .slice (some ad) m c] from hbk).far (p := ⟨g, i, none⟩) (by simp; omega) (.int .i64 z)
      have hb2 := (below_drewN hb (1 + nq)).setCell (p := ⟨g, i, none⟩) (by simp; omega) (.int .i64 z)
      go_wp2
      go_roundw
      case rel => exact ⟨k + 1, t, by omega, by go_num, by rw [HNA.out], by rw [HNN.out], HST, by rw [HNX.out]; exact ho2, hbk2, hb2⟩
      case measure => simp [intOf]; omega
    · have HE : Hid (out.take m = T) := Lib.hid (by
        have h := HS.out
        rw [List.take_of_length_le (by rw [(allR_iff.1 HA.out).1, HL.out]; omega)] at h
        rw [← HT.out, stepsL_some h])
      go_wp2
      go_ret
      exact ⟨_, _, _, rfl, by rw [← HE.out]; exact ho.base (by omega), by rw [hu]; exact hb⟩
end Go.Proofs.Ytaekjnjignlmoaa
