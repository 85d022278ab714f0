/-
  The reference: 'Has', 'IsRound', 'InTime', 'CheckRound'.
-/
import Derived.Test.YtaekjnjignlmoaaR2
import Derived.Test.YtaekjnjignlmoaaClash
namespace Go.Proofs.Ytaekjnjignlmoaa
open Go.RowKit Go.Shelf

set_option maxHeartbeats 400000 in
theorem rHas (A : Option Addr) (n c B : Nat) (xs : List Int) (z : Int) (w : World) (hx : Ri w B A n xs) (hn : n ≤ 1099511627776) :
    Calls Try.prog 62 #[.slice A n c, .int .i64 z] w fun e w' => e = .returned (.bool (decide (z ∈ xs))) ∧ w = w' := by
  have HL := Lib.hid hx.len
  obtain ⟨r, HR⟩ : ∃ r, Hid (decide (z ∈ xs) = r) := ⟨_, Lib.hid rfl⟩
  rw [HR.out]
  go_enter Try.func62, Try.ntmps62
  go_wp2
  go_loop [5] (fun i => ∃ k : Nat, k ≤ n ∧ i = .int .i64 k ∧ Hid (z ∉ xs.take k)) (fun i => n - (intOf i).toNat)
  case atStart => exact ⟨0, Nat.zero_le _, rfl, Lib.hid (by simp)⟩
  case round =>
    obtain ⟨k, hk, rfl, hno⟩ := hrel
    by_cases hlt : k < n
    · obtain ⟨ad, x, rfl, _, hc, hxk, _⟩ := hx.at_ hlt
      by_cases he : x = z
      · have HE : Hid (r = true) := Lib.hid (by rw [← HR.out]; exact decide_eq_true (he ▸ List.mem_of_getElem? hxk.out))
        have hb : (x == z) = true := by simp [he]
        clear he
        go_wp2
        go_ret
        exact ⟨ret_b HE.out.symm, rfl⟩
      · have HNO : Hid (z ∉ xs.take (k + 1)) := Lib.hid (by
          rw [take_snoc hxk.out]
          intro h
          rcases List.mem_append.1 h with h | h
          · exact hno.out h
          · exact he (List.mem_singleton.1 h).symm)
        go_wp2
        go_round
        case rel => exact ⟨k + 1, by omega, by go_num, HNO⟩
        case measure => simp [intOf]; omega
    · have HE : Hid (r = false) := Lib.hid (by
        rw [← HR.out]
        refine decide_eq_false ?_
        have h := hno.out
        rwa [List.take_of_length_le (by rw [HL.out]; omega)] at h)
      go_wp2
      go_ret
      exact ⟨ret_b HE.out.symm, rfl⟩

set_option maxRecDepth 100000 in
set_option maxHeartbeats 2000000 in
theorem rIsRound (b : Int) (A : Option Addr) (n c : Nat) (ps : List (Int × Int)) (B : Option Addr) (m d : Nat) (l : List Nat) (w : World) (hx : Rp w w.heap.size A n ps) (HP : Hid (Pier b ps)) (hl : Ri w w.heap.size B m (ofN l)) (hm : m = n) (HA : Hid (∀ i ∈ l, i < n)) (r : Bool) (HR : Hid ((stAt b ps l).isSome = r)) :
    Calls Try.prog 63 #[.agg #[.int .i64 b, .slice A n c], .slice B m d] w (RetB w r) := by
  subst hm
  have HL := Lib.hid hx.len
  have HM : Hid (l.length = m) := Lib.hid (by have := hl.len; rwa [ofN_length] at this)
  have hn10 : m ≤ 10 := by have := HP.out.hi; have := HL.out; omega
  have hbk := Bk.new w 24 #[.int .i64 b, .slice A m c]
  have hc0 : (w.alloc (.cells #[.int .i64 b, .slice A m c] 24)).cell? ⟨w.heap.size, 0, none⟩ = some (.int .i64 b) := hbk.cell 0
  have hc1 : (w.alloc (.cells #[.int .i64 b, .slice A m c] 24)).cell? ⟨w.heap.size, 1, none⟩ = some (.slice A m c) := hbk.cell 1
  have hb0 : Below w.heap.size w (w.alloc (.cells #[.int .i64 b, .slice A m c] 24)) := (Below.refl _ w).alloc (Nat.le_refl _) _
  have hx0 := hx.next hb0 (Nat.le_refl _) hb0.size
  obtain ⟨q, HQ⟩ : ∃ q, Hid (lefts b ps = q) := ⟨_, Lib.hid rfl⟩
  go_enter Try.func63, Try.ntmps63
  go_wp2_with fail
  refine (rLefts b A m c ps _ hx0 HP q HQ).mono ?_
  rintro e w1 ⟨rfl, hb⟩
  have hb1 := hb0.trans (hb.mono hb0.size)
  clear hb hb0 hc0 hc1 hbk hx0
  obtain ⟨V, hV⟩ : ∃ V : World, V = w1 := ⟨_, rfl⟩
  subst hV
  go_wp2
  go_loop [5, 6, 7] (fun x y i => ∃ (k : Nat) (s : St), k ≤ m ∧ i = .int .i64 k ∧ x = .int .i64 (s.lo : Int) ∧ y = .int .i64 (s.hi : Int) ∧ Hid (stAt b ps (l.take k) = some s)) (fun _ _ i => m - (intOf i).toNat)
  case atStart => exact ⟨0, st0 b ps, Nat.zero_le _, rfl, by rw [← HQ.out]; rfl, by rw [← HQ.out]; rfl, Lib.hid rfl⟩
  case round =>
    obtain ⟨k, s, hk, rfl, rfl, rfl, HS⟩ := hrel
    have hok := stOk HP.out (l.take k) s (fun i hi => by rw [HL.out]; exact HA.out i (List.mem_of_mem_take hi)) HS.out
    have hlo := hok.lo
    have hhi := hok.hi
    have hle := lefts_le b ps
    rw [HL.out] at hhi hle
    clear hok
    obtain ⟨a0, n0, lo, hi, out⟩ := s
    simp only at hlo hhi ⊢
    have hlo10 : lo ≤ 10 := by omega
    have hhi10 : hi ≤ 10 := by omega
    have hlh : lo ≤ hi := by omega
    clear hlo hhi hle
    obtain ⟨lf, HLF⟩ : ∃ lf : Int, Hid ((lo : Int) - 1 = lf) := ⟨_, Lib.hid rfl⟩
    have hwl : IntKind.i64.wrap ((lo : Int) - 1) = lf := by rw [IntWalk.i64_in _ (by omega)]; exact HLF.out
    by_cases hlt : k < m
    · obtain ⟨ad2, x0, rfl, _, cl, hxl, _⟩ := (hl.below hb1).at_ hlt
      obtain ⟨i, hi1, rfl⟩ := ofN_at hxl.out
      have HI := Lib.hid hi1
      have him : i < m := HA.out i (List.mem_of_getElem? hi1)
      clear hi1 hxl
      have HST : Hid (stAt b ps (l.take (k + 1)) = stF ps (some ⟨a0, n0, lo, hi, out⟩) i) := Lib.hid (by rw [take_snoc HI.out, stAt_snoc, HS.out])
      by_cases h1 : (i : Int) = lf
      · have HM1 : Hid (stF ps (some ⟨a0, n0, lo, hi, out⟩) i = some (move ps ⟨a0, n0, lo, hi, out⟩ i i hi)) := Lib.hid (by
          simp only [stF, Option.bind_some]
          rw [if_pos (by have := HLF.out; omega)])
        have hb : ((i : Int) == lf) = true := by simp [h1]
        have HI1 := Lib.hid h1
        clear h1
        go_wp2
        go_round
        case rel => exact ⟨k + 1, _, by omega, by go_num, by rw [← HI1.out]; rfl, rfl, Lib.hid (HST.out.trans HM1.out)⟩
        case measure => simp [intOf]; omega
      · have hb : ((i : Int) == lf) = false := by simp [h1]
        by_cases h2 : i = hi
        · have HM1 : Hid (stF ps (some ⟨a0, n0, lo, hi, out⟩) i = some (move ps ⟨a0, n0, lo, hi, out⟩ i lo (i + 1))) := Lib.hid (by
            simp only [stF, Option.bind_some]
            rw [if_neg (by have := HLF.out; omega), if_pos h2.symm])
          have hb2 : ((i : Int) == (hi : Int)) = true := by simp [h2]
          obtain ⟨h1', HH1⟩ : ∃ k, Hid (hi + 1 = k) := ⟨_, Lib.hid rfl⟩
          have hwh : IntKind.i64.wrap ((hi : Int) + 1) = (h1' : Int) := by rw [IntWalk.i64_in _ (by omega)]; have := HH1.out; omega
          have HI2 := Lib.hid h2
          clear h1 h2
          go_wp2
          go_round
          case rel => exact ⟨k + 1, _, by omega, by go_num, rfl, by rw [← HH1.out, ← HI2.out]; rfl, Lib.hid (HST.out.trans HM1.out)⟩
          case measure => simp [intOf]; omega
        · have HE : Hid (r = false) := Lib.hid (by
            rw [← HR.out]
            have e : stAt b ps (l.take (k + 1)) = none := by
              rw [HST.out]
              simp only [stF, Option.bind_some]
              rw [if_neg (by have := HLF.out; omega), if_neg (fun e => h2 e.symm)]
            have e2 := stAt_none (m := l.drop (k + 1)) e
            rw [List.take_append_drop] at e2
            rw [e2]
            rfl)
          have hb2 : ((i : Int) == (hi : Int)) = false := by simp; omega
          clear h1 h2
          go_wp2
          go_ret
          exact ⟨ret_b HE.out.symm, hb1⟩
    · have HE : Hid (r = true) := Lib.hid (by
        have h := HS.out
        rw [List.take_of_length_le (by rw [HM.out]; omega)] at h
        rw [← HR.out, h]
        rfl)
      go_wp2
      go_ret
      exact ⟨ret_b HE.out.symm, hb1⟩

set_option maxRecDepth 100000 in
set_option maxHeartbeats 2000000 in
theorem rInTime (b : Int) (A : Option Addr) (n c : Nat) (ps : List (Int × Int)) (B : Option Addr) (m d : Nat) (T : List Int) (w : World) (hx : Rp w w.heap.size A n ps) (hl : Ri w w.heap.size B m T) (hm : m = n) (hn : n ≤ 1000) (r : Bool) (HR : Hid (decide (∀ i : Nat, i < n → nth T i ≤ too ps i) = r)) :
    Calls Try.prog 65 #[.agg #[.int .i64 b, .slice A n c], .slice B m d] w (RetB w r) := by
  subst hm
  have HL := Lib.hid hx.len
  have HM := Lib.hid hl.len
  have hbk := Bk.new w 24 #[.int .i64 b, .slice A m c]
  obtain ⟨V, hV⟩ : ∃ V : World, V = w.alloc (.cells #[.int .i64 b, .slice A m c] 24) := ⟨_, rfl⟩
  have hb0 : Below w.heap.size w V := hV ▸ (Below.refl _ w).alloc (Nat.le_refl _) _
  rw [← hV] at hbk
  have hc1 : V.cell? ⟨w.heap.size, 1, none⟩ = some (.slice A m c) := hbk.cell 1
  have hx0 := hx.below hb0
  have hl0 := hl.below hb0
  go_enter Try.func65, Try.ntmps65
  go_wp2
  rw [← hV]
  clear hV
  go_loopw [5] (fun i wr => ∃ k q : Nat, k ≤ m ∧ i = .int .i64 k ∧ wr = V.drewN q ∧ Hid (∀ i : Nat, i < k → nth T i ≤ too ps i)) (fun i _ => m - (intOf i).toNat)
  case atStart => exact ⟨0, 0, Nat.zero_le _, rfl, rfl, Lib.hid (fun i h => by omega)⟩
  case round =>
    obtain ⟨k, q, hk, rfl, rfl, HB⟩ := hrel
    by_cases hlt : k < m
    · obtain ⟨ad2, s, rfl, _, cl, hsl, _⟩ := hl0.at_ hlt
      obtain ⟨ad, rfl, hadb, c1, c2⟩ := hx0.at2 hlt
      have HSX : Hid (nth T k = s) := Lib.hid (nth_some hsl.out)
      obtain ⟨y, HY⟩ : ∃ y, Hid (too ps k = y) := ⟨_, Lib.hid rfl⟩
      rw [HY.out] at c2
      by_cases h1 : y < s
      · have HE : Hid (r = false) := Lib.hid (by
          rw [← HR.out]
          refine decide_eq_false fun h => ?_
          have := h k hlt
          rw [HSX.out, HY.out] at this
          omega)
        go_wp2
        go_quiet (fail)
        go_wp2
        go_ret
        exact ⟨ret_b HE.out.symm, below_drewN (below_drewN hb0 q) _⟩
      · have HB2 : Hid (∀ i : Nat, i < k + 1 → nth T i ≤ too ps i) := Lib.hid (fun i hi => by
          rcases Nat.lt_or_ge i k with h | h
          · exact HB.out i h
          · obtain rfl : i = k := by omega
            rw [HSX.out, HY.out]
            omega)
        go_wp2
        go_quiet (fail)
        go_wp2
        go_roundw
        case rel => exact ⟨k + 1, _, by omega, by go_num, rfl, HB2⟩
        case measure => simp [intOf]; omega
    · have HE : Hid (r = true) := Lib.hid (by
        rw [← HR.out]
        exact decide_eq_true fun i hi => HB.out i (by omega))
      go_wp2
      go_ret
      exact ⟨ret_b HE.out.symm, below_drewN hb0 q⟩
end Go.Proofs.Ytaekjnjignlmoaa
