/-
  The reference: 'Far', 'CheckPier', 'Lefts', 'Has'.
-/
import Derived.Test.YtaekjnjignlmoaaCk
import Derived.Test.YtaekjnjignlmoaaWd
import Derived.BigQuiet
namespace Go.Proofs.Ytaekjnjignlmoaa
open Go.RowKit Go.Shelf

theorem rFar (a b : Int) (w : World) (ha : -100000 ≤ a ∧ a ≤ 100000) (hb : -100000 ≤ b ∧ b ≤ 100000) :
    Calls Try.prog 103 #[.int .i64 a, .int .i64 b] w fun e w' => e = .returned (.int .i64 (far a b)) ∧ w = w' := by
  obtain ⟨ha0, ha1⟩ := ha
  obtain ⟨hb0, hb1⟩ := hb
  have h1 : IntKind.i64.wrap (a - b) = a - b := IntWalk.i64_in _ (by omega)
  have h2 : IntKind.i64.wrap (b - a) = b - a := IntWalk.i64_in _ (by omega)
  obtain ⟨v, hv⟩ : ∃ v, far a b = v := ⟨_, rfl⟩
  rw [hv]
  have HV := Lib.hid hv
  clear hv
  by_cases h : a - b < b - a
  · have HE : Hid (b - a = v) := Lib.hid (by rw [← HV.out]; unfold far; rw [if_pos (by omega)])
    go_enter Try.func103, Try.ntmps103
    go_wp2
    go_ret
    exact ⟨ret_i HE.out, rfl⟩
  · have HE : Hid (a - b = v) := Lib.hid (by rw [← HV.out]; unfold far; split <;> omega)
    go_enter Try.func103, Try.ntmps103
    go_wp2
    go_ret
    exact ⟨ret_i HE.out, rfl⟩

set_option maxRecDepth 100000 in
set_option maxHeartbeats 2000000 in
theorem rCheckPier (b : Int) (A : Option Addr) (n c : Nat) (ps : List (Int × Int)) (w : World) (hx : Rp w w.heap.size A n ps) (hn : n ≤ 1048576) (v : Int) (HV : Hid (checkPier b ps = v)) :
    Calls Try.prog 22 #[.agg #[.int .i64 b, .slice A n c]] w (RetI w v) := by
  have HL := Lib.hid hx.len
  have hbk := Bk.new w 24 #[.int .i64 b, .slice A n c]
  have hc0 : (w.alloc (.cells #[.int .i64 b, .slice A n c] 24)).cell? ⟨w.heap.size, 0, none⟩ = some (.int .i64 b) := hbk.cell 0
  have hc1 : (w.alloc (.cells #[.int .i64 b, .slice A n c] 24)).cell? ⟨w.heap.size, 1, none⟩ = some (.slice A n c) := hbk.cell 1
  have hb0 : Below w.heap.size w (w.alloc (.cells #[.int .i64 b, .slice A n c] 24)) := (Below.refl _ w).alloc (Nat.le_refl _) _
  by_cases h1 : n < 1
  · have HE : Hid (v = 6) := Lib.hid (HV.out.symm.trans (by unfold checkPier; rw [if_pos (by rw [HL.out]; omega)]))
    go_enter Try.func22, Try.ntmps22
    go_wp2
    go_ret
    exact ⟨ret_i HE.out.symm, hb0⟩
  by_cases h5 : 10 < n
  · have HE : Hid (v = 6) := Lib.hid (HV.out.symm.trans (by unfold checkPier; rw [if_pos (by rw [HL.out]; omega)]))
    go_enter Try.func22, Try.ntmps22
    go_wp2
    go_ret
    exact ⟨ret_i HE.out.symm, hb0⟩
  have HN : Hid (¬ (ps.length < 1 ∨ 10 < ps.length)) := Lib.hid (by rw [HL.out]; omega)
  by_cases hb1 : b < 0
  · have HE : Hid (v = 3) := Lib.hid (HV.out.symm.trans (by unfold checkPier; rw [if_neg HN.out, if_pos]; simp [outB, hb1]))
    go_enter Try.func22, Try.ntmps22
    go_wp2
    go_ret
    exact ⟨ret_i HE.out.symm, hb0⟩
  by_cases hb2 : 1000 < b
  · have HE : Hid (v = 3) := Lib.hid (HV.out.symm.trans (by unfold checkPier; rw [if_neg HN.out, if_pos]; simp [outB, hb2]))
    go_enter Try.func22, Try.ntmps22
    go_wp2
    go_ret
    exact ⟨ret_i HE.out.symm, hb0⟩
  have HB : Hid (outB 0 1000 b = false) := Lib.hid (outB_false.2 (by omega))
  go_enter Try.func22, Try.ntmps22
  go_wp2
  go_loopw [4] (fun i wr => ∃ k : Nat, k ≤ n ∧ i = .int .i64 k ∧ Hid ((ps.take k).any strayB = false) ∧ Below w.heap.size w wr ∧ Bk wr w.heap.size 24 #[.int .i64 b, .slice A n c]) (fun i _ => n - (intOf i).toNat)
  case atStart => exact ⟨0, Nat.zero_le _, rfl, Lib.hid rfl, hb0, hbk⟩
  case round =>
    clear hb0 hc0 hc1 hbk
    obtain ⟨k, hk, rfl, hno, hb, hbk⟩ := hrel
    have hc1 : wr.cell? ⟨w.heap.size, 1, none⟩ = some (.slice A n c) := hbk.cell 1
    by_cases hlt : k < n
    · obtain ⟨ad, rfl, hadb, c1, c2⟩ := (hx.below hb).at2 hlt
      obtain ⟨x, HX⟩ : ∃ x, Hid (plc ps k = x) := ⟨_, Lib.hid rfl⟩
      obtain ⟨y, HY⟩ : ∃ y, Hid (too ps k = y) := ⟨_, Lib.hid rfl⟩
      rw [HX.out] at c1
      rw [HY.out] at c2
      have HG : Hid (ps[k]? = some (x, y)) := Lib.hid (by
        have hk2 : k < ps.length := by rw [HL.out]; exact hlt
        have := plc_some (List.getElem?_eq_getElem hk2)
        rw [HX.out, HY.out] at this
        rw [List.getElem?_eq_getElem hk2]
        exact congrArg some (Prod.ext this.1.symm this.2.symm))
      have hb' := hb.alloc hb.size (.cells #[.int .i64 x, .int .i64 y] 67)
      have hbk' := hbk.alloc (.cells #[.int .i64 x, .int .i64 y] 67)
      have HBAD : Hid (strayB (x, y) = true → v = 3) := Lib.hid fun h => HV.out.symm.trans (by
        unfold checkPier
        rw [if_neg HN.out, if_pos]
        rw [List.any_eq_true.2 ⟨_, List.mem_of_getElem? HG.out, h⟩]
        simp)
      by_cases q1 : x < 0
      · have HE := Lib.hid (HBAD.out (by simp [strayB, outB, q1]))
        go_wp2
        go_ret
        exact ⟨ret_i HE.out.symm, hb'⟩
      by_cases q2 : 1000 < x
      · have HE := Lib.hid (HBAD.out (by simp [strayB, outB, q2]))
        go_wp2
        go_ret
        exact ⟨ret_i HE.out.symm, hb'⟩
      by_cases q3 : y < 0
      · have HE := Lib.hid (HBAD.out (by simp [strayB, outB, q3]))
        go_wp2
        go_ret
        exact ⟨ret_i HE.out.symm, hb'⟩
      by_cases q4 : 9000 < y
      · have HE := Lib.hid (HBAD.out (by simp [strayB, outB, q4]))
        go_wp2
        go_ret
        exact ⟨ret_i HE.out.symm, hb'⟩
      have HNO : Hid ((ps.take (k + 1)).any strayB = false) := Lib.hid (by
        have hq : strayB (x, y) = false := strayB_false.2 ⟨⟨by show 0 ≤ x; omega, by show x ≤ 1000; omega⟩, by show 0 ≤ y; omega, by show y ≤ 9000; omega⟩
        rw [take_snoc HG.out, List.any_append, hno.out, List.any_cons, hq]
        rfl)
      clear HBAD
      go_wp2
      go_roundw
      case rel => exact ⟨k + 1, by omega, by go_num, HNO, hb', hbk'⟩
      case measure => simp [intOf]; omega
    · have HNO : Hid (ps.any strayB = false) := Lib.hid (by have := hno.out; rw [List.take_of_length_le (by rw [HL.out]; omega)] at this; exact this)
      have HV2 : Hid ((if (List.range ps.length).any (unruly b ps) = true then 16 else 0) = v) := Lib.hid (by
        have e := HV.out
        unfold checkPier at e
        rw [if_neg HN.out, HNO.out, HB.out] at e
        simpa using e)
      obtain ⟨V, hV⟩ : ∃ V : World, V = wr := ⟨_, rfl⟩
      subst hV
      go_wp2
      go_loopw [6] (fun i wr => ∃ k d : Nat, k ≤ n ∧ i = .int .i64 k ∧ Hid ((List.range k).any (unruly b ps) = false) ∧ wr = V.drewN d) (fun i _ => n - (intOf i).toNat)
      case atStart => exact ⟨0, 0, Nat.zero_le _, rfl, Lib.hid rfl, rfl⟩
      case round =>
        obtain ⟨q, d, hq, rfl, hru, rfl⟩ := hrel
        have hc0 : V.cell? ⟨w.heap.size, 0, none⟩ = some (.int .i64 b) := hbk.cell 0
        by_cases hltq : q < n
        · obtain ⟨ad, rfl, hadb, c1, c2⟩ := (hx.below hb).at2 hltq
          clear c2
          obtain ⟨x, HX⟩ : ∃ x, Hid (plc ps q = x) := ⟨_, Lib.hid rfl⟩
          rw [HX.out] at c1
          have HBAD : Hid (unruly b ps q = true → v = 16) := Lib.hid fun h => by
            rw [← HV2.out, if_pos]
            exact List.any_eq_true.2 ⟨q, List.mem_range.2 (by rw [HL.out]; exact hltq), h⟩
          have HGOOD : Hid (unruly b ps q = false → (List.range (q + 1)).any (unruly b ps) = false) := Lib.hid fun h => by
            rw [List.range_succ, List.any_append, hru.out]
            simp [h]
          by_cases e1 : x = b
          · have HE := Lib.hid (HBAD.out (by unfold unruly; rw [HX.out, decide_eq_true e1]; rfl))
            have he1 : (x == b) = true := by simp [e1]
            clear HBAD HGOOD e1
            go_wp2
            go_quiet (fail)
            go_wp2
            go_ret
            exact ⟨ret_i HE.out.symm, below_drewN (below_drewN hb _) _⟩
          have he1 : (x == b) = false := by simp [e1]
          rcases Nat.eq_zero_or_pos q with q0 | q0
          · have HE := Lib.hid (HGOOD.out (by unfold unruly; rw [HX.out, decide_eq_false e1, q0]; rfl))
            have hd : ¬ 0 < q := by omega
            have HQ0 := Lib.hid q0
            clear q0
            clear HBAD HGOOD e1
            go_wp2
            go_quiet (fail)
            go_wp2
            go_roundw
            case rel => exact ⟨q + 1, _, by omega, by go_num, HE, rfl⟩
            case measure => simp [intOf]; omega
          · obtain ⟨m, HM⟩ : ∃ m, Hid (q = m + 1) := ⟨q - 1, Lib.hid (by omega)⟩
            have hm : m < n := by have := HM.out; omega
            obtain ⟨ad', hA, _, c3, c4⟩ := (hx.below hb).at2 hm
            clear c4
            obtain rfl : ad = ad' := Option.some.inj hA
            obtain ⟨z, HZ⟩ : ∃ z, Hid (plc ps m = z) := ⟨_, Lib.hid rfl⟩
            rw [HZ.out] at c3
            have hw1 : IntKind.i64.wrap ((q : Int) - 1) = (m : Int) := by rw [IntWalk.i64_in _ (by omega)]; have := HM.out; omega
            have hd : decide (0 < (q : Int)) = true := decide_eq_true (by omega)
            by_cases e2 : x ≤ z
            · have HE := Lib.hid (HBAD.out (by
                unfold unruly
                rw [show q - 1 = m from by have := HM.out; omega, HX.out, HZ.out, decide_eq_true q0, decide_eq_true e2]
                simp))
              have hd2 : decide (x ≤ z) = true := decide_eq_true e2
              clear HBAD HGOOD e1
              go_wp2
              go_quiet (fail)
              go_wp2
              go_ret
              exact ⟨ret_i HE.out.symm, below_drewN (below_drewN hb _) _⟩
            · have HE := Lib.hid (HGOOD.out (by
                unfold unruly
                rw [show q - 1 = m from by have := HM.out; omega, HX.out, HZ.out, decide_eq_false e1, decide_eq_false e2]
                simp))
              have hd2 : decide (x ≤ z) = false := decide_eq_false e2
              clear HBAD HGOOD e1
              go_wp2
              go_quiet (fail)
              go_wp2
              go_roundw
              case rel => exact ⟨q + 1, _, by omega, by go_num, HE, rfl⟩
              case measure => simp [intOf]; omega
        · have HE : Hid (v = 0) := Lib.hid (by
            have h := hru.out
            rw [show q = ps.length from by rw [HL.out]; omega] at h
            rw [← HV2.out, h]
            rfl)
          go_wp2
          go_ret
          exact ⟨ret_i HE.out.symm, below_drewN hb _⟩
end Go.Proofs.Ytaekjnjignlmoaa
