/-
  The program: 'within'.
  The program: 'CheckPier'.
  The program: 'far', 'newWalk', 'open'.
-/
import Derived.Test.YtaekjnjignlmoaaWd
import Derived.Test.YtaekjnjignlmoaaPlain
import Derived.Lib.SliceRun
namespace Go.Proofs.Ytaekjnjignlmoaa
open Go.RowKit

theorem add_succ (ad : Addr) (k : Nat) : ad.add (k + 1) = ⟨ad.block, ad.off + 1 + k, none⟩ := by
  unfold Addr.add
  rw [if_neg (by omega), Nat.add_assoc, Nat.add_comm 1 k]
set_option maxHeartbeats 400000 in
theorem fWithin1 (x lo hi : Int) (a b : Addr) (w : World) (ha : w.cell? a = some (.int .i64 lo)) (hb : w.cell? b = some (.int .i64 hi)) :
    Calls Try.prog 100 #[.int .i64 x, .pointer (some a), .pointer (some b)] w fun e w' => e = .returned (.bool (outB lo hi x)) ∧ w = w' := by
  by_cases h1 : x < lo
  · go_enter Try.func100, Try.ntmps100
    go_wp2
    go_ret
    exact ⟨ret_b (by simp [outB, h1]), rfl⟩
  · by_cases h2 : hi < x
    · go_enter Try.func100, Try.ntmps100
      go_wp2
      go_ret
      exact ⟨ret_b (by simp [outB, h2]), rfl⟩
    · go_enter Try.func100, Try.ntmps100
      go_wp2
      go_ret
      exact ⟨ret_b (by symm; rw [outB_false]; omega), rfl⟩

set_option maxHeartbeats 400000 in
theorem indexFunc_within (lo hi : Int) (a b : Addr) (A : Option Addr) (n c B : Nat) (xs : List Int) (w : World) (ha : w.cell? a = some (.int .i64 lo)) (hb : w.cell? b = some (.int .i64 hi))
    (hx : Ri w B A n xs) (hn : n ≤ 1099511627776) (r : Bool) (HR : Hid (xs.any (outB lo hi) = r)) :
    Calls Try.prog 118 #[.slice A n c, .func (.func 100) #[] #[.pointer (some a), .pointer (some b)]] w fun e w' => (∃ k : Int, e = .returned (.int .i64 k) ∧ decide (0 ≤ k) = r) ∧ w = w' := by
  have HL := Lib.hid hx.len
  go_enter Try.func118, Try.ntmps118
  go_wp2
  go_loop [5, 8] (fun _ i => ∃ k : Nat, k ≤ n ∧ i = .int .i64 k ∧ Hid ((xs.take k).any (outB lo hi) = false)) (fun _ i => n - (intOf i).toNat)
  case atStart => exact ⟨0, Nat.zero_le _, rfl, Lib.hid rfl⟩
  case round =>
    obtain ⟨k, hk, rfl, hno⟩ := hrel
    by_cases hlt : k < n
    · obtain ⟨ad, x, rfl, _, hc, hxk, _⟩ := hx.at_ hlt
      cases hout : outB lo hi x
      · have HX : Hid ((xs.take (k + 1)).any (outB lo hi) = false) := Lib.hid (by rw [take_snoc hxk.out, List.any_append, hno.out]; simp [hout])
        have HO := Lib.hid hout
        clear hout
        go_wp2_with (go_at_call 100; refine (fWithin1 _ _ _ _ _ _ ha hb).mono ?_; rintro e w' ⟨rfl, rfl⟩; rw [HO.out])
        go_round
        case rel => exact ⟨k + 1, by omega, by go_num, HX⟩
        case measure => simp [intOf]; omega
      · have HX : Hid (r = true) := Lib.hid (by rw [← HR.out]; exact List.any_eq_true.2 ⟨x, List.mem_of_getElem? hxk.out, hout⟩)
        have HO := Lib.hid hout
        clear hout
        go_wp2_with (go_at_call 100; refine (fWithin1 _ _ _ _ _ _ ha hb).mono ?_; rintro e w' ⟨rfl, rfl⟩; rw [HO.out])
        go_ret
        exact ⟨⟨k, rfl, by rw [HX.out]; simp⟩, rfl⟩
    · have HX : Hid (r = false) := Lib.hid (by rw [← HR.out]; have := hno.out; rw [List.take_of_length_le (by rw [HL.out]; omega)] at this; exact this)
      go_wp2
      go_ret
      exact ⟨⟨-1, rfl, by rw [HX.out]; simp⟩, rfl⟩

set_option maxHeartbeats 400000 in
theorem containsFunc_within (lo hi : Int) (a b : Addr) (A : Option Addr) (n c B : Nat) (xs : List Int) (w : World) (ha : w.cell? a = some (.int .i64 lo)) (hb : w.cell? b = some (.int .i64 hi))
    (hx : Ri w B A n xs) (hn : n ≤ 1099511627776) (r : Bool) (HR : Hid (xs.any (outB lo hi) = r)) :
    Calls Try.prog 99 #[.slice A n c, .func (.func 100) #[] #[.pointer (some a), .pointer (some b)]] w fun e w' => e = .returned (.bool r) ∧ w = w' := by
  go_enter Try.func99, Try.ntmps99
  go_wp2_with (go_at_call 118; refine (indexFunc_within _ _ _ _ _ _ _ _ _ _ ha hb hx hn _ HR).mono ?_; rintro e w' ⟨⟨k, rfl, hk⟩, rfl⟩; have HK := Lib.hid hk; clear hk)
  go_ret
  exact ⟨ret_b HK.out, rfl⟩

set_option maxHeartbeats 400000 in
theorem fWithin (lo hi : Int) (A : Option Addr) (n c : Nat) (xs : List Int) (w : World) (hx : Ri w w.heap.size A n xs) (hn : n ≤ 1099511627776) (r : Bool) (HR : Hid (xs.any (outB lo hi) = r)) :
    Calls Try.prog 58 #[.int .i64 lo, .int .i64 hi, .slice A n c] w fun e w' => e = .returned (.bool (!r)) ∧ Below w.heap.size w w' ∧ w'.heap.size = w.heap.size + 2 := by
  have ha : ((w.alloc (.cells #[.int .i64 lo] 2)).alloc (.cells #[.int .i64 hi] 2)).cell? ⟨w.heap.size, 0, none⟩ = some (.int .i64 lo) := (World.cell?_alloc_lt _ _ _ (by simp)).trans (cell_new1 _ _ _)
  have hb : ((w.alloc (.cells #[.int .i64 lo] 2)).alloc (.cells #[.int .i64 hi] 2)).cell? ⟨w.heap.size + 1, 0, none⟩ = some (.int .i64 hi) := by
    simp
  have hx2 : Ri ((w.alloc (.cells #[.int .i64 lo] 2)).alloc (.cells #[.int .i64 hi] 2)) w.heap.size A n xs := (hx.alloc (Nat.le_refl _) _).alloc (by simp) _
  go_enter Try.func58, Try.ntmps58
  go_wp2_with (go_at_call 99; refine (containsFunc_within _ _ _ _ _ _ _ _ _ _ ha hb hx2 hn _ HR).mono ?_; rintro e w' ⟨rfl, rfl⟩)
  go_ret
  exact ⟨rfl, ((Below.refl _ w).alloc (Nat.le_refl _) _).alloc (by simp) _, by simp⟩

end Go.Proofs.Ytaekjnjignlmoaa

namespace Go.Proofs.Ytaekjnjignlmoaa
open Go.RowKit

set_option maxRecDepth 100000 in
set_option maxHeartbeats 1000000 in
theorem fStray (x y : Int) (w : World) (r : Bool) (HR : Hid (strayB (x, y) = r)) :
    Calls Try.prog 66 #[.agg #[.int .i64 x, .int .i64 y]] w (RetB w r) := by
  have hbk := Bk.new w 67 #[.int .i64 x, .int .i64 y]
  have hlit := (Oi.lit1 (w.alloc (.cells #[.int .i64 x, .int .i64 y] 67)) x).ri
  rw [World.size_alloc w] at hlit
  have hc0 : (w.alloc (.cells #[.int .i64 x, .int .i64 y] 67)).cell? ⟨w.heap.size, 0, none⟩ = some (.int .i64 x) := hbk.cell 0
  have hb0 := ((Below.refl w.heap.size w).alloc (Nat.le_refl _) (.cells #[.int .i64 x, .int .i64 y] 67)).alloc (by simp) (.cells #[.int .i64 x] 2)
  have HB0 := Lib.hid hb0
  clear hb0
  cases hx : outB 0 1000 x
  · have HX : Hid ([x].any (outB 0 1000) = false) := Lib.hid (by simp [hx])
    have HR2 : Hid ([y].any (outB 0 9000) = r) := Lib.hid (by rw [← HR.out]; simp [strayB, hx])
    clear hx
    go_enter Try.func66, Try.ntmps66
    go_wp2_with fail
    refine (fWithin _ _ _ _ _ _ _ hlit (by omega) _ HX).mono ?_
    rintro e w1 ⟨rfl, hb, hs⟩
    clear hs
    have hb1 := HB0.out.trans (hb.mono (by simp; omega))
    have hc1 : w1.cell? ⟨w.heap.size, 1, none⟩ = some (.int .i64 y) := ((hbk.alloc _).below hb (by simp; omega)).cell 1
    have hlit2 := (Oi.lit1 w1 y).ri
    clear hbk hb hlit
    go_wp2_with fail
    refine (fWithin _ _ _ _ _ _ _ hlit2 (by omega) _ HR2).mono ?_
    rintro e w2 ⟨rfl, hb2, hs2⟩
    clear hs2
    have hb3 := (hb1.alloc hb1.size _).trans (hb2.mono (by have := hb1.size; simp; omega))
    go_wp2_with fail
    go_ret
    exact ⟨by simp, hb3⟩
  · have HX : Hid ([x].any (outB 0 1000) = true) := Lib.hid (by simp [hx])
    have HR2 : Hid (r = true) := Lib.hid (by rw [← HR.out]; simp [strayB, hx])
    clear hx
    go_enter Try.func66, Try.ntmps66
    go_wp2_with fail
    refine (fWithin _ _ _ _ _ _ _ hlit (by omega) _ HX).mono ?_
    rintro e w1 ⟨rfl, hb, hs⟩
    clear hs
    have hb1 := HB0.out.trans (hb.mono (by simp; omega))
    clear hbk hb hlit
    go_wp2_with fail
    go_ret
    exact ⟨by rw [HR2.out]; simp, hb1⟩

set_option maxRecDepth 100000 in
set_option maxHeartbeats 1000000 in
theorem indexFunc_stray (A : Option Addr) (n c B : Nat) (ps : List (Int × Int)) (w : World) (hx : Rp w B A n ps) (hB : B ≤ w.heap.size) (hn : n ≤ 1099511627776) (r : Bool) (HR : Hid (ps.any strayB = r)) :
    Calls Try.prog 104 #[.slice A n c, .func (.func 66) #[] #[]] w fun e w' => (∃ k : Int, e = .returned (.int .i64 k) ∧ decide (0 ≤ k) = r) ∧ Below w.heap.size w w' := by
  have HL := Lib.hid hx.len
  go_enter Try.func104, Try.ntmps104
  go_wp2
  go_loopw [5, 8] (fun _ i wr => ∃ k : Nat, k ≤ n ∧ i = .int .i64 k ∧ Hid ((ps.take k).any strayB = false) ∧ Below w.heap.size w wr) (fun _ i _ => n - (intOf i).toNat)
  case atStart => exact ⟨0, Nat.zero_le _, rfl, Lib.hid rfl, Below.refl _ _⟩
  case round =>
    obtain ⟨k, hk, rfl, hno, hb⟩ := hrel
    have hxr := hx.below' hb hB
    by_cases hlt : k < n
    · obtain ⟨ad, rfl, _, c1, c2⟩ := hxr.at2 hlt
      obtain ⟨x, HX⟩ : ∃ x, Hid (plc ps k = x) := ⟨_, Lib.hid rfl⟩
      obtain ⟨y, HY⟩ : ∃ y, Hid (too ps k = y) := ⟨_, Lib.hid rfl⟩
      rw [HX.out] at c1
      rw [HY.out] at c2
      cases hs : strayB (x, y)
      · have HS : Hid ((ps.take (k + 1)).any strayB = false) := Lib.hid (by
          have hk2 : k < ps.length := by rw [HL.out]; omega
          rw [take_snoc (List.getElem?_eq_getElem hk2), List.any_append, hno.out]
          have e : ps[k] = (x, y) := by
            have := plc_some (List.getElem?_eq_getElem hk2)
            rw [HX.out, HY.out] at this
            exact Prod.ext this.1.symm this.2.symm
          simp [e, hs])
        have HR1 := Lib.hid hs
        clear hs
        go_wp2_with fail
        refine (fStray x y _ _ HR1).mono ?_
        rintro e w1 ⟨rfl, hb1⟩
        have hb2 := hb.trans (hb1.mono hb.size)
        clear hb hb1
        go_wp2
        go_roundw
        case rel => exact ⟨k + 1, by omega, by go_num, HS, hb2⟩
        case measure => simp [intOf]; omega
      · have HS : Hid (r = true) := Lib.hid (by
          have hk2 : k < ps.length := by rw [HL.out]; omega
          rw [← HR.out]
          have e : ps[k] = (x, y) := by
            have := plc_some (List.getElem?_eq_getElem hk2)
            rw [HX.out, HY.out] at this
            exact Prod.ext this.1.symm this.2.symm
          exact List.any_eq_true.2 ⟨_, List.getElem_mem hk2, by rw [e]; exact hs⟩)
        have HR1 := Lib.hid hs
        clear hs
        go_wp2_with fail
        refine (fStray x y _ _ HR1).mono ?_
        rintro e w1 ⟨rfl, hb1⟩
        have hb2 := hb.trans (hb1.mono hb.size)
        clear hb hb1
        go_wp2
        go_ret
        exact ⟨⟨k, rfl, by rw [HS.out]; simp⟩, hb2⟩
    · have HX : Hid (r = false) := Lib.hid (by rw [← HR.out]; have := hno.out; rw [List.take_of_length_le (by rw [HL.out]; omega)] at this; exact this)
      go_wp2
      go_ret
      exact ⟨⟨-1, rfl, by rw [HX.out]; simp⟩, hb⟩

set_option maxHeartbeats 400000 in
theorem containsFunc_stray (A : Option Addr) (n c B : Nat) (ps : List (Int × Int)) (w : World) (hx : Rp w B A n ps) (hB : B ≤ w.heap.size) (hn : n ≤ 1099511627776) (r : Bool) (HR : Hid (ps.any strayB = r)) :
    Calls Try.prog 67 #[.slice A n c, .func (.func 66) #[] #[]] w (RetB w r) := by
  go_enter Try.func67, Try.ntmps67
  go_wp2_with fail
  refine (indexFunc_stray _ _ c _ _ _ hx hB hn _ HR).mono ?_
  rintro e w' ⟨⟨k, rfl, hk⟩, hb⟩
  have HK := Lib.hid hk
  clear hk
  go_wp2
  go_ret
  exact ⟨ret_b HK.out, hb⟩

set_option maxRecDepth 100000 in
set_option maxHeartbeats 2000000 in
theorem fCheckPier (b : Int) (A : Option Addr) (n c : Nat) (ps : List (Int × Int)) (w : World) (hx : Rp w w.heap.size A n ps) (hn : n ≤ 1048576) :
    Calls Try.prog 21 #[.agg #[.int .i64 b, .slice A n c]] w (RetI w (checkPier b ps)) := by
  have HL := Lib.hid hx.len
  obtain ⟨v, hv⟩ : ∃ v, checkPier b ps = v := ⟨_, rfl⟩
  rw [hv]
  have HV := Lib.hid hv
  clear hv
  have hbk := Bk.new w 24 #[.int .i64 b, .slice A n c]
  have hc0 : (w.alloc (.cells #[.int .i64 b, .slice A n c] 24)).cell? ⟨w.heap.size, 0, none⟩ = some (.int .i64 b) := hbk.cell 0
  have hc1 : (w.alloc (.cells #[.int .i64 b, .slice A n c] 24)).cell? ⟨w.heap.size, 1, none⟩ = some (.slice A n c) := hbk.cell 1
  have hb0 : Below w.heap.size w (w.alloc (.cells #[.int .i64 b, .slice A n c] 24)) := (Below.refl _ w).alloc (Nat.le_refl _) _
  have hx0 := hx.alloc (Nat.le_refl _) (.cells #[.int .i64 b, .slice A n c] 24)
  have hlit := (Oi.lit1 (w.alloc (.cells #[.int .i64 b, .slice A n c] 24)) (n : Int)).ri
  rw [World.size_alloc w] at hlit
  obtain ⟨r1, HR1⟩ : ∃ r, Hid ([(n : Int)].any (outB 1 10) = r) := ⟨_, Lib.hid rfl⟩
  obtain ⟨r2, HR2⟩ : ∃ r, Hid ([b].any (outB 0 1000) = r) := ⟨_, Lib.hid rfl⟩
  obtain ⟨r3, HR3⟩ : ∃ r, Hid (ps.any strayB = r) := ⟨_, Lib.hid rfl⟩
  go_enter Try.func21, Try.ntmps21
  go_wp2_with fail
  refine (fWithin _ _ _ _ _ _ _ hlit (by omega) _ HR1).mono ?_
  rintro e w1 ⟨rfl, hb, hs⟩
  clear hs hlit
  have hbk1 := (hbk.alloc (.cells #[.int .i64 (n : Int)] 2)).below hb (by simp; omega)
  have hb1 : Below w.heap.size w w1 := (hb0.alloc hb0.size _).trans (hb.mono (by simp; omega))
  have hx1 := hx.below hb1
  clear hb hb0 hx0 hc0 hc1 hbk
  have hc0 : w1.cell? ⟨w.heap.size, 0, none⟩ = some (.int .i64 b) := hbk1.cell 0
  have hc1 : w1.cell? ⟨w.heap.size, 1, none⟩ = some (.slice A n c) := hbk1.cell 1
  cases r1
  · have HN : Hid (¬ (ps.length < 1 ∨ 10 < ps.length)) := Lib.hid (by
      have h := any_out.1 HR1.out (n : Int) (by simp)
      rw [HL.out]
      omega)
    have hlit := (Oi.lit1 w1 b).ri
    have hbk2 := hbk1.alloc (.cells #[.int .i64 b] 2)
    go_wp2_with fail
    refine (fWithin _ _ _ _ _ _ _ hlit (by omega) _ HR2).mono ?_
    rintro e w2 ⟨rfl, hb, hs⟩
    clear hs hlit
    have hbk3 := hbk2.below hb hbk2.lt
    have hb2 : Below w.heap.size w w2 := (hb1.alloc hb1.size _).trans (hb.mono (by have := hb1.size; simp; omega))
    have hx2 := hx.below hb2
    clear hb hb1 hx1 hc0 hc1 hbk1 hbk2
    have hc0 : w2.cell? ⟨w.heap.size, 0, none⟩ = some (.int .i64 b) := hbk3.cell 0
    have hc1 : w2.cell? ⟨w.heap.size, 1, none⟩ = some (.slice A n c) := hbk3.cell 1
    cases r2
    · go_wp2_with fail
      refine (containsFunc_stray _ _ c _ _ _ hx2 hb2.size (by omega) _ HR3).mono ?_
      rintro e w3 ⟨rfl, hb⟩
      have hbk4 := hbk3.below hb hbk3.lt
      have hb3 : Below w.heap.size w w3 := hb2.trans (hb.mono hb2.size)
      have hx3 := hx.below hb3
      clear hb hb2 hx2 hc0 hc1 hbk3
      have hc0 : w3.cell? ⟨w.heap.size, 0, none⟩ = some (.int .i64 b) := hbk4.cell 0
      have hc1 : w3.cell? ⟨w.heap.size, 1, none⟩ = some (.slice A n c) := hbk4.cell 1
      cases r3
      · have HV2 : Hid ((if (List.range ps.length).any (unruly b ps) = true then 16 else 0) = v) := Lib.hid (by
          have e := HV.out
          unfold checkPier at e
          have e1 : outB 0 1000 b = false := by have := HR2.out; simpa using this
          rw [if_neg HN.out, HR3.out, e1] at e
          simpa using e)
        go_wp2
        go_loopw [4, 29] (fun l i wr => ∃ k : Nat, k ≤ n ∧ i = .int .i64 k ∧ l = .int .i64 (if k = 0 then -1 else plc ps (k - 1)) ∧ Hid ((List.range k).any (unruly b ps) = false) ∧ Below w.heap.size w wr ∧ Bk wr w.heap.size 24 #[.int .i64 b, .slice A n c]) (fun _ i _ => n - (intOf i).toNat)
        case atStart => exact ⟨0, Nat.zero_le _, rfl, rfl, Lib.hid rfl, hb3, hbk4⟩
        case round =>
          clear hb3 hx3 hc0 hc1 hbk4
          obtain ⟨k, hk, rfl, rfl, hno, hb, hbk⟩ := hrel
          have hc0 : wr.cell? ⟨w.heap.size, 0, none⟩ = some (.int .i64 b) := hbk.cell 0
          obtain ⟨l, HLL⟩ : ∃ l : Int, Hid ((if k = 0 then -1 else plc ps (k - 1)) = l) := ⟨_, Lib.hid rfl⟩
          rw [HLL.out]
          by_cases hlt : k < n
          · obtain ⟨ad, rfl, hadb, c1, c2⟩ := (hx.below hb).at2 hlt
            obtain ⟨x, HX⟩ : ∃ x, Hid (plc ps k = x) := ⟨_, Lib.hid rfl⟩
            obtain ⟨y, HY⟩ : ∃ y, Hid (too ps k = y) := ⟨_, Lib.hid rfl⟩
            rw [HX.out] at c1
            rw [HY.out] at c2
            have hc0' : (wr.alloc (.cells #[.int .i64 x, .int .i64 y] 67)).cell? ⟨w.heap.size, 0, none⟩ = some (.int .i64 b) := (hbk.alloc _).cell 0
            have hb' := hb.alloc hb.size (.cells #[.int .i64 x, .int .i64 y] 67)
            have hbk' := hbk.alloc (.cells #[.int .i64 x, .int .i64 y] 67)
            have HU : Hid (unruly b ps k = (decide (x = b) || (decide (0 < k) && decide (x ≤ plc ps (k - 1))))) := Lib.hid (by unfold unruly; rw [HX.out])
            have HBX : 0 ≤ x := by
              have h := List.any_eq_false.1 HR3.out _ (List.getElem_mem (show k < ps.length by rw [HL.out]; exact hlt))
              rw [Bool.not_eq_true, strayB_false] at h
              have := (plc_some (List.getElem?_eq_getElem (show k < ps.length by rw [HL.out]; exact hlt))).1
              rw [HX.out] at this
              omega
            have HBAD : Hid (unruly b ps k = true → 16 = v) := Lib.hid fun h => by
              rw [← HV2.out, if_pos]
              exact List.any_eq_true.2 ⟨k, List.mem_range.2 (by rw [HL.out]; exact hlt), h⟩
            by_cases h1 : x ≤ l
            · have HE : Hid (16 = v) := Lib.hid (HBAD.out (by
                rw [HU.out]
                have := HLL.out
                split at this
                · omega
                · have h0 : 0 < k := by omega
                  simp [h0]
                  right
                  omega))
              go_wp2
              go_ret
              exact ⟨ret_i HE.out, hb'⟩
            · by_cases h2 : x = b
              · have HE : Hid (16 = v) := Lib.hid (HBAD.out (by rw [HU.out]; simp [h2]))
                subst h2
                go_wp2
                go_ret
                exact ⟨ret_i HE.out, hb'⟩
              · have HE : Hid ((List.range (k + 1)).any (unruly b ps) = false) := Lib.hid (by
                  rw [List.range_succ, List.any_append, hno.out]
                  have h3 : unruly b ps k = false := by
                    rw [HU.out]
                    have := HLL.out
                    split at this
                    · simp [h2]; omega
                    · simp [h2]; omega
                  simp [h3])
                go_wp2
                go_roundw
                case rel => exact ⟨k + 1, by omega, by go_num, by rw [if_neg (by omega), Nat.add_sub_cancel, HX.out], HE, hb', hbk'⟩
                case measure => simp [intOf]; omega
          · obtain rfl : k = n := by omega
            have HE : Hid (0 = v) := Lib.hid (by rw [← HV2.out, HL.out, hno.out]; rfl)
            go_wp2
            go_ret
            exact ⟨ret_i HE.out, hb⟩
      · have HE : Hid (3 = v) := Lib.hid (by
          have e := HV.out
          unfold checkPier at e
          rw [if_neg HN.out, HR3.out] at e
          simpa using e)
        go_wp2
        go_ret
        exact ⟨ret_i HE.out, hb3⟩
    · have HE : Hid (3 = v) := Lib.hid (by
        have e := HV.out
        unfold checkPier at e
        have e1 : outB 0 1000 b = true := by have := HR2.out; simpa using this
        rw [if_neg HN.out, e1] at e
        simpa using e)
      go_wp2
      go_ret
      exact ⟨ret_i HE.out, hb2⟩
  · have HE : Hid (6 = v) := Lib.hid (by
      have e := HV.out
      unfold checkPier at e
      have e1 : outB 1 10 (n : Int) = true := by have := HR1.out; simpa using this
      rw [if_pos] at e
      · exact e
      · rw [HL.out]
        unfold outB at e1
        rw [Bool.or_eq_true, decide_eq_true_eq, decide_eq_true_eq] at e1
        omega)
    go_wp2
    go_ret
    exact ⟨ret_i HE.out, hb1⟩
end Go.Proofs.Ytaekjnjignlmoaa

namespace Go.Proofs.Ytaekjnjignlmoaa
open Go.RowKit Go.Shelf

set_option maxHeartbeats 400000 in
theorem fFar (a b : Int) (w : World) (ha : 0 ≤ a ∧ a ≤ 100000) (hb : 0 ≤ b ∧ b ≤ 100000) :
    Calls Try.prog 102 #[.int .i64 a, .int .i64 b] w fun e w' => e = .returned (.int .i64 (far a b)) ∧ w = w' := by
  obtain ⟨ha0, ha1⟩ := ha
  obtain ⟨hb0, hb1⟩ := hb
  have h1 : IntKind.i64.wrap (a - b) = a - b := IntWalk.i64_in _ (by omega)
  have h2 : IntKind.i64.wrap (b - a) = b - a := IntWalk.i64_in _ (by omega)
  obtain ⟨v, hv⟩ : ∃ v, far a b = v := ⟨_, rfl⟩
  rw [hv]
  have HV := Lib.hid hv
  clear hv
  by_cases h : a - b < b - a
  · have HE : Hid (b - a = v) := Lib.hid (by rw [← HV.out]; unfold far; rw [if_pos (by omega)])
    go_enter Try.func102, Try.ntmps102
    go_wp2
    go_ret
    exact ⟨ret_i HE.out, rfl⟩
  · have HE : Hid (a - b = v) := Lib.hid (by rw [← HV.out]; unfold far; split <;> omega)
    go_enter Try.func102, Try.ntmps102
    go_wp2
    go_ret
    exact ⟨ret_i HE.out, rfl⟩

/-- What 'newWalk' comes to. -/
def NewR (b : Int) (A : Option Addr) (n c : Nat) (ps : List (Int × Int)) (w : World) (v : Addr → Value) (e : Ending) (w' : World) : Prop :=
  ∃ g : Nat, e = .returned (v ⟨g, 0, none⟩) ∧ Wk w' w'.heap.size g A n c b ps ∧ w.heap.size ≤ g ∧ Below w.heap.size w w'

set_option maxRecDepth 100000 in
set_option maxHeartbeats 1000000 in
theorem fNewWalk (b : Int) (A : Option Addr) (n c : Nat) (ps : List (Int × Int)) (w : World) (hx : Rp w w.heap.size A n ps) (hn : n ≤ 1048576) (hc : n ≤ c) :
    Calls Try.prog 98 #[.agg #[.int .i64 b, .slice A n c]] w (NewR b A n c ps w fun a => .pointer (some a)) := by
  have HL := Lib.hid hx.len
  have hbk0 := Bk.new w 24 #[.int .i64 b, .slice A n c]
  have hc0 : (w.alloc (.cells #[.int .i64 b, .slice A n c] 24)).cell? ⟨w.heap.size, 0, none⟩ = some (.int .i64 b) := hbk0.cell 0
  have hc1 : (w.alloc (.cells #[.int .i64 b, .slice A n c] 24)).cell? ⟨w.heap.size, 1, none⟩ = some (.slice A n c) := hbk0.cell 1
  have hbk := Bk.new (w.alloc (.cells #[.int .i64 b, .slice A n c] 24)) 101 #[.int .i64 b, .slice A n c, .int .i64 0]
  have hb0 : Below w.heap.size w ((w.alloc (.cells #[.int .i64 b, .slice A n c] 24)).alloc (.cells #[.int .i64 b, .slice A n c, .int .i64 0] 101)) := ((Below.refl _ w).alloc (Nat.le_refl _) _).alloc (by simp) _
  rw [World.size_alloc w] at hbk
  have hd1 : ((w.alloc (.cells #[.int .i64 b, .slice A n c] 24)).alloc (.cells #[.int .i64 b, .slice A n c, .int .i64 0] 101)).cell? ⟨w.heap.size + 1, 1, none⟩ = some (.slice A n c) := hbk.cell 1
  go_enter Try.func98, Try.ntmps98
  go_wp2
  go_loopw [15] (fun i wr => ∃ k : Nat, k ≤ n ∧ i = .int .i64 k ∧ Below w.heap.size w wr ∧ w.heap.size + 2 ≤ wr.heap.size ∧ Bk wr (w.heap.size + 1) 101 #[.int .i64 b, .slice A n c, .int .i64 (leftsTo b ps k : Nat)]) (fun i _ => n - (intOf i).toNat)
  case atStart => exact ⟨0, Nat.zero_le _, rfl, hb0, by simp, hbk⟩
  case round =>
    clear hb0 hbk hd1 hc0 hc1 hbk0
    obtain ⟨k, hk, rfl, hb, hsz, hbk⟩ := hrel
    have hd0 : wr.cell? ⟨w.heap.size + 1, 0, none⟩ = some (.int .i64 b) := hbk.cell 0
    by_cases hlt : k < n
    · obtain ⟨ad, rfl, hadb, c1, c2⟩ := (hx.below hb).at2 hlt
      have hkl := leftsTo_le b ps k
      obtain ⟨x, HX⟩ : ∃ x, Hid (plc ps k = x) := ⟨_, Lib.hid rfl⟩
      obtain ⟨y, HY⟩ : ∃ y, Hid (too ps k = y) := ⟨_, Lib.hid rfl⟩
      rw [HX.out] at c1
      rw [HY.out] at c2
      obtain ⟨q, HQ⟩ : ∃ q : Nat, Hid (leftsTo b ps k = q) := ⟨_, Lib.hid rfl⟩
      have HSU : Hid (leftsTo b ps (k + 1) = q + if x < b then 1 else 0) := Lib.hid (by
        have hk2 : k < ps.length := by rw [HL.out]; exact hlt
        have h2 := plc_some (List.getElem?_eq_getElem hk2)
        rw [leftsTo_succ (List.getElem?_eq_getElem hk2), ← h2.1, HX.out, HQ.out])
      rw [HQ.out] at hbk hkl
      have hbk1 := hbk.alloc (.cells #[.int .i64 x, .int .i64 y] 67)
      have hb1 := hb.alloc hb.size (.cells #[.int .i64 x, .int .i64 y] 67)
      have hd0' : (wr.alloc (.cells #[.int .i64 x, .int .i64 y] 67)).cell? ⟨w.heap.size + 1, 0, none⟩ = some (.int .i64 b) := hbk1.cell 0
      have hd2' : (wr.alloc (.cells #[.int .i64 x, .int .i64 y] 67)).cell? ⟨w.heap.size + 1, 2, none⟩ = some (.int .i64 (q : Nat)) := hbk1.cell 2
      have hf2' : (wr.alloc (.cells #[.int .i64 x, .int .i64 y] 67)).frozen? ⟨w.heap.size + 1, 2, none⟩ = false := hbk1.frozen 2
      have hs0' : (wr.alloc (.cells #[.int .i64 x, .int .i64 y] 67)).cell? ⟨wr.heap.size, 0, none⟩ = some (.int .i64 x) := (Bk.new wr _ _).cell 0
      by_cases hlb : x < b
      · go_wp2
        go_quiet (fail)
        go_wp2
        have hbk2 := Bk.set_ (W := (wr.alloc (.cells #[.int .i64 x, .int .i64 y] 67)).drewN nq) (k := w.heap.size + 1) hbk1 2 (.int .i64 ((q : Int) + 1))
        have hb2 := (below_drewN hb1 nq).setCell (p := ⟨w.heap.size + 1, 2, none⟩) (by simp) (.int .i64 ((q : Int) + 1))
        have HQ2 : Hid (leftsTo b ps (k + 1) = q + 1) := Lib.hid (by rw [HSU.out, if_pos hlb])
        go_roundw
        case rel =>
          refine ⟨k + 1, by omega, by go_num, ?_, ?_, ?_⟩
          · exact hb2
          · simp; omega
          · rw [HQ2.out]
            exact hbk2
        case measure => simp [intOf]; omega
      · have HQ2 : Hid (leftsTo b ps (k + 1) = q) := Lib.hid (by rw [HSU.out, if_neg hlb]; rfl)
        go_wp2
        go_quiet (fail)
        go_wp2
        go_roundw
        case rel =>
          refine ⟨k + 1, by omega, by go_num, below_drewN hb1 nq, by simp; omega, ?_⟩
          rw [HQ2.out]
          exact hbk1
        case measure => simp [intOf]; omega
    · obtain rfl : k = n := by omega
      have HE : Hid (leftsTo b ps k = lefts b ps) := Lib.hid (leftsTo_all (by rw [HL.out]; omega))
      rw [HE.out] at hbk
      go_wp2
      go_ret
      exact ⟨w.heap.size + 1, rfl, ⟨hbk, by omega, (hx.below hb).more hb.size, hc⟩, by omega, hb⟩

set_option maxRecDepth 100000 in
set_option maxHeartbeats 1000000 in
theorem fOpen_ok (b : Int) (A : Option Addr) (n c : Nat) (ps : List (Int × Int)) (w : World) (hx : Rp w w.heap.size A n ps) (hn : n ≤ 1048576) (hc : n ≤ c) (HP : Hid (checkPier b ps = 0)) :
    Calls Try.prog 57 #[.agg #[.int .i64 b, .slice A n c]] w (NewR b A n c ps w fun a => .tuple #[.pointer (some a), .int .i64 0]) := by
  have hbk0 := Bk.new w 24 #[.int .i64 b, .slice A n c]
  have hc0 : (w.alloc (.cells #[.int .i64 b, .slice A n c] 24)).cell? ⟨w.heap.size, 0, none⟩ = some (.int .i64 b) := hbk0.cell 0
  have hc1 : (w.alloc (.cells #[.int .i64 b, .slice A n c] 24)).cell? ⟨w.heap.size, 1, none⟩ = some (.slice A n c) := hbk0.cell 1
  have hb0 : Below w.heap.size w (w.alloc (.cells #[.int .i64 b, .slice A n c] 24)) := (Below.refl _ w).alloc (Nat.le_refl _) _
  have hx0 := hx.next hb0 (Nat.le_refl _) hb0.size
  go_enter Try.func57, Try.ntmps57
  go_wp2_with fail
  refine (fCheckPier b A n c ps _ hx0 hn).mono ?_
  rintro e w1 ⟨rfl, hb⟩
  rw [HP.out]
  have hb1 : Below w.heap.size w w1 := hb0.trans (hb.mono (by simp))
  have hbk1 := hbk0.below hb (by simp)
  have hd0 : w1.cell? ⟨w.heap.size, 0, none⟩ = some (.int .i64 b) := hbk1.cell 0
  have hd1 : w1.cell? ⟨w.heap.size, 1, none⟩ = some (.slice A n c) := hbk1.cell 1
  clear hb hb0 hx0 hbk0 hc0 hc1
  go_wp2_with fail
  refine (fNewWalk b A n c ps _ (hx.next hb1 (Nat.le_refl _) hb1.size) hn hc).mono ?_
  rintro e w2 ⟨g, rfl, hw, hg, hb2⟩
  go_wp2
  go_ret2
  exact ⟨g, rfl, hw, Nat.le_trans hb1.size hg, hb1.trans (hb2.mono hb1.size)⟩

set_option maxRecDepth 100000 in
set_option maxHeartbeats 1000000 in
theorem fOpen_err (b : Int) (A : Option Addr) (n c : Nat) (ps : List (Int × Int)) (w : World) (hx : Rp w w.heap.size A n ps) (hn : n ≤ 1048576) (q : Int) (HP : Hid (checkPier b ps = q)) (hq : ¬ q = 0) :
    Calls Try.prog 57 #[.agg #[.int .i64 b, .slice A n c]] w fun e w' => e = .returned (.tuple #[.pointer none, .int .i64 q]) ∧ Below w.heap.size w w' := by
  have hbk0 := Bk.new w 24 #[.int .i64 b, .slice A n c]
  have hc0 : (w.alloc (.cells #[.int .i64 b, .slice A n c] 24)).cell? ⟨w.heap.size, 0, none⟩ = some (.int .i64 b) := hbk0.cell 0
  have hc1 : (w.alloc (.cells #[.int .i64 b, .slice A n c] 24)).cell? ⟨w.heap.size, 1, none⟩ = some (.slice A n c) := hbk0.cell 1
  have hb0 : Below w.heap.size w (w.alloc (.cells #[.int .i64 b, .slice A n c] 24)) := (Below.refl _ w).alloc (Nat.le_refl _) _
  have hx0 := hx.next hb0 (Nat.le_refl _) hb0.size
  go_enter Try.func57, Try.ntmps57
  go_wp2_with fail
  refine (fCheckPier b A n c ps _ hx0 hn).mono ?_
  rintro e w1 ⟨rfl, hb⟩
  rw [HP.out]
  have hb1 : Below w.heap.size w w1 := hb0.trans (hb.mono (by simp))
  go_wp2
  go_ret2
  exact ⟨rfl, hb1⟩
end Go.Proofs.Ytaekjnjignlmoaa
