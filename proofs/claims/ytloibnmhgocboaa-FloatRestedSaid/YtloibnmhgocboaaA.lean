/-
  The program: 'within', 'CheckCoins'.
-/
import Derived.Test.YtloibnmhgocboaaBase
import Derived.Test.YtloibnmhgocboaaPS
import Derived.Test.YtloibnmhgocboaaPost
import Derived.Lib.SliceRun
namespace Go.Proofs.Ytloibnmhgocboaa
open Go.RowKit

theorem add_succ (ad : Addr) (k : Nat) : ad.add (k + 1) = ⟨ad.block, ad.off + 1 + k, none⟩ := by
  unfold Addr.add
  rw [if_neg (by omega), Nat.add_assoc, Nat.add_comm 1 k]
theorem outB_false {lo hi x : Int} : outB lo hi x = false ↔ lo ≤ x ∧ x ≤ hi := by simp [outB]
set_option maxHeartbeats 400000 in
theorem fWithin1 (x lo hi : Int) (a b : Addr) (w : World) (ha : w.cell? a = some (.int .i64 lo)) (hb : w.cell? b = some (.int .i64 hi)) :
    Calls Try.prog 81 #[.int .i64 x, .pointer (some a), .pointer (some b)] w fun e w' => e = .returned (.bool (outB lo hi x)) ∧ w = w' := by
  by_cases h1 : x < lo
  · go_enter Try.func81, Try.ntmps81
    go_wp2
    go_ret
    exact ⟨ret_b (by simp [outB, h1]), rfl⟩
  · by_cases h2 : hi < x
    · go_enter Try.func81, Try.ntmps81
      go_wp2
      go_ret
      exact ⟨ret_b (by simp [outB, h2]), rfl⟩
    · go_enter Try.func81, Try.ntmps81
      go_wp2
      go_ret
      exact ⟨ret_b (by symm; rw [outB_false]; omega), rfl⟩

set_option maxHeartbeats 400000 in
theorem indexFunc_within (lo hi : Int) (a b : Addr) (A : Option Addr) (n c B : Nat) (xs : List Int) (w : World) (ha : w.cell? a = some (.int .i64 lo)) (hb : w.cell? b = some (.int .i64 hi))
    (hx : Ri w B A n xs) (hn : n ≤ 1099511627776) (r : Bool) (HR : Hid (xs.any (outB lo hi) = r)) :
    Calls Try.prog 85 #[.slice A n c, .func (.func 81) #[] #[.pointer (some a), .pointer (some b)]] w fun e w' => (∃ k : Int, e = .returned (.int .i64 k) ∧ decide (0 ≤ k) = r) ∧ w = w' := by
  have HL := Lib.hid hx.len
  go_enter Try.func85, Try.ntmps85
  go_wp2
  go_loop [5, 8] (fun _ i => ∃ k : Nat, k ≤ n ∧ i = .int .i64 k ∧ Hid ((xs.take k).any (outB lo hi) = false)) (fun _ i => n - (intOf i).toNat)
  case atStart => exact ⟨0, Nat.zero_le _, rfl, Lib.hid rfl⟩
  case round =>
    obtain ⟨k, hk, rfl, hno⟩ := hrel
    by_cases hlt : k < n
    · obtain ⟨ad, x, rfl, _, hc, hxk, _⟩ := hx.at_ hlt
      cases hout : outB lo hi x
      · have HX : Hid ((xs.take (k + 1)).any (outB lo hi) = false) := Lib.hid (by rw [take_snoc hxk.out, List.any_append, hno.out]; simp [hout])
        have HO := Lib.hid hout
        clear hout
        go_wp2_with (go_at_call 81; refine (fWithin1 _ _ _ _ _ _ ha hb).mono ?_; rintro e w' ⟨rfl, rfl⟩; rw [HO.out])
        go_round
        case rel => exact ⟨k + 1, by omega, by go_num, HX⟩
        case measure => simp [intOf]; omega
      · have HX : Hid (r = true) := Lib.hid (by rw [← HR.out]; exact List.any_eq_true.2 ⟨x, List.mem_of_getElem? hxk.out, hout⟩)
        have HO := Lib.hid hout
        clear hout
        go_wp2_with (go_at_call 81; refine (fWithin1 _ _ _ _ _ _ ha hb).mono ?_; rintro e w' ⟨rfl, rfl⟩; rw [HO.out])
        go_ret
        exact ⟨⟨k, rfl, by rw [HX.out]; simp⟩, rfl⟩
    · have HX : Hid (r = false) := Lib.hid (by rw [← HR.out]; have := hno.out; rw [List.take_of_length_le (by rw [HL.out]; omega)] at this; exact this)
      go_wp2
      go_ret
      exact ⟨⟨-1, rfl, by rw [HX.out]; simp⟩, rfl⟩

set_option maxHeartbeats 400000 in
theorem containsFunc_within (lo hi : Int) (a b : Addr) (A : Option Addr) (n c B : Nat) (xs : List Int) (w : World) (ha : w.cell? a = some (.int .i64 lo)) (hb : w.cell? b = some (.int .i64 hi))
    (hx : Ri w B A n xs) (hn : n ≤ 1099511627776) (r : Bool) (HR : Hid (xs.any (outB lo hi) = r)) :
    Calls Try.prog 80 #[.slice A n c, .func (.func 81) #[] #[.pointer (some a), .pointer (some b)]] w fun e w' => e = .returned (.bool r) ∧ w = w' := by
  go_enter Try.func80, Try.ntmps80
  go_wp2_with (go_at_call 85; refine (indexFunc_within _ _ _ _ _ _ _ _ _ _ ha hb hx hn _ HR).mono ?_; rintro e w' ⟨⟨k, rfl, hk⟩, rfl⟩; have HK := Lib.hid hk; clear hk)
  go_ret
  exact ⟨ret_b HK.out, rfl⟩

set_option maxHeartbeats 400000 in
theorem fWithin (lo hi : Int) (A : Option Addr) (n c : Nat) (xs : List Int) (w : World) (hx : Ri w w.heap.size A n xs) (hn : n ≤ 1099511627776) (r : Bool) (HR : Hid (xs.any (outB lo hi) = r)) :
    Calls Try.prog 60 #[.int .i64 lo, .int .i64 hi, .slice A n c] w fun e w' => e = .returned (.bool (!r)) ∧ Below w.heap.size w w' ∧ w'.heap.size = w.heap.size + 2 := by
  have ha : ((w.alloc (.cells #[.int .i64 lo] 2)).alloc (.cells #[.int .i64 hi] 2)).cell? ⟨w.heap.size, 0, none⟩ = some (.int .i64 lo) := (World.cell?_alloc_lt _ _ _ (by simp)).trans (cell_new1 _ _ _)
  have hb : ((w.alloc (.cells #[.int .i64 lo] 2)).alloc (.cells #[.int .i64 hi] 2)).cell? ⟨w.heap.size + 1, 0, none⟩ = some (.int .i64 hi) := by
    simp
  have hx2 : Ri ((w.alloc (.cells #[.int .i64 lo] 2)).alloc (.cells #[.int .i64 hi] 2)) w.heap.size A n xs := (hx.alloc (Nat.le_refl _) _).alloc (by simp) _
  go_enter Try.func60, Try.ntmps60
  go_wp2_with (go_at_call 80; refine (containsFunc_within _ _ _ _ _ _ _ _ _ _ ha hb hx2 hn _ HR).mono ?_; rintro e w' ⟨rfl, rfl⟩)
  go_ret
  exact ⟨rfl, ((Below.refl _ w).alloc (Nat.le_refl _) _).alloc (by simp) _, by simp⟩

set_option maxHeartbeats 1000000 in
theorem fCheckCoins (A : Option Addr) (n c : Nat) (cs : List Int) (w : World) (hx : Ri w w.heap.size A n cs) (hn : n ≤ 1099511627776) (hc : n ≤ c) (r : Int) (HR : Hid (checkCoins cs = r)) :
    Calls Try.prog 22 #[.slice A n c] w (RetI w r) := by
  have HL := Lib.hid hx.len
  have hlit := (Oi.lit1 w (n : Int)).ri
  have hbe : ∀ w1, Below (w.heap.size + 1) (w.alloc (.cells #[.int .i64 (n : Int)] 2)) w1 → Below w.heap.size w w1 := fun w1 hb => ((Below.refl _ w).alloc (Nat.le_refl _) _).trans (hb.mono (by omega))
  have HBE := Lib.hid hbe
  clear hbe
  by_cases h1 : n < 1 ∨ 5 < n
  · have HE : Hid (r = 6) := Lib.hid (HR.out.symm.trans (by unfold checkCoins; rw [if_pos (by rw [HL.out]; omega)]))
    have HB : Hid ([(n : Int)].any (outB 1 5) = true) := Lib.hid (by simp [outB]; omega)
    go_enter Try.func22, Try.ntmps22
    go_wp2_with (go_at_call 60; refine (fWithin _ _ _ _ _ _ _ hlit (by omega) _ HB).mono ?_; rintro e w1 ⟨rfl, hb, hs⟩; clear hs)
    have hb1 := HBE.out w1 (by simpa using hb)
    go_ret
    exact ⟨ret_i HE.out.symm, hb1⟩
  · have HB : Hid ([(n : Int)].any (outB 1 5) = false) := Lib.hid (by simp [outB]; omega)
    have hn1 : 1 ≤ n := by omega
    have hn5 : n ≤ 5 := by omega
    have HN : Hid (¬ (cs.length < 1 ∨ 5 < cs.length)) := Lib.hid (by rw [HL.out]; omega)
    clear h1
    obtain ⟨b, HBB⟩ : ∃ b, Hid (cs.any (outB 1 50) = b) := ⟨_, Lib.hid rfl⟩
    cases b
    · obtain ⟨ad, x0, rfl, hadb, hc0, _, _⟩ := hx.at_ (k := 0) (by omega)
      go_enter Try.func22, Try.ntmps22
      go_wp2_with fail
      refine (fWithin _ _ _ _ _ _ _ hlit (by omega) _ HB).mono ?_
      rintro e w1 ⟨rfl, hb, hs⟩
      clear hs
      have hb1 := HBE.out w1 (by simpa using hb)
      clear hb
      go_wp2_with fail
      refine (fWithin _ _ _ _ _ _ _ ((hx.below hb1).more hb1.size) hn _ HBB).mono ?_
      rintro e w2 ⟨rfl, hb2, hs2⟩
      clear hs2
      have hb3 := hb1.trans (hb2.mono hb1.size)
      have hx3 := (hx.below hb3)
      clear hb1 hb2
      by_cases hc1 : c = 1
      · obtain rfl : n = 1 := by omega
        subst hc1
        have HE : Hid (r = 0) := Lib.hid (HR.out.symm.trans (by
          unfold checkCoins
          rw [if_neg HN.out, HBB.out, if_neg (by decide), if_pos]
          rw [ascB_iff, HL.out]
          intro i hi
          omega))
        go_wp2
        go_loop [18] (fun i => i = .int .i64 0) (fun i => 1)
        case atStart => rfl
        case round =>
          subst hrel
          go_wp2
          go_ret
          exact ⟨ret_i HE.out.symm, hb3⟩
      · have hc2 : 1 < c := by omega
        go_wp2
        go_loop [18] (fun i => ∃ k : Nat, k ≤ n - 1 ∧ i = .int .i64 k ∧ Hid (∀ j : Nat, j < k → nth cs j < nth cs (j + 1))) (fun i => n - (intOf i).toNat)
        case atStart => exact ⟨0, Nat.zero_le _, rfl, Lib.hid (fun j hj => absurd hj (Nat.not_lt_zero j))⟩
        case round =>
          obtain ⟨k, hk, rfl, hasc⟩ := hrel
          by_cases hlt : k < n - 1
          · obtain ⟨ad1, x, hA1, _, cx, hxk, _⟩ := hx3.at_ (k := k) (by omega)
            obtain ⟨ad2, y, hA2, _, cy, hyk, _⟩ := hx3.at_ (k := k + 1) (by omega)
            cases hA1
            cases hA2
            have cy' : w2.cell? ⟨ad.block, ad.off + 1 + k, none⟩ = some (.int .i64 y) := by rw [← add_succ]; exact cy
            clear cy
            have HX : Hid (nth cs k = x ∧ nth cs (k + 1) = y) := Lib.hid ⟨nth_some hxk.out, nth_some hyk.out⟩
            by_cases hle : y ≤ x
            · have HE : Hid (r = 2) := Lib.hid (HR.out.symm.trans (by
                unfold checkCoins
                rw [if_neg HN.out, HBB.out, if_neg (by decide), if_neg]
                rw [ascB_iff]
                intro h
                have := h k (by rw [HL.out]; omega)
                rw [HX.out.1, HX.out.2] at this
                omega))
              go_wp2
              go_ret
              exact ⟨ret_i HE.out.symm, hb3⟩
            · have HX2 : Hid (∀ j : Nat, j < k + 1 → nth cs j < nth cs (j + 1)) := Lib.hid (fun j hj => by
                rcases Nat.lt_or_ge j k with h | h
                · exact hasc.out j h
                · obtain rfl : j = k := by omega
                  rw [HX.out.1, HX.out.2]
                  omega)
              go_wp2
              go_round
              case rel => exact ⟨k + 1, by omega, by go_num, HX2⟩
              case measure => simp [intOf]; omega
          · have HE : Hid (r = 0) := Lib.hid (HR.out.symm.trans (by
              unfold checkCoins
              rw [if_neg HN.out, HBB.out, if_neg (by decide), if_pos]
              rw [ascB_iff, HL.out]
              intro i hi
              exact hasc.out i (by omega)))
            go_wp2
            go_ret
            exact ⟨ret_i HE.out.symm, hb3⟩
    · have HE : Hid (r = 3) := Lib.hid (HR.out.symm.trans (by unfold checkCoins; rw [if_neg HN.out, HBB.out, if_pos rfl]))
      go_enter Try.func22, Try.ntmps22
      go_wp2_with fail
      refine (fWithin _ _ _ _ _ _ _ hlit (by omega) _ HB).mono ?_
      rintro e w1 ⟨rfl, hb, hs⟩
      clear hs
      have hb1 := HBE.out w1 (by simpa using hb)
      go_wp2_with fail
      refine (fWithin _ _ _ _ _ _ _ ((hx.below hb1).more hb1.size) hn _ HBB).mono ?_
      rintro e w2 ⟨rfl, hb2, hs2⟩
      clear hs2
      go_wp2_with fail
      go_ret
      exact ⟨ret_i HE.out.symm, hb1.trans (hb2.mono hb1.size)⟩
end Go.Proofs.Ytloibnmhgocboaa
