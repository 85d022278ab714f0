/-
  skill: 'within', 'rising'.
-/
import Derived.Test.YtibmpjhffeinoaaGreatKw
import Derived.Lib.SliceRun
namespace Go.Proofs.YtibmpjhffeinoaaGreat
open Go.RowKit

def outB (lo hi x : Int) : Bool := decide (x < lo) || decide (hi < x)
theorem outB_false {lo hi x : Int} : outB lo hi x = false ↔ lo ≤ x ∧ x ≤ hi := by
  unfold outB
  simp
theorem take_snoc {α : Type} {xs : List α} {k : Nat} {x : α} (h : xs[k]? = some x) : xs.take (k + 1) = xs.take k ++ [x] := by
  rw [List.take_add_one, h]
  rfl
theorem add_succ (ad : Addr) (k : Nat) : ad.add (k + 1) = ⟨ad.block, ad.off + 1 + k, none⟩ := by
  unfold Addr.add
  rw [if_neg (by omega), Nat.add_assoc, Nat.add_comm 1 k]
set_option maxHeartbeats 400000 in
theorem fWithin1 (x lo hi : Int) (a b : Addr) (w : World) (ha : w.cell? a = some (.int .i64 lo)) (hb : w.cell? b = some (.int .i64 hi)) :
    Calls Tryz.prog 172 #[.int .i64 x, .pointer (some a), .pointer (some b)] w fun e w' => e = .returned (.bool (outB lo hi x)) ∧ w = w' := by
  by_cases h1 : x < lo
  · go_enter Tryz.func172, Tryz.ntmps172
    go_wp2
    go_ret
    exact ⟨ret_b (by simp [outB, h1]), rfl⟩
  · by_cases h2 : hi < x
    · go_enter Tryz.func172, Tryz.ntmps172
      go_wp2
      go_ret
      exact ⟨ret_b (by simp [outB, h2]), rfl⟩
    · go_enter Tryz.func172, Tryz.ntmps172
      go_wp2
      go_ret
      exact ⟨ret_b (by symm; rw [outB_false]; omega), rfl⟩

set_option maxHeartbeats 400000 in
theorem indexFunc_within (lo hi : Int) (a b : Addr) (A : Option Addr) (n c B : Nat) (xs : List Int) (w : World) (ha : w.cell? a = some (.int .i64 lo)) (hb : w.cell? b = some (.int .i64 hi))
    (hx : Ri w B A n xs) (hn : n ≤ 1099511627776) (r : Bool) (HR : Hid (xs.any (outB lo hi) = r)) :
    Calls Tryz.prog 283 #[.slice A n c, .func (.func 172) #[] #[.pointer (some a), .pointer (some b)]] w fun e w' => (∃ k : Int, e = .returned (.int .i64 k) ∧ decide (0 ≤ k) = r) ∧ w = w' := by
  have HL := Lib.hid hx.len
  go_enter Tryz.func283, Tryz.ntmps283
  go_wp2
  go_loop [5, 8] (fun _ i => ∃ k : Nat, k ≤ n ∧ i = .int .i64 k ∧ Hid ((xs.take k).any (outB lo hi) = false)) (fun _ i => n - (intOf i).toNat)
  case atStart => exact ⟨0, Nat.zero_le _, rfl, Lib.hid rfl⟩
  case round =>
    obtain ⟨k, hk, rfl, hno⟩ := hrel
    by_cases hlt : k < n
    · obtain ⟨ad, x, rfl, _, hc, hxk, _⟩ := hx.at_ hlt
      cases hout : outB lo hi x
      · have HX : Hid ((xs.take (k + 1)).any (outB lo hi) = false) := Lib.hid (by rw [take_snoc hxk.out, List.any_append, hno.out]; simp [hout])
        have HO := Lib.hid hout
        clear hout
        go_wp2_with (go_at_call 172; refine (fWithin1 _ _ _ _ _ _ ha hb).mono ?_; rintro e w' ⟨rfl, rfl⟩; rw [HO.out])
        go_round
        case rel => exact ⟨k + 1, by omega, by go_num, HX⟩
        case measure => simp [intOf]; omega
      · have HX : Hid (r = true) := Lib.hid (by rw [← HR.out]; exact List.any_eq_true.2 ⟨x, List.mem_of_getElem? hxk.out, hout⟩)
        have HO := Lib.hid hout
        clear hout
        go_wp2_with (go_at_call 172; refine (fWithin1 _ _ _ _ _ _ ha hb).mono ?_; rintro e w' ⟨rfl, rfl⟩; rw [HO.out])
        go_ret
        exact ⟨⟨k, rfl, by rw [HX.out]; simp⟩, rfl⟩
    · have HX : Hid (r = false) := Lib.hid (by rw [← HR.out]; have := hno.out; rw [List.take_of_length_le (by rw [HL.out]; omega)] at this; exact this)
      go_wp2
      go_ret
      exact ⟨⟨-1, rfl, by rw [HX.out]; simp⟩, rfl⟩

set_option maxHeartbeats 400000 in
theorem containsFunc_within (lo hi : Int) (a b : Addr) (A : Option Addr) (n c B : Nat) (xs : List Int) (w : World) (ha : w.cell? a = some (.int .i64 lo)) (hb : w.cell? b = some (.int .i64 hi))
    (hx : Ri w B A n xs) (hn : n ≤ 1099511627776) (r : Bool) (HR : Hid (xs.any (outB lo hi) = r)) :
    Calls Tryz.prog 156 #[.slice A n c, .func (.func 172) #[] #[.pointer (some a), .pointer (some b)]] w fun e w' => e = .returned (.bool r) ∧ w = w' := by
  go_enter Tryz.func156, Tryz.ntmps156
  go_wp2_with (go_at_call 283; refine (indexFunc_within _ _ _ _ _ _ _ _ _ _ ha hb hx hn _ HR).mono ?_; rintro e w' ⟨⟨k, rfl, hk⟩, rfl⟩; have HK := Lib.hid hk; clear hk)
  go_ret
  exact ⟨ret_b HK.out, rfl⟩

set_option maxHeartbeats 400000 in
theorem fWithin (lo hi : Int) (A : Option Addr) (n c : Nat) (xs : List Int) (w : World) (hx : Ri w w.heap.size A n xs) (hn : n ≤ 1099511627776) (r : Bool) (HR : Hid (xs.any (outB lo hi) = r)) :
    Calls Tryz.prog 74 #[.int .i64 lo, .int .i64 hi, .slice A n c] w fun e w' => e = .returned (.bool (!r)) ∧ Below w.heap.size w w' ∧ w'.heap.size = w.heap.size + 2 := by
  have ha : ((w.alloc (.cells #[.int .i64 lo] 3)).alloc (.cells #[.int .i64 hi] 3)).cell? ⟨w.heap.size, 0, none⟩ = some (.int .i64 lo) := (World.cell?_alloc_lt _ _ _ (by simp)).trans (cell_new1 _ _ _)
  have hb : ((w.alloc (.cells #[.int .i64 lo] 3)).alloc (.cells #[.int .i64 hi] 3)).cell? ⟨w.heap.size + 1, 0, none⟩ = some (.int .i64 hi) := by
    simp
  have hx2 : Ri ((w.alloc (.cells #[.int .i64 lo] 3)).alloc (.cells #[.int .i64 hi] 3)) w.heap.size A n xs := (hx.alloc (Nat.le_refl _) _).alloc (by simp) _
  go_enter Tryz.func74, Tryz.ntmps74
  go_wp2_with (go_at_call 156; refine (containsFunc_within _ _ _ _ _ _ _ _ _ _ ha hb hx2 hn _ HR).mono ?_; rintro e w' ⟨rfl, rfl⟩)
  go_ret
  exact ⟨rfl, ((Below.refl _ w).alloc (Nat.le_refl _) _).alloc (by simp) _, by simp⟩


end Go.Proofs.YtibmpjhffeinoaaGreat
