import Derived.Test.YtkeiajncmhkdmaaBase
import Derived.Test.YtkeiajncmhkdmaaSpec
import Derived.Lib.SliceRun
namespace Go.Proofs.Ytkeiajncmhkdmaa
open Go.RowKit

def outB (lo hi x : Int) : Bool := decide (x < lo) || decide (hi < x)
theorem outB_false {lo hi x : Int} : outB lo hi x = false ↔ lo ≤ x ∧ x ≤ hi := by simp [outB]
set_option maxHeartbeats 400000 in
theorem lWithin1 (x lo hi : Int) (a b : Addr) (w : World) (ha : w.cell? a = some (.int .i64 lo)) (hb : w.cell? b = some (.int .i64 hi)) :
    Calls Try.prog 70 #[.int .i64 x, .pointer (some a), .pointer (some b)] w fun e w' => e = .returned (.bool (outB lo hi x)) ∧ w = w' := by
  by_cases h1 : x < lo
  · go_enter Try.func70, Try.ntmps70
    go_wp2
    go_ret
    exact ⟨ret_b (by simp [outB, h1]), rfl⟩
  · by_cases h2 : hi < x
    · go_enter Try.func70, Try.ntmps70
      go_wp2
      go_ret
      exact ⟨ret_b (by simp [outB, h2]), rfl⟩
    · go_enter Try.func70, Try.ntmps70
      go_wp2
      go_ret
      exact ⟨ret_b (by symm; rw [outB_false]; omega), rfl⟩

set_option maxHeartbeats 400000 in
theorem indexFunc_within (lo hi : Int) (a b : Addr) (A : Option Addr) (n c B : Nat) (xs : List Int) (w : World) (ha : w.cell? a = some (.int .i64 lo)) (hb : w.cell? b = some (.int .i64 hi))
    (hx : Ri w B A n xs) (hn : n ≤ 1099511627776) (r : Bool) (HR : Hid (xs.any (outB lo hi) = r)) :
    Calls Try.prog 73 #[.slice A n c, .func (.func 70) #[] #[.pointer (some a), .pointer (some b)]] w fun e w' => (∃ k : Int, e = .returned (.int .i64 k) ∧ decide (0 ≤ k) = r) ∧ w = w' := by
  have HL := Lib.hid hx.len
  go_enter Try.func73, Try.ntmps73
  go_wp2
  go_loop [5, 8] (fun _ i => ∃ k : Nat, k ≤ n ∧ i = .int .i64 k ∧ Hid ((xs.take k).any (outB lo hi) = false)) (fun _ i => n - (intOf i).toNat)
  case atStart => exact ⟨0, Nat.zero_le _, rfl, Lib.hid rfl⟩
  case round =>
    obtain ⟨k, hk, rfl, hno⟩ := hrel
    by_cases hlt : k < n
    · obtain ⟨ad, x, rfl, _, hc, hxk, _⟩ := hx.at_ hlt
      cases hout : outB lo hi x
      · have HX : Hid ((xs.take (k + 1)).any (outB lo hi) = false) := Lib.hid (by rw [take_snoc hxk.out, List.any_append, hno.out]; simp [hout])
        have HO := Lib.hid hout
        clear hout
        go_wp2_with (go_at_call 70; refine (lWithin1 _ _ _ _ _ _ ha hb).mono ?_; rintro e w' ⟨rfl, rfl⟩; rw [HO.out])
        go_round
        case rel => exact ⟨k + 1, by omega, by go_num, HX⟩
        case measure => simp [intOf]; omega
      · have HX : Hid (r = true) := Lib.hid (by rw [← HR.out]; exact List.any_eq_true.2 ⟨x, List.mem_of_getElem? hxk.out, hout⟩)
        have HO := Lib.hid hout
        clear hout
        go_wp2_with (go_at_call 70; refine (lWithin1 _ _ _ _ _ _ ha hb).mono ?_; rintro e w' ⟨rfl, rfl⟩; rw [HO.out])
        go_ret
        exact ⟨⟨k, rfl, by rw [HX.out]; simp⟩, rfl⟩
    · have HX : Hid (r = false) := Lib.hid (by rw [← HR.out]; have := hno.out; rw [List.take_of_length_le (by rw [HL.out]; omega)] at this; exact this)
      go_wp2
      go_ret
      exact ⟨⟨-1, rfl, by rw [HX.out]; simp⟩, rfl⟩

set_option maxHeartbeats 400000 in
theorem containsFunc_within (lo hi : Int) (a b : Addr) (A : Option Addr) (n c B : Nat) (xs : List Int) (w : World) (ha : w.cell? a = some (.int .i64 lo)) (hb : w.cell? b = some (.int .i64 hi))
    (hx : Ri w B A n xs) (hn : n ≤ 1099511627776) (r : Bool) (HR : Hid (xs.any (outB lo hi) = r)) :
    Calls Try.prog 69 #[.slice A n c, .func (.func 70) #[] #[.pointer (some a), .pointer (some b)]] w fun e w' => e = .returned (.bool r) ∧ w = w' := by
  go_enter Try.func69, Try.ntmps69
  go_wp2_with (go_at_call 73; refine (indexFunc_within _ _ _ _ _ _ _ _ _ _ ha hb hx hn _ HR).mono ?_; rintro e w' ⟨⟨k, rfl, hk⟩, rfl⟩; have HK := Lib.hid hk; clear hk)
  go_ret
  exact ⟨ret_b HK.out, rfl⟩

set_option maxHeartbeats 400000 in
theorem lWithin (lo hi : Int) (A : Option Addr) (n c : Nat) (xs : List Int) (w : World) (hx : Ri w w.heap.size A n xs) (hn : n ≤ 1099511627776) (r : Bool) (HR : Hid (xs.any (outB lo hi) = r)) :
    Calls Try.prog 52 #[.int .i64 lo, .int .i64 hi, .slice A n c] w fun e w' => e = .returned (.bool (!r)) ∧ Below w.heap.size w w' ∧ w'.heap.size = w.heap.size + 2 := by
  have ha : ((w.alloc (.cells #[.int .i64 lo] 3)).alloc (.cells #[.int .i64 hi] 3)).cell? ⟨w.heap.size, 0, none⟩ = some (.int .i64 lo) := (World.cell?_alloc_lt _ _ _ (by simp)).trans (cell_new1 _ _ _)
  have hb : ((w.alloc (.cells #[.int .i64 lo] 3)).alloc (.cells #[.int .i64 hi] 3)).cell? ⟨w.heap.size + 1, 0, none⟩ = some (.int .i64 hi) := by
    simp
  have hx2 : Ri ((w.alloc (.cells #[.int .i64 lo] 3)).alloc (.cells #[.int .i64 hi] 3)) w.heap.size A n xs := (hx.alloc (Nat.le_refl _) _).alloc (by simp) _
  go_enter Try.func52, Try.ntmps52
  go_wp2_with (go_at_call 69; refine (containsFunc_within _ _ _ _ _ _ _ _ _ _ ha hb hx2 hn _ HR).mono ?_; rintro e w' ⟨rfl, rfl⟩)
  go_ret
  exact ⟨rfl, ((Below.refl _ w).alloc (Nat.le_refl _) _).alloc (by simp) _, by simp⟩
end Go.Proofs.Ytkeiajncmhkdmaa

namespace Go.Proofs.Ytkeiajncmhkdmaa
open Go.RowKit

set_option maxHeartbeats 400000 in
theorem lCheckDrops (p : Int) (A : Option Addr) (n c : Nat) (ds : List Int) (w : World) (hx : Ri w w.heap.size A n ds) (hn : n ≤ 1099511627776) (r : Int) (HR : Hid (checkDrops p ds = r)) :
    Calls Try.prog 23 #[.int .i64 p, .slice A n c] w fun e w' => e = .returned (.int .i64 r) ∧ Below w.heap.size w w' := by
  have HL := Lib.hid hx.len
  have hlit := (Oi.lit1 w p).ri
  by_cases h1 : p < 1 ∨ 8 < p
  · have HE : Hid (r = 6) := Lib.hid (HR.out.symm.trans (checkDrops_many (by omega)))
    have HB : Hid ([p].any (outB 1 8) = true) := Lib.hid (by simp [outB]; omega)
    go_enter Try.func23, Try.ntmps23
    go_wp2_with (go_at_call 52; refine (lWithin _ _ _ _ _ _ _ hlit (by omega) _ HB).mono ?_; rintro e w1 ⟨rfl, hb, hs⟩; clear hs)
    go_ret
    exact ⟨ret_i HE.out.symm, ((Below.refl _ w).alloc (Nat.le_refl _) _).trans (hb.mono (by simp))⟩
  · have HB : Hid ([p].any (outB 1 8) = false) := Lib.hid (by simp [outB]; omega)
    by_cases h2 : 12 < n
    · have HE : Hid (r = 6) := Lib.hid (HR.out.symm.trans (checkDrops_many (by rw [HL.out]; omega)))
      go_enter Try.func23, Try.ntmps23
      go_wp2_with (go_at_call 52; refine (lWithin _ _ _ _ _ _ _ hlit (by omega) _ HB).mono ?_; rintro e w1 ⟨rfl, hb, hs⟩; clear hs)
      go_ret
      exact ⟨ret_i HE.out.symm, ((Below.refl _ w).alloc (Nat.le_refl _) _).trans (hb.mono (by simp))⟩
    · have HN : Hid (¬ (p < 1 ∨ 8 < p ∨ 12 < ds.length)) := Lib.hid (by rw [HL.out]; omega)
      have hp1 : 1 ≤ p := by omega
      have hp8 : p ≤ 8 := by omega
      have hbe : ∀ w1, Below (w.heap.size + 1) (w.alloc (.cells #[.int .i64 p] 3)) w1 → Below w.heap.size w w1 := fun w1 hb => ((Below.refl _ w).alloc (Nat.le_refl _) _).trans (hb.mono (by omega))
      have HBE := Lib.hid hbe
      clear hbe
      obtain ⟨b, HBB⟩ : ∃ b, Hid (ds.any (outB 0 (p - 1)) = b) := ⟨_, Lib.hid rfl⟩
      cases b
      · have HE : Hid (r = 0) := Lib.hid (HR.out.symm.trans (checkDrops_ok HN.out (List.all_eq_true.2 fun d hd => by
          have h := List.any_eq_false.1 HBB.out d hd
          rw [Bool.not_eq_true, outB_false] at h
          rw [okDrop_iff]
          omega)))
        go_enter Try.func23, Try.ntmps23
        go_wp2_with fail
        refine (lWithin _ _ _ _ _ _ _ hlit (by omega) _ HB).mono ?_
        rintro e w1 ⟨rfl, hb, hs⟩
        clear hs
        have hb1 := HBE.out w1 (by simpa using hb)
        go_wp2_with fail
        refine (lWithin _ _ _ _ _ _ _ ((hx.below hb1).more hb1.size) hn _ HBB).mono ?_
        rintro e w2 ⟨rfl, hb2, hs2⟩
        clear hs2
        go_wp2_with fail
        go_ret
        exact ⟨ret_i HE.out.symm, hb1.trans (hb2.mono hb1.size)⟩
      · have HE : Hid (r = 3) := Lib.hid (by
          obtain ⟨d, hd, ho⟩ := List.any_eq_true.1 HBB.out
          refine HR.out.symm.trans (checkDrops_bad HN.out hd fun h => ?_)
          have : outB 0 (p - 1) d = false := outB_false.2 (by omega)
          rw [this] at ho
          cases ho)
        go_enter Try.func23, Try.ntmps23
        go_wp2_with fail
        refine (lWithin _ _ _ _ _ _ _ hlit (by omega) _ HB).mono ?_
        rintro e w1 ⟨rfl, hb, hs⟩
        clear hs
        have hb1 := HBE.out w1 (by simpa using hb)
        go_wp2_with fail
        refine (lWithin _ _ _ _ _ _ _ ((hx.below hb1).more hb1.size) hn _ HBB).mono ?_
        rintro e w2 ⟨rfl, hb2, hs2⟩
        clear hs2
        go_wp2_with fail
        go_ret
        exact ⟨ret_i HE.out.symm, hb1.trans (hb2.mono hb1.size)⟩

/-! ### The pusher -/
def tkI (L : List Int) (i : Int) : Int := if i ∈ L then 1 else 0
def puCells (pl : Int) (wh : Bool) (L : List Int) (A : Option Addr) (n c : Nat) (s : Int) : Array Value :=
  #[.int .i64 pl, .bool wh, .int .i64 (tkI L 0), .int .i64 (tkI L 1), .int .i64 (tkI L 2), .int .i64 (tkI L 3), .int .i64 (tkI L 4), .int .i64 (tkI L 5), .int .i64 (tkI L 6), .int .i64 (tkI L 7), .slice A n c, .int .i64 s]
/-- Block g is a pusher: its ledge, what is taken, where the coppers L lie, how far all slid. Its list lies in a row of its own, from 'base' on. -/
def Pu (w : World) (base g : Nat) (pl : Int) (wh : Bool) (A : Option Addr) (n c : Nat) (L : List Int) (s : Int) : Prop :=
  base ≤ g ∧ w.heap[g]? = some (.cells (puCells pl wh L A n c s) 64 (0, 0)) ∧ Oi w base A n c L

theorem zero_int (w : World) : (zeroValue 3).run Try.prog w = .ok (.int .i64 0) w := by kernel_rfl
theorem clear_new (pl : Int) (wh : Bool) (w : World) (ty : TypeId) : (Builtin.clear_ #[22] ty #[.slice (some ⟨w.heap.size, 2, none⟩) 8 8]).run Try.prog (w.alloc (.cells (puCells pl wh [] none 0 0 0) 64)) = .ok (.tuple #[]) (w.alloc (.cells (puCells pl wh [] none 0 0 0) 64)) := by
  have h := Lib.run_clear_slice (P := Try.prog) (w.alloc (.cells (puCells pl wh [] none 0 0 0) 64)) 22 3 ty (.int .i64 0) under_ints zero_int rfl rfl w.heap.size 2 8 8 (by decide)
    (fun j hj => by
      rw [cell_of_row _ w.heap.size (2 + j) _ _ (0, 0) (heap_alloc_new w _)]
      match j, hj with
      | 0, _ => rfl
      | 1, _ => rfl
      | 2, _ => rfl
      | 3, _ => rfl
      | 4, _ => rfl
      | 5, _ => rfl
      | 6, _ => rfl
      | 7, _ => rfl)
    (fun j hj => frozen_of_row _ w.heap.size (2 + j) _ _ (heap_alloc_new w _))
  rw [h]
  have e : ∀ (c : Array Value) (i : Nat), (w.alloc (.cells c 64)).setCell ⟨w.heap.size, i, none⟩ (.int .i64 0) = w.alloc (.cells (c.setIfInBounds i (.int .i64 0)) 64) := fun c i => World.setCell_alloc_new c _ i _
  simp only [List.replicate, World.setCells, e]
  have e2 : ((((((((puCells pl wh [] none 0 0 0).setIfInBounds 2 (.int .i64 0)).setIfInBounds 3 (.int .i64 0)).setIfInBounds 4 (.int .i64 0)).setIfInBounds 5 (.int .i64 0)).setIfInBounds 6 (.int .i64 0)).setIfInBounds 7 (.int .i64 0)).setIfInBounds 8 (.int .i64 0)).setIfInBounds 9 (.int .i64 0) = puCells pl wh [] none 0 0 0 := by simp [puCells, tkI]
  simp only [Nat.reduceAdd, e2]

set_option maxHeartbeats 400000 in
theorem lNewPusher (pl : Int) (wh : Bool) (w : World) :
    Calls Try.prog 62 #[.int .i64 pl, .bool wh] w fun e w' => e = .returned (.pointer (some ⟨w.heap.size, 0, none⟩)) ∧ Pu w' w.heap.size w.heap.size pl wh none 0 0 [] 0 ∧ Below w.heap.size w w' ∧ w'.heap.size = w.heap.size + 1 := by
  have hcl := fun ty => clear_new pl wh w ty
  unfold puCells tkI at hcl
  simp only [List.not_mem_nil, if_false] at hcl
  go_enter Try.func62, Try.ntmps62
  go_wp2_with (simp only [hcl])
  go_ret
  exact ⟨rfl, ⟨Nat.le_refl _, heap_alloc_new w _, Oi.nil_ _ _⟩, (Below.refl _ w).alloc (Nat.le_refl _) _, by simp⟩
end Go.Proofs.Ytkeiajncmhkdmaa
