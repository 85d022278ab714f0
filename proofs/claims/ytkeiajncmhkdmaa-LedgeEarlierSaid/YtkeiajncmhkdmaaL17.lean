import Derived.Test.YtkeiajncmhkdmaaLF
import Derived.Test.YtkeiajncmhkdmaaPL
namespace Go.Proofs.Ytkeiajncmhkdmaa
open Go.RowKit Go.Shelf

theorem pRun (b g base a : Nat) (wh : Bool) (A : Option Addr) (n c : Nat) (L : List Int) (s : Int) (w : World) (ha : a < 8) (hp : Pu w base g (b : Int) wh A n c L s) (r : Int) (HR : Hid (runDown L (a + 1) (a : Int) = r)) :
    Calls Try.prog 66 #[.pointer (some ⟨g, 0, none⟩), .int .i64 (a : Int)] w fun e w' => e = .returned (.int .i64 r) ∧ w = w' := by
  obtain ⟨hbg, hpu, ho⟩ := hp
  have HPU := Lib.hid hpu
  clear hpu
  go_enter Try.func66, Try.ntmps66
  go_wp2
  go_loop [5, 6] (fun o i => ∃ j : Nat, j ≤ a + 1 ∧ i = .int .i64 ((a : Int) - (j : Int)) ∧ o = .int .i64 (j : Int) ∧ Hid (runDown L (a + 1) (a : Int) = j + runDown L (a + 1 - j) ((a : Int) - (j : Int)))) (fun _ i => (intOf i + 1).toNat)
  case atStart => exact ⟨0, by omega, by simp, rfl, Lib.hid (by simp)⟩
  case round =>
    obtain ⟨j, hj, rfl, rfl, HJ⟩ := hrel
    by_cases hlt : j = a + 1
    · have HX : Hid (r = j) := Lib.hid (by rw [← HR.out, HJ.out, hlt]; simp [runDown])
      have hneg : ¬ (0 : Int) ≤ (a : Int) - (j : Int) := by omega
      go_wp2
      go_ret
      exact ⟨ret_i (by have := HX.out; omega), rfl⟩
    · obtain ⟨q, hq⟩ : ∃ q : Nat, (a : Int) - (j : Int) = (q : Int) := ⟨a - j, by omega⟩
      have hq2 : a + 1 - j = q + 1 := by omega
      have hq8 : q < 8 := by omega
      have HJ2 : Hid (runDown L (a + 1) (a : Int) = j + runDown L (q + 1) (q : Int)) := Lib.hid (by rw [HJ.out, hq, hq2])
      rw [hq]
      have HQ := Lib.hid hq
      have HQ2 := Lib.hid hq2
      clear HJ hq hq2
      have hc1 := pu_taken HPU.out (k := q) hq8
      have hqi : (q : Int) < 8 := by omega
      by_cases hm : (q : Int) ∈ L
      · rw [tkI_yes hm] at hc1
        have HX : Hid (runDown L (a + 1) (a : Int) = ((j + 1 : Nat) : Int) + runDown L (a + 1 - (j + 1)) ((a : Int) - ((j + 1 : Nat) : Int))) := Lib.hid (by
          rw [HJ2.out, runDown, if_pos hm, show a + 1 - (j + 1) = q by have := HQ2.out; omega, show (a : Int) - ((j + 1 : Nat) : Int) = (q : Int) - 1 by have := HQ.out; omega]
          omega)
        clear hm
        go_wp2
        go_round
        case rel => exact ⟨j + 1, by omega, by have := HQ.out; congr 1; omega, by go_num, HX⟩
        case measure => simp [intOf] <;> omega
      · rw [tkI_no hm] at hc1
        have HX : Hid (r = j) := Lib.hid (by rw [← HR.out, HJ2.out, runDown, if_neg hm, Int.add_zero])
        clear hm
        go_wp2
        go_ret
        exact ⟨ret_i (by have := HX.out; omega), rfl⟩

theorem Ri.take {w : World} {B n : Nat} {A : Option Addr} {xs : List Int} (h : Ri w B A n xs) {k : Nat} (hk : k ≤ n) : Ri w B A k (xs.take k) := by
  have hl := h.len
  refine ⟨by rw [ints_length, List.length_take, hl]; omega, fun h0 => ?_⟩
  obtain ⟨ad, hA, hb, hc⟩ := h.2 (by omega)
  refine ⟨ad, hA, hb, fun j hj => ?_⟩
  have hj' : j < (ints xs).length := by rw [ints_length, List.length_take] at hj; rw [ints_length]; omega
  rw [hc j hj']
  congr 1
  simp [ints]

theorem lWays_many (p : Int) (A : Option Addr) (n c : Nat) (w : World) (hp : p < 1 ∨ 8 < p) :
    Calls Try.prog 38 #[.int .i64 p, .slice A n c] w fun e w' => e = .returned (.tuple #[.int .i64 0, .int .i64 6]) ∧ Below w.heap.size w w' := by
  have HB : Hid ([p].any (outB 1 8) = true) := Lib.hid (by simp [outB]; omega)
  have hlit := (Oi.lit1 w p).ri
  go_enter Try.func38, Try.ntmps38
  go_wp2_with (go_at_call 52; refine (lWithin _ _ _ _ _ _ _ hlit (by omega) _ HB).mono ?_; rintro e w1 ⟨rfl, hb, hs⟩; clear hs)
  go_ret2
  exact ⟨rfl, ((Below.refl _ w).alloc (Nat.le_refl _) _).trans (hb.mono (by simp))⟩
theorem lWays_range (b : Nat) (A : Option Addr) (n c : Nat) (xs : List Int) (w : World) (hx : Ri w w.heap.size A n xs) (hn : n ≤ 1099511627776) (hb1 : 1 ≤ b) (hb8 : b ≤ 8) (HC : Hid (xs.any (outB 0 ((b : Int) - 1)) = true)) :
    Calls Try.prog 38 #[.int .i64 (b : Int), .slice A n c] w fun e w' => e = .returned (.tuple #[.int .i64 0, .int .i64 3]) ∧ Below w.heap.size w w' := by
  have HB : Hid ([(b : Int)].any (outB 1 8) = false) := Lib.hid (by simp [outB]; omega)
  have hlit := (Oi.lit1 w (b : Int)).ri
  go_enter Try.func38, Try.ntmps38
  go_wp2_with fail
  refine (lWithin _ _ _ _ _ _ _ hlit (by omega) _ HB).mono ?_
  rintro e w1 ⟨rfl, hb, hs⟩
  have hbw : Below w.heap.size w w1 := ((Below.refl _ w).alloc (Nat.le_refl _) _).trans (hb.mono (by simp))
  clear hs hb
  have hx1 := (hx.below hbw).more hbw.size
  go_wp2_with (go_at_call 52; refine (lWithin _ _ _ _ _ _ _ hx1 (by omega) _ HC).mono ?_; rintro e w2 ⟨rfl, hb, hs⟩; clear hs)
  go_ret2
  exact ⟨rfl, hbw.trans (hb.mono hbw.size)⟩
/-- What Ways answers on places of the ledge: the first that comes again, or the product. -/
def waysR (xs : List Int) (v e : Int) : Prop := (∃ k, k < xs.length ∧ Fresh xs k ∧ nth xs k ∈ xs.take k ∧ v = 0 ∧ e = 11) ∨ (Fresh xs xs.length ∧ v = waysIn xs xs.length ∧ e = 0)
theorem lWays_ok (b : Nat) (A : Option Addr) (n c : Nat) (xs : List Int) (w : World) (hx : Ri w w.heap.size A n xs) (hn : n ≤ 1048576) (hnc : n ≤ c) (hb1 : 1 ≤ b) (hb8 : b ≤ 8) (HC : Hid (xs.any (outB 0 ((b : Int) - 1)) = false)) :
    Calls Try.prog 38 #[.int .i64 (b : Int), .slice A n c] w fun e w' => ∃ v r : Int, e = .returned (.tuple #[.int .i64 v, .int .i64 r]) ∧ waysR xs v r ∧ Below w.heap.size w w' := by
  have HL := Lib.hid hx.len
  have HB : Hid ([(b : Int)].any (outB 1 8) = false) := Lib.hid (by simp [outB]; omega)
  have HIN : Hid (∀ x ∈ xs, 0 ≤ x ∧ x < (b : Int)) := Lib.hid (fun x hm => by
    have h := List.any_eq_false.1 HC.out x hm
    rw [Bool.not_eq_true, outB_false] at h
    omega)
  have hlit := (Oi.lit1 w (b : Int)).ri
  go_enter Try.func38, Try.ntmps38
  go_wp2_with fail
  refine (lWithin _ _ _ _ _ _ _ hlit (by omega) _ HB).mono ?_
  rintro e w1 ⟨rfl, hb, hs⟩
  have hbw : Below w.heap.size w w1 := ((Below.refl _ w).alloc (Nat.le_refl _) _).trans (hb.mono (by simp))
  clear hs hb
  have hx1 := (hx.below hbw).more hbw.size
  go_wp2_with fail
  refine (lWithin _ _ _ _ _ _ _ hx1 (by omega) _ HC).mono ?_
  rintro e w2 ⟨rfl, hb, hs⟩
  have hbw2 : Below w.heap.size w w2 := hbw.trans (hb.mono hbw.size)
  clear hs hb
  go_wp2_with fail
  refine (lNewPusher _ _ _).mono ?_
  rintro e w3 ⟨rfl, hpu, hb3, hs3⟩
  have hbw3 : Below w.heap.size w w3 := hbw2.trans (hb3.mono hbw2.size)
  have hx3 : Ri w3 w.heap.size A n xs := hx.below hbw3
  have hs2 := hbw2.size
  have HS3 := Lib.hid hs3
  have hpu3 : Pu w3 w.heap.size w2.heap.size (b : Int) false none 0 0 [] 0 := ⟨hs2, hpu.2.1, hpu.2.2.base hs2⟩
  clear hs3 hb3 hpu hx1 hlit
  go_wp2_with fail
  go_loopw [7, 25] (fun o i wr => ∃ (k : Nat) (A' : Option Addr) (c' : Nat), k ≤ n ∧ i = .int .i64 k ∧ o = .int .i64 (waysIn xs k) ∧ Hid (Fresh xs k) ∧ Pu wr w.heap.size w2.heap.size (b : Int) false A' k c' (xs.take k) 0 ∧ Below w.heap.size w3 wr) (fun _ i _ => n - (intOf i).toNat)
  case atStart => exact ⟨0, none, 0, by omega, rfl, rfl, Lib.hid (fun i h => by omega), hpu3, Below.refl _ _⟩
  case round =>
    obtain ⟨k, A', c', hk, rfl, rfl, HF, hp, hbk⟩ := hrel
    by_cases hlt : k < n
    · obtain ⟨ad, x, rfl, hbl, hc, hxk, _⟩ := (hx3.below hbk).at_ hlt
      have hin := HIN.out x (List.mem_of_getElem? hxk.out)
      obtain ⟨a, hxa⟩ : ∃ a : Nat, x = a := ⟨x.toNat, by omega⟩
      subst hxa
      have HN : Hid (nth xs k = (a : Int)) := Lib.hid (by rw [nth, hxk.out]; rfl)
      have hab : a < b := by omega
      clear hin
      have htk := ((hx3.below hbk).take (k := k) (by omega))
      by_cases hm : (a : Int) ∈ xs.take k
      · have HM : Hid (decide ((a : Int) ∈ xs.take k) = true) := Lib.hid (decide_eq_true hm)
        have HR : Hid (waysR xs 0 11) := Lib.hid (.inl ⟨k, by rw [HL.out]; exact hlt, HF.out, by rw [HN.out]; exact hm, rfl, rfl⟩)
        clear hm
        go_wp2_with (go_at_call 59; refine (lContains _ _ _ _ _ _ _ htk (by omega) _ HM).mono ?_; rintro e w' ⟨rfl, rfl⟩)
        go_ret2
        exact ⟨0, 11, rfl, HR.out, hbw3.trans hbk⟩
      · have HM : Hid (decide ((a : Int) ∈ xs.take k) = false) := Lib.hid (decide_eq_false hm)
        have HF2 : Hid (Fresh xs (k + 1)) := Lib.hid (fresh_succ HF.out (by rw [HN.out]; exact hm))
        have HO := Lib.hid (lie_own (b := b) (L := xs.take k) (x := (a : Int)) (by omega) hm)
        have HW : Hid (waysIn xs (k + 1) = waysIn xs k * runR (xs.take k) (a : Int)) := Lib.hid (by rw [waysIn_succ, HN.out])
        have HT : Hid (xs.take (k + 1) = xs.take k ++ [(a : Int)]) := Lib.hid (take_snoc hxk.out)
        have hk8 : k + 1 ≤ 8 := Nat.le_trans (fresh_le (b := b) HIN.out (by rw [HL.out]; omega) HF2.out) hb8
        have hbd : waysIn xs k * runR (xs.take k) (a : Int) ≤ 16777216 ∧ 0 ≤ waysIn xs k * runR (xs.take k) (a : Int) := by
          have h := waysIn_bd hb8 HIN.out (k + 1) (by rw [HL.out]; omega)
          have h2 := pow8_le hk8
          rw [HW.out] at h
          omega
        have HRR : Hid (runDown (xs.take k ++ [(a : Int)]) (a + 1) (a : Int) = runR (xs.take k) (a : Int)) := Lib.hid (run_own _ _)
        obtain ⟨v, HV⟩ : ∃ v, Hid (v = waysIn xs k) := ⟨_, Lib.hid rfl⟩
        obtain ⟨r, HRV⟩ : ∃ r, Hid (r = runR (xs.take k) (a : Int)) := ⟨_, Lib.hid rfl⟩
        rw [← HV.out, ← HRV.out] at hbd
        rw [← HV.out]
        clear hm
        have hwr : IntKind.i64.wrap (v * r) = v * r := IntWalk.i64_in _ (by omega)
        have hwr2 : wrap64 (v * r) = v * r := IntWalk.wrap64_in _ (by omega)
        go_wp2_with fail
        refine (lContains _ _ _ _ _ _ _ htk (by omega) _ HM).mono ?_
        rintro e w' ⟨rfl, rfl⟩
        go_wp2_with fail
        refine (lDrop b w2.heap.size w.heap.size a false A' k c' (xs.take k) 0 wr hb8 hab (by omega) (by omega) (fun h => by cases h) hp).mono ?_
        rintro e w4 ⟨rfl, A4, c4, hp4, hb4⟩
        have e1 : (stepW false (b : Int) (xs.take k, 0) (a : Int)) = (xs.take k ++ [(a : Int)], 0) := by
          unfold stepW
          simp only [HO.out.1, HO.out.2, Int.sub_self, Int.add_zero]
          rfl
        rw [e1] at hp4
        clear e1
        have hrun := pRun b w2.heap.size w.heap.size a false A4 (k + 1) c4 _ 0 w4 (by omega) hp4 r (Lib.hid (by rw [HRR.out, HRV.out]))
        go_wp2_with fail
        refine hrun.mono ?_
        rintro e w' ⟨rfl, rfl⟩
        go_wp2
        go_roundw
        case rel => exact ⟨k + 1, A4, c4, by omega, by go_num, by rw [HW.out, ← HV.out, ← HRV.out], HF2, by rw [HT.out]; exact hp4, hbk.trans hb4⟩
        case measure => simp [intOf]; omega
    · have HK : Hid (k = xs.length) := Lib.hid (by rw [HL.out]; omega)
      go_wp2
      go_ret2
      exact ⟨_, 0, rfl, .inr ⟨by rw [← HK.out]; exact HF.out, by rw [← HK.out], rfl⟩, hbw3.trans hbk⟩
end Go.Proofs.Ytkeiajncmhkdmaa
