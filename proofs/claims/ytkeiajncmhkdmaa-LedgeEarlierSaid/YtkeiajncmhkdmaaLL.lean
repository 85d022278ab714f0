import Derived.Test.YtkeiajncmhkdmaaLF
import Derived.Test.YtkeiajncmhkdmaaMap
import Derived.Test.YtkeiajncmhkdmaaLeftP
import Derived.StillTailTactics
import Derived.Test.YtkeiajncmhkdmaaRefC
namespace Go.Proofs.Ytkeiajncmhkdmaa
open Go.RowKit Go.Shelf

theorem lPower_q (Y : Int) (h1 : 1 ≤ Y) (h8 : Y ≤ 8) (w : World) : Calls Try.prog 60 #[.int .i64 (Y + 1), .int .i64 (Y - 1)] w fun e w' => e = .returned (.int .i64 (pwI Y)) ∧ w = w' := by
  have h := lPower (Y + 1).toNat (Y - 1).toNat (by omega) (by omega) w (pwI Y) (Lib.hid rfl)
  rw [show (((Y + 1).toNat : Nat) : Int) = Y + 1 by omega, show (((Y - 1).toNat : Nat) : Int) = Y - 1 by omega] at h
  exact h
/-- The map and the block of 'b' behind k places. -/
def LeftI (l : List Int) (w wr : World) (k : Nat) : Prop :=
  ∃ p : Int × Int, Ms wr w.heap.size k (fS l (l.take k)) ∧ Bk wr (w.heap.size + 1) 88 #[.int .i64 p.1, .int .i64 p.2] ∧ Below w.heap.size w wr ∧ Hid ((k = 0 → p = (0, 0)) ∧ ∀ j y, k = j + 1 → l[j]? = some y → p = keyQ l y)

set_option maxHeartbeats 2000000 in
theorem pLeft (s : Nat) (hs : s < 256) (l : List Int) (HLS : Hid (l = listed s)) (g : Option Addr) (A : Option Addr) (n c : Nat) (w : World) (hx : Ri w w.heap.size A n l) :
    Calls Try.prog 63 #[.pointer g, .slice A n c] w fun e w' => e = .returned (.int .i64 (leftAt s)) ∧ Below w.heap.size w w' := by
  have HL := Lib.hid hx.len
  have hn8 : n ≤ 8 := by rw [← HL.out, HLS.out]; exact listedIn_le s 8
  have hmm := @run_makeMap Try.prog
  go_enter Try.func63, Try.ntmps63
  go_wp2
  have hm0 := (Ms.made w).alloc (.cells #[.int .i64 0, .int .i64 0] 88)
  have hb0 : Below w.heap.size w ((w.alloc (.map #[] 0)).alloc (.cells #[.int .i64 0, .int .i64 0] 88)) := ((Below.refl _ w).alloc (Nat.le_refl _) _).alloc (by simp) _
  have k0 : Bk ((w.alloc (.map #[] 0)).alloc (.cells #[.int .i64 0, .int .i64 0] 88)) (w.heap.size + 1) 88 #[.int .i64 0, .int .i64 0] := by
    have h := Bk.new (w.alloc (.map #[] 0)) 88 #[.int .i64 0, .int .i64 0]
    rw [World.size_alloc] at h
    exact h
  clear hmm
  go_loopw [19] (fun i wr => ∃ k : Nat, k ≤ n ∧ i = .int .i64 k ∧ LeftI l w wr k) (fun i _ => n - (intOf i).toNat)
  case atStart => exact ⟨0, by omega, rfl, (0, 0), hm0, k0, hb0, Lib.hid ⟨fun _ => rfl, fun _ _ h => by cases h⟩⟩
  case round =>
    obtain ⟨k, hk, rfl, p, hm, kb, hb, HP⟩ := hrel
    by_cases hlt : k < n
    · obtain ⟨ad, x, rfl, hadb, hc0, hxk, _⟩ := (hx.below hb).at_ hlt
      have kc0 : wr.cell? ⟨w.heap.size + 1, 0, none⟩ = some (.int .i64 p.1) := kb.cell 0
      have kc1 : wr.cell? ⟨w.heap.size + 1, 1, none⟩ = some (.int .i64 p.2) := kb.cell 1
      have kf0 := kb.frozen 0
      have kf1 := kb.frozen 1
      have HQB := quBd hs (by rw [← HLS.out]; exact hxk.out)
      rw [← HLS.out] at HQB
      obtain ⟨X, HXX⟩ : ∃ X, Hid ((keyQ l x).1 = X) := ⟨_, Lib.hid rfl⟩
      obtain ⟨Y, HYY⟩ : ∃ Y, Hid (runR l x = Y) := ⟨_, Lib.hid rfl⟩
      rw [HYY.out] at HQB
      obtain ⟨q1, q2, q3, q4⟩ := HQB
      have HXB : Hid (-8 ≤ X ∧ X ≤ 8) := Lib.hid (by have h1 := HXX.out; have h2 := HYY.out; simp only [keyQ] at h1; omega)
      by_cases hk0 : k = 0
      · have hd : decide (0 < k) = false := by simp [hk0]
        have HKEY : Hid (keyQ l x = (x, 1)) := Lib.hid (by have h := quFirst hs (x := x) (by rw [← HLS.out, ← hk0]; exact hxk.out); rw [HLS.out]; exact h)
        have hp : p = (0, 0) := HP.out.1 hk0
        subst hp
        clear hk0
        go_wp2
        have HK2 : Hid (X = x ∧ Y = 1) := Lib.hid (by
          have h1 := HXX.out
          have h2 := HYY.out
          have h3 := HKEY.out
          rw [h3] at h1
          have h4 := congrArg Prod.snd h3
          simp only [keyQ] at h1 h4
          exact ⟨h1.symm, by omega⟩)
        obtain ⟨W2, hW2⟩ : ∃ W2 : World, (wr.setCell ⟨w.heap.size + 1, 0, none⟩ (.int .i64 x)).setCell ⟨w.heap.size + 1, 1, none⟩ (.int .i64 1) = W2 := ⟨_, rfl⟩
        have kb2 : Bk W2 (w.heap.size + 1) 88 #[.int .i64 X, .int .i64 Y] := by rw [← hW2, HK2.out.1, HK2.out.2]; exact (kb.set_ 0 _).set_ 1 _
        have hm2 : Ms W2 w.heap.size k (fS l (l.take k)) := by rw [← hW2]; exact (hm.setCell (by simp) _).setCell (by simp) _
        have hb2 : Below w.heap.size w W2 := by rw [← hW2]; exact (hb.setCell (by simp) _).setCell (by simp) _
        rw [hW2]
        clear hW2 kb kc0 kc1 kf0 kf1 hm hb HK2
        have c0 : W2.cell? ⟨w.heap.size + 1, 0, none⟩ = some (.int .i64 X) := kb2.cell 0
        have c1 : W2.cell? ⟨w.heap.size + 1, 1, none⟩ = some (.int .i64 Y) := kb2.cell 1
        have hw1 : IntKind.i64.wrap (Y + 1) = Y + 1 := IntWalk.i64_in _ (by omega)
        have hw2 : IntKind.i64.wrap (Y - 1) = Y - 1 := IntWalk.i64_in _ (by omega)
        have hk8 : k < 1048576 := by omega
        refine wp_region_still_tail 9 (by kernel_rfl) (by kernel_rfl) ?_
        simp only [List.take_succ_cons, List.take_zero, List.drop_succ_cons, List.drop_zero]
        change wpStill _ _ W2.drew _ _ _
        iterate 8 still_step
        still_call (flip_same (lPower_q Y q3 q4 _))
        refine wpStill_nil ?_
        have hin : in64 (X, Y) := in64_of (by have := HXB.out; dsimp only; omega) (by dsimp only; omega)
        have hwf : (Lit.int .i64 (pwI Y)).wf = true := WalkArith.wf_i64 (by have := pwI_bd (m := Y) ⟨q3, q4⟩; omega)
        have HFS : Hid (upd (fS l (l.take k)) (X, Y) (pwI Y) = fS l (l.take (k + 1))) := Lib.hid (by
          have hkx : keyQ l x = (X, Y) := by rw [← HXX.out, ← HYY.out]; rfl
          funext p
          rw [take_snoc hxk.out, fS_snoc, hkx, HYY.out]
          rfl)
        go_wp2_with (at_mapUpdate; refine Ms.store_op rfl (.tmp 47) (.tmp 48) (.tmp 55) rfl (X, Y) (pwI Y) rfl hm2.drew hk8 hin hwf rfl rfl ?_; intro w3 hm3 hg3)
        have kb3 := kb2.drew.grown hg3 (by simp)
        have hb3 := hb2.drew.grown hg3 (by have := hb2.size; exact this) (fun j e => by cases e; exact Nat.le_refl _)
        rw [HFS.out] at hm3
        go_wp2
        go_roundw
        case rel => exact ⟨k + 1, by omega, by go_num, (X, Y), hm3, kb3, hb3, Lib.hid ⟨fun h => by omega, fun j' y' h1 h2 => by
          obtain rfl : j' = k := by omega
          rw [hxk.out] at h2
          cases h2
          rw [← HXX.out, ← HYY.out]
          rfl⟩⟩
        case measure => simp [intOf]; omega
      · obtain ⟨j, hj⟩ : ∃ j, k = j + 1 := ⟨k - 1, by omega⟩
        obtain ⟨ad', y, hA, _, hcy, hyk, _⟩ := (hx.below hb).at_ (k := j) (by omega)
        cases hA
        have hd : decide (0 < k) = true := by simp; omega
        have hix : IntKind.i64.wrap ((k : Int) - 1) = (j : Int) := by
          rw [show (k : Int) - 1 = (j : Int) by omega]
          exact IntWalk.i64_in _ (by omega)
        have HNX := Lib.hid (quNext hs (x := x) (y := y) (k := j) (by rw [← HLS.out, ← hj]; exact hxk.out) (by rw [← HLS.out]; exact hyk.out))
        have hp : p = keyQ l y := HP.out.2 j y hj hyk.out
        have HQY := quBd hs (by rw [← HLS.out]; exact hyk.out)
        rw [← HLS.out] at HQY HNX
        have HP2 : Hid (p = keyQ l y) := Lib.hid hp
        obtain ⟨P1, hP1⟩ : ∃ P1, P1 = p.1 := ⟨_, rfl⟩
        obtain ⟨P2, hP2⟩ : ∃ P2, P2 = p.2 := ⟨_, rfl⟩
        have hpb : 1 ≤ P2 ∧ P2 ≤ 8 := by rw [hP2, HP2.out]; simp only [keyQ]; omega
        rw [← hP1] at kc0
        rw [← hP2] at kc1
        rw [← hP1, ← hP2] at kb
        obtain ⟨pb1, pb2⟩ := hpb
        obtain ⟨y1, y2, y3, y4⟩ := HQY
        have hk1 : 1 ≤ k := by omega
        have hjn : j < n := by omega
        have HPP : Hid (P1 = (keyQ l y).1 ∧ P2 = (keyQ l y).2) := Lib.hid (by rw [hP1, hP2, HP2.out]; exact ⟨rfl, rfl⟩)
        have HJ := Lib.hid hj
        clear hj hp hP1 hP2 hk0
        by_cases hlt2 : y + 1 < x
        · have HKEY : Hid (keyQ l x = (x, 1)) := Lib.hid (HNX.out.2.1 hlt2)
          go_wp2
          have HK2 : Hid (X = x ∧ Y = 1) := Lib.hid (by
            have h1 := HXX.out
            have h2 := HYY.out
            have h3 := HKEY.out
            rw [h3] at h1
            have h4 := congrArg Prod.snd h3
            simp only [keyQ] at h1 h4
            exact ⟨h1.symm, by omega⟩)
          obtain ⟨W2, hW2⟩ : ∃ W2 : World, (((wr.setCell ⟨w.heap.size + 1, 0, none⟩ (.int .i64 x)).setCell ⟨w.heap.size + 1, 1, none⟩ (.int .i64 0)).setCell ⟨w.heap.size + 1, 0, none⟩ (.int .i64 x)).setCell ⟨w.heap.size + 1, 1, none⟩ (.int .i64 1) = W2 := ⟨_, rfl⟩
          have kb2 : Bk W2 (w.heap.size + 1) 88 #[.int .i64 X, .int .i64 Y] := by rw [← hW2, HK2.out.1, HK2.out.2]; exact (((kb.set_ 0 _).set_ 1 _).set_ 0 _).set_ 1 _
          have hm2 : Ms W2 w.heap.size k (fS l (l.take k)) := by rw [← hW2]; exact (((hm.setCell (by simp) _).setCell (by simp) _).setCell (by simp) _).setCell (by simp) _
          have hb2 : Below w.heap.size w W2 := by rw [← hW2]; exact (((hb.setCell (by simp) _).setCell (by simp) _).setCell (by simp) _).setCell (by simp) _
          rw [hW2]
          clear hW2 kb kc0 kc1 kf0 kf1 hm hb HK2
          have c0 : W2.cell? ⟨w.heap.size + 1, 0, none⟩ = some (.int .i64 X) := kb2.cell 0
          have c1 : W2.cell? ⟨w.heap.size + 1, 1, none⟩ = some (.int .i64 Y) := kb2.cell 1
          have hw1 : IntKind.i64.wrap (Y + 1) = Y + 1 := IntWalk.i64_in _ (by omega)
          have hw2 : IntKind.i64.wrap (Y - 1) = Y - 1 := IntWalk.i64_in _ (by omega)
          have hk8 : k < 1048576 := by omega
          refine wp_region_still_tail 9 (by kernel_rfl) (by kernel_rfl) ?_
          simp only [List.take_succ_cons, List.take_zero, List.drop_succ_cons, List.drop_zero]
          change wpStill _ _ W2.drew _ _ _
          iterate 8 still_step
          still_call (flip_same (lPower_q Y q3 q4 _))
          refine wpStill_nil ?_
          have hin : in64 (X, Y) := in64_of (by have := HXB.out; dsimp only; omega) (by dsimp only; omega)
          have hwf : (Lit.int .i64 (pwI Y)).wf = true := WalkArith.wf_i64 (by have := pwI_bd (m := Y) ⟨q3, q4⟩; omega)
          have HFS : Hid (upd (fS l (l.take k)) (X, Y) (pwI Y) = fS l (l.take (k + 1))) := Lib.hid (by
            have hkx : keyQ l x = (X, Y) := by rw [← HXX.out, ← HYY.out]; rfl
            funext p
            rw [take_snoc hxk.out, fS_snoc, hkx, HYY.out]
            rfl)
          go_wp2_with (at_mapUpdate; refine Ms.store_op rfl (.tmp 47) (.tmp 48) (.tmp 55) rfl (X, Y) (pwI Y) rfl hm2.drew hk8 hin hwf rfl rfl ?_; intro w3 hm3 hg3)
          have kb3 := kb2.drew.grown hg3 (by simp)
          have hb3 := hb2.drew.grown hg3 (by have := hb2.size; exact this) (fun j e => by cases e; exact Nat.le_refl _)
          rw [HFS.out] at hm3
          go_wp2
          go_roundw
          case rel => exact ⟨k + 1, by omega, by go_num, (X, Y), hm3, kb3, hb3, Lib.hid ⟨fun h => by omega, fun j' y' h1 h2 => by
            obtain rfl : j' = k := by omega
            rw [hxk.out] at h2
            cases h2
            rw [← HXX.out, ← HYY.out]
            rfl⟩⟩
          case measure => simp [intOf]; omega
        · have HKEY : Hid (keyQ l x = (P1, P2 + 1)) := Lib.hid (by rw [HNX.out.2.2 hlt2, ← HPP.out.1, ← HPP.out.2])
          have hne : (P2 == 0) = false := beq_eq_false_iff_ne.2 (by omega)
          go_wp2
          have HK2 : Hid (X = P1 ∧ Y = P2 + 1) := Lib.hid (by
            have h1 := HXX.out
            have h2 := HYY.out
            have h3 := HKEY.out
            rw [h3] at h1
            have h4 := congrArg Prod.snd h3
            simp only [keyQ] at h1 h4
            exact ⟨h1.symm, by omega⟩)
          obtain ⟨W2, hW2⟩ : ∃ W2 : World, wr.setCell ⟨w.heap.size + 1, 1, none⟩ (.int .i64 (P2 + 1)) = W2 := ⟨_, rfl⟩
          have kb2 : Bk W2 (w.heap.size + 1) 88 #[.int .i64 X, .int .i64 Y] := by rw [← hW2, HK2.out.1, HK2.out.2]; exact kb.set_ 1 _
          have hm2 : Ms W2 w.heap.size k (fS l (l.take k)) := by rw [← hW2]; exact hm.setCell (by simp) _
          have hb2 : Below w.heap.size w W2 := by rw [← hW2]; exact hb.setCell (by simp) _
          rw [hW2]
          clear hW2 kb kc0 kc1 kf0 kf1 hm hb HK2
          have c0 : W2.cell? ⟨w.heap.size + 1, 0, none⟩ = some (.int .i64 X) := kb2.cell 0
          have c1 : W2.cell? ⟨w.heap.size + 1, 1, none⟩ = some (.int .i64 Y) := kb2.cell 1
          have hw1 : IntKind.i64.wrap (Y + 1) = Y + 1 := IntWalk.i64_in _ (by omega)
          have hw2 : IntKind.i64.wrap (Y - 1) = Y - 1 := IntWalk.i64_in _ (by omega)
          have hk8 : k < 1048576 := by omega
          refine wp_region_still_tail 9 (by kernel_rfl) (by kernel_rfl) ?_
          simp only [List.take_succ_cons, List.take_zero, List.drop_succ_cons, List.drop_zero]
          change wpStill _ _ W2.drew _ _ _
          iterate 8 still_step
          still_call (flip_same (lPower_q Y q3 q4 _))
          refine wpStill_nil ?_
          have hin : in64 (X, Y) := in64_of (by have := HXB.out; dsimp only; omega) (by dsimp only; omega)
          have hwf : (Lit.int .i64 (pwI Y)).wf = true := WalkArith.wf_i64 (by have := pwI_bd (m := Y) ⟨q3, q4⟩; omega)
          have HFS : Hid (upd (fS l (l.take k)) (X, Y) (pwI Y) = fS l (l.take (k + 1))) := Lib.hid (by
            have hkx : keyQ l x = (X, Y) := by rw [← HXX.out, ← HYY.out]; rfl
            funext p
            rw [take_snoc hxk.out, fS_snoc, hkx, HYY.out]
            rfl)
          go_wp2_with (at_mapUpdate; refine Ms.store_op rfl (.tmp 47) (.tmp 48) (.tmp 55) rfl (X, Y) (pwI Y) rfl hm2.drew hk8 hin hwf rfl rfl ?_; intro w3 hm3 hg3)
          have kb3 := kb2.drew.grown hg3 (by simp)
          have hb3 := hb2.drew.grown hg3 (by have := hb2.size; exact this) (fun j e => by cases e; exact Nat.le_refl _)
          rw [HFS.out] at hm3
          go_wp2
          go_roundw
          case rel => exact ⟨k + 1, by omega, by go_num, (X, Y), hm3, kb3, hb3, Lib.hid ⟨fun h => by omega, fun j' y' h1 h2 => by
            obtain rfl : j' = k := by omega
            rw [hxk.out] at h2
            cases h2
            rw [← HXX.out, ← HYY.out]
            rfl⟩⟩
          case measure => simp [intOf]; omega
    · obtain ⟨wo, rfl⟩ : ∃ wo : World, wo = wr := ⟨_, rfl⟩
      have HT : Hid (l.take k = l) := Lib.hid (List.take_of_length_le (by rw [HL.out]; omega))
      have hk2 : k = n := by omega
      rw [HT.out, hk2] at hm
      have HLB := Lib.hid (fun q (h : q ∈ l) => by have := key_bd hs (q := q) (by rw [← HLS.out]; exact h); rw [← HLS.out] at this; exact this)
      clear hk2 kb HP hm0 hb0 k0
      go_wp2_with (at_range; refine Ms.range_op rfl (.tmp 57) rfl rfl hm ?_; intro w0 cnt0 hr0 hg0 hs0)
      have hb0 : Below w.heap.size w w0 := hb.grown hg0 hb.size (fun j e => by cases e)
      have hsz := hb.size
      go_frame
      rw [anyQ_start] at hr0
      go_loopw [9] (fun _ wi => ∃ (rem : List Int) (cnt : Nat), Mr wi w.heap.size wo.heap.size n (fS l (l.filter (keepB l rem))) (anyQ l rem) cnt ∧ Below w.heap.size w wi ∧ Hid (∀ q ∈ rem, q ∈ l)) (fun _ wi => wi.rangeLeft w.heap.size wo.heap.size)
      case atStart => exact ⟨l, cnt0, by rw [keep_all]; exact hr0, hb0, Lib.hid (fun _ h => h)⟩
      case round =>
        obtain ⟨rem, cnt, hr, hbi, HREM⟩ := hrel
        go_wp2_with (at_next; refine Mr.next_op rfl (.tmp 58) rfl rfl hr ?_ ?_)
        · intro hnone
          have HNIL := Lib.hid (anyQ_none (l := l) (rem := rem) (P := in64) (fun q hq => by have h := HLB.out q (HREM.out q hq); exact in64_of (by omega) (by omega)) (fun p hp => hnone p.1 p.2 hp))
          rw [HNIL.out, keep_none] at hr
          have hm4 := hr.owns
          have HEX := Lib.hid (explore_at hs)
          rw [← HLS.out] at HEX
          have HEL : Hid (∀ q ∈ endsOf l, q ∈ l) := Lib.hid (fun q h => (List.mem_filter.1 h).1)
          clear hr hnone hr0
          obtain ⟨w5, hw5⟩ : ∃ w5 : World, w5 = wr := ⟨_, rfl⟩
          subst hw5
          go_wp2_with (at_range; refine Ms.range_op rfl (.tmp 72) rfl rfl hm4 ?_; intro w6 cnt6 hr6 hg6 hs6)
          have hb6 : Below w.heap.size w w6 := hbi.grown hg6 hbi.size (fun j e => by cases e)
          have hsz5 := hbi.size
          go_frame
          rw [anyQ_start] at hr6
          go_loopw [10, 11] (fun o m wi => ∃ (rm : List Int) (cnt f : Nat) (O M : Int), o = .int .i64 O ∧ m = .int .i64 M ∧ Mr wi w.heap.size w5.heap.size n (fS l (endsOf l)) (anyQ l rm) cnt ∧ Below w.heap.size w wi ∧ Hid ((∀ q ∈ rm, q ∈ l) ∧ explore l (leftAt s) f rm O M = true)) (fun _ _ wi => wi.rangeLeft w.heap.size w5.heap.size)
          case atStart => exact ⟨endsOf l, cnt6, 9, 1, 0, rfl, rfl, hr6, hb6, Lib.hid ⟨HEL.out, HEX.out⟩⟩
          case round =>
            obtain ⟨rm, cnt7, f, O, M, rfl, rfl, hr7, hb7, HI⟩ := hrel
            go_wp2_with (at_next; refine Mr.next_op rfl (.tmp 73) rfl rfl hr7 ?_ ?_)
            · intro hnone7
              have HNIL7 := Lib.hid (anyQ_none (l := l) (rem := rm) (P := in64) (fun q hq => by have h := HLB.out q (HI.out.1 q hq); exact in64_of (by omega) (by omega)) (fun p hp => hnone7 p.1 p.2 hp))
              have HO : Hid (O = leftAt s) := Lib.hid (by have h := HI.out.2; rw [HNIL7.out] at h; exact explore_end h)
              go_wp2
              go_ret
              exact ⟨ret_i HO.out, hb7⟩
            · intro X Y C w8 cnt8 hin hLp hfp hr8 hlt8 hg8 hs8 hen
              obtain ⟨q, hq, hqk⟩ := anyQ_iff.1 hLp
              have hql := HI.out.1 q hq
              have HBD := HLB.out q hql
              rw [← hqk] at HBD
              obtain ⟨x1, x2, y1, y2, hxy⟩ := HBD
              dsimp only at x1 x2 y1 y2 hxy
              obtain ⟨q', _, hqk', hCe⟩ := fS_some hfp
              have hqq : q = q' := keyQ_inj (hqk.symm.trans hqk')
              subst hqq
              have hYr : Y = runR l q := congrArg Prod.snd hqk
              obtain ⟨f', _, hbd, hinn, hexp⟩ := explore_step HI.out.2 hq
              rw [hqk, anyQ_cut] at hr8
              rw [← hYr] at hCe hinn hexp
              rw [← hCe] at hinn hexp
              have hCb := pwI_bd (m := Y) ⟨y1, y2⟩
              rw [← hCe] at hCb
              have HEXP := Lib.hid hexp
              have HINN := Lib.hid hinn
              have HRM : Hid (∀ r ∈ rm.filter (isNot q), r ∈ l) := Lib.hid (fun r h => HI.out.1 r (List.mem_filter.1 h).1)
              (try dsimp only [bkV] at hen)
              (try dsimp only [bkV])
              have hb8 : Below w.heap.size w w8 := hb7.grown hg8 hb7.size (fun j e => by cases e; exact hsz5)
              have hss : w.heap.size ≤ w8.heap.size := hb8.size
              obtain ⟨o1, o2, m1, m2⟩ := hbd
              obtain ⟨C1, C2⟩ := hCb
              have p1 : 0 ≤ O * C := Int.mul_nonneg o1 (by omega)
              have p2 : O * C ≤ 1000000000 * 4782969 := Int.mul_le_mul o2 C2 (by omega) (by omega)
              have hmul : IntKind.i64.wrap (O * C) = O * C := IntWalk.i64_in _ (by omega)
              have hmul2 : wrap64 (O * C) = O * C := IntWalk.wrap64_in _ (by omega)
              have hr9 := hr8.alloc (.cells #[.int .i64 X, .int .i64 Y] 88)
              have hb9 := hb8.alloc hss (.cells #[.int .i64 X, .int .i64 Y] 88)
              clear hLp hfp hqk hxy hg8 hqk' hCe hYr hexp hinn
              go_wp2
              go_loop [10, 11, 84] (fun o m i => ∃ k : Nat, (k : Int) ≤ Y ∧ i = .int .i64 k ∧ o = .int .i64 (innerAt (O * C) M k) ∧ m = .int .i64 (M + k)) (fun _ _ i => (Y - intOf i).toNat)
              case atStart => exact ⟨0, by omega, rfl, rfl, by simp⟩
              case round =>
                obtain ⟨k3, hk3, rfl, rfl, rfl⟩ := hrel
                clear hmul hmul2
                by_cases hlt3 : (k3 : Int) < Y
                · have HB := HINN.out k3 (by omega)
                  have HST := Lib.hid (innerAt_succ (O * C) M k3)
                  obtain ⟨V, HV⟩ : ∃ V, Hid (V = innerAt (O * C) M k3) := ⟨_, Lib.hid rfl⟩
                  rw [← HV.out] at HB ⊢
                  obtain ⟨v1, v2, v3⟩ := HB
                  have v4 : 0 ≤ V * (M + (k3 : Int) + 1) := Int.mul_nonneg v1 (by omega)
                  have hw : IntKind.i64.wrap (V * (M + (k3 : Int) + 1)) = V * (M + (k3 : Int) + 1) := IntWalk.i64_in _ (by omega)
                  have hw' : wrap64 (V * (M + (k3 : Int) + 1)) = V * (M + (k3 : Int) + 1) := IntWalk.wrap64_in _ (by omega)
                  go_wp2
                  go_round
                  case rel => exact ⟨k3 + 1, by omega, by go_num, by rw [HST.out, ← HV.out], by congr 1; omega⟩
                  case measure => simp [intOf]; omega
                · have HK3 : Hid (k3 = Y.toNat) := Lib.hid (by omega)
                  have HKY : Hid ((k3 : Int) = Y) := Lib.hid (by omega)
                  go_wp2
                  go_roundw
                  case rel => exact ⟨rm.filter (isNot q), cnt8, f', innerAt (O * C) M Y.toNat, M + Y, by rw [HK3.out], by rw [HKY.out], hr9, hb9, Lib.hid ⟨HRM.out, HEXP.out⟩⟩
                  case measure => rw [hr9.left_eq, hr7.left_eq]; omega
        · intro X Y C w1 cnt1 hin hLp hfp hr1 hlt1 hg1 hs1 hen
          obtain ⟨q, hq, hqk⟩ := anyQ_iff.1 hLp
          have hql := HREM.out q hq
          have HBD := HLB.out q hql
          rw [← hqk] at HBD
          obtain ⟨x1, x2, y1, y2, hxy⟩ := HBD
          dsimp only at x1 x2 y1 y2 hxy
          rw [hqk, anyQ_cut] at hr1
          have HQK := Lib.hid hqk
          have HXY := Lib.hid hxy
          (try dsimp only [bkV] at hen)
          (try dsimp only [bkV])
          have hb1 : Below w.heap.size w w1 := hbi.grown hg1 hbi.size (fun j e => by cases e; exact hsz)
          have hx1 := (hx.below hb1).more hb1.size
          have hss : w.heap.size ≤ w1.heap.size := hb1.size
          clear hLp hfp hqk hxy hg1
          by_cases hm1 : q + 1 ∈ l
          · have HC : Hid (decide (X + Y ∈ l) = true) := Lib.hid (by rw [HXY.out]; exact decide_eq_true hm1)
            go_wp2_with (first
              | (go_at_call 59; refine (lContains _ _ _ _ _ _ _ (hx1.alloc (Nat.le_refl _) _) (by omega) _ HC).mono ?_; rintro e w' ⟨rfl, rfl⟩)
              | (at_delete; refine Mr.delete_op rfl (.tmp 70) (.tmp 71) rfl rfl (hr1.alloc _) (X, Y) rfl hin ?_; intro w3 cnt3 hr3 hlt3 hg3 hs3; go_frame))
            rw [HQK.out, anyQ_cut] at hr3
            have HFC : Hid (cutP (fS l (l.filter (keepB l rem))) (keyQ l q) = fS l (l.filter (keepB l (rem.filter (isNot q))))) := Lib.hid (keep_cut hm1)
            rw [HFC.out, show (rem.filter (isNot q)).filter (isNot q) = rem.filter (isNot q) by simp [List.filter_filter]] at hr3
            go_roundw
            case rel => exact ⟨rem.filter (isNot q), cnt3, hr3, (hb1.alloc hss _).grown hg3 (by simp; omega) (fun j e => by cases e; exact Nat.le_refl _), Lib.hid (fun r h => HREM.out r (List.mem_filter.1 h).1)⟩
            case measure => rw [hr3.left_eq, hr.left_eq]; omega
          · have HC : Hid (decide (X + Y ∈ l) = false) := Lib.hid (by rw [HXY.out]; exact decide_eq_false hm1)
            go_wp2_with (go_at_call 59; refine (lContains _ _ _ _ _ _ _ (hx1.alloc (Nat.le_refl _) _) (by omega) _ HC).mono ?_; rintro e w' ⟨rfl, rfl⟩)
            have HFS := Lib.hid (keep_stays (l := l) (rem := rem) hm1)
            have hr3 := hr1.alloc (.cells #[.int .i64 X, .int .i64 Y] 88)
            rw [HFS.out] at hr3
            go_roundw
            case rel => exact ⟨rem.filter (isNot q), cnt1, hr3, hb1.alloc hss _, Lib.hid (fun r h => HREM.out r (List.mem_filter.1 h).1)⟩
            case measure => rw [hr3.left_eq, hr.left_eq]; omega
end Go.Proofs.Ytkeiajncmhkdmaa

namespace Go.Proofs.Ytkeiajncmhkdmaa
open Go.RowKit Go.Shelf

theorem lLeave_many (p : Int) (A : Option Addr) (n c : Nat) (w : World) (hp : p < 1 ∨ 8 < p) :
    Calls Try.prog 36 #[.int .i64 p, .slice A n c] w fun e w' => e = .returned (.tuple #[.int .i64 0, .int .i64 6]) ∧ Below w.heap.size w w' := by
  have HB : Hid ([p].any (outB 1 8) = true) := Lib.hid (by simp [outB]; omega)
  have hlit := (Oi.lit1 w p).ri
  go_enter Try.func36, Try.ntmps36
  go_wp2_with (go_at_call 52; refine (lWithin _ _ _ _ _ _ _ hlit (by omega) _ HB).mono ?_; rintro e w1 ⟨rfl, hb, hs⟩; clear hs)
  go_ret2
  exact ⟨rfl, ((Below.refl _ w).alloc (Nat.le_refl _) _).trans (hb.mono (by simp))⟩

set_option maxHeartbeats 1000000 in
theorem lLeave_ok (b : Nat) (A : Option Addr) (n c : Nat) (xs : List Int) (w : World) (hx : Ri w w.heap.size A n xs) (hn : n ≤ 1048576) (hb1 : 1 ≤ b) (hb8 : b ≤ 8) :
    Calls Try.prog 36 #[.int .i64 (b : Int), .slice A n c] w fun e w' => e = .returned (.tuple #[.int .i64 (leaveR b xs).1, .int .i64 (leaveR b xs).2]) ∧ Below w.heap.size w w' := by
  have HL := Lib.hid hx.len
  have HB : Hid ([(b : Int)].any (outB 1 8) = false) := Lib.hid (by simp [outB]; omega)
  obtain ⟨R, HR⟩ : ∃ R, Hid (R = leaveR b xs) := ⟨_, Lib.hid rfl⟩
  rw [← HR.out]
  have hlit := (Oi.lit1 w (b : Int)).ri
  go_enter Try.func36, Try.ntmps36
  go_wp2_with fail
  refine (lWithin _ _ _ _ _ _ _ hlit (by omega) _ HB).mono ?_
  rintro e w1 ⟨rfl, hb, hs⟩
  have hbw : Below w.heap.size w w1 := ((Below.refl _ w).alloc (Nat.le_refl _) _).trans (hb.mono (by simp))
  clear hs hb
  go_wp2_with fail
  go_loopw [6, 15] (fun t i wr => ∃ (k : Nat) (z : Int), k ≤ n ∧ i = .int .i64 k ∧ t = .int .i64 z ∧ 0 ≤ z ∧ z ≤ 8 ∧ Hid ((incR (b : Int) (xs.take k)).1 = true ∧ z = (incR (b : Int) (xs.take k)).2) ∧ Below w.heap.size w wr) (fun _ i _ => n - (intOf i).toNat)
  case atStart => exact ⟨0, 0, by omega, rfl, rfl, by omega, by omega, Lib.hid ⟨rfl, rfl⟩, hbw⟩
  case round =>
    obtain ⟨k, z, hk, rfl, rfl, hz0, hz8, HI, hbk⟩ := hrel
    have hsk := hbk.size
    by_cases hlt : k < n
    · obtain ⟨ad, x, rfl, _, hc, hxk, _⟩ := (hx.below hbk).at_ hlt
      have HST := Lib.hid (incR_step (p := (b : Int)) hxk.out)
      have hlit2 := (Oi.lit1 wr x).ri
      have hba : Below w.heap.size w (wr.alloc (.cells #[.int .i64 x] 3)) := hbk.alloc hsk _
      by_cases hout : x < z ∨ (b : Int) - 1 < x
      · have HO : Hid ([x].any (outB z ((b : Int) - 1)) = true) := Lib.hid (by simp [outB]; omega)
        have HE : Hid (R = (0, 3)) := Lib.hid (by
          rw [HR.out]
          refine leaveR_bad (incR_bad (k := k + 1) ?_)
          rw [HST.out]
          simp only [stepI, Bool.and_eq_false_iff, decide_eq_false_iff_not, ← HI.out.2]
          rcases hout with h | h
          · exact .inl (.inr (by omega))
          · exact .inr (by omega))
        go_wp2_with fail
        refine (lWithin z ((b : Int) - 1) _ 1 1 [x] _ hlit2 (by omega) _ HO).mono ?_
        rintro e w2 ⟨rfl, hb2, hs2⟩
        clear hs2
        go_wp2
        go_ret2
        rw [HE.out]
        exact ⟨rfl, hba.trans (hb2.mono (by simp; omega))⟩
      · have HO : Hid ([x].any (outB z ((b : Int) - 1)) = false) := Lib.hid (by simp [outB]; omega)
        have HI2 : Hid ((incR (b : Int) (xs.take (k + 1))).1 = true ∧ x + 1 = (incR (b : Int) (xs.take (k + 1))).2) := Lib.hid (by
          rw [HST.out]
          refine ⟨?_, rfl⟩
          simp only [stepI, Bool.and_eq_true, decide_eq_true_eq, ← HI.out.2]
          exact ⟨⟨HI.out.1, by omega⟩, by omega⟩)
        have hx0 : 0 ≤ x := by omega
        have hx8 : x < 8 := by omega
        go_wp2_with fail
        refine (lWithin z ((b : Int) - 1) _ 1 1 [x] _ hlit2 (by omega) _ HO).mono ?_
        rintro e w2 ⟨rfl, hb2, hs2⟩
        clear hs2
        go_wp2
        go_roundw
        case rel => exact ⟨k + 1, x + 1, by omega, by go_num, rfl, by omega, by omega, HI2, hba.trans (hb2.mono (by simp; omega))⟩
        case measure => simp [intOf]; omega
    · obtain ⟨wo, rfl⟩ : ∃ wo : World, wo = wr := ⟨_, rfl⟩
      have HT : Hid (xs.take k = xs) := Lib.hid (List.take_of_length_le (by rw [HL.out]; omega))
      have HII : Hid ((incR (b : Int) xs).1 = true) := Lib.hid (by have := HI.out.1; rw [HT.out] at this; exact this)
      have HE : Hid (R = (leftAt (setBits xs), 0)) := Lib.hid (by rw [HR.out]; exact leaveR_ok HII.out)
      have HLI : Hid (xs = listed (setBits xs)) := Lib.hid ((inc_listed (p := (b : Int)) (by omega) xs HII.out).2.2.2).symm
      have hsb : setBits xs < 256 := Nat.lt_of_lt_of_le (inc_lt hb8 xs HII.out) (two8 hb8)
      have HSB := Lib.hid hsb
      clear hsb
      go_wp2_with fail
      refine (lNewPusher _ _ _).mono ?_
      rintro e w3 ⟨rfl, hpu, hb3, hs3⟩
      clear hpu hs3
      have hb4 : Below w.heap.size w w3 := hbk.trans (hb3.mono hsk)
      have hl := pLeft (setBits xs) HSB.out xs HLI (some ⟨wo.heap.size, 0, none⟩) A n c w3 ((hx.below hb4).more hb4.size)
      go_wp2_with fail
      refine hl.mono ?_
      rintro e w5 ⟨rfl, hb5⟩
      go_wp2
      go_ret2
      rw [HE.out]
      exact ⟨rfl, hb4.trans (hb5.mono hb4.size)⟩
end Go.Proofs.Ytkeiajncmhkdmaa
