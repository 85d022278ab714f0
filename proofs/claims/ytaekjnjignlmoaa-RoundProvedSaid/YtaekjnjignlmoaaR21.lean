/-
  The reference: 'least'. Printed by gen_r21.py.
-/
import Derived.Test.YtaekjnjignlmoaaR20
import Derived.Test.YtaekjnjignlmoaaSmA
import Derived.Test.YtaekjnjignlmoaaTb
namespace Go.Proofs.Ytaekjnjignlmoaa
open Go.RowKit Go.Shelf

/-- The least sum of an end that exists, and is not Begin; -1: none in time. -/
def leastR (b : Int) (ps : List (Int × Int)) (num : Nat → Nat → Nat → Int) (x y e : Nat) : Int := if too ps (stopE b ps x y e) < leastE b ps num x y e then -1 else leastE b ps num x y e
theorem fromE_elim {b : Int} {ps : List (Int × Int)} {num : Nat → Nat → Nat → Int} {x y e f : Nat} : fromE b ps num x y e f = Option.elim (placeE b ps (x + e - 1) (y - e) f) (-1) (fun p => if num (x + e - 1) (y - e) f < 0 then -1 else num (x + e - 1) (y - e) f + far p (plc ps (stopE b ps x y e))) := by
  unfold fromE
  cases placeE b ps (x + e - 1) (y - e) f <;> rfl
theorem leastR_sum {b : Int} {ps : List (Int × Int)} {num : Nat → Nat → Nat → Int} {x y e : Nat} (h0 : ¬ x + y = 0) (hi : isE x y e = true) : sumE b ps num x y e = leastR b ps num x y e := by
  unfold sumE leastR
  rw [if_neg h0, if_pos hi]
set_option maxRecDepth 100000 in
set_option maxHeartbeats 8000000 in
theorem rLeast0 (b : Int) (A : Option Addr) (n c : Nat) (ps : List (Int × Int)) (w : World) (h_p : Rp w w.heap.size A n ps) (HP : Hid (Pier b ps)) (x y : Nat) (hx : x ≤ lefts b ps) (hy : y ≤ n - lefts b ps) (D : Option Addr) (N dc X m : Nat) (num : Nat → Nat → Nat → Int) (h_t : Tb w w.heap.size D N X m num) (_hN : N ≤ 1000) (hm : m ≤ 1000) (HNB : Hid (∀ x y e, -1 ≤ num x y e ∧ num x y e ≤ 9000)) (hX : x + 0 - 1 < X) (hM : y - 0 < m) (hi : isE x y 0 = true) (v : Int) (HV : Hid (leastR b ps num x y 0 = v)) :
    Calls Try.prog 89 #[.agg #[.int .i64 b, .slice A n c], .slice D N dc, .int .i64 (x : Int), .int .i64 (y : Int), .int .i64 0] w (RetI w v) := by
  have HL := Lib.hid h_p.len
  have hn1 : 1 ≤ n := by rw [← HL.out]; exact HP.out.lo
  have hn10 : n ≤ 10 := by rw [← HL.out]; exact HP.out.hi
  have hqn := lefts_le b ps
  rw [HL.out] at hqn
  obtain ⟨q, HQ⟩ : ∃ q, Hid (lefts b ps = q) := ⟨_, Lib.hid rfl⟩
  rw [HQ.out] at hx hy hqn
  have h1 : 0 < x := by unfold isE at hi; rw [if_pos rfl] at hi; exact of_decide_eq_true hi
  obtain ⟨o, HO⟩ : ∃ o, Hid (plc ps (stopE b ps x y 0) = o) := ⟨_, Lib.hid rfl⟩
  have HPO : Hid (placeE b ps x y 0 = some o) := Lib.hid (by
    unfold placeE
    rw [if_neg (by omega), if_pos hi, HO.out])
  have hob := placeE_in HP.out HPO.out
  have hXN := h_t.1
  obtain ⟨tv, HTV⟩ : ∃ v, Hid (too ps (stopE b ps x y 0) = v) := ⟨_, Lib.hid rfl⟩
  obtain ⟨x1, HX1⟩ : ∃ k : Nat, Hid (x = k + 1) := ⟨x - 1, Lib.hid (by omega)⟩
  have hxx : x1 < x := by have := HX1.out; omega
  have hX1 : x1 < X := by have := HX1.out; omega
  have hY1 : y < m := hM
  have hX1N : x1 < N := by omega
  have hw1 : IntKind.i64.wrap ((x : Int) - 1) = (x1 : Int) := by rw [IntWalk.i64_in _ (by omega)]; have := HX1.out; omega
  have hw2 : IntKind.i64.wrap (x1 : Int) = (x1 : Int) := IntWalk.i64_in _ (by omega)
  have hw3 : IntKind.i64.wrap (y : Int) = (y : Int) := IntWalk.i64_in _ (by omega)
  have hmix : Try.prog.follows .mixedOrders = true := by kernel_rfl
  have k1 := Bk.new w 24 #[.int .i64 b, .slice A n c]
  have hb : Below w.heap.size w (w.alloc (.cells #[.int .i64 b, .slice A n c] 24)) := (Below.refl _ _).alloc (Nat.le_refl _) _
  have q0 := k1.cell 0
  have q1 := k1.cell 1
  go_enter Try.func89, Try.ntmps89
  go_wp2_with fail
  clear q0 q1
  obtain ⟨u1, hu⟩ : ∃ k, w.heap.size = k := ⟨_, rfl⟩
  obtain ⟨w1, hW⟩ : ∃ W, w.alloc (.cells #[.int .i64 b, .slice A n c] 24) = W := ⟨_, rfl⟩
  rw [hW] at k1 hb ⊢
  rw [hu] at k1 ⊢
  clear hW
  have HU := Lib.hid hu
  clear hu
  have Bw1 : Below w.heap.size w w1 := hb
  replace h_p := h_p.next hb (Nat.le_refl _) hb.size
  replace h_t := h_t.next hb (Nat.le_refl _) hb.size
  clear hb
  refine (rPlace0 b A n c ps _ h_p HP x y (by rw [HQ.out]; exact hx) (by rw [HQ.out]; exact hy) (some o) HPO).mono ?_
  rintro e w2 ⟨rfl, hb⟩
  have Bw2 : Below w.heap.size w w2 := Bw1.trans (hb.mono Bw1.size)
  replace h_p := h_p.next hb (Nat.le_refl _) hb.size
  replace h_t := h_t.next hb (Nat.le_refl _) hb.size
  replace k1 := k1.below hb k1.lt
  clear Bw1
  clear hb
  dsimp only [Option.getD_some, Option.isSome_some]
  have d_k1_0 := k1.cell 0
  have d_k1_1 := k1.cell 1
  go_wp2
  clear d_k1_0 d_k1_1
  go_loopw [15, 16] (fun o i wr => ∃ f : Nat, f ≤ 2 ∧ i = .int .i64 (f : Int) ∧ o = .int .i64 (leastTo b ps num x y 0 f) ∧ Below w2.heap.size w2 wr) (fun _ i _ => 2 - (intOf i).toNat)
  case atStart => exact ⟨0, by omega, rfl, rfl, Below.refl _ _⟩
  case round =>
    obtain ⟨f, hf, rfl, rfl, hb⟩ := hrel
    obtain ⟨w3, hW⟩ : ∃ W : World, wr = W := ⟨_, rfl⟩
    rw [hW] at hb ⊢
    clear hW
    have Bl := hb
    have Bw3 : Below w.heap.size w w3 := Bw2.trans (hb.mono Bw2.size)
    replace h_p := h_p.next hb (Nat.le_refl _) hb.size
    replace h_t := h_t.next hb (Nat.le_refl _) hb.size
    replace k1 := k1.below hb k1.lt
    clear Bw2
    clear hb
    obtain ⟨sf, HSF⟩ : ∃ z, Hid (leastTo b ps num x y 0 f = z) := ⟨_, Lib.hid rfl⟩
    have hsf := leastTo_bd HP.out HNB.out x y 0 f
    rw [HSF.out] at hsf ⊢
    by_cases hlt : f < 2
    · obtain ⟨z, HZ⟩ : ∃ z, Hid (num x1 y f = z) := ⟨_, Lib.hid rfl⟩
      have hzb := HNB.out x1 y f
      rw [HZ.out] at hzb
      obtain ⟨ad, rk, cr, rfl, _, r1, _, _, v0, v1⟩ := h_t.at_ hX1 hY1
      obtain ⟨v', HV'⟩ : ∃ v', Hid (placeE b ps x1 y f = v') := ⟨_, Lib.hid rfl⟩
      have HFR : Hid (fromE b ps num x y 0 f = Option.elim v' (-1) (fun p => if z < 0 then -1 else z + far p o)) := Lib.hid (by
        rw [← HV'.out, ← HZ.out, ← HO.out, fromE_elim]
        rw [show x + 0 - 1 = x1 from by have := HX1.out; omega, show y - 0 = y from by omega])
      have HNX : Hid (leastTo b ps num x y 0 (f + 1) = lessE sf (fromE b ps num x y 0 f)) := Lib.hid (by rw [leastTo, HSF.out])
      clear HSF
      have d_k1_0 := k1.cell 0
      have d_k1_1 := k1.cell 1
      go_wp2_with fail
      clear d_k1_0 d_k1_1
      refine (rPlace b A n c ps _ h_p HP x1 y (by rw [HQ.out]; omega) (by rw [HQ.out]; omega) f hlt v' HV').mono ?_
      rintro e w4 ⟨rfl, hb⟩
      have Bw4 : Below w.heap.size w w4 := Bw3.trans (hb.mono Bw3.size)
      replace h_p := h_p.next hb (Nat.le_refl _) hb.size
      replace h_t := h_t.next hb (Nat.le_refl _) hb.size
      replace k1 := k1.below hb k1.lt
      replace Bl := Bl.trans (hb.mono Bl.size)
      clear Bw3
      clear hb
      rcases (show f = 0 ∨ f = 1 by omega) with h01 | h01
      · subst h01
        obtain ⟨ad2, rk2, cr2, e1, _, r1, _, _, v0, v1⟩ := h_t.at_ hX1 hY1
        obtain rfl : ad = ad2 := Option.some.inj e1
        clear e1
        rw [HZ.out] at v0
        rcases v' with _ | p
        · dsimp only [Option.getD_none, Option.isSome_none]
          have HFR2 : Hid (fromE b ps num x y 0 0 = -1) := HFR
          have d_k1_0 := k1.cell 0
          have d_k1_1 := k1.cell 1
          go_wp2
          go_roundw
          case rel => exact ⟨1, by omega, rfl, by rw [HNX.out, HFR2.out]; unfold lessE; rw [if_pos (by decide)], Bl⟩
          case measure => simp [intOf]
        · dsimp only [Option.getD_some, Option.isSome_some]
          have HFR2 : Hid (fromE b ps num x y 0 0 = if z < 0 then -1 else z + far p o) := HFR
          have hpb := placeE_in HP.out HV'.out
          by_cases hz : z < 0
          · have hz2 : decide (0 ≤ z) = false := decide_eq_false (by omega)
            have HZN := Lib.hid hz
            clear hz
            have d_k1_0 := k1.cell 0
            have d_k1_1 := k1.cell 1
            go_wp2
            go_roundw
            case rel => exact ⟨1, by omega, rfl, by rw [HNX.out, HFR2.out]; rw [if_pos (by have := HZN.out; omega)]; unfold lessE; rw [if_pos (by decide)], Bl⟩
            case measure => simp [intOf]
          have hz2 : decide (0 ≤ z) = true := decide_eq_true (by omega)
          have HZN := Lib.hid hz
          obtain ⟨fv, HFV⟩ : ∃ v, Hid (far p o = v) := ⟨_, Lib.hid rfl⟩
          have hfv := far_bd hpb hob
          rw [HFV.out] at hfv
          have hwf : IntKind.i64.wrap (z + fv) = z + fv := IntWalk.i64_in _ (by omega)
          clear hz
          by_cases hs : sf < 0
          · have hs2 : decide (sf < 0) = true := decide_eq_true hs
            have HSN := Lib.hid hs
            clear hs
            have d_k1_0 := k1.cell 0
            have d_k1_1 := k1.cell 1
            go_wp2_with fail
            refine (rFar p o _ (by omega) (by omega)).mono ?_
            rintro e w' ⟨rfl, rfl⟩
            rw [HFV.out]
            go_wp2
            go_roundw
            case rel => exact ⟨1, by omega, rfl, by rw [HNX.out, HFR2.out]; rw [if_neg (by have := HZN.out; omega)]; rw [HFV.out]; unfold lessE; rw [if_neg (by have := HZN.out; omega), if_pos (Or.inl HSN.out)], Bl⟩
            case measure => simp [intOf]
          have hs2 : decide (sf < 0) = false := decide_eq_false hs
          have HSN := Lib.hid hs
          clear hs
          have d_k1_0 := k1.cell 0
          have d_k1_1 := k1.cell 1
          go_wp2_with fail
          refine (rFar p o _ (by omega) (by omega)).mono ?_
          rintro e w' ⟨rfl, rfl⟩
          rw [HFV.out]
          by_cases hl : z + fv < sf
          · have hl2 : decide (z + fv < sf) = true := decide_eq_true hl
            have HLN := Lib.hid hl
            clear hl
            go_wp2_with fail
            refine (rFar p o _ (by omega) (by omega)).mono ?_
            rintro e w' ⟨rfl, rfl⟩
            rw [HFV.out]
            go_wp2
            go_roundw
            case rel => exact ⟨1, by omega, rfl, by rw [HNX.out, HFR2.out]; rw [if_neg (by have := HZN.out; omega)]; rw [HFV.out]; unfold lessE; rw [if_neg (by have := HZN.out; omega), if_pos (Or.inr HLN.out)], Bl⟩
            case measure => simp [intOf]
          · have hl2 : decide (z + fv < sf) = false := decide_eq_false hl
            have HLN := Lib.hid hl
            clear hl
            go_wp2
            go_roundw
            case rel => exact ⟨1, by omega, rfl, by rw [HNX.out, HFR2.out]; rw [if_neg (by have := HZN.out; omega)]; rw [HFV.out]; unfold lessE; rw [if_neg (by have := HZN.out; omega), if_neg (by have := HSN.out; have := HLN.out; omega)], Bl⟩
            case measure => simp [intOf]
      · subst h01
        obtain ⟨ad2, rk2, cr2, e1, _, r1, _, _, v0, v1⟩ := h_t.at_ hX1 hY1
        obtain rfl : ad = ad2 := Option.some.inj e1
        clear e1
        rw [HZ.out] at v1
        rcases v' with _ | p
        · dsimp only [Option.getD_none, Option.isSome_none]
          have HFR2 : Hid (fromE b ps num x y 0 1 = -1) := HFR
          have d_k1_0 := k1.cell 0
          have d_k1_1 := k1.cell 1
          go_wp2
          go_roundw
          case rel => exact ⟨2, by omega, rfl, by rw [HNX.out, HFR2.out]; unfold lessE; rw [if_pos (by decide)], Bl⟩
          case measure => simp [intOf]
        · dsimp only [Option.getD_some, Option.isSome_some]
          have HFR2 : Hid (fromE b ps num x y 0 1 = if z < 0 then -1 else z + far p o) := HFR
          have hpb := placeE_in HP.out HV'.out
          by_cases hz : z < 0
          · have hz2 : decide (0 ≤ z) = false := decide_eq_false (by omega)
            have HZN := Lib.hid hz
            clear hz
            have d_k1_0 := k1.cell 0
            have d_k1_1 := k1.cell 1
            go_wp2
            go_roundw
            case rel => exact ⟨2, by omega, rfl, by rw [HNX.out, HFR2.out]; rw [if_pos (by have := HZN.out; omega)]; unfold lessE; rw [if_pos (by decide)], Bl⟩
            case measure => simp [intOf]
          have hz2 : decide (0 ≤ z) = true := decide_eq_true (by omega)
          have HZN := Lib.hid hz
          obtain ⟨fv, HFV⟩ : ∃ v, Hid (far p o = v) := ⟨_, Lib.hid rfl⟩
          have hfv := far_bd hpb hob
          rw [HFV.out] at hfv
          have hwf : IntKind.i64.wrap (z + fv) = z + fv := IntWalk.i64_in _ (by omega)
          clear hz
          by_cases hs : sf < 0
          · have hs2 : decide (sf < 0) = true := decide_eq_true hs
            have HSN := Lib.hid hs
            clear hs
            have d_k1_0 := k1.cell 0
            have d_k1_1 := k1.cell 1
            go_wp2_with fail
            refine (rFar p o _ (by omega) (by omega)).mono ?_
            rintro e w' ⟨rfl, rfl⟩
            rw [HFV.out]
            go_wp2
            go_roundw
            case rel => exact ⟨2, by omega, rfl, by rw [HNX.out, HFR2.out]; rw [if_neg (by have := HZN.out; omega)]; rw [HFV.out]; unfold lessE; rw [if_neg (by have := HZN.out; omega), if_pos (Or.inl HSN.out)], Bl⟩
            case measure => simp [intOf]
          have hs2 : decide (sf < 0) = false := decide_eq_false hs
          have HSN := Lib.hid hs
          clear hs
          have d_k1_0 := k1.cell 0
          have d_k1_1 := k1.cell 1
          go_wp2_with fail
          refine (rFar p o _ (by omega) (by omega)).mono ?_
          rintro e w' ⟨rfl, rfl⟩
          rw [HFV.out]
          by_cases hl : z + fv < sf
          · have hl2 : decide (z + fv < sf) = true := decide_eq_true hl
            have HLN := Lib.hid hl
            clear hl
            go_wp2_with fail
            refine (rFar p o _ (by omega) (by omega)).mono ?_
            rintro e w' ⟨rfl, rfl⟩
            rw [HFV.out]
            go_wp2
            go_roundw
            case rel => exact ⟨2, by omega, rfl, by rw [HNX.out, HFR2.out]; rw [if_neg (by have := HZN.out; omega)]; rw [HFV.out]; unfold lessE; rw [if_neg (by have := HZN.out; omega), if_pos (Or.inr HLN.out)], Bl⟩
            case measure => simp [intOf]
          · have hl2 : decide (z + fv < sf) = false := decide_eq_false hl
            have HLN := Lib.hid hl
            clear hl
            go_wp2
            go_roundw
            case rel => exact ⟨2, by omega, rfl, by rw [HNX.out, HFR2.out]; rw [if_neg (by have := HZN.out; omega)]; rw [HFV.out]; unfold lessE; rw [if_neg (by have := HZN.out; omega), if_neg (by have := HSN.out; have := HLN.out; omega)], Bl⟩
            case measure => simp [intOf]
    · have hf2 : f = 2 := by omega
      subst hf2
      have HLE : Hid (leastE b ps num x y 0 = sf) := Lib.hid (by rw [← HSF.out]; rfl)
      have d_k1_0 := k1.cell 0
      have d_k1_1 := k1.cell 1
      go_wp2_with fail
      clear d_k1_0 d_k1_1
      refine (rTo0 b A n c ps _ h_p HP x y (by rw [HQ.out]; exact hx) (by rw [HQ.out]; exact hy) hi tv HTV).mono ?_
      rintro e w4 ⟨rfl, hb⟩
      have Bw4 : Below w.heap.size w w4 := Bw3.trans (hb.mono Bw3.size)
      replace h_p := h_p.next hb (Nat.le_refl _) hb.size
      replace h_t := h_t.next hb (Nat.le_refl _) hb.size
      replace k1 := k1.below hb k1.lt
      replace Bl := Bl.trans (hb.mono Bl.size)
      clear Bw3
      clear hb
      by_cases ht : tv < sf
      · have ht2 : decide (tv < sf) = true := decide_eq_true ht
        have HTN := Lib.hid ht
        clear ht
        go_wp2
        go_ret
        exact ⟨ret_i (by rw [← HV.out]; unfold leastR; rw [HTV.out, HLE.out, if_pos (by have := HTN.out; omega)]), Bw4⟩
      · have ht2 : decide (tv < sf) = false := decide_eq_false ht
        have HTN := Lib.hid ht
        clear ht
        go_wp2
        go_ret
        exact ⟨ret_i (by rw [← HV.out]; unfold leastR; rw [HTV.out, HLE.out, if_neg (by have := HTN.out; omega)]), Bw4⟩
set_option maxRecDepth 100000 in
set_option maxHeartbeats 8000000 in
theorem rLeast1 (b : Int) (A : Option Addr) (n c : Nat) (ps : List (Int × Int)) (w : World) (h_p : Rp w w.heap.size A n ps) (HP : Hid (Pier b ps)) (x y : Nat) (hx : x ≤ lefts b ps) (hy : y ≤ n - lefts b ps) (D : Option Addr) (N dc X m : Nat) (num : Nat → Nat → Nat → Int) (h_t : Tb w w.heap.size D N X m num) (hN : N ≤ 1000) (_hm : m ≤ 1000) (HNB : Hid (∀ x y e, -1 ≤ num x y e ∧ num x y e ≤ 9000)) (hX : x + 1 - 1 < X) (hM : y - 1 < m) (hi : isE x y 1 = true) (v : Int) (HV : Hid (leastR b ps num x y 1 = v)) :
    Calls Try.prog 89 #[.agg #[.int .i64 b, .slice A n c], .slice D N dc, .int .i64 (x : Int), .int .i64 (y : Int), .int .i64 1] w (RetI w v) := by
  have HL := Lib.hid h_p.len
  have hn1 : 1 ≤ n := by rw [← HL.out]; exact HP.out.lo
  have hn10 : n ≤ 10 := by rw [← HL.out]; exact HP.out.hi
  have hqn := lefts_le b ps
  rw [HL.out] at hqn
  obtain ⟨q, HQ⟩ : ∃ q, Hid (lefts b ps = q) := ⟨_, Lib.hid rfl⟩
  rw [HQ.out] at hx hy hqn
  have h1 : 0 < y := by unfold isE at hi; rw [if_neg (by decide)] at hi; exact of_decide_eq_true hi
  obtain ⟨o, HO⟩ : ∃ o, Hid (plc ps (stopE b ps x y 1) = o) := ⟨_, Lib.hid rfl⟩
  have HPO : Hid (placeE b ps x y 1 = some o) := Lib.hid (by
    unfold placeE
    rw [if_neg (by omega), if_pos hi, HO.out])
  have hob := placeE_in HP.out HPO.out
  have hXN := h_t.1
  obtain ⟨tv, HTV⟩ : ∃ v, Hid (too ps (stopE b ps x y 1) = v) := ⟨_, Lib.hid rfl⟩
  obtain ⟨y1, HY1⟩ : ∃ k : Nat, Hid (y = k + 1) := ⟨y - 1, Lib.hid (by omega)⟩
  have hyy : y1 < y := by have := HY1.out; omega
  have hX1 : x < X := by omega
  have hX1N : x < N := by omega
  have hY1 : y1 < m := by have := HY1.out; omega
  have hw1 : IntKind.i64.wrap ((x : Int) - 1) = (x : Int) - 1 := IntWalk.i64_in _ (by omega)
  have hw2 : IntKind.i64.wrap (x : Int) = (x : Int) := IntWalk.i64_in _ (by omega)
  have hw4 : IntKind.i64.wrap ((x : Int) - 1 + 1) = (x : Int) := by rw [IntWalk.i64_in _ (by omega)]; omega
  have hw3 : IntKind.i64.wrap ((y : Int) - 1) = (y1 : Int) := by rw [IntWalk.i64_in _ (by omega)]; have := HY1.out; omega
  have hmix : Try.prog.follows .mixedOrders = true := by kernel_rfl
  have k1 := Bk.new w 24 #[.int .i64 b, .slice A n c]
  have hb : Below w.heap.size w (w.alloc (.cells #[.int .i64 b, .slice A n c] 24)) := (Below.refl _ _).alloc (Nat.le_refl _) _
  have q0 := k1.cell 0
  have q1 := k1.cell 1
  go_enter Try.func89, Try.ntmps89
  go_wp2_with fail
  clear q0 q1
  obtain ⟨u1, hu⟩ : ∃ k, w.heap.size = k := ⟨_, rfl⟩
  obtain ⟨w1, hW⟩ : ∃ W, w.alloc (.cells #[.int .i64 b, .slice A n c] 24) = W := ⟨_, rfl⟩
  rw [hW] at k1 hb ⊢
  rw [hu] at k1 ⊢
  clear hW
  have HU := Lib.hid hu
  clear hu
  have Bw1 : Below w.heap.size w w1 := hb
  replace h_p := h_p.next hb (Nat.le_refl _) hb.size
  replace h_t := h_t.next hb (Nat.le_refl _) hb.size
  clear hb
  refine (rPlace1 b A n c ps _ h_p HP x y (by rw [HQ.out]; exact hx) (by rw [HQ.out]; exact hy) (some o) HPO).mono ?_
  rintro e w2 ⟨rfl, hb⟩
  have Bw2 : Below w.heap.size w w2 := Bw1.trans (hb.mono Bw1.size)
  replace h_p := h_p.next hb (Nat.le_refl _) hb.size
  replace h_t := h_t.next hb (Nat.le_refl _) hb.size
  replace k1 := k1.below hb k1.lt
  clear Bw1
  clear hb
  dsimp only [Option.getD_some, Option.isSome_some]
  have d_k1_0 := k1.cell 0
  have d_k1_1 := k1.cell 1
  go_wp2
  clear d_k1_0 d_k1_1
  go_loopw [15, 16] (fun o i wr => ∃ f : Nat, f ≤ 2 ∧ i = .int .i64 (f : Int) ∧ o = .int .i64 (leastTo b ps num x y 1 f) ∧ Below w2.heap.size w2 wr) (fun _ i _ => 2 - (intOf i).toNat)
  case atStart => exact ⟨0, by omega, rfl, rfl, Below.refl _ _⟩
  case round =>
    obtain ⟨f, hf, rfl, rfl, hb⟩ := hrel
    obtain ⟨w3, hW⟩ : ∃ W : World, wr = W := ⟨_, rfl⟩
    rw [hW] at hb ⊢
    clear hW
    have Bl := hb
    have Bw3 : Below w.heap.size w w3 := Bw2.trans (hb.mono Bw2.size)
    replace h_p := h_p.next hb (Nat.le_refl _) hb.size
    replace h_t := h_t.next hb (Nat.le_refl _) hb.size
    replace k1 := k1.below hb k1.lt
    clear Bw2
    clear hb
    obtain ⟨sf, HSF⟩ : ∃ z, Hid (leastTo b ps num x y 1 f = z) := ⟨_, Lib.hid rfl⟩
    have hsf := leastTo_bd HP.out HNB.out x y 1 f
    rw [HSF.out] at hsf ⊢
    by_cases hlt : f < 2
    · obtain ⟨z, HZ⟩ : ∃ z, Hid (num x y1 f = z) := ⟨_, Lib.hid rfl⟩
      have hzb := HNB.out x y1 f
      rw [HZ.out] at hzb
      obtain ⟨ad, rk, cr, rfl, _, r1, _, _, v0, v1⟩ := h_t.at_ hX1 hY1
      obtain ⟨v', HV'⟩ : ∃ v', Hid (placeE b ps x y1 f = v') := ⟨_, Lib.hid rfl⟩
      have HFR : Hid (fromE b ps num x y 1 f = Option.elim v' (-1) (fun p => if z < 0 then -1 else z + far p o)) := Lib.hid (by
        rw [← HV'.out, ← HZ.out, ← HO.out, fromE_elim]
        rw [show x + 1 - 1 = x from by omega, show y - 1 = y1 from by have := HY1.out; omega])
      have HNX : Hid (leastTo b ps num x y 1 (f + 1) = lessE sf (fromE b ps num x y 1 f)) := Lib.hid (by rw [leastTo, HSF.out])
      clear HSF
      have d_k1_0 := k1.cell 0
      have d_k1_1 := k1.cell 1
      go_wp2_with fail
      clear d_k1_0 d_k1_1
      refine (rPlace b A n c ps _ h_p HP x y1 (by rw [HQ.out]; omega) (by rw [HQ.out]; omega) f hlt v' HV').mono ?_
      rintro e w4 ⟨rfl, hb⟩
      have Bw4 : Below w.heap.size w w4 := Bw3.trans (hb.mono Bw3.size)
      replace h_p := h_p.next hb (Nat.le_refl _) hb.size
      replace h_t := h_t.next hb (Nat.le_refl _) hb.size
      replace k1 := k1.below hb k1.lt
      replace Bl := Bl.trans (hb.mono Bl.size)
      clear Bw3
      clear hb
      rcases (show f = 0 ∨ f = 1 by omega) with h01 | h01
      · subst h01
        obtain ⟨ad2, rk2, cr2, e1, _, r1, _, _, v0, v1⟩ := h_t.at_ hX1 hY1
        obtain rfl : ad = ad2 := Option.some.inj e1
        clear e1
        rw [HZ.out] at v0
        rcases v' with _ | p
        · dsimp only [Option.getD_none, Option.isSome_none]
          have HFR2 : Hid (fromE b ps num x y 1 0 = -1) := HFR
          have d_k1_0 := k1.cell 0
          have d_k1_1 := k1.cell 1
          go_wp2
          go_roundw
          case rel => exact ⟨1, by omega, rfl, by rw [HNX.out, HFR2.out]; unfold lessE; rw [if_pos (by decide)], Bl⟩
          case measure => simp [intOf]
        · dsimp only [Option.getD_some, Option.isSome_some]
          have HFR2 : Hid (fromE b ps num x y 1 0 = if z < 0 then -1 else z + far p o) := HFR
          have hpb := placeE_in HP.out HV'.out
          by_cases hz : z < 0
          · have hz2 : decide (0 ≤ z) = false := decide_eq_false (by omega)
            have HZN := Lib.hid hz
            clear hz
            have d_k1_0 := k1.cell 0
            have d_k1_1 := k1.cell 1
            go_wp2
            go_roundw
            case rel => exact ⟨1, by omega, rfl, by rw [HNX.out, HFR2.out]; rw [if_pos (by have := HZN.out; omega)]; unfold lessE; rw [if_pos (by decide)], Bl⟩
            case measure => simp [intOf]
          have hz2 : decide (0 ≤ z) = true := decide_eq_true (by omega)
          have HZN := Lib.hid hz
          obtain ⟨fv, HFV⟩ : ∃ v, Hid (far p o = v) := ⟨_, Lib.hid rfl⟩
          have hfv := far_bd hpb hob
          rw [HFV.out] at hfv
          have hwf : IntKind.i64.wrap (z + fv) = z + fv := IntWalk.i64_in _ (by omega)
          clear hz
          by_cases hs : sf < 0
          · have hs2 : decide (sf < 0) = true := decide_eq_true hs
            have HSN := Lib.hid hs
            clear hs
            have d_k1_0 := k1.cell 0
            have d_k1_1 := k1.cell 1
            go_wp2_with fail
            refine (rFar p o _ (by omega) (by omega)).mono ?_
            rintro e w' ⟨rfl, rfl⟩
            rw [HFV.out]
            go_wp2
            go_roundw
            case rel => exact ⟨1, by omega, rfl, by rw [HNX.out, HFR2.out]; rw [if_neg (by have := HZN.out; omega)]; rw [HFV.out]; unfold lessE; rw [if_neg (by have := HZN.out; omega), if_pos (Or.inl HSN.out)], Bl⟩
            case measure => simp [intOf]
          have hs2 : decide (sf < 0) = false := decide_eq_false hs
          have HSN := Lib.hid hs
          clear hs
          have d_k1_0 := k1.cell 0
          have d_k1_1 := k1.cell 1
          go_wp2_with fail
          refine (rFar p o _ (by omega) (by omega)).mono ?_
          rintro e w' ⟨rfl, rfl⟩
          rw [HFV.out]
          by_cases hl : z + fv < sf
          · have hl2 : decide (z + fv < sf) = true := decide_eq_true hl
            have HLN := Lib.hid hl
            clear hl
            go_wp2_with fail
            refine (rFar p o _ (by omega) (by omega)).mono ?_
            rintro e w' ⟨rfl, rfl⟩
            rw [HFV.out]
            go_wp2
            go_roundw
            case rel => exact ⟨1, by omega, rfl, by rw [HNX.out, HFR2.out]; rw [if_neg (by have := HZN.out; omega)]; rw [HFV.out]; unfold lessE; rw [if_neg (by have := HZN.out; omega), if_pos (Or.inr HLN.out)], Bl⟩
            case measure => simp [intOf]
          · have hl2 : decide (z + fv < sf) = false := decide_eq_false hl
            have HLN := Lib.hid hl
            clear hl
            go_wp2
            go_roundw
            case rel => exact ⟨1, by omega, rfl, by rw [HNX.out, HFR2.out]; rw [if_neg (by have := HZN.out; omega)]; rw [HFV.out]; unfold lessE; rw [if_neg (by have := HZN.out; omega), if_neg (by have := HSN.out; have := HLN.out; omega)], Bl⟩
            case measure => simp [intOf]
      · subst h01
        obtain ⟨ad2, rk2, cr2, e1, _, r1, _, _, v0, v1⟩ := h_t.at_ hX1 hY1
        obtain rfl : ad = ad2 := Option.some.inj e1
        clear e1
        rw [HZ.out] at v1
        rcases v' with _ | p
        · dsimp only [Option.getD_none, Option.isSome_none]
          have HFR2 : Hid (fromE b ps num x y 1 1 = -1) := HFR
          have d_k1_0 := k1.cell 0
          have d_k1_1 := k1.cell 1
          go_wp2
          go_roundw
          case rel => exact ⟨2, by omega, rfl, by rw [HNX.out, HFR2.out]; unfold lessE; rw [if_pos (by decide)], Bl⟩
          case measure => simp [intOf]
        · dsimp only [Option.getD_some, Option.isSome_some]
          have HFR2 : Hid (fromE b ps num x y 1 1 = if z < 0 then -1 else z + far p o) := HFR
          have hpb := placeE_in HP.out HV'.out
          by_cases hz : z < 0
          · have hz2 : decide (0 ≤ z) = false := decide_eq_false (by omega)
            have HZN := Lib.hid hz
            clear hz
            have d_k1_0 := k1.cell 0
            have d_k1_1 := k1.cell 1
            go_wp2
            go_roundw
            case rel => exact ⟨2, by omega, rfl, by rw [HNX.out, HFR2.out]; rw [if_pos (by have := HZN.out; omega)]; unfold lessE; rw [if_pos (by decide)], Bl⟩
            case measure => simp [intOf]
          have hz2 : decide (0 ≤ z) = true := decide_eq_true (by omega)
          have HZN := Lib.hid hz
          obtain ⟨fv, HFV⟩ : ∃ v, Hid (far p o = v) := ⟨_, Lib.hid rfl⟩
          have hfv := far_bd hpb hob
          rw [HFV.out] at hfv
          have hwf : IntKind.i64.wrap (z + fv) = z + fv := IntWalk.i64_in _ (by omega)
          clear hz
          by_cases hs : sf < 0
          · have hs2 : decide (sf < 0) = true := decide_eq_true hs
            have HSN := Lib.hid hs
            clear hs
            have d_k1_0 := k1.cell 0
            have d_k1_1 := k1.cell 1
            go_wp2_with fail
            refine (rFar p o _ (by omega) (by omega)).mono ?_
            rintro e w' ⟨rfl, rfl⟩
            rw [HFV.out]
            go_wp2
            go_roundw
            case rel => exact ⟨2, by omega, rfl, by rw [HNX.out, HFR2.out]; rw [if_neg (by have := HZN.out; omega)]; rw [HFV.out]; unfold lessE; rw [if_neg (by have := HZN.out; omega), if_pos (Or.inl HSN.out)], Bl⟩
            case measure => simp [intOf]
          have hs2 : decide (sf < 0) = false := decide_eq_false hs
          have HSN := Lib.hid hs
          clear hs
          have d_k1_0 := k1.cell 0
          have d_k1_1 := k1.cell 1
          go_wp2_with fail
          refine (rFar p o _ (by omega) (by omega)).mono ?_
          rintro e w' ⟨rfl, rfl⟩
          rw [HFV.out]
          by_cases hl : z + fv < sf
          · have hl2 : decide (z + fv < sf) = true := decide_eq_true hl
            have HLN := Lib.hid hl
            clear hl
            go_wp2_with fail
            refine (rFar p o _ (by omega) (by omega)).mono ?_
            rintro e w' ⟨rfl, rfl⟩
            rw [HFV.out]
            go_wp2
            go_roundw
            case rel => exact ⟨2, by omega, rfl, by rw [HNX.out, HFR2.out]; rw [if_neg (by have := HZN.out; omega)]; rw [HFV.out]; unfold lessE; rw [if_neg (by have := HZN.out; omega), if_pos (Or.inr HLN.out)], Bl⟩
            case measure => simp [intOf]
          · have hl2 : decide (z + fv < sf) = false := decide_eq_false hl
            have HLN := Lib.hid hl
            clear hl
            go_wp2
            go_roundw
            case rel => exact ⟨2, by omega, rfl, by rw [HNX.out, HFR2.out]; rw [if_neg (by have := HZN.out; omega)]; rw [HFV.out]; unfold lessE; rw [if_neg (by have := HZN.out; omega), if_neg (by have := HSN.out; have := HLN.out; omega)], Bl⟩
            case measure => simp [intOf]
    · have hf2 : f = 2 := by omega
      subst hf2
      have HLE : Hid (leastE b ps num x y 1 = sf) := Lib.hid (by rw [← HSF.out]; rfl)
      have d_k1_0 := k1.cell 0
      have d_k1_1 := k1.cell 1
      go_wp2_with fail
      clear d_k1_0 d_k1_1
      refine (rTo1 b A n c ps _ h_p HP x y (by rw [HQ.out]; exact hx) (by rw [HQ.out]; exact hy) hi tv HTV).mono ?_
      rintro e w4 ⟨rfl, hb⟩
      have Bw4 : Below w.heap.size w w4 := Bw3.trans (hb.mono Bw3.size)
      replace h_p := h_p.next hb (Nat.le_refl _) hb.size
      replace h_t := h_t.next hb (Nat.le_refl _) hb.size
      replace k1 := k1.below hb k1.lt
      replace Bl := Bl.trans (hb.mono Bl.size)
      clear Bw3
      clear hb
      by_cases ht : tv < sf
      · have ht2 : decide (tv < sf) = true := decide_eq_true ht
        have HTN := Lib.hid ht
        clear ht
        go_wp2
        go_ret
        exact ⟨ret_i (by rw [← HV.out]; unfold leastR; rw [HTV.out, HLE.out, if_pos (by have := HTN.out; omega)]), Bw4⟩
      · have ht2 : decide (tv < sf) = false := decide_eq_false ht
        have HTN := Lib.hid ht
        clear ht
        go_wp2
        go_ret
        exact ⟨ret_i (by rw [← HV.out]; unfold leastR; rw [HTV.out, HLE.out, if_neg (by have := HTN.out; omega)]), Bw4⟩
theorem rLeast (b : Int) (A : Option Addr) (n c : Nat) (ps : List (Int × Int)) (w : World) (h_p : Rp w w.heap.size A n ps) (HP : Hid (Pier b ps)) (x y : Nat) (hx : x ≤ lefts b ps) (hy : y ≤ n - lefts b ps) (D : Option Addr) (N dc X m : Nat) (num : Nat → Nat → Nat → Int) (h_t : Tb w w.heap.size D N X m num) (hN : N ≤ 1000) (hm : m ≤ 1000) (HNB : Hid (∀ x y e, -1 ≤ num x y e ∧ num x y e ≤ 9000)) (e : Nat) (he : e < 2) (hX : x + e - 1 < X) (hM : y - e < m) (hi : isE x y e = true) (v : Int) (HV : Hid (leastR b ps num x y e = v)) :
    Calls Try.prog 89 #[.agg #[.int .i64 b, .slice A n c], .slice D N dc, .int .i64 (x : Int), .int .i64 (y : Int), .int .i64 (e : Int)] w (RetI w v) := by
  match e, he with
  | 0, _ => exact rLeast0 b A n c ps w h_p HP x y hx hy D N dc X m num h_t hN hm HNB hX hM hi v HV
  | 1, _ => exact rLeast1 b A n c ps w h_p HP x y hx hy D N dc X m num h_t hN hm HNB hX hM hi v HV
end Go.Proofs.Ytaekjnjignlmoaa
