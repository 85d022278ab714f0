/-
  The reference: 'CheckBounds'. Printed by gen_r24.py.
-/
import Derived.Test.YtaekjnjignlmoaaR22
import Derived.Test.YtaekjnjignlmoaaR23
namespace Go.Proofs.Ytaekjnjignlmoaa
open Go.RowKit Go.Shelf

theorem gvE_at {Rs : List (List (Int × Int))} {x y e : Nat} {L : List (Int × Int)} {p : Int × Int} (h1 : Rs[x]? = some L) (h2 : L[y]? = some p) (_he : e < 2) : gvE Rs x y e = if e = 0 then p.1 else p.2 := by
  unfold gvE
  rw [h1]
  have h3 := plc_some h2
  simp only [Option.getD_some]
  rw [h3.1, h3.2]
theorem stray_some {Rs : List (List (Int × Int))} {N R : Nat} (hB : Rs.length = N) (hL : ∀ L ∈ Rs, L.length = R) {x y e : Nat} (hx : x < N) (hy : y < R) (he : e < 2) (h : gvE Rs x y e < -1 ∨ 9000 < gvE Rs x y e) : Rs.any (fun L => L.any strayN) = true := by
  have h1 : Rs[x]? = some Rs[x] := List.getElem?_eq_getElem (by omega)
  have h0 := hL _ (List.mem_of_getElem? h1)
  have h2 : Rs[x][y]? = some Rs[x][y] := List.getElem?_eq_getElem (by omega)
  rw [gvE_at h1 h2 he] at h
  rw [List.any_eq_true]
  refine ⟨_, List.mem_of_getElem? h1, ?_⟩
  rw [List.any_eq_true]
  refine ⟨_, List.mem_of_getElem? h2, ?_⟩
  unfold strayN outB
  rw [Bool.or_eq_true, Bool.or_eq_true, Bool.or_eq_true, decide_eq_true_eq, decide_eq_true_eq, decide_eq_true_eq, decide_eq_true_eq]
  split at h <;> omega
theorem stray_none {Rs : List (List (Int × Int))} {N R : Nat} (hB : Rs.length = N) (hL : ∀ L ∈ Rs, L.length = R) (h : ∀ x y e : Nat, x < N → y < R → e < 2 → -1 ≤ gvE Rs x y e ∧ gvE Rs x y e ≤ 9000) : Rs.any (fun L => L.any strayN) = false := by
  rw [List.any_eq_false]
  intro L hLm
  rw [Bool.not_eq_true, List.any_eq_false]
  intro p hp
  rw [Bool.not_eq_true]
  obtain ⟨x, hx, rfl⟩ := List.getElem_of_mem hLm
  obtain ⟨y, hy, rfl⟩ := List.getElem_of_mem hp
  have h0 := hL _ hLm
  have h1 : Rs[x]? = some Rs[x] := List.getElem?_eq_getElem hx
  have h2 : Rs[x][y]? = some Rs[x][y] := List.getElem?_eq_getElem hy
  have e0 := h x y 0 (by omega) (by omega) (by omega)
  have e1 := h x y 1 (by omega) (by omega) (by omega)
  rw [gvE_at h1 h2 (by omega), if_pos rfl] at e0
  rw [gvE_at h1 h2 (by omega), if_neg (by omega)] at e1
  exact strayN_false.2 ⟨e0, e1⟩
set_option maxRecDepth 100000 in
set_option maxHeartbeats 16000000 in
theorem rCheckBounds (b : Int) (A : Option Addr) (n c : Nat) (ps : List (Int × Int)) (w : World) (h_p : Rp w w.heap.size A n ps) (hn : n ≤ 1048576) (D : Option Addr) (N dc : Nat) (Rs : List (List (Int × Int))) (h_b : Bd w w.heap.size D N Rs) (hN : N ≤ 1000) (HLs : Hid (∀ L ∈ Rs, L.length ≤ 1048576)) (v : Int × Int) (HV : Hid (ckBoundsS b ps Rs = v)) :
    Calls Try.prog 37 #[.agg #[.int .i64 b, .slice A n c], .slice D N dc] w fun e w' => e = .returned (.tuple #[.int .i64 v.1, .int .i64 v.2]) ∧ Below w.heap.size w w' := by
  have HL := Lib.hid h_p.len
  obtain ⟨q, HQ⟩ : ∃ q, Hid (checkPier b ps = q) := ⟨_, Lib.hid rfl⟩
  have hmix : Try.prog.follows .mixedOrders = true := by kernel_rfl
  have k1 := Bk.new w 24 #[.int .i64 b, .slice A n c]
  have hb : Below w.heap.size w (w.alloc (.cells #[.int .i64 b, .slice A n c] 24)) := (Below.refl _ _).alloc (Nat.le_refl _) _
  have q0 := k1.cell 0
  have q1 := k1.cell 1
  go_enter Try.func37, Try.ntmps37
  go_wp2_with fail
  clear q0 q1
  obtain ⟨u1, hu⟩ : ∃ k, w.heap.size = k := ⟨_, rfl⟩
  obtain ⟨w1, hW⟩ : ∃ W, w.alloc (.cells #[.int .i64 b, .slice A n c] 24) = W := ⟨_, rfl⟩
  rw [hW] at k1 hb ⊢
  rw [hu] at k1 ⊢
  clear hW
  have HU := Lib.hid hu
  clear hu
  have Bw1 : Below w.heap.size w w1 := hb
  replace h_p := h_p.next hb (Nat.le_refl _) hb.size
  replace h_b := h_b.next hb (Nat.le_refl _) hb.size
  clear hb
  refine (rCheckPier b A n c ps _ h_p hn q HQ).mono ?_
  rintro e w2 ⟨rfl, hb⟩
  have Bw2 : Below w.heap.size w w2 := Bw1.trans (hb.mono Bw1.size)
  replace h_p := h_p.next hb (Nat.le_refl _) hb.size
  replace h_b := h_b.next hb (Nat.le_refl _) hb.size
  replace k1 := k1.below hb k1.lt
  clear Bw1
  clear hb
  by_cases hq : q = 0
  rotate_left
  · have hqb : (q != 0) = true := by simp [hq]
    have HNQ := Lib.hid hq
    clear hq
    have d_k1_0 := k1.cell 0
    have d_k1_1 := k1.cell 1
    go_wp2_with fail
    clear d_k1_0 d_k1_1
    refine (rCheckPier b A n c ps _ h_p hn q HQ).mono ?_
    rintro e w3 ⟨rfl, hb⟩
    have Bw3 : Below w.heap.size w w3 := Bw2.trans (hb.mono Bw2.size)
    replace h_p := h_p.next hb (Nat.le_refl _) hb.size
    replace h_b := h_b.next hb (Nat.le_refl _) hb.size
    replace k1 := k1.below hb k1.lt
    clear Bw2
    clear hb
    go_wp2
    go_ret2
    exact ⟨(by rw [← HV.out]; unfold ckBoundsS; rw [HQ.out, if_neg HNQ.out]; rfl), Bw3⟩
  subst hq
  have HP : Hid (Pier b ps) := Lib.hid (checkPier_ok.1 HQ.out)
  have hn1 : 1 ≤ n := by rw [← HL.out]; exact HP.out.lo
  have hn10 : n ≤ 10 := by rw [← HL.out]; exact HP.out.hi
  have HCP : Hid (checkPier b ps = 0) := Lib.hid (checkPier_ok.2 HP.out)
  have hqn := lefts_le b ps
  rw [HL.out] at hqn
  obtain ⟨q, HQ2⟩ : ∃ q, Hid (lefts b ps = q) := ⟨_, Lib.hid rfl⟩
  rw [HQ2.out] at hqn
  have HB := Lib.hid h_b.len
  obtain ⟨sh, HSH⟩ : ∃ r : Bool, Hid ((decide (Rs.length = lefts b ps + 1) && Rs.all (fun L => decide (L.length = ps.length - lefts b ps + 1))) = r) := ⟨_, Lib.hid rfl⟩
  have HSN : Hid ((!decide (Rs.length = lefts b ps + 1) || Rs.any (fun L => !decide (L.length = ps.length - lefts b ps + 1))) = !sh) := Lib.hid (by
    rw [← HSH.out, Bool.not_and, List.not_all_eq_any_not])
  have d_k1_0 := k1.cell 0
  have d_k1_1 := k1.cell 1
  go_wp2_with fail
  clear d_k1_0 d_k1_1
  refine (rIsShaped b A n c ps _ h_p HP D N dc Rs h_b hN HLs sh HSH).mono ?_
  rintro e w3 ⟨rfl, hb⟩
  have Bw3 : Below w.heap.size w w3 := Bw2.trans (hb.mono Bw2.size)
  replace h_p := h_p.next hb (Nat.le_refl _) hb.size
  replace h_b := h_b.next hb (Nat.le_refl _) hb.size
  replace k1 := k1.below hb k1.lt
  clear Bw2
  clear hb
  cases sh
  · go_wp2
    go_ret2
    exact ⟨by rw [← HV.out]; unfold ckBoundsS; rw [if_pos HCP.out, HSN.out]; rfl, Bw3⟩
  · have hsh := HSH.out
    rw [Bool.and_eq_true] at hsh
    have HNQ : Hid (N = q + 1) := Lib.hid (by
      have h := of_decide_eq_true hsh.1
      rw [HB.out, HQ2.out] at h
      exact h)
    obtain ⟨R, HR0⟩ : ∃ R, Hid (n - q + 1 = R) := ⟨_, Lib.hid rfl⟩
    have HLR : Hid (∀ L ∈ Rs, L.length = R) := Lib.hid (fun L hL => by
      have h := of_decide_eq_true (List.all_eq_true.1 hsh.2 L hL)
      rw [HL.out, HQ2.out, HR0.out] at h
      exact h)
    clear hsh
    have hR1 : 0 < R := by have := HR0.out; omega
    have hR20 : R ≤ 20 := by have := HR0.out; omega
    have hNN : N ≤ 20 := by have := HNQ.out; omega
    have h_t := Tb.of_bd h_b hR1 HLR.out
    obtain ⟨num, HNU⟩ : ∃ f, Hid (gvE Rs = f) := ⟨_, Lib.hid rfl⟩
    rw [HNU.out] at h_t
    clear h_b
    have d_k1_0 := k1.cell 0
    have d_k1_1 := k1.cell 1
    go_wp2
    clear d_k1_0 d_k1_1
    go_loopw [7] (fun i wr => ∃ k : Nat, k ≤ N ∧ i = .int .i64 (k : Int) ∧ Hid (∀ x y e : Nat, x < k → y < R → e < 2 → -1 ≤ num x y e ∧ num x y e ≤ 9000) ∧ w3 = wr) (fun i _ => N - (intOf i).toNat)
    case atStart => exact ⟨0, by omega, rfl, Lib.hid (fun x y e h => absurd h (Nat.not_lt_zero _)), rfl⟩
    case round =>
      obtain ⟨k, hk, rfl, HK, rfl⟩ := hrel
      by_cases hlt : k < N
      · have hwk : IntKind.i64.wrap (k : Int) = (k : Int) := IntWalk.i64_in _ (by omega)
        obtain ⟨ad, rk, cr, rfl, _, r1, hRc, _, _, _⟩ := h_t.at_ hlt hR1
        go_wp2
        go_loopw [8] (fun i wr => ∃ j : Nat, j ≤ R ∧ i = .int .i64 (j : Int) ∧ Hid (∀ y e : Nat, y < j → e < 2 → -1 ≤ num k y e ∧ num k y e ≤ 9000) ∧ w3 = wr) (fun i _ => R - (intOf i).toNat)
        case atStart => exact ⟨0, by omega, rfl, Lib.hid (fun y e h => absurd h (Nat.not_lt_zero _)), rfl⟩
        case round =>
          obtain ⟨j, hj, rfl, HJ, rfl⟩ := hrel
          by_cases hjlt : j < R
          · have hwj : IntKind.i64.wrap (j : Int) = (j : Int) := IntWalk.i64_in _ (by omega)
            obtain ⟨ad2, rk2, cr2, e1, _, r2, _, _, v0, v1⟩ := h_t.at_ hlt hjlt
            obtain rfl : ad = ad2 := Option.some.inj e1
            obtain ⟨rfl, rfl⟩ : rk = rk2 ∧ cr = cr2 := by
              rw [r1] at r2
              cases r2
              exact ⟨rfl, rfl⟩
            clear e1 r2
            go_wp2
            go_loopw [9] (fun i wr => ∃ f : Nat, f ≤ 2 ∧ i = .int .i64 (f : Int) ∧ Hid (∀ e : Nat, e < f → -1 ≤ num k j e ∧ num k j e ≤ 9000) ∧ w3 = wr) (fun i _ => 2 - (intOf i).toNat)
            case atStart => exact ⟨0, by omega, rfl, Lib.hid (fun e h => absurd h (Nat.not_lt_zero _)), rfl⟩
            case round =>
              obtain ⟨f, hf, rfl, HF, rfl⟩ := hrel
              by_cases hflt : f < 2
              · rcases (show f = 0 ∨ f = 1 by omega) with h01 | h01
                · subst h01
                  obtain ⟨z, HZ⟩ : ∃ z, Hid (num k j 0 = z) := ⟨_, Lib.hid rfl⟩
                  rw [HZ.out] at v0
                  by_cases hz1 : z < -1
                  · have hz2 : decide (z < -1) = true := decide_eq_true hz1
                    have d_k1_0 := k1.cell 0
                    have d_k1_1 := k1.cell 1
                    have HANY : Hid (Rs.any (fun L => L.any strayN) = true) := Lib.hid (stray_some HB.out HLR.out hlt hjlt (e := 0) (by omega) (by rw [HNU.out, HZ.out]; omega))
                    go_wp2
                    go_ret2
                    exact ⟨by rw [← HV.out]; unfold ckBoundsS; rw [if_pos HCP.out, HSN.out, HANY.out]; rfl, Bw3⟩
                  have hz2 : decide (z < -1) = false := decide_eq_false hz1
                  by_cases hz3 : 9000 < z
                  · have hz4 : decide (9000 < z) = true := decide_eq_true hz3
                    have d_k1_0 := k1.cell 0
                    have d_k1_1 := k1.cell 1
                    have HANY : Hid (Rs.any (fun L => L.any strayN) = true) := Lib.hid (stray_some HB.out HLR.out hlt hjlt (e := 0) (by omega) (by rw [HNU.out, HZ.out]; omega))
                    go_wp2
                    go_ret2
                    exact ⟨by rw [← HV.out]; unfold ckBoundsS; rw [if_pos HCP.out, HSN.out, HANY.out]; rfl, Bw3⟩
                  · have hz4 : decide (9000 < z) = false := decide_eq_false hz3
                    have HF2 : Hid (∀ e : Nat, e < 0 + 1 → -1 ≤ num k j e ∧ num k j e ≤ 9000) := Lib.hid (fun e h => by
                      by_cases he : e = 0
                      · rw [he, HZ.out]; omega
                      · exact HF.out e (by omega))
                    clear hz1 hz3
                    have d_k1_0 := k1.cell 0
                    have d_k1_1 := k1.cell 1
                    go_wp2
                    go_roundw
                    case rel => exact ⟨1, by omega, rfl, HF2, (by first | rfl | trivial)⟩
                    case measure => simp [intOf]
                · subst h01
                  obtain ⟨z, HZ⟩ : ∃ z, Hid (num k j 1 = z) := ⟨_, Lib.hid rfl⟩
                  rw [HZ.out] at v1
                  by_cases hz1 : z < -1
                  · have hz2 : decide (z < -1) = true := decide_eq_true hz1
                    have d_k1_0 := k1.cell 0
                    have d_k1_1 := k1.cell 1
                    have HANY : Hid (Rs.any (fun L => L.any strayN) = true) := Lib.hid (stray_some HB.out HLR.out hlt hjlt (e := 1) (by omega) (by rw [HNU.out, HZ.out]; omega))
                    go_wp2
                    go_ret2
                    exact ⟨by rw [← HV.out]; unfold ckBoundsS; rw [if_pos HCP.out, HSN.out, HANY.out]; rfl, Bw3⟩
                  have hz2 : decide (z < -1) = false := decide_eq_false hz1
                  by_cases hz3 : 9000 < z
                  · have hz4 : decide (9000 < z) = true := decide_eq_true hz3
                    have d_k1_0 := k1.cell 0
                    have d_k1_1 := k1.cell 1
                    have HANY : Hid (Rs.any (fun L => L.any strayN) = true) := Lib.hid (stray_some HB.out HLR.out hlt hjlt (e := 1) (by omega) (by rw [HNU.out, HZ.out]; omega))
                    go_wp2
                    go_ret2
                    exact ⟨by rw [← HV.out]; unfold ckBoundsS; rw [if_pos HCP.out, HSN.out, HANY.out]; rfl, Bw3⟩
                  · have hz4 : decide (9000 < z) = false := decide_eq_false hz3
                    have HF2 : Hid (∀ e : Nat, e < 1 + 1 → -1 ≤ num k j e ∧ num k j e ≤ 9000) := Lib.hid (fun e h => by
                      by_cases he : e = 1
                      · rw [he, HZ.out]; omega
                      · exact HF.out e (by omega))
                    clear hz1 hz3
                    have d_k1_0 := k1.cell 0
                    have d_k1_1 := k1.cell 1
                    go_wp2
                    go_roundw
                    case rel => exact ⟨2, by omega, rfl, HF2, (by first | rfl | trivial)⟩
                    case measure => simp [intOf]
              · have HJ2 : Hid (∀ y e : Nat, y < j + 1 → e < 2 → -1 ≤ num k y e ∧ num k y e ≤ 9000) := Lib.hid (fun y e h he => by
                  by_cases hy : y = j
                  · rw [hy]; exact HF.out e (by omega)
                  · exact HJ.out y e (by omega) he)
                go_wp2
                go_roundw
                case rel => exact ⟨j + 1, by omega, by go_num, HJ2, (by first | rfl | trivial)⟩
                case measure => simp [intOf]; omega
          · have HK2 : Hid (∀ x y e : Nat, x < k + 1 → y < R → e < 2 → -1 ≤ num x y e ∧ num x y e ≤ 9000) := Lib.hid (fun x y e h hy he => by
              by_cases hx : x = k
              · rw [hx]; exact HJ.out y e (by omega) he
              · exact HK.out x y e (by omega) hy he)
            go_wp2
            go_roundw
            case rel => exact ⟨k + 1, by omega, by go_num, HK2, (by first | rfl | trivial)⟩
            case measure => simp [intOf]; omega
      · have HANY : Hid (Rs.any (fun L => L.any strayN) = false) := Lib.hid (stray_none HB.out HLR.out (fun x y e h1 h2 h3 => by
          rw [HNU.out]
          exact HK.out x y e (by omega) h2 h3))
        have HNB : Hid (∀ x y e, -1 ≤ num x y e ∧ num x y e ≤ 9000) := Lib.hid (fun x y e => by rw [← HNU.out]; exact gvE_bd HANY.out x y e)
        clear HK
        have d_k1_0 := k1.cell 0
        have d_k1_1 := k1.cell 1
        go_wp2
        clear d_k1_0 d_k1_1
        go_loopw [6, 10] (fun gd i wr => ∃ k2 : Nat, k2 ≤ N ∧ i = .int .i64 (k2 : Int) ∧ gd = .bool ((outE (n - q) k2).all (rightBl b ps num)) ∧ Below w3.heap.size w3 wr) (fun _ i _ => N - (intOf i).toNat)
        case atStart => exact ⟨0, by omega, rfl, by simp [outE], Below.refl _ _⟩
        case round =>
          obtain ⟨k2, hk2, rfl, rfl, hb⟩ := hrel
          obtain ⟨w4, hW⟩ : ∃ W : World, wr = W := ⟨_, rfl⟩
          rw [hW] at hb ⊢
          clear hW
          have Bl := hb
          have Bw4 : Below w.heap.size w w4 := Bw3.trans (hb.mono Bw3.size)
          replace h_p := h_p.next hb (Nat.le_refl _) hb.size
          replace k1 := k1.below hb k1.lt
          replace h_t := h_t.next hb (Nat.le_refl _) hb.size
          clear Bw3
          clear hb
          by_cases hlt : k2 < N
          · have hwk : IntKind.i64.wrap (k2 : Int) = (k2 : Int) := IntWalk.i64_in _ (by omega)
            obtain ⟨ad, rk, cr, rfl, _, r1, hRc, _, _, _⟩ := h_t.at_ hlt hR1
            go_wp2
            clear r1
            go_loopw [6, 11] (fun gd i wr => ∃ j : Nat, j ≤ R ∧ i = .int .i64 (j : Int) ∧ gd = .bool ((outE (n - q) k2 ++ midE k2 j).all (rightBl b ps num)) ∧ Below w4.heap.size w4 wr) (fun _ i _ => R - (intOf i).toNat)
            case atStart => exact ⟨0, by omega, rfl, by simp [midE], Below.refl _ _⟩
            case round =>
              obtain ⟨j, hj, rfl, rfl, hb⟩ := hrel
              obtain ⟨gv, HGV⟩ : ∃ r : Bool, Hid ((outE (n - q) k2 ++ midE k2 j).all (rightBl b ps num) = r) := ⟨_, Lib.hid rfl⟩
              rw [HGV.out]
              obtain ⟨w5, hW⟩ : ∃ W : World, wr = W := ⟨_, rfl⟩
              rw [hW] at hb ⊢
              clear hW
              have Bm := hb
              have Bw5 : Below w.heap.size w w5 := Bw4.trans (hb.mono Bw4.size)
              replace h_p := h_p.next hb (Nat.le_refl _) hb.size
              replace k1 := k1.below hb k1.lt
              replace h_t := h_t.next hb (Nat.le_refl _) hb.size
              replace Bl := Bl.trans (hb.mono Bl.size)
              clear Bw4
              clear hb
              obtain ⟨ad2, rk, cr, e1, _, r1, _, _, _, _⟩ := h_t.at_ hlt hR1
              obtain rfl : ad = ad2 := Option.some.inj e1
              clear e1
              by_cases hjlt : j < R
              · have hwj : IntKind.i64.wrap (j : Int) = (j : Int) := IntWalk.i64_in _ (by omega)
                have hxq : k2 ≤ q := by have := HNQ.out; omega
                have hyq : j ≤ n - q := by have := HR0.out; omega
                obtain ⟨r0, HR00⟩ : ∃ r : Bool, Hid (rightBl b ps num (k2, j, 0) = r) := ⟨_, Lib.hid rfl⟩
                obtain ⟨r1', HR01⟩ : ∃ r : Bool, Hid (rightBl b ps num (k2, j, 1) = r) := ⟨_, Lib.hid rfl⟩
                have HNX : Hid ((outE (n - q) k2 ++ midE k2 (j + 1)).all (rightBl b ps num) = (gv && r0 && r1')) := Lib.hid (by
                  rw [midE_succ, ← List.append_assoc, List.all_append, HGV.out]
                  show (gv && ([(k2, j, 0), (k2, j, 1)] : List (Nat × Nat × Nat)).all (rightBl b ps num)) = _
                  simp only [List.all_cons, List.all_nil, Bool.and_true, HR00.out, HR01.out, Bool.and_assoc])
                cases gv
                · have d_k1_0 := k1.cell 0
                  have d_k1_1 := k1.cell 1
                  go_wp2
                  go_roundw
                  case rel => exact ⟨j + 1, by omega, by go_num, by rw [HNX.out]; rfl, Bm⟩
                  case measure => simp [intOf]; omega
                · have d_k1_0 := k1.cell 0
                  have d_k1_1 := k1.cell 1
                  go_wp2_with fail
                  clear d_k1_0 d_k1_1
                  refine (rRight0 b A n c ps _ h_p HP k2 j (by rw [HQ2.out]; exact hxq) (by rw [HQ2.out]; exact hyq) (some ad) N dc N R num h_t (by omega) (by omega) HNB hlt hjlt r0 HR00).mono ?_
                  rintro e w6 ⟨rfl, hb⟩
                  have Bw6 : Below w.heap.size w w6 := Bw5.trans (hb.mono Bw5.size)
                  replace h_p := h_p.next hb (Nat.le_refl _) hb.size
                  replace k1 := k1.below hb k1.lt
                  replace h_t := h_t.next hb (Nat.le_refl _) hb.size
                  replace Bl := Bl.trans (hb.mono Bl.size)
                  replace Bm := Bm.trans (hb.mono Bm.size)
                  replace r1 := (hb.cell (World.block_lt_of_cell? _ _ r1)).trans r1
                  clear Bw5
                  clear hb
                  cases r0
                  · have d_k1_0 := k1.cell 0
                    have d_k1_1 := k1.cell 1
                    go_wp2
                    go_roundw
                    case rel => exact ⟨j + 1, by omega, by go_num, by rw [HNX.out]; rfl, Bm⟩
                    case measure => simp [intOf]; omega
                  · have d_k1_0 := k1.cell 0
                    have d_k1_1 := k1.cell 1
                    go_wp2_with fail
                    clear d_k1_0 d_k1_1
                    refine (rRight1 b A n c ps _ h_p HP k2 j (by rw [HQ2.out]; exact hxq) (by rw [HQ2.out]; exact hyq) (some ad) N dc N R num h_t (by omega) (by omega) HNB hlt hjlt r1' HR01).mono ?_
                    rintro e w7 ⟨rfl, hb⟩
                    have Bw7 : Below w.heap.size w w7 := Bw6.trans (hb.mono Bw6.size)
                    replace h_p := h_p.next hb (Nat.le_refl _) hb.size
                    replace k1 := k1.below hb k1.lt
                    replace h_t := h_t.next hb (Nat.le_refl _) hb.size
                    replace Bl := Bl.trans (hb.mono Bl.size)
                    replace Bm := Bm.trans (hb.mono Bm.size)
                    replace r1 := (hb.cell (World.block_lt_of_cell? _ _ r1)).trans r1
                    clear Bw6
                    clear hb
                    have d_k1_0 := k1.cell 0
                    have d_k1_1 := k1.cell 1
                    cases r1'
                    · go_wp2
                      go_roundw
                      case rel => exact ⟨j + 1, by omega, by go_num, by rw [HNX.out]; rfl, Bm⟩
                      case measure => simp [intOf]; omega
                    · go_wp2
                      go_roundw
                      case rel => exact ⟨j + 1, by omega, by go_num, by rw [HNX.out]; rfl, Bm⟩
                      case measure => simp [intOf]; omega
              · have HK3 : Hid ((outE (n - q) (k2 + 1)).all (rightBl b ps num) = gv) := Lib.hid (by
                  rw [outE_succ, show n - q + 1 = j from by have := HR0.out; omega]
                  exact HGV.out)
                have d_k1_0 := k1.cell 0
                have d_k1_1 := k1.cell 1
                go_wp2
                go_roundw
                case rel => exact ⟨k2 + 1, by omega, by go_num, by rw [HK3.out], Bl⟩
                case measure => simp [intOf]; omega
          · have hkN : k2 = q + 1 := by have := HNQ.out; omega
            obtain ⟨gv, HGV⟩ : ∃ r : Bool, Hid ((outE (n - q) k2).all (rightBl b ps num) = r) := ⟨_, Lib.hid rfl⟩
            rw [HGV.out]
            have HALL : Hid ((endsL b ps).all (rightBl b ps (gvE Rs)) = gv) := Lib.hid (by
              rw [← HGV.out, HNU.out]
              unfold endsL
              rw [HL.out, HQ2.out, hkN])
            clear hkN
            cases gv
            · have d_k1_0 := k1.cell 0
              have d_k1_1 := k1.cell 1
              go_wp2
              go_ret2
              exact ⟨by rw [← HV.out]; unfold ckBoundsS; rw [if_pos HCP.out, HSN.out, HANY.out, HALL.out]; rfl, Bw4⟩
            obtain ⟨va, HVA⟩ : ∃ v, Hid (valueE b ps num = v) := ⟨_, Lib.hid rfl⟩
            have HVS : Hid (v = if va < 0 then (0, 12) else (va, 0)) := Lib.hid (by
              rw [← HV.out]
              unfold ckBoundsS
              rw [if_pos HCP.out, HSN.out, HANY.out, HALL.out]
              show valueS b ps (gvE Rs) = _
              unfold valueS
              rw [HNU.out, HVA.out])
            have d_k1_0 := k1.cell 0
            have d_k1_1 := k1.cell 1
            go_wp2_with fail
            clear d_k1_0 d_k1_1
            refine (rValueOf b A n c ps _ h_p HP D N dc N R num h_t (by omega) (by omega) HNB (by rw [HQ2.out]; have := HNQ.out; omega) (by rw [HQ2.out]; have := HR0.out; omega) va HVA).mono ?_
            rintro e w5 ⟨rfl, hb⟩
            have Bw5 : Below w.heap.size w w5 := Bw4.trans (hb.mono Bw4.size)
            replace h_p := h_p.next hb (Nat.le_refl _) hb.size
            replace k1 := k1.below hb k1.lt
            replace h_t := h_t.next hb (Nat.le_refl _) hb.size
            replace Bl := Bl.trans (hb.mono Bl.size)
            clear Bw4
            clear hb
            by_cases hv : va < 0
            · have hv2 : decide (va < 0) = true := decide_eq_true hv
              have HVV : Hid (v = (0, 12)) := Lib.hid (by rw [HVS.out, if_pos hv])
              clear hv
              have d_k1_0 := k1.cell 0
              have d_k1_1 := k1.cell 1
              go_wp2
              go_ret2
              exact ⟨(by rw [HVV.out]; rfl), Bw5⟩
            · have hv2 : decide (va < 0) = false := decide_eq_false hv
              have HVV : Hid (v = (va, 0)) := Lib.hid (by rw [HVS.out, if_neg hv])
              clear hv
              have d_k1_0 := k1.cell 0
              have d_k1_1 := k1.cell 1
              go_wp2
              go_ret2
              exact ⟨(by rw [HVV.out]; rfl), Bw5⟩
end Go.Proofs.Ytaekjnjignlmoaa
