/-
  The law TopPinnedSkill, walked: its calls are given.
-/
import Derived.Test.YtibmpjhffeinoaaGreatKj
import Derived.Deep.DeepCutAuto
import Derived.Deep.RegionHeld3
import Derived.BigRegion
namespace Go.Proofs.YtibmpjhffeinoaaGreat
open Go.RowKit Go.Shelf

/-- What the calls of the law answer. -/
structure Cs (w : World) (bv : Value) (rows : Nat) (at_ s : Int) (Wl : List Int) (Bv Rt : Nat → Nat → Int) : Prop where
  chk : ∀ w', Below w.heap.size w w' → Calls Tryz.prog 17 #[bv] w' fun e w'' => e = .returned (.int .i64 0) ∧ Below w'.heap.size w' w''
  ways : ∀ w', Below w.heap.size w w' → Calls Tryz.prog 18 #[bv, .int .i64 at_] w' fun e w'' => ∃ A, e = .returned (.tuple #[.slice A (rows + 1) (rows + 1), .int .i64 0]) ∧ Ri w'' w''.heap.size A (rows + 1) Wl ∧ Below w'.heap.size w' w''
  back : ∀ w', Below w.heap.size w w' → Calls Tryz.prog 19 #[bv, .int .i64 at_, .int .i64 s] w' fun e w'' => ∃ A, e = .returned (.tuple #[.slice A rows rows, .int .i64 0]) ∧ Mv w'' w''.heap.size A rows (rowsB Bv rows) ∧ Below w'.heap.size w' w''
  rt : ∀ w', Below w.heap.size w w' → ∀ r k : Nat, r < rows → k ≤ r → Calls Tryz.prog 20 #[bv, .int .i64 at_, .int .i64 (r : Int), .int .i64 (k : Int)] w' fun e w'' => e = .returned (.int .i64 (Rt r k)) ∧ Below w'.heap.size w' w''
  works : ∀ w', Calls Tryz.prog 11 #[] w' fun e w'' => e = .returned (.bool true) ∧ Below w'.heap.size w' w''
set_option maxRecDepth 100000 in
set_option maxHeartbeats 3200000 in
theorem fPinned (AB AY : Option Addr) (cB ny cY rows : Nat) (lv sl : Int) (Wl : List Int) (Bv Rt : Nat → Nat → Int) (w : World) (h1 : 1 ≤ rows) (h3 : rows ≤ 3) (hlv : 0 ≤ lv ∧ lv ≤ 255) (hsl : 0 ≤ sl ∧ sl ≤ 255)
    (at_ s : Int) (hat : at_ = lv % 11 - 5) (hss : s = sl % (rows + 1)) (hc : Cs w (.agg #[.slice AB rows cB, .slice AY ny cY]) rows at_ s Wl Bv Rt) (hRt : ∀ r k, 0 ≤ Rt r k ∧ Rt r k ≤ 10)
    (hW : ∀ sn : Nat, s = sn → Wl[sn]? = some (Bv 0 0))
    (hD : ∀ (sn : Nat) (Ls : List (List Int)) (K : Nat), s = sn → Fill Rt rows (T (rows + 1)) (T rows) Ls → rounds (List.replicate (T (rows + 1)) true) Ls (wonL (T (rows + 1)) (T rows + sn)) (T (rows + 1)) (K + 1) = rounds (List.replicate (T (rows + 1)) true) Ls (wonL (T (rows + 1)) (T rows + sn)) (T (rows + 1)) K →
      ∀ r k, r < rows → k ≤ r → nth (rounds (List.replicate (T (rows + 1)) true) Ls (wonL (T (rows + 1)) (T rows + sn)) (T (rows + 1)) K) (T r + k) = if 0 < Bv r k then (rows : Int) - r else -1)
    (hE : ∀ (sn : Nat) (Ls : List (List Int)) (K : Nat), s = sn → Fill Rt rows (T (rows + 1)) (T rows) Ls → rounds (List.replicate (T (rows + 1)) false) Ls (wonL (T (rows + 1)) (T rows + sn)) (T (rows + 1)) (K + 1) = rounds (List.replicate (T (rows + 1)) false) Ls (wonL (T (rows + 1)) (T rows + sn)) (T (rows + 1)) K →
      ∀ r k, r < rows → k ≤ r → (0 ≤ nth (rounds (List.replicate (T (rows + 1)) false) Ls (wonL (T (rows + 1)) (T rows + sn)) (T (rows + 1)) K) (T r + k) ↔ Bv r k = (10 : Int) ^ (rows - r)))
    (hB0 : ∀ r k, 0 ≤ Bv r k) :
    Calls Tryz.prog 4 #[.agg #[.slice AB rows cB, .slice AY ny cY], .int .u8 lv, .int .u8 sl] w fun e w' => e = .returned (.bool true) ∧ Below w.heap.size w w' := by
  obtain ⟨HDD, HEE, HWW⟩ : Hid (_) ∧ Hid (_) ∧ Hid (_) := ⟨Lib.hid hD, Lib.hid hE, Lib.hid hW⟩
  clear hD hE hW
  have hbk := Bk.new w 44 #[.slice AB rows cB, .slice AY ny cY]
  have hb1 := (Below.refl w.heap.size w).alloc (Nat.le_refl _) (.cells #[.slice AB rows cB, .slice AY ny cY] 44)
  generalize hW : w.alloc (.cells #[.slice AB rows cB, .slice AY ny cY] 44) = W at *
  have hs : W.heap.size = w.heap.size + 1 := by rw [← hW]; simp
  have c0 : W.cell? ⟨w.heap.size, 0, none⟩ = some (.slice AB rows cB) := hbk.cell 0
  have c1 : W.cell? ⟨w.heap.size, 1, none⟩ = some (.slice AY ny cY) := hbk.cell 1
  go_enter Tryz.func4, Tryz.ntmps4
  go_wp2_with (go_at_call 17; refine (hc.chk _ hb1).mono ?_; rintro e w1 ⟨rfl, hb2⟩; have hbk2 := hbk.below hb2 (by omega); have hs2 := hb2.size; have hb3 := hb1.trans (hb2.mono (by omega)); have d0 : w1.cell? ⟨w.heap.size, 0, none⟩ = some (.slice AB rows cB) := hbk2.cell 0; have d1 : w1.cell? ⟨w.heap.size, 1, none⟩ = some (.slice AY ny cY) := hbk2.cell 1; clear hb1 hb2 c0 c1 hbk)
  go_quiet (fail)
  rw [← hat, ← hss]
  have hs0 : 0 ≤ s := by rw [hss]; exact Int.emod_nonneg _ (by omega)
  have hs1 : s ≤ rows := by
    have := Int.emod_lt_of_pos sl (show (0 : Int) < (rows : Int) + 1 by omega)
    omega
  clear hat hss
  have hb4 := below_drewN hb3 nq
  have hbk3 : Bk (w1.drewN nq) w.heap.size 44 #[.slice AB rows cB, .slice AY ny cY] := hbk2
  replace d0 : (w1.drewN nq).cell? ⟨w.heap.size, 0, none⟩ = some (.slice AB rows cB) := d0
  replace d1 : (w1.drewN nq).cell? ⟨w.heap.size, 1, none⟩ = some (.slice AY ny cY) := d1
  have hs3 : w.heap.size + 1 ≤ (w1.drewN nq).heap.size := by show _ ≤ w1.heap.size; omega
  generalize w1.drewN nq = w2 at *
  clear hb3 hbk2
  go_wp2_with (go_at_call 18; refine (hc.ways _ hb4).mono ?_; rintro e w3 ⟨A1, rfl, hri1, hb5⟩; have hs5 := hb5.size; have hb6 := hb4.trans (hb5.mono (by omega)); have hbk4 := hbk3.below hb5 (by omega); have e0 : w3.cell? ⟨w.heap.size, 0, none⟩ = some (.slice AB rows cB) := hbk4.cell 0; have e1 : w3.cell? ⟨w.heap.size, 1, none⟩ = some (.slice AY ny cY) := hbk4.cell 1; clear hb4 hb5 hbk3 d0 d1)
  refine (hc.back _ hb6).mono ?_
  rintro e w4 ⟨A2, rfl, hmv2, hb7⟩
  have hs6 := hb7.size
  have hb8 := hb6.trans (hb7.mono (by omega))
  have hbk5 := hbk4.below hb7 (by omega)
  have f0 : w4.cell? ⟨w.heap.size, 0, none⟩ = some (.slice AB rows cB) := hbk5.cell 0
  have f1 : w4.cell? ⟨w.heap.size, 1, none⟩ = some (.slice AY ny cY) := hbk5.cell 1
  have hri2 := hri1.next hb7 (Nat.le_refl _) hs6
  clear hb6 hb7 hbk4 e0 e1 hri1
  go_wp2_with fail
  have hT := T_succ rows h3
  have hTb : T rows ≤ 6 := by
    have : rows = 1 ∨ rows = 2 ∨ rows = 3 := by omega
    rcases this with rfl | rfl | rfl <;> decide
  rw [T_wrap1 h3]
  have hT1 : T rows + rows + 1 ≤ T (rows + 1) := by omega
  have hT2 : T (rows + 1) ≤ T rows + rows + 1 := by omega
  clear hT
  generalize T (rows + 1) = N at *
  have hmk1 := run_rowsi N (by omega)
  have hmk2 := run_bools N (by omega)
  go_upto_region 10 with fail
  go_cut [15, 16] (fun s15 s16 wx => ∃ m1 m2 : Nat, s15 = .slice (some ⟨m1, 0, none⟩) N N ∧ s16 = .slice (some ⟨m2, 0, none⟩) N N ∧ m1 ≠ m2 ∧ w4.heap.size ≤ m1 ∧ w4.heap.size ≤ m2 ∧ Bk wx m1 35 (Array.replicate N (Value.slice none 0 0)) ∧ Bk wx m2 4 (Array.replicate N (Value.bool false)) ∧ Below w4.heap.size w4 wx)
  case first =>
    go_region
    all_goals (go_wp2_with fail; go_meet)
    · exact ⟨_, _, rfl, rfl, by omega, Nat.le_refl _, by omega, two_a _ _ _ _ _, two_b _ _ _ _ _, two_c _ _ _⟩
    · exact ⟨_, _, rfl, rfl, by omega, by omega, Nat.le_refl _, two_b _ _ _ _ _, two_a _ _ _ _ _, two_c _ _ _⟩
  case rest =>
    obtain ⟨m1, m2, rfl, rfl, hne, hm1, hm2, bm1, bm2, hb9⟩ := hcut
    have hmA := MvI.new (base := wc.heap.size) bm1
    have hm1l := bm1.lt
    have hm2l := bm2.lt
    clear bm1
    obtain ⟨sn, rfl⟩ : ∃ sn : Nat, s = (sn : Int) := ⟨s.toNat, by omega⟩
    obtain ⟨t, ht⟩ : ∃ t, T rows = t := ⟨_, rfl⟩
    rw [ht] at hT1 hT2 hTb
    have hq0 : ∀ r : Nat, r = rows → wrap64 ((wrap64 ((r : Int) * ((r : Int) + 1))).tdiv 2) = (t : Int) := fun r e => by
      subst e
      rw [T_wrap (by omega), ht]
    obtain ⟨p, hp⟩ : ∃ p : Nat, (t : Int) + (sn : Int) = (p : Int) := ⟨t + sn, by push_cast; rfl⟩
    have HP := Lib.hid hp
    have hpN : p < N := by omega
    have hcw : wc.cell? ⟨m2, p, none⟩ = some (.bool false) := by
      rw [bm2.cell]
      simp [hpN]
    have hfw := bm2.frozen p
    have bm3 := bm2.set_ p (.bool true)
    rw [wonL_set] at bm3
    have hmB := hmA.setOther (p := ⟨m2, p, none⟩) (u := .bool true) (fun e => hne e.symm) hm2l
    have hb10 := hb9.setCell (p := ⟨m2, p, none⟩) hm2 (.bool true)
    go_wp2_with fail
    have hw4 : w.heap.size < w4.heap.size := by omega
    have hw5 := hb9.size
    have hsz5 : (wc.setCell ⟨m2, p, none⟩ (.bool true)).heap.size = wc.heap.size := by simp [World.setCell]
    generalize wc.setCell ⟨m2, p, none⟩ (.bool true) = W5 at *
    generalize wc.heap.size = base at *
    clear hmk1 hmk2 hcw hfw hq0 hp hmA bm2 hb9
    go_loopw [17] (fun rr wr => ∃ r : Nat, r ≤ rows ∧ rr = .int .i64 (r : Int) ∧ ∃ Ls, Fill Rt rows N (T r) Ls ∧ MvI wr m1 base N Ls ∧ Bk wr m2 4 (bools (wonL N p)) ∧ base ≤ wr.heap.size ∧ Below w4.heap.size w4 wr) (fun rr _ => rows - (intOf rr).toNat)
    case atStart => exact ⟨0, Nat.zero_le _, rfl, _, Fill.zero _ _ _, hmB, bm3, by omega, hb10⟩
    case round =>
      clear hmB bm3 hb10 hsz5
      obtain ⟨r, hr, rfl, Ls, hF, hmB, hbw, hbs, hbr⟩ := hrel
      by_cases hlt : r < rows
      · have hTr := T_succ r (by omega)
        have hTN : T r + r + 1 ≤ t := by
          have : r = 0 ∨ r = 1 ∨ r = 2 := by omega
          have : rows = 1 ∨ rows = 2 ∨ rows = 3 := by omega
          have t0 : T 0 = 0 := rfl
          have t1 : T 1 = 1 := rfl
          have t2 : T 2 = 3 := rfl
          have t3 : T 3 = 6 := rfl
          rcases ‹r = 0 ∨ r = 1 ∨ r = 2› with rfl | rfl | rfl <;> rcases ‹rows = 1 ∨ rows = 2 ∨ rows = 3› with rfl | rfl | rfl <;> omega
        obtain ⟨t0, HT0⟩ : ∃ t0, Hid (T r = t0) := ⟨_, Lib.hid rfl⟩
        obtain ⟨t1, HT1⟩ : ∃ t1, Hid (T (r + 1) = t1) := ⟨_, Lib.hid rfl⟩
        have hqr : ∀ x : Nat, x = r → wrap64 ((wrap64 ((x : Int) * ((x : Int) + 1))).tdiv 2) = (t0 : Int) := fun x e => by
          subst e
          rw [T_wrap (by omega), HT0.out]
        have hqr1 : ∀ x : Nat, x = r → wrap64 ((wrap64 (((x : Int) + 1) * ((x : Int) + 2))).tdiv 2) = (t1 : Int) := fun x e => by
          subst e
          rw [T_wrap1 (by omega), HT1.out]
        rw [HT0.out] at hF hTN hTr
        rw [HT1.out] at hTr
        have hTr1 : t1 ≤ t0 + r + 1 := by omega
        have hTr2 : t0 + r + 1 ≤ t1 := by omega
        clear hTr
        go_wp2
        go_loopw [18] (fun kk wr => ∃ k : Nat, k ≤ r + 1 ∧ kk = .int .i64 (k : Int) ∧ ∃ Ls, Fill Rt rows N (t0 + k) Ls ∧ MvI wr m1 base N Ls ∧ Bk wr m2 4 (bools (wonL N p)) ∧ base ≤ wr.heap.size ∧ Below w4.heap.size w4 wr) (fun kk _ => r + 1 - (intOf kk).toNat)
        case atStart => exact ⟨0, Nat.zero_le _, rfl, _, hF, hmB, hbw, hbs, hbr⟩
        case round =>
          clear hF hmB hbw hbs hbr
          obtain ⟨k, hk, rfl, Ls, hF, hmB, hbw, hbs, hbr⟩ := hrel
          by_cases hkr : k ≤ r
          · have e0 := (hbr.cell (p := ⟨w.heap.size, 0, none⟩) (by show w.heap.size < _; omega)).trans f0
            have e1 := (hbr.cell (p := ⟨w.heap.size, 1, none⟩) (by show w.heap.size < _; omega)).trans f1
            have hrt := hc.rt wr (hb8.trans (hbr.mono (by omega))) r k hlt hkr
            obtain ⟨x, HX⟩ : ∃ x, Hid (Rt r k = x) := ⟨_, Lib.hid rfl⟩
            have hx0 := hRt r k
            rw [HX.out] at hrt hx0
            obtain ⟨q, hq⟩ : ∃ q : Nat, (t0 : Int) + (k : Int) = (q : Int) := ⟨t0 + k, by push_cast; rfl⟩
            have hqN : q < N := by omega
            have hF2 : Fill Rt rows N (t0 + (k + 1)) (Ls.set q (mvs Rt r k)) := by
              have hqq : q = T r + k := by rw [HT0.out]; omega
              rw [hqq]
              have := Fill.next (r := r) (k := k) (by rw [HT0.out]; exact hF) h3 hlt hkr (by omega)
              rw [HT0.out] at this ⊢
              exact this
            clear hF
            by_cases hx1 : x < 10
            · by_cases hx2 : 0 < x
              · have HL := Lib.hid (mvs_b (k := k) HX.out hx1 hx2)
                rw [HT1.out] at HL
                rw [HL.out] at hF2
                go_wp2_with (first | (go_at_call 20; go_must (refine (hrt).mono ?_); rintro e w5 ⟨rfl, hb5⟩; have hs5 := hb5.size; have hmC := hmB.below hb5; clear hmB) | (at_builtin; refine push_num rfl (.tmp 116) (.tmp 125) rfl w5.heap.size none 0 0 [] rfl ((Oj.nil_ w5 w5.heap.size).alloc _) ⟨w5.heap.size, 0, none⟩ 1 _ rfl (cell_new1 _ _ _) (by omega) (by simp only [World.size_alloc]; omega) ?_; intro g1 cap1 v1 ho1 hg1; have hd1 := Oj.pushed (Oj.nil_ w5 w5.heap.size) (Below.refl w5.heap.size w5) (Nat.le_refl _) (Nat.le_refl _) hg1; have hds1 := hd1.size) | (at_builtin; refine push_num rfl (.tmp 129) (.tmp 139) rfl w5.heap.size (some ⟨g1, 0, none⟩) 1 cap1 [(t1 : Int) + (k : Int)] rfl (ho1.alloc _) ⟨v1.heap.size, 0, none⟩ 1 _ rfl (cell_new1 _ _ _) (by omega) (by simp only [World.size_alloc]; omega) ?_; intro g2 cap2 v2 ho2 hg2; have hd2 := Oj.pushed ho1 hd1 hds1 (Nat.le_refl _) hg2; have hds2 := hd2.size; have hmD := hmC.below hd2; obtain ⟨A0, n0, c0', hcl, hfz⟩ := hmD.cell (i := q) hqN))
                have hP := hmD.putOj (i := q) hm1l ho2 (by omega) rfl
                have hbw2 := ((hbw.below hb5 (by omega)).below hd2 (by omega)).far (p := ⟨m1, q, none⟩) (fun e => hne e.symm) (.slice (some ⟨g2, 0, none⟩) 2 cap2)
                have hb11 := ((hbr.trans (hb5.mono (by omega))).trans (hd2.mono (by omega))).setCell (p := ⟨m1, q, none⟩) hm1 (.slice (some ⟨g2, 0, none⟩) 2 cap2)
                exact ⟨⟨k + 1, by omega, by go_num, _, hF2, hP, hbw2, by simp [World.setCell]; omega, hb11⟩, by simp [intOf]; omega⟩
              · have HL := Lib.hid (mvs_l (k := k) HX.out hx1 hx2)
                rw [HT1.out] at HL
                rw [HL.out] at hF2
                go_wp2_with (first | (go_at_call 20; go_must (refine (hrt).mono ?_); rintro e w5 ⟨rfl, hb5⟩; have hs5 := hb5.size; have hmC := hmB.below hb5; clear hmB) | (at_builtin; refine push_num rfl (.tmp 116) (.tmp 125) rfl w5.heap.size none 0 0 [] rfl ((Oj.nil_ w5 w5.heap.size).alloc _) ⟨w5.heap.size, 0, none⟩ 1 _ rfl (cell_new1 _ _ _) (by omega) (by simp only [World.size_alloc]; omega) ?_; intro g1 cap1 v1 ho1 hg1; have hd1 := Oj.pushed (Oj.nil_ w5 w5.heap.size) (Below.refl w5.heap.size w5) (Nat.le_refl _) (Nat.le_refl _) hg1; have hds1 := hd1.size; have hmD := hmC.below hd1; obtain ⟨A0, n0, c0', hcl, hfz⟩ := hmD.cell (i := q) hqN))
                have hP := hmD.putOj (i := q) hm1l ho1 (by omega) rfl
                have hbw2 := ((hbw.below hb5 (by omega)).below hd1 (by omega)).far (p := ⟨m1, q, none⟩) (fun e => hne e.symm) (.slice (some ⟨g1, 0, none⟩) 1 cap1)
                have hb11 := ((hbr.trans (hb5.mono (by omega))).trans (hd1.mono (by omega))).setCell (p := ⟨m1, q, none⟩) hm1 (.slice (some ⟨g1, 0, none⟩) 1 cap1)
                exact ⟨⟨k + 1, by omega, by go_num, _, hF2, hP, hbw2, by simp [World.setCell]; omega, hb11⟩, by simp [intOf]; omega⟩
            · have hx2 : 0 < x := by omega
              have HL := Lib.hid (mvs_r (k := k) HX.out hx1 hx2)
              rw [HT1.out] at HL
              rw [HL.out] at hF2
              go_wp2_with (first | (go_at_call 20; go_must (refine (hrt).mono ?_); rintro e w5 ⟨rfl, hb5⟩; have hs5 := hb5.size; have hmC := hmB.below hb5; clear hmB) | (at_builtin; refine push_num rfl (.tmp 129) (.tmp 139) rfl w5.heap.size none 0 0 [] rfl ((Oj.nil_ w5 w5.heap.size).alloc _) ⟨w5.heap.size, 0, none⟩ 1 _ rfl (cell_new1 _ _ _) (by omega) (by simp only [World.size_alloc]; omega) ?_; intro g1 cap1 v1 ho1 hg1; have hd1 := Oj.pushed (Oj.nil_ w5 w5.heap.size) (Below.refl w5.heap.size w5) (Nat.le_refl _) (Nat.le_refl _) hg1; have hds1 := hd1.size; have hmD := hmC.below hd1; obtain ⟨A0, n0, c0', hcl, hfz⟩ := hmD.cell (i := q) hqN))
              have hP := hmD.putOj (i := q) hm1l ho1 (by omega) rfl
              have hbw2 := ((hbw.below hb5 (by omega)).below hd1 (by omega)).far (p := ⟨m1, q, none⟩) (fun e => hne e.symm) (.slice (some ⟨g1, 0, none⟩) 1 cap1)
              have hb11 := ((hbr.trans (hb5.mono (by omega))).trans (hd1.mono (by omega))).setCell (p := ⟨m1, q, none⟩) hm1 (.slice (some ⟨g1, 0, none⟩) 1 cap1)
              exact ⟨⟨k + 1, by omega, by go_num, _, hF2, hP, hbw2, by simp [World.setCell]; omega, hb11⟩, by simp [intOf]; omega⟩
          · obtain rfl : k = r + 1 := by omega
            have hF2 : Fill Rt rows N (T (r + 1)) Ls := by
              rw [HT1.out, show t1 = t0 + (r + 1) from by omega]
              exact hF
            go_wp2
            go_roundw
            case rel => exact ⟨r + 1, by omega, by go_num, Ls, hF2, hmB, hbw, hbs, hbr⟩
            case measure => simp [intOf]; omega
      · obtain rfl : rows = r := by omega
        have hwr := hbr.size
        have hri3 := hri2.next hbr (Nat.le_refl _) hwr
        have hmv3 := (hmv2.below hbr).more hwr
        have hb12 := hb8.trans (hbr.mono (by omega))
        have hmvM := hmB.mv
        have hrbM := Rb.of_bk hbw (wonL_len _ _)
        have hris := Lib.hid (hF.ris h3 (by omega))
        have HF := Lib.hid hF
        clear hF hri2 hmv2 hb8
        go_wp2_with (go_at_call 15; go_must (refine (fBoth _ _ _ _ _ _ _ _ hmvM hrbM (by omega) (by omega) hris.out).mono ?_); rintro e w5 ⟨q1, K1, q2, K2, rfl, hd1, hf1, hd2, hf2, hb13⟩; have HF1 := Lib.hid hf1; have HF2 := Lib.hid hf2; clear hf1 hf2)
        have hs13 := hb13.size
        have hmv4 := (hmv3.below hb13).more hs13
        have hri4 := hri3.next hb13 (Nat.le_refl _) hs13
        have hb14 := hb12.trans (hb13.mono (by omega))
        have HPS : Hid (T rows + sn = p) := Lib.hid (by have := HP.out; omega)
        have HDL : Hid (∀ (r k q : Nat), r < rows → k ≤ r → q = T r + k → (List.take N (rounds (List.replicate N true) Ls (wonL N p) N K1))[q]? = some (if 0 < Bv r k then (rows : Int) - r else -1)) := Lib.hid fun r k q hr hk hq => by
          have h4 := T_lt hr (by omega) hk
          rw [List.getElem?_take, if_pos (by omega), ← HDD.out sn Ls K1 rfl HF.out (by rw [HPS.out]; exact HF1.out) r k hr hk, HPS.out, hq]
          have hl := rounds_len (ps := List.replicate N true) (Ms := Ls) (ws := wonL N p) (n := N) K1
          unfold nth
          rw [List.getElem?_eq_getElem (by omega)]
          rfl
        have HFL : Hid (∀ (r k q : Nat), r < rows → k ≤ r → q = T r + k → ∃ fv, (List.take N (rounds (List.replicate N false) Ls (wonL N p) N K2))[q]? = some fv ∧ (0 ≤ fv ↔ Bv r k = (10 : Int) ^ (rows - r))) := Lib.hid fun r k q hr hk hq => by
          have h4 := T_lt hr (by omega) hk
          have hl := rounds_len (ps := List.replicate N false) (Ms := Ls) (ws := wonL N p) (n := N) K2
          have h5 := HEE.out sn Ls K2 rfl HF.out (by rw [HPS.out]; exact HF2.out) r k hr hk
          rw [HPS.out, ← hq] at h5
          refine ⟨_, ?_, h5⟩
          unfold nth
          rw [List.getElem?_take, if_pos (by omega), List.getElem?_eq_getElem (by omega)]
          rfl
        obtain ⟨adB, _, _, rfl, hadB, _⟩ := hmv4.2 0 _ (rowsB_at (show 0 < rows by omega))
        have HROW : Hid (∀ r, r < rows → ∃ AR cR, w5.cell? (adB.add r) = some (.slice AR (r + 1) cR) ∧ r + 1 ≤ cR ∧ Ri w5 w5.heap.size AR (r + 1) ((List.range (r + 1)).map fun k => Bv r k)) := Lib.hid fun r hr => by
          obtain ⟨ad, A', c', e, _, e1, e2, e3⟩ := hmv4.2 r _ (rowsB_at hr)
          cases e
          rw [show ((List.range (r + 1)).map fun k => Bv r k).length = r + 1 from by simp] at e1 e2 e3
          exact ⟨A', c', e1, e2, e3⟩
        clear HF HF1 HF2 HPS HDD HEE hmv4 hmv3 hri3 hb12 hb13 hmvM hrbM hris hmB hbw hbs hbr
        generalize List.take N (rounds (List.replicate N true) Ls (wonL N p) N K1) = dl at *
        generalize List.take N (rounds (List.replicate N false) Ls (wonL N p) N K2) = fl at *
        have hw5b : w.heap.size < w5.heap.size := by omega
        clear hs13 hwr
        have hbZ := Below.refl w5.heap.size w5
        go_loopw [24, 25] (fun ff rr wr => ∃ (z F : Int), -1 ≤ z ∧ z < rows ∧ rr = .int .i64 z ∧ ff = .int .i64 F ∧ Hid (F = (10 : Int) ^ (rows - (z + 1).toNat)) ∧ Below w5.heap.size w5 wr) (fun _ rr _ => (intOf rr + 1).toNat)
        case atStart => exact ⟨(rows : Int) - 1, 1, by omega, by omega, by go_num, rfl, Lib.hid (by rw [show rows - ((rows : Int) - 1 + 1).toNat = 0 from by omega]; rfl), hbZ⟩
        case round =>
          clear hbZ
          obtain ⟨z, F, hz0, hz1, rfl, rfl, HFm, hbz⟩ := hrel
          have hF1 : 1 ≤ F ∧ F ≤ 1000 := by
            have h := HFm.out
            have hj : rows - (z + 1).toNat ≤ 3 := by omega
            generalize rows - (z + 1).toNat = j at *
            have hj2 : j = 0 ∨ j = 1 ∨ j = 2 ∨ j = 3 := by omega
            rcases hj2 with rfl | rfl | rfl | rfl <;> (rw [h]; decide)
          by_cases hz : 0 ≤ z
          · obtain ⟨r, rfl⟩ : ∃ r : Nat, z = (r : Int) := ⟨z.toNat, by omega⟩
            have hr : r < rows := by omega
            have hr3 : r < 3 := by omega
            obtain ⟨AR, cR, hcB, hcR, hriR⟩ := HROW.out r hr
            have hcB1 := (hbz.cell (p := adB.add r) (by rw [addr_block]; exact hadB)).trans hcB
            have HG : Hid (10 * F = (10 : Int) ^ (rows - r)) := Lib.hid (by
              rw [HFm.out, show rows - r = rows - ((r : Int) + 1).toNat + 1 from by omega, Int.pow_succ, Int.mul_comm])
            obtain ⟨t0, HT0⟩ : ∃ t0, Hid (T r = t0) := ⟨_, Lib.hid rfl⟩
            have hqr : ∀ x : Nat, x = r → wrap64 ((wrap64 ((x : Int) * ((x : Int) + 1))).tdiv 2) = (t0 : Int) := fun x e => by
              subst e
              rw [T_wrap (by omega), HT0.out]
            have hTN : t0 + r < t := by
              have := T_lt hr (by omega) (Nat.le_refl r)
              rw [HT0.out] at this
              omega
            clear hz0 hz
            go_wp2
            go_loopw [26] (fun kk wr' => ∃ k : Nat, k ≤ r + 1 ∧ kk = .int .i64 (k : Int) ∧ Below w5.heap.size w5 wr') (fun kk _ => r + 1 - (intOf kk).toNat)
            case atStart => exact ⟨0, Nat.zero_le _, rfl, hbz⟩
            case round =>
              clear hbz hcB1
              obtain ⟨k, hk, rfl, hbz⟩ := hrel
              have hcB1 := (hbz.cell (p := adB.add r) (by rw [addr_block]; exact hadB)).trans hcB
              by_cases hkr : k ≤ r
              · obtain ⟨q, hq⟩ : ∃ q : Nat, (t0 : Int) + (k : Int) = (q : Int) := ⟨t0 + k, by push_cast; rfl⟩
                have hqN : q < N := by omega
                obtain ⟨adR, y, rfl, _, hcy, HY, _⟩ := (hriR.below hbz).at_ (k := k) (by omega)
                obtain ⟨ad1, dv, e1, _, hcd, HDV, _⟩ := (hd1.below hbz).at_ hqN
                cases e1
                obtain ⟨ad2, fv, e2, _, hcf, HFV, _⟩ := (hd2.below hbz).at_ hqN
                cases e2
                rw [add_lit0] at hcd hcf
                have hy : Bv r k = y := by
                  have := HY.out
                  rw [rowB_at hkr] at this
                  exact Option.some.inj this
                have hy0 : 0 ≤ y := by rw [← hy]; exact hB0 r k
                have hqT : q = T r + k := by rw [HT0.out]; omega
                have hdv : dv = if 0 < y then (rows : Int) - r else -1 := by
                  have := HDL.out r k q hr hkr hqT
                  rw [HDV.out, hy] at this
                  exact Option.some.inj this
                have hfv : 0 ≤ fv ↔ y = 10 * F := by
                  obtain ⟨f', e3, e4⟩ := HFL.out r k q hr hkr hqT
                  rw [HFV.out] at e3
                  cases e3
                  rw [e4, hy, HG.out]
                clear HY HDV HFV hy hqT
                have hkk : (k : Int) < (r : Int) + 1 := by omega
                have hrr : (r : Int) < (rows : Int) := by omega
                have hqq : (q : Int) < (N : Int) := by omega
                obtain ⟨e, he⟩ : ∃ e : Nat, (rows : Int) - (r : Int) = (e : Int) := ⟨rows - r, by omega⟩
                have he1 : 0 < e := by omega
                have hwe : IntKind.i64.wrap (e : Int) = (e : Int) := IntWalk.i64_in _ (by omega)
                have hne1 : ¬ (-1 : Int) = (e : Int) := by omega
                have hne2 : ¬ (e : Int) = -1 := by omega
                rw [he] at hdv
                clear hcB hriR HWW hri4 hb14 HDL HFL HROW hd1 hd2 hbk5 hc HP
                by_cases hya : y = 0
                · have hfn : ¬ 0 ≤ fv := by omega
                  rw [if_neg (by omega)] at hdv
                  subst hdv
                  subst hya
                  have h10 : ¬ (0 : Int) = 10 * F := by omega
                  have hb1 : ((0 : Int) == 10 * F) = false := by simpa using h10
                  have hb2 : ((-1 : Int) == (e : Int)) = false := by simp
                  clear hfv hF1
                  go_wp2
                  go_quiet (fail)
                  go_wp2
                  exact ⟨⟨k + 1, by omega, by go_num, below_drewN hbz nq⟩, by simp [intOf]; omega⟩
                · have hy1 : 0 < y := by omega
                  rw [if_pos hy1] at hdv
                  subst hdv
                  by_cases hyb : y = 10 * F
                  · have hfn : 0 ≤ fv := hfv.2 hyb
                    subst hyb
                    have h10 : ¬ 10 * F = 0 := by omega
                    have hb1 : (10 * F == 0) = false := by simp; omega
                    have hb2 : ((e : Int) == -1) = false := by simp
                    clear hfv hya hy0
                    go_wp2
                    go_quiet (fail)
                    go_wp2
                    exact ⟨⟨k + 1, by omega, by go_num, below_drewN hbz nq⟩, by simp [intOf]; omega⟩
                  · have hfn : ¬ 0 ≤ fv := fun h => hyb (hfv.1 h)
                    have hb1 : (y == 0) = false := by simpa using hya
                    have hb2 : ((e : Int) == -1) = false := by simp
                    have hb3 : (y == 10 * F) = false := by simpa using hyb
                    clear hfv hy0
                    go_wp2
                    go_quiet (fail)
                    go_wp2
                    exact ⟨⟨k + 1, by omega, by go_num, below_drewN hbz nq⟩, by simp [intOf]; omega⟩
              · obtain rfl : k = r + 1 := by omega
                go_wp2
                go_roundw
                case rel => exact ⟨(r : Int) - 1, 10 * F, by omega, by omega, by go_num, by go_num, Lib.hid (by rw [HG.out, show ((r : Int) - 1 + 1).toNat = r from by omega]), hbz⟩
                case measure => simp [intOf]
          · obtain rfl : z = -1 := by omega
            obtain ⟨A0, cR, hcB, hcR, hriR⟩ := HROW.out 0 (by omega)
            obtain ⟨adW, w0, rfl, hadW, hcW, HW0, _⟩ := hri4.at_ (k := sn) (by omega)
            obtain ⟨ad0, y0, rfl, had0, hc00, HY0, _⟩ := hriR.at_ (k := 0) (by omega)
            obtain rfl : y0 = w0 := by
              have e1 := HW0.out
              rw [HWW.out sn rfl] at e1
              have e2 := HY0.out
              rw [rowB_at (Nat.le_refl 0)] at e2
              rw [← Option.some.inj e1, ← Option.some.inj e2]
            have g1 : wr.drew.cell? (adW.add sn) = some (.int .i64 y0) := (hbz.cell (p := adW.add sn) (by rw [addr_block]; exact hadW)).trans hcW
            have g2 : wr.drew.cell? adB = some (.slice (some ad0) 1 cR) := (hbz.cell (p := adB) hadB).trans hcB
            have g3 : wr.drew.cell? ad0 = some (.int .i64 y0) := (hbz.cell (p := ad0) had0).trans hc00
            have hwk := hc.works wr.drew
            have hbw := below_drewN (hb14.trans (hbz.mono (by omega))) 1
            have hsz := hbz.size
            have hsi : (sn : Int) < (rows : Int) + 1 := by omega
            have hr0 : 0 < rows := by omega
            clear HROW HWW hri4 hb14 HDL HFL hd1 hd2 hbk5 hc HP hcB hriR hcW HW0 hc00 HY0 hbz
            go_wp2
            refine wp_region_still_tail 11 (by kernel_rfl) (by kernel_rfl) ?_
            simp only [List.take_succ_cons, List.take_zero, List.drop_succ_cons, List.drop_zero]
            change wpStill _ _ wr.drew _ _ _
            iterate 11 still_step
            refine wpStill_nil ?_
            go_wp2_with (go_at_call 11; go_must (refine (hwk).mono ?_); rintro e w6 ⟨rfl, hb15⟩)
            go_ret
            exact ⟨rfl, hbw.trans (hb15.mono (by show w.heap.size ≤ wr.heap.size; omega))⟩
end Go.Proofs.YtibmpjhffeinoaaGreat
