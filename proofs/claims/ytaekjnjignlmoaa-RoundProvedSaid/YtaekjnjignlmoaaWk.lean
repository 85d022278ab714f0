/-
  The laws: 'Walked'. Printed by gen_walked.py.
-/
import Derived.Test.YtaekjnjignlmoaaWl
import Derived.Test.YtaekjnjignlmoaaR2
namespace Go.Proofs.Ytaekjnjignlmoaa
open Go.RowKit Go.Shelf

/-- What a call that returns a list of stops comes to. -/
def RetN (w : World) (n : Nat) (L : List Nat) (e : Ending) (w' : World) : Prop := ∃ (A : Option Addr) (c : Nat), e = .returned (.slice A n c) ∧ Oj w' w.heap.size A n c (ofN L) ∧ n ≤ c ∧ Below w.heap.size w w'
set_option maxRecDepth 100000 in
set_option maxHeartbeats 8000000 in
theorem aWalked (b : Int) (A : Option Addr) (n c : Nat) (ps : List (Int × Int)) (D : Option Addr) (m d : Nat) (bs : List Int) (w : World) (hx : Rp w w.heap.size A n ps) (HP : Hid (Pier b ps)) (hy : Ru w w.heap.size D m bs) (hm40 : m ≤ 1000) :
    Calls Try.prog 46 #[.agg #[.int .i64 b, .slice A n c], .slice D m d] w (RetN w n (walkedL b ps bs)) := by
  have HL := Lib.hid hx.len
  have HM := Lib.hid hy.len
  have hn10 : n ≤ 10 := by have := HP.out.hi; have := HL.out; omega
  have hbk := Bk.new w 24 #[.int .i64 b, .slice A n c]
  have hc0 : (w.alloc (.cells #[.int .i64 b, .slice A n c] 24)).cell? ⟨w.heap.size, 0, none⟩ = some (.int .i64 b) := hbk.cell 0
  have hc1 : (w.alloc (.cells #[.int .i64 b, .slice A n c] 24)).cell? ⟨w.heap.size, 1, none⟩ = some (.slice A n c) := hbk.cell 1
  have hb0 : Below w.heap.size w (w.alloc (.cells #[.int .i64 b, .slice A n c] 24)) := (Below.refl _ w).alloc (Nat.le_refl _) _
  have hx0 := hx.next hb0 (Nat.le_refl _) hb0.size
  obtain ⟨q, HQ⟩ : ∃ q, Hid (lefts b ps = q) := ⟨_, Lib.hid rfl⟩
  have hqn : q ≤ n := by rw [← HQ.out, ← HL.out]; exact lefts_le b ps
  go_enter Try.func46, Try.ntmps46
  go_wp2_with fail
  refine (rLefts b A n c ps _ hx0 HP q HQ).mono ?_
  rintro e w1 ⟨rfl, hb⟩
  have hb1 := hb0.trans (hb.mono hb0.size)
  have hbk1 := hbk.below hb hbk.lt
  clear hb hb0 hc0 hc1 hbk hx0 hx
  obtain ⟨u, hu⟩ : ∃ u, w.heap.size = u := ⟨_, rfl⟩
  rw [hu] at hb1 hbk1 hy ⊢
  have hby := hy
  have hc1 : w1.cell? ⟨u, 1, none⟩ = some (.slice A n c) := hbk1.cell 1
  go_wp2
  clear hc1
  go_loopw [5, 6, 7, 8] (fun x y o i wr => ∃ (k lo hi : Nat) (out : List Nat) (A' : Option Addr) (c' : Nat), k ≤ n ∧ i = .int .i64 k ∧ x = .int .i64 (lo : Int) ∧ y = .int .i64 (hi : Int) ∧ o = .slice A' k c' ∧ Hid (walkTo n q (oddAt bs) k = (lo, hi, out)) ∧ Oj wr (u + 1) A' k c' (ofN out) ∧ Bk wr u 24 #[.int .i64 b, .slice A n c] ∧ Below u w wr) (fun _ _ _ i _ => n - (intOf i).toNat)
  case atStart => exact ⟨0, q, q, [], none, 0, Nat.zero_le _, rfl, rfl, rfl, rfl, Lib.hid rfl, Oj.nil_ _ _, hbk1, hb1⟩
  case round =>
    clear hb1 hbk1
    obtain ⟨k, lo, hi, out, A', c', hk, rfl, rfl, rfl, rfl, HW, ho, hbk, hb⟩ := hrel
    have hc1 : wr.cell? ⟨u, 1, none⟩ = some (.slice A n c) := hbk.cell 1
    have hsz : u + 1 ≤ wr.heap.size := by have := hbk.lt; omega
    have hAb : ∀ r, A'.map Addr.block = some r → u ≤ r := fun r e => by have := (ho.lt r e).1; omega
    obtain ⟨hlo, hhi, hlh⟩ : lo ≤ 10 ∧ hi ≤ 10 ∧ (k = n → True) := by
      obtain ⟨s, _, _, _, a1, a2, a3, a4, _, _⟩ := walk_st (b := b) (ps := ps) (oddAt bs) k (by rw [HL.out]; exact hk)
      rw [HL.out, HQ.out, HW.out] at a1 a3
      simp only at a1 a3
      exact ⟨by omega, by omega, fun _ => trivial⟩
    clear hlh
    by_cases hlt : k < n
    · skip
      by_cases hm : 0 < m
      · obtain ⟨t, HT⟩ : ∃ t, Hid (k % m = t) := ⟨_, Lib.hid rfl⟩
        have htm : t < m := by rw [← HT.out]; exact Nat.mod_lt _ hm
        have ht4 : (k : Int) % (m : Int) = (t : Int) := by rw [← HT.out]; simp
        have ht3 : (k : Int).tmod (m : Int) = (t : Int) := (Int.tmod_eq_emod_of_nonneg (by omega)).trans ht4
        obtain ⟨ad2, y, rfl, _, cy, hy0, hy1, HY⟩ := (hby.below hb).at_ htm
        have HNY : Hid (nth bs (k % bs.length) = y) := Lib.hid (by rw [HM.out, HT.out]; exact nth_some HY.out)
        have hm0 : ¬ m = 0 := by omega
        have hwt : IntKind.i64.wrap (t : Int) = (t : Int) := IntWalk.i64_in _ (by omega)
        by_cases ho2 : y % 2 = 1
        · have hy3 : y.tmod 2 = 1 := (Int.tmod_eq_emod_of_nonneg hy0).trans ho2
          have HO : Hid (oddAt bs k = true) := Lib.hid (by unfold oddAt; rw [HNY.out, decide_eq_true ho2, decide_eq_true (by rw [HM.out]; exact hm)]; rfl)
          by_cases hf : hi = n
          · have hfb : ((hi : Int) == (n : Int)) = true := by simp [hf]
            have HF := Lib.hid hf
            by_cases hlo : 0 < lo
            · obtain ⟨l1, HL1⟩ : ∃ l : Nat, Hid (lo = l + 1) := ⟨lo - 1, Lib.hid (by omega)⟩
              have hwl : IntKind.i64.wrap ((lo : Int) - 1) = (l1 : Int) := by rw [IntWalk.i64_in _ (by omega)]; have := HL1.out; omega
              have HW2 : Hid (walkTo n q (oddAt bs) (k + 1) = (l1, hi, out ++ [l1])) := Lib.hid (by
                rw [walkTo, HW.out]
                simp only
                rw [if_pos (by rw [HO.out]; simp [HF.out, hlo]), show lo - 1 = l1 from by have := HL1.out; omega])
              clear hf
              go_wp2_with (at_builtin; go_must (refine push_num rfl (.tmp 46) (.tmp 48) rfl (u + 1) A' k c' (ofN out) rfl (ho.alloc _) ⟨wr.heap.size, 0, none⟩ 1 (l1 : Int) rfl (cell_new1 _ _ _) (by omega) (by simp only [World.size_alloc]; omega) ?_); intro g1 cap1 w2 ho1 hg1)
              have hb2 : Below u w w2 := (hb.alloc (by omega) _).grown hg1 (by simp; omega) hAb
              have hk2 := (hbk.alloc (.cells #[.int .i64 (l1 : Int)] 3)).grown hg1 ((ho.alloc (.cells #[.int .i64 (l1 : Int)] 3)).bk_ne (hbk.alloc (.cells #[.int .i64 (l1 : Int)] 3)) (by decide))
              go_roundw
              case rel => exact ⟨k + 1, l1, hi, out ++ [l1], _, _, by omega, by go_num, rfl, rfl, rfl, HW2, by rw [ofN_append]; exact ho1, hk2, hb2⟩
              case measure => simp [intOf]; omega
            · have HW2 : Hid (walkTo n q (oddAt bs) (k + 1) = (lo, hi + 1, out ++ [hi])) := Lib.hid (by
                rw [walkTo, HW.out]
                simp only
                rw [if_neg (by rw [HO.out]; simp [hlo])])
              obtain ⟨h1, HH1⟩ : ∃ h, Hid (hi + 1 = h) := ⟨_, Lib.hid rfl⟩
              have hwh : IntKind.i64.wrap ((hi : Int) + 1) = (h1 : Int) := by rw [IntWalk.i64_in _ (by omega)]; have := HH1.out; omega
              clear hf
              go_wp2_with (at_builtin; go_must (refine push_num rfl (.tmp 50) (.tmp 52) rfl (u + 1) A' k c' (ofN out) rfl (ho.alloc _) ⟨wr.heap.size, 0, none⟩ 1 (hi : Int) rfl (cell_new1 _ _ _) (by omega) (by simp only [World.size_alloc]; omega) ?_); intro g1 cap1 w2 ho1 hg1)
              have hb2 : Below u w w2 := (hb.alloc (by omega) _).grown hg1 (by simp; omega) hAb
              have hk2 := (hbk.alloc (.cells #[.int .i64 (hi : Int)] 3)).grown hg1 ((ho.alloc (.cells #[.int .i64 (hi : Int)] 3)).bk_ne (hbk.alloc (.cells #[.int .i64 (hi : Int)] 3)) (by decide))
              go_roundw
              case rel => exact ⟨k + 1, lo, hi + 1, out ++ [hi], _, _, by omega, by go_num, rfl, by rw [HH1.out], rfl, HW2, by rw [ofN_append]; exact ho1, hk2, hb2⟩
              case measure => simp [intOf]; omega
          · have hfb : ((hi : Int) == (n : Int)) = false := by simp <;> omega
            have HF := Lib.hid hf
            by_cases hlo : 0 < lo
            · obtain ⟨l1, HL1⟩ : ∃ l : Nat, Hid (lo = l + 1) := ⟨lo - 1, Lib.hid (by omega)⟩
              have hwl : IntKind.i64.wrap ((lo : Int) - 1) = (l1 : Int) := by rw [IntWalk.i64_in _ (by omega)]; have := HL1.out; omega
              have HW2 : Hid (walkTo n q (oddAt bs) (k + 1) = (l1, hi, out ++ [l1])) := Lib.hid (by
                rw [walkTo, HW.out]
                simp only
                rw [if_pos (by rw [HO.out]; simp [hlo]), show lo - 1 = l1 from by have := HL1.out; omega])
              clear hf
              go_wp2_with (at_builtin; go_must (refine push_num rfl (.tmp 46) (.tmp 48) rfl (u + 1) A' k c' (ofN out) rfl (ho.alloc _) ⟨wr.heap.size, 0, none⟩ 1 (l1 : Int) rfl (cell_new1 _ _ _) (by omega) (by simp only [World.size_alloc]; omega) ?_); intro g1 cap1 w2 ho1 hg1)
              have hb2 : Below u w w2 := (hb.alloc (by omega) _).grown hg1 (by simp; omega) hAb
              have hk2 := (hbk.alloc (.cells #[.int .i64 (l1 : Int)] 3)).grown hg1 ((ho.alloc (.cells #[.int .i64 (l1 : Int)] 3)).bk_ne (hbk.alloc (.cells #[.int .i64 (l1 : Int)] 3)) (by decide))
              go_roundw
              case rel => exact ⟨k + 1, l1, hi, out ++ [l1], _, _, by omega, by go_num, rfl, rfl, rfl, HW2, by rw [ofN_append]; exact ho1, hk2, hb2⟩
              case measure => simp [intOf]; omega
            · have HW2 : Hid (walkTo n q (oddAt bs) (k + 1) = (lo, hi + 1, out ++ [hi])) := Lib.hid (by
                rw [walkTo, HW.out]
                simp only
                rw [if_neg (by rw [HO.out]; simp [HF.out, hlo])])
              obtain ⟨h1, HH1⟩ : ∃ h, Hid (hi + 1 = h) := ⟨_, Lib.hid rfl⟩
              have hwh : IntKind.i64.wrap ((hi : Int) + 1) = (h1 : Int) := by rw [IntWalk.i64_in _ (by omega)]; have := HH1.out; omega
              clear hf
              go_wp2_with (at_builtin; go_must (refine push_num rfl (.tmp 50) (.tmp 52) rfl (u + 1) A' k c' (ofN out) rfl (ho.alloc _) ⟨wr.heap.size, 0, none⟩ 1 (hi : Int) rfl (cell_new1 _ _ _) (by omega) (by simp only [World.size_alloc]; omega) ?_); intro g1 cap1 w2 ho1 hg1)
              have hb2 : Below u w w2 := (hb.alloc (by omega) _).grown hg1 (by simp; omega) hAb
              have hk2 := (hbk.alloc (.cells #[.int .i64 (hi : Int)] 3)).grown hg1 ((ho.alloc (.cells #[.int .i64 (hi : Int)] 3)).bk_ne (hbk.alloc (.cells #[.int .i64 (hi : Int)] 3)) (by decide))
              go_roundw
              case rel => exact ⟨k + 1, lo, hi + 1, out ++ [hi], _, _, by omega, by go_num, rfl, by rw [HH1.out], rfl, HW2, by rw [ofN_append]; exact ho1, hk2, hb2⟩
              case measure => simp [intOf]; omega
        · have ho3 : y % 2 = 0 := by omega
          have hy3 : y.tmod 2 = 0 := (Int.tmod_eq_emod_of_nonneg hy0).trans ho3
          have HO : Hid (oddAt bs k = false) := Lib.hid (by unfold oddAt; rw [HNY.out, decide_eq_false ho2, Bool.and_false])
          clear ho2
          by_cases hf : hi = n
          · have hfb : ((hi : Int) == (n : Int)) = true := by simp [hf]
            have HF := Lib.hid hf
            by_cases hlo : 0 < lo
            · obtain ⟨l1, HL1⟩ : ∃ l : Nat, Hid (lo = l + 1) := ⟨lo - 1, Lib.hid (by omega)⟩
              have hwl : IntKind.i64.wrap ((lo : Int) - 1) = (l1 : Int) := by rw [IntWalk.i64_in _ (by omega)]; have := HL1.out; omega
              have HW2 : Hid (walkTo n q (oddAt bs) (k + 1) = (l1, hi, out ++ [l1])) := Lib.hid (by
                rw [walkTo, HW.out]
                simp only
                rw [if_pos (by rw [HO.out]; simp [HF.out, hlo]), show lo - 1 = l1 from by have := HL1.out; omega])
              clear hf
              go_wp2_with (at_builtin; go_must (refine push_num rfl (.tmp 46) (.tmp 48) rfl (u + 1) A' k c' (ofN out) rfl (ho.alloc _) ⟨wr.heap.size, 0, none⟩ 1 (l1 : Int) rfl (cell_new1 _ _ _) (by omega) (by simp only [World.size_alloc]; omega) ?_); intro g1 cap1 w2 ho1 hg1)
              have hb2 : Below u w w2 := (hb.alloc (by omega) _).grown hg1 (by simp; omega) hAb
              have hk2 := (hbk.alloc (.cells #[.int .i64 (l1 : Int)] 3)).grown hg1 ((ho.alloc (.cells #[.int .i64 (l1 : Int)] 3)).bk_ne (hbk.alloc (.cells #[.int .i64 (l1 : Int)] 3)) (by decide))
              go_roundw
              case rel => exact ⟨k + 1, l1, hi, out ++ [l1], _, _, by omega, by go_num, rfl, rfl, rfl, HW2, by rw [ofN_append]; exact ho1, hk2, hb2⟩
              case measure => simp [intOf]; omega
            · have HW2 : Hid (walkTo n q (oddAt bs) (k + 1) = (lo, hi + 1, out ++ [hi])) := Lib.hid (by
                rw [walkTo, HW.out]
                simp only
                rw [if_neg (by rw [HO.out]; simp [hlo])])
              obtain ⟨h1, HH1⟩ : ∃ h, Hid (hi + 1 = h) := ⟨_, Lib.hid rfl⟩
              have hwh : IntKind.i64.wrap ((hi : Int) + 1) = (h1 : Int) := by rw [IntWalk.i64_in _ (by omega)]; have := HH1.out; omega
              clear hf
              go_wp2_with (at_builtin; go_must (refine push_num rfl (.tmp 50) (.tmp 52) rfl (u + 1) A' k c' (ofN out) rfl (ho.alloc _) ⟨wr.heap.size, 0, none⟩ 1 (hi : Int) rfl (cell_new1 _ _ _) (by omega) (by simp only [World.size_alloc]; omega) ?_); intro g1 cap1 w2 ho1 hg1)
              have hb2 : Below u w w2 := (hb.alloc (by omega) _).grown hg1 (by simp; omega) hAb
              have hk2 := (hbk.alloc (.cells #[.int .i64 (hi : Int)] 3)).grown hg1 ((ho.alloc (.cells #[.int .i64 (hi : Int)] 3)).bk_ne (hbk.alloc (.cells #[.int .i64 (hi : Int)] 3)) (by decide))
              go_roundw
              case rel => exact ⟨k + 1, lo, hi + 1, out ++ [hi], _, _, by omega, by go_num, rfl, by rw [HH1.out], rfl, HW2, by rw [ofN_append]; exact ho1, hk2, hb2⟩
              case measure => simp [intOf]; omega
          · have hfb : ((hi : Int) == (n : Int)) = false := by simp <;> omega
            have HF := Lib.hid hf
            by_cases hlo : 0 < lo
            · have HW2 : Hid (walkTo n q (oddAt bs) (k + 1) = (lo, hi + 1, out ++ [hi])) := Lib.hid (by
                rw [walkTo, HW.out]
                simp only
                rw [if_neg (by rw [HO.out]; simp [HF.out])])
              obtain ⟨h1, HH1⟩ : ∃ h, Hid (hi + 1 = h) := ⟨_, Lib.hid rfl⟩
              have hwh : IntKind.i64.wrap ((hi : Int) + 1) = (h1 : Int) := by rw [IntWalk.i64_in _ (by omega)]; have := HH1.out; omega
              clear hf
              go_wp2_with (at_builtin; go_must (refine push_num rfl (.tmp 50) (.tmp 52) rfl (u + 1) A' k c' (ofN out) rfl (ho.alloc _) ⟨wr.heap.size, 0, none⟩ 1 (hi : Int) rfl (cell_new1 _ _ _) (by omega) (by simp only [World.size_alloc]; omega) ?_); intro g1 cap1 w2 ho1 hg1)
              have hb2 : Below u w w2 := (hb.alloc (by omega) _).grown hg1 (by simp; omega) hAb
              have hk2 := (hbk.alloc (.cells #[.int .i64 (hi : Int)] 3)).grown hg1 ((ho.alloc (.cells #[.int .i64 (hi : Int)] 3)).bk_ne (hbk.alloc (.cells #[.int .i64 (hi : Int)] 3)) (by decide))
              go_roundw
              case rel => exact ⟨k + 1, lo, hi + 1, out ++ [hi], _, _, by omega, by go_num, rfl, by rw [HH1.out], rfl, HW2, by rw [ofN_append]; exact ho1, hk2, hb2⟩
              case measure => simp [intOf]; omega
            · have HW2 : Hid (walkTo n q (oddAt bs) (k + 1) = (lo, hi + 1, out ++ [hi])) := Lib.hid (by
                rw [walkTo, HW.out]
                simp only
                rw [if_neg (by rw [HO.out]; simp [HF.out, hlo])])
              obtain ⟨h1, HH1⟩ : ∃ h, Hid (hi + 1 = h) := ⟨_, Lib.hid rfl⟩
              have hwh : IntKind.i64.wrap ((hi : Int) + 1) = (h1 : Int) := by rw [IntWalk.i64_in _ (by omega)]; have := HH1.out; omega
              clear hf
              go_wp2_with (at_builtin; go_must (refine push_num rfl (.tmp 50) (.tmp 52) rfl (u + 1) A' k c' (ofN out) rfl (ho.alloc _) ⟨wr.heap.size, 0, none⟩ 1 (hi : Int) rfl (cell_new1 _ _ _) (by omega) (by simp only [World.size_alloc]; omega) ?_); intro g1 cap1 w2 ho1 hg1)
              have hb2 : Below u w w2 := (hb.alloc (by omega) _).grown hg1 (by simp; omega) hAb
              have hk2 := (hbk.alloc (.cells #[.int .i64 (hi : Int)] 3)).grown hg1 ((ho.alloc (.cells #[.int .i64 (hi : Int)] 3)).bk_ne (hbk.alloc (.cells #[.int .i64 (hi : Int)] 3)) (by decide))
              go_roundw
              case rel => exact ⟨k + 1, lo, hi + 1, out ++ [hi], _, _, by omega, by go_num, rfl, by rw [HH1.out], rfl, HW2, by rw [ofN_append]; exact ho1, hk2, hb2⟩
              case measure => simp [intOf]; omega
      · have HO : Hid (oddAt bs k = false) := Lib.hid (by unfold oddAt; rw [decide_eq_false (by rw [HM.out]; exact hm), Bool.false_and])
        by_cases hf : hi = n
        · have hfb : ((hi : Int) == (n : Int)) = true := by simp [hf]
          have HF := Lib.hid hf
          by_cases hlo : 0 < lo
          · obtain ⟨l1, HL1⟩ : ∃ l : Nat, Hid (lo = l + 1) := ⟨lo - 1, Lib.hid (by omega)⟩
            have hwl : IntKind.i64.wrap ((lo : Int) - 1) = (l1 : Int) := by rw [IntWalk.i64_in _ (by omega)]; have := HL1.out; omega
            have HW2 : Hid (walkTo n q (oddAt bs) (k + 1) = (l1, hi, out ++ [l1])) := Lib.hid (by
              rw [walkTo, HW.out]
              simp only
              rw [if_pos (by rw [HO.out]; simp [HF.out, hlo]), show lo - 1 = l1 from by have := HL1.out; omega])
            clear hf
            go_wp2_with (at_builtin; go_must (refine push_num rfl (.tmp 46) (.tmp 48) rfl (u + 1) A' k c' (ofN out) rfl (ho.alloc _) ⟨wr.heap.size, 0, none⟩ 1 (l1 : Int) rfl (cell_new1 _ _ _) (by omega) (by simp only [World.size_alloc]; omega) ?_); intro g1 cap1 w2 ho1 hg1)
            have hb2 : Below u w w2 := (hb.alloc (by omega) _).grown hg1 (by simp; omega) hAb
            have hk2 := (hbk.alloc (.cells #[.int .i64 (l1 : Int)] 3)).grown hg1 ((ho.alloc (.cells #[.int .i64 (l1 : Int)] 3)).bk_ne (hbk.alloc (.cells #[.int .i64 (l1 : Int)] 3)) (by decide))
            go_roundw
            case rel => exact ⟨k + 1, l1, hi, out ++ [l1], _, _, by omega, by go_num, rfl, rfl, rfl, HW2, by rw [ofN_append]; exact ho1, hk2, hb2⟩
            case measure => simp [intOf]; omega
          · have HW2 : Hid (walkTo n q (oddAt bs) (k + 1) = (lo, hi + 1, out ++ [hi])) := Lib.hid (by
              rw [walkTo, HW.out]
              simp only
              rw [if_neg (by rw [HO.out]; simp [hlo])])
            obtain ⟨h1, HH1⟩ : ∃ h, Hid (hi + 1 = h) := ⟨_, Lib.hid rfl⟩
            have hwh : IntKind.i64.wrap ((hi : Int) + 1) = (h1 : Int) := by rw [IntWalk.i64_in _ (by omega)]; have := HH1.out; omega
            clear hf
            go_wp2_with (at_builtin; go_must (refine push_num rfl (.tmp 50) (.tmp 52) rfl (u + 1) A' k c' (ofN out) rfl (ho.alloc _) ⟨wr.heap.size, 0, none⟩ 1 (hi : Int) rfl (cell_new1 _ _ _) (by omega) (by simp only [World.size_alloc]; omega) ?_); intro g1 cap1 w2 ho1 hg1)
            have hb2 : Below u w w2 := (hb.alloc (by omega) _).grown hg1 (by simp; omega) hAb
            have hk2 := (hbk.alloc (.cells #[.int .i64 (hi : Int)] 3)).grown hg1 ((ho.alloc (.cells #[.int .i64 (hi : Int)] 3)).bk_ne (hbk.alloc (.cells #[.int .i64 (hi : Int)] 3)) (by decide))
            go_roundw
            case rel => exact ⟨k + 1, lo, hi + 1, out ++ [hi], _, _, by omega, by go_num, rfl, by rw [HH1.out], rfl, HW2, by rw [ofN_append]; exact ho1, hk2, hb2⟩
            case measure => simp [intOf]; omega
        · have hfb : ((hi : Int) == (n : Int)) = false := by simp <;> omega
          have HF := Lib.hid hf
          by_cases hlo : 0 < lo
          · have HW2 : Hid (walkTo n q (oddAt bs) (k + 1) = (lo, hi + 1, out ++ [hi])) := Lib.hid (by
              rw [walkTo, HW.out]
              simp only
              rw [if_neg (by rw [HO.out]; simp [HF.out])])
            obtain ⟨h1, HH1⟩ : ∃ h, Hid (hi + 1 = h) := ⟨_, Lib.hid rfl⟩
            have hwh : IntKind.i64.wrap ((hi : Int) + 1) = (h1 : Int) := by rw [IntWalk.i64_in _ (by omega)]; have := HH1.out; omega
            clear hf
            go_wp2_with (at_builtin; go_must (refine push_num rfl (.tmp 50) (.tmp 52) rfl (u + 1) A' k c' (ofN out) rfl (ho.alloc _) ⟨wr.heap.size, 0, none⟩ 1 (hi : Int) rfl (cell_new1 _ _ _) (by omega) (by simp only [World.size_alloc]; omega) ?_); intro g1 cap1 w2 ho1 hg1)
            have hb2 : Below u w w2 := (hb.alloc (by omega) _).grown hg1 (by simp; omega) hAb
            have hk2 := (hbk.alloc (.cells #[.int .i64 (hi : Int)] 3)).grown hg1 ((ho.alloc (.cells #[.int .i64 (hi : Int)] 3)).bk_ne (hbk.alloc (.cells #[.int .i64 (hi : Int)] 3)) (by decide))
            go_roundw
            case rel => exact ⟨k + 1, lo, hi + 1, out ++ [hi], _, _, by omega, by go_num, rfl, by rw [HH1.out], rfl, HW2, by rw [ofN_append]; exact ho1, hk2, hb2⟩
            case measure => simp [intOf]; omega
          · have HW2 : Hid (walkTo n q (oddAt bs) (k + 1) = (lo, hi + 1, out ++ [hi])) := Lib.hid (by
              rw [walkTo, HW.out]
              simp only
              rw [if_neg (by rw [HO.out]; simp [HF.out, hlo])])
            obtain ⟨h1, HH1⟩ : ∃ h, Hid (hi + 1 = h) := ⟨_, Lib.hid rfl⟩
            have hwh : IntKind.i64.wrap ((hi : Int) + 1) = (h1 : Int) := by rw [IntWalk.i64_in _ (by omega)]; have := HH1.out; omega
            clear hf
            go_wp2_with (at_builtin; go_must (refine push_num rfl (.tmp 50) (.tmp 52) rfl (u + 1) A' k c' (ofN out) rfl (ho.alloc _) ⟨wr.heap.size, 0, none⟩ 1 (hi : Int) rfl (cell_new1 _ _ _) (by omega) (by simp only [World.size_alloc]; omega) ?_); intro g1 cap1 w2 ho1 hg1)
            have hb2 : Below u w w2 := (hb.alloc (by omega) _).grown hg1 (by simp; omega) hAb
            have hk2 := (hbk.alloc (.cells #[.int .i64 (hi : Int)] 3)).grown hg1 ((ho.alloc (.cells #[.int .i64 (hi : Int)] 3)).bk_ne (hbk.alloc (.cells #[.int .i64 (hi : Int)] 3)) (by decide))
            go_roundw
            case rel => exact ⟨k + 1, lo, hi + 1, out ++ [hi], _, _, by omega, by go_num, rfl, by rw [HH1.out], rfl, HW2, by rw [ofN_append]; exact ho1, hk2, hb2⟩
            case measure => simp [intOf]; omega
    · have hkn : n = k := by omega
      subst hkn
      have HE : Hid (walkedL b ps bs = out) := Lib.hid (by unfold walkedL; rw [HL.out, HQ.out, HW.out])
      have hcap := ho.cap
      go_wp2
      go_ret
      exact ⟨_, _, rfl, by rw [HE.out, hu]; exact ho.base (by omega), hcap, by rw [hu]; exact hb⟩
end Go.Proofs.Ytaekjnjignlmoaa
