/-
  The reference: CheckChange, FewestOf, Fewest, isBest.
-/
import Derived.Test.YtloibnmhgocboaaR1
namespace Go.Proofs.Ytloibnmhgocboaa
open Go.RowKit

set_option maxHeartbeats 2000000 in
theorem rCheckChange (A : Option Addr) (n c : Nat) (cs : List Int) (D : Option Addr) (n2 c2 : Nat) (v : List Int) (w : World) (hx : Ri w w.heap.size A n cs) (hy : Ri w w.heap.size D n2 v) (hn : n ≤ 1048576) (hn2 : n2 ≤ 1048576) (a m r : Int) (HR : Hid (changeCS cs v = (a, m, r))) :
    Calls Try.prog 21 #[.slice A n c, .slice D n2 c2] w fun e w' => e = .returned (.tuple #[.int .i64 a, .int .i64 m, .int .i64 r]) ∧ ∃ m, w' = w.drewN m := by
  obtain ⟨q, HQ⟩ : ∃ q, Hid (checkCoins cs = q) := ⟨_, Lib.hid rfl⟩
  have HL := Lib.hid hx.len
  have HL2 := Lib.hid hy.len
  by_cases h0 : q = 0
  · subst h0
    have hg := checkCoins_good.1 HQ.out
    have HC : Hid (∀ c ∈ cs, 0 ≤ c ∧ c ≤ 50) := Lib.hid (fun c hc => by have := hg.all c hc; omega)
    have hn5 : n ≤ 5 := by rw [← HL.out]; exact hg.hi
    clear hg
    by_cases h1 : n2 = n
    · subst h1
      have HN : Hid (¬ v.length ≠ cs.length) := Lib.hid (by rw [HL.out, HL2.out]; simp)
      go_enter Try.func21, Try.ntmps21
      go_wp2_with fail
      refine (rCheckCoins _ _ _ _ _ _ hx (by omega) _ HQ).mono ?_
      rintro e w1 ⟨rfl, m1, rfl⟩
      go_wp2
      go_loop [7] (fun i => ∃ k : Nat, k ≤ n2 ∧ i = .int .i64 k ∧ Hid ((v.take k).any (outB 0 1000) = false)) (fun i => n2 - (intOf i).toNat)
      case atStart => exact ⟨0, Nat.zero_le _, rfl, Lib.hid rfl⟩
      case round =>
        obtain ⟨k, hk, rfl, hno⟩ := hrel
        by_cases hlt : k < n2
        · obtain ⟨ad, x, rfl, _, hc, hxk, _⟩ := hy.at_ hlt
          have hbad : outB 0 1000 x = true → Hid (a = 0 ∧ m = 0 ∧ r = 3) := fun h => Lib.hid (by
            have e := HR.out
            unfold changeCS at e
            rw [if_pos HQ.out, if_neg HN.out, if_pos (List.any_eq_true.2 ⟨x, List.mem_of_getElem? hxk.out, h⟩)] at e
            cases e
            exact ⟨rfl, rfl, rfl⟩)
          by_cases hlo : x < 0
          · have HE := hbad (by simp [outB, hlo])
            clear hbad
            go_wp2
            go_ret3
            exact ⟨ret_iii HE.out.1.symm HE.out.2.1.symm HE.out.2.2.symm, m1, rfl⟩
          · by_cases hhi : 1000 < x
            · have HE := hbad (by simp [outB, hhi])
              clear hbad
              go_wp2
              go_ret3
              exact ⟨ret_iii HE.out.1.symm HE.out.2.1.symm HE.out.2.2.symm, m1, rfl⟩
            · have HX : Hid ((v.take (k + 1)).any (outB 0 1000) = false) := Lib.hid (by rw [take_snoc hxk.out, List.any_append, hno.out]; simp [outB]; omega)
              clear hbad
              go_wp2
              go_round
              case rel => exact ⟨k + 1, by omega, by go_num, HX⟩
              case measure => simp [intOf]; omega
        · have HBB : Hid (v.any (outB 0 1000) = false) := Lib.hid (by have := hno.out; rw [List.take_of_length_le (by rw [HL2.out]; omega)] at this; exact this)
          have HV : Hid (∀ x ∈ v, 0 ≤ x ∧ x ≤ 1000) := Lib.hid (any_out.1 HBB.out)
          have HE : Hid (dot cs v = a ∧ v.sum = m ∧ 0 = r) := Lib.hid (by
            have e := HR.out
            unfold changeCS at e
            rw [if_pos HQ.out, if_neg HN.out, HBB.out] at e
            cases e
            exact ⟨rfl, rfl, rfl⟩)
          clear hno
          go_wp2_with fail
          refine (rSum _ _ _ _ _ _ _ _ _ _ (hx.drewN m1) (hy.drewN m1) hn5 HC HV).mono ?_
          rintro e w2 ⟨rfl, m2, rfl⟩
          go_wp2
          go_ret3
          exact ⟨ret_iii HE.out.1 HE.out.2.1 HE.out.2.2, m1 + m2, rfl⟩
    · have HE : Hid (0 = a ∧ 0 = m ∧ 15 = r) := Lib.hid (by
        have e := HR.out
        unfold changeCS at e
        rw [if_pos HQ.out, if_pos (by rw [HL.out, HL2.out]; exact h1)] at e
        cases e
        exact ⟨rfl, rfl, rfl⟩)
      have hne : ((n2 : Int) != (n : Int)) = true := by simp only [bne_iff_ne, ne_eq]; omega
      go_enter Try.func21, Try.ntmps21
      go_wp2_with (go_at_call 23; refine (rCheckCoins _ _ _ _ _ _ hx (by omega) _ HQ).mono ?_; rintro e w1 ⟨rfl, m1, rfl⟩)
      go_ret3
      exact ⟨ret_iii HE.out.1 HE.out.2.1 HE.out.2.2, m1, rfl⟩
  · have HE : Hid (0 = a ∧ 0 = m ∧ q = r) := Lib.hid (by
      have e := HR.out
      unfold changeCS at e
      rw [if_neg (by rw [HQ.out]; exact h0), HQ.out] at e
      cases e
      exact ⟨rfl, rfl, rfl⟩)
    have hq := ne0 h0
    go_enter Try.func21, Try.ntmps21
    go_wp2_with fail
    refine (rCheckCoins _ _ _ _ _ _ hx (by omega) _ HQ).mono ?_
    rintro e w1 ⟨rfl, m1, rfl⟩
    go_wp2_with fail
    refine (rCheckCoins _ _ _ _ _ _ (hx.drewN m1) (by omega) _ HQ).mono ?_
    rintro e w1 ⟨rfl, m2, rfl⟩
    go_wp2
    go_ret3
    exact ⟨ret_iii HE.out.1 HE.out.2.1 HE.out.2.2, m1 + m2, rfl⟩

set_option maxHeartbeats 2000000 in
theorem rFewestOf (A : Option Addr) (n c : Nat) (cs : List Int) (N : Nat) (w : World) (hx : Ri w w.heap.size A n cs) (hn : n ≤ 5) (hN : N ≤ 300) (HC : Hid (∀ c ∈ cs, 1 ≤ c ∧ c ≤ 50)) :
    Calls Try.prog 64 #[.slice A n c, .int .i64 (N : Int)] w (RetL w (fewL cs N)) := by
  have HL := Lib.hid hx.len
  have HC1 : Hid (∀ c ∈ cs, 1 ≤ c) := Lib.hid (fun c h => (HC.out c h).1)
  go_enter Try.func64, Try.ntmps64
  go_wp2
  go_loopw [5, 6] (fun o i wr => ∃ (k c' : Nat) (A' : Option Addr), k ≤ N ∧ i = .int .i64 ((k : Int) + 1) ∧ o = .slice A' (k + 1) c' ∧ Oi wr w.heap.size A' (k + 1) c' (fewL cs k) ∧ Below w.heap.size w wr) (fun _ i _ => N + 1 - (intOf i).toNat)
  case atStart => exact ⟨0, 1, some ⟨w.heap.size, 0, none⟩, Nat.zero_le _, rfl, rfl, Oi.lit1 w 0, (Below.refl _ _).alloc (Nat.le_refl _) _⟩
  case round =>
    obtain ⟨k, c', A', hk, rfl, rfl, ho, hb⟩ := hrel
    have hsz := hb.size
    have hor := ho.ri
    by_cases hlt : k < N
    · obtain ⟨L, HLE⟩ : ∃ L, Hid (fewL cs k = L) := ⟨_, Lib.hid rfl⟩
      have HSUC : Hid (fewL cs (k + 1) = L ++ [cs.foldl (fewStep L ((k : Int) + 1)) (-1)]) := Lib.hid (by rw [fewL, HLE.out]; rfl)
      have HBD : Hid (∀ j : Nat, j ≤ k → -1 ≤ nth L j ∧ nth L j ≤ j) := Lib.hid (fun j hj => by rw [← HLE.out, nth_fewL cs hj]; exact few_le HC1.out j)
      rw [HLE.out] at ho hor
      go_wp2
      go_loop [7, 8] (fun b i => ∃ (j : Nat) (z : Int), j ≤ n ∧ i = .int .i64 j ∧ b = .int .i64 z ∧ -1 ≤ z ∧ z ≤ 1000 ∧ Hid ((cs.take j).foldl (fewStep L ((k : Int) + 1)) (-1) = z)) (fun _ i => n - (intOf i).toNat)
      case atStart => exact ⟨0, -1, Nat.zero_le _, rfl, rfl, by omega, by omega, Lib.hid rfl⟩
      case round =>
        obtain ⟨j, z, hj, rfl, rfl, hz1, hz2, HZ⟩ := hrel
        by_cases hlt2 : j < n
        · obtain ⟨ad, x, rfl, hadb, hc0, hxk, _⟩ := hx.at_ hlt2
          have hc1 : wr.cell? (ad.add j) = some (.int .i64 x) := (hb.cell (by rw [addr_block]; exact hadb)).trans hc0
          clear hc0
          have hxr := HC.out x (List.mem_of_getElem? hxk.out)
          obtain ⟨hx1, hx50⟩ := hxr
          have HST : Hid ((cs.take (j + 1)).foldl (fewStep L ((k : Int) + 1)) (-1) = fewStep L ((k : Int) + 1) z x) := Lib.hid (by rw [take_snoc hxk.out, List.foldl_append, HZ.out]; rfl)
          by_cases hgt : (k : Int) + 1 < x
          · have HE : Hid (fewStep L ((k : Int) + 1) z x = z) := Lib.hid (if_pos (.inl hgt))
            go_wp2
            go_round
            case rel => exact ⟨j + 1, z, by omega, by go_num, rfl, hz1, hz2, Lib.hid (HST.out.trans HE.out)⟩
            case measure => simp [intOf]; omega
          · obtain ⟨p, HP⟩ : ∃ p : Nat, Hid ((k : Int) + 1 - x = p) := ⟨((k : Int) + 1 - x).toNat, Lib.hid (by omega)⟩
            have hp := HP.out
            have hpk : p ≤ k := by omega
            obtain ⟨ad2, y, rfl, _, hc2, hyk, _⟩ := hor.at_ (k := p) (by omega)
            have hyn : nth L p = y := nth_some hyk.out
            have hyb := HBD.out p hpk
            rw [hyn] at hyb
            have hpt : ((k : Int) + 1 - x).toNat = p := by omega
            have hwp : IntKind.i64.wrap ((k : Int) + 1 - x) = p := by rw [hp]; exact IntWalk.i64_in _ (by omega)
            by_cases hy0 : y < 0
            · have HE : Hid (fewStep L ((k : Int) + 1) z x = z) := Lib.hid (if_pos (.inr (by rw [hpt, hyn]; exact hy0)))
              clear hyn hpt
              go_wp2
              go_round
              case rel => exact ⟨j + 1, z, by omega, by go_num, rfl, hz1, hz2, Lib.hid (HST.out.trans HE.out)⟩
              case measure => simp [intOf]; omega
            · by_cases hz0 : z < 0
              · have HE : Hid (fewStep L ((k : Int) + 1) z x = y + 1) := Lib.hid (by unfold fewStep; rw [hpt, hyn, if_neg (by omega), if_pos (by omega)])
                clear hyn hpt
                go_wp2
                go_round
                case rel => exact ⟨j + 1, y + 1, by omega, by go_num, rfl, by omega, by omega, Lib.hid (HST.out.trans HE.out)⟩
                case measure => simp [intOf]; omega
              · by_cases hzy : y + 1 < z
                · have HE : Hid (fewStep L ((k : Int) + 1) z x = y + 1) := Lib.hid (by unfold fewStep; rw [hpt, hyn, if_neg (by omega), if_pos (by omega)])
                  clear hyn hpt
                  go_wp2
                  go_round
                  case rel => exact ⟨j + 1, y + 1, by omega, by go_num, rfl, by omega, by omega, Lib.hid (HST.out.trans HE.out)⟩
                  case measure => simp [intOf]; omega
                · have HE : Hid (fewStep L ((k : Int) + 1) z x = z) := Lib.hid (by unfold fewStep; rw [hpt, hyn, if_neg (by omega), if_neg (by omega)])
                  clear hyn hpt
                  go_wp2
                  go_round
                  case rel => exact ⟨j + 1, z, by omega, by go_num, rfl, hz1, hz2, Lib.hid (HST.out.trans HE.out)⟩
                  case measure => simp [intOf]; omega
        · have HK : Hid (cs.foldl (fewStep L ((k : Int) + 1)) (-1) = z) := Lib.hid (by have := HZ.out; rwa [List.take_of_length_le (by rw [HL.out]; omega)] at this)
          go_wp2_with (at_builtin; refine push_int rfl (.tmp 58) (.tmp 60) rfl (w.heap.size) A' (k + 1) c' (L) rfl (ho.alloc _) ⟨wr.heap.size, 0, none⟩ 1 _ rfl (cell_new1 _ _ _) (by omega) (by simp only [World.size_alloc]; omega) ?_; intro g cap w1 hown1 hgrow1)
          go_roundw
          case rel => exact ⟨k + 1, _, _, by omega, by go_num, rfl, by rw [HSUC.out, HK.out]; exact hown1, ho.pushed hb hsz (Nat.le_refl _) hgrow1⟩
          case measure => simp [intOf]; omega
    · have HK : Hid (k = N) := Lib.hid (by omega)
      go_wp2
      go_ret
      exact ⟨A', k + 1, c', rfl, by rw [← HK.out]; exact ho, hb⟩
end Go.Proofs.Ytloibnmhgocboaa
