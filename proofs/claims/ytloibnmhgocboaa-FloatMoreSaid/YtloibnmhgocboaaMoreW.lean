/-
  FloatMore: with one more kind no amount needs more coins, none that could be paid cannot, no fewer ways pay it, and no more amounts cannot be paid: for every list of coins, and a value and an amount told by numbers; no condition.
-/
import Derived.Test.YtloibnmhgocboaaWorks
import Derived.Test.YtloibnmhgocboaaRow
import Derived.Test.YtloibnmhgocboaaLw2
import Derived.Test.YtloibnmhgocboaaFaR
namespace Go.Proofs.Ytloibnmhgocboaa
open Go.Shelf Go.ChangeShapes Go.WideShapes Go.ChangeAt Go.RowKit

theorem ins_len {v : Int} {cs xs : List Int} {k : Nat} (h : Ins v cs k xs) (hk : k ≤ cs.length) : xs.length ≤ k + 1 := by
  obtain ⟨p, hp, _, _, h3⟩ := h
  rcases h3 with ⟨_, rfl⟩ | ⟨h4, rfl⟩
  · rw [List.length_take]; omega
  · simp only [List.length_append, List.length_cons, List.length_take, List.length_drop]; omega
set_option maxRecDepth 100000 in
set_option maxHeartbeats 16000000 in
theorem wMore (A : Option Addr) (n c : Nat) (cs : List Int) (z x : Int) (hz0 : 0 ≤ z) (hz1 : z ≤ 255) (hx0 : 0 ≤ x) (hx1 : x ≤ 65535) (w : World) (hx : Ri w w.heap.size A n cs) (hc : n ≤ c) :
    Calls Try.prog 15 #[.slice A n c, .int .u8 z, .int .u16 x] w (RetB w true) := by
  by_cases hf : checkCoins cs = 0
  · have HF : Hid (decide (checkCoins cs = 0) = true) := Lib.hid (decide_eq_true hf)
    have HG : Hid (Good cs) := Lib.hid (checkCoins_good.1 hf)
    have HL := Lib.hid hx.len
    have hn1 : 1 ≤ n := by rw [← HL.out]; exact HG.out.lo
    have hn5 : n ≤ 5 := by rw [← HL.out]; exact HG.out.hi
    clear hf
    obtain ⟨N, HN⟩ : ∃ N : Nat, Hid (x % 301 = (N : Int)) := ⟨(x % 301).toNat, Lib.hid (by omega)⟩
    have hN : N ≤ 300 := by have := HN.out; omega
    have HAN : Hid (amountE cs (N : Int) = 0) := Lib.hid (amountE_nat HG.out hN)
    have h_d := hx
    by_cases hn4 : n ≤ 4
    · obtain ⟨zr, HZR⟩ : ∃ r : Int, Hid (z % 50 = r) := ⟨_, Lib.hid rfl⟩
      have hz3 : z.tmod 50 = zr := (Int.tmod_eq_emod_of_nonneg hz0).trans HZR.out
      have hz4 : z % 50 = zr := HZR.out
      have hzr0 : 0 ≤ zr ∧ zr ≤ 49 := by rw [← HZR.out]; omega
      obtain ⟨v, hv⟩ : ∃ v : Int, 1 + zr = v := ⟨_, rfl⟩
      have hv1 : 1 ≤ v := by omega
      have hv50 : v ≤ 50 := by omega
      have hwv : IntKind.i64.wrap v = v := IntWalk.i64_in _ (by omega)
      have hwz : IntKind.i64.wrap zr = zr := IntWalk.i64_in _ (by omega)
      have hwz1 : IntKind.i64.wrap z = z := IntWalk.i64_in _ (by omega)
      have hn4i : ¬ (5 : Int) ≤ (n : Int) := by omega
      go_enter Try.func15, Try.ntmps15
      go_wp2_with fail
      refine (aFin A n c _ cs _ h_d _ HF).mono ?_
      rintro e w1_ ⟨rfl, d1, hd1⟩
      have hb1 : Below w.heap.size w w1_ := hd1 ▸ below_drewN (Below.refl _ _) _
      clear hd1
      have B1 : Below w.heap.size w w1_ := (Below.refl _ _).trans (hb1.mono (Nat.le_refl _))
      have S1 : w.heap.size ≤ w1_.heap.size := B1.size
      replace h_d := Ri.next h_d hb1 (Nat.le_refl _) hb1.size
      clear hb1
      go_wp2
      go_loopw [8, 9] (fun o i wr => ∃ (k c' m : Nat) (A' : Option Addr) (xs : List Int), k ≤ n ∧ m ≤ k + 1 ∧ i = .int .i64 k ∧ o = .slice A' m c' ∧ Hid (Ins v cs k xs) ∧ Oi wr w1_.heap.size A' m c' xs ∧ Below w1_.heap.size w1_ wr) (fun _ i _ => n - (intOf i).toNat)
      case atStart => exact ⟨0, 0, 0, none, [], Nat.zero_le _, by omega, rfl, rfl, Lib.hid (ins_start v cs), Oi.nil_ _ _, Below.refl _ _⟩
      case round =>
        obtain ⟨k, c', m, A', xs, hk, hm, rfl, rfl, HINS, ho, hb⟩ := hrel
        have hsz := hb.size
        by_cases hlt : k < n
        · obtain ⟨ad, y, hA, hadb, hcv, hyk, _⟩ := h_d.at_ hlt
          subst hA
          have hcv1 : wr.cell? (ad.add k) = some (.int .i64 y) := (hb.cell (by rw [addr_block]; exact hadb)).trans hcv
          have hcv2 := hcv
          clear hcv
          by_cases hyv : y = v
          · subst hyv
            have hyy : (y == y) = true := by simp
            go_wp2_with fail
            refine (aWorks _).mono ?_
            rintro e w9 ⟨rfl, hb9⟩
            go_wp2
            go_ret
            exact ⟨rfl, B1.trans ((hb.trans (hb9.mono hsz)).mono S1)⟩
          · have hyv2 : (y == v) = false := by simpa using hyv
            by_cases hlt2 : y < v
            · have HN := Lib.hid (ins_lt HG.out HINS.out hyk.out hlt2)
              go_wp2_with (at_builtin; refine push_int rfl (.tmp 72) (.tmp 77) rfl (w1_.heap.size) A' m c' (xs) rfl (ho.alloc _) ⟨wr.heap.size, 0, none⟩ 1 _ rfl (cell_new1 _ _ _) (by omega) (by simp only [World.size_alloc]; omega) ?_; intro g cap w1 hown1 hgrow1)
              go_roundw
              case rel => exact ⟨k + 1, _, m + 1, _, _, by omega, by omega, by go_num, rfl, HN, hown1, ho.pushed hb hsz (Nat.le_refl _) hgrow1⟩
              case measure => simp [intOf]; omega
            · have hgt : v < y := by omega
              rcases Nat.eq_zero_or_pos k with hk0 | hkp
              · subst hk0
                rw [addr_zero] at hcv1 hcv2
                have HN := Lib.hid (ins_first HINS.out hyk.out hgt (.inl rfl))
                have hm2 : m + 1 + 1 ≤ 0 + 1 + 1 := by
                  have h1 := ins_len HN.out (by rw [HL.out]; omega)
                  have h2 := ho.len
                  simp only [List.length_append, List.length_cons, List.length_nil] at h1
                  omega
                go_wp2_with (first
                  | ((at_builtin; refine push_int rfl (.tmp 68) (.tmp 70) rfl (w1_.heap.size) A' m c' (xs) rfl (ho.alloc _) ⟨wr.heap.size, 0, none⟩ 1 _ rfl (cell_new1 _ _ _) (by omega) (by simp only [World.size_alloc]; omega) ?_; intro ga capa w1a hown1a hgrow1a); have hba := ho.pushed hb hsz (Nat.le_refl _) hgrow1a; have hsza := hba.size; have hcva : w1a.cell? ad = some (.int .i64 y) := (hba.cell hadb).trans hcv2)
                  | (at_builtin; refine push_int rfl (.tmp 72) (.tmp 77) rfl (w1_.heap.size) (some ⟨ga, 0, none⟩) (m + 1) capa ((xs ++ [v])) rfl (hown1a.alloc _) ⟨w1a.heap.size, 0, none⟩ 1 _ rfl (cell_new1 _ _ _) (by omega) (by simp only [World.size_alloc]; omega) ?_; intro g cap w1 hown1 hgrow1))
                go_roundw
                case rel => exact ⟨0 + 1, _, m + 1 + 1, _, _, by omega, hm2, by go_num, rfl, HN, hown1, hown1a.pushed hba hsza (Nat.le_refl _) hgrow1⟩
                case measure => simp [intOf]; omega
              · obtain ⟨p, HPK⟩ : ∃ p, Hid (k = p + 1) := ⟨k - 1, Lib.hid (by omega)⟩
                have hpn : p < n := by rw [HPK.out] at hlt; omega
                have hi1 : (k : Int) - 1 = p := by rw [HPK.out]; omega
                have hi2 : IntKind.i64.wrap (p : Int) = p := IntWalk.i64_in _ (by omega)
                have hk0 : ((k : Int) == 0) = false := by simp; omega
                obtain ⟨ad2, u, hA2, hadb2, hcu, hup, _⟩ := h_d.at_ hpn
                cases hA2
                have hcu1 : wr.cell? (ad.add p) = some (.int .i64 u) := (hb.cell (by rw [addr_block]; exact hadb)).trans hcu
                by_cases huv : u < v
                · have HN := Lib.hid (ins_first HINS.out hyk.out hgt (.inr (by rw [show k - 1 = p by have := HPK.out; omega, nth_some hup.out]; exact huv)))
                  have hm2 : m + 1 + 1 ≤ k + 1 + 1 := by
                    have h1 := ins_len HN.out (by rw [HL.out]; omega)
                    have h2 := ho.len
                    simp only [List.length_append, List.length_cons, List.length_nil] at h1
                    omega
                  go_wp2_with (first
                    | ((at_builtin; refine push_int rfl (.tmp 68) (.tmp 70) rfl (w1_.heap.size) A' m c' (xs) rfl (ho.alloc _) ⟨wr.heap.size, 0, none⟩ 1 _ rfl (cell_new1 _ _ _) (by omega) (by simp only [World.size_alloc]; omega) ?_; intro ga capa w1a hown1a hgrow1a); have hba := ho.pushed hb hsz (Nat.le_refl _) hgrow1a; have hsza := hba.size; have hcva : w1a.cell? (ad.add k) = some (.int .i64 y) := (hba.cell (by rw [addr_block]; exact hadb)).trans hcv2)
                    | (at_builtin; refine push_int rfl (.tmp 72) (.tmp 77) rfl (w1_.heap.size) (some ⟨ga, 0, none⟩) (m + 1) capa ((xs ++ [v])) rfl (hown1a.alloc _) ⟨w1a.heap.size, 0, none⟩ 1 _ rfl (cell_new1 _ _ _) (by omega) (by simp only [World.size_alloc]; omega) ?_; intro g cap w1 hown1 hgrow1))
                  go_roundw
                  case rel => exact ⟨k + 1, _, m + 1 + 1, _, _, by omega, hm2, by go_num, rfl, HN, hown1, hown1a.pushed hba hsza (Nat.le_refl _) hgrow1⟩
                  case measure => simp [intOf]; omega
                · have HN : Hid (Ins v cs (k + 1) (xs ++ [y])) := Lib.hid (by
                    have h1 := HINS.out
                    have h2 := hyk.out
                    rw [HPK.out] at h1 h2 ⊢
                    exact ins_next h1 h2 hgt (by rw [nth_some hup.out]; omega))
                  go_wp2_with (at_builtin; refine push_int rfl (.tmp 72) (.tmp 77) rfl (w1_.heap.size) A' m c' (xs) rfl (ho.alloc _) ⟨wr.heap.size, 0, none⟩ 1 _ rfl (cell_new1 _ _ _) (by omega) (by simp only [World.size_alloc]; omega) ?_; intro g cap w1 hown1 hgrow1)
                  go_roundw
                  case rel => exact ⟨k + 1, _, m + 1, _, _, by omega, by omega, by go_num, rfl, HN, hown1, ho.pushed hb hsz (Nat.le_refl _) hgrow1⟩
                  case measure => simp [intOf]; omega
        · skip
          obtain rfl : k = n := by omega
          have HDN := Lib.hid (ins_done (cs := cs) (xs := xs) (v := v) (by rw [HL.out]; exact HINS.out))
          have hml : xs.length = m := ho.len
          obtain ⟨X, HXI⟩ : ∃ X : List Int, Hid (∃ l r : List Int, cs = l ++ r ∧ (∀ x ∈ l, x < v) ∧ (∀ x ∈ r, v < x) ∧ X = l ++ v :: r ∧ ((xs = cs ∧ cs ++ [v] = X) ∨ (xs.length = cs.length + 1 ∧ xs = X))) := by
            obtain ⟨l, r, h1, h2, h3, h4⟩ := HDN.out
            exact ⟨l ++ v :: r, Lib.hid ⟨l, r, h1, h2, h3, rfl, h4⟩⟩
          clear HDN
          have HGX : Hid (Good X) := Lib.hid (by
            obtain ⟨l, r, h1, h2, h3, h4, _⟩ := HXI.out
            rw [h4]
            exact good_more (by rw [← h1]; exact HG.out) (by rw [← h1, HL.out]; exact hn4) hv1 hv50 h2 h3)
          have HMORE : Hid ((0 ≤ few cs N → 0 ≤ few X N ∧ few X N ≤ few cs N) ∧ Go.Proofs.Ytloibnmhgocboaa.ways cs N ≤ Go.Proofs.Ytloibnmhgocboaa.ways X N ∧ (endless cs = false → endless X = false ∧ divSum (nth X 0) (restsL X) ≤ divSum (nth cs 0) (restsL cs))) := Lib.hid (by
            obtain ⟨l, r, h1, h2, h3, h4, _⟩ := HXI.out
            have hgx := HGX.out
            have hg := HG.out
            rw [h4] at hgx ⊢
            rw [h1] at hg ⊢
            exact more_all hg hgx hN)
          have HWF1 := Lib.hid (ways_facts HG.out hN)
          have HWF2 := Lib.hid (ways_facts HGX.out hN)
          obtain ⟨y1, HY1⟩ : ∃ y, Hid (Go.Proofs.Ytloibnmhgocboaa.ways cs N = y) := ⟨_, Lib.hid rfl⟩
          obtain ⟨y2, HY2⟩ : ∃ y, Hid (Go.Proofs.Ytloibnmhgocboaa.ways X N = y) := ⟨_, Lib.hid rfl⟩
          have hy1 : 0 ≤ y1 := by rw [← HY1.out]; exact HWF1.out.2.1
          have hy12 : y1 ≤ y2 := by rw [← HY1.out, ← HY2.out]; exact HMORE.out.2.1
          have HW1 : Hid (waysS cs (N : Int) = (y1, 0)) := Lib.hid (by rw [HWF1.out.1, HY1.out])
          have HW2 : Hid (waysS X (N : Int) = (y2, 0)) := Lib.hid (by rw [HWF2.out.1, HY2.out])
          have HAX : Hid (amountE X (N : Int) = 0) := Lib.hid (amountE_nat HGX.out hN)
          have HXL : Hid (X.length = k + 1) := Lib.hid (by
            obtain ⟨l, r, h1, _, _, h4, _⟩ := HXI.out
            rw [h4, ← HL.out, h1]
            simp
            omega)
          clear HWF1 HWF2
          by_cases hmk : m = k
          · skip
            subst hmk
            have HXE : Hid (xs ++ [v] = X) := Lib.hid (by
              obtain ⟨l, r, _, _, _, _, h5 | h5⟩ := HXI.out
              · rw [h5.1]; exact h5.2
              · have := h5.1; rw [HL.out, hml] at this; omega)
            go_wp2_with (at_builtin; refine push_int rfl (.tmp 84) (.tmp 86) rfl (w1_.heap.size) A' m c' (xs) rfl (ho.alloc _) ⟨wr.heap.size, 0, none⟩ 1 _ rfl (cell_new1 _ _ _) (by omega) (by simp only [World.size_alloc]; omega) ?_; intro g cap w1 hown1 hgrow1)
            have hbx := ho.pushed hb hsz (Nat.le_refl _) hgrow1
            rw [HXE.out] at hown1
            have hmx : m + 1 ≤ 5 := by omega
            have B2 : Below w.heap.size w w1 := B1.trans (hbx.mono S1)
            have S2 : w.heap.size ≤ w1.heap.size := B2.size
            replace h_d := Ri.next h_d hbx (Nat.le_refl _) hbx.size
            clear B1 S1
            have h_x := hown1.ri
            have k_x := hown1.cap
            clear hown1 ho
            by_cases hcan : few cs N < 0
            · skip
              have HP1 : Hid (paidV cs (N : Int) = (0, false)) := Lib.hid (paid_no hcan)
              obtain ⟨m2, b2, HP2⟩ : ∃ m b, Hid (paidV X (N : Int) = (m, b)) := ⟨_, _, Lib.hid rfl⟩
              cases hen : endless cs with
              | true =>
                have HM1 : Hid (manyS cs = (0, 4)) := Lib.hid (end_yes HG.out hen).2
                clear hen
                cases hex : endless X with
                | true =>
                  have HM2 : Hid (manyS X = (0, 4)) := Lib.hid (end_yes HGX.out hex).2
                  clear hex
                  go_wp2_with fail
                  refine (aAmt x hx0 hx1 N HN _).mono ?_
                  rintro e w' ⟨rfl, rfl⟩
                  go_wp2_with fail
                  refine (aPaid A m c cs (N : Int) _ h_d (by omega) hc HAN 0 false HP1).mono ?_
                  rintro e w3_ ⟨rfl, hb3⟩
                  have B3 : Below w.heap.size w w3_ := B2.trans (hb3.mono S2)
                  have S3 : w.heap.size ≤ w3_.heap.size := B3.size
                  replace h_d := Ri.next h_d hb3 (Nat.le_refl _) hb3.size
                  replace h_x := Ri.next h_x hb3 (Nat.le_refl _) hb3.size
                  clear B2 S2
                  clear hb3
                  go_wp2_with fail
                  refine (aPaid (some ⟨g, 0, none⟩) (m + 1) cap X (N : Int) _ h_x (by omega) k_x HAX m2 b2 HP2).mono ?_
                  rintro e w4_ ⟨rfl, hb4⟩
                  have B4 : Below w.heap.size w w4_ := B3.trans (hb4.mono S3)
                  have S4 : w.heap.size ≤ w4_.heap.size := B4.size
                  replace h_d := Ri.next h_d hb4 (Nat.le_refl _) hb4.size
                  replace h_x := Ri.next h_x hb4 (Nat.le_refl _) hb4.size
                  clear B3 S3
                  clear hb4
                  go_wp2_with fail
                  refine (fWaysT A m c cs (N : Int) _ h_d (by omega) hc y1 0 HW1).mono ?_
                  rintro e w5_ ⟨rfl, hb5⟩
                  have B5 : Below w.heap.size w w5_ := B4.trans (hb5.mono S4)
                  have S5 : w.heap.size ≤ w5_.heap.size := B5.size
                  replace h_d := Ri.next h_d hb5 (Nat.le_refl _) hb5.size
                  replace h_x := Ri.next h_x hb5 (Nat.le_refl _) hb5.size
                  clear B4 S4
                  clear hb5
                  go_wp2_with fail
                  refine (fWaysT (some ⟨g, 0, none⟩) (m + 1) cap X (N : Int) _ h_x (by omega) k_x y2 0 HW2).mono ?_
                  rintro e w6_ ⟨rfl, hb6⟩
                  have B6 : Below w.heap.size w w6_ := B5.trans (hb6.mono S5)
                  have S6 : w.heap.size ≤ w6_.heap.size := B6.size
                  replace h_d := Ri.next h_d hb6 (Nat.le_refl _) hb6.size
                  replace h_x := Ri.next h_x hb6 (Nat.le_refl _) hb6.size
                  clear B5 S5
                  clear hb6
                  go_wp2_with fail
                  refine (fManyT A m c cs _ h_d (by omega) hc 0 4 HM1).mono ?_
                  rintro e w7_ ⟨rfl, hb7⟩
                  have B7 : Below w.heap.size w w7_ := B6.trans (hb7.mono S6)
                  have S7 : w.heap.size ≤ w7_.heap.size := B7.size
                  replace h_d := Ri.next h_d hb7 (Nat.le_refl _) hb7.size
                  replace h_x := Ri.next h_x hb7 (Nat.le_refl _) hb7.size
                  clear B6 S6
                  clear hb7
                  go_wp2_with fail
                  refine (fManyT (some ⟨g, 0, none⟩) (m + 1) cap X _ h_x (by omega) k_x 0 4 HM2).mono ?_
                  rintro e w8_ ⟨rfl, hb8⟩
                  have B8 : Below w.heap.size w w8_ := B7.trans (hb8.mono S7)
                  have S8 : w.heap.size ≤ w8_.heap.size := B8.size
                  replace h_d := Ri.next h_d hb8 (Nat.le_refl _) hb8.size
                  replace h_x := Ri.next h_x hb8 (Nat.le_refl _) hb8.size
                  clear B7 S7
                  clear hb8
                  go_wp2_with fail
                  refine (aWorks _).mono ?_
                  rintro e w9_ ⟨rfl, hb9⟩
                  have B9 : Below w.heap.size w w9_ := B8.trans (hb9.mono S8)
                  have S9 : w.heap.size ≤ w9_.heap.size := B9.size
                  replace h_d := Ri.next h_d hb9 (Nat.le_refl _) hb9.size
                  replace h_x := Ri.next h_x hb9 (Nat.le_refl _) hb9.size
                  clear B8 S8
                  clear hb9
                  go_wp2
                  go_ret
                  exact ⟨rfl, B9⟩
                | false =>
                  obtain ⟨q2, HM2⟩ : ∃ q, Hid (manyS X = (q, 0)) := ⟨_, Lib.hid (many_ok HGX.out hex)⟩
                  clear hex
                  go_wp2_with fail
                  refine (aAmt x hx0 hx1 N HN _).mono ?_
                  rintro e w' ⟨rfl, rfl⟩
                  go_wp2_with fail
                  refine (aPaid A m c cs (N : Int) _ h_d (by omega) hc HAN 0 false HP1).mono ?_
                  rintro e w3_ ⟨rfl, hb3⟩
                  have B3 : Below w.heap.size w w3_ := B2.trans (hb3.mono S2)
                  have S3 : w.heap.size ≤ w3_.heap.size := B3.size
                  replace h_d := Ri.next h_d hb3 (Nat.le_refl _) hb3.size
                  replace h_x := Ri.next h_x hb3 (Nat.le_refl _) hb3.size
                  clear B2 S2
                  clear hb3
                  go_wp2_with fail
                  refine (aPaid (some ⟨g, 0, none⟩) (m + 1) cap X (N : Int) _ h_x (by omega) k_x HAX m2 b2 HP2).mono ?_
                  rintro e w4_ ⟨rfl, hb4⟩
                  have B4 : Below w.heap.size w w4_ := B3.trans (hb4.mono S3)
                  have S4 : w.heap.size ≤ w4_.heap.size := B4.size
                  replace h_d := Ri.next h_d hb4 (Nat.le_refl _) hb4.size
                  replace h_x := Ri.next h_x hb4 (Nat.le_refl _) hb4.size
                  clear B3 S3
                  clear hb4
                  go_wp2_with fail
                  refine (fWaysT A m c cs (N : Int) _ h_d (by omega) hc y1 0 HW1).mono ?_
                  rintro e w5_ ⟨rfl, hb5⟩
                  have B5 : Below w.heap.size w w5_ := B4.trans (hb5.mono S4)
                  have S5 : w.heap.size ≤ w5_.heap.size := B5.size
                  replace h_d := Ri.next h_d hb5 (Nat.le_refl _) hb5.size
                  replace h_x := Ri.next h_x hb5 (Nat.le_refl _) hb5.size
                  clear B4 S4
                  clear hb5
                  go_wp2_with fail
                  refine (fWaysT (some ⟨g, 0, none⟩) (m + 1) cap X (N : Int) _ h_x (by omega) k_x y2 0 HW2).mono ?_
                  rintro e w6_ ⟨rfl, hb6⟩
                  have B6 : Below w.heap.size w w6_ := B5.trans (hb6.mono S5)
                  have S6 : w.heap.size ≤ w6_.heap.size := B6.size
                  replace h_d := Ri.next h_d hb6 (Nat.le_refl _) hb6.size
                  replace h_x := Ri.next h_x hb6 (Nat.le_refl _) hb6.size
                  clear B5 S5
                  clear hb6
                  go_wp2_with fail
                  refine (fManyT A m c cs _ h_d (by omega) hc 0 4 HM1).mono ?_
                  rintro e w7_ ⟨rfl, hb7⟩
                  have B7 : Below w.heap.size w w7_ := B6.trans (hb7.mono S6)
                  have S7 : w.heap.size ≤ w7_.heap.size := B7.size
                  replace h_d := Ri.next h_d hb7 (Nat.le_refl _) hb7.size
                  replace h_x := Ri.next h_x hb7 (Nat.le_refl _) hb7.size
                  clear B6 S6
                  clear hb7
                  go_wp2_with fail
                  refine (fManyT (some ⟨g, 0, none⟩) (m + 1) cap X _ h_x (by omega) k_x q2 0 HM2).mono ?_
                  rintro e w8_ ⟨rfl, hb8⟩
                  have B8 : Below w.heap.size w w8_ := B7.trans (hb8.mono S7)
                  have S8 : w.heap.size ≤ w8_.heap.size := B8.size
                  replace h_d := Ri.next h_d hb8 (Nat.le_refl _) hb8.size
                  replace h_x := Ri.next h_x hb8 (Nat.le_refl _) hb8.size
                  clear B7 S7
                  clear hb8
                  go_wp2_with fail
                  refine (aWorks _).mono ?_
                  rintro e w9_ ⟨rfl, hb9⟩
                  have B9 : Below w.heap.size w w9_ := B8.trans (hb9.mono S8)
                  have S9 : w.heap.size ≤ w9_.heap.size := B9.size
                  replace h_d := Ri.next h_d hb9 (Nat.le_refl _) hb9.size
                  replace h_x := Ri.next h_x hb9 (Nat.le_refl _) hb9.size
                  clear B8 S8
                  clear hb9
                  go_wp2
                  go_ret
                  exact ⟨rfl, B9⟩
              | false =>
                have hex := (HMORE.out.2.2 hen).1
                obtain ⟨q1, HQ1⟩ : ∃ q, Hid (divSum (nth cs 0) (restsL cs) = q) := ⟨_, Lib.hid rfl⟩
                obtain ⟨q2, HQ2⟩ : ∃ q, Hid (divSum (nth X 0) (restsL X) = q) := ⟨_, Lib.hid rfl⟩
                have hq12 : q2 ≤ q1 := by rw [← HQ1.out, ← HQ2.out]; exact (HMORE.out.2.2 hen).2
                have HM1 : Hid (manyS cs = (q1, 0)) := Lib.hid (by rw [← HQ1.out]; exact many_ok HG.out hen)
                have HM2 : Hid (manyS X = (q2, 0)) := Lib.hid (by rw [← HQ2.out]; exact many_ok HGX.out hex)
                clear hen hex
                go_wp2_with fail
                refine (aAmt x hx0 hx1 N HN _).mono ?_
                rintro e w' ⟨rfl, rfl⟩
                go_wp2_with fail
                refine (aPaid A m c cs (N : Int) _ h_d (by omega) hc HAN 0 false HP1).mono ?_
                rintro e w3_ ⟨rfl, hb3⟩
                have B3 : Below w.heap.size w w3_ := B2.trans (hb3.mono S2)
                have S3 : w.heap.size ≤ w3_.heap.size := B3.size
                replace h_d := Ri.next h_d hb3 (Nat.le_refl _) hb3.size
                replace h_x := Ri.next h_x hb3 (Nat.le_refl _) hb3.size
                clear B2 S2
                clear hb3
                go_wp2_with fail
                refine (aPaid (some ⟨g, 0, none⟩) (m + 1) cap X (N : Int) _ h_x (by omega) k_x HAX m2 b2 HP2).mono ?_
                rintro e w4_ ⟨rfl, hb4⟩
                have B4 : Below w.heap.size w w4_ := B3.trans (hb4.mono S3)
                have S4 : w.heap.size ≤ w4_.heap.size := B4.size
                replace h_d := Ri.next h_d hb4 (Nat.le_refl _) hb4.size
                replace h_x := Ri.next h_x hb4 (Nat.le_refl _) hb4.size
                clear B3 S3
                clear hb4
                go_wp2_with fail
                refine (fWaysT A m c cs (N : Int) _ h_d (by omega) hc y1 0 HW1).mono ?_
                rintro e w5_ ⟨rfl, hb5⟩
                have B5 : Below w.heap.size w w5_ := B4.trans (hb5.mono S4)
                have S5 : w.heap.size ≤ w5_.heap.size := B5.size
                replace h_d := Ri.next h_d hb5 (Nat.le_refl _) hb5.size
                replace h_x := Ri.next h_x hb5 (Nat.le_refl _) hb5.size
                clear B4 S4
                clear hb5
                go_wp2_with fail
                refine (fWaysT (some ⟨g, 0, none⟩) (m + 1) cap X (N : Int) _ h_x (by omega) k_x y2 0 HW2).mono ?_
                rintro e w6_ ⟨rfl, hb6⟩
                have B6 : Below w.heap.size w w6_ := B5.trans (hb6.mono S5)
                have S6 : w.heap.size ≤ w6_.heap.size := B6.size
                replace h_d := Ri.next h_d hb6 (Nat.le_refl _) hb6.size
                replace h_x := Ri.next h_x hb6 (Nat.le_refl _) hb6.size
                clear B5 S5
                clear hb6
                go_wp2_with fail
                refine (fManyT A m c cs _ h_d (by omega) hc q1 0 HM1).mono ?_
                rintro e w7_ ⟨rfl, hb7⟩
                have B7 : Below w.heap.size w w7_ := B6.trans (hb7.mono S6)
                have S7 : w.heap.size ≤ w7_.heap.size := B7.size
                replace h_d := Ri.next h_d hb7 (Nat.le_refl _) hb7.size
                replace h_x := Ri.next h_x hb7 (Nat.le_refl _) hb7.size
                clear B6 S6
                clear hb7
                go_wp2_with fail
                refine (fManyT (some ⟨g, 0, none⟩) (m + 1) cap X _ h_x (by omega) k_x q2 0 HM2).mono ?_
                rintro e w8_ ⟨rfl, hb8⟩
                have B8 : Below w.heap.size w w8_ := B7.trans (hb8.mono S7)
                have S8 : w.heap.size ≤ w8_.heap.size := B8.size
                replace h_d := Ri.next h_d hb8 (Nat.le_refl _) hb8.size
                replace h_x := Ri.next h_x hb8 (Nat.le_refl _) hb8.size
                clear B7 S7
                clear hb8
                go_wp2_with fail
                refine (aWorks _).mono ?_
                rintro e w9_ ⟨rfl, hb9⟩
                have B9 : Below w.heap.size w w9_ := B8.trans (hb9.mono S8)
                have S9 : w.heap.size ≤ w9_.heap.size := B9.size
                replace h_d := Ri.next h_d hb9 (Nat.le_refl _) hb9.size
                replace h_x := Ri.next h_x hb9 (Nat.le_refl _) hb9.size
                clear B8 S8
                clear hb9
                go_wp2
                go_ret
                exact ⟨rfl, B9⟩
            · skip
              have HC2 := Lib.hid (HMORE.out.1 (by omega))
              obtain ⟨m1, HF1⟩ : ∃ m, Hid (few cs N = m) := ⟨_, Lib.hid rfl⟩
              obtain ⟨m2, HF2⟩ : ∃ m, Hid (few X N = m) := ⟨_, Lib.hid rfl⟩
              have hm12 : m2 ≤ m1 := by rw [← HF1.out, ← HF2.out]; exact HC2.out.2
              have HP1 : Hid (paidV cs (N : Int) = (m1, true)) := Lib.hid (by rw [← HF1.out]; exact paid_yes (by omega))
              have HP2 : Hid (paidV X (N : Int) = (m2, true)) := Lib.hid (by rw [← HF2.out]; exact paid_yes HC2.out.1)
              cases hen : endless cs with
              | true =>
                have HM1 : Hid (manyS cs = (0, 4)) := Lib.hid (end_yes HG.out hen).2
                clear hen
                cases hex : endless X with
                | true =>
                  have HM2 : Hid (manyS X = (0, 4)) := Lib.hid (end_yes HGX.out hex).2
                  clear hex
                  go_wp2_with fail
                  refine (aAmt x hx0 hx1 N HN _).mono ?_
                  rintro e w' ⟨rfl, rfl⟩
                  go_wp2_with fail
                  refine (aPaid A m c cs (N : Int) _ h_d (by omega) hc HAN m1 true HP1).mono ?_
                  rintro e w3_ ⟨rfl, hb3⟩
                  have B3 : Below w.heap.size w w3_ := B2.trans (hb3.mono S2)
                  have S3 : w.heap.size ≤ w3_.heap.size := B3.size
                  replace h_d := Ri.next h_d hb3 (Nat.le_refl _) hb3.size
                  replace h_x := Ri.next h_x hb3 (Nat.le_refl _) hb3.size
                  clear B2 S2
                  clear hb3
                  go_wp2_with fail
                  refine (aPaid (some ⟨g, 0, none⟩) (m + 1) cap X (N : Int) _ h_x (by omega) k_x HAX m2 true HP2).mono ?_
                  rintro e w4_ ⟨rfl, hb4⟩
                  have B4 : Below w.heap.size w w4_ := B3.trans (hb4.mono S3)
                  have S4 : w.heap.size ≤ w4_.heap.size := B4.size
                  replace h_d := Ri.next h_d hb4 (Nat.le_refl _) hb4.size
                  replace h_x := Ri.next h_x hb4 (Nat.le_refl _) hb4.size
                  clear B3 S3
                  clear hb4
                  go_wp2_with fail
                  refine (fWaysT A m c cs (N : Int) _ h_d (by omega) hc y1 0 HW1).mono ?_
                  rintro e w5_ ⟨rfl, hb5⟩
                  have B5 : Below w.heap.size w w5_ := B4.trans (hb5.mono S4)
                  have S5 : w.heap.size ≤ w5_.heap.size := B5.size
                  replace h_d := Ri.next h_d hb5 (Nat.le_refl _) hb5.size
                  replace h_x := Ri.next h_x hb5 (Nat.le_refl _) hb5.size
                  clear B4 S4
                  clear hb5
                  go_wp2_with fail
                  refine (fWaysT (some ⟨g, 0, none⟩) (m + 1) cap X (N : Int) _ h_x (by omega) k_x y2 0 HW2).mono ?_
                  rintro e w6_ ⟨rfl, hb6⟩
                  have B6 : Below w.heap.size w w6_ := B5.trans (hb6.mono S5)
                  have S6 : w.heap.size ≤ w6_.heap.size := B6.size
                  replace h_d := Ri.next h_d hb6 (Nat.le_refl _) hb6.size
                  replace h_x := Ri.next h_x hb6 (Nat.le_refl _) hb6.size
                  clear B5 S5
                  clear hb6
                  go_wp2_with fail
                  refine (fManyT A m c cs _ h_d (by omega) hc 0 4 HM1).mono ?_
                  rintro e w7_ ⟨rfl, hb7⟩
                  have B7 : Below w.heap.size w w7_ := B6.trans (hb7.mono S6)
                  have S7 : w.heap.size ≤ w7_.heap.size := B7.size
                  replace h_d := Ri.next h_d hb7 (Nat.le_refl _) hb7.size
                  replace h_x := Ri.next h_x hb7 (Nat.le_refl _) hb7.size
                  clear B6 S6
                  clear hb7
                  go_wp2_with fail
                  refine (fManyT (some ⟨g, 0, none⟩) (m + 1) cap X _ h_x (by omega) k_x 0 4 HM2).mono ?_
                  rintro e w8_ ⟨rfl, hb8⟩
                  have B8 : Below w.heap.size w w8_ := B7.trans (hb8.mono S7)
                  have S8 : w.heap.size ≤ w8_.heap.size := B8.size
                  replace h_d := Ri.next h_d hb8 (Nat.le_refl _) hb8.size
                  replace h_x := Ri.next h_x hb8 (Nat.le_refl _) hb8.size
                  clear B7 S7
                  clear hb8
                  go_wp2_with fail
                  refine (aWorks _).mono ?_
                  rintro e w9_ ⟨rfl, hb9⟩
                  have B9 : Below w.heap.size w w9_ := B8.trans (hb9.mono S8)
                  have S9 : w.heap.size ≤ w9_.heap.size := B9.size
                  replace h_d := Ri.next h_d hb9 (Nat.le_refl _) hb9.size
                  replace h_x := Ri.next h_x hb9 (Nat.le_refl _) hb9.size
                  clear B8 S8
                  clear hb9
                  go_wp2
                  go_ret
                  exact ⟨rfl, B9⟩
                | false =>
                  obtain ⟨q2, HM2⟩ : ∃ q, Hid (manyS X = (q, 0)) := ⟨_, Lib.hid (many_ok HGX.out hex)⟩
                  clear hex
                  go_wp2_with fail
                  refine (aAmt x hx0 hx1 N HN _).mono ?_
                  rintro e w' ⟨rfl, rfl⟩
                  go_wp2_with fail
                  refine (aPaid A m c cs (N : Int) _ h_d (by omega) hc HAN m1 true HP1).mono ?_
                  rintro e w3_ ⟨rfl, hb3⟩
                  have B3 : Below w.heap.size w w3_ := B2.trans (hb3.mono S2)
                  have S3 : w.heap.size ≤ w3_.heap.size := B3.size
                  replace h_d := Ri.next h_d hb3 (Nat.le_refl _) hb3.size
                  replace h_x := Ri.next h_x hb3 (Nat.le_refl _) hb3.size
                  clear B2 S2
                  clear hb3
                  go_wp2_with fail
                  refine (aPaid (some ⟨g, 0, none⟩) (m + 1) cap X (N : Int) _ h_x (by omega) k_x HAX m2 true HP2).mono ?_
                  rintro e w4_ ⟨rfl, hb4⟩
                  have B4 : Below w.heap.size w w4_ := B3.trans (hb4.mono S3)
                  have S4 : w.heap.size ≤ w4_.heap.size := B4.size
                  replace h_d := Ri.next h_d hb4 (Nat.le_refl _) hb4.size
                  replace h_x := Ri.next h_x hb4 (Nat.le_refl _) hb4.size
                  clear B3 S3
                  clear hb4
                  go_wp2_with fail
                  refine (fWaysT A m c cs (N : Int) _ h_d (by omega) hc y1 0 HW1).mono ?_
                  rintro e w5_ ⟨rfl, hb5⟩
                  have B5 : Below w.heap.size w w5_ := B4.trans (hb5.mono S4)
                  have S5 : w.heap.size ≤ w5_.heap.size := B5.size
                  replace h_d := Ri.next h_d hb5 (Nat.le_refl _) hb5.size
                  replace h_x := Ri.next h_x hb5 (Nat.le_refl _) hb5.size
                  clear B4 S4
                  clear hb5
                  go_wp2_with fail
                  refine (fWaysT (some ⟨g, 0, none⟩) (m + 1) cap X (N : Int) _ h_x (by omega) k_x y2 0 HW2).mono ?_
                  rintro e w6_ ⟨rfl, hb6⟩
                  have B6 : Below w.heap.size w w6_ := B5.trans (hb6.mono S5)
                  have S6 : w.heap.size ≤ w6_.heap.size := B6.size
                  replace h_d := Ri.next h_d hb6 (Nat.le_refl _) hb6.size
                  replace h_x := Ri.next h_x hb6 (Nat.le_refl _) hb6.size
                  clear B5 S5
                  clear hb6
                  go_wp2_with fail
                  refine (fManyT A m c cs _ h_d (by omega) hc 0 4 HM1).mono ?_
                  rintro e w7_ ⟨rfl, hb7⟩
                  have B7 : Below w.heap.size w w7_ := B6.trans (hb7.mono S6)
                  have S7 : w.heap.size ≤ w7_.heap.size := B7.size
                  replace h_d := Ri.next h_d hb7 (Nat.le_refl _) hb7.size
                  replace h_x := Ri.next h_x hb7 (Nat.le_refl _) hb7.size
                  clear B6 S6
                  clear hb7
                  go_wp2_with fail
                  refine (fManyT (some ⟨g, 0, none⟩) (m + 1) cap X _ h_x (by omega) k_x q2 0 HM2).mono ?_
                  rintro e w8_ ⟨rfl, hb8⟩
                  have B8 : Below w.heap.size w w8_ := B7.trans (hb8.mono S7)
                  have S8 : w.heap.size ≤ w8_.heap.size := B8.size
                  replace h_d := Ri.next h_d hb8 (Nat.le_refl _) hb8.size
                  replace h_x := Ri.next h_x hb8 (Nat.le_refl _) hb8.size
                  clear B7 S7
                  clear hb8
                  go_wp2_with fail
                  refine (aWorks _).mono ?_
                  rintro e w9_ ⟨rfl, hb9⟩
                  have B9 : Below w.heap.size w w9_ := B8.trans (hb9.mono S8)
                  have S9 : w.heap.size ≤ w9_.heap.size := B9.size
                  replace h_d := Ri.next h_d hb9 (Nat.le_refl _) hb9.size
                  replace h_x := Ri.next h_x hb9 (Nat.le_refl _) hb9.size
                  clear B8 S8
                  clear hb9
                  go_wp2
                  go_ret
                  exact ⟨rfl, B9⟩
              | false =>
                have hex := (HMORE.out.2.2 hen).1
                obtain ⟨q1, HQ1⟩ : ∃ q, Hid (divSum (nth cs 0) (restsL cs) = q) := ⟨_, Lib.hid rfl⟩
                obtain ⟨q2, HQ2⟩ : ∃ q, Hid (divSum (nth X 0) (restsL X) = q) := ⟨_, Lib.hid rfl⟩
                have hq12 : q2 ≤ q1 := by rw [← HQ1.out, ← HQ2.out]; exact (HMORE.out.2.2 hen).2
                have HM1 : Hid (manyS cs = (q1, 0)) := Lib.hid (by rw [← HQ1.out]; exact many_ok HG.out hen)
                have HM2 : Hid (manyS X = (q2, 0)) := Lib.hid (by rw [← HQ2.out]; exact many_ok HGX.out hex)
                clear hen hex
                go_wp2_with fail
                refine (aAmt x hx0 hx1 N HN _).mono ?_
                rintro e w' ⟨rfl, rfl⟩
                go_wp2_with fail
                refine (aPaid A m c cs (N : Int) _ h_d (by omega) hc HAN m1 true HP1).mono ?_
                rintro e w3_ ⟨rfl, hb3⟩
                have B3 : Below w.heap.size w w3_ := B2.trans (hb3.mono S2)
                have S3 : w.heap.size ≤ w3_.heap.size := B3.size
                replace h_d := Ri.next h_d hb3 (Nat.le_refl _) hb3.size
                replace h_x := Ri.next h_x hb3 (Nat.le_refl _) hb3.size
                clear B2 S2
                clear hb3
                go_wp2_with fail
                refine (aPaid (some ⟨g, 0, none⟩) (m + 1) cap X (N : Int) _ h_x (by omega) k_x HAX m2 true HP2).mono ?_
                rintro e w4_ ⟨rfl, hb4⟩
                have B4 : Below w.heap.size w w4_ := B3.trans (hb4.mono S3)
                have S4 : w.heap.size ≤ w4_.heap.size := B4.size
                replace h_d := Ri.next h_d hb4 (Nat.le_refl _) hb4.size
                replace h_x := Ri.next h_x hb4 (Nat.le_refl _) hb4.size
                clear B3 S3
                clear hb4
                go_wp2_with fail
                refine (fWaysT A m c cs (N : Int) _ h_d (by omega) hc y1 0 HW1).mono ?_
                rintro e w5_ ⟨rfl, hb5⟩
                have B5 : Below w.heap.size w w5_ := B4.trans (hb5.mono S4)
                have S5 : w.heap.size ≤ w5_.heap.size := B5.size
                replace h_d := Ri.next h_d hb5 (Nat.le_refl _) hb5.size
                replace h_x := Ri.next h_x hb5 (Nat.le_refl _) hb5.size
                clear B4 S4
                clear hb5
                go_wp2_with fail
                refine (fWaysT (some ⟨g, 0, none⟩) (m + 1) cap X (N : Int) _ h_x (by omega) k_x y2 0 HW2).mono ?_
                rintro e w6_ ⟨rfl, hb6⟩
                have B6 : Below w.heap.size w w6_ := B5.trans (hb6.mono S5)
                have S6 : w.heap.size ≤ w6_.heap.size := B6.size
                replace h_d := Ri.next h_d hb6 (Nat.le_refl _) hb6.size
                replace h_x := Ri.next h_x hb6 (Nat.le_refl _) hb6.size
                clear B5 S5
                clear hb6
                go_wp2_with fail
                refine (fManyT A m c cs _ h_d (by omega) hc q1 0 HM1).mono ?_
                rintro e w7_ ⟨rfl, hb7⟩
                have B7 : Below w.heap.size w w7_ := B6.trans (hb7.mono S6)
                have S7 : w.heap.size ≤ w7_.heap.size := B7.size
                replace h_d := Ri.next h_d hb7 (Nat.le_refl _) hb7.size
                replace h_x := Ri.next h_x hb7 (Nat.le_refl _) hb7.size
                clear B6 S6
                clear hb7
                go_wp2_with fail
                refine (fManyT (some ⟨g, 0, none⟩) (m + 1) cap X _ h_x (by omega) k_x q2 0 HM2).mono ?_
                rintro e w8_ ⟨rfl, hb8⟩
                have B8 : Below w.heap.size w w8_ := B7.trans (hb8.mono S7)
                have S8 : w.heap.size ≤ w8_.heap.size := B8.size
                replace h_d := Ri.next h_d hb8 (Nat.le_refl _) hb8.size
                replace h_x := Ri.next h_x hb8 (Nat.le_refl _) hb8.size
                clear B7 S7
                clear hb8
                go_wp2_with fail
                refine (aWorks _).mono ?_
                rintro e w9_ ⟨rfl, hb9⟩
                have B9 : Below w.heap.size w w9_ := B8.trans (hb9.mono S8)
                have S9 : w.heap.size ≤ w9_.heap.size := B9.size
                replace h_d := Ri.next h_d hb9 (Nat.le_refl _) hb9.size
                replace h_x := Ri.next h_x hb9 (Nat.le_refl _) hb9.size
                clear B8 S8
                clear hb9
                go_wp2
                go_ret
                exact ⟨rfl, B9⟩
          · skip
            have HXE : Hid (xs = X) := Lib.hid (by
              obtain ⟨l, r, _, _, _, _, h5 | h5⟩ := HXI.out
              · have := congrArg List.length h5.1; rw [HL.out, hml] at this; omega
              · exact h5.2)
            have hm1 : m = k + 1 := by have := HXL.out; rw [← HXE.out, hml] at this; exact this
            subst hm1
            have hne : (((k + 1 : Nat) : Int) == (k : Int)) = false := by simp; omega
            rw [HXE.out] at ho
            have hmx : k + 1 ≤ 5 := by omega
            have B2 : Below w.heap.size w wr := B1.trans (hb.mono S1)
            have S2 : w.heap.size ≤ wr.heap.size := B2.size
            replace h_d := Ri.next h_d hb (Nat.le_refl _) hb.size
            clear B1 S1
            have h_x := ho.ri
            have k_x := ho.cap
            clear ho
            by_cases hcan : few cs N < 0
            · skip
              have HP1 : Hid (paidV cs (N : Int) = (0, false)) := Lib.hid (paid_no hcan)
              obtain ⟨m2, b2, HP2⟩ : ∃ m b, Hid (paidV X (N : Int) = (m, b)) := ⟨_, _, Lib.hid rfl⟩
              cases hen : endless cs with
              | true =>
                have HM1 : Hid (manyS cs = (0, 4)) := Lib.hid (end_yes HG.out hen).2
                clear hen
                cases hex : endless X with
                | true =>
                  have HM2 : Hid (manyS X = (0, 4)) := Lib.hid (end_yes HGX.out hex).2
                  clear hex
                  go_wp2_with fail
                  refine (aAmt x hx0 hx1 N HN _).mono ?_
                  rintro e w' ⟨rfl, rfl⟩
                  go_wp2_with fail
                  refine (aPaid A k c cs (N : Int) _ h_d (by omega) hc HAN 0 false HP1).mono ?_
                  rintro e w3_ ⟨rfl, hb3⟩
                  have B3 : Below w.heap.size w w3_ := B2.trans (hb3.mono S2)
                  have S3 : w.heap.size ≤ w3_.heap.size := B3.size
                  replace h_d := Ri.next h_d hb3 (Nat.le_refl _) hb3.size
                  replace h_x := Ri.next h_x hb3 (Nat.le_refl _) hb3.size
                  clear B2 S2
                  clear hb3
                  go_wp2_with fail
                  refine (aPaid A' (k + 1) c' X (N : Int) _ h_x (by omega) k_x HAX m2 b2 HP2).mono ?_
                  rintro e w4_ ⟨rfl, hb4⟩
                  have B4 : Below w.heap.size w w4_ := B3.trans (hb4.mono S3)
                  have S4 : w.heap.size ≤ w4_.heap.size := B4.size
                  replace h_d := Ri.next h_d hb4 (Nat.le_refl _) hb4.size
                  replace h_x := Ri.next h_x hb4 (Nat.le_refl _) hb4.size
                  clear B3 S3
                  clear hb4
                  go_wp2_with fail
                  refine (fWaysT A k c cs (N : Int) _ h_d (by omega) hc y1 0 HW1).mono ?_
                  rintro e w5_ ⟨rfl, hb5⟩
                  have B5 : Below w.heap.size w w5_ := B4.trans (hb5.mono S4)
                  have S5 : w.heap.size ≤ w5_.heap.size := B5.size
                  replace h_d := Ri.next h_d hb5 (Nat.le_refl _) hb5.size
                  replace h_x := Ri.next h_x hb5 (Nat.le_refl _) hb5.size
                  clear B4 S4
                  clear hb5
                  go_wp2_with fail
                  refine (fWaysT A' (k + 1) c' X (N : Int) _ h_x (by omega) k_x y2 0 HW2).mono ?_
                  rintro e w6_ ⟨rfl, hb6⟩
                  have B6 : Below w.heap.size w w6_ := B5.trans (hb6.mono S5)
                  have S6 : w.heap.size ≤ w6_.heap.size := B6.size
                  replace h_d := Ri.next h_d hb6 (Nat.le_refl _) hb6.size
                  replace h_x := Ri.next h_x hb6 (Nat.le_refl _) hb6.size
                  clear B5 S5
                  clear hb6
                  go_wp2_with fail
                  refine (fManyT A k c cs _ h_d (by omega) hc 0 4 HM1).mono ?_
                  rintro e w7_ ⟨rfl, hb7⟩
                  have B7 : Below w.heap.size w w7_ := B6.trans (hb7.mono S6)
                  have S7 : w.heap.size ≤ w7_.heap.size := B7.size
                  replace h_d := Ri.next h_d hb7 (Nat.le_refl _) hb7.size
                  replace h_x := Ri.next h_x hb7 (Nat.le_refl _) hb7.size
                  clear B6 S6
                  clear hb7
                  go_wp2_with fail
                  refine (fManyT A' (k + 1) c' X _ h_x (by omega) k_x 0 4 HM2).mono ?_
                  rintro e w8_ ⟨rfl, hb8⟩
                  have B8 : Below w.heap.size w w8_ := B7.trans (hb8.mono S7)
                  have S8 : w.heap.size ≤ w8_.heap.size := B8.size
                  replace h_d := Ri.next h_d hb8 (Nat.le_refl _) hb8.size
                  replace h_x := Ri.next h_x hb8 (Nat.le_refl _) hb8.size
                  clear B7 S7
                  clear hb8
                  go_wp2_with fail
                  refine (aWorks _).mono ?_
                  rintro e w9_ ⟨rfl, hb9⟩
                  have B9 : Below w.heap.size w w9_ := B8.trans (hb9.mono S8)
                  have S9 : w.heap.size ≤ w9_.heap.size := B9.size
                  replace h_d := Ri.next h_d hb9 (Nat.le_refl _) hb9.size
                  replace h_x := Ri.next h_x hb9 (Nat.le_refl _) hb9.size
                  clear B8 S8
                  clear hb9
                  go_wp2
                  go_ret
                  exact ⟨rfl, B9⟩
                | false =>
                  obtain ⟨q2, HM2⟩ : ∃ q, Hid (manyS X = (q, 0)) := ⟨_, Lib.hid (many_ok HGX.out hex)⟩
                  clear hex
                  go_wp2_with fail
                  refine (aAmt x hx0 hx1 N HN _).mono ?_
                  rintro e w' ⟨rfl, rfl⟩
                  go_wp2_with fail
                  refine (aPaid A k c cs (N : Int) _ h_d (by omega) hc HAN 0 false HP1).mono ?_
                  rintro e w3_ ⟨rfl, hb3⟩
                  have B3 : Below w.heap.size w w3_ := B2.trans (hb3.mono S2)
                  have S3 : w.heap.size ≤ w3_.heap.size := B3.size
                  replace h_d := Ri.next h_d hb3 (Nat.le_refl _) hb3.size
                  replace h_x := Ri.next h_x hb3 (Nat.le_refl _) hb3.size
                  clear B2 S2
                  clear hb3
                  go_wp2_with fail
                  refine (aPaid A' (k + 1) c' X (N : Int) _ h_x (by omega) k_x HAX m2 b2 HP2).mono ?_
                  rintro e w4_ ⟨rfl, hb4⟩
                  have B4 : Below w.heap.size w w4_ := B3.trans (hb4.mono S3)
                  have S4 : w.heap.size ≤ w4_.heap.size := B4.size
                  replace h_d := Ri.next h_d hb4 (Nat.le_refl _) hb4.size
                  replace h_x := Ri.next h_x hb4 (Nat.le_refl _) hb4.size
                  clear B3 S3
                  clear hb4
                  go_wp2_with fail
                  refine (fWaysT A k c cs (N : Int) _ h_d (by omega) hc y1 0 HW1).mono ?_
                  rintro e w5_ ⟨rfl, hb5⟩
                  have B5 : Below w.heap.size w w5_ := B4.trans (hb5.mono S4)
                  have S5 : w.heap.size ≤ w5_.heap.size := B5.size
                  replace h_d := Ri.next h_d hb5 (Nat.le_refl _) hb5.size
                  replace h_x := Ri.next h_x hb5 (Nat.le_refl _) hb5.size
                  clear B4 S4
                  clear hb5
                  go_wp2_with fail
                  refine (fWaysT A' (k + 1) c' X (N : Int) _ h_x (by omega) k_x y2 0 HW2).mono ?_
                  rintro e w6_ ⟨rfl, hb6⟩
                  have B6 : Below w.heap.size w w6_ := B5.trans (hb6.mono S5)
                  have S6 : w.heap.size ≤ w6_.heap.size := B6.size
                  replace h_d := Ri.next h_d hb6 (Nat.le_refl _) hb6.size
                  replace h_x := Ri.next h_x hb6 (Nat.le_refl _) hb6.size
                  clear B5 S5
                  clear hb6
                  go_wp2_with fail
                  refine (fManyT A k c cs _ h_d (by omega) hc 0 4 HM1).mono ?_
                  rintro e w7_ ⟨rfl, hb7⟩
                  have B7 : Below w.heap.size w w7_ := B6.trans (hb7.mono S6)
                  have S7 : w.heap.size ≤ w7_.heap.size := B7.size
                  replace h_d := Ri.next h_d hb7 (Nat.le_refl _) hb7.size
                  replace h_x := Ri.next h_x hb7 (Nat.le_refl _) hb7.size
                  clear B6 S6
                  clear hb7
                  go_wp2_with fail
                  refine (fManyT A' (k + 1) c' X _ h_x (by omega) k_x q2 0 HM2).mono ?_
                  rintro e w8_ ⟨rfl, hb8⟩
                  have B8 : Below w.heap.size w w8_ := B7.trans (hb8.mono S7)
                  have S8 : w.heap.size ≤ w8_.heap.size := B8.size
                  replace h_d := Ri.next h_d hb8 (Nat.le_refl _) hb8.size
                  replace h_x := Ri.next h_x hb8 (Nat.le_refl _) hb8.size
                  clear B7 S7
                  clear hb8
                  go_wp2_with fail
                  refine (aWorks _).mono ?_
                  rintro e w9_ ⟨rfl, hb9⟩
                  have B9 : Below w.heap.size w w9_ := B8.trans (hb9.mono S8)
                  have S9 : w.heap.size ≤ w9_.heap.size := B9.size
                  replace h_d := Ri.next h_d hb9 (Nat.le_refl _) hb9.size
                  replace h_x := Ri.next h_x hb9 (Nat.le_refl _) hb9.size
                  clear B8 S8
                  clear hb9
                  go_wp2
                  go_ret
                  exact ⟨rfl, B9⟩
              | false =>
                have hex := (HMORE.out.2.2 hen).1
                obtain ⟨q1, HQ1⟩ : ∃ q, Hid (divSum (nth cs 0) (restsL cs) = q) := ⟨_, Lib.hid rfl⟩
                obtain ⟨q2, HQ2⟩ : ∃ q, Hid (divSum (nth X 0) (restsL X) = q) := ⟨_, Lib.hid rfl⟩
                have hq12 : q2 ≤ q1 := by rw [← HQ1.out, ← HQ2.out]; exact (HMORE.out.2.2 hen).2
                have HM1 : Hid (manyS cs = (q1, 0)) := Lib.hid (by rw [← HQ1.out]; exact many_ok HG.out hen)
                have HM2 : Hid (manyS X = (q2, 0)) := Lib.hid (by rw [← HQ2.out]; exact many_ok HGX.out hex)
                clear hen hex
                go_wp2_with fail
                refine (aAmt x hx0 hx1 N HN _).mono ?_
                rintro e w' ⟨rfl, rfl⟩
                go_wp2_with fail
                refine (aPaid A k c cs (N : Int) _ h_d (by omega) hc HAN 0 false HP1).mono ?_
                rintro e w3_ ⟨rfl, hb3⟩
                have B3 : Below w.heap.size w w3_ := B2.trans (hb3.mono S2)
                have S3 : w.heap.size ≤ w3_.heap.size := B3.size
                replace h_d := Ri.next h_d hb3 (Nat.le_refl _) hb3.size
                replace h_x := Ri.next h_x hb3 (Nat.le_refl _) hb3.size
                clear B2 S2
                clear hb3
                go_wp2_with fail
                refine (aPaid A' (k + 1) c' X (N : Int) _ h_x (by omega) k_x HAX m2 b2 HP2).mono ?_
                rintro e w4_ ⟨rfl, hb4⟩
                have B4 : Below w.heap.size w w4_ := B3.trans (hb4.mono S3)
                have S4 : w.heap.size ≤ w4_.heap.size := B4.size
                replace h_d := Ri.next h_d hb4 (Nat.le_refl _) hb4.size
                replace h_x := Ri.next h_x hb4 (Nat.le_refl _) hb4.size
                clear B3 S3
                clear hb4
                go_wp2_with fail
                refine (fWaysT A k c cs (N : Int) _ h_d (by omega) hc y1 0 HW1).mono ?_
                rintro e w5_ ⟨rfl, hb5⟩
                have B5 : Below w.heap.size w w5_ := B4.trans (hb5.mono S4)
                have S5 : w.heap.size ≤ w5_.heap.size := B5.size
                replace h_d := Ri.next h_d hb5 (Nat.le_refl _) hb5.size
                replace h_x := Ri.next h_x hb5 (Nat.le_refl _) hb5.size
                clear B4 S4
                clear hb5
                go_wp2_with fail
                refine (fWaysT A' (k + 1) c' X (N : Int) _ h_x (by omega) k_x y2 0 HW2).mono ?_
                rintro e w6_ ⟨rfl, hb6⟩
                have B6 : Below w.heap.size w w6_ := B5.trans (hb6.mono S5)
                have S6 : w.heap.size ≤ w6_.heap.size := B6.size
                replace h_d := Ri.next h_d hb6 (Nat.le_refl _) hb6.size
                replace h_x := Ri.next h_x hb6 (Nat.le_refl _) hb6.size
                clear B5 S5
                clear hb6
                go_wp2_with fail
                refine (fManyT A k c cs _ h_d (by omega) hc q1 0 HM1).mono ?_
                rintro e w7_ ⟨rfl, hb7⟩
                have B7 : Below w.heap.size w w7_ := B6.trans (hb7.mono S6)
                have S7 : w.heap.size ≤ w7_.heap.size := B7.size
                replace h_d := Ri.next h_d hb7 (Nat.le_refl _) hb7.size
                replace h_x := Ri.next h_x hb7 (Nat.le_refl _) hb7.size
                clear B6 S6
                clear hb7
                go_wp2_with fail
                refine (fManyT A' (k + 1) c' X _ h_x (by omega) k_x q2 0 HM2).mono ?_
                rintro e w8_ ⟨rfl, hb8⟩
                have B8 : Below w.heap.size w w8_ := B7.trans (hb8.mono S7)
                have S8 : w.heap.size ≤ w8_.heap.size := B8.size
                replace h_d := Ri.next h_d hb8 (Nat.le_refl _) hb8.size
                replace h_x := Ri.next h_x hb8 (Nat.le_refl _) hb8.size
                clear B7 S7
                clear hb8
                go_wp2_with fail
                refine (aWorks _).mono ?_
                rintro e w9_ ⟨rfl, hb9⟩
                have B9 : Below w.heap.size w w9_ := B8.trans (hb9.mono S8)
                have S9 : w.heap.size ≤ w9_.heap.size := B9.size
                replace h_d := Ri.next h_d hb9 (Nat.le_refl _) hb9.size
                replace h_x := Ri.next h_x hb9 (Nat.le_refl _) hb9.size
                clear B8 S8
                clear hb9
                go_wp2
                go_ret
                exact ⟨rfl, B9⟩
            · skip
              have HC2 := Lib.hid (HMORE.out.1 (by omega))
              obtain ⟨m1, HF1⟩ : ∃ m, Hid (few cs N = m) := ⟨_, Lib.hid rfl⟩
              obtain ⟨m2, HF2⟩ : ∃ m, Hid (few X N = m) := ⟨_, Lib.hid rfl⟩
              have hm12 : m2 ≤ m1 := by rw [← HF1.out, ← HF2.out]; exact HC2.out.2
              have HP1 : Hid (paidV cs (N : Int) = (m1, true)) := Lib.hid (by rw [← HF1.out]; exact paid_yes (by omega))
              have HP2 : Hid (paidV X (N : Int) = (m2, true)) := Lib.hid (by rw [← HF2.out]; exact paid_yes HC2.out.1)
              cases hen : endless cs with
              | true =>
                have HM1 : Hid (manyS cs = (0, 4)) := Lib.hid (end_yes HG.out hen).2
                clear hen
                cases hex : endless X with
                | true =>
                  have HM2 : Hid (manyS X = (0, 4)) := Lib.hid (end_yes HGX.out hex).2
                  clear hex
                  go_wp2_with fail
                  refine (aAmt x hx0 hx1 N HN _).mono ?_
                  rintro e w' ⟨rfl, rfl⟩
                  go_wp2_with fail
                  refine (aPaid A k c cs (N : Int) _ h_d (by omega) hc HAN m1 true HP1).mono ?_
                  rintro e w3_ ⟨rfl, hb3⟩
                  have B3 : Below w.heap.size w w3_ := B2.trans (hb3.mono S2)
                  have S3 : w.heap.size ≤ w3_.heap.size := B3.size
                  replace h_d := Ri.next h_d hb3 (Nat.le_refl _) hb3.size
                  replace h_x := Ri.next h_x hb3 (Nat.le_refl _) hb3.size
                  clear B2 S2
                  clear hb3
                  go_wp2_with fail
                  refine (aPaid A' (k + 1) c' X (N : Int) _ h_x (by omega) k_x HAX m2 true HP2).mono ?_
                  rintro e w4_ ⟨rfl, hb4⟩
                  have B4 : Below w.heap.size w w4_ := B3.trans (hb4.mono S3)
                  have S4 : w.heap.size ≤ w4_.heap.size := B4.size
                  replace h_d := Ri.next h_d hb4 (Nat.le_refl _) hb4.size
                  replace h_x := Ri.next h_x hb4 (Nat.le_refl _) hb4.size
                  clear B3 S3
                  clear hb4
                  go_wp2_with fail
                  refine (fWaysT A k c cs (N : Int) _ h_d (by omega) hc y1 0 HW1).mono ?_
                  rintro e w5_ ⟨rfl, hb5⟩
                  have B5 : Below w.heap.size w w5_ := B4.trans (hb5.mono S4)
                  have S5 : w.heap.size ≤ w5_.heap.size := B5.size
                  replace h_d := Ri.next h_d hb5 (Nat.le_refl _) hb5.size
                  replace h_x := Ri.next h_x hb5 (Nat.le_refl _) hb5.size
                  clear B4 S4
                  clear hb5
                  go_wp2_with fail
                  refine (fWaysT A' (k + 1) c' X (N : Int) _ h_x (by omega) k_x y2 0 HW2).mono ?_
                  rintro e w6_ ⟨rfl, hb6⟩
                  have B6 : Below w.heap.size w w6_ := B5.trans (hb6.mono S5)
                  have S6 : w.heap.size ≤ w6_.heap.size := B6.size
                  replace h_d := Ri.next h_d hb6 (Nat.le_refl _) hb6.size
                  replace h_x := Ri.next h_x hb6 (Nat.le_refl _) hb6.size
                  clear B5 S5
                  clear hb6
                  go_wp2_with fail
                  refine (fManyT A k c cs _ h_d (by omega) hc 0 4 HM1).mono ?_
                  rintro e w7_ ⟨rfl, hb7⟩
                  have B7 : Below w.heap.size w w7_ := B6.trans (hb7.mono S6)
                  have S7 : w.heap.size ≤ w7_.heap.size := B7.size
                  replace h_d := Ri.next h_d hb7 (Nat.le_refl _) hb7.size
                  replace h_x := Ri.next h_x hb7 (Nat.le_refl _) hb7.size
                  clear B6 S6
                  clear hb7
                  go_wp2_with fail
                  refine (fManyT A' (k + 1) c' X _ h_x (by omega) k_x 0 4 HM2).mono ?_
                  rintro e w8_ ⟨rfl, hb8⟩
                  have B8 : Below w.heap.size w w8_ := B7.trans (hb8.mono S7)
                  have S8 : w.heap.size ≤ w8_.heap.size := B8.size
                  replace h_d := Ri.next h_d hb8 (Nat.le_refl _) hb8.size
                  replace h_x := Ri.next h_x hb8 (Nat.le_refl _) hb8.size
                  clear B7 S7
                  clear hb8
                  go_wp2_with fail
                  refine (aWorks _).mono ?_
                  rintro e w9_ ⟨rfl, hb9⟩
                  have B9 : Below w.heap.size w w9_ := B8.trans (hb9.mono S8)
                  have S9 : w.heap.size ≤ w9_.heap.size := B9.size
                  replace h_d := Ri.next h_d hb9 (Nat.le_refl _) hb9.size
                  replace h_x := Ri.next h_x hb9 (Nat.le_refl _) hb9.size
                  clear B8 S8
                  clear hb9
                  go_wp2
                  go_ret
                  exact ⟨rfl, B9⟩
                | false =>
                  obtain ⟨q2, HM2⟩ : ∃ q, Hid (manyS X = (q, 0)) := ⟨_, Lib.hid (many_ok HGX.out hex)⟩
                  clear hex
                  go_wp2_with fail
                  refine (aAmt x hx0 hx1 N HN _).mono ?_
                  rintro e w' ⟨rfl, rfl⟩
                  go_wp2_with fail
                  refine (aPaid A k c cs (N : Int) _ h_d (by omega) hc HAN m1 true HP1).mono ?_
                  rintro e w3_ ⟨rfl, hb3⟩
                  have B3 : Below w.heap.size w w3_ := B2.trans (hb3.mono S2)
                  have S3 : w.heap.size ≤ w3_.heap.size := B3.size
                  replace h_d := Ri.next h_d hb3 (Nat.le_refl _) hb3.size
                  replace h_x := Ri.next h_x hb3 (Nat.le_refl _) hb3.size
                  clear B2 S2
                  clear hb3
                  go_wp2_with fail
                  refine (aPaid A' (k + 1) c' X (N : Int) _ h_x (by omega) k_x HAX m2 true HP2).mono ?_
                  rintro e w4_ ⟨rfl, hb4⟩
                  have B4 : Below w.heap.size w w4_ := B3.trans (hb4.mono S3)
                  have S4 : w.heap.size ≤ w4_.heap.size := B4.size
                  replace h_d := Ri.next h_d hb4 (Nat.le_refl _) hb4.size
                  replace h_x := Ri.next h_x hb4 (Nat.le_refl _) hb4.size
                  clear B3 S3
                  clear hb4
                  go_wp2_with fail
                  refine (fWaysT A k c cs (N : Int) _ h_d (by omega) hc y1 0 HW1).mono ?_
                  rintro e w5_ ⟨rfl, hb5⟩
                  have B5 : Below w.heap.size w w5_ := B4.trans (hb5.mono S4)
                  have S5 : w.heap.size ≤ w5_.heap.size := B5.size
                  replace h_d := Ri.next h_d hb5 (Nat.le_refl _) hb5.size
                  replace h_x := Ri.next h_x hb5 (Nat.le_refl _) hb5.size
                  clear B4 S4
                  clear hb5
                  go_wp2_with fail
                  refine (fWaysT A' (k + 1) c' X (N : Int) _ h_x (by omega) k_x y2 0 HW2).mono ?_
                  rintro e w6_ ⟨rfl, hb6⟩
                  have B6 : Below w.heap.size w w6_ := B5.trans (hb6.mono S5)
                  have S6 : w.heap.size ≤ w6_.heap.size := B6.size
                  replace h_d := Ri.next h_d hb6 (Nat.le_refl _) hb6.size
                  replace h_x := Ri.next h_x hb6 (Nat.le_refl _) hb6.size
                  clear B5 S5
                  clear hb6
                  go_wp2_with fail
                  refine (fManyT A k c cs _ h_d (by omega) hc 0 4 HM1).mono ?_
                  rintro e w7_ ⟨rfl, hb7⟩
                  have B7 : Below w.heap.size w w7_ := B6.trans (hb7.mono S6)
                  have S7 : w.heap.size ≤ w7_.heap.size := B7.size
                  replace h_d := Ri.next h_d hb7 (Nat.le_refl _) hb7.size
                  replace h_x := Ri.next h_x hb7 (Nat.le_refl _) hb7.size
                  clear B6 S6
                  clear hb7
                  go_wp2_with fail
                  refine (fManyT A' (k + 1) c' X _ h_x (by omega) k_x q2 0 HM2).mono ?_
                  rintro e w8_ ⟨rfl, hb8⟩
                  have B8 : Below w.heap.size w w8_ := B7.trans (hb8.mono S7)
                  have S8 : w.heap.size ≤ w8_.heap.size := B8.size
                  replace h_d := Ri.next h_d hb8 (Nat.le_refl _) hb8.size
                  replace h_x := Ri.next h_x hb8 (Nat.le_refl _) hb8.size
                  clear B7 S7
                  clear hb8
                  go_wp2_with fail
                  refine (aWorks _).mono ?_
                  rintro e w9_ ⟨rfl, hb9⟩
                  have B9 : Below w.heap.size w w9_ := B8.trans (hb9.mono S8)
                  have S9 : w.heap.size ≤ w9_.heap.size := B9.size
                  replace h_d := Ri.next h_d hb9 (Nat.le_refl _) hb9.size
                  replace h_x := Ri.next h_x hb9 (Nat.le_refl _) hb9.size
                  clear B8 S8
                  clear hb9
                  go_wp2
                  go_ret
                  exact ⟨rfl, B9⟩
              | false =>
                have hex := (HMORE.out.2.2 hen).1
                obtain ⟨q1, HQ1⟩ : ∃ q, Hid (divSum (nth cs 0) (restsL cs) = q) := ⟨_, Lib.hid rfl⟩
                obtain ⟨q2, HQ2⟩ : ∃ q, Hid (divSum (nth X 0) (restsL X) = q) := ⟨_, Lib.hid rfl⟩
                have hq12 : q2 ≤ q1 := by rw [← HQ1.out, ← HQ2.out]; exact (HMORE.out.2.2 hen).2
                have HM1 : Hid (manyS cs = (q1, 0)) := Lib.hid (by rw [← HQ1.out]; exact many_ok HG.out hen)
                have HM2 : Hid (manyS X = (q2, 0)) := Lib.hid (by rw [← HQ2.out]; exact many_ok HGX.out hex)
                clear hen hex
                go_wp2_with fail
                refine (aAmt x hx0 hx1 N HN _).mono ?_
                rintro e w' ⟨rfl, rfl⟩
                go_wp2_with fail
                refine (aPaid A k c cs (N : Int) _ h_d (by omega) hc HAN m1 true HP1).mono ?_
                rintro e w3_ ⟨rfl, hb3⟩
                have B3 : Below w.heap.size w w3_ := B2.trans (hb3.mono S2)
                have S3 : w.heap.size ≤ w3_.heap.size := B3.size
                replace h_d := Ri.next h_d hb3 (Nat.le_refl _) hb3.size
                replace h_x := Ri.next h_x hb3 (Nat.le_refl _) hb3.size
                clear B2 S2
                clear hb3
                go_wp2_with fail
                refine (aPaid A' (k + 1) c' X (N : Int) _ h_x (by omega) k_x HAX m2 true HP2).mono ?_
                rintro e w4_ ⟨rfl, hb4⟩
                have B4 : Below w.heap.size w w4_ := B3.trans (hb4.mono S3)
                have S4 : w.heap.size ≤ w4_.heap.size := B4.size
                replace h_d := Ri.next h_d hb4 (Nat.le_refl _) hb4.size
                replace h_x := Ri.next h_x hb4 (Nat.le_refl _) hb4.size
                clear B3 S3
                clear hb4
                go_wp2_with fail
                refine (fWaysT A k c cs (N : Int) _ h_d (by omega) hc y1 0 HW1).mono ?_
                rintro e w5_ ⟨rfl, hb5⟩
                have B5 : Below w.heap.size w w5_ := B4.trans (hb5.mono S4)
                have S5 : w.heap.size ≤ w5_.heap.size := B5.size
                replace h_d := Ri.next h_d hb5 (Nat.le_refl _) hb5.size
                replace h_x := Ri.next h_x hb5 (Nat.le_refl _) hb5.size
                clear B4 S4
                clear hb5
                go_wp2_with fail
                refine (fWaysT A' (k + 1) c' X (N : Int) _ h_x (by omega) k_x y2 0 HW2).mono ?_
                rintro e w6_ ⟨rfl, hb6⟩
                have B6 : Below w.heap.size w w6_ := B5.trans (hb6.mono S5)
                have S6 : w.heap.size ≤ w6_.heap.size := B6.size
                replace h_d := Ri.next h_d hb6 (Nat.le_refl _) hb6.size
                replace h_x := Ri.next h_x hb6 (Nat.le_refl _) hb6.size
                clear B5 S5
                clear hb6
                go_wp2_with fail
                refine (fManyT A k c cs _ h_d (by omega) hc q1 0 HM1).mono ?_
                rintro e w7_ ⟨rfl, hb7⟩
                have B7 : Below w.heap.size w w7_ := B6.trans (hb7.mono S6)
                have S7 : w.heap.size ≤ w7_.heap.size := B7.size
                replace h_d := Ri.next h_d hb7 (Nat.le_refl _) hb7.size
                replace h_x := Ri.next h_x hb7 (Nat.le_refl _) hb7.size
                clear B6 S6
                clear hb7
                go_wp2_with fail
                refine (fManyT A' (k + 1) c' X _ h_x (by omega) k_x q2 0 HM2).mono ?_
                rintro e w8_ ⟨rfl, hb8⟩
                have B8 : Below w.heap.size w w8_ := B7.trans (hb8.mono S7)
                have S8 : w.heap.size ≤ w8_.heap.size := B8.size
                replace h_d := Ri.next h_d hb8 (Nat.le_refl _) hb8.size
                replace h_x := Ri.next h_x hb8 (Nat.le_refl _) hb8.size
                clear B7 S7
                clear hb8
                go_wp2_with fail
                refine (aWorks _).mono ?_
                rintro e w9_ ⟨rfl, hb9⟩
                have B9 : Below w.heap.size w w9_ := B8.trans (hb9.mono S8)
                have S9 : w.heap.size ≤ w9_.heap.size := B9.size
                replace h_d := Ri.next h_d hb9 (Nat.le_refl _) hb9.size
                replace h_x := Ri.next h_x hb9 (Nat.le_refl _) hb9.size
                clear B8 S8
                clear hb9
                go_wp2
                go_ret
                exact ⟨rfl, B9⟩
    · obtain rfl : n = 5 := by omega
      go_enter Try.func15, Try.ntmps15
      go_wp2_with fail
      refine (aFin A 5 c _ cs _ h_d _ HF).mono ?_
      rintro e w1_ ⟨rfl, d1, hd1⟩
      have hb1 : Below w.heap.size w w1_ := hd1 ▸ below_drewN (Below.refl _ _) _
      clear hd1
      have B1 : Below w.heap.size w w1_ := (Below.refl _ _).trans (hb1.mono (Nat.le_refl _))
      have S1 : w.heap.size ≤ w1_.heap.size := B1.size
      replace h_d := Ri.next h_d hb1 (Nat.le_refl _) hb1.size
      clear hb1
      go_wp2_with fail
      refine (aWorks _).mono ?_
      rintro e w2_ ⟨rfl, hb2⟩
      have B2 : Below w.heap.size w w2_ := B1.trans (hb2.mono S1)
      have S2 : w.heap.size ≤ w2_.heap.size := B2.size
      replace h_d := Ri.next h_d hb2 (Nat.le_refl _) hb2.size
      clear B1 S1
      clear hb2
      go_wp2
      go_ret
      exact ⟨rfl, B2⟩
  · have HF : Hid (decide (checkCoins cs = 0) = false) := Lib.hid (decide_eq_false hf)
    go_enter Try.func15, Try.ntmps15
    go_wp2_with fail
    refine (aFin A n c _ cs _ hx _ HF).mono ?_
    rintro e w1 ⟨rfl, d, rfl⟩
    go_wp2_with fail
    refine (aWorks _).mono ?_
    rintro e w2 ⟨rfl, hb⟩
    go_wp2
    go_ret
    exact ⟨rfl, below_d hb⟩

set_option maxRecDepth 100000 in
theorem FloatMore_lifted (os : Os) (started : os.Started) (H : Type) (enc : TypeId × Value → H) :
    ReturnsInHanded {} Try.checked os 15 .any (Rows.floatMoreSpec.pre6 enc Try.prog Try.f15 Rows.floatMoreRow.domain false) (Rows.floatMoreSpec.post enc Try.prog Try.f15 false true false false) := by
  refine returnsInHanded_of_change (C := Try.checked) row_own started (by kernel_rfl) Try.func15
    (ChangeSpec.witness6 (enc := enc) (C := Try.checked) false ⟨#[], #[.slice none 0 0, .int .u8 0, .int .u16 0], []⟩ 8 (by kernel_rfl) (by kernel_rfl) (by kernel_rfl) (by kernel_rfl)) ?_
  intro W base args ds gs before hval0 hW _ _
  have hval : ∀ (j : Nat) t v, Try.f15.params[j]? = some t → args[j]? = some v → Value.okWide Try.prog W .any base t v := hval0
  have hW' := hW
  obtain ⟨p, q, hA0, hV, rfl, _, _⟩ := hW
  have hA : DataW.TrodAll enc Try.prog W 0 (fun _ => true) true Try.f15.params.toList args.toList ds p := hA0
  rw [Try.params15] at hA hval
  obtain ⟨v0, v1, v2, d0, d1, d2, p0, p1, p2, rfl, rfl, rfl, h0, h1, h2⟩ := trodAll_three hA
  obtain ⟨rfl, rfl⟩ := trodVars_none hV
  clear hA0 hval0
  simp only [List.append_nil] at hW'
  have hlt : ∀ x ∈ (p0 ++ p1 ++ p2), x.block < W.heap.size := fun x hx => by simpa using hW'.lt x hx
  have a0 := fun W' (hb : Below W.heap.size W W') => row_stays (t := 22) (by kernel_rfl) (of_decide_eq_true (by kernel_rfl)) h0 (fun x hx => hlt x (by simp [hx])) hb
  have a1 := fun W' (hb : Below W.heap.size W W') => row_stays (t := 5) (by kernel_rfl) (of_decide_eq_true (by kernel_rfl)) h1 (fun x hx => hlt x (by simp [hx])) hb
  have a2 := fun W' (hb : Below W.heap.size W W') => row_stays (t := 44) (by kernel_rfl) (of_decide_eq_true (by kernel_rfl)) h2 (fun x hx => hlt x (by simp [hx])) hb
  obtain ⟨A0, n0, c0, xs0, rfl, hc0, hm0, hx0, hw0⟩ := row_ints (t := 22) (e := 2) (k := .i64) (by kernel_rfl) (by kernel_rfl) (by kernel_rfl) (hval 0 22 v0 rfl rfl) h0 (fun x hx => hlt x (by simp [hx]))
  obtain ⟨x1, rfl, _, _, wx1⟩ := open_int (P := Try.prog) (k := .u8) (t := 5) (by kernel_rfl) (hval 1 5 v1 rfl rfl) h1
  obtain ⟨x2, rfl, _, _, wx2⟩ := open_int (P := Try.prog) (k := .u16) (t := 44) (by kernel_rfl) (hval 2 44 v2 rfl rfl) h2
  refine (wMore A0 n0 c0 xs0 x1 x2 (u8_lo wx1) (u8_hi wx1) (u16_lo wx2) (u16_hi wx2) W hx0 hc0).mono fun e W' ⟨he, hb⟩ => ?_
  subst he
  exact ⟨_, rfl, _, _, _, [], (p0 ++ p1 ++ p2), [], hW', trodAll_mk1 (shut_bool Try.underlying4 true), (by simp only [List.append_assoc]; exact trodAll_mk3 (a0 _ hb) (a1 _ hb) (a2 _ hb)), rfl, hb.frame _, fun h => by cases h⟩
theorem FloatMore_holds : Rows.FloatMoreSaid :=
  OpenClaim.holds_of_wide 15 Try.f15 rfl rfl rfl rfl rfl rfl rfl ⟨rfl, rfl, rfl, rfl, rfl⟩ rfl rfl rfl rfl rfl (by kernel_rfl) Try.func15 (by kernel_rfl)
    (of_decide_eq_true (by kernel_rfl)) (by unfold Func.isWrapper; first | (rw [if_pos (by decide +kernel)]; kernel_rfl) | (rw [if_neg (by decide +kernel)]; exact ⟨rfl, rfl⟩))
    (fun os started H enc _ => FloatMore_lifted os started H enc)
#print axioms FloatMore_holds
end Go.Proofs.Ytloibnmhgocboaa
