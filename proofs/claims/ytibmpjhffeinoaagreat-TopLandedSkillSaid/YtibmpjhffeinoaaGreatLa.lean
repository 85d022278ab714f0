/-
  wheel: a machine in memory; pennyfallref01.CheckMachine.
-/
import Derived.Test.YtibmpjhffeinoaaGreatKi0
namespace Go.Proofs.YtibmpjhffeinoaaGreat
open Go.RowKit Go.Shelf

/-- What 'check' asks. -/
def PreM (S : Int) (Ls : List (List Int)) (ys : List Int) : Prop := (1 ≤ Ls.length ∧ Ls.length ≤ 4) ∧ (∀ L ∈ Ls, L.length = Ls.length) ∧ ys.length = Ls.length ∧ (1 ≤ S ∧ S ≤ 20) ∧ (∀ L ∈ Ls, ∀ x ∈ L, 0 ≤ x ∧ x ≤ S) ∧ ∀ y ∈ ys, 0 ≤ y ∧ y ≤ 1000
/-- A valid machine. -/
def ValM (S : Int) (Ls : List (List Int)) (ys : List Int) : Prop := PreM S Ls ys ∧ ∀ L ∈ Ls, L.sum = S
theorem sum_take {xs : List Int} {k : Nat} {x : Int} (h : xs[k]? = some x) : (xs.take (k + 1)).sum = (xs.take k).sum + x := by
  rw [List.take_add_one, h]
  simp
theorem sum_b : ∀ {xs : List Int}, (∀ x ∈ xs, 0 ≤ x ∧ x ≤ 20) → 0 ≤ xs.sum ∧ xs.sum ≤ 20 * xs.length
  | [], _ => by simp
  | x :: xs, h => by
    have h1 := h x (by simp)
    have h2 := sum_b (xs := xs) fun y hy => h y (by simp [hy])
    simp only [List.sum_cons, List.length_cons]
    omega
set_option maxRecDepth 100000 in
set_option maxHeartbeats 800000 in
theorem rSum (A : Option Addr) (n c : Nat) (xs : List Int) (w : World) (hx : Ri w w.heap.size A n xs) (hn : n ≤ 4) (hb : ∀ x ∈ xs, 0 ≤ x ∧ x ≤ 20) :
    Calls Tryz.prog 51 #[.slice A n c] w fun e w' => e = .returned (.int .i64 xs.sum) ∧ w' = w := by
  have HL := Lib.hid hx.len
  have HB := Lib.hid hb
  clear hb
  go_enter Tryz.func51, Tryz.ntmps51
  go_wp2
  go_loopw [3, 4] (fun s i wr => ∃ (k : Nat) (z : Int), k ≤ n ∧ i = .int .i64 (k : Int) ∧ s = .int .i64 z ∧ Hid (z = (xs.take k).sum) ∧ wr = w) (fun _ i _ => n - (intOf i).toNat)
  case atStart => exact ⟨0, 0, Nat.zero_le _, rfl, rfl, Lib.hid (by simp), rfl⟩
  case round =>
    obtain ⟨k, z, hk, rfl, rfl, HZ, rfl⟩ := hrel
    by_cases hlt : k < n
    · obtain ⟨ad, x, rfl, _, hc, hxk, _⟩ := hx.at_ hlt
      have hx0 := HB.out x (List.mem_of_getElem? hxk.out)
      have hz0 := sum_b (xs := xs.take k) fun y hy => HB.out y (List.mem_of_mem_take hy)
      rw [List.length_take, ← HZ.out] at hz0
      have hz1 : 0 ≤ z ∧ z ≤ 80 := by omega
      clear hz0
      have HZ2 : Hid (z + x = (xs.take (k + 1)).sum) := Lib.hid (by rw [sum_take hxk.out, HZ.out])
      go_wp2
      go_roundw
      case rel => exact ⟨k + 1, z + x, by omega, by go_num, by go_num, HZ2, trivial⟩
      case measure => simp [intOf]; omega
    · obtain rfl : n = k := by omega
      have HZ2 : Hid (z = xs.sum) := Lib.hid (by rw [HZ.out, List.take_of_length_le (by rw [HL.out]; omega)])
      go_wp2
      go_ret
      exact ⟨ret_i HZ2.out, rfl⟩
set_option maxRecDepth 100000 in
set_option maxHeartbeats 3200000 in
theorem rcheck (A A' : Option Addr) (n c m c' : Nat) (S : Int) (Ls : List (List Int)) (ys : List Int) (w : World) (hmv : Mv w w.heap.size A n Ls) (hri : Ri w w.heap.size A' m ys) :
    Calls Tryz.prog 50 #[.agg #[.int .i64 S, .slice A n c, .slice A' m c']] w fun e w' => ∃ r : Int, e = .returned (.int .i64 r) ∧ (r = 0 ↔ PreM S Ls ys) ∧ Below w.heap.size w w' := by
  have HLn := Lib.hid hmv.1
  have HYn := Lib.hid hri.len
  have hb1 := (Below.refl w.heap.size w).alloc (Nat.le_refl _) (.cells #[.int .i64 S, .slice A n c, .slice A' m c'] 25)
  have hbk := Bk.new w 25 #[.int .i64 S, .slice A n c, .slice A' m c']
  have hmv1 := hmv.below hb1
  have hri1 := hri.below hb1
  generalize hW : w.alloc (.cells #[.int .i64 S, .slice A n c, .slice A' m c'] 25) = W at *
  have c0 : W.cell? ⟨w.heap.size, 0, none⟩ = some (.int .i64 S) := hbk.cell 0
  have c1 : W.cell? ⟨w.heap.size, 1, none⟩ = some (.slice A n c) := hbk.cell 1
  have c2 : W.cell? ⟨w.heap.size, 2, none⟩ = some (.slice A' m c') := hbk.cell 2
  clear hbk hmv hri
  go_enter Tryz.func50, Tryz.ntmps50
  by_cases hn : 1 ≤ n ∧ n ≤ 4
  · go_wp2
    go_loopw [4] (fun i wr => ∃ k : Nat, k ≤ n ∧ i = .int .i64 (k : Int) ∧ Hid (∀ j L, j < k → Ls[j]? = some L → L.length = n) ∧ wr = W) (fun i _ => n - (intOf i).toNat)
    case atStart => exact ⟨0, Nat.zero_le _, rfl, Lib.hid fun j L h => absurd h (Nat.not_lt_zero j), rfl⟩
    case round =>
      obtain ⟨k, hk, rfl, HK, hWr⟩ := hrel
      obtain rfl : W = wr := hWr.symm
      by_cases hlt : k < n
      · have hL : Ls[k]? = some (Ls[k]'(by rw [HLn.out]; exact hlt)) := List.getElem?_eq_getElem (by rw [HLn.out]; exact hlt)
        obtain ⟨ad, A1, c1', rfl, _, h2, _, _⟩ := hmv1.2 k _ hL
        have HL := Lib.hid hL
        generalize Ls[k]'(by rw [HLn.out]; exact hlt) = L at *
        clear hL
        obtain ⟨q, hq⟩ : ∃ q, Hid (L.length = q) := ⟨_, Lib.hid rfl⟩
        rw [hq.out] at h2
        by_cases hqn : q = n
        · subst hqn
          have HK2 : Hid (∀ j L, j < k + 1 → Ls[j]? = some L → L.length = q) := Lib.hid fun j L' hj hL' => by
            by_cases e : j = k
            · subst e
              rw [HL.out] at hL'
              cases hL'
              exact hq.out
            · exact HK.out j L' (by omega) hL'
          go_wp2
          go_roundw
          case rel => exact ⟨k + 1, by omega, by go_num, HK2, trivial⟩
          case measure => simp [intOf]; omega
        · have hne : ¬ (q : Int) = (n : Int) := by omega
          have HN : Hid (¬ PreM S Ls ys) := Lib.hid fun h => hqn (by
            have := h.2.1 L (List.mem_of_getElem? HL.out)
            rw [hq.out, HLn.out] at this
            exact this)
          go_wp2
          go_ret
          exact ⟨15, rfl, ⟨fun h => absurd h (by decide), fun h => absurd h HN.out⟩, hb1⟩
      · obtain rfl : n = k := by omega
        have HR : Hid (∀ L ∈ Ls, L.length = Ls.length) := Lib.hid fun L hL => by
          obtain ⟨j, hj⟩ := List.mem_iff_getElem?.1 hL
          rw [HLn.out]
          exact HK.out j L (by have := (List.getElem?_eq_some_iff.1 hj).1; rw [HLn.out] at this; exact this) hj
        clear HK
        by_cases hmn : m = n
        · by_cases hS1 : 1 ≤ S
          · by_cases hS2 : S ≤ 20
            · have hs1 : W.heap.size = w.heap.size + 1 := by rw [← hW]; simp
              have hSq1 : ¬ S < 1 := by omega
              have hSq2 : ¬ 20 < S := by omega
              go_wp2
              go_loopw [5] (fun i wr => ∃ k : Nat, k ≤ n ∧ i = .int .i64 (k : Int) ∧ Hid (∀ j L, j < k → Ls[j]? = some L → ∀ x ∈ L, 0 ≤ x ∧ x ≤ S) ∧ Hid (∀ j y, j < k → ys[j]? = some y → 0 ≤ y ∧ y ≤ 1000) ∧ Below W.heap.size W wr) (fun i _ => n - (intOf i).toNat)
              case atStart => exact ⟨0, Nat.zero_le _, rfl, Lib.hid fun j L h => absurd h (Nat.not_lt_zero j), Lib.hid fun j y h => absurd h (Nat.not_lt_zero j), Below.refl _ _⟩
              case round =>
                obtain ⟨k, hk2, rfl, HK1, HK2, hB⟩ := hrel
                by_cases hlt2 : k < n
                · have hL : Ls[k]? = some (Ls[k]'(by rw [HLn.out]; exact hlt2)) := List.getElem?_eq_getElem (by rw [HLn.out]; exact hlt2)
                  have hlen := (HR.out _ (List.mem_of_getElem? hL)).trans HLn.out
                  obtain ⟨ad, A1, c1', rfl, hadl, h2, _, hrL⟩ := hmv1.2 k _ hL
                  have HL := Lib.hid hL
                  generalize Ls[k]'(by rw [HLn.out]; exact hlt2) = L at *
                  clear hL
                  rw [hlen] at h2 hrL
                  have HLL := Lib.hid hlen
                  clear hlen
                  go_wp2
                  go_loopw [6] (fun i wr' => ∃ q : Nat, q ≤ n ∧ i = .int .i64 (q : Int) ∧ Hid (∀ j x, j < q → L[j]? = some x → 0 ≤ x ∧ x ≤ S) ∧ Below W.heap.size W wr') (fun i _ => n - (intOf i).toNat)
                  case atStart => exact ⟨0, Nat.zero_le _, rfl, Lib.hid fun j L h => absurd h (Nat.not_lt_zero j), hB⟩
                  case round =>
                    clear hB
                    obtain ⟨q, hq, rfl, HQ, hB⟩ := hrel
                    have d0 := (hB.cell (p := ⟨w.heap.size, 0, none⟩) (by show w.heap.size < _; omega)).trans c0
                    have d1 := (hB.cell (p := ⟨w.heap.size, 1, none⟩) (by show w.heap.size < _; omega)).trans c1
                    have d2 := (hB.cell (p := ⟨w.heap.size, 2, none⟩) (by show w.heap.size < _; omega)).trans c2
                    have e2 := (hB.cell (p := ad.add k) (by rw [addr_block]; omega)).trans h2
                    by_cases hlq : q < n
                    · obtain ⟨adx, x, rfl, _, hcx, HX, _⟩ := (hrL.below (hB.mono (by omega))).at_ hlq
                      by_cases hx0 : x < 0
                      · have HN : Hid (¬ PreM S Ls ys) := Lib.hid fun h => by
                          have := h.2.2.2.2.1 L (List.mem_of_getElem? HL.out) x (List.mem_of_getElem? HX.out)
                          omega
                        have hdx : decide (x < 0) = true := decide_eq_true hx0
                        go_wp2
                        go_quiet (fail)
                        go_wp2
                        go_ret
                        exact ⟨3, rfl, ⟨fun h => absurd h (by decide), fun h => absurd h HN.out⟩, below_drewN (hb1.trans (hB.mono (by omega))) _⟩
                      · have hdx : decide (x < 0) = false := decide_eq_false hx0
                        by_cases hxS : S < x
                        · have HN : Hid (¬ PreM S Ls ys) := Lib.hid fun h => by
                            have := h.2.2.2.2.1 L (List.mem_of_getElem? HL.out) x (List.mem_of_getElem? HX.out)
                            omega
                          go_wp2
                          go_quiet (fail)
                          go_wp2
                          go_ret
                          exact ⟨3, rfl, ⟨fun h => absurd h (by decide), fun h => absurd h HN.out⟩, below_drewN (hb1.trans (hB.mono (by omega))) _⟩
                        · have HQ2 : Hid (∀ j x, j < q + 1 → L[j]? = some x → 0 ≤ x ∧ x ≤ S) := Lib.hid fun j x' hj hx' => by
                            by_cases e : j = q
                            · subst e
                              rw [HX.out] at hx'
                              cases hx'
                              omega
                            · exact HQ.out j x' (by omega) hx'
                          go_wp2
                          go_quiet (fail)
                          go_wp2
                          exact ⟨⟨q + 1, by omega, by go_num, HQ2, below_drewN hB _⟩, by simp [intOf]; omega⟩
                    · obtain rfl : n = q := by omega
                      have hY : ys[k]? = some (ys[k]'(by rw [HYn.out]; omega)) := List.getElem?_eq_getElem (by rw [HYn.out]; omega)
                      obtain ⟨ady, y, rfl, _, hcy, HY, _⟩ := (hri1.below (hB.mono (by omega))).at_ (k := k) (by omega)
                      clear hY
                      have HK1' : Hid (∀ j L, j < k + 1 → Ls[j]? = some L → ∀ x ∈ L, 0 ≤ x ∧ x ≤ S) := Lib.hid fun j L' hj hL' x hx => by
                        by_cases e : j = k
                        · subst e
                          rw [HL.out] at hL'
                          cases hL'
                          obtain ⟨i, hi⟩ := List.mem_iff_getElem?.1 hx
                          exact HQ.out i x (by have := (List.getElem?_eq_some_iff.1 hi).1; rw [HLL.out] at this; exact this) hi
                        · exact HK1.out j L' (by omega) hL' x hx
                      by_cases hy0 : y < 0
                      · have HN : Hid (¬ PreM S Ls ys) := Lib.hid fun h => by
                          have := h.2.2.2.2.2 y (List.mem_of_getElem? HY.out)
                          omega
                        have hdy : decide (y < 0) = true := decide_eq_true hy0
                        go_wp2
                        go_ret
                        exact ⟨3, rfl, ⟨fun h => absurd h (by decide), fun h => absurd h HN.out⟩, hb1.trans (hB.mono (by omega))⟩
                      · have hdy : decide (y < 0) = false := decide_eq_false hy0
                        by_cases hyS : 1000 < y
                        · have HN : Hid (¬ PreM S Ls ys) := Lib.hid fun h => by
                            have := h.2.2.2.2.2 y (List.mem_of_getElem? HY.out)
                            omega
                          go_wp2
                          go_ret
                          exact ⟨3, rfl, ⟨fun h => absurd h (by decide), fun h => absurd h HN.out⟩, hb1.trans (hB.mono (by omega))⟩
                        · have HK2' : Hid (∀ j y, j < k + 1 → ys[j]? = some y → 0 ≤ y ∧ y ≤ 1000) := Lib.hid fun j y' hj hy' => by
                            by_cases e : j = k
                            · subst e
                              rw [HY.out] at hy'
                              cases hy'
                              omega
                            · exact HK2.out j y' (by omega) hy'
                          go_wp2
                          go_roundw
                          case rel => exact ⟨k + 1, by omega, by go_num, HK1', HK2', hB⟩
                          case measure => simp [intOf]; omega
                · obtain rfl : n = k := by omega
                  have HP : Hid (PreM S Ls ys) := Lib.hid ⟨by rw [HLn.out]; exact hn, HR.out, by rw [HYn.out, HLn.out, hmn], ⟨hS1, hS2⟩, fun L hL x hx => by
                    obtain ⟨j, hj⟩ := List.mem_iff_getElem?.1 hL
                    exact HK1.out j L (by have := (List.getElem?_eq_some_iff.1 hj).1; rw [HLn.out] at this; exact this) hj x hx, fun y hy => by
                    obtain ⟨j, hj⟩ := List.mem_iff_getElem?.1 hy
                    exact HK2.out j y (by have := (List.getElem?_eq_some_iff.1 hj).1; rw [HYn.out] at this; omega) hj⟩
                  go_wp2
                  go_ret
                  exact ⟨0, rfl, ⟨fun _ => HP.out, fun _ => rfl⟩, hb1.trans (hB.mono (by omega))⟩
            · have HN : Hid (¬ PreM S Ls ys) := Lib.hid fun h => hS2 h.2.2.2.1.2
              have hSq1 : decide (S < 1) = false := decide_eq_false (by omega)
              have hSq2 : 20 < S := by omega
              clear hS1
              go_wp2
              go_ret
              exact ⟨3, rfl, ⟨fun h => absurd h (by decide), fun h => absurd h HN.out⟩, hb1⟩
          · have HN : Hid (¬ PreM S Ls ys) := Lib.hid fun h => hS1 h.2.2.2.1.1
            have hSq1 : decide (S < 1) = true := decide_eq_true (by omega)
            clear hS1
            go_wp2
            go_ret
            exact ⟨3, rfl, ⟨fun h => absurd h (by decide), fun h => absurd h HN.out⟩, hb1⟩
        · have hne : ¬ (m : Int) = (n : Int) := by omega
          have HN : Hid (¬ PreM S Ls ys) := Lib.hid fun h => hmn (by
            have := h.2.2.1
            rw [HYn.out, HLn.out] at this
            exact this)
          go_wp2
          go_ret
          exact ⟨15, rfl, ⟨fun h => absurd h (by decide), fun h => absurd h HN.out⟩, hb1⟩
  · have HN : Hid (¬ PreM S Ls ys) := Lib.hid fun h => hn (by have := h.1; rw [HLn.out] at this; exact this)
    by_cases h0 : n = 0
    · subst h0
      go_wp2
      go_ret
      exact ⟨6, rfl, ⟨fun h => absurd h (by decide), fun h => absurd h HN.out⟩, hb1⟩
    · have h4 : 4 < n := by omega
      have h41 : 1 ≤ n := by omega
      clear hn
      go_wp2
      go_ret
      exact ⟨6, rfl, ⟨fun h => absurd h (by decide), fun h => absurd h HN.out⟩, hb1⟩
set_option maxRecDepth 100000 in
set_option maxHeartbeats 1600000 in
theorem rCheckM (A A' : Option Addr) (n c m c' : Nat) (S : Int) (Ls : List (List Int)) (ys : List Int) (w : World) (hmv : Mv w w.heap.size A n Ls) (hri : Ri w w.heap.size A' m ys) :
    Calls Tryz.prog 10 #[.agg #[.int .i64 S, .slice A n c, .slice A' m c']] w fun e w' => ∃ r : Int, e = .returned (.int .i64 r) ∧ (r = 0 ↔ ValM S Ls ys) ∧ Below w.heap.size w w' := by
  have HLn := Lib.hid hmv.1
  have hb1 := (Below.refl w.heap.size w).alloc (Nat.le_refl _) (.cells #[.int .i64 S, .slice A n c, .slice A' m c'] 25)
  have hbk := Bk.new w 25 #[.int .i64 S, .slice A n c, .slice A' m c']
  have hs1 : (w.alloc (.cells #[.int .i64 S, .slice A n c, .slice A' m c'] 25)).heap.size = w.heap.size + 1 := by simp
  have hmv1 := (hmv.below hb1).more (B' := (w.alloc (.cells #[.int .i64 S, .slice A n c, .slice A' m c'] 25)).heap.size) (by omega)
  have hri1 := (hri.below hb1).more (B' := (w.alloc (.cells #[.int .i64 S, .slice A n c, .slice A' m c'] 25)).heap.size) (by omega)
  generalize hW : w.alloc (.cells #[.int .i64 S, .slice A n c, .slice A' m c'] 25) = W at *
  have c0 : W.cell? ⟨w.heap.size, 0, none⟩ = some (.int .i64 S) := hbk.cell 0
  have c1 : W.cell? ⟨w.heap.size, 1, none⟩ = some (.slice A n c) := hbk.cell 1
  have c2 : W.cell? ⟨w.heap.size, 2, none⟩ = some (.slice A' m c') := hbk.cell 2
  clear hbk hmv hri
  go_enter Tryz.func10, Tryz.ntmps10
  go_wp2_with fail
  refine (rcheck _ _ _ _ _ _ _ _ _ _ hmv1 hri1).mono ?_
  rintro e w1 ⟨r, rfl, hr, hb2⟩
  have hs2 := hb2.size
  have HR := Lib.hid hr
  clear hr
  have d0 := (hb2.cell (p := ⟨w.heap.size, 0, none⟩) (by show w.heap.size < _; omega)).trans c0
  have d1 := (hb2.cell (p := ⟨w.heap.size, 1, none⟩) (by show w.heap.size < _; omega)).trans c1
  have d2 := (hb2.cell (p := ⟨w.heap.size, 2, none⟩) (by show w.heap.size < _; omega)).trans c2
  have hb3 := hb1.trans (hb2.mono (by omega))
  have hmv2 := (hmv1.below hb2).more hs2
  have hri2 := (hri1.below hb2).more hs2
  by_cases hr0 : r = 0
  · subst hr0
    have HP := Lib.hid (HR.out.1 rfl)
    have hn4 : n ≤ 4 := by have := HP.out.1.2; rw [HLn.out] at this; exact this
    go_wp2_with fail
    go_loopw [3] (fun i wr => ∃ k : Nat, k ≤ n ∧ i = .int .i64 (k : Int) ∧ Hid (∀ j L, j < k → Ls[j]? = some L → L.sum = S) ∧ Below w1.heap.size w1 wr) (fun i _ => n - (intOf i).toNat)
    case atStart => exact ⟨0, Nat.zero_le _, rfl, Lib.hid fun j L h => absurd h (Nat.not_lt_zero j), Below.refl _ _⟩
    case round =>
      obtain ⟨k, hk, rfl, HK, hB⟩ := hrel
      have e0 := (hB.cell (p := ⟨w.heap.size, 0, none⟩) (by show w.heap.size < _; omega)).trans d0
      have e1 := (hB.cell (p := ⟨w.heap.size, 1, none⟩) (by show w.heap.size < _; omega)).trans d1
      by_cases hlt : k < n
      · have hL : Ls[k]? = some (Ls[k]'(by rw [HLn.out]; exact hlt)) := List.getElem?_eq_getElem (by rw [HLn.out]; exact hlt)
        have hlen := (HP.out.2.1 _ (List.mem_of_getElem? hL)).trans HLn.out
        obtain ⟨ad, A1, c1', rfl, _, h2, _, hrL⟩ := ((hmv2.below hB).more hB.size).2 k _ hL
        have HL := Lib.hid hL
        generalize Ls[k]'(by rw [HLn.out]; exact hlt) = L at *
        clear hL
        rw [hlen] at h2 hrL
        have HB : Hid (∀ x ∈ L, 0 ≤ x ∧ x ≤ 20) := Lib.hid fun x hx => by
          have h1 := HP.out.2.2.2.2.1 L (List.mem_of_getElem? HL.out) x hx
          have h2 := HP.out.2.2.2.1.2
          omega
        obtain ⟨z, HZ⟩ : ∃ z, Hid (L.sum = z) := ⟨_, Lib.hid rfl⟩
        have hsum : ∀ m, Calls Tryz.prog 51 #[.slice A1 n c1'] (wr.drewN m) fun e w' => e = .returned (.int .i64 z) ∧ w' = wr.drewN m := fun m => by
          rw [← HZ.out]
          exact rSum A1 n c1' L (wr.drewN m) (hrL.drewN m) hn4 HB.out
        have HS := Lib.hid hsum
        clear hsum
        by_cases hz : z = S
        · subst hz
          have HK2 : Hid (∀ j L, j < k + 1 → Ls[j]? = some L → L.sum = z) := Lib.hid fun j L' hj hL' => by
            by_cases e : j = k
            · subst e
              rw [HL.out] at hL'
              cases hL'
              exact HZ.out
            · exact HK.out j L' (by omega) hL'
          go_wp2
          go_quiet ((go_at_call 51; exact Calls.quiet_of_same (HS.out _)))
          go_wp2
          exact ⟨⟨k + 1, by omega, by go_num, HK2, below_drewN hB _⟩, by simp [intOf]; omega⟩
        · have HN : Hid (¬ ValM S Ls ys) := Lib.hid fun h => hz (by
            rw [← HZ.out]
            exact h.2 L (List.mem_of_getElem? HL.out))
          go_wp2
          go_quiet ((go_at_call 51; exact Calls.quiet_of_same (HS.out _)))
          go_wp2
          go_ret
          exact ⟨14, rfl, ⟨fun h => absurd h (by decide), fun h => absurd h HN.out⟩, below_drewN (hb3.trans (hB.mono (by omega))) _⟩
      · obtain rfl : n = k := by omega
        have HV : Hid (ValM S Ls ys) := Lib.hid ⟨HP.out, fun L hL => by
          obtain ⟨j, hj⟩ := List.mem_iff_getElem?.1 hL
          exact HK.out j L (by have := (List.getElem?_eq_some_iff.1 hj).1; rw [HLn.out] at this; exact this) hj⟩
        go_wp2
        go_ret
        exact ⟨0, rfl, ⟨fun _ => HV.out, fun _ => rfl⟩, hb3.trans (hB.mono (by omega))⟩
  · have HN : Hid (¬ PreM S Ls ys) := Lib.hid fun h => hr0 (HR.out.2 h)
    go_wp2_with fail
    refine (rcheck _ _ _ _ _ _ _ _ _ _ hmv2 hri2).mono ?_
    rintro e w2 ⟨r2, rfl, hr2, hb4⟩
    have HR2 : Hid (¬ r2 = 0) := Lib.hid fun h => HN.out (hr2.1 h)
    clear hr2 hr0
    go_wp2
    go_ret
    exact ⟨r2, rfl, ⟨fun h => absurd h HR2.out, fun h => absurd h.1 HN.out⟩, hb3.trans (hb4.mono (by omega))⟩
end Go.Proofs.YtibmpjhffeinoaaGreat
