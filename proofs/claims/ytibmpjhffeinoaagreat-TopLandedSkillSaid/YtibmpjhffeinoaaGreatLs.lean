/-
  slices of ints: Contains, Index, Equal.
-/
import Derived.Test.YtibmpjhffeinoaaGreatLa
namespace Go.Proofs.YtibmpjhffeinoaaGreat
open Go.RowKit Go.Shelf

/-- Where a number stands first; -1: nowhere. -/
def idx (xs : List Int) (x : Int) : Int := match xs.findIdx? (· == x) with
  | some k => k
  | none => -1
theorem idx_at {xs : List Int} {k : Nat} {x : Int} (h : xs[k]? = some x) (hn : ∀ j y, j < k → xs[j]? = some y → y ≠ x) : idx xs x = k := by
  unfold idx
  have : xs.findIdx? (· == x) = some k := by
    rw [List.findIdx?_eq_some_iff_getElem]
    obtain ⟨h1, h2⟩ := List.getElem?_eq_some_iff.1 h
    refine ⟨h1, by simp [h2], fun j hj => ?_⟩
    have := hn j _ hj (List.getElem?_eq_getElem (by omega))
    simpa using this
  rw [this]
theorem idx_no {xs : List Int} {x : Int} (hn : x ∉ xs) : idx xs x = -1 := by
  unfold idx
  have : xs.findIdx? (· == x) = none := by
    rw [List.findIdx?_eq_none_iff]
    intro y hy
    simp
    rintro rfl
    exact hn hy
  rw [this]
theorem idx_mem {xs : List Int} {x : Int} : 0 ≤ idx xs x ↔ x ∈ xs := by
  constructor
  · intro h
    by_cases hx : x ∈ xs
    · exact hx
    · rw [idx_no hx] at h; omega
  · intro h
    unfold idx
    cases hf : xs.findIdx? (· == x) with
    | none =>
      rw [List.findIdx?_eq_none_iff] at hf
      have := hf x h
      simp at this
    | some k => simp
set_option maxRecDepth 100000 in
set_option maxHeartbeats 400000 in
theorem fIndex (A : Option Addr) (n c B : Nat) (xs : List Int) (x : Int) (w : World) (hx : Ri w B A n xs) (hn : n ≤ 100) :
    Calls Tryz.prog 151 #[.slice A n c, .int .i64 x] w fun e w' => e = .returned (.int .i64 (idx xs x)) ∧ w = w' := by
  have HL := Lib.hid hx.len
  obtain ⟨r, HR⟩ : ∃ r, Hid (idx xs x = r) := ⟨_, Lib.hid rfl⟩
  rw [HR.out]
  go_enter Tryz.func151, Tryz.ntmps151
  go_wp2
  go_loop [5, 8] (fun _ i => ∃ k : Nat, k ≤ n ∧ i = .int .i64 k ∧ Hid (∀ j y, j < k → xs[j]? = some y → y ≠ x)) (fun _ i => n - (intOf i).toNat)
  case atStart => exact ⟨0, Nat.zero_le _, rfl, Lib.hid fun j y h => absurd h (Nat.not_lt_zero j)⟩
  case round =>
    obtain ⟨k, hk, rfl, HK⟩ := hrel
    by_cases hlt : k < n
    · obtain ⟨ad, y, rfl, _, hc, hxk, _⟩ := hx.at_ hlt
      by_cases e : x = y
      · subst e
        have HX : Hid (r = k) := Lib.hid (by rw [← HR.out]; exact idx_at hxk.out HK.out)
        go_wp2
        go_ret
        exact ⟨ret_i (by rw [HX.out]), rfl⟩
      · have HX : Hid (∀ j y, j < k + 1 → xs[j]? = some y → y ≠ x) := Lib.hid fun j z hj hz => by
          by_cases e' : j = k
          · subst e'
            rw [hxk.out] at hz
            cases hz
            exact fun h => e h.symm
          · exact HK.out j z (by omega) hz
        have he : (x == y) = false := by simpa using e
        go_wp2
        go_round
        case rel => exact ⟨k + 1, by omega, by go_num, HX⟩
        case measure => simp [intOf]; omega
    · have HX : Hid (r = -1) := Lib.hid (by
        rw [← HR.out]
        refine idx_no fun h => ?_
        obtain ⟨j, hj⟩ := List.mem_iff_getElem?.1 h
        exact HK.out j x (by have := (List.getElem?_eq_some_iff.1 hj).1; rw [HL.out] at this; omega) hj rfl)
      go_wp2
      go_ret
      exact ⟨ret_i (by rw [HX.out]), rfl⟩
set_option maxRecDepth 100000 in
set_option maxHeartbeats 400000 in
theorem fContains (A : Option Addr) (n c B : Nat) (xs : List Int) (x : Int) (w : World) (hx : Ri w B A n xs) (hn : n ≤ 100) :
    Calls Tryz.prog 67 #[.slice A n c, .int .i64 x] w fun e w' => e = .returned (.bool (decide (x ∈ xs))) ∧ w = w' := by
  have HI := Lib.hid (fIndex A n c B xs x w hx hn)
  have HM : Hid (decide (0 ≤ idx xs x) = decide (x ∈ xs)) := Lib.hid (by simp [idx_mem])
  rw [← HM.out]
  go_enter Tryz.func67, Tryz.ntmps67
  go_wp2_with (go_at_call 151; refine (HI.out).mono ?_; rintro e w' ⟨rfl, rfl⟩)
  go_ret
  exact ⟨rfl, rfl⟩
set_option maxRecDepth 100000 in
set_option maxHeartbeats 400000 in
theorem fEqual (A A' : Option Addr) (n n' c c' B B' : Nat) (xs ys : List Int) (w : World) (hx : Ri w B A n xs) (hy : Ri w B' A' n' ys) (hn : n ≤ 100) :
    Calls Tryz.prog 275 #[.slice A n c, .slice A' n' c'] w fun e w' => e = .returned (.bool (decide (xs = ys))) ∧ ∃ m, w' = w.drewN m := by
  have HL := Lib.hid hx.len
  have HL' := Lib.hid hy.len
  obtain ⟨r, HR⟩ : ∃ r, Hid (decide (xs = ys) = r) := ⟨_, Lib.hid rfl⟩
  rw [HR.out]
  go_enter Tryz.func275, Tryz.ntmps275
  by_cases hnn : n = n'
  · subst hnn
    go_wp2
    go_loopw [5, 13] (fun _ i wr => ∃ k : Nat, k ≤ n ∧ i = .int .i64 k ∧ Hid (xs.take k = ys.take k) ∧ ∃ m, wr = w.drewN m) (fun _ i _ => n - (intOf i).toNat)
    case atStart => exact ⟨0, Nat.zero_le _, rfl, Lib.hid rfl, 0, rfl⟩
    case round =>
      obtain ⟨k, hk, rfl, HK, m, rfl⟩ := hrel
      by_cases hlt : k < n
      · obtain ⟨ad, x, rfl, _, hc, hxk, _⟩ := hx.at_ hlt
        obtain ⟨ad', y, rfl, _, hc', hyk, _⟩ := hy.at_ hlt
        by_cases e : x = y
        · subst e
          have HX : Hid (xs.take (k + 1) = ys.take (k + 1)) := Lib.hid (by rw [take_snoc hxk.out, take_snoc hyk.out, HK.out])
          go_wp2
          go_quiet (fail)
          go_wp2
          exact ⟨⟨k + 1, by omega, by go_num, HX, _, rfl⟩, by simp [intOf]; omega⟩
        · have HX : Hid (r = false) := Lib.hid (by
            rw [← HR.out]
            refine decide_eq_false fun h => e ?_
            have h1 := hxk.out
            rw [h, hyk.out] at h1
            exact (Option.some.inj h1).symm)
          have he : (x == y) = false := by simpa using e
          go_wp2
          go_quiet (fail)
          go_wp2
          go_ret
          exact ⟨ret_b HX.out.symm, _, World.drewN_drewN _ _ _⟩
      · have HX : Hid (r = true) := Lib.hid (by
          rw [← HR.out]
          have h := HK.out
          rw [List.take_of_length_le (by rw [HL.out]; omega), List.take_of_length_le (by rw [HL'.out]; omega)] at h
          exact decide_eq_true h)
        go_wp2
        go_ret
        exact ⟨ret_b HX.out.symm, _, rfl⟩
  · have HX : Hid (r = false) := Lib.hid (by
      rw [← HR.out]
      exact decide_eq_false fun h => hnn (by rw [← HL.out, ← HL'.out, h]))
    have he : ((n : Int) == (n' : Int)) = false := by simp; omega
    go_wp2
    go_ret
    exact ⟨ret_b HX.out.symm, 0, rfl⟩
end Go.Proofs.YtibmpjhffeinoaaGreat
