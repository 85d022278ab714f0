/-
  The laws' small functions.
-/
import Derived.Test.YtaekjnjignlmoaaWd
import Derived.Test.YtaekjnjignlmoaaBd
namespace Go.Proofs.Ytaekjnjignlmoaa
open Go.RowKit Go.Shelf

theorem aOf (v : Value) (w : World) : Calls Try.prog 54 #[v] w fun e w' => e = .returned v ∧ w = w' := by
  go_enter Try.func54, Try.ntmps54
  go_wp2
  go_ret
  exact ⟨rfl, rfl⟩
theorem aLongsOf (v : Value) (w : World) : Calls Try.prog 56 #[v] w fun e w' => e = .returned v ∧ w = w' := by
  go_enter Try.func56, Try.ntmps56
  go_wp2
  go_ret
  exact ⟨rfl, rfl⟩
theorem aEnds (v : Value) (w : World) : Calls Try.prog 97 #[v] w fun e w' => e = .returned v ∧ w = w' := by
  go_enter Try.func97, Try.ntmps97
  go_wp2
  go_ret
  exact ⟨rfl, rfl⟩
theorem aGreat (b : Int) (A : Option Addr) (n c : Nat) (w : World) (r : Bool) (HR : Hid (decide (14 < n) = r)) : Calls Try.prog 17 #[.agg #[.int .i64 b, .slice A n c]] w (RetB w r) := by
  have hb1 : Below w.heap.size w (w.alloc (.cells #[.int .i64 b, .slice A n c] 24)) := (Below.refl _ w).alloc (Nat.le_refl _) _
  by_cases h : 14 < n
  · have HE : Hid (r = true) := Lib.hid (by rw [← HR.out]; exact decide_eq_true h)
    go_enter Try.func17, Try.ntmps17
    go_wp2
    go_ret
    exact ⟨ret_b (by rw [HE.out]; simp; omega), hb1⟩
  · have HE : Hid (r = false) := Lib.hid (by rw [← HR.out]; exact decide_eq_false h)
    go_enter Try.func17, Try.ntmps17
    go_wp2
    go_ret
    exact ⟨ret_b (by rw [HE.out]; simp; omega), hb1⟩

set_option maxHeartbeats 400000 in
theorem aLongs (A1 A2 : Option Addr) (n1 c1 n2 c2 B1 B2 : Nat) (xs ys : List Int) (w : World) (hx : Ri w B1 A1 n1 xs) (hy : Ri w B2 A2 n2 ys) (hn : n1 ≤ 9223372036854775807) (hn2 : n2 ≤ 9223372036854775807) (r : Bool) (HR : Hid (decide (xs = ys) = r)) :
    Calls Try.prog 23 #[.slice A1 n1 c1, .slice A2 n2 c2] w fun e w' => e = .returned (.bool r) ∧ ∃ d, w' = w.drewN d := by
  have HLX := Lib.hid hx.len
  have HLY := Lib.hid hy.len
  by_cases hl : n1 = n2
  · subst hl
    go_enter Try.func23, Try.ntmps23
    go_wp2
    go_loopw [5] (fun i wr => ∃ k d : Nat, k ≤ n1 ∧ i = .int .i64 k ∧ wr = w.drewN d ∧ Hid (xs.take k = ys.take k)) (fun i _ => n1 - (intOf i).toNat)
    case atStart => exact ⟨0, 0, Nat.zero_le _, rfl, rfl, Lib.hid rfl⟩
    case round =>
      obtain ⟨k, d, hk, rfl, rfl, HT⟩ := hrel
      by_cases hlt : k < n1
      · obtain ⟨ad, x, rfl, _, hc, hxk, _⟩ := hx.at_ hlt
        obtain ⟨ad2, y, rfl, _, hc2, hyk, _⟩ := hy.at_ hlt
        by_cases he : x = y
        · have hb : (x != y) = false := by simp [he]
          have HT2 : Hid (xs.take (k + 1) = ys.take (k + 1)) := Lib.hid (by rw [take_snoc hxk.out, take_snoc hyk.out, HT.out, he])
          clear he
          go_wp2
          go_quiet (fail)
          go_wp2
          go_roundw
          case rel => exact ⟨k + 1, _, by omega, by go_num, rfl, HT2⟩
          case measure => simp [intOf]; omega
        · have hb : (x != y) = true := by simp [he]
          have HE : Hid (r = false) := Lib.hid (by
            rw [← HR.out]
            refine decide_eq_false fun e => he ?_
            have h1 := hxk.out
            rw [e, hyk.out] at h1
            exact (Option.some.inj h1).symm)
          clear he
          go_wp2
          go_quiet (fail)
          go_wp2
          go_ret
          exact ⟨ret_b HE.out.symm, d + _, by simp [World.drewN, Nat.add_assoc]; rfl⟩
      · have HE : Hid (r = true) := Lib.hid (by
          rw [← HR.out]
          refine decide_eq_true ?_
          have h := HT.out
          rwa [List.take_of_length_le (by rw [HLX.out]; omega), List.take_of_length_le (by rw [HLY.out]; omega)] at h)
        go_wp2
        go_ret
        exact ⟨ret_b HE.out.symm, d, rfl⟩
  · have HE : Hid (r = false) := Lib.hid (by
      rw [← HR.out]
      refine decide_eq_false fun e => hl ?_
      rw [← HLX.out, ← HLY.out, e])
    go_enter Try.func23, Try.ntmps23
    go_wp2
    go_ret
    exact ⟨ret_b HE.out.symm, 0, rfl⟩
theorem aLongsT (A1 A2 : Option Addr) (n1 c1 n2 c2 B1 B2 : Nat) (xs ys : List Int) (w : World) (hx : Ri w B1 A1 n1 xs) (hy : Ri w B2 A2 n2 ys) (hn : n1 ≤ 9223372036854775807) (hn2 : n2 ≤ 9223372036854775807) (r : Bool) (HR : Hid (decide (xs = ys) = r)) :
    Calls Try.prog 23 #[.slice A1 n1 c1, .slice A2 n2 c2] w (RetB w r) :=
  (aLongs A1 A2 n1 c1 n2 c2 B1 B2 xs ys w hx hy hn hn2 r HR).mono fun _ _ ⟨h1, _, h2⟩ => ⟨h1, h2 ▸ below_drewN (Below.refl _ _) _⟩
set_option maxHeartbeats 400000 in
theorem aInts (A1 A2 : Option Addr) (n1 c1 n2 c2 B1 B2 : Nat) (xs ys : List Int) (w : World) (hx : Ri w B1 A1 n1 xs) (hy : Ri w B2 A2 n2 ys) (hn : n1 ≤ 9223372036854775807) (hn2 : n2 ≤ 9223372036854775807) (r : Bool) (HR : Hid (decide (xs = ys) = r)) :
    Calls Try.prog 30 #[.slice A1 n1 c1, .slice A2 n2 c2] w fun e w' => e = .returned (.bool r) ∧ ∃ d, w' = w.drewN d := by
  have HLX := Lib.hid hx.len
  have HLY := Lib.hid hy.len
  by_cases hl : n1 = n2
  · subst hl
    go_enter Try.func30, Try.ntmps30
    go_wp2
    go_loopw [5] (fun i wr => ∃ k d : Nat, k ≤ n1 ∧ i = .int .i64 k ∧ wr = w.drewN d ∧ Hid (xs.take k = ys.take k)) (fun i _ => n1 - (intOf i).toNat)
    case atStart => exact ⟨0, 0, Nat.zero_le _, rfl, rfl, Lib.hid rfl⟩
    case round =>
      obtain ⟨k, d, hk, rfl, rfl, HT⟩ := hrel
      by_cases hlt : k < n1
      · obtain ⟨ad, x, rfl, _, hc, hxk, _⟩ := hx.at_ hlt
        obtain ⟨ad2, y, rfl, _, hc2, hyk, _⟩ := hy.at_ hlt
        by_cases he : x = y
        · have hb : (x != y) = false := by simp [he]
          have HT2 : Hid (xs.take (k + 1) = ys.take (k + 1)) := Lib.hid (by rw [take_snoc hxk.out, take_snoc hyk.out, HT.out, he])
          clear he
          go_wp2
          go_quiet (fail)
          go_wp2
          go_roundw
          case rel => exact ⟨k + 1, _, by omega, by go_num, rfl, HT2⟩
          case measure => simp [intOf]; omega
        · have hb : (x != y) = true := by simp [he]
          have HE : Hid (r = false) := Lib.hid (by
            rw [← HR.out]
            refine decide_eq_false fun e => he ?_
            have h1 := hxk.out
            rw [e, hyk.out] at h1
            exact (Option.some.inj h1).symm)
          clear he
          go_wp2
          go_quiet (fail)
          go_wp2
          go_ret
          exact ⟨ret_b HE.out.symm, d + _, by simp [World.drewN, Nat.add_assoc]; rfl⟩
      · have HE : Hid (r = true) := Lib.hid (by
          rw [← HR.out]
          refine decide_eq_true ?_
          have h := HT.out
          rwa [List.take_of_length_le (by rw [HLX.out]; omega), List.take_of_length_le (by rw [HLY.out]; omega)] at h)
        go_wp2
        go_ret
        exact ⟨ret_b HE.out.symm, d, rfl⟩
  · have HE : Hid (r = false) := Lib.hid (by
      rw [← HR.out]
      refine decide_eq_false fun e => hl ?_
      rw [← HLX.out, ← HLY.out, e])
    go_enter Try.func30, Try.ntmps30
    go_wp2
    go_ret
    exact ⟨ret_b HE.out.symm, 0, rfl⟩
theorem aIntsT (A1 A2 : Option Addr) (n1 c1 n2 c2 B1 B2 : Nat) (xs ys : List Int) (w : World) (hx : Ri w B1 A1 n1 xs) (hy : Ri w B2 A2 n2 ys) (hn : n1 ≤ 9223372036854775807) (hn2 : n2 ≤ 9223372036854775807) (r : Bool) (HR : Hid (decide (xs = ys) = r)) :
    Calls Try.prog 30 #[.slice A1 n1 c1, .slice A2 n2 c2] w (RetB w r) :=
  (aInts A1 A2 n1 c1 n2 c2 B1 B2 xs ys w hx hy hn hn2 r HR).mono fun _ _ ⟨h1, _, h2⟩ => ⟨h1, h2 ▸ below_drewN (Below.refl _ _) _⟩

/-- Have bounds too many numbers for a statement? -/
def wideB (Rs : List (List (Int × Int))) : Bool := decide (14 < Rs.length) || Rs.any fun L => decide (14 < L.length)
def maxN (Rs : List (List (Int × Int))) (k : Nat) : Nat := (Rs.take k).foldl (fun m L => max m L.length) 0
theorem maxN_any (Rs : List (List (Int × Int))) : ∀ k, decide (14 < maxN Rs k) = (Rs.take k).any fun L => decide (14 < L.length) := by
  intro k
  have key : ∀ (Ls : List (List (Int × Int))) (m : Nat), decide (14 < Ls.foldl (fun m L => max m L.length) m) = (decide (14 < m) || Ls.any fun L => decide (14 < L.length)) := by
    intro Ls
    induction Ls with
    | nil => intro m; show decide (14 < m) = (decide (14 < m) || false); rw [Bool.or_false]
    | cons L Ls ih =>
      intro m
      rw [List.foldl_cons, ih, List.any_cons, ← Bool.or_assoc]
      congr 1
      by_cases h1 : 14 < m <;> by_cases h2 : 14 < L.length <;> simp [h1, h2] <;> omega
  have h := key (Rs.take k) 0
  rw [show decide (14 < (0 : Nat)) = false from rfl, Bool.false_or] at h
  exact h
set_option maxHeartbeats 1000000 in
theorem aWide (D : Option Addr) (N dc B : Nat) (Rs : List (List (Int × Int))) (w : World) (hx : Bd w B D N Rs) (hLs : Hid (∀ L ∈ Rs, L.length ≤ 9223372036854775807)) (r : Bool) (HR : Hid (wideB Rs = r)) :
    Calls Try.prog 35 #[.slice D N dc] w (RetB w r) := by
  have HL := Lib.hid hx.len
  by_cases h : 14 < N
  · have HE : Hid (r = true) := Lib.hid (by rw [← HR.out]; unfold wideB; rw [HL.out, decide_eq_true h]; rfl)
    go_enter Try.func35, Try.ntmps35
    go_wp2
    go_ret
    exact ⟨ret_b HE.out.symm, Below.refl _ _⟩
  · have HR2 : Hid ((Rs.any fun L => decide (14 < L.length)) = r) := Lib.hid (by rw [← HR.out]; unfold wideB; rw [HL.out, decide_eq_false h]; rfl)
    go_enter Try.func35, Try.ntmps35
    go_wp2
    go_loop [3, 4] (fun m i => ∃ k : Nat, k ≤ N ∧ i = .int .i64 k ∧ m = .int .i64 (maxN Rs k : Nat)) (fun _ i => N - (intOf i).toNat)
    case atStart => exact ⟨0, Nat.zero_le _, rfl, rfl⟩
    case round =>
      obtain ⟨k, hk, rfl, rfl⟩ := hrel
      obtain ⟨m, HM⟩ : ∃ m, Hid (maxN Rs k = m) := ⟨_, Lib.hid rfl⟩
      rw [HM.out]
      by_cases hlt : k < N
      · obtain ⟨ad, A', c', l, L, rfl, _, l1, hL, hLm, hmc, hrp⟩ := hx.at_ hlt
        have hl63 : l ≤ 9223372036854775807 := by rw [← hLm.out]; exact hLs.out L (List.mem_of_getElem? hL.out)
        have HS : Hid (maxN Rs (k + 1) = max m l) := Lib.hid (by unfold maxN; rw [take_snoc hL.out, List.foldl_append]; show max (maxN Rs k) L.length = _; rw [HM.out, hLm.out])
        by_cases hc : m < l
        · have HS2 : Hid (maxN Rs (k + 1) = l) := Lib.hid (by rw [HS.out]; omega)
          go_wp2
          go_round
          case rel => exact ⟨k + 1, by omega, by go_num, by rw [HS2.out]⟩
          case measure => simp [intOf]; omega
        · have HS2 : Hid (maxN Rs (k + 1) = m) := Lib.hid (by rw [HS.out]; omega)
          go_wp2
          go_round
          case rel => exact ⟨k + 1, by omega, by go_num, by rw [HS2.out]⟩
          case measure => simp [intOf]; omega
      · have HE : Hid (decide (14 < m) = r) := Lib.hid (by
          rw [← HM.out, maxN_any, ← HR2.out, List.take_of_length_le (by rw [HL.out]; omega)])
        go_wp2
        go_ret
        exact ⟨ret_b (by rw [← HE.out]; simp; omega), Below.refl _ _⟩
end Go.Proofs.Ytaekjnjignlmoaa
