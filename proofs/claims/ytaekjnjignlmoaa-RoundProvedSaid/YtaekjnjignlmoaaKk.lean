/-
  The program: 'Shortest', 'Round', 'Count', 'Within', 'Delay', at every pier.
  The program: 'CheckRound', 'Bounds', at every pier.
-/
import Derived.Test.YtaekjnjignlmoaaI
import Derived.Test.YtaekjnjignlmoaaJ
import Derived.Test.YtaekjnjignlmoaaClash
import Derived.Test.YtaekjnjignlmoaaBn
namespace Go.Proofs.Ytaekjnjignlmoaa
open Go.RowKit Go.Shelf

section
variable (b : Int) (A : Option Addr) (n c : Nat) (ps : List (Int × Int)) (w : World)
theorem fShort (hx : Rp w w.heap.size A n ps) (hn : n ≤ 1048576) (hc : n ≤ c) (v : List Nat × Int × Int) (HV : Hid (shortestS b ps = v)) :
    Calls Try.prog 68 #[.agg #[.int .i64 b, .slice A n c]] w (RetJII w (ofN v.1) v.2.1 v.2.2) := by
  have h := HV.out
  unfold shortestS at h
  by_cases h0 : checkPier b ps = 0
  · rw [if_pos h0] at h
    exact fShort_ok b A n c ps w hx hn hc (Lib.hid (checkPier_ok.1 h0)) v (Lib.hid h)
  · rw [if_neg h0] at h
    subst h
    exact fShort_err b A n c ps w hx hn _ (Lib.hid rfl) h0
theorem fCount (hx : Rp w w.heap.size A n ps) (hn : n ≤ 1048576) (hc : n ≤ c) (v : Int × Int) (HV : Hid (countS b ps = v)) :
    Calls Try.prog 28 #[.agg #[.int .i64 b, .slice A n c]] w (RetII w v.1 v.2) := by
  have h := HV.out
  unfold countS at h
  by_cases h0 : checkPier b ps = 0
  · rw [if_pos h0] at h
    subst h
    exact fCount_ok b A n c ps w hx hn hc (Lib.hid (checkPier_ok.1 h0))
  · rw [if_neg h0] at h
    subst h
    exact fCount_err b A n c ps w hx hn _ (Lib.hid rfl) h0
theorem fDelay (hx : Rp w w.heap.size A n ps) (hn : n ≤ 1048576) (hc : n ≤ c) (v : Int × Int) (HV : Hid (delayS b ps = v)) :
    Calls Try.prog 33 #[.agg #[.int .i64 b, .slice A n c]] w (RetII w v.1 v.2) := by
  have h := HV.out
  unfold delayS at h
  by_cases h0 : checkPier b ps = 0
  · rw [if_pos h0] at h
    subst h
    exact fDelay_ok b A n c ps w hx hn hc (Lib.hid (checkPier_ok.1 h0))
  · rw [if_neg h0] at h
    subst h
    exact fDelay_err b A n c ps w hx hn _ (Lib.hid rfl) h0
theorem fWithinR (s : Int) (hx : Rp w w.heap.size A n ps) (hn : n ≤ 1048576) (hc : n ≤ c) (v : Int × Int × Int) (HV : Hid (withinS b ps s = v)) :
    Calls Try.prog 31 #[.agg #[.int .i64 b, .slice A n c], .int .i64 s] w (RetRE w v.1 v.2.1 v.2.2) := by
  have hl := hx.len
  have h := HV.out
  unfold withinS at h
  by_cases h0 : checkPier b ps = 0
  · rw [if_pos h0, hl] at h
    by_cases h1 : s < 0 ∨ (n : Int) ≤ s
    · rw [if_pos h1] at h
      subst h
      exact fWithin_err b A n c ps s w hx hn hc (Lib.hid (checkPier_ok.1 h0)) (Lib.hid h1)
    · rw [if_neg h1] at h
      obtain ⟨k, rfl⟩ : ∃ k : Nat, s = (k : Int) := ⟨s.toNat, by omega⟩
      exact fWithin_ok b A n c ps k w hx hn hc (Lib.hid (checkPier_ok.1 h0)) (by omega) v (Lib.hid (by simpa using h))
  · rw [if_neg h0] at h
    subst h
    exact fRange_err b A n c ps s w hx hn _ (Lib.hid rfl) h0
set_option maxRecDepth 100000 in
set_option maxHeartbeats 1000000 in
theorem fShortest (hx : Rp w w.heap.size A n ps) (hn : n ≤ 1048576) (hc : n ≤ c) (v : List Nat × Int × Int) (HV : Hid (shortestS b ps = v)) :
    Calls Try.prog 24 #[.agg #[.int .i64 b, .slice A n c]] w (RetII w v.2.1 v.2.2) := by
  have hbk0 := Bk.new w 24 #[.int .i64 b, .slice A n c]
  have hc0 : (w.alloc (.cells #[.int .i64 b, .slice A n c] 24)).cell? ⟨w.heap.size, 0, none⟩ = some (.int .i64 b) := hbk0.cell 0
  have hc1 : (w.alloc (.cells #[.int .i64 b, .slice A n c] 24)).cell? ⟨w.heap.size, 1, none⟩ = some (.slice A n c) := hbk0.cell 1
  have hb0 : Below w.heap.size w (w.alloc (.cells #[.int .i64 b, .slice A n c] 24)) := (Below.refl _ w).alloc (Nat.le_refl _) _
  have hx0 := hx.next hb0 (Nat.le_refl _) hb0.size
  obtain ⟨v1, v2, v3⟩ := v
  go_enter Try.func24, Try.ntmps24
  go_wp2_with fail
  refine (fShort b A n c ps _ hx0 hn hc _ HV).mono ?_
  rintro e w1 ⟨D, m, d, rfl, _, hb⟩
  go_wp2
  go_ret2
  exact ⟨rfl, hb0.trans (hb.mono (by simp))⟩
set_option maxRecDepth 100000 in
set_option maxHeartbeats 1000000 in
theorem fRound (hx : Rp w w.heap.size A n ps) (hn : n ≤ 1048576) (hc : n ≤ c) (v : List Nat × Int × Int) (HV : Hid (shortestS b ps = v)) :
    Calls Try.prog 26 #[.agg #[.int .i64 b, .slice A n c]] w (RetJE w (ofN v.1) v.2.2) := by
  have hbk0 := Bk.new w 24 #[.int .i64 b, .slice A n c]
  have hc0 : (w.alloc (.cells #[.int .i64 b, .slice A n c] 24)).cell? ⟨w.heap.size, 0, none⟩ = some (.int .i64 b) := hbk0.cell 0
  have hc1 : (w.alloc (.cells #[.int .i64 b, .slice A n c] 24)).cell? ⟨w.heap.size, 1, none⟩ = some (.slice A n c) := hbk0.cell 1
  have hb0 : Below w.heap.size w (w.alloc (.cells #[.int .i64 b, .slice A n c] 24)) := (Below.refl _ w).alloc (Nat.le_refl _) _
  have hx0 := hx.next hb0 (Nat.le_refl _) hb0.size
  obtain ⟨v1, v2, v3⟩ := v
  go_enter Try.func26, Try.ntmps26
  go_wp2_with fail
  refine (fShort b A n c ps _ hx0 hn hc _ HV).mono ?_
  rintro e w1 ⟨D, m, d, rfl, ho, hb⟩
  go_wp2
  go_ret2
  exact ⟨D, m, d, rfl, ho.base (by simp), hb0.trans (hb.mono (by simp))⟩
end
end Go.Proofs.Ytaekjnjignlmoaa

namespace Go.Proofs.Ytaekjnjignlmoaa
open Go.RowKit Go.Shelf

theorem fCkRound (b : Int) (A : Option Addr) (n c : Nat) (ps : List (Int × Int)) (B : Option Addr) (m d : Nat) (L : List Int) (w : World) (hx : Rp w w.heap.size A n ps) (hn : n ≤ 1048576) (hc : n ≤ c) (hl : Ri w w.heap.size B m L) (hm : m ≤ 1048576) (hd : m ≤ d) (v : List Int × Int) (HV : Hid (checkRoundS b ps L = v)) :
    Calls Try.prog 19 #[.agg #[.int .i64 b, .slice A n c], .slice B m d] w (RetLE w v.1 v.2) := by
  by_cases h0 : checkPier b ps = 0
  · exact fCkRound_ok b A n c ps B m d L w hx hn hc hl hm hd (Lib.hid (checkPier_ok.1 h0)) v HV
  · have h := HV.out
    unfold checkRoundS at h
    rw [if_neg h0] at h
    subst h
    exact fCkRound_err b A n c ps B m d w hx hn _ (Lib.hid rfl) h0
/-- The bounds that are returned. -/
def boundsS (b : Int) (ps : List (Int × Int)) : List (List (Int × Int)) := if checkPier b ps = 0 then rowsOf (early b ps) (lefts b ps + 1) (ps.length - lefts b ps + 1) else []
theorem rowsOf_congr {F G : Nat → Nat → Nat → Int} {N m : Nat} (h : ∀ x y e : Nat, x < N → y < m → e < 2 → F x y e = G x y e) : rowsOf F N m = rowsOf G N m := by
  unfold rowsOf
  refine List.map_congr_left fun x hx => List.map_congr_left fun y hy => ?_
  rw [h x y 0 (List.mem_range.1 hx) (List.mem_range.1 hy) (by omega), h x y 1 (List.mem_range.1 hx) (List.mem_range.1 hy) (by omega)]
/-- What a call that returns bounds that are read, and an error, comes to. -/
def RetBd (w : World) (Rs : List (List (Int × Int))) (r : Int) (e : Ending) (w' : World) : Prop := ∃ (D : Option Addr) (N c : Nat), e = .returned (.tuple #[.slice D N c, .int .i64 r]) ∧ Bd w' w'.heap.size D N Rs ∧ N ≤ c ∧ Below w.heap.size w w'
theorem Bd.nil_ (w : World) (B : Nat) : Bd w B none 0 [] := ⟨[], Rd.nil_ _, rfl, fun i L h => by cases h⟩
theorem fBounds (b : Int) (A : Option Addr) (n c : Nat) (ps : List (Int × Int)) (w : World) (hx : Rp w w.heap.size A n ps) (hn : n ≤ 1048576) (hc : n ≤ c) :
    Calls Try.prog 38 #[.agg #[.int .i64 b, .slice A n c]] w (RetBd w (boundsS b ps) (checkPier b ps)) := by
  by_cases h0 : checkPier b ps = 0
  · refine (fBounds_ok b A n c ps w hx hn hc (Lib.hid (checkPier_ok.1 h0)) _ _ (Lib.hid rfl) (Lib.hid rfl)).mono ?_
    rintro e w' ⟨F, ⟨O, ks, rfl, h1, h2, _, _, h3⟩, h4⟩
    refine ⟨_, _, _, by rw [h0], ?_, Nat.le_refl _, h3⟩
    unfold boundsS
    rw [if_pos h0, ← rowsOf_congr h4]
    exact h1.bd h2
  · refine (fBounds_err b A n c ps w hx hn _ (Lib.hid rfl) h0).mono ?_
    rintro e w' ⟨rfl, h1⟩
    refine ⟨_, _, _, rfl, ?_, Nat.le_refl _, h1⟩
    unfold boundsS
    rw [if_neg h0]
    exact Bd.nil_ _ _
end Go.Proofs.Ytaekjnjignlmoaa
