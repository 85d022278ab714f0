/-
  The program: 'ends', 'stop', 'place'.
-/
import Derived.Test.YtaekjnjignlmoaaEn
namespace Go.Proofs.Ytaekjnjignlmoaa
open Go.RowKit Go.Shelf

set_option maxHeartbeats 400000 in
theorem dEnds (a : Addr) (w : World) : Calls Try.prog 80 #[.pointer (some a)] w fun e w' => e = .returned (.func (.func 113) #[] #[.pointer (some ⟨w.heap.size, 0, none⟩)]) ∧ w.alloc (.cells #[.pointer (some a)] 79) = w' := by
  go_enter Try.func80, Try.ntmps80
  go_wp2
  go_ret
  exact ⟨rfl, rfl⟩

/-- An end as a value. -/
def endV (x y e : Nat) : Value := .agg #[.int .i64 (x : Int), .int .i64 (y : Int), .int .i64 (e : Int)]
theorem isE0 (x y : Nat) : isE x y 0 = decide (0 < x) := rfl
theorem isE1 (x y : Nat) : isE x y 1 = decide (0 < y) := rfl

set_option maxRecDepth 100000 in
set_option maxHeartbeats 1000000 in
theorem dStop0 (g n c : Nat) (A : Option Addr) (b : Int) (ps : List (Int × Int)) (w : World) (hw : Wk w w.heap.size g A n c b ps) (HP : Hid (Pier b ps)) (x y : Nat) (hx : x ≤ lefts b ps) (_hy : y ≤ n - lefts b ps) :
    Calls Try.prog 114 #[.pointer (some ⟨g, 0, none⟩), .agg #[.int .i64 (x : Int), .int .i64 (y : Int), .int .i64 0]] w fun r w' => (∃ i : Int, r = .returned (.tuple #[.int .i64 i, .bool (isE x y 0)]) ∧ (isE x y 0 = true → i = (stopE b ps x y 0 : Nat)) ∧ -1 ≤ i ∧ i ≤ 20) ∧ Below w.heap.size w w' := by
  have HLN := Lib.hid hw.rp.len
  have hn10 : n ≤ 10 := by have := HP.out.hi; have := HLN.out; omega
  have hq := lefts_le b ps
  rw [HLN.out] at hq
  obtain ⟨q, HQ⟩ : ∃ q, Hid (lefts b ps = q) := ⟨_, Lib.hid rfl⟩
  rw [HQ.out] at hq hx
  have hb1 := (Below.refl _ w).alloc (Nat.le_refl _) (.cells #[.int .i64 (x : Int), .int .i64 (y : Int), .int .i64 0] 107)
  have hbk := Bk.new w 107 #[.int .i64 (x : Int), .int .i64 (y : Int), .int .i64 0]
  have hc0 := hbk.cell 0
  have hc1 := hbk.cell 1
  have hc2 := hbk.cell 2
  have k2 := (hw.below hb1).c2
  rw [HQ.out] at k2
  have w1 : IntKind.i64.wrap ((q : Int) - (x : Int)) = (q : Int) - (x : Int) := IntWalk.i64_in _ (by omega)
  have HS : Hid (0 < x → (q : Int) - (x : Int) = (stopE b ps x y 0 : Nat)) := Lib.hid (fun h => by unfold stopE; rw [if_pos rfl, HQ.out]; omega)
  clear hbk
  go_enter Try.func114, Try.ntmps114
  go_wp2
  go_quiet (fail)
  go_wp2
  go_ret2
  refine ⟨⟨_, rfl, fun h => HS.out (by simpa [isE] using h), by omega, by omega⟩, below_drewN hb1 _⟩
set_option maxRecDepth 100000 in
set_option maxHeartbeats 1000000 in
theorem dStop1 (g n c : Nat) (A : Option Addr) (b : Int) (ps : List (Int × Int)) (w : World) (hw : Wk w w.heap.size g A n c b ps) (HP : Hid (Pier b ps)) (x y : Nat) (hx : x ≤ lefts b ps) (hy : y ≤ n - lefts b ps) :
    Calls Try.prog 114 #[.pointer (some ⟨g, 0, none⟩), .agg #[.int .i64 (x : Int), .int .i64 (y : Int), .int .i64 1]] w fun r w' => (∃ i : Int, r = .returned (.tuple #[.int .i64 i, .bool (isE x y 1)]) ∧ (isE x y 1 = true → i = (stopE b ps x y 1 : Nat)) ∧ -1 ≤ i ∧ i ≤ 20) ∧ Below w.heap.size w w' := by
  have HLN := Lib.hid hw.rp.len
  have hn10 : n ≤ 10 := by have := HP.out.hi; have := HLN.out; omega
  have hq := lefts_le b ps
  rw [HLN.out] at hq
  obtain ⟨q, HQ⟩ : ∃ q, Hid (lefts b ps = q) := ⟨_, Lib.hid rfl⟩
  rw [HQ.out] at hq hx hy
  have hb1 := (Below.refl _ w).alloc (Nat.le_refl _) (.cells #[.int .i64 (x : Int), .int .i64 (y : Int), .int .i64 1] 107)
  have hbk := Bk.new w 107 #[.int .i64 (x : Int), .int .i64 (y : Int), .int .i64 1]
  have hc0 := hbk.cell 0
  have hc1 := hbk.cell 1
  have hc2 := hbk.cell 2
  have k2 := (hw.below hb1).c2
  rw [HQ.out] at k2
  have w1 : IntKind.i64.wrap ((q : Int) + (y : Int)) = (q : Int) + (y : Int) := IntWalk.i64_in _ (by omega)
  have w2 : IntKind.i64.wrap ((q : Int) + (y : Int) - 1) = (q : Int) + (y : Int) - 1 := IntWalk.i64_in _ (by omega)
  have HS : Hid (0 < y → (q : Int) + (y : Int) - 1 = (stopE b ps x y 1 : Nat)) := Lib.hid (fun h => by unfold stopE; rw [if_neg (by omega), HQ.out]; omega)
  clear hbk
  go_enter Try.func114, Try.ntmps114
  go_wp2
  go_quiet (fail)
  go_wp2
  go_ret2
  refine ⟨⟨_, rfl, fun h => HS.out (by simpa [isE] using h), by omega, by omega⟩, below_drewN hb1 _⟩
theorem dStop (g n c : Nat) (A : Option Addr) (b : Int) (ps : List (Int × Int)) (w : World) (hw : Wk w w.heap.size g A n c b ps) (HP : Hid (Pier b ps)) (x y e : Nat) (hx : x ≤ lefts b ps) (hy : y ≤ n - lefts b ps) (he : e < 2) :
    Calls Try.prog 114 #[.pointer (some ⟨g, 0, none⟩), .agg #[.int .i64 (x : Int), .int .i64 (y : Int), .int .i64 (e : Int)]] w fun r w' => (∃ i : Int, r = .returned (.tuple #[.int .i64 i, .bool (isE x y e)]) ∧ (isE x y e = true → i = (stopE b ps x y e : Nat)) ∧ -1 ≤ i ∧ i ≤ 20) ∧ Below w.heap.size w w' := by
  match e, he with
  | 0, _ => exact dStop0 g n c A b ps w hw HP x y hx hy
  | 1, _ => exact dStop1 g n c A b ps w hw HP x y hx hy
theorem stopE_lt {b : Int} {ps : List (Int × Int)} {x y e : Nat} (hx : x ≤ lefts b ps) (hy : y ≤ ps.length - lefts b ps) (he : e < 2) (h : isE x y e = true) : stopE b ps x y e < ps.length := by
  have hq := lefts_le b ps
  match e, he with
  | 0, _ =>
    have h1 : 0 < x := by simpa [isE] using h
    unfold stopE
    rw [if_pos rfl]
    omega
  | 1, _ =>
    have h1 : 0 < y := by simpa [isE] using h
    unfold stopE
    rw [if_neg (by omega)]
    omega
set_option maxRecDepth 100000 in
set_option maxHeartbeats 1000000 in
theorem dPlace (g n c : Nat) (A : Option Addr) (b : Int) (ps : List (Int × Int)) (w : World) (hw : Wk w w.heap.size g A n c b ps) (HP : Hid (Pier b ps)) (x y e : Nat) (hx : x ≤ lefts b ps) (hy : y ≤ n - lefts b ps) (he : e < 2) :
    Calls Try.prog 115 #[.pointer (some ⟨g, 0, none⟩), .agg #[.int .i64 (x : Int), .int .i64 (y : Int), .int .i64 (e : Int)]] w fun r w' => r = .returned (.tuple #[.int .i64 ((placeE b ps x y e).getD 0), .bool (placeE b ps x y e).isSome]) ∧ Below w.heap.size w w' := by
  have HLN := Lib.hid hw.rp.len
  have hn10 : n ≤ 10 := by have := HP.out.hi; have := HLN.out; omega
  have hq := lefts_le b ps
  rw [HLN.out] at hq
  have hxy : x ≤ 20 ∧ y ≤ 20 := by omega
  obtain ⟨hx20, hy20⟩ := hxy
  have HX := Lib.hid hx
  have HY := Lib.hid hy
  have HE := Lib.hid he
  clear hx hy he
  have hb1 := (Below.refl _ w).alloc (Nat.le_refl _) (.cells #[.int .i64 (x : Int), .int .i64 (y : Int), .int .i64 (e : Int)] 107)
  have hbk := Bk.new w 107 #[.int .i64 (x : Int), .int .i64 (y : Int), .int .i64 (e : Int)]
  have hc0 := hbk.cell 0
  have hc1 := hbk.cell 1
  have hc2 := hbk.cell 2
  have hw1 := hw.below hb1
  have k0 := hw1.c0
  have hwz : IntKind.i64.wrap ((x : Int) + (y : Int)) = (x : Int) + (y : Int) := IntWalk.i64_in _ (by omega)
  obtain ⟨z, hz⟩ : ∃ z : Int, (x : Int) + (y : Int) = z := ⟨_, rfl⟩
  have HZ := Lib.hid hz
  rw [hz] at hwz
  have hwz' : IntKind.i64.wrap ((x : Int) + (y : Int)) = z := by rw [hz]; exact hwz
  clear hz hwz
  by_cases h0 : z = 0
  · have HPL : Hid (placeE b ps x y e = some b) := Lib.hid (by unfold placeE; rw [if_pos (by have := HZ.out; omega)])
    subst h0
    rw [HPL.out]
    go_enter Try.func115, Try.ntmps115
    go_wp2
    go_ret2
    exact ⟨rfl, hb1⟩
  · have HPL : Hid (placeE b ps x y e = if isE x y e then some (plc ps (stopE b ps x y e)) else none) := Lib.hid (by unfold placeE; rw [if_neg (by have := HZ.out; omega)])
    go_enter Try.func115, Try.ntmps115
    go_wp2_with fail
    refine (dStop g n c A b ps _ (hw1.more hb1.size) HP x y e HX.out HY.out HE.out).mono ?_
    rintro r w2 ⟨⟨i, rfl, hi, hi0, hi1⟩, hb2⟩
    have hb3 := hb1.trans (hb2.mono hb1.size)
    cases hh : isE x y e with
    | false =>
      have HPL2 : Hid (placeE b ps x y e = none) := Lib.hid (by rw [HPL.out, hh]; rfl)
      go_wp2
      go_ret2
      exact ⟨by rw [HPL2.out]; rfl, hb3⟩
    | true =>
      have hlt := stopE_lt (b := b) (ps := ps) HX.out (by rw [HLN.out]; exact HY.out) HE.out hh
      obtain rfl := hi hh
      have HPL2 : Hid (placeE b ps x y e = some (plc ps (stopE b ps x y e))) := Lib.hid (by rw [HPL.out, hh]; rfl)
      obtain ⟨k, HK⟩ : ∃ k, Hid (stopE b ps x y e = k) := ⟨_, Lib.hid rfl⟩
      rw [HK.out] at hlt ⊢
      rw [HLN.out] at hlt
      have hw3 := hw1.below (hb2.mono hb1.size)
      have k1 := hw3.c1
      obtain ⟨ad, rfl, hadb, c1, c2⟩ := hw3.rp.at2 hlt
      obtain ⟨v, HV⟩ : ∃ v, Hid (plc ps k = v) := ⟨_, Lib.hid rfl⟩
      rw [HV.out] at c1
      have HPL3 : Hid (placeE b ps x y e = some v) := Lib.hid (by rw [HPL2.out, HK.out, HV.out])
      clear hh hi
      go_wp2
      go_ret2
      exact ⟨by rw [HPL3.out]; rfl, hb3⟩
end Go.Proofs.Ytaekjnjignlmoaa
