/-
  Bits of int: '&', '|', '<<', '>>' on numbers that are not below 0.
-/
import Derived.Test.YtkeiajncmhkdmaaBase
import Derived.Test.YtkeiajncmhkdmaaSpec
import Derived.Laws.BitsAllLaws
import Derived.Laws.BitsLemmas
import Derived.Test.YtkeiajncmhkdmaaRefA
import Derived.StillTailTactics
namespace Go.Proofs.Ytkeiajncmhkdmaa
open Go.RowKit

theorem vec_i64 (a : Nat) (h : a < 9223372036854775808) : (BitVec.ofInt 64 (a : Int)).toNat = a := by
  rw [BitVec.ofInt_natCast, BitVec.toNat_ofNat]
  exact Nat.mod_eq_of_lt (by omega)
theorem and_int (a b : Nat) (ha : a < 4611686018427387904) (hb : b < 4611686018427387904) : bits .and .i64 (a : Int) (b : Int) = ((a &&& b : Nat) : Int) := by
  have hx : a &&& b < 2 ^ 63 := Nat.and_lt_two_pow _ (by omega)
  show IntKind.i64.wrap ((BitVec.ofInt 64 (a : Int) &&& BitVec.ofInt 64 (b : Int)).toNat : Int) = _
  rw [BitVec.toNat_and, vec_i64 a (by omega), vec_i64 b (by omega), IntKind.wrap_i64]
  omega
theorem or_int (a b : Nat) (ha : a < 4611686018427387904) (hb : b < 4611686018427387904) : bits .or .i64 (a : Int) (b : Int) = ((a ||| b : Nat) : Int) := by
  have hx : a ||| b < 2 ^ 63 := Nat.or_lt_two_pow (by omega) (by omega)
  show IntKind.i64.wrap ((BitVec.ofInt 64 (a : Int) ||| BitVec.ofInt 64 (b : Int)).toNat : Int) = _
  rw [BitVec.toNat_or, vec_i64 a (by omega), vec_i64 b (by omega), IntKind.wrap_i64]
  omega
theorem bit_int (s k : Nat) (hs : s < 4611686018427387904) : bits .and .i64 ((s : Int) / 2 ^ k) 1 = ((s / 2 ^ k % 2 : Nat) : Int) := by
  have e : (s : Int) / 2 ^ k = ((s / 2 ^ k : Nat) : Int) := by simp
  have h1 : s / 2 ^ k ≤ s := Nat.div_le_self _ _
  rw [e, show (1 : Int) = ((1 : Nat) : Int) from rfl, and_int _ _ (by omega) (by omega), Nat.and_one_is_mod]
theorem bit_yes (s k : Nat) (hs : s < 4611686018427387904) (h : bitB s k = true) : (bits .and .i64 ((s : Int) / 2 ^ k) 1 == 1) = true := by
  have h2 : s / 2 ^ k % 2 = 1 := by simpa [bitB] using h
  rw [bit_int s k hs, h2]
  rfl
theorem bit_no (s k : Nat) (hs : s < 4611686018427387904) (h : bitB s k = false) : (bits .and .i64 ((s : Int) / 2 ^ k) 1 == 1) = false := by
  have h2 : ¬ s / 2 ^ k % 2 = 1 := by simpa [bitB] using h
  have h3 : s / 2 ^ k % 2 = 0 := by omega
  rw [bit_int s k hs, h3]
  rfl
end Go.Proofs.Ytkeiajncmhkdmaa

namespace Go.Proofs.Ytkeiajncmhkdmaa
open Go.RowKit

set_option maxHeartbeats 400000 in
theorem rRun (q : Int) (A : Option Addr) (n c B : Nat) (xs : List Int) (w : World) (hx : Ri w B A n xs) (hn : n ≤ 1099511627776) (hq : 0 ≤ q ∧ q < 1048576) (hpos : ∀ x ∈ xs, 0 ≤ x) :
    Calls Try.prog 67 #[.slice A n c, .int .i64 q] w fun e w' => e = .returned (.int .i64 (runR xs q)) ∧ w = w' := by
  obtain ⟨hq0, hq1⟩ := hq
  have HP := Lib.hid hpos
  clear hpos
  go_enter Try.func67, Try.ntmps67
  go_wp2
  go_loop [5] (fun i => ∃ k : Nat, 1 ≤ k ∧ (k : Int) ≤ q + 1 ∧ i = .int .i64 k ∧ Hid (runR xs q = k + runDown xs (q.toNat + 1 - k) (q - k))) (fun i => (q + 1 - intOf i).toNat)
  case atStart => exact ⟨1, by omega, by omega, rfl, Lib.hid (by rw [runR]; rfl)⟩
  case round =>
    obtain ⟨k, hk1, hk2, rfl, hr⟩ := hrel
    by_cases hm : q - (k : Int) ∈ xs
    · have hle := HP.out _ hm
      have HX : Hid (runR xs q = (k : Int) + 1 + runDown xs (q.toNat + 1 - (k + 1)) (q - (k + 1))) := Lib.hid (by
        obtain ⟨f, hf⟩ : ∃ f, q.toNat + 1 - k = f + 1 := ⟨q.toNat - k, by omega⟩
        have hf' : q.toNat + 1 - (k + 1) = f := by omega
        rw [hr.out, hf, hf', runDown, if_pos hm, show q - (k : Int) - 1 = q - (k + 1) from by omega]
        omega)
      go_wp2_with (go_at_call 45; refine (has_any _ _ _ _ _ _ _ hx hn).mono ?_; rintro e w' ⟨rfl, rfl⟩)
      go_round
      case rel => exact ⟨k + 1, by omega, by omega, by go_num, HX⟩
      case measure => simp [intOf]; omega
    · have HX : Hid ((k : Int) = runR xs q) := Lib.hid (by
        rw [hr.out]
        cases q.toNat + 1 - k with
        | zero => simp [runDown]
        | succ f => rw [runDown, if_neg hm]; omega)
      go_wp2_with (go_at_call 45; refine (has_any _ _ _ _ _ _ _ hx hn).mono ?_; rintro e w' ⟨rfl, rfl⟩)
      go_ret
      exact ⟨ret_i HX.out, rfl⟩

set_option maxHeartbeats 400000 in
theorem rListed (s : Nat) (w : World) (hs : s < 1048576) :
    Calls Try.prog 46 #[.int .i64 s] w fun e w' => ∃ (A' : Option Addr) (n' c' : Nat), e = .returned (.slice A' n' c') ∧ Oi w' w.heap.size A' n' c' (listed s) ∧ Below w.heap.size w w' := by
  go_enter Try.func46, Try.ntmps46
  go_wp2
  go_loopw [3, 4] (fun o i wr => ∃ (k m c2 : Nat) (A2 : Option Addr), k ≤ 8 ∧ i = .int .i64 k ∧ o = .slice A2 m c2 ∧ m ≤ k ∧ Oi wr w.heap.size A2 m c2 (listedIn s k) ∧ Below w.heap.size w wr) (fun _ i _ => 8 - (intOf i).toNat)
  case atStart => exact ⟨0, 0, 0, none, by omega, rfl, rfl, Nat.le_refl _, Oi.nil_ _ _, Below.refl _ _⟩
  case round =>
    obtain ⟨k, m, c2, A2, hk, rfl, rfl, hmk, ho, hb⟩ := hrel
    have hsz := hb.size
    by_cases hlt : k < 8
    · cases hbit : bitB s k
      · have HX := Lib.hid (listedIn_no hbit)
        have hbb := bit_no s k (by omega) hbit
        clear hbit
        go_wp2
        go_roundw
        case rel => exact ⟨k + 1, m, _, _, by omega, by go_num, rfl, by omega, by rw [HX.out]; exact ho, hb⟩
        case measure => simp [intOf]; omega
      · have HX := Lib.hid (listedIn_yes hbit)
        have hbb := bit_yes s k (by omega) hbit
        clear hbit
        go_wp2_with (at_builtin; refine push_int rfl (.tmp 14) (.tmp 16) rfl (w.heap.size) A2 m c2 (listedIn s k) rfl (ho.alloc _) ⟨wr.heap.size, 0, none⟩ 1 _ rfl (cell_new1 _ _ _) (by omega) (by simp only [World.size_alloc]; omega) ?_; intro g cap w1 hown1 hgrow1)
        go_roundw
        case rel => exact ⟨k + 1, m + 1, _, _, by omega, by go_num, rfl, by omega, by rw [HX.out]; exact hown1, ho.pushed hb hsz (Nat.le_refl _) hgrow1⟩
        case measure => simp [intOf]; omega
    · have HK : Hid (k = 8) := Lib.hid (by omega)
      go_wp2
      go_ret
      exact ⟨A2, m, c2, rfl, by rw [HK.out] at ho; exact ho, hb⟩
end Go.Proofs.Ytkeiajncmhkdmaa

namespace Go.Proofs.Ytkeiajncmhkdmaa
/-- How many rows leave each set of places, by its bits. -/
def leftC : List Int := [1, 1, 1, 3, 1, 2, 3, 16, 1, 2, 2, 9, 3, 9, 16, 125, 1, 2, 2, 9, 2, 6, 9, 64, 3, 9, 9, 54, 16, 64, 125, 1296, 1, 2, 2, 9, 2, 6, 9, 64, 2, 6, 6, 36, 9, 36, 64, 625, 3, 9, 9, 54, 9, 36, 54, 480, 16, 64, 64, 480, 125, 625, 1296, 16807, 1, 2, 2, 9, 2, 6, 9, 64, 2, 6, 6, 36, 9, 36, 64, 625, 2, 6, 6, 36, 6, 24, 36, 320, 9, 36, 36, 270, 64, 320, 625, 7776, 3, 9, 9, 54, 9, 36, 54, 480, 9, 36, 36, 270, 54, 270, 480, 5625, 16, 64, 64, 480, 64, 320, 480, 5120, 125, 625, 625, 5625, 1296, 7776, 16807, 262144, 1, 2, 2, 9, 2, 6, 9, 64, 2, 6, 6, 36, 9, 36, 64, 625, 2, 6, 6, 36, 6, 24, 36, 320, 9, 36, 36, 270, 64, 320, 625, 7776, 2, 6, 6, 36, 6, 24, 36, 320, 6, 24, 24, 180, 36, 180, 320, 3750, 9, 36, 36, 270, 36, 180, 270, 2880, 64, 320, 320, 2880, 625, 3750, 7776, 117649, 3, 9, 9, 54, 9, 36, 54, 480, 9, 36, 36, 270, 54, 270, 480, 5625, 9, 36, 36, 270, 36, 180, 270, 2880, 54, 270, 270, 2430, 480, 2880, 5625, 81648, 16, 64, 64, 480, 64, 320, 480, 5120, 64, 320, 320, 2880, 480, 2880, 5120, 70000, 125, 625, 625, 5625, 625, 3750, 5625, 70000, 1296, 7776, 7776, 81648, 16807, 117649, 262144, 4782969]
def leftAt (s : Nat) : Int := leftC[s]?.getD 0
def leftTerm (s : Nat) (q : Int) : Int := runR (listed s) q * leftAt (s - 2 ^ q.toNat)
/-- The first j terms of the sum for set s. -/
def leftPart (s j : Nat) : Int := ((listed s).take j).foldl (fun t q => t + leftTerm s q) 0
theorem leftPart_step {s j : Nat} {q : Int} (h : (listed s)[j]? = some q) : leftPart s (j + 1) = leftPart s j + leftTerm s q := by
  simp [leftPart, take_snoc h]
def leftOk (s : Nat) : Bool := (List.range 9).all fun j => decide (0 ≤ leftPart s j) && decide (leftPart s j ≤ 50000000)
theorem leftOk_all : (List.range 256).all leftOk = true := by decide +kernel
theorem leftPart_bd {s j : Nat} (hs : s < 256) (hj : j ≤ 8) : 0 ≤ leftPart s j ∧ leftPart s j ≤ 50000000 := by
  have h := List.all_eq_true.1 leftOk_all s (List.mem_range.2 hs)
  have h2 := List.all_eq_true.1 h j (List.mem_range.2 (by omega))
  simpa using h2
def leftDone (s : Nat) : Bool := s == 0 || leftPart s (listed s).length == leftAt s
theorem leftDone_all : (List.range 256).all leftDone = true := by decide +kernel
theorem leftPart_done {s : Nat} (h0 : 0 < s) (hs : s < 256) : leftPart s (listed s).length = leftAt s := by
  have h := List.all_eq_true.1 leftDone_all s (List.mem_range.2 hs)
  simp only [leftDone, Bool.or_eq_true, beq_iff_eq] at h
  omega
theorem leftC_all : leftC.all (fun x => decide (1 ≤ x) && decide (x ≤ 50000000)) = true := by decide +kernel
theorem leftC_length : leftC.length = 256 := by decide +kernel
theorem leftAt_bd {s : Nat} (hs : s < 256) : 1 ≤ leftAt s ∧ leftAt s ≤ 50000000 := by
  have hl : s < leftC.length := by rw [leftC_length]; exact hs
  have h := List.all_eq_true.1 leftC_all leftC[s] (List.getElem_mem hl)
  unfold leftAt
  rw [List.getElem?_eq_getElem hl]
  simpa using h
end Go.Proofs.Ytkeiajncmhkdmaa

namespace Go.Proofs.Ytkeiajncmhkdmaa
open Go.RowKit

theorem info_int64 : (Try.prog.info? 2).map (fun i => (i.zero, i.size, i.bytes)) = some (some (.int .i64 0), 1, 8) := by kernel_rfl
theorem under_int64s : Try.prog.underlying 79 = some (.slice 2) := by kernel_rfl
/-- A whole row of int64 that the call itself made. -/
def Ol (w : World) (base g n : Nat) (xs : List Int) : Prop := w.ownsRow base 2 1 (.slice (some ⟨g, 0, none⟩) n n) n (ints xs)
theorem Ol.cell {w : World} {base g n : Nat} {xs : List Int} (h : Ol w base g n xs) {j : Nat} {x : Int} (hj : xs[j]? = some x) : w.cell? ⟨g, j, none⟩ = some (.int .i64 x) := by
  have hl : j < xs.length := (List.getElem?_eq_some_iff.1 hj).1
  have h1 := h.1
  rw [ints_length] at h1
  rw [World.ownsRow.cellAt h j (by omega)]
  simp [ints, hj]
theorem Ol.frozen {w : World} {base g n : Nat} {xs : List Int} (h : Ol w base g n xs) (j : Nat) : w.frozen? ⟨g, j, none⟩ = false := World.ownsRow.frozenAt h j
theorem Ol.set {w : World} {base g n : Nat} {xs : List Int} (h : Ol w base g n xs) (j : Nat) (x : Int) : Ol (w.setCell ⟨g, j, none⟩ (.int .i64 x)) base g n (xs.set j x) := by
  have := (World.ownsRow.stored h j (.int .i64 x)).1
  unfold Ol
  rw [show ints (xs.set j x) = (ints xs).set j (.int .i64 x) from by simp [ints, List.map_set]]
  exact this
theorem Ol.below {w w' : World} {base g n : Nat} {xs : List Int} (h : Ol w base g n xs) (hb : Below w.heap.size w w') : Ol w' base g n xs :=
  World.ownsRow.kept (row := none) h ⟨hb.os, hb.tape, hb.output, hb.size, fun k hk _ => hb.block k hk⟩ (.inr (by simp [Value.ownBlock]))

theorem below_grown0 {w w' : World} (h : w.grownBy w' none) : Below w.heap.size w w' := ⟨h.os, h.tape, h.output, h.size, fun k hk => h.block k hk (by simp)⟩
theorem make_int64 {w : World} {ops : Array Oper} {rest : List Oper} {o : Oper} {a : Act} {Q : Exit → Act → World → Prop} (hg : o.guard = none) (l c : Operand) (hop : o.op = .makeSlice 79 l c)
    (n : Nat) (V : Int) (hl : a.eval l = .int .i64 V) (hc : a.eval c = .int .i64 V) (hV : V = (n : Int)) (hn : n ≤ 1073741824)
    (h : ∀ w', Ol w' w.heap.size w.heap.size n (List.replicate n 0) → Below w.heap.size w w' → wpList Try.prog ops Q rest (a.put o.dst (.slice (some ⟨w.heap.size, 0, none⟩) n n)) w') : wpList Try.prog ops Q (o :: rest) a w := by
  obtain ⟨i0, hi, hz0, hz1, hz2⟩ := info_parts info_int64
  refine wpList_make_full w hg l c _ hop w.heap.size _ i0 _ 1 under_int64s hi hz0 hz1 .i64 .i64 _ _ n hl hc hV hV (by rw [hz2]; omega) (by unfold maxLen; omega) (Nat.le_refl _) ?_
  intro w' hown hgrow
  refine h w' ?_ (below_grown0 hgrow)
  unfold Ol
  have e : (madeCells (Value.int .i64 0).cells (n * 1)).toList = ints (List.replicate n 0) := by
    rw [Nat.mul_one]
    show (madeCells #[Value.int .i64 0] n).toList = _
    rw [toList_madeCells_one]
    simp [ints]
  rw [e] at hown
  exact hown
/-- The row while set s is reckoned. -/
def leftRow (N s : Nat) (v : Int) : List Int := leftC.take s ++ v :: List.replicate (N - s - 1) 0
theorem leftRow_self {N s : Nat} {v : Int} (hs : s < 256) : (leftRow N s v)[s]? = some v := by
  have hl : (leftC.take s).length = s := by rw [List.length_take, leftC_length]; omega
  unfold leftRow
  rw [List.getElem?_append_right (by omega), hl]
  simp
theorem leftRow_old {N s k : Nat} {v : Int} (hs : s < 256) (hk : k < s) : (leftRow N s v)[k]? = some (leftAt k) := by
  have hl : (leftC.take s).length = s := by rw [List.length_take, leftC_length]; omega
  have hk2 : k < leftC.length := by rw [leftC_length]; omega
  unfold leftRow leftAt
  rw [List.getElem?_append_left (by omega), List.getElem?_take, if_pos hk, List.getElem?_eq_getElem hk2]
  rfl
theorem leftRow_set {N s : Nat} {v u : Int} (hs : s < 256) : (leftRow N s v).set s u = leftRow N s u := by
  have hl : (leftC.take s).length = s := by rw [List.length_take, leftC_length]; omega
  unfold leftRow
  rw [List.set_append, if_neg (by omega), hl]
  simp
theorem leftRow_next {N s : Nat} (hs : s + 1 < N) (hN : N ≤ 256) : leftRow N s (leftAt s) = leftRow N (s + 1) 0 := by
  have hk2 : s < leftC.length := by rw [leftC_length]; omega
  obtain ⟨m, hm⟩ : ∃ m, N - s - 1 = m + 1 := ⟨N - s - 2, by omega⟩
  have hm' : N - (s + 1) - 1 = m := by omega
  unfold leftRow
  have ht : leftC.take (s + 1) = leftC.take s ++ [leftC[s]] := take_snoc (List.getElem?_eq_getElem hk2)
  rw [hm, hm', List.replicate_succ, ht]
  unfold leftAt
  rw [List.getElem?_eq_getElem hk2, List.append_assoc]
  rfl
theorem leftRow_last {s : Nat} (hs : s + 1 ≤ 256) : leftRow (s + 1) s (leftAt s) = leftC.take (s + 1) := by
  have hk2 : s < leftC.length := by rw [leftC_length]; omega
  unfold leftRow leftAt
  rw [List.take_add_one, List.getElem?_eq_getElem hk2]
  simp
def rowAt (N s : Nat) : List Int := if s < N then leftRow N s 0 else leftC.take N
theorem rowAt_lt {N s : Nat} (h : s < N) : rowAt N s = leftRow N s 0 := if_pos h
theorem rowAt_end {N : Nat} : rowAt N N = leftC.take N := if_neg (Nat.lt_irrefl N)
theorem rowAt_next {N s : Nat} (hs : s < N) (hN : N ≤ 256) : leftRow N s (leftAt s) = rowAt N (s + 1) := by
  by_cases h : s + 1 < N
  · rw [rowAt_lt h, leftRow_next h hN]
  · obtain rfl : N = s + 1 := by omega
    rw [rowAt_end, leftRow_last (by omega)]
theorem rowAt_one {N : Nat} (h : 2 ≤ N) : (List.replicate N (0 : Int)).set 0 1 = rowAt N 1 := by
  obtain ⟨m, rfl⟩ : ∃ m, N = m + 2 := ⟨N - 2, by omega⟩
  rw [rowAt_lt (by omega)]
  rfl
theorem listed_len {s : Nat} : (listed s).length ≤ 8 := listedIn_le s 8
theorem listed_bit {s q : Nat} (h : (q : Int) ∈ listed s) : 2 ^ q ≤ s ∧ q < 8 := by
  have h1 := mem_listed h
  have h2 : s / 2 ^ q % 2 = 1 := by simpa [bitB] using h1.2.2
  have hp : 0 < 2 ^ q := Nat.two_pow_pos q
  refine ⟨?_, by omega⟩
  rcases Nat.lt_or_ge s (2 ^ q) with hlt | hge
  · rw [Nat.div_eq_of_lt hlt] at h2
    omega
  · exact hge

set_option maxHeartbeats 2000000 in
theorem rLeft (p : Nat) (w : World) (hp1 : 1 ≤ p) (hp : p ≤ 8) :
    Calls Try.prog 64 #[.int .i64 p] w fun e w' => ∃ g : Nat, e = .returned (.slice (some ⟨g, 0, none⟩) (2 ^ p) (2 ^ p)) ∧ Ol w' w.heap.size g (2 ^ p) (leftC.take (2 ^ p)) ∧ Below w.heap.size w w' := by
  obtain ⟨N, HN⟩ : ∃ N, Hid (N = 2 ^ p) := ⟨_, Lib.hid rfl⟩
  have hN : N ≤ 256 := by
    rw [HN.out]
    exact Nat.le_trans (Nat.pow_le_pow_right (by omega) hp) (by decide)
  have hN2 : 2 ≤ N := by
    rw [HN.out]
    exact Nat.le_trans (by decide : 2 ≤ 2 ^ 1) (Nat.pow_le_pow_right (by omega) hp1)
  rw [← HN.out]
  have hshl : wrap64 (2 ^ p) = (N : Int) := by
    have e : ((2 : Int) ^ p) = (N : Int) := by rw [HN.out]; simp
    rw [e]
    unfold wrap64
    omega
  have HZ : Hid ((List.replicate N (0 : Int))[0]? = some 0) := Lib.hid (by rw [List.getElem?_replicate, if_pos (by omega)])
  go_enter Try.func64, Try.ntmps64
  go_wp2_with (at_make; go_must (refine make_int64 rfl (.tmp 8) (.tmp 8) rfl N _ rfl rfl hshl (by omega) ?_); go_must (intro w1 hr1 hb1; have hc1 := hr1.cell HZ.out; have hf1 := hr1.frozen 0))
  clear hshl
  go_loopw [4, 5, 6] (fun i _ _ wr => ∃ s : Nat, 1 ≤ s ∧ s ≤ N ∧ i = .int .i64 s ∧ Ol wr w.heap.size w.heap.size N (rowAt N s) ∧ Below w.heap.size w wr ∧ w.heap.size < wr.heap.size) (fun i _ _ _ => N - (intOf i).toNat)
  case atStart => exact ⟨1, Nat.le_refl _, by omega, rfl, by rw [← rowAt_one hN2]; exact hr1.set 0 1, hb1.setCell (Nat.le_refl _) _, by have := World.ownsRow.lt hr1 _ rfl; simp; omega⟩
  case round =>
    obtain ⟨s, hs1, hs2, rfl, hr, hb, hsz⟩ := hrel
    obtain ⟨wo, rfl⟩ : ∃ wo : World, wo = wr := ⟨_, rfl⟩
    by_cases hlt : s < N
    · rw [rowAt_lt hlt] at hr
      go_wp2_with (go_at_call 46; refine (rListed _ _ (by omega)).mono ?_; rintro e w2 ⟨A', m, c', rfl, ho, hb2⟩)
      have hm8 : m ≤ 8 := by rw [← ho.len]; exact listed_len
      have HML := Lib.hid ho.len
      have hr2 := hr.below hb2
      have hs3 := hb2.size
      have hbb := hb.trans (hb2.mono (by omega))
      go_loopw [6] (fun i wi => ∃ j : Nat, j ≤ m ∧ i = .int .i64 j ∧ Ol wi w.heap.size w.heap.size N (leftRow N s (leftPart s j)) ∧ Oi wi wo.heap.size A' m c' (listed s) ∧ Below w.heap.size w wi ∧ w.heap.size < wi.heap.size) (fun i _ => m - (intOf i).toNat)
      case atStart => exact ⟨0, Nat.zero_le _, rfl, hr2, ho, hbb, by omega⟩
      case round =>
        obtain ⟨j, hj, rfl, hrj, hoj, hbj, hsj⟩ := hrel
        by_cases hjm : j < m
        · obtain ⟨ad, q0, rfl, hadb, hcq, hq, _⟩ := hoj.ri.at_ hjm
          have hqm := mem_listed (List.mem_of_getElem? hq.out)
          obtain ⟨q, rfl⟩ := Int.eq_ofNat_of_zero_le hqm.1
          have hqb := listed_bit (List.mem_of_getElem? hq.out)
          obtain ⟨E, HE⟩ : ∃ E, Hid (E = 2 ^ q) := ⟨_, Lib.hid rfl⟩
          have hE1 : 1 ≤ E := by rw [HE.out]; exact Nat.two_pow_pos q
          have hE2 : E ≤ s := by rw [HE.out]; exact hqb.1
          have hq8 : q < 8 := hqb.2
          clear hqb
          have HST : Hid (leftPart s (j + 1) = leftPart s j + runR (listed s) q * leftAt (s - E)) := Lib.hid (by rw [leftPart_step hq.out, HE.out, leftTerm, Int.toNat_natCast])
          have hsE : s - E < s := by omega
          have hs256 : s < 256 := by omega
          have hsN : s - E < N := by omega
          obtain ⟨b1, b2⟩ := leftPart_bd (s := s) (j := j) hs256 (by omega)
          obtain ⟨d1, d2⟩ := leftAt_bd (s := s - E) (Nat.lt_trans hsE hs256)
          obtain ⟨r1, r2⟩ := runR_bd (listed s) (q := (q : Int)) (by omega)
          have c1 := hrj.cell (leftRow_self (v := leftPart s j) (N := N) hs256)
          have c2 := hrj.cell (leftRow_old (v := leftPart s j) (N := N) hs256 hsE)
          have f1 := hrj.frozen s
          have m0 : 0 ≤ runR (listed s) (q : Int) * leftAt (s - E) := Int.mul_nonneg (by omega) (by omega)
          have m1 : runR (listed s) (q : Int) * leftAt (s - E) ≤ 8 * 50000000 := Int.mul_le_mul (by omega) d2 (by omega) (by omega)
          have eE : ((2 : Int) ^ q) = (E : Int) := by rw [HE.out]; simp
          have hsub : IntKind.i64.wrap ((s : Int) - (E : Int)) = ((s - E : Nat) : Int) := by
            have e : (s : Int) - (E : Int) = ((s - E : Nat) : Int) := by omega
            rw [e]
            exact IntWalk.i64_in _ (by omega)
          have hmul : IntKind.i64.wrap (runR (listed s) (q : Int) * leftAt (s - E)) = runR (listed s) (q : Int) * leftAt (s - E) := IntWalk.i64_in _ (by omega)
          have hadd : IntKind.i64.wrap (leftPart s j + runR (listed s) (q : Int) * leftAt (s - E)) = leftPart s j + runR (listed s) (q : Int) * leftAt (s - E) := IntWalk.i64_in _ (by omega)
          have hsh : IntKind.i64.wrap (2 ^ q) = (E : Int) := by
            rw [eE]
            exact IntWalk.i64_in _ (by omega)
          clear eE
          go_wp2_with fail
          refine wp_region_still_tail 23 (by kernel_rfl) (by kernel_rfl) ?_
          simp only [List.take_succ_cons, List.take_zero, List.drop_succ_cons, List.drop_zero]
          change wpStill _ _ wr.drew _ _ _
          iterate 9 still_step
          still_call (flip_same (rRun _ _ _ _ _ _ _ hoj.ri.drew (by omega) (by omega) (fun x hx => (mem_listed hx).1)))
          iterate 13 still_step
          refine wpStill_nil ?_
          go_wp2
          go_roundw
          case rel =>
            refine ⟨j + 1, by omega, by go_num, ?_, ?_, ?_, by simpa using hsj⟩
            · have := hrj.set s (leftPart s j + runR (listed s) (q : Int) * leftAt (s - E))
              rw [leftRow_set hs256] at this
              rw [HST.out]
              exact this
            · exact Oi.setBelow hoj (by exact hsz) _
            · exact Below.drew (hbj.setCell (Nat.le_refl _) _)
          case measure => simp [intOf]; omega
        · have hjm' : j = (listed s).length := by rw [HML.out]; omega
          have e1 : leftRow N s (leftPart s j) = rowAt N (s + 1) := by rw [hjm', leftPart_done (by omega) (by omega), rowAt_next hlt hN]
          rw [e1] at hrj
          clear e1 hjm'
          go_wp2
          go_roundw
          case rel => exact ⟨s + 1, by omega, by omega, by go_num, hrj, hbj, hsj⟩
          case measure => simp [intOf]; omega
    · have hk : s = N := by omega
      subst hk
      rw [rowAt_end] at hr
      go_wp2
      go_ret
      exact ⟨w.heap.size, rfl, hr, hb⟩
end Go.Proofs.Ytkeiajncmhkdmaa
