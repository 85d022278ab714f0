/-
  pennyfalllaw01: 'Ints', 'Lists'.
  slices.Grow at nil, slices.Concat of lists of ints.
  wheel: 'without'.
-/
import Derived.Test.YtibmpjhffeinoaaGreatNb
import Derived.Lib.AppendZeros
import Derived.Lib.AppendZerosOnto
namespace Go.Proofs.YtibmpjhffeinoaaGreat
open Go.RowKit Go.Shelf

set_option maxRecDepth 100000 in
set_option maxHeartbeats 400000 in
theorem lInts (A A' : Option Addr) (n n' c c' B B' : Nat) (xs ys : List Int) (w : World) (hx : Ri w B A n xs) (hy : Ri w B' A' n' ys) (hn : n ≤ 100) :
    Calls Tryz.prog 56 #[.slice A n c, .slice A' n' c'] w fun e w' => e = .returned (.bool (decide (xs = ys))) ∧ ∃ m, w' = w.drewN m := by
  have HL := Lib.hid hx.len
  have HL' := Lib.hid hy.len
  obtain ⟨r, HR⟩ : ∃ r, Hid (decide (xs = ys) = r) := ⟨_, Lib.hid rfl⟩
  rw [HR.out]
  go_enter Tryz.func56, Tryz.ntmps56
  by_cases hnn : n = n'
  · subst hnn
    go_wp2
    go_loopw [5] (fun i wr => ∃ k : Nat, k ≤ n ∧ i = .int .i64 k ∧ Hid (xs.take k = ys.take k) ∧ ∃ m, wr = w.drewN m) (fun i _ => n - (intOf i).toNat)
    case atStart => exact ⟨0, Nat.zero_le _, rfl, Lib.hid rfl, 0, rfl⟩
    case round =>
      obtain ⟨k, hk, rfl, HK, m, rfl⟩ := hrel
      by_cases hlt : k < n
      · obtain ⟨ad, x, rfl, _, hc, hxk, _⟩ := hx.at_ hlt
        obtain ⟨ad', y, rfl, _, hc', hyk, _⟩ := hy.at_ hlt
        by_cases e : x = y
        · subst e
          have HX : Hid (xs.take (k + 1) = ys.take (k + 1)) := Lib.hid (by rw [take_snoc hxk.out, take_snoc hyk.out, HK.out])
          go_wp2
          go_quiet (fail)
          go_wp2
          exact ⟨⟨k + 1, by omega, by go_num, HX, _, rfl⟩, by simp [intOf]; omega⟩
        · have HX : Hid (r = false) := Lib.hid (by
            rw [← HR.out]
            refine decide_eq_false fun h => e ?_
            have h1 := hxk.out
            rw [h, hyk.out] at h1
            exact (Option.some.inj h1).symm)
          have he : (x == y) = false := by simpa using e
          go_wp2
          go_quiet (fail)
          go_wp2
          go_ret
          exact ⟨ret_b HX.out.symm, _, World.drewN_drewN _ _ _⟩
      · have HX : Hid (r = true) := Lib.hid (by
          rw [← HR.out]
          have h := HK.out
          rw [List.take_of_length_le (by rw [HL.out]; omega), List.take_of_length_le (by rw [HL'.out]; omega)] at h
          exact decide_eq_true h)
        go_wp2
        go_ret
        exact ⟨ret_b HX.out.symm, _, rfl⟩
  · have HX : Hid (r = false) := Lib.hid (by
      rw [← HR.out]
      exact decide_eq_false fun h => hnn (by rw [← HL.out, ← HL'.out, h]))
    have he : ((n : Int) == (n' : Int)) = false := by simp; omega
    go_wp2
    go_ret
    exact ⟨ret_b HX.out.symm, 0, rfl⟩
set_option maxRecDepth 100000 in
set_option maxHeartbeats 800000 in
theorem lLists (A A' : Option Addr) (n c c' B B' : Nat) (Ls : List (List Int)) (w : World) (hx : Mv w B A n Ls) (hy : Mv w B' A' n Ls) (hn : n ≤ 100) (hl : ∀ L ∈ Ls, L.length ≤ 100) :
    Calls Tryz.prog 13 #[.slice A n c, .slice A' n c'] w fun e w' => e = .returned (.bool true) ∧ ∃ m, w' = w.drewN m := by
  have HL := Lib.hid hx.1
  have HB := Lib.hid hl
  clear hl
  go_enter Tryz.func13, Tryz.ntmps13
  go_wp2
  go_loopw [5] (fun i wr => ∃ k : Nat, k ≤ n ∧ i = .int .i64 k ∧ ∃ m, wr = w.drewN m) (fun i _ => n - (intOf i).toNat)
  case atStart => exact ⟨0, Nat.zero_le _, rfl, 0, rfl⟩
  case round =>
    obtain ⟨k, hk, rfl, m, rfl⟩ := hrel
    by_cases hlt : k < n
    · have hL : Ls[k]? = some (Ls[k]'(by rw [HL.out]; exact hlt)) := List.getElem?_eq_getElem (by rw [HL.out]; exact hlt)
      have hlen := HB.out _ (List.mem_of_getElem? hL)
      obtain ⟨ad, A1, c1, rfl, _, h2, _, hr⟩ := hx.2 k _ hL
      obtain ⟨ad', A1', c1', rfl, _, h2', _, hr'⟩ := hy.2 k _ hL
      generalize Ls[k]'(by rw [HL.out]; exact hlt) = L at *
      clear hL
      obtain ⟨q, hq⟩ : ∃ q, L.length = q := ⟨_, rfl⟩
      rw [hq] at h2 hr h2' hr' hlen
      have HI : Hid (∀ j, Calls Tryz.prog 56 #[.slice A1 q c1, .slice A1' q c1'] (w.drewN (m + j)) fun e w' => e = .returned (.bool true) ∧ ∃ m', w' = w.drewN (m + m')) := Lib.hid fun j => by
        have := lInts A1 A1' q q c1 c1' B B' L L (w.drewN (m + j)) hr hr' hlen
        rw [decide_eq_true rfl] at this
        exact this.mono fun e w2 ⟨h1, n, h2⟩ => ⟨h1, j + n, by rw [h2, World.drewN_drewN, Nat.add_assoc]⟩
      clear hq hr hr'
      go_wp2
      go_quiet ((go_at_call 56; exact HI.out _))
      go_wp2
      exact ⟨⟨k + 1, by omega, by go_num, _, rfl⟩, by simp [intOf]; omega⟩
    · obtain rfl : n = k := by omega
      go_wp2
      go_ret
      exact ⟨rfl, _, rfl⟩
end Go.Proofs.YtibmpjhffeinoaaGreat

namespace Go.Proofs.YtibmpjhffeinoaaGreat
open Go.RowKit Go.Shelf

set_option maxRecDepth 100000 in
set_option maxHeartbeats 800000 in
/-- slices.Grow(nil, n). -/
theorem fGrow (n : Nat) (w : World) (h0 : 0 < n) (hn : n ≤ 1000) : Calls Tryz.prog 277 #[.slice none 0 0, .int .i64 (n : Int)] w fun e w' => ∃ c, e = .returned (.slice (some ⟨w.heap.size, 0, none⟩) 0 c) ∧ Oj w' w.heap.size (some ⟨w.heap.size, 0, none⟩) 0 c [] ∧ Below w.heap.size w w' := by
  obtain ⟨i0, hi0, hz0, hs0, hb0⟩ := info_parts info_num
  have hrz : ∀ ty, (Builtin.append_ #[35, 3] ty #[.slice none 0 0, .int .i64 (n : Int)]).run Tryz.prog w = .ok (.slice (some ⟨w.heap.size, 0, none⟩) n (grownCap w n 0 3)) (w.drew.alloc (.cells ((#[] : Array Value) ++ Builtin.zeroCells (Value.int .i64 0).cells n ++ Builtin.zeroCells (Value.int .i64 0).cells (grownCap w n 0 3 - n)) 3)) := fun ty => by
    have h := Lib.run_append_grow_zeros (P := Tryz.prog) w 35 3 ty 3 i0 (.int .i64 0) .i64 .i64 under_nums (by kernel_rfl) hi0 hz0 none 0 0 [] (by exact run_firstCells_none w.drew i0.size 0 0 0) n h0 (by omega) (by omega) (by omega) (by rw [hb0]; omega) (by rw [Nat.zero_add, hb0]; exact growslice_fits h0 (by omega))
    rw [Nat.zero_add] at h
    exact h
  have hG := grownCap_ge w n 0 3
  have hG2 := grownCap_le_maxLen w n 0 3 (by unfold maxLen; omega)
  obtain ⟨G, hGe⟩ : ∃ G, G = grownCap w n 0 3 := ⟨_, rfl⟩
  rw [← hGe] at hrz hG hG2
  clear hGe
  have hown : Oj (w.drew.alloc (.cells ((#[] : Array Value) ++ Builtin.zeroCells (Value.int .i64 0).cells n ++ Builtin.zeroCells (Value.int .i64 0).cells (G - n)) 3)) w.heap.size (some ⟨w.heap.size, 0, none⟩) 0 G [] := World.ownsRow_made w.drew _ G (Nat.le_refl _) hG2 (by simp [Builtin.zeroCells, Value.cells]; omega)
  have hbl : Below w.heap.size w (w.drew.alloc (.cells ((#[] : Array Value) ++ Builtin.zeroCells (Value.int .i64 0).cells n ++ Builtin.zeroCells (Value.int .i64 0).cells (G - n)) 3)) := (below_drewN (Below.refl _ w) 1).alloc (Nat.le_refl _) _
  generalize (w.drew.alloc (.cells ((#[] : Array Value) ++ Builtin.zeroCells (Value.int .i64 0).cells n ++ Builtin.zeroCells (Value.int .i64 0).cells (G - n)) 3)) = W at *
  have h1 : ¬ ((n : Int) < 0) := by omega
  have h4 : 0 < n := h0
  go_enter Tryz.func277, Tryz.ntmps277
  go_wp2_with (at_builtin; refine Lib.wpList_append_run _ rfl _ _ _ _ rfl _ _ rfl rfl _ _ (hrz _) ?_)
  all_goals (go_ret; exact ⟨G, rfl, hown, hbl⟩)
theorem flat_take : ∀ {Ls : List (List Int)} {k : Nat} {L : List Int}, Ls[k]? = some L → (Ls.take (k + 1)).flatten = (Ls.take k).flatten ++ L := fun {Ls k L} h => by
  rw [List.take_add_one, h]
  simp
theorem flat_len_le : ∀ {Ls : List (List Int)} {b : Nat}, (∀ L ∈ Ls, L.length ≤ b) → Ls.flatten.length ≤ b * Ls.length
  | [], _, _ => by simp
  | L :: Ls, b, h => by
    have h1 := h L (by simp)
    have h2 := flat_len_le (Ls := Ls) fun M hM => h M (by simp [hM])
    simp only [List.flatten_cons, List.length_append, List.length_cons, Nat.mul_add] at h2 ⊢
    omega
set_option maxRecDepth 100000 in
set_option maxHeartbeats 1600000 in
theorem fConcat (A : Option Addr) (n c : Nat) (Ls : List (List Int)) (w : World) (hmv : Mv w w.heap.size A n Ls) (hn : n ≤ 4) (hl : ∀ L ∈ Ls, L.length ≤ 4) (h0 : 0 < Ls.flatten.length) :
    Calls Tryz.prog 150 #[.slice A n c] w fun e w' => ∃ A' m c', e = .returned (.slice A' m c') ∧ Oj w' w.heap.size A' m c' Ls.flatten ∧ Below w.heap.size w w' := by
  have HL := Lib.hid hmv.1
  have HB := Lib.hid hl
  have HT := Lib.hid h0
  clear hl h0
  go_enter Tryz.func150, Tryz.ntmps150
  go_wp2
  go_loopw [3, 5, 11] (fun t3 _ t11 wr => ∃ k : Nat, k ≤ n ∧ t11 = .int .i64 (k : Int) ∧ t3 = .int .i64 (((Ls.take k).flatten.length : Nat) : Int) ∧ wr = w) (fun _ _ t11 _ => n - (intOf t11).toNat)
  case atStart => exact ⟨0, Nat.zero_le _, rfl, rfl, rfl⟩
  case round =>
    obtain ⟨k, hk, rfl, rfl, hWr⟩ := hrel
    obtain rfl : w = wr := hWr.symm
    by_cases hlt : k < n
    · have hL : Ls[k]? = some (Ls[k]'(by rw [HL.out]; exact hlt)) := List.getElem?_eq_getElem (by rw [HL.out]; exact hlt)
      have hlen := HB.out _ (List.mem_of_getElem? hL)
      obtain ⟨ad, A1, c1, rfl, _, h2, _, hr⟩ := hmv.2 k _ hL
      generalize Ls[k]'(by rw [HL.out]; exact hlt) = L at *
      have HF : Hid (((Ls.take (k + 1)).flatten.length) = (Ls.take k).flatten.length + L.length) := Lib.hid (by rw [flat_take hL, List.length_append])
      have hfl := flat_len_le (Ls := Ls.take k) (b := 4) fun M hM => HB.out M (List.mem_of_mem_take hM)
      rw [List.length_take, HL.out] at hfl
      clear hL
      generalize hs : (Ls.take k).flatten.length = s0 at *
      clear hs
      generalize L.length = q at *
      have hs0 : s0 ≤ 16 := by omega
      clear hfl
      go_wp2
      exact ⟨⟨k + 1, by omega, by go_num, by rw [HF.out]; go_num, trivial⟩, by simp [intOf]; omega⟩
    · obtain rfl : n = k := by omega
      have HS : Hid ((Ls.take n).flatten.length = Ls.flatten.length) := Lib.hid (by rw [List.take_of_length_le (by rw [HL.out]; omega)])
      rw [HS.out]
      have hfl := flat_len_le (Ls := Ls) (b := 4) HB.out
      rw [HL.out] at hfl
      have h0 := HT.out
      obtain ⟨q, hq⟩ : ∃ q, Hid (Ls.flatten.length = q) := ⟨_, Lib.hid rfl⟩
      rw [hq.out] at hfl h0 ⊢
      have hq1 : q ≤ 16 := by omega
      go_wp2_with fail
      refine (fGrow q w h0 (by omega)).mono ?_
      rintro e w1 ⟨cg, rfl, hO, hb⟩
      have hmv1 := hmv.below hb
      clear h0
      go_wp2
      go_loopw [6, 8, 27] (fun t6 _ t27 wr => ∃ (A6 : Option Addr) (m c6 k : Nat), k ≤ n ∧ m ≤ 16 ∧ t27 = .int .i64 (k : Int) ∧ t6 = .slice A6 m c6 ∧ Oj wr w.heap.size A6 m c6 (Ls.take k).flatten ∧ Below w.heap.size w wr) (fun _ _ t27 _ => n - (intOf t27).toNat)
      case atStart => exact ⟨_, 0, cg, 0, Nat.zero_le _, Nat.zero_le _, rfl, rfl, hO, hb⟩
      case round =>
        clear hO hb hmv1
        obtain ⟨A6, m, c6, k, hk, hm, rfl, rfl, hO, hb⟩ := hrel
        have hmv2 := hmv.below hb
        have hbs := hb.size
        by_cases hlt : k < n
        · have hL : Ls[k]? = some (Ls[k]'(by rw [HL.out]; exact hlt)) := List.getElem?_eq_getElem (by rw [HL.out]; exact hlt)
          have hlen := HB.out _ (List.mem_of_getElem? hL)
          obtain ⟨ad, A1, c1, rfl, _, h2, _, hr⟩ := hmv2.2 k _ hL
          generalize Ls[k]'(by rw [HL.out]; exact hlt) = L at *
          have HF : Hid ((Ls.take (k + 1)).flatten = (Ls.take k).flatten ++ L) := Lib.hid (flat_take hL)
          have hml := hO.len
          have hfl2 := flat_len_le (Ls := Ls.take (k + 1)) (b := 4) fun M hM => HB.out M (List.mem_of_mem_take hM)
          rw [List.length_take, HL.out, HF.out, List.length_append, hml] at hfl2
          have hq2 : m + L.length ≤ 16 := by omega
          clear hfl2 hL hml
          go_wp2_with (at_builtin; refine push_nums rfl (.tmp 31) (.tmp 32) rfl w.heap.size A6 m c6 (Ls.take k).flatten rfl hO w.heap.size A1 L.length c1 L rfl hr (by omega) (by omega) hbs ?_; intro A7 c7 w3 hO3 hg3; have hb3 := hb.grown hg3 hbs (fun k hk => (hO.lt k hk).1))
          rw [← HF.out] at hO3
          exact ⟨⟨A7, m + L.length, c7, k + 1, by omega, by omega, by go_num, rfl, hO3, hb3⟩, by simp [intOf]; omega⟩
        · obtain rfl : n = k := by omega
          rw [List.take_of_length_le (by rw [HL.out]; omega)] at hO
          go_wp2
          go_ret
          exact ⟨A6, m, c6, rfl, hO, hb⟩
end Go.Proofs.YtibmpjhffeinoaaGreat

namespace Go.Proofs.YtibmpjhffeinoaaGreat
open Go.RowKit Go.Shelf

/-- The first states but some. -/
def woL (xs : List Int) (m : Nat) : List Int := ((List.range m).map Int.ofNat).filter fun x => decide (x ∉ xs)
theorem woL_no {xs : List Int} {m : Nat} (h : (m : Int) ∈ xs) : woL xs (m + 1) = woL xs m := by
  unfold woL
  rw [List.range_succ, List.map_append, List.filter_append]
  simp [h]
theorem woL_yes {xs : List Int} {m : Nat} (h : (m : Int) ∉ xs) : woL xs (m + 1) = woL xs m ++ [(m : Int)] := by
  unfold woL
  rw [List.range_succ, List.map_append, List.filter_append]
  simp [h]
theorem woL_mem {xs : List Int} {m : Nat} {x : Int} : x ∈ woL xs m ↔ (∃ k : Nat, x = k ∧ k < m) ∧ x ∉ xs := by
  unfold woL
  rw [List.mem_filter, List.mem_map]
  constructor
  · rintro ⟨⟨k, h1, h2⟩, h3⟩
    exact ⟨⟨k, h2.symm, List.mem_range.1 h1⟩, of_decide_eq_true h3⟩
  · rintro ⟨⟨k, h1, h2⟩, h3⟩
    exact ⟨⟨k, List.mem_range.2 h2, h1.symm⟩, decide_eq_true h3⟩
set_option maxRecDepth 100000 in
set_option maxHeartbeats 1600000 in
theorem fWithout (g : Nat) (AN A : Option Addr) (n cN m c : Nat) (xs : List Int) (w : World) (_hg : g < w.heap.size) (hc1 : w.cell? ⟨g, 1, none⟩ = some (.slice AN n cN)) (hn : n ≤ 4) (hx : Ri w w.heap.size A m xs) (hm : m ≤ 100) :
    Calls Tryz.prog 149 #[.pointer (some ⟨g, 0, none⟩), .slice A m c] w fun e w' => ∃ A' m' c', e = .returned (.slice A' m' c') ∧ Oj w' w.heap.size A' m' c' (woL xs n) ∧ m' ≤ n ∧ Below w.heap.size w w' := by
  have h0 : Hid (woL xs 0 = []) := Lib.hid rfl
  go_enter Tryz.func149, Tryz.ntmps149
  go_wp2
  go_loopw [5, 6, 13] (fun t5 _ t13 wr => ∃ (A5 : Option Addr) (q c5 k : Nat), k ≤ n ∧ q ≤ k ∧ t13 = .int .i64 (k : Int) ∧ t5 = .slice A5 q c5 ∧ Oj wr w.heap.size A5 q c5 (woL xs k) ∧ Below w.heap.size w wr) (fun _ _ t13 _ => n - (intOf t13).toNat)
  case atStart => exact ⟨none, 0, 0, 0, Nat.zero_le _, Nat.zero_le _, rfl, rfl, by rw [h0.out]; exact Oj.nil_ _ _, Below.refl _ _⟩
  case round =>
    clear h0
    obtain ⟨A5, q, c5, k, hk, hq, rfl, rfl, hO, hb⟩ := hrel
    have hbs := hb.size
    have hxr := hx.below hb
    by_cases hlt : k < n
    · by_cases hmem : (k : Int) ∈ xs
      · have HD : Hid (decide ((k : Int) ∈ xs) = true) := Lib.hid (decide_eq_true hmem)
        have HY := Lib.hid (woL_no hmem)
        clear hmem
        rw [← HY.out] at hO
        go_wp2_with (go_at_call 67; refine (fContains _ _ _ _ _ _ _ hxr hm).mono ?_; rintro e w5 ⟨rfl, rfl⟩; rw [HD.out])
        exact ⟨⟨A5, q, c5, k + 1, by omega, by omega, by go_num, rfl, hO, hb⟩, by simp [intOf]; omega⟩
      · have HD : Hid (decide ((k : Int) ∈ xs) = false) := Lib.hid (decide_eq_false hmem)
        have HY := Lib.hid (woL_yes hmem)
        clear hmem
        go_wp2_with first | (go_at_call 67; refine (fContains _ _ _ _ _ _ _ hxr hm).mono ?_; rintro e w5 ⟨rfl, rfl⟩; rw [HD.out]) | (at_builtin; refine push_num rfl (.tmp 20) (.tmp 22) rfl w.heap.size A5 q c5 (woL xs k) rfl (hO.alloc _) ⟨wr.heap.size, 0, none⟩ 1 _ rfl (cell_new1 _ _ _) (by omega) (by simp only [World.size_alloc]; omega) ?_; intro g1 cap1 v1 ho1 hg1; have hb1 := Oj.pushed hO hb hbs (Nat.le_refl _) hg1)
        rw [← HY.out] at ho1
        exact ⟨⟨_, q + 1, cap1, k + 1, by omega, by omega, by go_num, rfl, ho1, hb1⟩, by simp [intOf]; omega⟩
    · obtain rfl : n = k := by omega
      go_wp2
      go_ret
      exact ⟨A5, q, c5, rfl, hO, hq, hb⟩
end Go.Proofs.YtibmpjhffeinoaaGreat
