/-
  wheel: 'within', 'sum', 'CheckMachine' of a valid machine.
  wheel: 'CheckMachine' of a valid machine.
-/
import Derived.Test.YtibmpjhffeinoaaGreatLa
namespace Go.Proofs.YtibmpjhffeinoaaGreat
open Go.RowKit Go.Shelf

set_option maxHeartbeats 400000 in
theorem wWithin1 (x lo hi : Int) (a b : Addr) (w : World) (ha : w.cell? a = some (.int .i64 lo)) (hb : w.cell? b = some (.int .i64 hi)) :
    Calls Tryz.prog 148 #[.int .i64 x, .pointer (some a), .pointer (some b)] w fun e w' => e = .returned (.bool (outB lo hi x)) ∧ w = w' := by
  by_cases h1 : x < lo
  · go_enter Tryz.func148, Tryz.ntmps148
    go_wp2
    go_ret
    exact ⟨ret_b (by simp [outB, h1]), rfl⟩
  · by_cases h2 : hi < x
    · go_enter Tryz.func148, Tryz.ntmps148
      go_wp2
      go_ret
      exact ⟨ret_b (by simp [outB, h2]), rfl⟩
    · go_enter Tryz.func148, Tryz.ntmps148
      go_wp2
      go_ret
      exact ⟨ret_b (by symm; rw [outB_false]; omega), rfl⟩

set_option maxHeartbeats 400000 in
theorem windex_within (lo hi : Int) (a b : Addr) (A : Option Addr) (n c B : Nat) (xs : List Int) (w : World) (ha : w.cell? a = some (.int .i64 lo)) (hb : w.cell? b = some (.int .i64 hi))
    (hx : Ri w B A n xs) (hn : n ≤ 1099511627776) (r : Bool) (HR : Hid (xs.any (outB lo hi) = r)) :
    Calls Tryz.prog 276 #[.slice A n c, .func (.func 148) #[] #[.pointer (some a), .pointer (some b)]] w fun e w' => (∃ k : Int, e = .returned (.int .i64 k) ∧ decide (0 ≤ k) = r) ∧ w = w' := by
  have HL := Lib.hid hx.len
  go_enter Tryz.func276, Tryz.ntmps276
  go_wp2
  go_loop [5, 8] (fun _ i => ∃ k : Nat, k ≤ n ∧ i = .int .i64 k ∧ Hid ((xs.take k).any (outB lo hi) = false)) (fun _ i => n - (intOf i).toNat)
  case atStart => exact ⟨0, Nat.zero_le _, rfl, Lib.hid rfl⟩
  case round =>
    obtain ⟨k, hk, rfl, hno⟩ := hrel
    by_cases hlt : k < n
    · obtain ⟨ad, x, rfl, _, hc, hxk, _⟩ := hx.at_ hlt
      cases hout : outB lo hi x
      · have HX : Hid ((xs.take (k + 1)).any (outB lo hi) = false) := Lib.hid (by rw [take_snoc hxk.out, List.any_append, hno.out]; simp [hout])
        have HO := Lib.hid hout
        clear hout
        go_wp2_with (go_at_call 148; refine (wWithin1 _ _ _ _ _ _ ha hb).mono ?_; rintro e w' ⟨rfl, rfl⟩; rw [HO.out])
        go_round
        case rel => exact ⟨k + 1, by omega, by go_num, HX⟩
        case measure => simp [intOf]; omega
      · have HX : Hid (r = true) := Lib.hid (by rw [← HR.out]; exact List.any_eq_true.2 ⟨x, List.mem_of_getElem? hxk.out, hout⟩)
        have HO := Lib.hid hout
        clear hout
        go_wp2_with (go_at_call 148; refine (wWithin1 _ _ _ _ _ _ ha hb).mono ?_; rintro e w' ⟨rfl, rfl⟩; rw [HO.out])
        go_ret
        exact ⟨⟨k, rfl, by rw [HX.out]; simp⟩, rfl⟩
    · have HX : Hid (r = false) := Lib.hid (by rw [← HR.out]; have := hno.out; rw [List.take_of_length_le (by rw [HL.out]; omega)] at this; exact this)
      go_wp2
      go_ret
      exact ⟨⟨-1, rfl, by rw [HX.out]; simp⟩, rfl⟩

set_option maxHeartbeats 400000 in
theorem wcontains_within (lo hi : Int) (a b : Addr) (A : Option Addr) (n c B : Nat) (xs : List Int) (w : World) (ha : w.cell? a = some (.int .i64 lo)) (hb : w.cell? b = some (.int .i64 hi))
    (hx : Ri w B A n xs) (hn : n ≤ 1099511627776) (r : Bool) (HR : Hid (xs.any (outB lo hi) = r)) :
    Calls Tryz.prog 147 #[.slice A n c, .func (.func 148) #[] #[.pointer (some a), .pointer (some b)]] w fun e w' => e = .returned (.bool r) ∧ w = w' := by
  go_enter Tryz.func147, Tryz.ntmps147
  go_wp2_with (go_at_call 276; refine (windex_within _ _ _ _ _ _ _ _ _ _ ha hb hx hn _ HR).mono ?_; rintro e w' ⟨⟨k, rfl, hk⟩, rfl⟩; have HK := Lib.hid hk; clear hk)
  go_ret
  exact ⟨ret_b HK.out, rfl⟩

set_option maxHeartbeats 400000 in
theorem wWithin (lo hi : Int) (A : Option Addr) (n c : Nat) (xs : List Int) (w : World) (hx : Ri w w.heap.size A n xs) (hn : n ≤ 1099511627776) (r : Bool) (HR : Hid (xs.any (outB lo hi) = r)) :
    Calls Tryz.prog 59 #[.int .i64 lo, .int .i64 hi, .slice A n c] w fun e w' => e = .returned (.bool (!r)) ∧ Below w.heap.size w w' ∧ w'.heap.size = w.heap.size + 2 := by
  have ha : ((w.alloc (.cells #[.int .i64 lo] 2)).alloc (.cells #[.int .i64 hi] 2)).cell? ⟨w.heap.size, 0, none⟩ = some (.int .i64 lo) := (World.cell?_alloc_lt _ _ _ (by simp)).trans (cell_new1 _ _ _)
  have hb : ((w.alloc (.cells #[.int .i64 lo] 2)).alloc (.cells #[.int .i64 hi] 2)).cell? ⟨w.heap.size + 1, 0, none⟩ = some (.int .i64 hi) := by
    simp
  have hx2 : Ri ((w.alloc (.cells #[.int .i64 lo] 2)).alloc (.cells #[.int .i64 hi] 2)) w.heap.size A n xs := (hx.alloc (Nat.le_refl _) _).alloc (by simp) _
  go_enter Tryz.func59, Tryz.ntmps59
  go_wp2_with (go_at_call 147; refine (wcontains_within _ _ _ _ _ _ _ _ _ _ ha hb hx2 hn _ HR).mono ?_; rintro e w' ⟨rfl, rfl⟩)
  go_ret
  exact ⟨rfl, ((Below.refl _ w).alloc (Nat.le_refl _) _).alloc (by simp) _, by simp⟩


set_option maxHeartbeats 400000 in
theorem wOther (A : Option Addr) (m c n : Nat) (pn : Addr) (w : World) (hp : w.cell? pn = some (.int .i64 (n : Int))) (h : m = n) :
    Calls Tryz.prog 321 #[.slice A m c, .pointer (some pn)] w fun e w' => e = .returned (.bool false) ∧ Below w.heap.size w w' := by
  subst h
  go_enter Tryz.func321, Tryz.ntmps321
  go_wp2
  go_ret
  exact ⟨rfl, Below.refl _ _⟩
set_option maxHeartbeats 400000 in
theorem wStray (A : Option Addr) (m c b : Nat) (S : Int) (L : List Int) (w : World) (hp : w.cell? ⟨b, 0, none⟩ = some (.int .i64 S)) (hx : Ri w w.heap.size A m L) (hm : m ≤ 4) (h : ∀ x ∈ L, 0 ≤ x ∧ x ≤ S) :
    Calls Tryz.prog 322 #[.slice A m c, .pointer (some ⟨b, 0, none⟩)] w fun e w' => e = .returned (.bool false) ∧ Below w.heap.size w w' := by
  have HX : Hid (L.any (outB 0 S) = false) := Lib.hid (by
    rw [List.any_eq_false]
    intro x hx
    rw [outB_false.2 (h x hx)]
    simp)
  clear h
  go_enter Tryz.func322, Tryz.ntmps322
  go_wp2_with (go_at_call 59; refine (wWithin _ _ _ _ _ _ _ hx (by omega) _ HX).mono ?_; rintro e w' ⟨rfl, hb, _⟩)
  go_ret
  exact ⟨rfl, hb⟩
set_option maxRecDepth 100000 in
set_option maxHeartbeats 800000 in
theorem wSum (A : Option Addr) (n c : Nat) (xs : List Int) (w : World) (hx : Ri w w.heap.size A n xs) (hn : n ≤ 4) (hb : ∀ x ∈ xs, 0 ≤ x ∧ x ≤ 20) :
    Calls Tryz.prog 232 #[.slice A n c] w fun e w' => e = .returned (.int .i64 xs.sum) ∧ w' = w := by
  have HL := Lib.hid hx.len
  have HB := Lib.hid hb
  clear hb
  go_enter Tryz.func232, Tryz.ntmps232
  go_wp2
  go_loopw [3, 5, 8] (fun s _ i wr => ∃ (k : Nat) (z : Int), k ≤ n ∧ i = .int .i64 (k : Int) ∧ s = .int .i64 z ∧ Hid (z = (xs.take k).sum) ∧ wr = w) (fun _ _ i _ => n - (intOf i).toNat)
  case atStart => exact ⟨0, 0, Nat.zero_le _, rfl, rfl, Lib.hid (by simp), rfl⟩
  case round =>
    obtain ⟨k, z, hk, rfl, rfl, HZ, rfl⟩ := hrel
    by_cases hlt : k < n
    · obtain ⟨ad, x, rfl, _, hc, hxk, _⟩ := hx.at_ hlt
      have hx0 := HB.out x (List.mem_of_getElem? hxk.out)
      have hz0 := sum_b (xs := xs.take k) fun y hy => HB.out y (List.mem_of_mem_take hy)
      rw [List.length_take, ← HZ.out] at hz0
      have hz1 : 0 ≤ z ∧ z ≤ 80 := by omega
      clear hz0
      have HZ2 : Hid (z + x = (xs.take (k + 1)).sum) := Lib.hid (by rw [sum_take hxk.out, HZ.out])
      go_wp2
      go_roundw
      case rel => exact ⟨k + 1, z + x, by omega, by go_num, by go_num, HZ2, trivial⟩
      case measure => simp [intOf]; omega
    · obtain rfl : n = k := by omega
      have HZ2 : Hid (z = xs.sum) := Lib.hid (by rw [HZ.out, List.take_of_length_le (by rw [HL.out]; omega)])
      go_wp2
      go_ret
      exact ⟨ret_i HZ2.out, rfl⟩
set_option maxHeartbeats 400000 in
theorem wOff (A : Option Addr) (m c b : Nat) (S : Int) (L : List Int) (w : World) (hp : w.cell? ⟨b, 0, none⟩ = some (.int .i64 S)) (hx : Ri w w.heap.size A m L) (hm : m ≤ 4) (h : (∀ x ∈ L, 0 ≤ x ∧ x ≤ 20) ∧ L.sum = S) :
    Calls Tryz.prog 240 #[.slice A m c, .pointer (some ⟨b, 0, none⟩)] w fun e w' => e = .returned (.bool false) ∧ Below w.heap.size w w' := by
  have HS : Hid (∀ k, Calls Tryz.prog 232 #[.slice A m c] (w.drewN k) fun e w' => e = .returned (.int .i64 S) ∧ w' = w.drewN k) := Lib.hid fun k => by
    rw [← h.2]
    exact wSum A m c L (w.drewN k) (hx.drewN k) hm h.1
  clear h
  go_enter Tryz.func240, Tryz.ntmps240
  go_wp2
  go_quiet ((go_at_call 232; exact Calls.quiet_of_same (HS.out _)))
  go_wp2
  go_ret
  exact ⟨rfl, below_drewN (Below.refl _ _) _⟩
set_option maxRecDepth 100000 in
set_option maxHeartbeats 800000 in
theorem index_other (A : Option Addr) (n c B : Nat) (Ls : List (List Int)) (w : World) (pn : Addr) (hp : w.cell? pn = some (.int .i64 (n : Int))) (hpb : pn.block < w.heap.size) (hx : Mv w B A n Ls) (hB : B ≤ w.heap.size) (hn : n ≤ 4) (hr : ∀ L ∈ Ls, L.length = n) :
    Calls Tryz.prog 323 #[.slice A n c, .func (.func 321) #[] #[.pointer (some pn)]] w fun e w' => e = .returned (.int .i64 (-1)) ∧ Below w.heap.size w w' := by
  have HL := Lib.hid hx.1
  have HR := Lib.hid hr
  clear hr
  go_enter Tryz.func323, Tryz.ntmps323
  go_wp2
  go_loopw [5, 8] (fun _ i wr => ∃ k : Nat, k ≤ n ∧ i = .int .i64 k ∧ Below w.heap.size w wr) (fun _ i _ => n - (intOf i).toNat)
  case atStart => exact ⟨0, Nat.zero_le _, rfl, Below.refl _ _⟩
  case round =>
    obtain ⟨k, hk, rfl, hb⟩ := hrel
    have hbs := hb.size
    have hxr := hx.below (hb.mono hB)
    have hpr := (hb.cell hpb).trans hp
    by_cases hlt : k < n
    · have hL : Ls[k]? = some (Ls[k]'(by rw [HL.out]; exact hlt)) := List.getElem?_eq_getElem (by rw [HL.out]; exact hlt)
      obtain ⟨ad, A', c', rfl, _, h2, h3, h4⟩ := hxr.2 k _ hL
      have HK := Lib.hid (HR.out _ (List.mem_of_getElem? hL))
      generalize Ls[k]'(by rw [HL.out]; exact hlt) = L at *
      have h5 := h4.more (B' := wr.heap.size) (by omega)
      clear hL h4 hxr
      generalize hm : L.length = m at *
      go_wp2_with (go_at_call 321; refine (wOther _ _ _ _ _ _ hpr HK.out).mono ?_; rintro e w1 ⟨rfl, hb1⟩; have hb2 := hb.trans (hb1.mono hbs); clear hb hb1)
      go_roundw
      case rel => exact ⟨k + 1, by omega, by go_num, hb2⟩
      case measure => simp [intOf]; omega
    · go_wp2
      go_ret
      exact ⟨rfl, hb⟩
set_option maxRecDepth 100000 in
set_option maxHeartbeats 400000 in
theorem contains_other (A : Option Addr) (n c B : Nat) (Ls : List (List Int)) (w : World) (pn : Addr) (hp : w.cell? pn = some (.int .i64 (n : Int))) (hpb : pn.block < w.heap.size) (hx : Mv w B A n Ls) (hB : B ≤ w.heap.size) (hn : n ≤ 4) (hr : ∀ L ∈ Ls, L.length = n) :
    Calls Tryz.prog 238 #[.slice A n c, .func (.func 321) #[] #[.pointer (some pn)]] w fun e w' => e = .returned (.bool false) ∧ Below w.heap.size w w' := by
  have HR := Lib.hid hr
  clear hr
  go_enter Tryz.func238, Tryz.ntmps238
  go_wp2_with (go_at_call 323; refine (index_other _ _ _ _ _ _ _ hp hpb hx hB hn HR.out).mono ?_; rintro e w' ⟨rfl, hb⟩)
  go_ret
  exact ⟨rfl, hb⟩
set_option maxRecDepth 100000 in
set_option maxHeartbeats 800000 in
theorem index_stray2 (A : Option Addr) (n c B : Nat) (Ls : List (List Int)) (w : World) (b : Nat) (S : Int) (hp : w.cell? ⟨b, 0, none⟩ = some (.int .i64 S)) (hpb : b < w.heap.size) (hx : Mv w B A n Ls) (hB : B ≤ w.heap.size) (hn : n ≤ 4) (hr : ∀ L ∈ Ls, L.length ≤ 4 ∧ ∀ x ∈ L, 0 ≤ x ∧ x ≤ S) :
    Calls Tryz.prog 323 #[.slice A n c, .func (.func 322) #[] #[.pointer (some ⟨b, 0, none⟩)]] w fun e w' => e = .returned (.int .i64 (-1)) ∧ Below w.heap.size w w' := by
  have HL := Lib.hid hx.1
  have HR := Lib.hid hr
  clear hr
  go_enter Tryz.func323, Tryz.ntmps323
  go_wp2
  go_loopw [5, 8] (fun _ i wr => ∃ k : Nat, k ≤ n ∧ i = .int .i64 k ∧ Below w.heap.size w wr) (fun _ i _ => n - (intOf i).toNat)
  case atStart => exact ⟨0, Nat.zero_le _, rfl, Below.refl _ _⟩
  case round =>
    obtain ⟨k, hk, rfl, hb⟩ := hrel
    have hbs := hb.size
    have hxr := hx.below (hb.mono hB)
    have hpr := (hb.cell hpb).trans hp
    by_cases hlt : k < n
    · have hL : Ls[k]? = some (Ls[k]'(by rw [HL.out]; exact hlt)) := List.getElem?_eq_getElem (by rw [HL.out]; exact hlt)
      obtain ⟨ad, A', c', rfl, _, h2, h3, h4⟩ := hxr.2 k _ hL
      have HK := Lib.hid (HR.out _ (List.mem_of_getElem? hL))
      generalize Ls[k]'(by rw [HL.out]; exact hlt) = L at *
      have h5 := h4.more (B' := wr.heap.size) (by omega)
      clear hL h4 hxr
      generalize hm : L.length = m at *
      go_wp2_with (go_at_call 322; refine (wStray _ _ _ _ _ _ _ hpr h5 (by have := HK.out.1; omega) HK.out.2).mono ?_; rintro e w1 ⟨rfl, hb1⟩; have hb2 := hb.trans (hb1.mono hbs); clear hb hb1)
      go_roundw
      case rel => exact ⟨k + 1, by omega, by go_num, hb2⟩
      case measure => simp [intOf]; omega
    · go_wp2
      go_ret
      exact ⟨rfl, hb⟩
set_option maxRecDepth 100000 in
set_option maxHeartbeats 400000 in
theorem contains_stray2 (A : Option Addr) (n c B : Nat) (Ls : List (List Int)) (w : World) (b : Nat) (S : Int) (hp : w.cell? ⟨b, 0, none⟩ = some (.int .i64 S)) (hpb : b < w.heap.size) (hx : Mv w B A n Ls) (hB : B ≤ w.heap.size) (hn : n ≤ 4) (hr : ∀ L ∈ Ls, L.length ≤ 4 ∧ ∀ x ∈ L, 0 ≤ x ∧ x ≤ S) :
    Calls Tryz.prog 238 #[.slice A n c, .func (.func 322) #[] #[.pointer (some ⟨b, 0, none⟩)]] w fun e w' => e = .returned (.bool false) ∧ Below w.heap.size w w' := by
  have HR := Lib.hid hr
  clear hr
  go_enter Tryz.func238, Tryz.ntmps238
  go_wp2_with (go_at_call 323; refine (index_stray2 _ _ _ _ _ _ _ _ hp hpb hx hB hn HR.out).mono ?_; rintro e w' ⟨rfl, hb⟩)
  go_ret
  exact ⟨rfl, hb⟩
set_option maxRecDepth 100000 in
set_option maxHeartbeats 800000 in
theorem index_off (A : Option Addr) (n c B : Nat) (Ls : List (List Int)) (w : World) (b : Nat) (S : Int) (hp : w.cell? ⟨b, 0, none⟩ = some (.int .i64 S)) (hpb : b < w.heap.size) (hx : Mv w B A n Ls) (hB : B ≤ w.heap.size) (hn : n ≤ 4) (hr : ∀ L ∈ Ls, L.length ≤ 4 ∧ (∀ x ∈ L, 0 ≤ x ∧ x ≤ 20) ∧ L.sum = S) :
    Calls Tryz.prog 323 #[.slice A n c, .func (.func 240) #[] #[.pointer (some ⟨b, 0, none⟩)]] w fun e w' => e = .returned (.int .i64 (-1)) ∧ Below w.heap.size w w' := by
  have HL := Lib.hid hx.1
  have HR := Lib.hid hr
  clear hr
  go_enter Tryz.func323, Tryz.ntmps323
  go_wp2
  go_loopw [5, 8] (fun _ i wr => ∃ k : Nat, k ≤ n ∧ i = .int .i64 k ∧ Below w.heap.size w wr) (fun _ i _ => n - (intOf i).toNat)
  case atStart => exact ⟨0, Nat.zero_le _, rfl, Below.refl _ _⟩
  case round =>
    obtain ⟨k, hk, rfl, hb⟩ := hrel
    have hbs := hb.size
    have hxr := hx.below (hb.mono hB)
    have hpr := (hb.cell hpb).trans hp
    by_cases hlt : k < n
    · have hL : Ls[k]? = some (Ls[k]'(by rw [HL.out]; exact hlt)) := List.getElem?_eq_getElem (by rw [HL.out]; exact hlt)
      obtain ⟨ad, A', c', rfl, _, h2, h3, h4⟩ := hxr.2 k _ hL
      have HK := Lib.hid (HR.out _ (List.mem_of_getElem? hL))
      generalize Ls[k]'(by rw [HL.out]; exact hlt) = L at *
      have h5 := h4.more (B' := wr.heap.size) (by omega)
      clear hL h4 hxr
      generalize hm : L.length = m at *
      go_wp2_with (go_at_call 240; refine (wOff _ _ _ _ _ _ _ hpr h5 (by have := HK.out.1; omega) HK.out.2).mono ?_; rintro e w1 ⟨rfl, hb1⟩; have hb2 := hb.trans (hb1.mono hbs); clear hb hb1)
      go_roundw
      case rel => exact ⟨k + 1, by omega, by go_num, hb2⟩
      case measure => simp [intOf]; omega
    · go_wp2
      go_ret
      exact ⟨rfl, hb⟩
set_option maxRecDepth 100000 in
set_option maxHeartbeats 400000 in
theorem contains_off (A : Option Addr) (n c B : Nat) (Ls : List (List Int)) (w : World) (b : Nat) (S : Int) (hp : w.cell? ⟨b, 0, none⟩ = some (.int .i64 S)) (hpb : b < w.heap.size) (hx : Mv w B A n Ls) (hB : B ≤ w.heap.size) (hn : n ≤ 4) (hr : ∀ L ∈ Ls, L.length ≤ 4 ∧ (∀ x ∈ L, 0 ≤ x ∧ x ≤ 20) ∧ L.sum = S) :
    Calls Tryz.prog 238 #[.slice A n c, .func (.func 240) #[] #[.pointer (some ⟨b, 0, none⟩)]] w fun e w' => e = .returned (.bool false) ∧ Below w.heap.size w w' := by
  have HR := Lib.hid hr
  clear hr
  go_enter Tryz.func238, Tryz.ntmps238
  go_wp2_with (go_at_call 323; refine (index_off _ _ _ _ _ _ _ _ hp hpb hx hB hn HR.out).mono ?_; rintro e w' ⟨rfl, hb⟩)
  go_ret
  exact ⟨rfl, hb⟩
end Go.Proofs.YtibmpjhffeinoaaGreat

namespace Go.Proofs.YtibmpjhffeinoaaGreat
open Go.RowKit Go.Shelf

set_option maxRecDepth 100000 in
set_option maxHeartbeats 1600000 in
theorem wCheck (A A' : Option Addr) (n c m c' : Nat) (S : Int) (Ls : List (List Int)) (ys : List Int) (w : World) (hmv : Mv w w.heap.size A n Ls) (hri : Ri w w.heap.size A' m ys) (hv : ValM S Ls ys) :
    Calls Tryz.prog 237 #[.agg #[.int .i64 S, .slice A n c, .slice A' m c']] w fun e w' => e = .returned (.int .i64 0) ∧ Below w.heap.size w w' := by
  have hL := hmv.1
  have hY := hri.len
  have hn14 := hv.1.1
  have hm := hv.1.2.2.1
  rw [hL] at hn14 hm
  rw [hY] at hm
  obtain rfl : n = m := hm.symm
  clear hm
  have HV := Lib.hid hv
  have HL := Lib.hid hL
  have hS := hv.1.2.2.2.1
  clear hL hY hv
  have hbk := Bk.new w 25 #[.int .i64 S, .slice A n c, .slice A' n c']
  have hb1 := (Below.refl w.heap.size w).alloc (Nat.le_refl _) (.cells #[.int .i64 S, .slice A n c, .slice A' n c'] 25)
  have hn := cell_new1 (w.alloc (.cells #[.int .i64 S, .slice A n c, .slice A' n c'] 25)) (.int .i64 (n : Int)) 3
  have hbk2 := hbk.alloc (.cells #[.int .i64 (n : Int)] 3)
  have hb2 := hb1.alloc (by simp) (.cells #[.int .i64 (n : Int)] 3)
  rw [World.size_alloc] at hn
  generalize hW : (w.alloc (.cells #[.int .i64 S, .slice A n c, .slice A' n c'] 25)).alloc (.cells #[.int .i64 (n : Int)] 3) = W at *
  have hs : W.heap.size = w.heap.size + 2 := by rw [← hW]; simp
  have c0 : W.cell? ⟨w.heap.size, 0, none⟩ = some (.int .i64 S) := hbk2.cell 0
  have c1 : W.cell? ⟨w.heap.size, 1, none⟩ = some (.slice A n c) := hbk2.cell 1
  have c2 : W.cell? ⟨w.heap.size, 2, none⟩ = some (.slice A' n c') := hbk2.cell 2
  have hmv1 := hmv.below hb2
  have hri1 := hri.below hb2
  have hlit := Oi.ri (Oi.lit1 W (n : Int))
  rw [hs] at hlit
  have HX : Hid ([(n : Int)].any (outB 1 4) = false) := Lib.hid (by simp [outB]; omega)
  clear hbk hb1 hmv hri
  go_enter Tryz.func237, Tryz.ntmps237
  go_wp2_with fail
  refine (wWithin _ _ _ _ _ _ _ hlit (by omega) _ HX).mono ?_
  rintro e w1 ⟨rfl, hb3, _⟩
  have hb4 : Below W.heap.size W w1 := ((Below.refl W.heap.size W).alloc (Nat.le_refl _) (.cells #[.int .i64 (n : Int)] 2)).trans (hb3.mono (by simp))
  have d0 := (hb4.cell (p := ⟨w.heap.size, 0, none⟩) (by show w.heap.size < _; omega)).trans c0
  have d1 := (hb4.cell (p := ⟨w.heap.size, 1, none⟩) (by show w.heap.size < _; omega)).trans c1
  have d2 := (hb4.cell (p := ⟨w.heap.size, 2, none⟩) (by show w.heap.size < _; omega)).trans c2
  have dn := (hb4.cell (p := ⟨w.heap.size + 1, 0, none⟩) (by show w.heap.size + 1 < _; omega)).trans hn
  have hs4 := hb4.size
  have hmv2 := hmv1.below (hb4.mono (by omega))
  have hri2 := hri1.below (hb4.mono (by omega))
  have hb5 := hb2.trans (hb4.mono (by omega))
  have HR1 : Hid (∀ L ∈ Ls, L.length = n) := Lib.hid fun L hL => (HV.out.1.2.1 L hL).trans HL.out
  have HR2 : Hid (∀ L ∈ Ls, L.length ≤ 4 ∧ ∀ x ∈ L, 0 ≤ x ∧ x ≤ S) := Lib.hid fun L hL => ⟨by rw [HR1.out L hL]; omega, HV.out.1.2.2.2.2.1 L hL⟩
  clear hb3 hlit c0 c1 c2 hn hbk2 hmv1 hri1 hb4 hb2
  go_wp2_with (go_at_call 238; refine (contains_other _ _ _ _ _ _ _ dn (by show w.heap.size + 1 < _; omega) hmv2 (by omega) (by omega) HR1.out).mono ?_; rintro e w2 ⟨rfl, hb6⟩; have hs6 := hb6.size; have dn2 := (hb6.cell (p := ⟨w.heap.size + 1, 0, none⟩) (by show w.heap.size + 1 < _; omega)).trans dn; have e0 := (hb6.cell (p := ⟨w.heap.size, 0, none⟩) (by show w.heap.size < _; omega)).trans d0; have e1 := (hb6.cell (p := ⟨w.heap.size, 1, none⟩) (by show w.heap.size < _; omega)).trans d1; have e2 := (hb6.cell (p := ⟨w.heap.size, 2, none⟩) (by show w.heap.size < _; omega)).trans d2)
  refine (wOther _ _ _ _ _ _ dn2 rfl).mono ?_
  rintro e w3 ⟨rfl, hb7⟩
  have hs7 := hb7.size
  have f0 := (hb7.cell (p := ⟨w.heap.size, 0, none⟩) (by show w.heap.size < _; omega)).trans e0
  have f1 := (hb7.cell (p := ⟨w.heap.size, 1, none⟩) (by show w.heap.size < _; omega)).trans e1
  have f2 := (hb7.cell (p := ⟨w.heap.size, 2, none⟩) (by show w.heap.size < _; omega)).trans e2
  have hb8 := hb6.trans (hb7.mono hs6)
  have hmv3 := hmv2.below (hb8.mono (by omega))
  have hri3 := hri2.below (hb8.mono (by omega))
  have hb9 := hb5.trans (hb8.mono (by omega))
  have hlit3 := Oi.ri (Oi.lit1 w3 S)
  have HX3 : Hid ([S].any (outB 1 20) = false) := Lib.hid (by simp [outB]; omega)
  clear hmv2 hri2 hb6 hb7 hb8 hb5 e0 e1 e2 d0 d1 d2 dn dn2
  go_wp2_with fail
  refine (wWithin _ _ _ _ _ _ _ hlit3 (by omega) _ HX3).mono ?_
  rintro e w4 ⟨rfl, hb10, _⟩
  have hb11 : Below w3.heap.size w3 w4 := ((Below.refl w3.heap.size w3).alloc (Nat.le_refl _) (.cells #[.int .i64 S] 2)).trans (hb10.mono (by simp))
  have hs11 := hb11.size
  have g0 := (hb11.cell (p := ⟨w.heap.size, 0, none⟩) (by show w.heap.size < _; omega)).trans f0
  have g1 := (hb11.cell (p := ⟨w.heap.size, 1, none⟩) (by show w.heap.size < _; omega)).trans f1
  have g2 := (hb11.cell (p := ⟨w.heap.size, 2, none⟩) (by show w.heap.size < _; omega)).trans f2
  have hmv4 := hmv3.below (hb11.mono (by omega))
  have hri4 := hri3.below (hb11.mono (by omega))
  have hb12 := hb9.trans (hb11.mono (by omega))
  clear hmv3 hri3 hb9 hb10 hb11 f0 f1 f2 hlit3
  have HX4 : Hid (ys.any (outB 0 1000) = false) := Lib.hid (by
    rw [List.any_eq_false]
    intro x hx
    rw [outB_false.2 (HV.out.1.2.2.2.2.2 x hx)]
    simp)
  go_wp2_with (go_at_call 238; refine (contains_stray2 _ _ _ _ _ _ _ _ g0 (by omega) hmv4 (by omega) (by omega) HR2.out).mono ?_; rintro e w5 ⟨rfl, hb13⟩; have hs13 := hb13.size; have h2 := (hb13.cell (p := ⟨w.heap.size, 2, none⟩) (by show w.heap.size < _; omega)).trans g2; have hri5 := (hri4.below (hb13.mono (by omega))).more (B' := w5.heap.size) (by omega); have hb14 := hb12.trans (hb13.mono (by omega)))
  refine (wWithin _ _ _ _ _ _ _ hri5 (by omega) _ HX4).mono ?_
  rintro e w6 ⟨rfl, hb15, _⟩
  have hb16 := hb14.trans (hb15.mono (by omega))
  go_wp2
  go_ret
  exact ⟨rfl, hb16⟩
set_option maxRecDepth 100000 in
set_option maxHeartbeats 800000 in
theorem wCheckM (A A' : Option Addr) (n c m c' : Nat) (S : Int) (Ls : List (List Int)) (ys : List Int) (w : World) (hmv : Mv w w.heap.size A n Ls) (hri : Ri w w.heap.size A' m ys) (hv : ValM S Ls ys) :
    Calls Tryz.prog 110 #[.agg #[.int .i64 S, .slice A n c, .slice A' m c']] w fun e w' => e = .returned (.int .i64 0) ∧ Below w.heap.size w w' := by
  have hL := hmv.1
  have hn14 := hv.1.1
  rw [hL] at hn14
  have HV := Lib.hid hv
  have HR : Hid (∀ L ∈ Ls, L.length ≤ 4 ∧ (∀ x ∈ L, 0 ≤ x ∧ x ≤ 20) ∧ L.sum = S) := Lib.hid fun L h => ⟨by rw [hv.1.2.1 L h, hL]; exact hn14.2, fun x hx => by
    have h1 := hv.1.2.2.2.2.1 L h x hx
    have h2 := hv.1.2.2.2.1.2
    omega, hv.2 L h⟩
  clear hL hv
  have hb1 := (Below.refl w.heap.size w).alloc (Nat.le_refl _) (.cells #[.int .i64 S, .slice A n c, .slice A' m c'] 25)
  have hbk := Bk.new w 25 #[.int .i64 S, .slice A n c, .slice A' m c']
  have hs1 : (w.alloc (.cells #[.int .i64 S, .slice A n c, .slice A' m c'] 25)).heap.size = w.heap.size + 1 := by simp
  have hmv1 := (hmv.below hb1).more (B' := (w.alloc (.cells #[.int .i64 S, .slice A n c, .slice A' m c'] 25)).heap.size) (by omega)
  have hri1 := (hri.below hb1).more (B' := (w.alloc (.cells #[.int .i64 S, .slice A n c, .slice A' m c'] 25)).heap.size) (by omega)
  generalize hW : w.alloc (.cells #[.int .i64 S, .slice A n c, .slice A' m c'] 25) = W at *
  have c0 : W.cell? ⟨w.heap.size, 0, none⟩ = some (.int .i64 S) := hbk.cell 0
  have c1 : W.cell? ⟨w.heap.size, 1, none⟩ = some (.slice A n c) := hbk.cell 1
  have c2 : W.cell? ⟨w.heap.size, 2, none⟩ = some (.slice A' m c') := hbk.cell 2
  clear hbk hmv hri
  go_enter Tryz.func110, Tryz.ntmps110
  go_wp2_with fail
  refine (wCheck _ _ _ _ _ _ _ _ _ _ hmv1 hri1 HV.out).mono ?_
  rintro e w1 ⟨rfl, hb2⟩
  have hs2 := hb2.size
  have d0 := (hb2.cell (p := ⟨w.heap.size, 0, none⟩) (by show w.heap.size < _; omega)).trans c0
  have d1 := (hb2.cell (p := ⟨w.heap.size, 1, none⟩) (by show w.heap.size < _; omega)).trans c1
  have hb3 := hb1.trans (hb2.mono (by omega))
  have hmv2 := (hmv1.below hb2).more hs2
  go_wp2_with (go_at_call 238; refine (contains_off _ _ _ _ _ _ _ _ d0 (by omega) hmv2 (by omega) (by omega) HR.out).mono ?_; rintro e w5 ⟨rfl, hb13⟩; have hb14 := hb3.trans (hb13.mono (by omega)))
  go_ret
  exact ⟨rfl, hb14⟩
end Go.Proofs.YtibmpjhffeinoaaGreat
