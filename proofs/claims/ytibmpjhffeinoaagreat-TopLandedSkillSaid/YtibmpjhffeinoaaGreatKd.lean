/-
  skill: 'rising', 'CheckMachine', 'open' of a valid machine.
-/
import Derived.Test.YtibmpjhffeinoaaGreatKc
namespace Go.Proofs.YtibmpjhffeinoaaGreat
open Go.RowKit

set_option maxRecDepth 100000 in
set_option maxHeartbeats 800000 in
theorem fRising (A : Option Addr) (m c n : Nat) (L : List Int) (w : World) (hx : Ri w w.heap.size A m L) (hm : m ≤ 14) (hn : n ≤ 14) (hr : risB n 0 L = true) :
    Calls Tryz.prog 261 #[.slice A m c, .int .i64 (n : Int)] w fun e w' => e = .returned (.bool true) ∧ Below w.heap.size w w' := by
  have HL := Lib.hid hx.len
  have HR := Lib.hid hr
  clear hr
  have hw1 : IntKind.i64.wrap ((n : Int) - 1) = (n : Int) - 1 := IntWalk.i64_in _ (by omega)
  go_enter Tryz.func261, Tryz.ntmps261
  go_wp2
  go_loopw [5, 7, 10] (fun nx _ i wr => ∃ (k : Nat) (z : Int), k ≤ m ∧ i = .int .i64 (k : Int) ∧ nx = .int .i64 z ∧ 0 ≤ z ∧ z ≤ 14 ∧ Hid (risB n z (L.drop k) = true) ∧ Below w.heap.size w wr) (fun _ _ i _ => m - (intOf i).toNat)
  case atStart => exact ⟨0, 0, Nat.zero_le _, rfl, rfl, by omega, by omega, Lib.hid HR.out, Below.refl _ _⟩
  case round =>
    obtain ⟨k, z, hk, rfl, rfl, hz, hz14, HD, hb⟩ := hrel
    have hxr := hx.below hb
    have hbs := hb.size
    by_cases hlt : k < m
    · obtain ⟨ad, x, rfl, _, hc, hxk, _⟩ := hxr.at_ hlt
      have hdr : L.drop k = x :: L.drop (k + 1) := by
        obtain ⟨h1, h2⟩ := List.getElem?_eq_some_iff.1 hxk.out
        rw [List.drop_eq_getElem_cons h1, h2]
      have hd := HD.out
      rw [hdr] at hd
      simp only [risB, Bool.and_eq_true, decide_eq_true_eq] at hd
      obtain ⟨⟨hd1, hd2⟩, hd3⟩ := hd
      have HD3 := Lib.hid hd3
      have HX : Hid ([x].any (outB z ((n : Int) - 1)) = false) := Lib.hid (by simp [outB]; omega)
      have hw2 : IntKind.i64.wrap (x + 1) = x + 1 := IntWalk.i64_in _ (by omega)
      have hlit := (Oj.lit1 wr x).ri
      clear hd3 hdr
      go_wp2_with fail
      refine (fWithin _ _ _ _ _ _ _ hlit (by omega) _ HX).mono ?_
      rintro e w1 ⟨rfl, hb1, hs1⟩
      have hb2 := (hb.alloc hbs (.cells #[.int .i64 x] 3)).trans (hb1.mono (by simp; omega))
      clear hb hb1 hs1
      go_wp2
      go_roundw
      case rel => exact ⟨k + 1, x + 1, by omega, by go_num, rfl, by omega, by omega, HD3, hb2⟩
      case measure => simp [intOf]; omega
    · go_wp2
      go_ret
      exact ⟨rfl, hb⟩

set_option maxRecDepth 100000 in
set_option maxHeartbeats 400000 in
theorem fStray (A : Option Addr) (m c n : Nat) (L : List Int) (pn : Addr) (w : World) (hp : w.cell? pn = some (.int .i64 (n : Int))) (hx : Ri w w.heap.size A m L) (hm : m ≤ 14) (hn : n ≤ 14) (hr : risB n 0 L = true) :
    Calls Tryz.prog 290 #[.slice A m c, .pointer (some pn)] w fun e w' => e = .returned (.bool false) ∧ Below w.heap.size w w' := by
  have HR := Lib.hid hr
  clear hr
  go_enter Tryz.func290, Tryz.ntmps290
  go_wp2_with (go_at_call 261; refine (fRising _ _ _ _ _ _ hx hm hn HR.out).mono ?_; rintro e w' ⟨rfl, hb⟩)
  go_ret
  exact ⟨rfl, hb⟩

theorem ris_len {n : Int} : ∀ {m : Int} {xs : List Int}, 0 ≤ m → m ≤ n → risB n m xs = true → m + xs.length ≤ n
  | m, [], _, h, _ => by simp; omega
  | m, y :: ys, h0, hn, h => by
    simp only [risB, Bool.and_eq_true, decide_eq_true_eq] at h
    have := ris_len (m := y + 1) (xs := ys) (by omega) (by omega) h.2
    simp only [List.length_cons]
    omega
set_option maxRecDepth 100000 in
set_option maxHeartbeats 800000 in
theorem index_stray (A : Option Addr) (n c B : Nat) (Ls : List (List Int)) (pn : Addr) (w : World) (hx : Mv w B A n Ls) (hB : B ≤ w.heap.size) (hn : n ≤ 14) (hpb : pn.block < w.heap.size) (hp : w.cell? pn = some (.int .i64 (n : Int))) (hr : ∀ L ∈ Ls, risB n 0 L = true) :
    Calls Tryz.prog 317 #[.slice A n c, .func (.func 290) #[] #[.pointer (some pn)]] w fun e w' => e = .returned (.int .i64 (-1)) ∧ Below w.heap.size w w' := by
  have HL := Lib.hid hx.1
  have HR := Lib.hid hr
  clear hr
  go_enter Tryz.func317, Tryz.ntmps317
  go_wp2
  go_loopw [5, 8] (fun _ i wr => ∃ k : Nat, k ≤ n ∧ i = .int .i64 k ∧ Below w.heap.size w wr) (fun _ i _ => n - (intOf i).toNat)
  case atStart => exact ⟨0, Nat.zero_le _, rfl, Below.refl _ _⟩
  case round =>
    obtain ⟨k, hk, rfl, hb⟩ := hrel
    have hbs := hb.size
    have hxr := hx.below (hb.mono hB)
    have hpr := (hb.cell hpb).trans hp
    by_cases hlt : k < n
    · have hL : Ls[k]? = some (Ls[k]'(by rw [HL.out]; exact hlt)) := List.getElem?_eq_getElem (by rw [HL.out]; exact hlt)
      obtain ⟨ad, A', c', rfl, _, h2, h3, h4⟩ := hxr.2 k _ hL
      have HK := Lib.hid (HR.out _ (List.mem_of_getElem? hL))
      generalize Ls[k]'(by rw [HL.out]; exact hlt) = L at *
      have hlen := ris_len (n := (n : Int)) (Int.le_refl 0) (by omega) HK.out
      have h5 := h4.more (B' := wr.heap.size) (by omega)
      clear hL h4 hxr
      generalize L.length = m at *
      go_wp2_with (go_at_call 290; refine (fStray _ _ _ _ _ _ _ hpr h5 (by omega) hn HK.out).mono ?_; rintro e w1 ⟨rfl, hb1⟩; have hb2 := hb.trans (hb1.mono hbs); clear hb hb1)
      go_roundw
      case rel => exact ⟨k + 1, by omega, by go_num, hb2⟩
      case measure => simp [intOf]; omega
    · go_wp2
      go_ret
      exact ⟨rfl, hb⟩
set_option maxRecDepth 100000 in
set_option maxHeartbeats 400000 in
theorem contains_stray (A : Option Addr) (n c B : Nat) (Ls : List (List Int)) (pn : Addr) (w : World) (hx : Mv w B A n Ls) (hB : B ≤ w.heap.size) (hn : n ≤ 14) (hpb : pn.block < w.heap.size) (hp : w.cell? pn = some (.int .i64 (n : Int))) (hr : ∀ L ∈ Ls, risB n 0 L = true) :
    Calls Tryz.prog 289 #[.slice A n c, .func (.func 290) #[] #[.pointer (some pn)]] w fun e w' => e = .returned (.bool false) ∧ Below w.heap.size w w' := by
  have HR := Lib.hid hr
  clear hr
  go_enter Tryz.func289, Tryz.ntmps289
  go_wp2_with (go_at_call 317; refine (index_stray _ _ _ _ _ _ _ hx hB hn hpb hp HR.out).mono ?_; rintro e w' ⟨rfl, hb⟩)
  go_ret
  exact ⟨rfl, hb⟩
end Go.Proofs.YtibmpjhffeinoaaGreat
