/-
  A call that leaves the world alone, inside a quiet region.
  What calls come to: a list and numbers, in memory that has grown.
  Lists of uint8; what the law of chapter 04 makes of them.
-/
import Derived.Test.YtibmpjhffeinoaaGreatGa
import Derived.Deep.QuietTactic
import Derived.BigQuiet
import Derived.Test.YtibmpjhffeinoaaGreatTRow
import Derived.RegionTactic
import Derived.BigRegion
namespace Go.Proofs.YtibmpjhffeinoaaGreat
open Go.RowKit

theorem still_in {P : Program} {f : FuncId} {args : Array Value} {w : World} {n : Nat} {v : Value} (h : Calls P f args (w.drewN n) fun e w' => e = .returned v ∧ w.drewN n = w') :
    Calls P f args (w.drewN n) fun e w' => e = .returned v ∧ ∃ m, w' = w.drewN m := h.mono fun _ _ hh => ⟨hh.1, n, hh.2.symm⟩
theorem still_in2 {P : Program} {f : FuncId} {args : Array Value} {w : World} {a n : Nat} {v : Value} (h : Calls P f args (w.drewN (a + n)) fun e w' => e = .returned v ∧ w.drewN (a + n) = w') :
    Calls P f args (w.drewN (a + n)) fun e w' => e = .returned v ∧ ∃ m, w' = w.drewN (a + m) := h.mono fun _ _ hh => ⟨hh.1, n, hh.2.symm⟩
theorem drew_in2 {P : Program} {f : FuncId} {args : Array Value} {w : World} {a n : Nat} {v : Value} (h : Calls P f args (w.drewN (a + n)) fun e w' => e = .returned v ∧ ∃ m, w' = (w.drewN (a + n)).drewN m) :
    Calls P f args (w.drewN (a + n)) fun e w' => e = .returned v ∧ ∃ m, w' = w.drewN (a + m) := h.mono fun _ _ ⟨h1, m, h2⟩ => ⟨h1, n + m, by rw [h2]; simp [World.drewN, Nat.add_assoc]⟩
end Go.Proofs.YtibmpjhffeinoaaGreat

namespace Go.Proofs.YtibmpjhffeinoaaGreat
open Go.RowKit

def RetLI (w : World) (L : List Int) (s r : Int) (e : Ending) (w' : World) : Prop := ∃ (A : Option Addr) (n c : Nat), e = .returned (.tuple #[.slice A n c, .int .i64 s, .int .i64 r]) ∧ Oi w' w.heap.size A n c L ∧ Below w.heap.size w w'
def RetLE (w : World) (L : List Int) (r : Int) (e : Ending) (w' : World) : Prop := ∃ (A : Option Addr) (n c : Nat), e = .returned (.tuple #[.slice A n c, .int .i64 r]) ∧ Oi w' w.heap.size A n c L ∧ Below w.heap.size w w'
def RetII (w : World) (m r : Int) (e : Ending) (w' : World) : Prop := e = .returned (.tuple #[.int .i64 m, .int .i64 r]) ∧ Below w.heap.size w w'
def RetI (w : World) (r : Int) (e : Ending) (w' : World) : Prop := e = .returned (.int .i64 r) ∧ Below w.heap.size w w'
def RetB (w : World) (r : Bool) (e : Ending) (w' : World) : Prop := e = .returned (.bool r) ∧ Below w.heap.size w w'
def RetL (w : World) (L : List Int) (e : Ending) (w' : World) : Prop := ∃ (A : Option Addr) (n c : Nat), e = .returned (.slice A n c) ∧ Oi w' w.heap.size A n c L ∧ Below w.heap.size w w'
end Go.Proofs.YtibmpjhffeinoaaGreat

namespace Go.Proofs.YtibmpjhffeinoaaGreat
open Go.RowKit

/-- A slice of uint8 that is read. -/
def Ru (w : World) (B : Nat) (A : Option Addr) (n : Nat) (xs : List Int) : Prop := Rd w B 1 A n (xs.map (Value.int .u8)) ∧ ∀ x ∈ xs, 0 ≤ x ∧ x ≤ 255
section
variable {w w' : World} {B B' n : Nat} {A : Option Addr} {xs : List Int}
theorem Ru.len (h : Ru w B A n xs) : xs.length = n := by have := h.1.1; rw [List.length_map, Nat.mul_one] at this; exact this
theorem Ru.at_ (h : Ru w B A n xs) {k : Nat} (hk : k < n) : ∃ ad x, A = some ad ∧ ad.block < B ∧ w.cell? (ad.add k) = some (.int .u8 x) ∧ 0 ≤ x ∧ x ≤ 255 ∧ Hid (xs[k]? = some x) := by
  obtain ⟨ad, e, hb, hc⟩ := h.1.2 (Nat.lt_of_le_of_lt (Nat.zero_le _) hk)
  have hl : k < xs.length := by rw [h.len]; exact hk
  have hl' : k < (xs.map (Value.int .u8)).length := by rw [List.length_map]; exact hl
  have hbd := h.2 xs[k] (List.getElem_mem hl)
  refine ⟨ad, xs[k], e, hb, ?_, hbd.1, hbd.2, Lib.hid (List.getElem?_eq_getElem hl)⟩
  rw [hc k hl']
  simp
theorem Ru.below (h : Ru w B A n xs) (hb : Below B w w') : Ru w' B A n xs := ⟨h.1.below hb, h.2⟩
theorem Ru.next (h : Ru w B A n xs) (hb : Below B' w w') (hle : B ≤ B') (hle2 : B' ≤ w'.heap.size) : Ru w' w'.heap.size A n xs := ⟨h.1.next hb hle hle2, h.2⟩
end
theorem u8_lo {x : Int} (h : (Lit.int .u8 x).wf = true) : 0 ≤ x := (u8_bd h).1
theorem u8_hi {x : Int} (h : (Lit.int .u8 x).wf = true) : x ≤ 255 := (u8_bd h).2
theorem Ru.of_row {w : World} {B n : Nat} {A : Option Addr} {xs : List Int} (h : Rd w B 1 A n (xs.map (Value.int .u8))) (hw : ∀ x ∈ xs, (Lit.int .u8 x).wf = true) : Ru w B A n xs := ⟨h, fun x hx => by
  have := hw x hx
  simp [Lit.wf] at this
  have h1 : IntKind.u8.min = 0 := by decide
  have h2 : IntKind.u8.max = 255 := by decide
  omega⟩

set_option maxHeartbeats 400000 in
theorem aPlaced (x : Int) (h0 : 0 ≤ x) (h1 : x ≤ 255) (b : Nat) (HB : Hid ((b : Int) = 1 + x % 8)) (w : World) : Calls Tryz.prog 38 #[.int .u8 x] w fun e w' => e = .returned (.int .i64 (b : Int)) ∧ w = w' := by
  go_enter Tryz.func38, Tryz.ntmps38
  go_wp2
  go_ret
  exact ⟨ret_i HB.out.symm, rfl⟩

def drp (b : Int) (xs : List Int) : List Int := (xs.take 12).map (· % b)
theorem drp_len (b : Int) (xs : List Int) : (drp b xs).length = min 12 xs.length := by simp [drp]
theorem drp_range {b : Int} (hb : 0 < b) (xs : List Int) : ∀ d ∈ drp b xs, 0 ≤ d ∧ d < b := by
  intro d hd
  unfold drp at hd
  rw [List.mem_map] at hd
  obtain ⟨x, _, rfl⟩ := hd
  exact ⟨Int.emod_nonneg _ (by omega), Int.emod_lt_of_pos _ hb⟩
set_option maxHeartbeats 400000 in
theorem aDropped (b : Nat) (A : Option Addr) (n c : Nat) (xs : List Int) (w : World) (hx : Ru w w.heap.size A n xs) (hn : n ≤ 9223372036854775807) (hb1 : 1 ≤ b) (hb8 : b ≤ 8) (D : List Int) (HD : Hid (drp (b : Int) xs = D)) :
    Calls Tryz.prog 39 #[.int .i64 (b : Int), .slice A n c] w (RetL w D) := by
  have HL := Lib.hid hx.len
  go_enter Tryz.func39, Tryz.ntmps39
  go_wp2
  go_loopw [5, 6] (fun o i wr => ∃ (k c2 : Nat) (A2 : Option Addr), k ≤ n ∧ k ≤ 12 ∧ i = .int .i64 k ∧ o = .slice A2 k c2 ∧ Oi wr w.heap.size A2 k c2 ((xs.take k).map (· % (b : Int))) ∧ Below w.heap.size w wr) (fun _ i _ => 12 - (intOf i).toNat)
  case atStart => exact ⟨0, 0, none, by omega, by omega, rfl, rfl, Oi.nil_ _ _, Below.refl _ _⟩
  case round =>
    obtain ⟨k, c2, A2, hk, hk12, rfl, rfl, ho, hb⟩ := hrel
    have hsz := hb.size
    by_cases hlt : k < n
    · by_cases hlt2 : k < 12
      · obtain ⟨ad, x, rfl, hadb, hc0, x0, x1, hxk⟩ := hx.at_ hlt
        have hc : wr.cell? (ad.add k) = some (.int .u8 x) := (hb.cell (by rw [addr_block]; exact hadb)).trans hc0
        clear hc0
        have HX : Hid ((xs.take (k + 1)).map (· % (b : Int)) = (xs.take k).map (· % (b : Int)) ++ [x % (b : Int)]) := Lib.hid (by rw [take_snoc hxk.out, List.map_append]; rfl)
        have hd1 : decide (k < n) = true := decide_eq_true hlt
        have hd2 : decide ((k : Int) < 12) = true := decide_eq_true (by omega)
        have hb1' : 1 ≤ (b : Int) := by omega
        go_wp2_with (at_builtin; refine push_int rfl (.tmp 17) (.tmp 25) rfl (w.heap.size) A2 k c2 ((xs.take k).map (· % (b : Int))) rfl (ho.alloc _) ⟨wr.heap.size, 0, none⟩ 1 _ rfl (cell_new1 _ _ _) (by omega) (by simp only [World.size_alloc]; omega) ?_; intro g cap w1 hown1 hgrow1)
        go_roundw
        case rel => exact ⟨k + 1, _, _, by omega, by omega, by go_num, rfl, by rw [HX.out]; exact hown1, ho.pushed hb hsz (Nat.le_refl _) hgrow1⟩
        case measure => simp [intOf]; omega
      · have HE : Hid ((xs.take k).map (· % (b : Int)) = D) := Lib.hid (by rw [← HD.out]; unfold drp; rw [show k = 12 by omega])
        have hd1 : decide (k < n) = true := decide_eq_true hlt
        have hd2 : decide ((k : Int) < 12) = false := decide_eq_false (by omega)
        go_wp2
        go_ret
        exact ⟨A2, k, c2, rfl, by rw [← HE.out]; exact ho, hb⟩
    · have HE : Hid ((xs.take k).map (· % (b : Int)) = D) := Lib.hid (by
        rw [← HD.out]; unfold drp
        rw [List.take_of_length_le (by rw [HL.out]; omega), List.take_of_length_le (by rw [HL.out]; omega)])
      have hd1 : decide (k < n) = false := decide_eq_false hlt
      go_wp2
      go_ret
      exact ⟨A2, k, c2, rfl, by rw [← HE.out]; exact ho, hb⟩
end Go.Proofs.YtibmpjhffeinoaaGreat
