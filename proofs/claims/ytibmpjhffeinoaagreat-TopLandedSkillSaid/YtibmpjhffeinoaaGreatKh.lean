/-
  'both03': the distances if all places are the player's, and if none is.
-/
import Derived.Test.YtibmpjhffeinoaaGreatKg
namespace Go.Proofs.YtibmpjhffeinoaaGreat
open Go.RowKit Go.Shelf

theorem under_bools : Tryz.prog.underlying 34 = some (.slice 4) := by kernel_rfl
theorem info_bool : (Tryz.prog.info? 4).map (fun i => (i.zero, i.size, i.bytes)) = some (some (.bool false), 1, 1) := by kernel_rfl
theorem run_bools (n : Nat) (hn : n ≤ 1000) (w : World) : (Instr.makeSlice 34 (.int .i64 (n : Int)) (.int .i64 (n : Int))).run Tryz.prog w = .ok (.slice (some ⟨w.heap.size, 0, none⟩) n n) (w.alloc (.cells (Array.replicate n (Value.bool false)) 4)) := by
  rw [run_make_row' 34 4 (.bool false) 1 under_bools info_bool rfl .i64 .i64 n (by omega) (by omega) w]
  have : madeCells #[Value.bool false] n = (List.replicate n (Value.bool false)).toArray := by
    apply Array.ext
    · simp [madeCells]
    · intro i h1 h2
      simp [madeCells, Nat.mod_one]
  rw [this, List.toArray_replicate]
/-- The first of n are true. -/
def upto (n k : Nat) : List Bool := (List.range n).map fun i => decide (i < k)
def bools (bs : List Bool) : Array Value := (bs.map Value.bool).toArray
theorem upto_0 (n : Nat) : bools (upto n 0) = Array.replicate n (Value.bool false) := by
  apply Array.ext
  · simp [bools, upto]
  · intro i h1 h2
    simp [bools, upto]
theorem upto_all (n : Nat) : upto n n = List.replicate n true := by
  apply List.ext_getElem?
  intro i
  by_cases h : i < n
  · simp [upto, h]
  · simp [upto, h]
theorem upto_set {n k : Nat} : (bools (upto n k)).setIfInBounds k (.bool true) = bools (upto n (k + 1)) := by
  apply Array.ext
  · simp [bools, upto]
  · intro i h1 h2
    rw [Array.getElem_setIfInBounds]
    · simp only [bools, upto, List.map_map, List.getElem_toArray, List.getElem_map, List.getElem_range, Function.comp]
      split
      · subst_vars; simp
      · congr 1
        simp only [decide_eq_decide]
        omega
    · simpa [bools, upto] using h2
theorem Rb.of_bk {w : World} {g n : Nat} {bs : List Bool} {t : TypeId} (h : Bk w g t (bools bs)) (hl : bs.length = n) : Rb w w.heap.size (some ⟨g, 0, none⟩) n bs := ⟨hl, fun i b hi => ⟨_, rfl, h.lt, by
  rw [add_lit0, h.cell]
  simp [bools, hi]⟩⟩
set_option maxRecDepth 100000 in
set_option maxHeartbeats 1600000 in
theorem fBoth (AM AW : Option Addr) (n cM cW : Nat) (ws : List Bool) (Ms : List (List Int)) (w : World) (hmv : Mv w w.heap.size AM n Ms) (hrb : Rb w w.heap.size AW n ws) (hn1 : 1 ≤ n) (hn14 : n ≤ 14) (hris : ∀ L ∈ Ms, risB n 0 L = true) :
    Calls Tryz.prog 15 #[.slice AM n cM, .slice AW n cW] w fun e w' => ∃ (q1 K1 q2 K2 : Nat), e = .returned (.tuple #[.slice (some ⟨q1, 0, none⟩) n n, .slice (some ⟨q2, 0, none⟩) n n, .bool true]) ∧
      Ri w' w'.heap.size (some ⟨q1, 0, none⟩) n ((rounds (List.replicate n true) Ms ws n K1).take n) ∧ rounds (List.replicate n true) Ms ws n (K1 + 1) = rounds (List.replicate n true) Ms ws n K1 ∧
      Ri w' w'.heap.size (some ⟨q2, 0, none⟩) n ((rounds (List.replicate n false) Ms ws n K2).take n) ∧ rounds (List.replicate n false) Ms ws n (K2 + 1) = rounds (List.replicate n false) Ms ws n K2 ∧ Below w.heap.size w w' := by
  have hmk := run_bools n (by omega)
  have HR := Lib.hid hris
  clear hris
  go_enter Tryz.func15, Tryz.ntmps15
  go_wp2
  have hbA : Below w.heap.size w ((((w.alloc (Obj.cells (Array.replicate n (Value.bool false)) 4)).alloc (Obj.cells #[Value.slice (some { block := w.heap.size, off := 0 }) n n, Value.slice AM n cM, Value.slice AW n cW] 59)).alloc (Obj.cells (Array.replicate n (Value.bool false)) 4)).alloc (Obj.cells #[Value.slice (some { block := w.heap.size + 1 + 1, off := 0 }) n n, Value.slice AM n cM, Value.slice AW n cW] 59)) :=
    ((((Below.refl w.heap.size w).alloc (Nat.le_refl _) _).alloc (by simp) _).alloc (by simp; omega) _).alloc (by simp; omega) _
  have b1 : Bk ((((w.alloc (Obj.cells (Array.replicate n (Value.bool false)) 4)).alloc (Obj.cells #[Value.slice (some { block := w.heap.size, off := 0 }) n n, Value.slice AM n cM, Value.slice AW n cW] 59)).alloc (Obj.cells (Array.replicate n (Value.bool false)) 4)).alloc (Obj.cells #[Value.slice (some { block := w.heap.size + 1 + 1, off := 0 }) n n, Value.slice AM n cM, Value.slice AW n cW] 59)) w.heap.size 4 (bools (List.replicate n false)) := by
    have := (((Bk.new w 4 (Array.replicate n (Value.bool false))).alloc (Obj.cells #[Value.slice (some { block := w.heap.size, off := 0 }) n n, Value.slice AM n cM, Value.slice AW n cW] 59)).alloc (Obj.cells (Array.replicate n (Value.bool false)) 4)).alloc (Obj.cells #[Value.slice (some { block := w.heap.size + 1 + 1, off := 0 }) n n, Value.slice AM n cM, Value.slice AW n cW] 59)
    rw [show bools (List.replicate n false) = Array.replicate n (Value.bool false) from by simp [bools]]
    exact this
  have b2 : Bk ((((w.alloc (Obj.cells (Array.replicate n (Value.bool false)) 4)).alloc (Obj.cells #[Value.slice (some { block := w.heap.size, off := 0 }) n n, Value.slice AM n cM, Value.slice AW n cW] 59)).alloc (Obj.cells (Array.replicate n (Value.bool false)) 4)).alloc (Obj.cells #[Value.slice (some { block := w.heap.size + 1 + 1, off := 0 }) n n, Value.slice AM n cM, Value.slice AW n cW] 59)) (w.heap.size + 1) 59 #[Value.slice (some { block := w.heap.size, off := 0 }) n n, Value.slice AM n cM, Value.slice AW n cW] := by
    have := ((Bk.new (w.alloc (Obj.cells (Array.replicate n (Value.bool false)) 4)) 59 #[Value.slice (some { block := w.heap.size, off := 0 }) n n, Value.slice AM n cM, Value.slice AW n cW]).alloc (Obj.cells (Array.replicate n (Value.bool false)) 4)).alloc (Obj.cells #[Value.slice (some { block := w.heap.size + 1 + 1, off := 0 }) n n, Value.slice AM n cM, Value.slice AW n cW] 59)
    rw [World.size_alloc] at this
    exact this
  have b3 : Bk ((((w.alloc (Obj.cells (Array.replicate n (Value.bool false)) 4)).alloc (Obj.cells #[Value.slice (some { block := w.heap.size, off := 0 }) n n, Value.slice AM n cM, Value.slice AW n cW] 59)).alloc (Obj.cells (Array.replicate n (Value.bool false)) 4)).alloc (Obj.cells #[Value.slice (some { block := w.heap.size + 1 + 1, off := 0 }) n n, Value.slice AM n cM, Value.slice AW n cW] 59)) (w.heap.size + 1 + 1) 4 (bools (upto n 0)) := by
    have := (Bk.new ((w.alloc (Obj.cells (Array.replicate n (Value.bool false)) 4)).alloc (Obj.cells #[Value.slice (some { block := w.heap.size, off := 0 }) n n, Value.slice AM n cM, Value.slice AW n cW] 59)) 4 (Array.replicate n (Value.bool false))).alloc (Obj.cells #[Value.slice (some { block := w.heap.size + 1 + 1, off := 0 }) n n, Value.slice AM n cM, Value.slice AW n cW] 59)
    rw [World.size_alloc, World.size_alloc] at this
    rw [upto_0]
    exact this
  have b4 : Bk ((((w.alloc (Obj.cells (Array.replicate n (Value.bool false)) 4)).alloc (Obj.cells #[Value.slice (some { block := w.heap.size, off := 0 }) n n, Value.slice AM n cM, Value.slice AW n cW] 59)).alloc (Obj.cells (Array.replicate n (Value.bool false)) 4)).alloc (Obj.cells #[Value.slice (some { block := w.heap.size + 1 + 1, off := 0 }) n n, Value.slice AM n cM, Value.slice AW n cW] 59)) (w.heap.size + 1 + 1 + 1) 59 #[Value.slice (some { block := w.heap.size + 1 + 1, off := 0 }) n n, Value.slice AM n cM, Value.slice AW n cW] := by
    have := Bk.new (((w.alloc (Obj.cells (Array.replicate n (Value.bool false)) 4)).alloc (Obj.cells #[Value.slice (some { block := w.heap.size, off := 0 }) n n, Value.slice AM n cM, Value.slice AW n cW] 59)).alloc (Obj.cells (Array.replicate n (Value.bool false)) 4)) 59 #[Value.slice (some { block := w.heap.size + 1 + 1, off := 0 }) n n, Value.slice AM n cM, Value.slice AW n cW]
    rw [World.size_alloc, World.size_alloc, World.size_alloc] at this
    exact this
  generalize hW : ((((w.alloc (Obj.cells (Array.replicate n (Value.bool false)) 4)).alloc (Obj.cells #[Value.slice (some { block := w.heap.size, off := 0 }) n n, Value.slice AM n cM, Value.slice AW n cW] 59)).alloc (Obj.cells (Array.replicate n (Value.bool false)) 4)).alloc (Obj.cells #[Value.slice (some { block := w.heap.size + 1 + 1, off := 0 }) n n, Value.slice AM n cM, Value.slice AW n cW] 59)) = W at *
  have hs : W.heap.size = w.heap.size + 4 := by rw [← hW]; simp
  clear hW hmk
  generalize hB2 : w.heap.size + 1 + 1 + 1 = B3 at *
  generalize hB1 : w.heap.size + 1 + 1 = B2 at *
  have hbW := Below.refl B2 W
  go_loopw [9] (fun i wr => ∃ k : Nat, k ≤ n ∧ i = .int .i64 (k : Int) ∧ Bk wr B2 4 (bools (upto n k)) ∧ Bk wr B3 59 #[Value.slice (some { block := B2, off := 0 }) n n, Value.slice AM n cM, Value.slice AW n cW] ∧ wr.heap.size = w.heap.size + 4 ∧ Below B2 W wr) (fun i _ => n - (intOf i).toNat)
  case atStart => exact ⟨0, Nat.zero_le _, rfl, b3, b4, hs, hbW⟩
  case round =>
    clear b3 b4 hbW
    obtain ⟨k, hk, rfl, b3, b4, hs4, hbW⟩ := hrel
    have c0 : wr.cell? ⟨B3, 0, none⟩ = some (.slice (some { block := B2, off := 0 }) n n) := b4.cell 0
    by_cases hlt : k < n
    · have hwk : IntKind.i64.wrap (k : Int) = (k : Int) := IntWalk.i64_in _ (by omega)
      have f0 := b3.frozen k
      have hck : wr.cell? ⟨B2, k, none⟩ = some (.bool (decide (k < k))) := by
        rw [b3.cell]
        simp [bools, upto, hlt]
      have b5 := b3.set_ k (.bool true)
      rw [upto_set] at b5
      have b6 := b4.far (p := ⟨B2, k, none⟩) (by show B3 ≠ B2; omega) (.bool true)
      have hb7 := hbW.setCell (p := ⟨B2, k, none⟩) (Nat.le_refl _) (.bool true)
      go_wp2
      go_roundw
      case rel => exact ⟨k + 1, by omega, by go_num, b5, b6, by simp [hs4, World.setCell], hb7⟩
      case measure => simp [intOf]; omega
    · obtain rfl : n = k := by omega
      have c1 : wr.cell? ⟨B3, 1, none⟩ = some (.slice AM n cM) := b4.cell 1
      have c2 : wr.cell? ⟨B3, 2, none⟩ = some (.slice AW n cW) := b4.cell 2
      rw [upto_all] at b3
      have hb5 := hbA.trans (hbW.mono (by omega))
      have hmv1 := (hmv.below hb5).more (B' := wr.heap.size) (by omega)
      have hrb1 := (hrb.below hb5).more (B' := wr.heap.size) (by omega)
      have hm1 : Mach wr wr.heap.size (some ⟨B2, 0, none⟩) AM AW n (List.replicate n true) Ms ws := ⟨Rb.of_bk b3 (by simp), hmv1, hrb1, hn1, hn14, HR.out⟩
      have b7 := b1.below hbW (by omega)
      have b8 := b2.below hbW (by omega)
      clear b1 b2 b3 b4 hbW
      have hB : B2 < wr.heap.size := by omega
      go_wp2_with fail
      refine (fDist _ _ _ _ _ _ _ _ _ _ _ hm1).mono ?_
      rintro e w1 ⟨q1, K1, rfl, hq1, hri1, hfx1, hd1⟩
      have hs5 := hd1.size
      have d0 : w1.cell? ⟨w.heap.size + 1, 0, none⟩ = some (.slice (some { block := w.heap.size, off := 0 }) n n) := (b8.below hd1 (by omega)).cell 0
      have d1 : w1.cell? ⟨w.heap.size + 1, 1, none⟩ = some (.slice AM n cM) := (b8.below hd1 (by omega)).cell 1
      have d2 : w1.cell? ⟨w.heap.size + 1, 2, none⟩ = some (.slice AW n cW) := (b8.below hd1 (by omega)).cell 2
      have hmv2 := (hmv1.below hd1).more hs5
      have hrb2 := (hrb1.below hd1).more hs5
      have hm2 : Mach w1 w1.heap.size (some ⟨w.heap.size, 0, none⟩) AM AW n (List.replicate n false) Ms ws := ⟨Rb.of_bk (b7.below hd1 (by omega)) (by simp), hmv2, hrb2, hn1, hn14, HR.out⟩
      have hb6 := hb5.trans (hd1.mono (by omega))
      clear b7 b8 c0 c1 c2 hm1 hmv1 hrb1 hb5
      go_wp2_with fail
      refine (fDist _ _ _ _ _ _ _ _ _ _ _ hm2).mono ?_
      rintro e w2 ⟨q2, K2, rfl, hq2, hri2, hfx2, hd2⟩
      have hri3 := hri1.next hd2 (Nat.le_refl _) hd2.size
      have hb8 := hb6.trans (hd2.mono (by omega))
      clear d0 d1 d2 hm2 hmv2 hrb2 hri1 hd2 hb6
      go_wp2
      go_ret3
      exact ⟨q1, K1, q2, K2, rfl, hri3, hfx1, hri2, hfx2, hb8⟩
end Go.Proofs.YtibmpjhffeinoaaGreat
