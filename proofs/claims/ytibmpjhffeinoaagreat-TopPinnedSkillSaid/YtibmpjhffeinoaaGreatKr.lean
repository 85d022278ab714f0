/-
  A board in memory, by hand and for the executor; pennyfallref02.Right.
-/
import Derived.Test.YtibmpjhffeinoaaGreatKi0
import Derived.Test.YtibmpjhffeinoaaGreatPk
namespace Go.Proofs.YtibmpjhffeinoaaGreat
open Go.RowKit Go.Shelf

/-! ### A board in memory -/
section
variable {w w' : World} {A : Addr} {c n : Nat} {vs : List Value}
theorem addr_off (a : Addr) (h : a = ⟨a.block, a.off, none⟩) (i : Nat) : a.add i = ⟨a.block, a.off + i, none⟩ := by
  rw [h]
  unfold Addr.add
  split
  · rename_i h0; subst h0; rfl
  · rfl
theorem cl_cell (h : Kx.Cl w A c vs) {i : Nat} {v : Value} (hv : vs[i]? = some v) : w.cell? (A.add i) = some v := by
  obtain ⟨cs, e, p, h1, h2, _, h3⟩ := h
  rw [addr_off A h2 i, cell_of_row w A.block (A.off + i) cs e p h1]
  exact h3 i v hv
theorem cl_lt (h : Kx.Cl w A c vs) : A.block < w.heap.size := by
  obtain ⟨cs, e, p, h1, _⟩ := h
  exact (Array.getElem?_eq_some_iff.1 h1).1
theorem cl_below (h : Kx.Cl w A c vs) (hb : Below w.heap.size w w') : Kx.Cl w' A c vs := by
  have hl := cl_lt h
  obtain ⟨cs, e, p, h1, h2⟩ := h
  exact ⟨cs, e, p, (hb.block _ hl).trans h1, h2⟩
theorem brd_below {A A' : Addr} {As : Nat → Addr} {c c' : Nat} {cs : Nat → Nat} {p : Nat → Nat → Int} {y : Nat → Int} (h : Kx.BrdN w n A A' As c c' cs p y) (hb : Below w.heap.size w w') : Kx.BrdN w' n A A' As c c' cs p y :=
  ⟨h.hc, h.hc', h.hcs, cl_below h.rows hb, fun r hr => cl_below (h.row r hr) hb, cl_below h.pays hb⟩
theorem brow_ri {A : Option Addr} {b : Nat → Int} (h : Kx.bRow w A n b) : Ri w w.heap.size A n ((List.range n).map b) := by
  obtain ⟨g, o, cr, er, rfl, h1, h2⟩ := h
  refine ⟨by simp [ints], fun _ => ⟨⟨g, o, none⟩, rfl, (Array.getElem?_eq_some_iff.1 h1).1, fun j hj => ?_⟩⟩
  have hj' : j < n := by simpa [ints] using hj
  rw [addr_off ⟨g, o, none⟩ rfl j, cell_of_row w g (o + j) cr er (0, 0) h1, h2 j hj']
  simp [ints]
theorem brows_mv {A : Option Addr} {b : Nat → Nat → Int} (h : Kx.bRows w A n b) : Mv w w.heap.size A n (rowsB b n) := by
  obtain ⟨g, o, cr, er, rfl, h1, h2⟩ := h
  refine ⟨by simp [rowsB], fun i L hi => ?_⟩
  have hin : i < n := by
    have := (List.getElem?_eq_some_iff.1 hi).1
    simpa [rowsB] using this
  rw [rowsB_at hin] at hi
  cases hi
  obtain ⟨A', c, e1, e2, e3⟩ := h2 i hin
  refine ⟨⟨g, o, none⟩, A', c, rfl, (Array.getElem?_eq_some_iff.1 h1).1, ?_, by simpa using e2, ?_⟩
  · rw [addr_off ⟨g, o, none⟩ rfl i, cell_of_row w g (o + i) cr er (0, 0) h1, e1]
    simp
  · have := brow_ri e3
    rw [show ((List.range (i + 1)).map fun k => b i k).length = i + 1 from by simp]
    exact this
end
section
variable {w : World} {n : Nat} {A A' : Addr} {As : Nat → Addr} {c c' : Nat} {cs : Nat → Nat} {p : Nat → Nat → Int} {y : Nat → Int}
set_option maxHeartbeats 800000 in
theorem fRight (hb : Kx.BrdN w n A A' As c c' cs p y) {r k : Nat} (hr : r < n) (hk : k ≤ r) (hn : n ≤ 8) (l : Int) (hl : -5 ≤ l ∧ l ≤ 5) (hp : 0 ≤ p r k ∧ p r k ≤ 10) :
    Calls Tryz.prog 20 #[.agg #[.slice (some A) n c, .slice (some A') (n + 1) c'], .int .i64 l, .int .i64 (r : Int), .int .i64 (k : Int)] w fun e w' => e = .returned (.int .i64 (Kx.Rq p l r k)) ∧ Below w.heap.size w w' := by
  have hbk := Bk.new w 44 #[.slice (some A) n c, .slice (some A') (n + 1) c']
  have hb1 := (Below.refl w.heap.size w).alloc (Nat.le_refl _) (.cells #[.slice (some A) n c, .slice (some A') (n + 1) c'] 44)
  have hB := brd_below hb hb1
  generalize hW : w.alloc (.cells #[.slice (some A) n c, .slice (some A') (n + 1) c'] 44) = W at *
  have c0 : W.cell? ⟨w.heap.size, 0, none⟩ = some (.slice (some A) n c) := hbk.cell 0
  have d0 : W.cell? (A.add r) = some (.slice (some (As r)) (r + 1) (cs r)) := cl_cell hB.rows (by rw [List.getElem?_map, List.getElem?_range hr]; rfl)
  have d1 : W.cell? ((As r).add k) = some (.int .i64 (p r k)) := cl_cell (hB.row r hr) (by rw [List.getElem?_map, List.getElem?_range (by omega)]; rfl)
  generalize hx : p r k = x at *
  have hw1 : IntKind.i64.wrap (x + l) = x + l := IntWalk.i64_in _ (by omega)
  have hwr : IntKind.i64.wrap (r : Int) = (r : Int) := IntWalk.i64_in _ (by omega)
  have hwk : IntKind.i64.wrap (k : Int) = (k : Int) := IntWalk.i64_in _ (by omega)
  have hlast : Kx.Rq p l r k = if x + l < 10 then (if 0 < x + l then x + l else 0) else 10 := by
    unfold Kx.Rq Kx.rt1 Kx.mx1
    rw [hx]
    split <;> split <;> (try split) <;> omega
  rw [hlast]
  clear hlast hbk hB hb
  go_enter Tryz.func20, Tryz.ntmps20
  go_wp2
  all_goals (go_ret; exact ⟨rfl, hb1⟩)
end
end Go.Proofs.YtibmpjhffeinoaaGreat
