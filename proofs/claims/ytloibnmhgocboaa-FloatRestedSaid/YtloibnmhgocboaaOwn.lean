/-
  Rows of ints that the call itself makes, and writes to.
-/
import Derived.Test.YtloibnmhgocboaaBase
import Derived.Test.YtloibnmhgocboaaPS
namespace Go.Proofs.Ytloibnmhgocboaa
open Go.RowKit

theorem below_grown0 {w w' : World} (h : w.grownBy w' none) : Below w.heap.size w w' := ⟨h.os, h.tape, h.output, h.size, fun k hk => h.block k hk (by simp)⟩
/-- 'make([]int64, n)'. -/
theorem make_ints {w : World} {ops : Array Oper} {rest : List Oper} {o : Oper} {a : Act} {Q : Exit → Act → World → Prop} (hg : o.guard = none) (l c : Operand) (hop : o.op = .makeSlice 22 l c)
    (n : Nat) (V : Int) (hl : a.eval l = .int .i64 V) (hc : a.eval c = .int .i64 V) (hV : V = (n : Int)) (hn : n ≤ 1073741824)
    (h : ∀ w', Oi w' w.heap.size (some ⟨w.heap.size, 0, none⟩) n n (List.replicate n 0) → Below w.heap.size w w' → wpList Try.prog ops Q rest (a.put o.dst (.slice (some ⟨w.heap.size, 0, none⟩) n n)) w') : wpList Try.prog ops Q (o :: rest) a w := by
  obtain ⟨i0, hi, hz0, hz1, hz2⟩ := info_parts info_int
  refine wpList_make_full w hg l c _ hop w.heap.size _ i0 _ 1 under_ints hi hz0 hz1 .i64 .i64 _ _ n hl hc hV hV (by rw [hz2]; omega) (by unfold maxLen; omega) (Nat.le_refl _) ?_
  intro w' hown hgrow
  refine h w' ?_ (below_grown0 hgrow)
  unfold Oi
  have e : (madeCells (Value.int .i64 0).cells (n * 1)).toList = ints (List.replicate n 0) := by
    rw [Nat.mul_one]
    show (madeCells #[Value.int .i64 0] n).toList = _
    rw [toList_madeCells_one]
    simp [ints]
  rw [e] at hown
  exact hown
theorem Oi.row {w : World} {base n c : Nat} {A : Option Addr} {xs : List Int} (h : Oi w base A n c xs) (hn : 0 < n) : ∃ g : Nat, A = some ⟨g, 0, none⟩ ∧ base ≤ g ∧ g < w.heap.size := by
  obtain ⟨g, cap, hv, h1, h2⟩ := World.ownsRow.form h hn
  have hA : A = some ⟨g, 0, none⟩ := by injection hv
  exact ⟨g, hA, h1, h2⟩
theorem Oi.cell {w : World} {base n c g : Nat} {xs : List Int} (h : Oi w base (some ⟨g, 0, none⟩) n c xs) {j : Nat} (hj : j < n) : w.cell? ⟨g, j, none⟩ = some (.int .i64 (nth xs j)) := by
  have hl := h.len
  rw [World.ownsRow.cellAt h j (by omega)]
  simp [ints, nth, List.getElem?_eq_getElem (show j < xs.length by omega)]
theorem Oi.frozen {w : World} {base n c g : Nat} {xs : List Int} (h : Oi w base (some ⟨g, 0, none⟩) n c xs) (j : Nat) : w.frozen? ⟨g, j, none⟩ = false := World.ownsRow.frozenAt h j
theorem Oi.put_ {w : World} {base n c g : Nat} {xs : List Int} (h : Oi w base (some ⟨g, 0, none⟩) n c xs) (j : Nat) (x : Int) : Oi (w.setCell ⟨g, j, none⟩ (.int .i64 x)) base (some ⟨g, 0, none⟩) n c (xs.set j x) := by
  have := (World.ownsRow.stored h j (.int .i64 x)).1
  unfold Oi
  rw [show ints (xs.set j x) = (ints xs).set j (.int .i64 x) from by simp [ints, List.map_set]]
  exact this
theorem nth_set {xs : List Int} {j k : Nat} {x : Int} (hj : j < xs.length) : nth (xs.set j x) k = if j = k then x else nth xs k := by
  unfold nth
  rw [List.getElem?_set]
  by_cases h : j = k
  · subst h; rw [if_pos rfl, if_pos hj, if_pos rfl]; rfl
  · rw [if_neg h, if_neg h]
theorem add_lit0 (g k : Nat) : Addr.add ⟨g, 0, none⟩ k = ⟨g, k, none⟩ := by
  unfold Addr.add
  split
  · rename_i h; subst h; rfl
  · simp
end Go.Proofs.Ytloibnmhgocboaa
