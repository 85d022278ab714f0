import Derived.Test.YtkeiajncmhkdmaaBase
import Derived.ChangeKeysEq
namespace Go.Proofs.Ytkeiajncmhkdmaa
open Go.RowKit
theorem under_marks : Try.prog.underlying 62 = some (.array 8 3) := by kernel_rfl
theorem under_int : Try.prog.underlying 3 = some (.int .i64) := by kernel_rfl
theorem cells_int : Try.prog.cellsOf 3 = 1 := by kernel_rfl
theorem agg_int (w : World) : (isAgg 3).run Try.prog w = .ok false w := by kernel_rfl
theorem part_int (xs : Array Value) (i : Nat) (x : Int) (w : World) (h : xs[i]? = some (.int .i64 x)) : (part 3 xs (i * 1)).run Try.prog w = .ok (.int .i64 x) w := by
  have hi := (Array.getElem?_eq_some_iff.1 h).1
  simp [part, h]
/-- '==' of two arrays of ints, place by place. -/
theorem eqItems_ints (d : Nat) (w : World) (xs ys : List Int) : ∀ (is : List Nat), (∀ i ∈ is, i < xs.length ∧ i < ys.length) →
    ∃ r : Bool, (Op.eqItems (d + 1) 3 1 (ints xs).toArray (ints ys).toArray is).run Try.prog w = .ok r w ∧ (r = true ↔ ∀ i ∈ is, xs[i]? = ys[i]?)
  | [], _ => ⟨true, by simp [Op.eqItems], by simp⟩
  | i :: is, h => by
    obtain ⟨r', hr', hiff⟩ := eqItems_ints d w xs ys is (fun j hj => h j (by simp [hj]))
    obtain ⟨h1, h2⟩ := h i (by simp)
    have p1 := part_int (ints xs).toArray i xs[i] w (by simp [ints, h1])
    have p2 := part_int (ints ys).toArray i ys[i] w (by simp [ints, h2])
    have p3 := run_equalIn_int (P := Try.prog) (w := w) d 3 .i64 .i64 xs[i] ys[i] under_int
    simp only [Op.eqItems, Sem.run_bind, p1, p2, p3, Result.andThen_ok]
    by_cases e : xs[i] = ys[i]
    · refine ⟨r', by simpa [e] using hr', ?_⟩
      rw [hiff]
      simp [h1, h2, e]
    · exact ⟨false, by simp [e], by simp [h1, h2, e]⟩
theorem eql_marks (xs ys : List Int) (hx : xs.length = 8) (hy : ys.length = 8) (w : World) (r : Bool) (hr : decide (xs = ys) = r) :
    (binOp .eql 62 (.agg (ints xs).toArray) (.agg (ints ys).toArray)).run Try.prog w = .ok (.bool r) w := by
  obtain ⟨i0, hi, _, _, _⟩ := info_parts info_int
  obtain ⟨r', h1, h2⟩ := eqItems_ints 9998 w xs ys (List.range 8) (fun i hi => by have := List.mem_range.1 hi; omega)
  have h3 := run_equalIn_array (P := Try.prog) (w := w) 9999 (ints xs).toArray (ints ys).toArray under_marks hi
  rw [cells_int, h1] at h3
  rw [run_eql_struct, h3]
  have : r' = r := by
    rw [← hr, Bool.eq_iff_iff, h2, decide_eq_true_iff]
    constructor
    · intro h
      apply List.ext_getElem?
      intro i
      rcases Nat.lt_or_ge i 8 with hlt | hge
      · exact h i (List.mem_range.2 hlt)
      · rw [List.getElem?_eq_none (by omega), List.getElem?_eq_none (by omega)]
    · rintro rfl i _
      rfl
  rw [this]
  rfl
end Go.Proofs.Ytkeiajncmhkdmaa
