/-
  A board that comes in: slices of numbers, and rows of them.
-/
import Derived.Test.YtibmpjhffeinoaaGreatFb
import Derived.Test.YtibmpjhffeinoaaGreatTRow
import Derived.Deep.Slices
import Derived.Lib.SmallJoins
namespace Go.Proofs.YtibmpjhffeinoaaGreat.Kx
open Go Go.RowKit

/-- A slice of numbers that comes in. -/
def IntSl (W : World) (v : Value) (xs : List Int) : Prop := ∃ (A : Option Addr) (n c : Nat), v = .slice A n c ∧ xs.length = n ∧ n ≤ c ∧ c ≤ 9223372036854775807 ∧ (0 < n → ∃ a, A = some a ∧ Cl W a c (xs.map (Value.int .i64))) ∧ ∀ x ∈ xs, -9223372036854775808 ≤ x ∧ x ≤ 9223372036854775807
/-- A board: rows, and pays. -/
def Board (W : World) (v : Value) (Ls : List (List Int)) (ys : List Int) : Prop := ∃ (A : Option Addr) (n c : Nat) (v' : Value) (vs : List Value), v = .agg #[.slice A n c, v'] ∧ Ls.length = n ∧ n ≤ c ∧ c ≤ 9223372036854775807 ∧ vs.length = n ∧ (0 < n → ∃ a, A = some a ∧ Cl W a c vs) ∧
  (∀ (i : Nat) (L : List Int), Ls[i]? = some L → ∃ u, vs[i]? = some u ∧ IntSl W u L) ∧ IntSl W v' ys
theorem Cl.of {W : World} {a : Addr} {c : Nat} {V : Nat → Value} {vs : List Value} (hc : 0 < c) (h : ∀ i, i < c → W.cell? (a.add i) = some (V i)) (hv : ∀ (i : Nat) v, vs[i]? = some v → i < c ∧ V i = v) : Cl W a c vs := by
  have h0 := h 0 hc
  have e0 : a.add 0 = a := by unfold Addr.add; rw [if_pos rfl]
  rw [e0] at h0
  unfold World.cell? at h0
  split at h0
  · rename_i cs e p hg
    split at h0
    · cases h0
    · rename_i hs
      have ha : a = ⟨a.block, a.off, none⟩ := by
        cases a with
        | mk b o s =>
          cases s with
          | none => rfl
          | some _ => exact absurd rfl hs
      have hi : ∀ i, i < c → cs[a.off + i]? = some (V i) := fun i hi => by
        have h1 := h i hi
        rw [ha, add_at] at h1
        unfold World.cell? at h1
        rw [show (⟨a.block, a.off + i, none⟩ : Addr).block = a.block from rfl, hg] at h1
        exact h1
      refine ⟨cs, e, p, hg, ha, ?_, fun i v hv' => ?_⟩
      · have := (Array.getElem?_eq_some_iff.1 (hi (c - 1) (by omega))).1
        omega
      · obtain ⟨h1, h2⟩ := hv i v hv'
        rw [← h2]
        exact hi i h1
  · cases h0
end Go.Proofs.YtibmpjhffeinoaaGreat.Kx
namespace Go.Proofs.YtibmpjhffeinoaaGreat
open Go.ChangeShapes Go.WideShapes Go.ChangeAt Go.RowKit Go.Deep Go.Joins

theorem i64_bd {x : Int} (h : (Lit.int .i64 x).wf = true) : -9223372036854775808 ≤ x ∧ x ≤ 9223372036854775807 := by
  simp [Lit.wf] at h
  have h1 : IntKind.i64.min = -9223372036854775808 := by decide
  have h2 : IntKind.i64.max = 9223372036854775807 := by decide
  omega
section
variable {H : Type} {enc : TypeId × Value → H}
theorem row_intsl {t e : TypeId} {W : World} {fuel : Nat} {v : Value} {x : DataW H × List MemPlace} (ht : Tryz.prog.underlying t = some (.slice e)) (he : Tryz.prog.underlying e = some (.int .i64)) (hc : Tryz.prog.cellsOf e = 1) (h : DataW.trod enc Tryz.prog W 0 (fun _ => true) true fuel t [v] = some x) : ∃ xs, Kx.IntSl W v xs := by
  rcases open_ints ht he hc h with ⟨hcs, _⟩ | ⟨a, len, cap, zs, hcs, _, hl, hm, hz, hx, hcell, hw⟩
  · simp at hcs
    exact ⟨[], none, 0, 0, hcs, rfl, Nat.le_refl _, by omega, fun h => absurd h (Nat.lt_irrefl _), by simp⟩
  · simp at hcs
    simp only [if_true] at hz
    unfold maxLen at hm
    refine ⟨zs.take len, some a, len, cap, hcs, by simp; omega, hl, by omega, fun h0 => ⟨a, rfl, .of (V := fun i => .int .i64 (zs.getD i 0)) (by omega) (fun i hi => hcell i (by omega)) fun i v hv => ?_⟩, fun x hx => i64_bd (hw x (List.mem_of_mem_take hx))⟩
    have hi := (List.getElem?_eq_some_iff.1 hv).1
    simp only [List.length_map, List.length_take] at hi
    refine ⟨by omega, ?_⟩
    rw [List.getElem?_map, List.getElem?_take_of_lt (by omega), List.getElem?_eq_getElem (by omega)] at hv
    rw [List.getD_eq_getElem?_getD, List.getElem?_eq_getElem (by omega)]
    simpa using hv
set_option maxRecDepth 100000 in
theorem row_board {W : World} {base : Nat} {v : Value} {d : DataW H} {p : List MemPlace} (hok : Value.okWide Tryz.prog W .any base 44 v) (h : DataW.Trod enc Tryz.prog W 0 (fun _ => true) true 44 v d p) : ∃ Ls ys, Kx.Board W v Ls ys := by
  obtain ⟨c0, c1, y0, y1, m, rfl, rfl, rfl, hy0, hy1⟩ := open_agg2 Tryz.underlying44 (by kernel_rfl) (by kernel_rfl) hok h
  obtain ⟨ys, hys⟩ := row_intsl (t := 23) (e := 2) (by kernel_rfl) (by kernel_rfl) (by kernel_rfl) hy1
  rcases open_slice1 (t := 29) (e := 35) (by kernel_rfl) (by kernel_rfl) hy0 with ⟨hc, _⟩ | ⟨a, len, cap, m', n, V, D, Pl, hc, _, hl, hm, hmm, hx, hall⟩
  · simp at hc
    subst hc
    exact ⟨[], ys, none, 0, 0, c1, [], rfl, rfl, Nat.le_refl _, by omega, rfl, fun h => absurd h (Nat.lt_irrefl _), (fun i L h => by simp at h), hys⟩
  · simp at hc
    subst hc
    simp only [if_true] at hmm
    have hmm2 := hmm.symm
    subst hmm2
    unfold maxLen at hm
    obtain ⟨f, hf⟩ := choose_lt (α := List Int) (n := len) (p := fun i q => Kx.IntSl W (V i) q) (fun i hi => row_intsl (t := 35) (e := 3) (by kernel_rfl) (by kernel_rfl) (by kernel_rfl) (hall i (by omega)).2)
    refine ⟨(List.range len).map f, ys, some a, len, cap, c1, (List.range len).map V, rfl, by simp, hl, by omega, by simp, fun h0 => ⟨a, rfl, .of (V := V) (by omega) (fun i hi => (hall i (by omega)).1) fun i v hv => ?_⟩, fun i L hL => ?_, hys⟩
    · have hi := (List.getElem?_eq_some_iff.1 hv).1
      simp only [List.length_map, List.length_range] at hi
      rw [List.getElem?_map, List.getElem?_range hi] at hv
      exact ⟨by omega, by simpa using hv⟩
    · have hi := (List.getElem?_eq_some_iff.1 hL).1
      simp only [List.length_map, List.length_range] at hi
      rw [List.getElem?_map, List.getElem?_range hi] at hL
      refine ⟨V i, by rw [List.getElem?_map, List.getElem?_range hi]; rfl, ?_⟩
      have : f i = L := by simpa using hL
      rw [← this]
      exact hf i hi
end
end Go.Proofs.YtibmpjhffeinoaaGreat
