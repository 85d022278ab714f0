/-
  Words for the rows: bounds that came in. Whether bounds are wide.
-/
import Derived.Test.YtaekjnjignlmoaaRowP
import Derived.Test.YtaekjnjignlmoaaBd
import Derived.Test.YtaekjnjignlmoaaBm
import Derived.Test.YtaekjnjignlmoaaLw2
import Derived.OpenShut
namespace Go.Proofs.Ytaekjnjignlmoaa
open Go.ChangeShapes Go.WideShapes Go.ChangeAt Go.RowKit Go.Deep Go.Joins

theorem rp_of {W : World} {B len : Nat} {a : Addr} (f : Nat → Int × Int) (hb : 0 < len → a.block < B) (hps : ∀ i : Nat, i < len → W.cell? (a.add (i * 2)) = some (.int .i64 (f i).1) ∧ W.cell? (a.add (i * 2 + 1)) = some (.int .i64 (f i).2)) : Rp W B (some a) len ((List.range len).map f) := by
  have hlen : ((List.range len).map f).length = len := by simp
  refine ⟨by rw [pv_length, hlen], fun h0 => ⟨a, rfl, hb h0, fun j hj => ?_⟩⟩
  have hj2 : j < len * 2 := by rw [pv_length, hlen] at hj; exact hj
  have hg := List.getElem?_eq_getElem hj
  have hk : j / 2 < ((List.range len).map f).length := by rw [hlen]; omega
  obtain ⟨g0, g1⟩ := pv_at _ (j / 2) hk
  have e : ((List.range len).map f)[j / 2]? = some (f (j / 2)) := by simp [show j / 2 < len by omega]
  rw [(plc_some e).1] at g0
  rw [(plc_some e).2] at g1
  obtain ⟨k0, k1⟩ := hps (j / 2) (by omega)
  rcases Nat.mod_two_eq_zero_or_one j with hz | hz
  · rw [show j / 2 * 2 = j by omega] at g0 k0
    rw [k0]
    rw [g0] at hg
    exact hg
  · rw [show j / 2 * 2 + 1 = j by omega] at g1 k1
    rw [k1]
    rw [g1] at hg
    exact hg
section
variable {H : Type} {enc : TypeId × Value → H}
set_option maxRecDepth 100000 in
theorem row_pairs {W : World} {v : Value} {fuel : Nat} {x : DataW H × List MemPlace} (h : DataW.trod enc Try.prog W 0 (fun _ => true) true fuel 77 [v] = some x) (hlt : ∀ p ∈ x.2, p.block < W.heap.size) :
    ∃ (A : Option Addr) (n c : Nat) (L : List (Int × Int)), v = .slice A n c ∧ n ≤ c ∧ c ≤ 9223372036854775807 ∧ L.length = n ∧ Rp W W.heap.size A n L := by
  have hce : Try.prog.cellsOf 76 = 2 := by kernel_rfl
  have hci : Try.prog.cellsOf 2 = 1 := by kernel_rfl
  rcases open_slice under_pairs h with ⟨hc, hx⟩ | ⟨a, len, cap, m, n, D, Pl, hc, _, hl, hm, hmm, hx, hall⟩
  · simp at hc
    subst hc
    exact ⟨none, 0, 0, [], rfl, Nat.le_refl _, by omega, rfl, Rd.nil_ _⟩
  · simp at hc
    subst hc
    simp only [if_true] at hmm
    have hmm2 := hmm.symm
    subst hmm2
    obtain ⟨f, hf⟩ := choose_lt (α := Int × Int) (n := len) (p := fun i q => W.cell? (a.add (i * 2)) = some (.int .i64 q.1) ∧ W.cell? (a.add (i * 2 + 1)) = some (.int .i64 q.2)) (fun i hi => by
      obtain ⟨cs', h1, h2⟩ := hall i (by omega)
      rw [hce] at h1
      obtain ⟨_, hlen, hcell⟩ := World.cells?_some h1
      obtain ⟨xs, m', _, _, _, hxl, hxs⟩ := DataW.trod_array under_pair h2
      rw [hci] at hxs
      match cs', hlen with
      | [v0, v1], _ =>
        have k0 := hxs 0 (by omega)
        have k1 := hxs 1 (by omega)
        match xs, hxl with
        | [x0, x1], _ =>
          obtain ⟨z0, e0, _, _⟩ := DataW.trod_int Try.underlying2 k0
          obtain ⟨z1, e1, _, _⟩ := DataW.trod_int Try.underlying2 k1
          simp at e0 e1
          have c0 := hcell 0 (by simp)
          have c1 := hcell 1 (by simp)
          refine ⟨(z0, z1), ?_, ?_⟩
          · rw [add_add, Nat.add_zero] at c0
            rw [c0, ← e0]; rfl
          · rw [add_add] at c1
            rw [c1, ← e1]; rfl)
    refine ⟨some a, len, cap, (List.range len).map f, rfl, hl, by unfold maxLen at hm; omega, by simp, rp_of f (fun h0 => ?_) hf⟩
    have hp := congrArg Prod.snd hx
    refine hlt (.cell a.block (a.off + 0)) ?_
    rw [hp]
    exact List.mem_append_left _ (MemPlace.mem_row.2 ⟨0, by rw [hce]; omega, rfl⟩)
set_option maxRecDepth 100000 in
theorem row_bounds {W : World} {base : Nat} {v : Value} {d : DataW H} {p : List MemPlace} (hok : Value.okWide Try.prog W .any base 47 v) (h : DataW.Trod enc Try.prog W 0 (fun _ => true) true 47 v d p) (hlt : ∀ x ∈ p, x.block < W.heap.size) :
    ∃ (A : Option Addr) (n c : Nat) (Rs : List (List (Int × Int))), v = .slice A n c ∧ n ≤ c ∧ c ≤ 9223372036854775807 ∧ Bd W W.heap.size A n Rs ∧ ∀ L ∈ Rs, L.length ≤ 9223372036854775807 := by
  have hce : Try.prog.cellsOf 77 = 1 := by kernel_rfl
  obtain ⟨a0, len0, cap0, rfl⟩ := okWide_slice under_rowsp hok
  obtain ⟨fuel, hf⟩ := h
  rcases open_slice1 under_rowsp hce hf with ⟨hc, _⟩ | ⟨a, len, cap, m, n, V, D, Pl, hc, _, hl, hm, hmm, hx, hall⟩
  · simp [Value.cells] at hc
    obtain ⟨rfl, rfl, rfl⟩ := hc
    exact ⟨none, 0, 0, [], rfl, Nat.le_refl _, by omega, ⟨[], Rd.nil_ _, rfl, fun i L h => by cases h⟩, by simp⟩
  · simp [Value.cells] at hc
    obtain ⟨rfl, rfl, rfl⟩ := hc
    simp only [if_true] at hmm
    have hmm2 := hmm.symm
    subst hmm2
    have hp : p = _ := congrArg Prod.snd hx
    obtain ⟨g, hg⟩ := choose_lt (α := Option Addr × Nat × Nat × List (Int × Int)) (n := len0) (p := fun i q => W.cell? (a.add i) = some (.slice q.1 q.2.1 q.2.2.1) ∧ q.2.1 ≤ q.2.2.1 ∧ q.2.2.1 ≤ 9223372036854775807 ∧ q.2.2.2.length = q.2.1 ∧ Rp W W.heap.size q.1 q.2.1 q.2.2.2) (fun i hi => by
      obtain ⟨h1, h2⟩ := hall i (by omega)
      obtain ⟨A, k, c, L, e, h3, h4, h5, h6⟩ := row_pairs h2 (fun q hq => hlt q (by
        rw [hp]
        exact List.mem_append_right _ (List.mem_flatMap.2 ⟨i, List.mem_range.2 (by omega), hq⟩)))
      exact ⟨(A, k, c, L), by rw [h1, e], h3, h4, h5, h6⟩)
    refine ⟨some a, len0, cap0, (List.range len0).map fun i => (g i).2.2.2, rfl, hl, by unfold maxLen at hm; omega, ⟨(List.range len0).map fun i => .slice (g i).1 (g i).2.1 (g i).2.2.1, ⟨by simp, fun h0 => ⟨a, rfl, ?_, fun j hj => ?_⟩⟩, by simp, fun i L hL => ?_⟩, fun L hL => ?_⟩
    · refine hlt (.cell a.block (a.off + 0)) ?_
      rw [hp]
      exact List.mem_append_left _ (MemPlace.mem_row.2 ⟨0, by omega, rfl⟩)
    · simp only [List.length_map, List.length_range] at hj
      rw [(hg j hj).1]
      simp
    · have hi : i < len0 := by
        have := (List.getElem?_eq_some_iff.1 hL).1
        simpa using this
      have hLe : L = (g i).2.2.2 := by
        rw [List.getElem?_map, List.getElem?_range hi] at hL
        exact (Option.some.inj hL).symm
      obtain ⟨h1, h2, h3, h4, h5⟩ := hg i hi
      refine ⟨(g i).1, (g i).2.2.1, ?_, by rw [hLe, h4]; exact h2, by rw [hLe, h4]; exact h5⟩
      rw [List.getElem?_map, List.getElem?_range hi, hLe, h4]
      rfl
    · obtain ⟨i, hi, rfl⟩ := List.mem_map.1 hL
      have := hg i (List.mem_range.1 hi)
      omega
end
end Go.Proofs.Ytaekjnjignlmoaa
