/-
  Words for the rows: a pier that came in.
-/
import Derived.Test.YtaekjnjignlmoaaRow
import Derived.Test.YtaekjnjignlmoaaWd
import Derived.Lib.SmallJoins
import Derived.Deep.SlicePairs
namespace Go.Proofs.Ytaekjnjignlmoaa
open Go.ChangeShapes Go.WideShapes Go.ChangeAt Go.RowKit Go.Deep Go.Joins

def numV : Value → Int
  | .int _ z => z
  | _ => 0
section
variable {H : Type} {enc : TypeId × Value → H}
set_option maxRecDepth 100000 in
theorem row_pier {W : World} {base : Nat} {v : Value} {d : DataW H} {p : List MemPlace} (hok : Value.okWide Try.prog W .any base 24 v) (h : DataW.Trod enc Try.prog W 0 (fun _ => true) true 24 v d p) (hlt : ∀ x ∈ p, x.block < W.heap.size) :
    ∃ (b : Int) (A : Option Addr) (n c : Nat) (ps : List (Int × Int)), v = .agg #[.int .i64 b, .slice A n c] ∧ n ≤ c ∧ c ≤ 9223372036854775807 ∧ Rp W W.heap.size A n ps := by
  obtain ⟨c0, c1, y0, y1, m, rfl, rfl, rfl, hy0, hy1⟩ := open_agg2 Try.underlying24 (by kernel_rfl) (by kernel_rfl) hok h
  obtain ⟨b, e0, rfl, wb⟩ := DataW.trod_int Try.underlying2 hy0
  simp at e0
  subst e0
  rcases open_slice_pairs Try.underlying22 Try.underlying67 (by kernel_rfl) rfl rfl (by kernel_rfl) (by kernel_rfl) hy1 with ⟨hc, hx⟩ | ⟨a, len, cap, m', n', V0, V1, D0, D1, P0, P1, hc, _, hl, hm, hmm, hx, hall⟩
  · simp at hc
    subst hc
    exact ⟨b, none, 0, 0, [], rfl, Nat.le_refl _, by omega, Rd.nil_ _⟩
  · simp at hc
    subst hc
    simp only [if_true] at hmm
    have hmm2 := hmm.symm
    subst hmm2
    have hps : ∀ i : Nat, i < len → W.cell? (a.add (i * 2)) = some (.int .i64 (numV (V0 i))) ∧ W.cell? (a.add (i * 2 + 1)) = some (.int .i64 (numV (V1 i))) := fun i hi => by
      obtain ⟨h0, h1, h2, h3⟩ := hall i (by omega)
      obtain ⟨z0, e0, _, _⟩ := DataW.trod_int Try.underlying2 h2
      obtain ⟨z1, e1, _, _⟩ := DataW.trod_int Try.underlying2 h3
      simp at e0 e1
      rw [h0, h1, e0, e1]
      exact ⟨rfl, rfl⟩
    have hlen : ((List.range len).map fun i => (numV (V0 i), numV (V1 i))).length = len := by simp
    refine ⟨b, some a, len, cap, (List.range len).map fun i => (numV (V0 i), numV (V1 i)), rfl, hl, by unfold maxLen at hm; omega, ?_, fun h0 => ⟨a, rfl, ?_, fun j hj => ?_⟩⟩
    · rw [pv_length, hlen]
    · have hp : y1.2 = MemPlace.row a (cap * 2) ++ (List.range cap).flatMap fun i => P0 i ++ P1 i := congrArg Prod.snd hx
      refine hlt (.cell a.block (a.off + 0)) (List.mem_append_right _ ?_)
      rw [hp]
      exact List.mem_append_left _ (MemPlace.mem_row.2 ⟨0, by omega, rfl⟩)
    · have hj2 : j < len * 2 := by rw [pv_length, hlen] at hj; exact hj
      have hg := List.getElem?_eq_getElem hj
      have hk : j / 2 < ((List.range len).map fun i => (numV (V0 i), numV (V1 i))).length := by rw [hlen]; omega
      obtain ⟨g0, g1⟩ := pv_at _ (j / 2) hk
      have e : ((List.range len).map fun i => (numV (V0 i), numV (V1 i)))[j / 2]? = some (numV (V0 (j / 2)), numV (V1 (j / 2))) := by
        simp [show j / 2 < len by omega]
      rw [(plc_some e).1] at g0
      rw [(plc_some e).2] at g1
      obtain ⟨k0, k1⟩ := hps (j / 2) (by omega)
      rcases Nat.mod_two_eq_zero_or_one j with hz | hz
      · rw [show j / 2 * 2 = j by omega] at g0 k0
        rw [k0]
        rw [g0] at hg
        exact hg
      · rw [show j / 2 * 2 + 1 = j by omega] at g1 k1
        rw [k1]
        rw [g1] at hg
        exact hg
end
end Go.Proofs.Ytaekjnjignlmoaa
