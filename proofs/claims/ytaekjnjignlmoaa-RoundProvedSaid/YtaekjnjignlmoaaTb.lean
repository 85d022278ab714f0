/-
  A table of pairs of numbers that is read: its first rows.
-/
import Derived.Test.YtaekjnjignlmoaaBm
namespace Go.Proofs.Ytaekjnjignlmoaa
open Go.RowKit

/-- The first X of N rows, of m pairs each, are known. -/
def Tb (w : World) (B : Nat) (D : Option Addr) (N X m : Nat) (num : Nat → Nat → Nat → Int) : Prop :=
  X ≤ N ∧ ∀ x : Nat, x < X → ∃ (ad rk : Addr) (c : Nat), D = some ad ∧ ad.block < B ∧ w.cell? (ad.add x) = some (.slice (some rk) m c) ∧ m ≤ c ∧ rk.block < B ∧
    ∀ y : Nat, y < m → w.cell? (rk.add (y * 2)) = some (.int .i64 (num x y 0)) ∧ w.cell? ⟨(rk.add (y * 2)).block, (rk.add (y * 2)).off + 1, none⟩ = some (.int .i64 (num x y 1))
section
variable {w w' : World} {B B' N X m : Nat} {D : Option Addr} {num : Nat → Nat → Nat → Int}
theorem Tb.more (h : Tb w B D N X m num) (hB : B ≤ B') : Tb w B' D N X m num := ⟨h.1, fun x hx => by
  obtain ⟨ad, rk, c, h1, h2, h3, h4, h5, h6⟩ := h.2 x hx
  exact ⟨ad, rk, c, h1, by omega, h3, h4, by omega, h6⟩⟩
theorem Tb.below (h : Tb w B D N X m num) (hb : Below B w w') : Tb w' B D N X m num := ⟨h.1, fun x hx => by
  obtain ⟨ad, rk, c, h1, h2, h3, h4, h5, h6⟩ := h.2 x hx
  refine ⟨ad, rk, c, h1, h2, (hb.cell (by rw [addr_block]; exact h2)).trans h3, h4, h5, fun y hy => ⟨(hb.cell (by rw [addr_block]; exact h5)).trans (h6 y hy).1, (hb.cell (by show (rk.add (y * 2)).block < B; rw [addr_block]; exact h5)).trans (h6 y hy).2⟩⟩⟩
theorem Tb.next (h : Tb w B D N X m num) (hb : Below B' w w') (hle : B ≤ B') (hle2 : B' ≤ w'.heap.size) : Tb w' w'.heap.size D N X m num := (h.below (hb.mono hle)).more (Nat.le_trans hle hle2)
theorem Tb.drew (h : Tb w B D N X m num) : Tb w.drew B D N X m num := h
theorem Tb.at_ (h : Tb w B D N X m num) {x y : Nat} (hx : x < X) (hy : y < m) : ∃ (ad rk : Addr) (c : Nat), D = some ad ∧ ad.block < B ∧ w.cell? (ad.add x) = some (.slice (some rk) m c) ∧ m ≤ c ∧ rk.block < B ∧
    w.cell? (rk.add (y * 2)) = some (.int .i64 (num x y 0)) ∧ w.cell? ⟨(rk.add (y * 2)).block, (rk.add (y * 2)).off + 1, none⟩ = some (.int .i64 (num x y 1)) := by
  obtain ⟨ad, rk, c, h1, h2, h3, h4, h5, h6⟩ := h.2 x hx
  exact ⟨ad, rk, c, h1, h2, h3, h4, h5, (h6 y hy).1, (h6 y hy).2⟩
end
theorem Tb.of_bd {w : World} {B N m : Nat} {D : Option Addr} {Rs : List (List (Int × Int))} (h : Bd w B D N Rs) (hm : 0 < m) (hl : ∀ L ∈ Rs, L.length = m) : Tb w B D N N m (gvE Rs) := ⟨Nat.le_refl _, fun x hx => by
  obtain ⟨ad, A', c', k, L, h1, h2, h3, h4, h5, h6, h7⟩ := h.at_ hx
  obtain rfl : m = k := by rw [← h5.out]; exact (hl L (List.mem_of_getElem? h4.out)).symm
  obtain ⟨rk, rfl, h8, _⟩ := h7.at2 hm
  refine ⟨ad, rk, c', h1, h2, h3, h6, h8, fun y hy => ?_⟩
  obtain ⟨rk', e, _, h9, h10⟩ := h7.at2 hy
  obtain rfl := Option.some.inj e
  unfold gvE
  rw [if_pos rfl, if_neg (by decide), h4.out]
  exact ⟨h9, h10⟩⟩
theorem Tb.of_ob {w : World} {O N m : Nat} {ks : List Nat} {F : Nat → Nat → Nat → Int} (h : OB w O N m ks F) : Tb w w.heap.size (some ⟨O, 0, none⟩) N ks.length m F := ⟨h.len, fun x hx => by
  have hk : ks[x]? = some ks[x] := List.getElem?_eq_getElem hx
  refine ⟨⟨O, 0, none⟩, ⟨ks[x], 0, none⟩, m, rfl, h.lt.1, by rw [addr0]; exact h.row hk, Nat.le_refl _, h.lt.2 _ (List.getElem_mem hx), fun y hy => ?_⟩
  rw [addr0]
  exact ⟨h.num hk hy (by decide : 0 < 2), h.num hk hy (by decide : 1 < 2)⟩⟩
end Go.Proofs.Ytaekjnjignlmoaa
