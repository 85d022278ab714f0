/-
  A board of two rows that comes in: its blocks, as the executor's frozen ones.
-/
import Derived.Test.YtibmpjhffeinoaaGreatO
namespace Go.Proofs.YtibmpjhffeinoaaGreat.Kx
open Go Go.RowKit

/-- A slice's cells: all of its capacity are there, the first ones are vs. -/
def Cl (W : World) (A : Addr) (c : Nat) (vs : List Value) : Prop := ∃ cs e p, W.heap[A.block]? = some (.cells cs e p) ∧ A = ⟨A.block, A.off, none⟩ ∧ A.off + c ≤ cs.size ∧ ∀ (i : Nat) v, vs[i]? = some v → cs[A.off + i]? = some v
def bsz (W : World) (g : Nat) : Nat := match W.heap[g]? with
  | some (.cells c _ _) => c.size
  | _ => 0
noncomputable section
def hB (x0 x1 x2 x3 x4 x5 : AV) : AH := ⟨4, (.n (.n (.n (.n (.n (.n (.n (.n (.n (.n (.n (.n (.n (.n (.n (.l (.froz [.sl (some (1, 0)) 1 (.u 1), .sl (some (2, 0)) 2 (.u 1)])) .e) .e) .e) .e) .e) .e) .e) .e) .e) .e) .e) .e) .e) (.n (.n (.n (.n (.n (.n (.n (.n (.n (.n (.n (.n (.n (.l (.froz [x1, x2])) .e) .e) .e) .e) .e) .e) .e) .e) .e) .e) .e) .e) .e)) (.n (.n (.n (.n (.n (.n (.n (.n (.n (.n (.n (.n (.n (.n (.l (.froz [x0])) .e) .e) .e) .e) .e) .e) .e) .e) .e) .e) .e) .e) .e) (.n (.n (.n (.n (.n (.n (.n (.n (.n (.n (.n (.n (.n (.l (.froz [x3, x4, x5])) .e) .e) .e) .e) .e) .e) .e) .e) .e) .e) .e) .e) .e)))⟩
def hL (x0 x1 : AV) : AH := ⟨1, (.n (.n (.n (.n (.n (.n (.n (.n (.n (.n (.n (.n (.n (.n (.n (.l (.froz [x0, x1])) .e) .e) .e) .e) .e) .e) .e) .e) .e) .e) .e) .e) .e) .e) .e)⟩
variable (x0 x1 x2 x3 x4 x5 : AV)
theorem hB_new : newHK none noH (.froz [.sl (some (1, 0)) 1 (.u 1), .sl (some (2, 0)) 2 (.u 1)]) (fun h => newHK none h (.froz [x0]) fun h => newHK none h (.froz [x1, x2]) fun h => newHK none h (.froz [x3, x4, x5]) fun h => some h) = some (hB x0 x1 x2 x3 x4 x5) := by kernel_rfl
theorem hL_new : newHK none noH (.froz [x0, x1]) (fun h => some h) = some (hL x0 x1) := by kernel_rfl
theorem hB_get {i : Nat} {ao : AO} (h : (hB x0 x1 x2 x3 x4 x5).get i = some ao) : (i = 0 ∧ ao = .froz [.sl (some (1, 0)) 1 (.u 1), .sl (some (2, 0)) 2 (.u 1)]) ∨ (i = 1 ∧ ao = .froz [x0]) ∨ (i = 2 ∧ ao = .froz [x1, x2]) ∨ (i = 3 ∧ ao = .froz [x3, x4, x5]) := by
  obtain ⟨h1, n1, g1, e1⟩ := newHK_some (hB_new x0 x1 x2 x3 x4 x5)
  obtain ⟨h2, n2, g2, e2⟩ := newHK_some e1
  obtain ⟨h3, n3, g3, e3⟩ := newHK_some e2
  obtain ⟨h4, n4, g4, e4⟩ := newHK_some e3
  cases e4
  have n0 : noH.nx = 0 := rfl
  rcases g4 i ao h with ⟨a1, a2⟩ | ⟨_, h⟩
  · exact .inr (.inr (.inr ⟨by omega, a2⟩))
  · rcases g3 i ao h with ⟨a1, a2⟩ | ⟨_, h⟩
    · exact .inr (.inr (.inl ⟨by omega, a2⟩))
    · rcases g2 i ao h with ⟨a1, a2⟩ | ⟨_, h⟩
      · exact .inr (.inl ⟨by omega, a2⟩)
      · rcases g1 i ao h with ⟨a1, a2⟩ | ⟨_, h⟩
        · exact .inl ⟨by omega, a2⟩
        · exact absurd h (noH_get _ _)
theorem hL_get {i : Nat} {ao : AO} (h : (hL x0 x1).get i = some ao) : i = 0 ∧ ao = .froz [x0, x1] := by
  obtain ⟨h1, n1, g1, e1⟩ := newHK_some (hL_new x0 x1)
  cases e1
  have n0 : noH.nx = 0 := rfl
  rcases g1 i ao h with ⟨a1, a2⟩ | ⟨_, h⟩
  · exact ⟨by omega, a2⟩
  · exact absurd h (noH_get _ _)
section
variable [Val] [Bet] {W : World} {φ : Phi} {A : Addr} {c : Nat} {vs : List Value}
theorem Cl.or {xs : List AV} (h : Cl W A c vs) (hx : VRs φ xs vs) (ho : ∀ v ∈ vs, v.oneCell' = true) : ∃ o, W.heap[A.block]? = some o ∧ OR φ (A.off, bsz W A.block) (.froz xs) o := by
  obtain ⟨cs, e, p, h1, h2, h3, h4⟩ := h
  refine ⟨_, h1, cs, e, p, rfl, by unfold bsz; rw [h1], fun j x hj => ?_⟩
  obtain ⟨v, h5, h6⟩ := hx.get hj
  exact ⟨v, h4 j v h5, h6, ho v (List.mem_of_getElem? h5)⟩
omit [Bet] in
theorem Cl.sl {i n : Nat} (h : Cl W A c vs) (hp : φ i = some (A.block, A.off, bsz W A.block)) (hn : n ≤ c) : VR φ (.sl (some (i, 0)) n (.u 1)) (.slice (some A) n c) := by
  obtain ⟨cs, e, p, h1, h2, h3, h4⟩ := h
  refine .slU _ _ _ _ _ _ _ _ hp hn (fun _ => h2) fun _ => ?_
  show A.off + 0 + c * 1 ≤ bsz W A.block
  unfold bsz
  rw [h1]
  simp only
  omega
end
/-- A board of two rows. -/
structure Brd (W : World) (A A0 A1 A' : Addr) (c c0 c1 c' : Nat) (p0 p1 p2 y0 y1 y2 : Int) : Prop where
  hc : 2 ≤ c
  hc0 : 1 ≤ c0
  hc1 : 2 ≤ c1
  hc' : 3 ≤ c'
  rows : Cl W A c [.slice (some A0) 1 c0, .slice (some A1) 2 c1]
  row0 : Cl W A0 c0 [.int .i64 p0]
  row1 : Cl W A1 c1 [.int .i64 p1, .int .i64 p2]
  pays : Cl W A' c' [.int .i64 y0, .int .i64 y1, .int .i64 y2]
def phiB (W : World) (A A0 A1 A' : Addr) : Phi := fun i => match i with
  | 0 => some (A.block, A.off, bsz W A.block)
  | 1 => some (A0.block, A0.off, bsz W A0.block)
  | 2 => some (A1.block, A1.off, bsz W A1.block)
  | 3 => some (A'.block, A'.off, bsz W A'.block)
  | _ => none
variable {x0 x1 x2 x3 x4 x5}
theorem Brd.r [Val] [Bet] {W : World} {A A0 A1 A' : Addr} {c c0 c1 c' : Nat} {p0 p1 p2 y0 y1 y2 : Int} (h : Brd W A A0 A1 A' c c0 c1 c' p0 p1 p2 y0 y1 y2) (h0 : VR (phiB W A A0 A1 A') x0 (.int .i64 p0)) (h1 : VR (phiB W A A0 A1 A') x1 (.int .i64 p1)) (h2 : VR (phiB W A A0 A1 A') x2 (.int .i64 p2))
    (h3 : VR (phiB W A A0 A1 A') x3 (.int .i64 y0)) (h4 : VR (phiB W A A0 A1 A') x4 (.int .i64 y1)) (h5 : VR (phiB W A A0 A1 A') x5 (.int .i64 y2)) :
    R (phiB W A A0 A1 A') (hB x0 x1 x2 x3 x4 x5) W ∧ (∀ i a, (hB x0 x1 x2 x3 x4 x5).get i = some a → a.isF = true) ∧ VR (phiB W A A0 A1 A') (.agg [.sl (some (0, 0)) 2 (.u 1), .sl (some (3, 0)) 3 (.u 1)]) (.agg #[.slice (some A) 2 c, .slice (some A') 3 c']) := by
  have hf : ∀ i a, (hB x0 x1 x2 x3 x4 x5).get i = some a → a.isF = true := fun i a hi => by
    rcases hB_get _ _ _ _ _ _ hi with ⟨_, rfl⟩ | ⟨_, rfl⟩ | ⟨_, rfl⟩ | ⟨_, rfl⟩ <;> rfl
  refine ⟨.frz (fun i a hi => ⟨hf i a hi, ?_⟩) (fun i p hp => ?_), hf, .agg _ _ (.cons _ _ _ _ (h.rows.sl rfl h.hc) (.cons _ _ _ _ (h.pays.sl rfl h.hc') .nil))⟩
  · rcases hB_get _ _ _ _ _ _ hi with ⟨rfl, rfl⟩ | ⟨rfl, rfl⟩ | ⟨rfl, rfl⟩ | ⟨rfl, rfl⟩
    · obtain ⟨o, a1, a2⟩ := h.rows.or (φ := phiB W A A0 A1 A') (.cons _ _ _ _ (h.row0.sl (i := 1) rfl h.hc0) (.cons _ _ _ _ (h.row1.sl (i := 2) rfl h.hc1) .nil)) (by simp [Value.oneCell'])
      exact ⟨by show 0 < 4; omega, _, _, o, rfl, a1, a2⟩
    · obtain ⟨o, a1, a2⟩ := h.row0.or (φ := phiB W A A0 A1 A') (.cons _ _ _ _ h0 .nil) (by simp [Value.oneCell'])
      exact ⟨by show 1 < 4; omega, _, _, o, rfl, a1, a2⟩
    · obtain ⟨o, a1, a2⟩ := h.row1.or (φ := phiB W A A0 A1 A') (.cons _ _ _ _ h1 (.cons _ _ _ _ h2 .nil)) (by simp [Value.oneCell'])
      exact ⟨by show 2 < 4; omega, _, _, o, rfl, a1, a2⟩
    · obtain ⟨o, a1, a2⟩ := h.pays.or (φ := phiB W A A0 A1 A') (.cons _ _ _ _ h3 (.cons _ _ _ _ h4 (.cons _ _ _ _ h5 .nil))) (by simp [Value.oneCell'])
      exact ⟨by show 3 < 4; omega, _, _, o, rfl, a1, a2⟩
  · show i < 4
    unfold phiB at hp
    split at hp <;> first | omega | cases hp
/-- Two rows, of which the lengths are told. -/
def phiL (W : World) (A : Addr) : Phi := fun i => match i with
  | 0 => some (A.block, A.off, bsz W A.block)
  | _ => none
theorem Cl.r [Val] [Bet] {W : World} {A : Addr} {c : Nat} {v0 v1 : Value} (h : Cl W A c [v0, v1]) (o0 : v0.oneCell' = true) (o1 : v1.oneCell' = true) (h0 : VR (phiL W A) x0 v0) (h1 : VR (phiL W A) x1 v1) :
    R (phiL W A) (hL x0 x1) W ∧ (∀ i a, (hL x0 x1).get i = some a → a.isF = true) := by
  have hf : ∀ i a, (hL x0 x1).get i = some a → a.isF = true := fun i a hi => by
    obtain ⟨_, rfl⟩ := hL_get _ _ hi
    rfl
  refine ⟨.frz (fun i a hi => ⟨hf i a hi, ?_⟩) (fun i p hp => ?_), hf⟩
  · obtain ⟨rfl, rfl⟩ := hL_get _ _ hi
    obtain ⟨o, a1, a2⟩ := h.or (φ := phiL W A) (.cons _ _ _ _ h0 (.cons _ _ _ _ h1 .nil)) (by simp [o0, o1])
    exact ⟨by show 0 < 1; omega, _, _, o, rfl, a1, a2⟩
  · show i < 1
    unfold phiL at hp
    split at hp <;> first | omega | cases hp
end
end Go.Proofs.YtibmpjhffeinoaaGreat.Kx
