/-
  Rows of rows of int64, in memory of the call's own.
-/
import Derived.Test.YtloibnmhgocboaaOwn
import Derived.Test.YtloibnmhgocboaaBk
namespace Go.Proofs.Ytloibnmhgocboaa
open Go.RowKit

theorem info_row : (Try.prog.info? 22).map (fun i => (i.zero, i.size, i.bytes)) = some (some (.slice none 0 0), 1, 24) := by kernel_rfl
theorem under_rows : Try.prog.underlying 86 = some (.slice 22) := by kernel_rfl
/-- A row of the call's own of slices. -/
def Oo (w : World) (base : Nat) (A : Option Addr) (n c : Nat) (vs : List Value) : Prop := w.ownsRow base 22 1 (.slice A n c) n vs
theorem own_ne {w : World} {base base' : Nat} {e e' : TypeId} {s s' n n' : Nat} {v v' : Value} {xs xs' : List Value} (h : w.ownsRow base e s v n xs) (h' : w.ownsRow base' e' s' v' n' xs') (hne : e ≠ e') : v.ownBlock = none ∨ v.ownBlock ≠ v'.ownBlock := by
  rcases h.2 with ⟨rfl, _⟩ | ⟨g, cap, cur, rfl, _, hg, _⟩
  · exact .inl rfl
  · rcases h'.2 with ⟨rfl, _⟩ | ⟨g', cap', cur', rfl, _, hg', _⟩
    · exact .inr (by simp [Value.ownBlock])
    · refine .inr fun e0 => ?_
      have e1 : g = g' := by simpa [Value.ownBlock] using e0
      subst e1
      rw [hg] at hg'
      injection hg' with h2
      injection h2 with _ h3
      exact hne h3
theorem Oo.kept {w w' : World} {base n c : Nat} {A : Option Addr} {vs : List Value} {row : Option Nat} (h : Oo w base A n c vs) (hg : w.grownBy w' row) (hne : A.map Addr.block = none ∨ A.map Addr.block ≠ row) : Oo w' base A n c vs :=
  World.ownsRow.kept h hg (by cases A <;> simp_all [Value.ownBlock])
theorem Oo.alloc {w : World} {base n c : Nat} {A : Option Addr} {vs : List Value} (h : Oo w base A n c vs) (o : Obj) : Oo (w.alloc o) base A n c vs := World.ownsRow.alloc h o
theorem Oo.below {w w' : World} {base n c : Nat} {A : Option Addr} {vs : List Value} (h : Oo w base A n c vs) (hb : Below w.heap.size w w') : Oo w' base A n c vs :=
  Oo.kept (row := none) h ⟨hb.os, hb.tape, hb.output, hb.size, fun k hk _ => hb.block k hk⟩ (by cases A <;> simp)
/-- The rows, each of m numbers. -/
def Rows_ (w : World) (base m : Nat) (vs : List Value) (Ls : List (List Int)) : Prop := vs.length = Ls.length ∧ ∀ (i : Nat) (L : List Int), Ls[i]? = some L → ∃ g c, vs[i]? = some (.slice (some ⟨g, 0, none⟩) m c) ∧ Oi w base (some ⟨g, 0, none⟩) m c L
theorem Rows_.mono {w w' : World} {base m : Nat} {vs : List Value} {Ls : List (List Int)} (h : Rows_ w base m vs Ls) (hk : ∀ (g c : Nat) (L : List Int), Oi w base (some ⟨g, 0, none⟩) m c L → Oi w' base (some ⟨g, 0, none⟩) m c L) : Rows_ w' base m vs Ls := ⟨h.1, fun i L hL => by
  obtain ⟨g, c, h1, h2⟩ := h.2 i L hL
  exact ⟨g, c, h1, hk g c L h2⟩⟩
/-- Rows of rows. -/
def RR (w : World) (base : Nat) (A : Option Addr) (n c m : Nat) (Ls : List (List Int)) : Prop := ∃ vs, Oo w base A n c vs ∧ Rows_ w base m vs Ls
theorem RR.len {w : World} {base n c m : Nat} {A : Option Addr} {Ls : List (List Int)} (h : RR w base A n c m Ls) : Ls.length = n := by
  obtain ⟨vs, h1, h2⟩ := h
  have := h1.1
  rw [Nat.mul_one] at this
  rw [← h2.1, this]
theorem RR.below {w w' : World} {base n c m : Nat} {A : Option Addr} {Ls : List (List Int)} (h : RR w base A n c m Ls) (hb : Below w.heap.size w w') : RR w' base A n c m Ls := by
  obtain ⟨vs, h1, h2⟩ := h
  exact ⟨vs, h1.below hb, h2.mono fun g c L h => h.below hb⟩
theorem RR.drewN {w : World} {base n c m : Nat} {A : Option Addr} {Ls : List (List Int)} (h : RR w base A n c m Ls) (d : Nat) : RR (w.drewN d) base A n c m Ls := h
theorem RR.alloc {w : World} {base n c m : Nat} {A : Option Addr} {Ls : List (List Int)} (h : RR w base A n c m Ls) (o : Obj) : RR (w.alloc o) base A n c m Ls := by
  obtain ⟨vs, h1, h2⟩ := h
  exact ⟨vs, h1.alloc o, h2.mono fun g c L h => h.alloc o⟩
/-- A row is read. -/
theorem RR.at_ {w : World} {base n c m : Nat} {A : Option Addr} {Ls : List (List Int)} (h : RR w base A n c m Ls) {i : Nat} (hi : i < n) : ∃ (ad : Addr) (g c' : Nat) (L : List Int), A = some ad ∧ base ≤ ad.block ∧ ad.block < w.heap.size ∧ w.cell? (ad.add i) = some (.slice (some ⟨g, 0, none⟩) m c') ∧ Hid (Ls[i]? = some L) ∧ Oi w base (some ⟨g, 0, none⟩) m c' L := by
  have hl := h.len
  obtain ⟨vs, h1, h2⟩ := h
  have hi2 : i < Ls.length := by omega
  obtain ⟨g, c', h3, h4⟩ := h2.2 i Ls[i] (List.getElem?_eq_getElem hi2)
  obtain ⟨g0, cap, hv, h5, h6⟩ := World.ownsRow.form h1 (by omega)
  have hA : A = some ⟨g0, 0, none⟩ := by injection hv
  subst hA
  refine ⟨⟨g0, 0, none⟩, g, c', Ls[i], rfl, h5, h6, ?_, Lib.hid (List.getElem?_eq_getElem hi2), h4⟩
  have h7 := World.ownsRow.cellAt h1 i (by have := h2.1; omega)
  have h8 : (⟨g0, 0, none⟩ : Addr).add i = ⟨g0, i, none⟩ := by
    simp [Addr.add]
    intro h
    exact h.symm
  rw [h8, h7]
  exact h3
/-- '[][]int64{row}'. -/
theorem RR.lit1 {w : World} {base g m c : Nat} {L : List Int} (hb : base ≤ w.heap.size) (h : Oi w base (some ⟨g, 0, none⟩) m c L) : RR (w.alloc (.cells #[.slice (some ⟨g, 0, none⟩) m c] 22)) base (some ⟨w.heap.size, 0, none⟩) 1 1 m [L] :=
  ⟨[.slice (some ⟨g, 0, none⟩) m c], World.ownsRow_lit w #[.slice (some ⟨g, 0, none⟩) m c] 1 hb (by decide) rfl, rfl, fun i L' hL => by
    match i, hL with
    | 0, hL =>
      simp at hL
      subst hL
      exact ⟨g, c, rfl, h.alloc _⟩⟩
/-- 'out = append(out, row)'. -/
theorem push_row {w : World} {ops : Array Oper} {rest : List Oper} {o : Oper} {a : Act} {Q : Exit → Act → World → Prop} (hgd : o.guard = none) (s x : Operand)
    (ho : o.op = .call { callee := .builtin .append, args := #[s, x], argTypes := #[86, 86] })
    (base : Nat) (A : Option Addr) (n c m : Nat) (Ls : List (List Int)) (hs : a.eval s = .slice A n c) (hown : RR w base A n c m Ls)
    (ad : Addr) (c1 : Nat) (g0 c0 : Nat) (L : List Int) (hx : a.eval x = .slice (some ad) 1 c1) (hz : w.cell? ad = some (.slice (some ⟨g0, 0, none⟩) m c0)) (hrow : Oi w base (some ⟨g0, 0, none⟩) m c0 L) (hlen : n < 1048576) (hbase : base ≤ w.heap.size)
    (h : ∀ g cap w', RR w' base (some ⟨g, 0, none⟩) (n + 1) cap m (Ls ++ [L]) → w.grownBy w' (A.map Addr.block) → wpList Try.prog ops Q rest (a.put o.dst (.slice (some ⟨g, 0, none⟩) (n + 1) cap)) w') : wpList Try.prog ops Q (o :: rest) a w := by
  obtain ⟨i0, hi, hz0, hz1, hz2⟩ := info_parts info_row
  have hll := hown.len
  obtain ⟨vs, h1, h2⟩ := hown
  have hm : n + 1 ≤ maxLen := by unfold maxLen; omega
  refine wpList_append_own w hgd s x _ ho base _ i0 _ 1 24 under_rows hi hz0 hz1 hz2 rfl (by decide) _ n vs hs h1 ad 1 c1 [.slice (some ⟨g0, 0, none⟩) m c0] hx rfl ?_ (by simp [Value.oneCell']) hm (by omega) hbase ?_
  · intro j u hj
    match j, hj with
    | 0, hj => simp at hj; subst hj; exact hz
  · intro v' w' hown' hgrow _
    obtain ⟨g, cap, hv, _, _⟩ := hown'.form (by omega)
    subst hv
    have hgr : w.grownBy w' (A.map Addr.block) := by cases A <;> exact hgrow
    refine h g cap w' ⟨_, hown', ?_⟩ hgr
    have hk : ∀ (g c' : Nat) (L : List Int), Oi w base (some ⟨g, 0, none⟩) m c' L → Oi w' base (some ⟨g, 0, none⟩) m c' L := fun g c' L hO => by
      refine hO.kept hgr ?_
      rcases own_ne hO h1 (by decide) with h3 | h3
      · exact .inl h3
      · refine .inr fun e => h3 ?_
        cases A with
      | none => simp at e
      | some ad => simpa [Value.ownBlock] using e
    refine ⟨by simp [h2.1], fun i L' hL => ?_⟩
    rcases Nat.lt_or_ge i Ls.length with hi3 | hi3
    · rw [List.getElem?_append_left hi3] at hL
      obtain ⟨g1, c1', h5, h6⟩ := h2.2 i L' hL
      exact ⟨g1, c1', by rw [List.getElem?_append_left (by rw [h2.1]; exact hi3)]; exact h5, hk _ _ _ h6⟩
    · have hi4 : i = Ls.length := by
        have := (List.getElem?_eq_some_iff.1 hL).1
        simp at this
        omega
      subst hi4
      simp at hL
      subst hL
      exact ⟨g0, c0, by rw [← h2.1]; simp, hk _ _ _ hrow⟩
theorem RR.lt {w : World} {base n c m : Nat} {A : Option Addr} {Ls : List (List Int)} (h : RR w base A n c m Ls) (k : Nat) (hk : A.map Addr.block = some k) : base ≤ k ∧ k < w.heap.size := by
  obtain ⟨vs, h1, _⟩ := h
  exact World.ownsRow.lt h1 k (by cases A <;> simp_all [Value.ownBlock])
theorem RR.pushed {w wr w1 : World} {B base n c m : Nat} {A : Option Addr} {Ls : List (List Int)} {o : Obj} (ho : RR wr base A n c m Ls) (hb : Below B w wr) (hs : B ≤ wr.heap.size) (hB : B ≤ base)
    (hg : (wr.alloc o).grownBy w1 (A.map Addr.block)) : Below B w w1 :=
  (hb.alloc hs o).grown hg (by simp; omega) fun k hk => Nat.le_trans hB (ho.lt k hk).1
end Go.Proofs.Ytloibnmhgocboaa
