import Derived.Test.YtkeiajncmhkdmaaL3
import Derived.WalkMore
namespace Go.Proofs.Ytkeiajncmhkdmaa
open Go.RowKit Go.Shelf
attribute [local go_sem] Oper.semAt_some

theorem cell_old {w : World} {p : Addr} {v : Value} (o : Obj) (h : w.cell? p = some v) : (w.alloc o).cell? p = some v := (World.grownBy_alloc w o none).cell h (by simp)
/-- Block k is cells, known whole, none frozen. -/
def Bk (W : World) (k : Nat) (t : TypeId) (cs : Array Value) : Prop := W.heap[k]? = some (.cells cs t (0, 0))
theorem Bk.lt {W : World} {k : Nat} {t : TypeId} {cs : Array Value} (h : Bk W k t cs) : k < W.heap.size := (Array.getElem?_eq_some_iff.1 h).1
theorem Bk.cell {W : World} {k : Nat} {t : TypeId} {cs : Array Value} (h : Bk W k t cs) (i : Nat) : W.cell? ⟨k, i, none⟩ = cs[i]? := cell_of_row W k i cs t (0, 0) h
theorem Bk.frozen {W : World} {k : Nat} {t : TypeId} {cs : Array Value} (h : Bk W k t cs) (i : Nat) : W.frozen? ⟨k, i, none⟩ = false := frozen_of_row W k i cs t h
theorem Bk.new (W : World) (t : TypeId) (cs : Array Value) : Bk (W.alloc (.cells cs t)) W.heap.size t cs := heap_alloc_new W _
theorem Bk.alloc {W : World} {k : Nat} {t : TypeId} {cs : Array Value} (h : Bk W k t cs) (o : Obj) : Bk (W.alloc o) k t cs := (Below.heap_alloc W o k h.lt).trans h
theorem Bk.drew {W : World} {k : Nat} {t : TypeId} {cs : Array Value} (h : Bk W k t cs) : Bk W.drew k t cs := h
theorem Bk.grown {W W' : World} {k : Nat} {t : TypeId} {cs : Array Value} {row : Option Nat} (h : Bk W k t cs) (hg : W.grownBy W' row) (hne : some k ≠ row) : Bk W' k t cs := (hg.block k h.lt hne).trans h
theorem Bk.set_ {W : World} {k : Nat} {t : TypeId} {cs : Array Value} (h : Bk W k t cs) (i : Nat) (u : Value) : Bk (W.setCell ⟨k, i, none⟩ u) k t (cs.setIfInBounds i u) := heap_setCell_same W k i cs t u h
theorem Bk.far {W : World} {k : Nat} {t : TypeId} {cs : Array Value} (h : Bk W k t cs) {p : Addr} (hp : k ≠ p.block) (u : Value) : Bk (W.setCell p u) k t cs := (Below.heap_setCell W p u k hp).trans h
theorem Bk.below {W W' : World} {B k : Nat} {t : TypeId} {cs : Array Value} (h : Bk W k t cs) (hb : Below B W W') (hk : k < B) : Bk W' k t cs := (hb.block k hk).trans h
theorem Bk.from_ {β : Type} (B k : Nat) (t : TypeId) (cs : Array Value) : OwnFrom B (fun (_ : β) W => Bk W k t cs) := fun s W W' row hs hg hr => Bk.grown hs hg fun e => by
  obtain ⟨_, o, ho, hc⟩ := hr k e.symm
  rw [show W.heap[k]? = _ from hs] at ho
  cases ho
  cases hc
theorem Oi.from_ {β : Type} (B base n c : Nat) (A : Option Addr) (xs : List Int) : OwnFrom B (fun (_ : β) W => Oi W base A n c xs) := fun s W W' row hs hg hr => by
  refine Oi.kept hs hg ?_
  cases A with
  | none => exact .inl rfl
  | some ad =>
    refine .inr fun e => ?_
    obtain ⟨_, o, ho, hc⟩ := hr ad.block (by rw [← e]; rfl)
    rcases hs.2 with ⟨h', _⟩ | ⟨g', cap', cur, h', _, hg', _⟩
    · cases h'
    · have hA : ad = ⟨g', 0, none⟩ := by injection h' with h1; injection h1
      subst hA
      rw [hg'] at ho
      cases ho
      cases hc
theorem below_from {β : Type} {base B : Nat} {w0 : World} (hB : base ≤ B) (hs : base ≤ w0.heap.size) : OwnFrom B (fun (_ : β) W => Below base w0 W) := fun _ _ _ _ hs' hg hr => Below.grown hs' hg (Nat.le_trans hs hs'.size) fun k e => Nat.le_trans hB (hr k e).1

/-- An append of one int, at an operation of a region that draws its order. -/
theorem step_push {ops : Array Oper} {o : Oper} {a : Act} {K : Act → World → Prop} {Q : Exit → Act → World → Prop} {E : Prop} {W : World} (hgd : o.guard = none) (s x : Operand)
    (ho : o.op = .call { callee := .builtin .append, args := #[s, x], argTypes := #[22, 22] })
    (base : Nat) (A : Option Addr) (n c : Nat) (xs : List Int) (hs : a.eval s = .slice A n c) (hown : Oi W base A n c xs) (ad : Addr) (c' : Nat) (z : Int) (hx : a.eval x = .slice (some ad) 1 c')
    (hz : W.cell? ad = some (.int .i64 z)) (hn : n < 1099511627776) (hbase : base ≤ W.heap.size)
    (hK : ∀ g cap W', Oi W' base (some ⟨g, 0, none⟩) (n + 1) cap (xs ++ [z]) → W.grownBy W' (A.map Addr.block) → K (a.put o.dst (.slice (some ⟨g, 0, none⟩) (n + 1) cap)) W') :
    if Region.wanted o (yielded ops a.tmps) = true then Oper.wp Try.prog o a W K Q else E := by
  obtain ⟨i0, hi, hz0, hz1, hz2⟩ := info_parts info_int
  have hm : n + 1 ≤ maxLen := by unfold maxLen; omega
  refine step_append_lies (P := Try.prog) W hgd s x 22 ho base 3 i0 (.int .i64 0) 1 8 under_ints hi hz0 hz1 hz2 rfl (by decide) _ n (ints xs) hs hown ad 1 c' [.int .i64 z] hx rfl (by
    intro j u hj
    match j, hj with
    | 0, hj => simp at hj; subst hj; exact hz) (by simp [Value.oneCell']) (by decide) hm (by omega) hbase _ rfl ?_
  intro g cap w' hown' hgrow _ _
  refine hK g cap w' ?_ ?_
  · unfold Oi; rw [ints_append]; exact hown'
  · cases A <;> exact hgrow

/-- Only block g, row r and what is new have turned. -/
structure Only (W W' : World) (g : Nat) (r : Option Nat) : Prop where
  os : W'.os = W.os
  tape : W'.tape = W.tape
  output : W'.output = W.output
  size : W.heap.size ≤ W'.heap.size
  block : ∀ k, k < W.heap.size → k ≠ g → some k ≠ r → W'.heap[k]? = W.heap[k]?
theorem Only.refl (W : World) (g : Nat) (r : Option Nat) : Only W W g r := ⟨rfl, rfl, rfl, Nat.le_refl _, fun _ _ _ _ => rfl⟩
theorem Only.drew {W W' : World} {g : Nat} {r : Option Nat} (h : Only W W' g r) : Only W W'.drew g r := ⟨h.os, h.tape, h.output, h.size, h.block⟩
theorem Only.alloc {W W' : World} {g : Nat} {r : Option Nat} (h : Only W W' g r) (o : Obj) : Only W (W'.alloc o) g r :=
  ⟨h.os, h.tape, h.output, by simp; exact Nat.le_succ_of_le h.size, fun k hk h1 h2 => (Below.heap_alloc W' o k (Nat.lt_of_lt_of_le hk h.size)).trans (h.block k hk h1 h2)⟩
theorem Only.setCell {W W' : World} {g : Nat} {r : Option Nat} (h : Only W W' g r) (i : Nat) (u : Value) : Only W (W'.setCell ⟨g, i, none⟩ u) g r :=
  ⟨h.os, h.tape, h.output, by simpa [World.setCell] using h.size, fun k hk h1 h2 => (Below.heap_setCell W' _ u k h1).trans (h.block k hk h1 h2)⟩
theorem Only.grown {W W' W2 : World} {g : Nat} {r row : Option Nat} (h : Only W W' g r) (hg : W'.grownBy W2 row) (hr : row = r) : Only W W2 g r :=
  ⟨hg.os.trans h.os, hg.tape.trans h.tape, hg.output.trans h.output, Nat.le_trans h.size hg.size, fun k hk h1 h2 => (hg.block k (Nat.lt_of_lt_of_le hk h.size) (by rw [hr]; exact h2)).trans (h.block k hk h1 h2)⟩
theorem Only.below {W W' : World} {g base : Nat} {r : Option Nat} (h : Only W W' g r) (hg : base ≤ g) (hr : ∀ k, r = some k → base ≤ k) (hs : base ≤ W.heap.size) : Below base W W' :=
  ⟨h.os, h.tape, h.output, h.size, fun k hk => h.block k (Nat.lt_of_lt_of_le hk hs) (by omega) (fun e => by have := hr k e.symm; omega)⟩
theorem Only.bk {W W' : World} {g k : Nat} {r : Option Nat} {t : TypeId} {cs : Array Value} (h : Only W W' g r) (hk : Bk W k t cs) (hg : k ≠ g) (hr : some k ≠ r) : Bk W' k t cs := (h.block k hk.lt hg hr).trans hk
theorem Oi.bk_ne {W : World} {base n c k : Nat} {A : Option Addr} {xs : List Int} {t : TypeId} {cs : Array Value} (h : Oi W base A n c xs) (hk : Bk W k t cs) (ht : t ≠ 3) : some k ≠ A.map Addr.block := by
  cases A with
  | none => simp
  | some ad =>
    intro e
    rcases h.2 with ⟨h', _⟩ | ⟨g', cap', cur, h', _, hg', _⟩
    · cases h'
    · have hA : ad = ⟨g', 0, none⟩ := by injection h' with h1; injection h1
      subst hA
      have : k = g' := by simpa using e
      subst this
      rw [show W.heap[k]? = _ from hk] at hg'
      injection hg' with h2
      injection h2 with _ h3
      exact ht h3
theorem Oi.setOther {W : World} {base n c : Nat} {A : Option Addr} {xs : List Int} (h : Oi W base A n c xs) {p : Addr} (hp : some p.block ≠ A.map Addr.block) (u : Value) : Oi (W.setCell p u) base A n c xs :=
  h.kept (row := some p.block) ⟨rfl, rfl, rfl, by simp [World.setCell], fun k _ hk => Below.heap_setCell W p u k (fun e => hk (by rw [e]))⟩ (.inr fun e => hp e.symm)
end Go.Proofs.Ytkeiajncmhkdmaa
