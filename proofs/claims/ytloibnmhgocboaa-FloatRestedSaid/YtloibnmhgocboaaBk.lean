/-
  Blocks that are known whole, and what an iterator's changes leave as it was.
-/
import Derived.Test.YtloibnmhgocboaaOwn
import Derived.Test.YtloibnmhgocboaaMap
import Derived.WalkMore
import Derived.Below
import Derived.Shelf.RegionOpen
import Derived.RangeFuncBound
import Derived.RangeFuncNested
namespace Go.Proofs.Ytloibnmhgocboaa
open Go.RowKit Go.Shelf

/-- Block k is cells, known whole, none frozen. -/
def Bk (W : World) (k : Nat) (t : TypeId) (cs : Array Value) : Prop := W.heap[k]? = some (.cells cs t (0, 0))
theorem Bk.lt {W : World} {k : Nat} {t : TypeId} {cs : Array Value} (h : Bk W k t cs) : k < W.heap.size := (Array.getElem?_eq_some_iff.1 h).1
theorem Bk.cell {W : World} {k : Nat} {t : TypeId} {cs : Array Value} (h : Bk W k t cs) (i : Nat) : W.cell? ⟨k, i, none⟩ = cs[i]? := cell_of_row W k i cs t (0, 0) h
theorem Bk.frozen {W : World} {k : Nat} {t : TypeId} {cs : Array Value} (h : Bk W k t cs) (i : Nat) : W.frozen? ⟨k, i, none⟩ = false := frozen_of_row W k i cs t h
theorem Bk.new (W : World) (t : TypeId) (cs : Array Value) : Bk (W.alloc (.cells cs t)) W.heap.size t cs := heap_alloc_new W _
theorem Bk.alloc {W : World} {k : Nat} {t : TypeId} {cs : Array Value} (h : Bk W k t cs) (o : Obj) : Bk (W.alloc o) k t cs := (Below.heap_alloc W o k h.lt).trans h
theorem Bk.drew {W : World} {k : Nat} {t : TypeId} {cs : Array Value} (h : Bk W k t cs) : Bk W.drew k t cs := h
theorem Bk.grown {W W' : World} {k : Nat} {t : TypeId} {cs : Array Value} {row : Option Nat} (h : Bk W k t cs) (hg : W.grownBy W' row) (hne : some k ≠ row) : Bk W' k t cs := (hg.block k h.lt hne).trans h
theorem Bk.set_ {W : World} {k : Nat} {t : TypeId} {cs : Array Value} (h : Bk W k t cs) (i : Nat) (u : Value) : Bk (W.setCell ⟨k, i, none⟩ u) k t (cs.setIfInBounds i u) := heap_setCell_same W k i cs t u h
theorem Bk.far {W : World} {k : Nat} {t : TypeId} {cs : Array Value} (h : Bk W k t cs) {p : Addr} (hp : k ≠ p.block) (u : Value) : Bk (W.setCell p u) k t cs := (Below.heap_setCell W p u k hp).trans h
theorem Bk.below {W W' : World} {B k : Nat} {t : TypeId} {cs : Array Value} (h : Bk W k t cs) (hb : Below B W W') (hk : k < B) : Bk W' k t cs := (hb.block k hk).trans h
theorem Bk.from_ {β : Type} (B k : Nat) (t : TypeId) (cs : Array Value) : OwnFrom B (fun (_ : β) W => Bk W k t cs) := fun s W W' row hs hg hr => Bk.grown hs hg fun e => by
  obtain ⟨_, o, ho, hc⟩ := hr k e.symm
  rw [show W.heap[k]? = _ from hs] at ho
  cases ho
  cases hc
theorem Oi.from_ {β : Type} (B base n c : Nat) (A : Option Addr) (xs : List Int) : OwnFrom B (fun (_ : β) W => Oi W base A n c xs) := fun s W W' row hs hg hr => by
  refine Oi.kept hs hg ?_
  cases A with
  | none => exact .inl rfl
  | some ad =>
    refine .inr fun e => ?_
    obtain ⟨_, o, ho, hc⟩ := hr ad.block (by rw [← e]; rfl)
    rcases hs.2 with ⟨h', _⟩ | ⟨g', cap', cur, h', _, hg', _⟩
    · cases h'
    · have hA : ad = ⟨g', 0, none⟩ := by injection h' with h1; injection h1
      subst hA
      rw [hg'] at ho
      cases ho
      cases hc
theorem below_from {β : Type} {base B : Nat} {w0 : World} (hB : base ≤ B) (hs : base ≤ w0.heap.size) : OwnFrom B (fun (_ : β) W => Below base w0 W) := fun _ _ _ _ hs' hg hr => Below.grown hs' hg (Nat.le_trans hs hs'.size) fun k e => Nat.le_trans hB (hr k e).1

theorem Oi.bk_ne {W : World} {base n c k : Nat} {A : Option Addr} {xs : List Int} {t : TypeId} {cs : Array Value} (h : Oi W base A n c xs) (hk : Bk W k t cs) (ht : t ≠ 2) : some k ≠ A.map Addr.block := by
  cases A with
  | none => simp
  | some ad =>
    intro e
    rcases h.2 with ⟨h', _⟩ | ⟨g', cap', cur, h', _, hg', _⟩
    · cases h'
    · have hA : ad = ⟨g', 0, none⟩ := by injection h' with h1; injection h1
      subst hA
      have : k = g' := by simpa using e
      subst this
      rw [show W.heap[k]? = _ from hk] at hg'
      injection hg' with h2
      injection h2 with _ h3
      exact ht h3
theorem Oi.setOther {W : World} {base n c : Nat} {A : Option Addr} {xs : List Int} (h : Oi W base A n c xs) {p : Addr} (hp : some p.block ≠ A.map Addr.block) (u : Value) : Oi (W.setCell p u) base A n c xs :=
  h.kept (row := some p.block) ⟨rfl, rfl, rfl, by simp [World.setCell], fun k _ hk => Below.heap_setCell W p u k (fun e => hk (by rw [e]))⟩ (.inr fun e => hp e.symm)
end Go.Proofs.Ytloibnmhgocboaa
