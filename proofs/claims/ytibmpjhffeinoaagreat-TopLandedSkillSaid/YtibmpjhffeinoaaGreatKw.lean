/-
  Words of this claim for memory: slices that are read, slices that the call itself makes, worlds that grow. No function of the program is named here.
  What calls come to: a list and numbers, in memory that has grown.
  A call that leaves the world alone, inside a quiet region.
  A region that draws its order, walked ahead of its tail: an operation that is wanted, one that is passed over.
  Rows of ints that the call itself makes, and writes to.
  Rows of numbers of the type int, that the call itself makes.
  Blocks that are known whole, and what an iterator's changes leave as it was.
-/
import Derived.Test.YtibmpjhffeinoaaGreatProg
import Derived.WalkKit
import Derived.WalkSpells
import Derived.WalkLawsBesides
import Derived.Lib.Hide
import Derived.Deep.AppendLies
import Derived.Deep.Draws
import Derived.Maps.AppendAt
import Derived.Deep.QuietTactic
import Derived.BigQuiet
import Derived.StillTailTactics
import Derived.WalkMore
import Derived.Below
import Derived.Shelf.RegionOpen
import Derived.RangeFuncBound
import Derived.RangeFuncNested
namespace Go.Proofs.YtibmpjhffeinoaaGreat
open Go.RowKit

def nth (xs : List Int) (k : Nat) : Int := xs[k]?.getD 0

theorem ret_i {a b : Int} (h : a = b) : Ending.returned (.int .i64 a) = .returned (.int .i64 b) := by rw [h]
theorem ret_b {a b : Bool} (h : a = b) : Ending.returned (.bool a) = .returned (.bool b) := by rw [h]
/-! ### Addresses -/
theorem addr_block (a : Addr) (n : Nat) : (a.add n).block = a.block := by unfold Addr.add; split <;> rfl
theorem addr_zero (a : Addr) : a.add 0 = a := rfl
theorem addr_add (a : Addr) (i j : Nat) : (a.add i).add j = a.add (i + j) := by
  unfold Addr.add
  rcases Nat.eq_zero_or_pos i with rfl | hi
  · simp
  · rcases Nat.eq_zero_or_pos j with rfl | hj
    · simp [Nat.pos_iff_ne_zero.1 hi]
    · simp [Nat.pos_iff_ne_zero.1 hi, Nat.pos_iff_ne_zero.1 hj, Nat.add_assoc]

/-! ### A slice that is read: n elements of 'size' cells, which lie below block B -/
def Rd (w : World) (B size : Nat) (A : Option Addr) (n : Nat) (cs : List Value) : Prop :=
  cs.length = n * size ∧ (0 < n → ∃ ad, A = some ad ∧ ad.block < B ∧ ∀ j (h : j < cs.length), w.cell? (ad.add j) = some cs[j])

section
variable {w w' : World} {B B' size n : Nat} {A : Option Addr} {cs : List Value}
theorem Rd.keep (h : Rd w B size A n cs) (hk : ∀ p : Addr, p.block < B → w'.cell? p = w.cell? p) : Rd w' B size A n cs :=
  ⟨h.1, fun hn => let ⟨ad, e, hb, hc⟩ := h.2 hn; ⟨ad, e, hb, fun j hj => (hk _ (by rw [addr_block]; exact hb)).trans (hc j hj)⟩⟩
theorem Rd.more (h : Rd w B size A n cs) (hB : B ≤ B') : Rd w B' size A n cs :=
  ⟨h.1, fun hn => let ⟨ad, e, hb, hc⟩ := h.2 hn; ⟨ad, e, Nat.lt_of_lt_of_le hb hB, hc⟩⟩
theorem Rd.below (h : Rd w B size A n cs) (hb : Below B w w') : Rd w' B size A n cs := h.keep fun _ hp => hb.cell hp
theorem Rd.below' (h : Rd w B size A n cs) (hb : Below B' w w') (hle : B ≤ B') : Rd w' B size A n cs := h.below (hb.mono hle)
theorem Rd.next (h : Rd w B size A n cs) (hb : Below B' w w') (hle : B ≤ B') (hle2 : B' ≤ w'.heap.size) : Rd w' w'.heap.size size A n cs := (h.below' hb hle).more (Nat.le_trans hle hle2)
theorem Rd.alloc (h : Rd w B size A n cs) (hB : B ≤ w.heap.size) (o : Obj) : Rd (w.alloc o) B size A n cs := h.keep fun p hp => World.cell?_alloc_lt w o p (Nat.lt_of_lt_of_le hp hB)
theorem Rd.drewN (h : Rd w B size A n cs) (k : Nat) : Rd (w.drewN k) B size A n cs := h
theorem Rd.drew (h : Rd w B size A n cs) : Rd w.drew B size A n cs := h
theorem Rd.setCell (h : Rd w B size A n cs) {p : Addr} (hB : B ≤ p.block) (u : Value) : Rd (w.setCell p u) B size A n cs :=
  h.keep fun q hq => World.cell?_setCell_other w p q u (fun e => by subst e; exact absurd hq (Nat.not_lt.2 hB))
theorem Rd.grown (h : Rd w B size A n cs) {row : Option Nat} (hg : w.grownBy w' row) (hB : B ≤ w.heap.size) (hr : ∀ g, row = some g → B ≤ g) : Rd w' B size A n cs :=
  h.keep fun p hp => World.cell?_of_block (hg.block p.block (Nat.lt_of_lt_of_le hp hB) (fun e => absurd (hr _ e.symm) (Nat.not_le.2 hp)))
theorem Rd.nil_ (A : Option Addr) : Rd w B size A 0 [] := ⟨by simp, fun h => absurd h (Nat.lt_irrefl 0)⟩
theorem Rd.of_own {base : Nat} {e : TypeId} {c : Nat} (h : w.ownsRow base e size (.slice A n c) n cs) : Rd w w.heap.size size A n cs := by
  refine ⟨h.1, fun hn => ?_⟩
  obtain ⟨g, cap, hv, _, hlt⟩ := h.form hn
  have hA : A = some ⟨g, 0, none⟩ := by injection hv
  subst hA
  exact ⟨_, rfl, hlt, fun j hj => h.cells (g := g) rfl j _ (List.getElem?_eq_getElem hj)⟩
end

/-! ### Integers -/
def ints (xs : List Int) : List Value := xs.map (Value.int .i64)
theorem ints_length (xs : List Int) : (ints xs).length = xs.length := by simp [ints]
theorem ints_append (xs ys : List Int) : ints (xs ++ ys) = ints xs ++ ints ys := by simp [ints]

/-- A slice of ints that is read. -/
def Ri (w : World) (B : Nat) (A : Option Addr) (n : Nat) (xs : List Int) : Prop := Rd w B 1 A n (ints xs)
/-- A slice of ints in a row of the call's own (blocks from 'base' on). -/
def Oi (w : World) (base : Nat) (A : Option Addr) (n c : Nat) (xs : List Int) : Prop := w.ownsRow base 2 1 (.slice A n c) n (ints xs)

section
variable {w w' : World} {B B' base n c : Nat} {A : Option Addr} {xs : List Int}
theorem Ri.len (h : Ri w B A n xs) : xs.length = n := by have := h.1; rw [ints_length, Nat.mul_one] at this; exact this
theorem Ri.at_ (h : Ri w B A n xs) {k : Nat} (hk : k < n) : ∃ ad x, A = some ad ∧ ad.block < B ∧ w.cell? (ad.add k) = some (.int .i64 x) ∧ Hid (xs[k]? = some x) ∧ Hid (x = xs[k]?.getD 0) := by
  obtain ⟨ad, e, hb, hc⟩ := h.2 (Nat.lt_of_le_of_lt (Nat.zero_le _) hk)
  have hl : k < xs.length := by rw [h.len]; exact hk
  have hl' : k < (ints xs).length := by rw [ints_length]; exact hl
  refine ⟨ad, xs[k], e, hb, ?_, Lib.hid (List.getElem?_eq_getElem hl), Lib.hid (by rw [List.getElem?_eq_getElem hl]; rfl)⟩
  rw [hc k hl']
  simp [ints]
theorem Ri.keep (h : Ri w B A n xs) (hk : ∀ p : Addr, p.block < B → w'.cell? p = w.cell? p) : Ri w' B A n xs := Rd.keep h hk
theorem Ri.more (h : Ri w B A n xs) (hB : B ≤ B') : Ri w B' A n xs := Rd.more h hB
theorem Ri.below (h : Ri w B A n xs) (hb : Below B w w') : Ri w' B A n xs := Rd.below h hb
theorem Ri.below' (h : Ri w B A n xs) (hb : Below B' w w') (hle : B ≤ B') : Ri w' B A n xs := Rd.below' h hb hle
theorem Ri.next (h : Ri w B A n xs) (hb : Below B' w w') (hle : B ≤ B') (hle2 : B' ≤ w'.heap.size) : Ri w' w'.heap.size A n xs := Rd.next h hb hle hle2
theorem Ri.alloc (h : Ri w B A n xs) (hB : B ≤ w.heap.size) (o : Obj) : Ri (w.alloc o) B A n xs := Rd.alloc h hB o
theorem Ri.drewN (h : Ri w B A n xs) (k : Nat) : Ri (w.drewN k) B A n xs := h
theorem Ri.drew (h : Ri w B A n xs) : Ri w.drew B A n xs := h
theorem Ri.setCell (h : Ri w B A n xs) {p : Addr} (hB : B ≤ p.block) (u : Value) : Ri (w.setCell p u) B A n xs := Rd.setCell h hB u
theorem Ri.grown (h : Ri w B A n xs) {row : Option Nat} (hg : w.grownBy w' row) (hB : B ≤ w.heap.size) (hr : ∀ g, row = some g → B ≤ g) : Ri w' B A n xs := Rd.grown h hg hB hr
theorem Ri.nil_ (A : Option Addr) : Ri w B A 0 [] := Rd.nil_ A
theorem Oi.ri (h : Oi w base A n c xs) : Ri w w.heap.size A n xs := Rd.of_own h
theorem Oi.len (h : Oi w base A n c xs) : xs.length = n := h.ri.len
theorem Oi.nil_ (w : World) (base : Nat) : Oi w base none 0 0 [] := World.ownsRow_nil _ _ _ _
theorem Oi.lt (h : Oi w base A n c xs) (k : Nat) (hk : A.map Addr.block = some k) : base ≤ k ∧ k < w.heap.size := World.ownsRow.lt h k (by cases A <;> simp_all [Value.ownBlock])
theorem Oi.kept {row : Option Nat} (h : Oi w base A n c xs) (hg : w.grownBy w' row) (hne : A.map Addr.block = none ∨ A.map Addr.block ≠ row) : Oi w' base A n c xs :=
  World.ownsRow.kept h hg (by cases A <;> simp_all [Value.ownBlock])
theorem Oi.alloc (h : Oi w base A n c xs) (o : Obj) : Oi (w.alloc o) base A n c xs := World.ownsRow.alloc h o
theorem Oi.drew (h : Oi w base A n c xs) : Oi w.drew base A n c xs := h
theorem Oi.drewN (h : Oi w base A n c xs) (k : Nat) : Oi (w.drewN k) base A n c xs := h
theorem Oi.below (h : Oi w base A n c xs) (hb : Below w.heap.size w w') : Oi w' base A n c xs :=
  Oi.kept (row := none) h ⟨hb.os, hb.tape, hb.output, hb.size, fun k hk _ => hb.block k hk⟩ (by cases A <;> simp)
end

theorem own_base {w : World} {base base' : Nat} {e : TypeId} {size n : Nat} {v : Value} {cs : List Value} (h : w.ownsRow base e size v n cs) (hB : base' ≤ base) : w.ownsRow base' e size v n cs :=
  ⟨h.1, h.2.imp id fun ⟨g, cap, cur, h1, h2, h3⟩ => ⟨g, cap, cur, h1, Nat.le_trans hB h2, h3⟩⟩
theorem Oi.base {w : World} {base base' n c : Nat} {A : Option Addr} {xs : List Int} (h : Oi w base A n c xs) (hB : base' ≤ base) : Oi w base' A n c xs := own_base h hB
/-- The int type's row of the table. -/
theorem info_int : (Tryz.prog.info? 2).map (fun i => (i.zero, i.size, i.bytes)) = some (some (.int .i64 0), 1, 8) := by kernel_rfl
theorem under_ints : Tryz.prog.underlying 23 = some (.slice 2) := by kernel_rfl

/-- 'out = append(out, x)', out a slice of ints of the call's own. -/
theorem push_int {w : World} {ops : Array Oper} {rest : List Oper} {o : Oper} {a : Act} {Q : Exit → Act → World → Prop} (hgd : o.guard = none) (s x : Operand)
    (ho : o.op = .call { callee := .builtin .append, args := #[s, x], argTypes := #[23, 23] })
    (base : Nat) (A : Option Addr) (n c : Nat) (xs : List Int) (hs : a.eval s = .slice A n c) (hown : Oi w base A n c xs)
    (ad : Addr) (c' : Nat) (z : Int) (hx : a.eval x = .slice (some ad) 1 c') (hz : w.cell? ad = some (.int .i64 z)) (hlen : n < 1099511627776) (hbase : base ≤ w.heap.size)
    (h : ∀ g cap w', Oi w' base (some ⟨g, 0, none⟩) (n + 1) cap (xs ++ [z]) → w.grownBy w' (A.map Addr.block) → wpList Tryz.prog ops Q rest (a.put o.dst (.slice (some ⟨g, 0, none⟩) (n + 1) cap)) w') : wpList Tryz.prog ops Q (o :: rest) a w := by
  obtain ⟨i0, hi, hz0, hz1, hz2⟩ := info_parts info_int
  have hm : n + 1 ≤ maxLen := by unfold maxLen; omega
  refine wpList_append_own w hgd s x _ ho base _ i0 _ 1 8 under_ints hi hz0 hz1 hz2 rfl (by decide) _ n (ints xs) hs hown ad 1 c' [.int .i64 z] hx rfl ?_ (by simp [Value.oneCell']) hm (by omega) hbase ?_
  · intro j u hj
    match j, hj with
    | 0, hj => simp at hj; subst hj; exact hz
  · intro v' w' hown' hgrow _
    obtain ⟨g, cap, hv, _, _⟩ := hown'.form (by omega)
    subst hv
    refine h g cap w' ?_ ?_
    · unfold Oi; rw [ints_append]; exact hown'
    · cases A <;> exact hgrow

theorem flip_same {P : Program} {f : FuncId} {args : Array Value} {w : World} {v : Value} (h : Calls P f args w fun e w' => e = .returned v ∧ w = w') : Calls P f args w fun e w' => e = .returned v ∧ w' = w := h.mono fun _ _ ⟨a, b⟩ => ⟨a, b.symm⟩
theorem Oi.setBelow {w : World} {base n c : Nat} {A : Option Addr} {xs : List Int} (h : Oi w base A n c xs) {p : Addr} (hp : p.block < base) (u : Value) : Oi (w.setCell p u) base A n c xs := ownsRow_setCell_below h hp u
theorem cell_new1 (w : World) (x : Value) (t : TypeId) : (w.alloc (.cells #[x] t)).cell? ⟨w.heap.size, 0, none⟩ = some x := cell_one_new w x t 0 x rfl
/-- Behind a call that makes memory: the old cells and marks read as before. -/
theorem bcell {W w1 : World} {B : Nat} (hb : Below B W w1) : (∀ b o, b < B → w1.cell? ⟨b, o, none⟩ = W.cell? ⟨b, o, none⟩) ∧ (∀ b o, b < B → w1.frozen? ⟨b, o, none⟩ = W.frozen? ⟨b, o, none⟩) :=
  ⟨fun b o h => hb.cell (p := ⟨b, o, none⟩) h, fun b o h => hb.frozen (p := ⟨b, o, none⟩) h⟩
theorem below_drewN {B : Nat} {a w : World} (h : Below B a w) (n : Nat) : Below B a (w.drewN n) := ⟨h.os, h.tape, h.output, h.size, h.block⟩
theorem run_append_none {P : Program} (w : World) (base : Nat) (t ty e : TypeId) (i : TypeInfo) (size : Nat) (ht : P.underlying t = some (.slice e)) (hi : P.info? e = some i)
    (v : Value) (n : Nat) (xs : List Value) (hown : w.ownsRow base e size v n xs) (c : Nat) : (Builtin.append_ #[t, t] ty #[v, .slice none 0 c]).run P w = .ok v w := by
  rcases hown.2 with ⟨rfl, rfl⟩ | ⟨g, cap, cur, rfl, _, _, hnc, _⟩
  · simp [Builtin.append_, run_underlying ht, sizeOf, typeInfo, hi, Builtin.lenOf, Builtin.firstCells]
  · simp [Builtin.append_, run_underlying ht, sizeOf, typeInfo, hi, Builtin.lenOf, Builtin.firstCells, hnc, storeCells]

/-- 'out = append(out, ys...)', out a slice of ints of the call's own, ys whatever, nil too. -/
theorem push_ints {w : World} {ops : Array Oper} {rest : List Oper} {o : Oper} {a : Act} {Q : Exit → Act → World → Prop} (hgd : o.guard = none) (s x : Operand)
    (ho : o.op = .call { callee := .builtin .append, args := #[s, x], argTypes := #[23, 23] })
    (base : Nat) (A : Option Addr) (n c : Nat) (xs : List Int) (hs : a.eval s = .slice A n c) (hown : Oi w base A n c xs)
    (B : Nat) (D : Option Addr) (m c' : Nat) (ys : List Int) (hx : a.eval x = .slice D m c') (hy : Ri w B D m ys) (hlen : n < 549755813888) (hlen2 : m < 549755813888) (hbase : base ≤ w.heap.size)
    (h : ∀ A' cap w', Oi w' base A' (n + m) cap (xs ++ ys) → w.grownBy w' (A.map Addr.block) → wpList Tryz.prog ops Q rest (a.put o.dst (.slice A' (n + m) cap)) w') : wpList Tryz.prog ops Q (o :: rest) a w := by
  obtain ⟨i0, hi, hz0, hz1, hz2⟩ := info_parts info_int
  rcases D with _ | ad
  · have hm : m = 0 := by
      rcases Nat.eq_zero_or_pos m with h0 | h0
      · exact h0
      · obtain ⟨ad, h, _⟩ := hy.2 h0
        cases h
    subst hm
    have hn : ys = [] := List.eq_nil_of_length_eq_zero hy.len
    subst hn
    refine wpList_plain hgd fun K hK => ?_
    have hrun := run_append_none (P := Tryz.prog) w base _ o.type _ i0 1 under_ints hi (.slice A n c) n (ints xs) hown c'
    unfold Oper.wp
    simp only [execOp, ho, resolve, invoke]
    simp [builtin, hs, hx, hrun, Result.andThen]
    refine hK _ _ (h A c w ?_ (World.grownBy.refl w _))
    simpa using hown
  · have hm : n + m ≤ maxLen := by unfold maxLen; omega
    refine wpList_append_own w hgd s x _ ho base _ i0 _ 1 8 under_ints hi hz0 hz1 hz2 rfl (by decide) _ n (ints xs) hs hown ad m c' (ints ys) hx hy.1 ?_ (ints_oneCell _ _) hm (by omega) hbase ?_
    · intro j u hj
      rcases Nat.eq_zero_or_pos m with h0 | h0
      · subst h0
        have : ys = [] := List.eq_nil_of_length_eq_zero hy.len
        subst this
        simp [ints] at hj
      · obtain ⟨ad', e, _, hc⟩ := hy.2 h0
        obtain rfl := Option.some.inj e
        obtain ⟨hl, rfl⟩ := List.getElem?_eq_some_iff.1 hj
        exact hc j hl
    · intro v' w' hown' hgrow _
      have hv : ∃ A' cap, v' = .slice A' (n + m) cap := by
        rcases hown'.2 with ⟨rfl, h0⟩ | ⟨g, cap, cur, rfl, _⟩
        · exact ⟨none, 0, by rw [h0]⟩
        · exact ⟨_, cap, rfl⟩
      obtain ⟨A', cap, rfl⟩ := hv
      refine h A' cap w' ?_ ?_
      · unfold Oi; rw [ints_append]; exact hown'
      · cases A <;> exact hgrow

theorem Oi.grew {w wr w1 : World} {B base : Nat} {A : Option Addr} {n c : Nat} {xs : List Int} (ho : Oi wr base A n c xs) (hb : Below B w wr) (hs : B ≤ wr.heap.size) (hB : B ≤ base)
    (hg : wr.grownBy w1 (A.map Addr.block)) : Below B w w1 :=
  hb.grown hg hs fun k hk => Nat.le_trans hB (ho.lt k hk).1
/-- '[]int{}'. -/
theorem Oi.lit0 (w : World) : Oi (w.alloc (.cells #[] 2)) w.heap.size (some ⟨w.heap.size, 0, none⟩) 0 0 [] := World.ownsRow_lit w #[] 0 (Nat.le_refl _) (by decide) rfl
theorem Oi.lit1 (w : World) (x : Int) : Oi (w.alloc (.cells #[.int .i64 x] 2)) w.heap.size (some ⟨w.heap.size, 0, none⟩) 1 1 [x] := World.ownsRow_lit w #[.int .i64 x] 1 (Nat.le_refl _) (by decide) rfl
theorem Oi.lit (w : World) (cs : Array Value) (n : Nat) (xs : List Int) (h : cs.toList = ints xs) (hn : cs.size = n) (hm : n < 1099511627776) : Oi (w.alloc (.cells cs 2)) w.heap.size (some ⟨w.heap.size, 0, none⟩) n n xs := by
  have := World.ownsRow_lit (base := w.heap.size) (e := 2) (size := 1) w cs n (Nat.le_refl _) (by unfold maxLen; omega) (by omega)
  rw [h] at this
  exact this
/-- 'Below' across an append of one element. -/
theorem Oi.pushed {w wr w1 : World} {B base : Nat} {A : Option Addr} {n c : Nat} {xs : List Int} {o : Obj} (ho : Oi wr base A n c xs) (hb : Below B w wr) (hs : B ≤ wr.heap.size) (hB : B ≤ base)
    (hg : (wr.alloc o).grownBy w1 (A.map Addr.block)) : Below B w w1 :=
  (hb.alloc hs o).grown hg (by simp; omega) fun k hk => Nat.le_trans hB (ho.lt k hk).1
end Go.Proofs.YtibmpjhffeinoaaGreat

namespace Go.Proofs.YtibmpjhffeinoaaGreat
open Go.RowKit

def RetLI (w : World) (L : List Int) (s r : Int) (e : Ending) (w' : World) : Prop := ∃ (A : Option Addr) (n c : Nat), e = .returned (.tuple #[.slice A n c, .int .i64 s, .int .i64 r]) ∧ Oi w' w.heap.size A n c L ∧ Below w.heap.size w w'
def RetLE (w : World) (L : List Int) (r : Int) (e : Ending) (w' : World) : Prop := ∃ (A : Option Addr) (n c : Nat), e = .returned (.tuple #[.slice A n c, .int .i64 r]) ∧ Oi w' w.heap.size A n c L ∧ Below w.heap.size w w'
def RetII (w : World) (m r : Int) (e : Ending) (w' : World) : Prop := e = .returned (.tuple #[.int .i64 m, .int .i64 r]) ∧ Below w.heap.size w w'
def RetI (w : World) (r : Int) (e : Ending) (w' : World) : Prop := e = .returned (.int .i64 r) ∧ Below w.heap.size w w'
def RetB (w : World) (r : Bool) (e : Ending) (w' : World) : Prop := e = .returned (.bool r) ∧ Below w.heap.size w w'
def RetL (w : World) (L : List Int) (e : Ending) (w' : World) : Prop := ∃ (A : Option Addr) (n c : Nat), e = .returned (.slice A n c) ∧ Oi w' w.heap.size A n c L ∧ Below w.heap.size w w'
end Go.Proofs.YtibmpjhffeinoaaGreat

namespace Go.Proofs.YtibmpjhffeinoaaGreat
open Go.RowKit

theorem still_in {P : Program} {f : FuncId} {args : Array Value} {w : World} {n : Nat} {v : Value} (h : Calls P f args (w.drewN n) fun e w' => e = .returned v ∧ w.drewN n = w') :
    Calls P f args (w.drewN n) fun e w' => e = .returned v ∧ ∃ m, w' = w.drewN m := h.mono fun _ _ hh => ⟨hh.1, n, hh.2.symm⟩
theorem still_in2 {P : Program} {f : FuncId} {args : Array Value} {w : World} {a n : Nat} {v : Value} (h : Calls P f args (w.drewN (a + n)) fun e w' => e = .returned v ∧ w.drewN (a + n) = w') :
    Calls P f args (w.drewN (a + n)) fun e w' => e = .returned v ∧ ∃ m, w' = w.drewN (a + m) := h.mono fun _ _ hh => ⟨hh.1, n, hh.2.symm⟩
theorem drew_in2 {P : Program} {f : FuncId} {args : Array Value} {w : World} {a n : Nat} {v : Value} (h : Calls P f args (w.drewN (a + n)) fun e w' => e = .returned v ∧ ∃ m, w' = (w.drewN (a + n)).drewN m) :
    Calls P f args (w.drewN (a + n)) fun e w' => e = .returned v ∧ ∃ m, w' = w.drewN (a + m) := h.mono fun _ _ ⟨h1, m, h2⟩ => ⟨h1, n + m, by rw [h2]; simp [World.drewN, Nat.add_assoc]⟩
end Go.Proofs.YtibmpjhffeinoaaGreat

namespace Go.Proofs.YtibmpjhffeinoaaGreat
open Go.RowKit

section
variable {P : Program} {ops : Array Oper} {w : World} {Q : Act → Prop} {a : Act} {o : Oper} {rest : List Oper}
theorem still_skip (h : Region.wanted o (yielded ops a.tmps) = false) (hk : wpStill P ops w Q rest (a.put o.dst undef)) : wpStill P ops w Q (o :: rest) a := by
  unfold wpStill
  rw [if_neg (by rw [h]; decide)]
  exact hk
theorem still_want (h : Region.wanted o (yielded ops a.tmps) = true) (hk : ∀ K : Act → Prop, (∀ a, wpStill P ops w Q rest a → K a) → o.still P a w K) : wpStill P ops w Q (o :: rest) a := by
  unfold wpStill
  rw [if_pos h]
  exact hk _ fun _ h => h
end
end Go.Proofs.YtibmpjhffeinoaaGreat

namespace Go.Proofs.YtibmpjhffeinoaaGreat
open Go.RowKit

theorem below_grown0 {w w' : World} (h : w.grownBy w' none) : Below w.heap.size w w' := ⟨h.os, h.tape, h.output, h.size, fun k hk => h.block k hk (by simp)⟩
/-- 'make([]int64, n)'. -/
theorem make_ints {w : World} {ops : Array Oper} {rest : List Oper} {o : Oper} {a : Act} {Q : Exit → Act → World → Prop} (hg : o.guard = none) (l c : Operand) (hop : o.op = .makeSlice 23 l c)
    (n : Nat) (V : Int) (hl : a.eval l = .int .i64 V) (hc : a.eval c = .int .i64 V) (hV : V = (n : Int)) (hn : n ≤ 1073741824)
    (h : ∀ w', Oi w' w.heap.size (some ⟨w.heap.size, 0, none⟩) n n (List.replicate n 0) → Below w.heap.size w w' → wpList Tryz.prog ops Q rest (a.put o.dst (.slice (some ⟨w.heap.size, 0, none⟩) n n)) w') : wpList Tryz.prog ops Q (o :: rest) a w := by
  obtain ⟨i0, hi, hz0, hz1, hz2⟩ := info_parts info_int
  refine wpList_make_full w hg l c _ hop w.heap.size _ i0 _ 1 under_ints hi hz0 hz1 .i64 .i64 _ _ n hl hc hV hV (by rw [hz2]; omega) (by unfold maxLen; omega) (Nat.le_refl _) ?_
  intro w' hown hgrow
  refine h w' ?_ (below_grown0 hgrow)
  unfold Oi
  have e : (madeCells (Value.int .i64 0).cells (n * 1)).toList = ints (List.replicate n 0) := by
    rw [Nat.mul_one]
    show (madeCells #[Value.int .i64 0] n).toList = _
    rw [toList_madeCells_one]
    simp [ints]
  rw [e] at hown
  exact hown
theorem Oi.row {w : World} {base n c : Nat} {A : Option Addr} {xs : List Int} (h : Oi w base A n c xs) (hn : 0 < n) : ∃ g : Nat, A = some ⟨g, 0, none⟩ ∧ base ≤ g ∧ g < w.heap.size := by
  obtain ⟨g, cap, hv, h1, h2⟩ := World.ownsRow.form h hn
  have hA : A = some ⟨g, 0, none⟩ := by injection hv
  exact ⟨g, hA, h1, h2⟩
theorem Oi.cell {w : World} {base n c g : Nat} {xs : List Int} (h : Oi w base (some ⟨g, 0, none⟩) n c xs) {j : Nat} (hj : j < n) : w.cell? ⟨g, j, none⟩ = some (.int .i64 (nth xs j)) := by
  have hl := h.len
  rw [World.ownsRow.cellAt h j (by omega)]
  simp [ints, nth, List.getElem?_eq_getElem (show j < xs.length by omega)]
theorem Oi.frozen {w : World} {base n c g : Nat} {xs : List Int} (h : Oi w base (some ⟨g, 0, none⟩) n c xs) (j : Nat) : w.frozen? ⟨g, j, none⟩ = false := World.ownsRow.frozenAt h j
theorem Oi.put_ {w : World} {base n c g : Nat} {xs : List Int} (h : Oi w base (some ⟨g, 0, none⟩) n c xs) (j : Nat) (x : Int) : Oi (w.setCell ⟨g, j, none⟩ (.int .i64 x)) base (some ⟨g, 0, none⟩) n c (xs.set j x) := by
  have := (World.ownsRow.stored h j (.int .i64 x)).1
  unfold Oi
  rw [show ints (xs.set j x) = (ints xs).set j (.int .i64 x) from by simp [ints, List.map_set]]
  exact this
theorem nth_set {xs : List Int} {j k : Nat} {x : Int} (hj : j < xs.length) : nth (xs.set j x) k = if j = k then x else nth xs k := by
  unfold nth
  rw [List.getElem?_set]
  by_cases h : j = k
  · subst h; rw [if_pos rfl, if_pos hj, if_pos rfl]; rfl
  · rw [if_neg h, if_neg h]
theorem add_lit0 (g k : Nat) : Addr.add ⟨g, 0, none⟩ k = ⟨g, k, none⟩ := by
  unfold Addr.add
  split
  · rename_i h; subst h; rfl
  · simp
end Go.Proofs.YtibmpjhffeinoaaGreat

namespace Go.Proofs.YtibmpjhffeinoaaGreat
open Go.RowKit

section
variable {w w' : World} {B B' base n c : Nat} {A : Option Addr} {xs : List Int}
/-- A slice of ints in a row of the call's own (blocks from 'base' on). -/
def Oj (w : World) (base : Nat) (A : Option Addr) (n c : Nat) (xs : List Int) : Prop := w.ownsRow base 3 1 (.slice A n c) n (ints xs)

theorem Oj.ri (h : Oj w base A n c xs) : Ri w w.heap.size A n xs := Rd.of_own h
theorem Oj.len (h : Oj w base A n c xs) : xs.length = n := h.ri.len
theorem Oj.nil_ (w : World) (base : Nat) : Oj w base none 0 0 [] := World.ownsRow_nil _ _ _ _
theorem Oj.lt (h : Oj w base A n c xs) (k : Nat) (hk : A.map Addr.block = some k) : base ≤ k ∧ k < w.heap.size := World.ownsRow.lt h k (by cases A <;> simp_all [Value.ownBlock])
theorem Oj.kept {row : Option Nat} (h : Oj w base A n c xs) (hg : w.grownBy w' row) (hne : A.map Addr.block = none ∨ A.map Addr.block ≠ row) : Oj w' base A n c xs :=
  World.ownsRow.kept h hg (by cases A <;> simp_all [Value.ownBlock])
theorem Oj.alloc (h : Oj w base A n c xs) (o : Obj) : Oj (w.alloc o) base A n c xs := World.ownsRow.alloc h o
theorem Oj.drew (h : Oj w base A n c xs) : Oj w.drew base A n c xs := h
theorem Oj.drewN (h : Oj w base A n c xs) (k : Nat) : Oj (w.drewN k) base A n c xs := h
theorem Oj.below (h : Oj w base A n c xs) (hb : Below w.heap.size w w') : Oj w' base A n c xs :=
  Oj.kept (row := none) h ⟨hb.os, hb.tape, hb.output, hb.size, fun k hk _ => hb.block k hk⟩ (by cases A <;> simp)
end
theorem Oj.base {w : World} {base base' n c : Nat} {A : Option Addr} {xs : List Int} (h : Oj w base A n c xs) (hB : base' ≤ base) : Oj w base' A n c xs := own_base h hB
/-- The int type's row of the table. -/
theorem info_num : (Tryz.prog.info? 3).map (fun i => (i.zero, i.size, i.bytes)) = some (some (.int .i64 0), 1, 8) := by kernel_rfl
theorem under_nums : Tryz.prog.underlying 35 = some (.slice 3) := by kernel_rfl

/-- 'out = append(out, x)', out a slice of ints of the call's own. -/
theorem push_num {w : World} {ops : Array Oper} {rest : List Oper} {o : Oper} {a : Act} {Q : Exit → Act → World → Prop} (hgd : o.guard = none) (s x : Operand)
    (ho : o.op = .call { callee := .builtin .append, args := #[s, x], argTypes := #[35, 35] })
    (base : Nat) (A : Option Addr) (n c : Nat) (xs : List Int) (hs : a.eval s = .slice A n c) (hown : Oj w base A n c xs)
    (ad : Addr) (c' : Nat) (z : Int) (hx : a.eval x = .slice (some ad) 1 c') (hz : w.cell? ad = some (.int .i64 z)) (hlen : n < 1099511627776) (hbase : base ≤ w.heap.size)
    (h : ∀ g cap w', Oj w' base (some ⟨g, 0, none⟩) (n + 1) cap (xs ++ [z]) → w.grownBy w' (A.map Addr.block) → wpList Tryz.prog ops Q rest (a.put o.dst (.slice (some ⟨g, 0, none⟩) (n + 1) cap)) w') : wpList Tryz.prog ops Q (o :: rest) a w := by
  obtain ⟨i0, hi, hz0, hz1, hz2⟩ := info_parts info_num
  have hm : n + 1 ≤ maxLen := by unfold maxLen; omega
  refine wpList_append_own w hgd s x _ ho base _ i0 _ 1 8 under_nums hi hz0 hz1 hz2 rfl (by decide) _ n (ints xs) hs hown ad 1 c' [.int .i64 z] hx rfl ?_ (by simp [Value.oneCell']) hm (by omega) hbase ?_
  · intro j u hj
    match j, hj with
    | 0, hj => simp at hj; subst hj; exact hz
  · intro v' w' hown' hgrow _
    obtain ⟨g, cap, hv, _, _⟩ := hown'.form (by omega)
    subst hv
    refine h g cap w' ?_ ?_
    · unfold Oj; rw [ints_append]; exact hown'
    · cases A <;> exact hgrow

theorem Oj.setBelow {w : World} {base n c : Nat} {A : Option Addr} {xs : List Int} (h : Oj w base A n c xs) {p : Addr} (hp : p.block < base) (u : Value) : Oj (w.setCell p u) base A n c xs := ownsRow_setCell_below h hp u
/-- 'out = append(out, ys...)', out a slice of ints of the call's own, ys whatever, nil too. -/
theorem push_nums {w : World} {ops : Array Oper} {rest : List Oper} {o : Oper} {a : Act} {Q : Exit → Act → World → Prop} (hgd : o.guard = none) (s x : Operand)
    (ho : o.op = .call { callee := .builtin .append, args := #[s, x], argTypes := #[35, 35] })
    (base : Nat) (A : Option Addr) (n c : Nat) (xs : List Int) (hs : a.eval s = .slice A n c) (hown : Oj w base A n c xs)
    (B : Nat) (D : Option Addr) (m c' : Nat) (ys : List Int) (hx : a.eval x = .slice D m c') (hy : Ri w B D m ys) (hlen : n < 549755813888) (hlen2 : m < 549755813888) (hbase : base ≤ w.heap.size)
    (h : ∀ A' cap w', Oj w' base A' (n + m) cap (xs ++ ys) → w.grownBy w' (A.map Addr.block) → wpList Tryz.prog ops Q rest (a.put o.dst (.slice A' (n + m) cap)) w') : wpList Tryz.prog ops Q (o :: rest) a w := by
  obtain ⟨i0, hi, hz0, hz1, hz2⟩ := info_parts info_num
  rcases D with _ | ad
  · have hm : m = 0 := by
      rcases Nat.eq_zero_or_pos m with h0 | h0
      · exact h0
      · obtain ⟨ad, h, _⟩ := hy.2 h0
        cases h
    subst hm
    have hn : ys = [] := List.eq_nil_of_length_eq_zero hy.len
    subst hn
    refine wpList_plain hgd fun K hK => ?_
    have hrun := run_append_none (P := Tryz.prog) w base _ o.type _ i0 1 under_nums hi (.slice A n c) n (ints xs) hown c'
    unfold Oper.wp
    simp only [execOp, ho, resolve, invoke]
    simp [builtin, hs, hx, hrun, Result.andThen]
    refine hK _ _ (h A c w ?_ (World.grownBy.refl w _))
    simpa using hown
  · have hm : n + m ≤ maxLen := by unfold maxLen; omega
    refine wpList_append_own w hgd s x _ ho base _ i0 _ 1 8 under_nums hi hz0 hz1 hz2 rfl (by decide) _ n (ints xs) hs hown ad m c' (ints ys) hx hy.1 ?_ (ints_oneCell _ _) hm (by omega) hbase ?_
    · intro j u hj
      rcases Nat.eq_zero_or_pos m with h0 | h0
      · subst h0
        have : ys = [] := List.eq_nil_of_length_eq_zero hy.len
        subst this
        simp [ints] at hj
      · obtain ⟨ad', e, _, hc⟩ := hy.2 h0
        obtain rfl := Option.some.inj e
        obtain ⟨hl, rfl⟩ := List.getElem?_eq_some_iff.1 hj
        exact hc j hl
    · intro v' w' hown' hgrow _
      have hv : ∃ A' cap, v' = .slice A' (n + m) cap := by
        rcases hown'.2 with ⟨rfl, h0⟩ | ⟨g, cap, cur, rfl, _⟩
        · exact ⟨none, 0, by rw [h0]⟩
        · exact ⟨_, cap, rfl⟩
      obtain ⟨A', cap, rfl⟩ := hv
      refine h A' cap w' ?_ ?_
      · unfold Oj; rw [ints_append]; exact hown'
      · cases A <;> exact hgrow

theorem Oj.grew {w wr w1 : World} {B base : Nat} {A : Option Addr} {n c : Nat} {xs : List Int} (ho : Oj wr base A n c xs) (hb : Below B w wr) (hs : B ≤ wr.heap.size) (hB : B ≤ base)
    (hg : wr.grownBy w1 (A.map Addr.block)) : Below B w w1 :=
  hb.grown hg hs fun k hk => Nat.le_trans hB (ho.lt k hk).1
/-- '[]int{}'. -/
theorem Oj.lit0 (w : World) : Oj (w.alloc (.cells #[] 3)) w.heap.size (some ⟨w.heap.size, 0, none⟩) 0 0 [] := World.ownsRow_lit w #[] 0 (Nat.le_refl _) (by decide) rfl
theorem Oj.lit1 (w : World) (x : Int) : Oj (w.alloc (.cells #[.int .i64 x] 3)) w.heap.size (some ⟨w.heap.size, 0, none⟩) 1 1 [x] := World.ownsRow_lit w #[.int .i64 x] 1 (Nat.le_refl _) (by decide) rfl
theorem Oj.lit (w : World) (cs : Array Value) (n : Nat) (xs : List Int) (h : cs.toList = ints xs) (hn : cs.size = n) (hm : n < 1099511627776) : Oj (w.alloc (.cells cs 3)) w.heap.size (some ⟨w.heap.size, 0, none⟩) n n xs := by
  have := World.ownsRow_lit (base := w.heap.size) (e := 3) (size := 1) w cs n (Nat.le_refl _) (by unfold maxLen; omega) (by omega)
  rw [h] at this
  exact this
/-- 'Below' across an append of one element. -/
theorem Oj.pushed {w wr w1 : World} {B base : Nat} {A : Option Addr} {n c : Nat} {xs : List Int} {o : Obj} (ho : Oj wr base A n c xs) (hb : Below B w wr) (hs : B ≤ wr.heap.size) (hB : B ≤ base)
    (hg : (wr.alloc o).grownBy w1 (A.map Addr.block)) : Below B w w1 :=
  (hb.alloc hs o).grown hg (by simp; omega) fun k hk => Nat.le_trans hB (ho.lt k hk).1

/-- 'make([]int64, n)'. -/
theorem make_nums {w : World} {ops : Array Oper} {rest : List Oper} {o : Oper} {a : Act} {Q : Exit → Act → World → Prop} (hg : o.guard = none) (l c : Operand) (hop : o.op = .makeSlice 35 l c)
    (n : Nat) (V : Int) (hl : a.eval l = .int .i64 V) (hc : a.eval c = .int .i64 V) (hV : V = (n : Int)) (hn : n ≤ 1073741824)
    (h : ∀ w', Oj w' w.heap.size (some ⟨w.heap.size, 0, none⟩) n n (List.replicate n 0) → Below w.heap.size w w' → wpList Tryz.prog ops Q rest (a.put o.dst (.slice (some ⟨w.heap.size, 0, none⟩) n n)) w') : wpList Tryz.prog ops Q (o :: rest) a w := by
  obtain ⟨i0, hi, hz0, hz1, hz2⟩ := info_parts info_num
  refine wpList_make_full w hg l c _ hop w.heap.size _ i0 _ 1 under_nums hi hz0 hz1 .i64 .i64 _ _ n hl hc hV hV (by rw [hz2]; omega) (by unfold maxLen; omega) (Nat.le_refl _) ?_
  intro w' hown hgrow
  refine h w' ?_ (below_grown0 hgrow)
  unfold Oj
  have e : (madeCells (Value.int .i64 0).cells (n * 1)).toList = ints (List.replicate n 0) := by
    rw [Nat.mul_one]
    show (madeCells #[Value.int .i64 0] n).toList = _
    rw [toList_madeCells_one]
    simp [ints]
  rw [e] at hown
  exact hown
theorem Oj.row {w : World} {base n c : Nat} {A : Option Addr} {xs : List Int} (h : Oj w base A n c xs) (hn : 0 < n) : ∃ g : Nat, A = some ⟨g, 0, none⟩ ∧ base ≤ g ∧ g < w.heap.size := by
  obtain ⟨g, cap, hv, h1, h2⟩ := World.ownsRow.form h hn
  have hA : A = some ⟨g, 0, none⟩ := by injection hv
  exact ⟨g, hA, h1, h2⟩
theorem Oj.cell {w : World} {base n c g : Nat} {xs : List Int} (h : Oj w base (some ⟨g, 0, none⟩) n c xs) {j : Nat} (hj : j < n) : w.cell? ⟨g, j, none⟩ = some (.int .i64 (nth xs j)) := by
  have hl := h.len
  rw [World.ownsRow.cellAt h j (by omega)]
  simp [ints, nth, List.getElem?_eq_getElem (show j < xs.length by omega)]
theorem Oj.frozen {w : World} {base n c g : Nat} {xs : List Int} (h : Oj w base (some ⟨g, 0, none⟩) n c xs) (j : Nat) : w.frozen? ⟨g, j, none⟩ = false := World.ownsRow.frozenAt h j
theorem Oj.put_ {w : World} {base n c g : Nat} {xs : List Int} (h : Oj w base (some ⟨g, 0, none⟩) n c xs) (j : Nat) (x : Int) : Oj (w.setCell ⟨g, j, none⟩ (.int .i64 x)) base (some ⟨g, 0, none⟩) n c (xs.set j x) := by
  have := (World.ownsRow.stored h j (.int .i64 x)).1
  unfold Oj
  rw [show ints (xs.set j x) = (ints xs).set j (.int .i64 x) from by simp [ints, List.map_set]]
  exact this
end Go.Proofs.YtibmpjhffeinoaaGreat

namespace Go.Proofs.YtibmpjhffeinoaaGreat
open Go.RowKit Go.Shelf

/-- Block k is cells, known whole, none frozen. -/
def Bk (W : World) (k : Nat) (t : TypeId) (cs : Array Value) : Prop := W.heap[k]? = some (.cells cs t (0, 0))
theorem Bk.lt {W : World} {k : Nat} {t : TypeId} {cs : Array Value} (h : Bk W k t cs) : k < W.heap.size := (Array.getElem?_eq_some_iff.1 h).1
theorem Bk.cell {W : World} {k : Nat} {t : TypeId} {cs : Array Value} (h : Bk W k t cs) (i : Nat) : W.cell? ⟨k, i, none⟩ = cs[i]? := cell_of_row W k i cs t (0, 0) h
theorem Bk.frozen {W : World} {k : Nat} {t : TypeId} {cs : Array Value} (h : Bk W k t cs) (i : Nat) : W.frozen? ⟨k, i, none⟩ = false := frozen_of_row W k i cs t h
theorem Bk.new (W : World) (t : TypeId) (cs : Array Value) : Bk (W.alloc (.cells cs t)) W.heap.size t cs := heap_alloc_new W _
theorem Bk.alloc {W : World} {k : Nat} {t : TypeId} {cs : Array Value} (h : Bk W k t cs) (o : Obj) : Bk (W.alloc o) k t cs := (Below.heap_alloc W o k h.lt).trans h
theorem Bk.drew {W : World} {k : Nat} {t : TypeId} {cs : Array Value} (h : Bk W k t cs) : Bk W.drew k t cs := h
theorem Bk.grown {W W' : World} {k : Nat} {t : TypeId} {cs : Array Value} {row : Option Nat} (h : Bk W k t cs) (hg : W.grownBy W' row) (hne : some k ≠ row) : Bk W' k t cs := (hg.block k h.lt hne).trans h
theorem Bk.set_ {W : World} {k : Nat} {t : TypeId} {cs : Array Value} (h : Bk W k t cs) (i : Nat) (u : Value) : Bk (W.setCell ⟨k, i, none⟩ u) k t (cs.setIfInBounds i u) := heap_setCell_same W k i cs t u h
theorem Bk.far {W : World} {k : Nat} {t : TypeId} {cs : Array Value} (h : Bk W k t cs) {p : Addr} (hp : k ≠ p.block) (u : Value) : Bk (W.setCell p u) k t cs := (Below.heap_setCell W p u k hp).trans h
theorem Bk.below {W W' : World} {B k : Nat} {t : TypeId} {cs : Array Value} (h : Bk W k t cs) (hb : Below B W W') (hk : k < B) : Bk W' k t cs := (hb.block k hk).trans h
theorem Bk.from_ {β : Type} (B k : Nat) (t : TypeId) (cs : Array Value) : OwnFrom B (fun (_ : β) W => Bk W k t cs) := fun s W W' row hs hg hr => Bk.grown hs hg fun e => by
  obtain ⟨_, o, ho, hc⟩ := hr k e.symm
  rw [show W.heap[k]? = _ from hs] at ho
  cases ho
  cases hc
theorem Oi.from_ {β : Type} (B base n c : Nat) (A : Option Addr) (xs : List Int) : OwnFrom B (fun (_ : β) W => Oi W base A n c xs) := fun s W W' row hs hg hr => by
  refine Oi.kept hs hg ?_
  cases A with
  | none => exact .inl rfl
  | some ad =>
    refine .inr fun e => ?_
    obtain ⟨_, o, ho, hc⟩ := hr ad.block (by rw [← e]; rfl)
    rcases hs.2 with ⟨h', _⟩ | ⟨g', cap', cur, h', _, hg', _⟩
    · cases h'
    · have hA : ad = ⟨g', 0, none⟩ := by injection h' with h1; injection h1
      subst hA
      rw [hg'] at ho
      cases ho
      cases hc
theorem below_from {β : Type} {base B : Nat} {w0 : World} (hB : base ≤ B) (hs : base ≤ w0.heap.size) : OwnFrom B (fun (_ : β) W => Below base w0 W) := fun _ _ _ _ hs' hg hr => Below.grown hs' hg (Nat.le_trans hs hs'.size) fun k e => Nat.le_trans hB (hr k e).1

theorem Oi.bk_ne {W : World} {base n c k : Nat} {A : Option Addr} {xs : List Int} {t : TypeId} {cs : Array Value} (h : Oi W base A n c xs) (hk : Bk W k t cs) (ht : t ≠ 2) : some k ≠ A.map Addr.block := by
  cases A with
  | none => simp
  | some ad =>
    intro e
    rcases h.2 with ⟨h', _⟩ | ⟨g', cap', cur, h', _, hg', _⟩
    · cases h'
    · have hA : ad = ⟨g', 0, none⟩ := by injection h' with h1; injection h1
      subst hA
      have : k = g' := by simpa using e
      subst this
      rw [show W.heap[k]? = _ from hk] at hg'
      injection hg' with h2
      injection h2 with _ h3
      exact ht h3
theorem Oi.setOther {W : World} {base n c : Nat} {A : Option Addr} {xs : List Int} (h : Oi W base A n c xs) {p : Addr} (hp : some p.block ≠ A.map Addr.block) (u : Value) : Oi (W.setCell p u) base A n c xs :=
  h.kept (row := some p.block) ⟨rfl, rfl, rfl, by simp [World.setCell], fun k _ hk => Below.heap_setCell W p u k (fun e => hk (by rw [e]))⟩ (.inr fun e => hp e.symm)
theorem Oj.from_ {β : Type} (B base n c : Nat) (A : Option Addr) (xs : List Int) : OwnFrom B (fun (_ : β) W => Oj W base A n c xs) := fun s W W' row hs hg hr => by
  refine Oj.kept hs hg ?_
  cases A with
  | none => exact .inl rfl
  | some ad =>
    refine .inr fun e => ?_
    obtain ⟨_, o, ho, hc⟩ := hr ad.block (by rw [← e]; rfl)
    rcases hs.2 with ⟨h', _⟩ | ⟨g', cap', cur, h', _, hg', _⟩
    · cases h'
    · have hA : ad = ⟨g', 0, none⟩ := by injection h' with h1; injection h1
      subst hA
      rw [hg'] at ho
      cases ho
      cases hc
theorem Oj.bk_ne {W : World} {base n c k : Nat} {A : Option Addr} {xs : List Int} {t : TypeId} {cs : Array Value} (h : Oj W base A n c xs) (hk : Bk W k t cs) (ht : t ≠ 3) : some k ≠ A.map Addr.block := by
  cases A with
  | none => simp
  | some ad =>
    intro e
    rcases h.2 with ⟨h', _⟩ | ⟨g', cap', cur, h', _, hg', _⟩
    · cases h'
    · have hA : ad = ⟨g', 0, none⟩ := by injection h' with h1; injection h1
      subst hA
      have : k = g' := by simpa using e
      subst this
      rw [show W.heap[k]? = _ from hk] at hg'
      injection hg' with h2
      injection h2 with _ h3
      exact ht h3
theorem Oj.setOther {W : World} {base n c : Nat} {A : Option Addr} {xs : List Int} (h : Oj W base A n c xs) {p : Addr} (hp : some p.block ≠ A.map Addr.block) (u : Value) : Oj (W.setCell p u) base A n c xs :=
  h.kept (row := some p.block) ⟨rfl, rfl, rfl, by simp [World.setCell], fun k _ hk => Below.heap_setCell W p u k (fun e => hk (by rw [e]))⟩ (.inr fun e => hp e.symm)

end Go.Proofs.YtibmpjhffeinoaaGreat
