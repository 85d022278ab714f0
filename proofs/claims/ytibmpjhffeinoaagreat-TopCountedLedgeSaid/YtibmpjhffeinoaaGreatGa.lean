/-
  Words of this claim for memory: slices that are read, slices that the call itself makes, worlds that grow. No function of the program is named here.
  The plain functions of the claim: what the program and the reference compute, on integers and lists. No program in sight.
  A region that draws its order, inside a round of a range over a function: out of the plain law of all orders.
-/
import Derived.Test.YtibmpjhffeinoaaGreatProg
import Derived.WalkKit
import Derived.WalkSpells
import Derived.WalkLawsBesides
import Derived.Lib.Hide
import Derived.Deep.AppendLies
import Derived.Deep.Draws
import Derived.Maps.AppendAt
import Derived.Below
import Derived.Lib.SliceRun
import Derived.RangeFuncNested
import Derived.RangeFuncBound
import Derived.RangeFuncCalls
import Derived.RangeFuncLeaves
import Derived.Shelf.Abstract
import Derived.Shelf.RegionOpen
import Derived.OwnWalkIn
import Derived.TacticsInMore
import Derived.LoopNIn
import Derived.LoopIn
import Derived.WalkMore
import Derived.OrdersHeld
import Derived.Deep.RegionHeld3
import Derived.ChangeKeysEq
namespace Go.Proofs.YtibmpjhffeinoaaGreat
open Go.RowKit

theorem ret_i {a b : Int} (h : a = b) : Ending.returned (.int .i64 a) = .returned (.int .i64 b) := by rw [h]
theorem ret_b {a b : Bool} (h : a = b) : Ending.returned (.bool a) = .returned (.bool b) := by rw [h]
/-! ### Addresses -/
theorem addr_block (a : Addr) (n : Nat) : (a.add n).block = a.block := by unfold Addr.add; split <;> rfl
theorem addr_zero (a : Addr) : a.add 0 = a := rfl
theorem addr_add (a : Addr) (i j : Nat) : (a.add i).add j = a.add (i + j) := by
  unfold Addr.add
  rcases Nat.eq_zero_or_pos i with rfl | hi
  · simp
  · rcases Nat.eq_zero_or_pos j with rfl | hj
    · simp [Nat.pos_iff_ne_zero.1 hi]
    · simp [Nat.pos_iff_ne_zero.1 hi, Nat.pos_iff_ne_zero.1 hj, Nat.add_assoc]

/-! ### A slice that is read: n elements of 'size' cells, which lie below block B -/
def Rd (w : World) (B size : Nat) (A : Option Addr) (n : Nat) (cs : List Value) : Prop :=
  cs.length = n * size ∧ (0 < n → ∃ ad, A = some ad ∧ ad.block < B ∧ ∀ j (h : j < cs.length), w.cell? (ad.add j) = some cs[j])

section
variable {w w' : World} {B B' size n : Nat} {A : Option Addr} {cs : List Value}
theorem Rd.keep (h : Rd w B size A n cs) (hk : ∀ p : Addr, p.block < B → w'.cell? p = w.cell? p) : Rd w' B size A n cs :=
  ⟨h.1, fun hn => let ⟨ad, e, hb, hc⟩ := h.2 hn; ⟨ad, e, hb, fun j hj => (hk _ (by rw [addr_block]; exact hb)).trans (hc j hj)⟩⟩
theorem Rd.more (h : Rd w B size A n cs) (hB : B ≤ B') : Rd w B' size A n cs :=
  ⟨h.1, fun hn => let ⟨ad, e, hb, hc⟩ := h.2 hn; ⟨ad, e, Nat.lt_of_lt_of_le hb hB, hc⟩⟩
theorem Rd.below (h : Rd w B size A n cs) (hb : Below B w w') : Rd w' B size A n cs := h.keep fun _ hp => hb.cell hp
theorem Rd.below' (h : Rd w B size A n cs) (hb : Below B' w w') (hle : B ≤ B') : Rd w' B size A n cs := h.below (hb.mono hle)
theorem Rd.next (h : Rd w B size A n cs) (hb : Below B' w w') (hle : B ≤ B') (hle2 : B' ≤ w'.heap.size) : Rd w' w'.heap.size size A n cs := (h.below' hb hle).more (Nat.le_trans hle hle2)
theorem Rd.alloc (h : Rd w B size A n cs) (hB : B ≤ w.heap.size) (o : Obj) : Rd (w.alloc o) B size A n cs := h.keep fun p hp => World.cell?_alloc_lt w o p (Nat.lt_of_lt_of_le hp hB)
theorem Rd.drewN (h : Rd w B size A n cs) (k : Nat) : Rd (w.drewN k) B size A n cs := h
theorem Rd.drew (h : Rd w B size A n cs) : Rd w.drew B size A n cs := h
theorem Rd.setCell (h : Rd w B size A n cs) {p : Addr} (hB : B ≤ p.block) (u : Value) : Rd (w.setCell p u) B size A n cs :=
  h.keep fun q hq => World.cell?_setCell_other w p q u (fun e => by subst e; exact absurd hq (Nat.not_lt.2 hB))
theorem Rd.grown (h : Rd w B size A n cs) {row : Option Nat} (hg : w.grownBy w' row) (hB : B ≤ w.heap.size) (hr : ∀ g, row = some g → B ≤ g) : Rd w' B size A n cs :=
  h.keep fun p hp => World.cell?_of_block (hg.block p.block (Nat.lt_of_lt_of_le hp hB) (fun e => absurd (hr _ e.symm) (Nat.not_le.2 hp)))
theorem Rd.nil_ (A : Option Addr) : Rd w B size A 0 [] := ⟨by simp, fun h => absurd h (Nat.lt_irrefl 0)⟩
theorem Rd.of_own {base : Nat} {e : TypeId} {c : Nat} (h : w.ownsRow base e size (.slice A n c) n cs) : Rd w w.heap.size size A n cs := by
  refine ⟨h.1, fun hn => ?_⟩
  obtain ⟨g, cap, hv, _, hlt⟩ := h.form hn
  have hA : A = some ⟨g, 0, none⟩ := by injection hv
  subst hA
  exact ⟨_, rfl, hlt, fun j hj => h.cells (g := g) rfl j _ (List.getElem?_eq_getElem hj)⟩
end

/-! ### Integers -/
def ints (xs : List Int) : List Value := xs.map (Value.int .i64)
theorem ints_length (xs : List Int) : (ints xs).length = xs.length := by simp [ints]
theorem ints_append (xs ys : List Int) : ints (xs ++ ys) = ints xs ++ ints ys := by simp [ints]

/-- A slice of ints that is read. -/
def Ri (w : World) (B : Nat) (A : Option Addr) (n : Nat) (xs : List Int) : Prop := Rd w B 1 A n (ints xs)
/-- A slice of ints in a row of the call's own (blocks from 'base' on). -/
def Oi (w : World) (base : Nat) (A : Option Addr) (n c : Nat) (xs : List Int) : Prop := w.ownsRow base 3 1 (.slice A n c) n (ints xs)

section
variable {w w' : World} {B B' base n c : Nat} {A : Option Addr} {xs : List Int}
theorem Ri.len (h : Ri w B A n xs) : xs.length = n := by have := h.1; rw [ints_length, Nat.mul_one] at this; exact this
theorem Ri.at_ (h : Ri w B A n xs) {k : Nat} (hk : k < n) : ∃ ad x, A = some ad ∧ ad.block < B ∧ w.cell? (ad.add k) = some (.int .i64 x) ∧ Hid (xs[k]? = some x) ∧ Hid (x = xs[k]?.getD 0) := by
  obtain ⟨ad, e, hb, hc⟩ := h.2 (Nat.lt_of_le_of_lt (Nat.zero_le _) hk)
  have hl : k < xs.length := by rw [h.len]; exact hk
  have hl' : k < (ints xs).length := by rw [ints_length]; exact hl
  refine ⟨ad, xs[k], e, hb, ?_, Lib.hid (List.getElem?_eq_getElem hl), Lib.hid (by rw [List.getElem?_eq_getElem hl]; rfl)⟩
  rw [hc k hl']
  simp [ints]
theorem Ri.keep (h : Ri w B A n xs) (hk : ∀ p : Addr, p.block < B → w'.cell? p = w.cell? p) : Ri w' B A n xs := Rd.keep h hk
theorem Ri.more (h : Ri w B A n xs) (hB : B ≤ B') : Ri w B' A n xs := Rd.more h hB
theorem Ri.below (h : Ri w B A n xs) (hb : Below B w w') : Ri w' B A n xs := Rd.below h hb
theorem Ri.below' (h : Ri w B A n xs) (hb : Below B' w w') (hle : B ≤ B') : Ri w' B A n xs := Rd.below' h hb hle
theorem Ri.next (h : Ri w B A n xs) (hb : Below B' w w') (hle : B ≤ B') (hle2 : B' ≤ w'.heap.size) : Ri w' w'.heap.size A n xs := Rd.next h hb hle hle2
theorem Ri.alloc (h : Ri w B A n xs) (hB : B ≤ w.heap.size) (o : Obj) : Ri (w.alloc o) B A n xs := Rd.alloc h hB o
theorem Ri.drewN (h : Ri w B A n xs) (k : Nat) : Ri (w.drewN k) B A n xs := h
theorem Ri.drew (h : Ri w B A n xs) : Ri w.drew B A n xs := h
theorem Ri.setCell (h : Ri w B A n xs) {p : Addr} (hB : B ≤ p.block) (u : Value) : Ri (w.setCell p u) B A n xs := Rd.setCell h hB u
theorem Ri.grown (h : Ri w B A n xs) {row : Option Nat} (hg : w.grownBy w' row) (hB : B ≤ w.heap.size) (hr : ∀ g, row = some g → B ≤ g) : Ri w' B A n xs := Rd.grown h hg hB hr
theorem Ri.nil_ (A : Option Addr) : Ri w B A 0 [] := Rd.nil_ A
theorem Oi.ri (h : Oi w base A n c xs) : Ri w w.heap.size A n xs := Rd.of_own h
theorem Oi.len (h : Oi w base A n c xs) : xs.length = n := h.ri.len
theorem Oi.nil_ (w : World) (base : Nat) : Oi w base none 0 0 [] := World.ownsRow_nil _ _ _ _
theorem Oi.lt (h : Oi w base A n c xs) (k : Nat) (hk : A.map Addr.block = some k) : base ≤ k ∧ k < w.heap.size := World.ownsRow.lt h k (by cases A <;> simp_all [Value.ownBlock])
theorem Oi.kept {row : Option Nat} (h : Oi w base A n c xs) (hg : w.grownBy w' row) (hne : A.map Addr.block = none ∨ A.map Addr.block ≠ row) : Oi w' base A n c xs :=
  World.ownsRow.kept h hg (by cases A <;> simp_all [Value.ownBlock])
theorem Oi.alloc (h : Oi w base A n c xs) (o : Obj) : Oi (w.alloc o) base A n c xs := World.ownsRow.alloc h o
theorem Oi.drew (h : Oi w base A n c xs) : Oi w.drew base A n c xs := h
theorem Oi.drewN (h : Oi w base A n c xs) (k : Nat) : Oi (w.drewN k) base A n c xs := h
theorem Oi.below (h : Oi w base A n c xs) (hb : Below w.heap.size w w') : Oi w' base A n c xs :=
  Oi.kept (row := none) h ⟨hb.os, hb.tape, hb.output, hb.size, fun k hk _ => hb.block k hk⟩ (by cases A <;> simp)
end

theorem own_base {w : World} {base base' : Nat} {e : TypeId} {size n : Nat} {v : Value} {cs : List Value} (h : w.ownsRow base e size v n cs) (hB : base' ≤ base) : w.ownsRow base' e size v n cs :=
  ⟨h.1, h.2.imp id fun ⟨g, cap, cur, h1, h2, h3⟩ => ⟨g, cap, cur, h1, Nat.le_trans hB h2, h3⟩⟩
theorem Oi.base {w : World} {base base' n c : Nat} {A : Option Addr} {xs : List Int} (h : Oi w base A n c xs) (hB : base' ≤ base) : Oi w base' A n c xs := own_base h hB
/-- The int type's row of the table. -/
theorem info_int : (Tryz.prog.info? 3).map (fun i => (i.zero, i.size, i.bytes)) = some (some (.int .i64 0), 1, 8) := by kernel_rfl
theorem under_ints : Tryz.prog.underlying 35 = some (.slice 3) := by kernel_rfl

/-- 'out = append(out, x)', out a slice of ints of the call's own. -/
theorem push_int {w : World} {ops : Array Oper} {rest : List Oper} {o : Oper} {a : Act} {Q : Exit → Act → World → Prop} (hgd : o.guard = none) (s x : Operand)
    (ho : o.op = .call { callee := .builtin .append, args := #[s, x], argTypes := #[35, 35] })
    (base : Nat) (A : Option Addr) (n c : Nat) (xs : List Int) (hs : a.eval s = .slice A n c) (hown : Oi w base A n c xs)
    (ad : Addr) (c' : Nat) (z : Int) (hx : a.eval x = .slice (some ad) 1 c') (hz : w.cell? ad = some (.int .i64 z)) (hlen : n < 1099511627776) (hbase : base ≤ w.heap.size)
    (h : ∀ g cap w', Oi w' base (some ⟨g, 0, none⟩) (n + 1) cap (xs ++ [z]) → w.grownBy w' (A.map Addr.block) → wpList Tryz.prog ops Q rest (a.put o.dst (.slice (some ⟨g, 0, none⟩) (n + 1) cap)) w') : wpList Tryz.prog ops Q (o :: rest) a w := by
  obtain ⟨i0, hi, hz0, hz1, hz2⟩ := info_parts info_int
  have hm : n + 1 ≤ maxLen := by unfold maxLen; omega
  refine wpList_append_own w hgd s x _ ho base _ i0 _ 1 8 under_ints hi hz0 hz1 hz2 rfl (by decide) _ n (ints xs) hs hown ad 1 c' [.int .i64 z] hx rfl ?_ (by simp [Value.oneCell']) hm (by omega) hbase ?_
  · intro j u hj
    match j, hj with
    | 0, hj => simp at hj; subst hj; exact hz
  · intro v' w' hown' hgrow _
    obtain ⟨g, cap, hv, _, _⟩ := hown'.form (by omega)
    subst hv
    refine h g cap w' ?_ ?_
    · unfold Oi; rw [ints_append]; exact hown'
    · cases A <;> exact hgrow

theorem flip_same {P : Program} {f : FuncId} {args : Array Value} {w : World} {v : Value} (h : Calls P f args w fun e w' => e = .returned v ∧ w = w') : Calls P f args w fun e w' => e = .returned v ∧ w' = w := h.mono fun _ _ ⟨a, b⟩ => ⟨a, b.symm⟩
theorem Oi.setBelow {w : World} {base n c : Nat} {A : Option Addr} {xs : List Int} (h : Oi w base A n c xs) {p : Addr} (hp : p.block < base) (u : Value) : Oi (w.setCell p u) base A n c xs := ownsRow_setCell_below h hp u
theorem cell_new1 (w : World) (x : Value) (t : TypeId) : (w.alloc (.cells #[x] t)).cell? ⟨w.heap.size, 0, none⟩ = some x := cell_one_new w x t 0 x rfl
/-- Behind a call that makes memory: the old cells and marks read as before. -/
theorem bcell {W w1 : World} {B : Nat} (hb : Below B W w1) : (∀ b o, b < B → w1.cell? ⟨b, o, none⟩ = W.cell? ⟨b, o, none⟩) ∧ (∀ b o, b < B → w1.frozen? ⟨b, o, none⟩ = W.frozen? ⟨b, o, none⟩) :=
  ⟨fun b o h => hb.cell (p := ⟨b, o, none⟩) h, fun b o h => hb.frozen (p := ⟨b, o, none⟩) h⟩
theorem below_drewN {B : Nat} {a w : World} (h : Below B a w) (n : Nat) : Below B a (w.drewN n) := ⟨h.os, h.tape, h.output, h.size, h.block⟩
theorem run_append_none {P : Program} (w : World) (base : Nat) (t ty e : TypeId) (i : TypeInfo) (size : Nat) (ht : P.underlying t = some (.slice e)) (hi : P.info? e = some i)
    (v : Value) (n : Nat) (xs : List Value) (hown : w.ownsRow base e size v n xs) (c : Nat) : (Builtin.append_ #[t, t] ty #[v, .slice none 0 c]).run P w = .ok v w := by
  rcases hown.2 with ⟨rfl, rfl⟩ | ⟨g, cap, cur, rfl, _, _, hnc, _⟩
  · simp [Builtin.append_, run_underlying ht, sizeOf, typeInfo, hi, Builtin.lenOf, Builtin.firstCells]
  · simp [Builtin.append_, run_underlying ht, sizeOf, typeInfo, hi, Builtin.lenOf, Builtin.firstCells, hnc, storeCells]

/-- 'out = append(out, ys...)', out a slice of ints of the call's own, ys whatever, nil too. -/
theorem push_ints {w : World} {ops : Array Oper} {rest : List Oper} {o : Oper} {a : Act} {Q : Exit → Act → World → Prop} (hgd : o.guard = none) (s x : Operand)
    (ho : o.op = .call { callee := .builtin .append, args := #[s, x], argTypes := #[35, 35] })
    (base : Nat) (A : Option Addr) (n c : Nat) (xs : List Int) (hs : a.eval s = .slice A n c) (hown : Oi w base A n c xs)
    (B : Nat) (D : Option Addr) (m c' : Nat) (ys : List Int) (hx : a.eval x = .slice D m c') (hy : Ri w B D m ys) (hlen : n < 549755813888) (hlen2 : m < 549755813888) (hbase : base ≤ w.heap.size)
    (h : ∀ A' cap w', Oi w' base A' (n + m) cap (xs ++ ys) → w.grownBy w' (A.map Addr.block) → wpList Tryz.prog ops Q rest (a.put o.dst (.slice A' (n + m) cap)) w') : wpList Tryz.prog ops Q (o :: rest) a w := by
  obtain ⟨i0, hi, hz0, hz1, hz2⟩ := info_parts info_int
  rcases D with _ | ad
  · have hm : m = 0 := by
      rcases Nat.eq_zero_or_pos m with h0 | h0
      · exact h0
      · obtain ⟨ad, h, _⟩ := hy.2 h0
        cases h
    subst hm
    have hn : ys = [] := List.eq_nil_of_length_eq_zero hy.len
    subst hn
    refine wpList_plain hgd fun K hK => ?_
    have hrun := run_append_none (P := Tryz.prog) w base _ o.type _ i0 1 under_ints hi (.slice A n c) n (ints xs) hown c'
    unfold Oper.wp
    simp only [execOp, ho, resolve, invoke]
    simp [builtin, hs, hx, hrun, Result.andThen]
    refine hK _ _ (h A c w ?_ (World.grownBy.refl w _))
    simpa using hown
  · have hm : n + m ≤ maxLen := by unfold maxLen; omega
    refine wpList_append_own w hgd s x _ ho base _ i0 _ 1 8 under_ints hi hz0 hz1 hz2 rfl (by decide) _ n (ints xs) hs hown ad m c' (ints ys) hx hy.1 ?_ (ints_oneCell _ _) hm (by omega) hbase ?_
    · intro j u hj
      rcases Nat.eq_zero_or_pos m with h0 | h0
      · subst h0
        have : ys = [] := List.eq_nil_of_length_eq_zero hy.len
        subst this
        simp [ints] at hj
      · obtain ⟨ad', e, _, hc⟩ := hy.2 h0
        obtain rfl := Option.some.inj e
        obtain ⟨hl, rfl⟩ := List.getElem?_eq_some_iff.1 hj
        exact hc j hl
    · intro v' w' hown' hgrow _
      have hv : ∃ A' cap, v' = .slice A' (n + m) cap := by
        rcases hown'.2 with ⟨rfl, h0⟩ | ⟨g, cap, cur, rfl, _⟩
        · exact ⟨none, 0, by rw [h0]⟩
        · exact ⟨_, cap, rfl⟩
      obtain ⟨A', cap, rfl⟩ := hv
      refine h A' cap w' ?_ ?_
      · unfold Oi; rw [ints_append]; exact hown'
      · cases A <;> exact hgrow

theorem Oi.grew {w wr w1 : World} {B base : Nat} {A : Option Addr} {n c : Nat} {xs : List Int} (ho : Oi wr base A n c xs) (hb : Below B w wr) (hs : B ≤ wr.heap.size) (hB : B ≤ base)
    (hg : wr.grownBy w1 (A.map Addr.block)) : Below B w w1 :=
  hb.grown hg hs fun k hk => Nat.le_trans hB (ho.lt k hk).1
/-- '[]int{}'. -/
theorem Oi.lit0 (w : World) : Oi (w.alloc (.cells #[] 3)) w.heap.size (some ⟨w.heap.size, 0, none⟩) 0 0 [] := World.ownsRow_lit w #[] 0 (Nat.le_refl _) (by decide) rfl
theorem Oi.lit1 (w : World) (x : Int) : Oi (w.alloc (.cells #[.int .i64 x] 3)) w.heap.size (some ⟨w.heap.size, 0, none⟩) 1 1 [x] := World.ownsRow_lit w #[.int .i64 x] 1 (Nat.le_refl _) (by decide) rfl
theorem Oi.lit (w : World) (cs : Array Value) (n : Nat) (xs : List Int) (h : cs.toList = ints xs) (hn : cs.size = n) (hm : n < 1099511627776) : Oi (w.alloc (.cells cs 3)) w.heap.size (some ⟨w.heap.size, 0, none⟩) n n xs := by
  have := World.ownsRow_lit (base := w.heap.size) (e := 3) (size := 1) w cs n (Nat.le_refl _) (by unfold maxLen; omega) (by omega)
  rw [h] at this
  exact this
/-- 'Below' across an append of one element. -/
theorem Oi.pushed {w wr w1 : World} {B base : Nat} {A : Option Addr} {n c : Nat} {xs : List Int} {o : Obj} (ho : Oi wr base A n c xs) (hb : Below B w wr) (hs : B ≤ wr.heap.size) (hB : B ≤ base)
    (hg : (wr.alloc o).grownBy w1 (A.map Addr.block)) : Below B w w1 :=
  (hb.alloc hs o).grown hg (by simp; omega) fun k hk => Nat.le_trans hB (ho.lt k hk).1
end Go.Proofs.YtibmpjhffeinoaaGreat

namespace Go.Proofs.YtibmpjhffeinoaaGreat

/-- The first place from 'at' on that no copper of L lies at, or 'places'. -/
def slideTo (places : Int) (L : List Int) : Nat → Int → Int
  | 0, at_ => at_
  | f + 1, at_ => if at_ < places ∧ at_ ∈ L then slideTo places L f (at_ + 1) else at_
def slid1 (places : Int) (L : List Int) (d : Int) : Int := slideTo places L (places - d).toNat d
def lie1 (places : Int) (L : List Int) (d : Int) : Int := if slid1 places L d = places then -1 else slid1 places L d
/-- One copper more: where all lie, how far all slid. -/
def step1 (places : Int) (s : List Int × Int) (d : Int) : List Int × Int := (s.1 ++ [lie1 places s.1 d], s.2 + (slid1 places s.1 d - d))
def runOf (places : Int) (ds : List Int) : List Int × Int := ds.foldl (step1 places) ([], 0)
def lieOf (places : Int) (ds : List Int) : List Int := (runOf places ds).1
def farOf (places : Int) (ds : List Int) : Int := (runOf places ds).2
theorem runOf_snoc (places : Int) (ds : List Int) (d : Int) : runOf places (ds ++ [d]) = step1 places (runOf places ds) d := by simp [runOf]
theorem lieOf_snoc (places : Int) (ds : List Int) (d : Int) : lieOf places (ds ++ [d]) = lieOf places ds ++ [lie1 places (lieOf places ds) d] := by simp [lieOf, runOf_snoc, step1]
theorem farOf_snoc (places : Int) (ds : List Int) (d : Int) : farOf places (ds ++ [d]) = farOf places ds + (slid1 places (lieOf places ds) d - d) := by simp [farOf, lieOf, runOf_snoc, step1]
theorem snoc_induction {p : List Int → Prop} (h0 : p []) (h1 : ∀ l d, p l → p (l ++ [d])) (l : List Int) : p l := by
  have h : ∀ (n : Nat) (l : List Int), l.length = n → p l := by
    intro n
    induction n with
    | zero => intro l hl; rw [List.eq_nil_of_length_eq_zero hl]; exact h0
    | succ n ih =>
      intro l hl
      have hne : l ≠ [] := by intro e; rw [e] at hl; cases hl
      rw [← List.dropLast_concat_getLast hne]
      exact h1 _ _ (ih _ (by rw [List.length_dropLast, hl]; rfl))
  exact h _ l rfl
theorem lieOf_length (places : Int) (ds : List Int) : (lieOf places ds).length = ds.length := by
  induction ds using snoc_induction with
  | h0 => rfl
  | h1 l d ih => simp [lieOf_snoc, ih]
theorem take_snoc {α : Type} {l : List α} {k : Nat} {x : α} (h : l[k]? = some x) : l.take (k + 1) = l.take k ++ [x] := by rw [List.take_add_one, h]; rfl

theorem slideTo_stop {places : Int} {L : List Int} {at_ : Int} (f : Nat) (h : ¬ (at_ < places ∧ at_ ∈ L)) : slideTo places L f at_ = at_ := by
  cases f with
  | zero => rfl
  | succ f => simp only [slideTo]; rw [if_neg h]
theorem slideTo_go {places : Int} {L : List Int} {at_ : Int} (f : Nat) (h : at_ < places ∧ at_ ∈ L) : slideTo places L (f + 1) at_ = slideTo places L f (at_ + 1) := by
  simp only [slideTo]; rw [if_pos h]
theorem slid1_stop {places : Int} {L : List Int} {at_ : Int} (h : ¬ (at_ < places ∧ at_ ∈ L)) : slid1 places L at_ = at_ := slideTo_stop _ h
theorem slid1_go {places : Int} {L : List Int} {at_ : Int} (h : at_ < places ∧ at_ ∈ L) : slid1 places L at_ = slid1 places L (at_ + 1) := by
  unfold slid1
  obtain ⟨f, hf⟩ : ∃ f, (places - at_).toNat = f + 1 := ⟨(places - at_).toNat - 1, by omega⟩
  have hf' : (places - (at_ + 1)).toNat = f := by omega
  rw [hf, hf', slideTo_go f h]
theorem slid1_le {places : Int} {L : List Int} : ∀ (f : Nat) (at_ : Int), (places - at_).toNat = f → at_ ≤ places → at_ ≤ slid1 places L at_ ∧ slid1 places L at_ ≤ places := by
  intro f
  induction f with
  | zero =>
    intro at_ h hle
    rw [slid1_stop (by omega)]
    omega
  | succ f ih =>
    intro at_ h hle
    by_cases hc : at_ < places ∧ at_ ∈ L
    · rw [slid1_go hc]
      have := ih (at_ + 1) (by omega) (by omega)
      omega
    · rw [slid1_stop hc]
      omega
theorem slid1_fix {places : Int} {L : List Int} : ∀ {a k : Int}, slid1 places L a = k → a ≤ k → k < places → slid1 places L k = k := by
  intro a k h hak hkp
  have : ∀ (d : Nat) (a : Int), (k - a).toNat = d → a ≤ k → slid1 places L a = k → slid1 places L k = k := by
    intro d
    induction d with
    | zero =>
      intro a h1 h2 h3
      obtain rfl : a = k := by omega
      exact h3
    | succ d ih =>
      intro a h1 h2 h3
      by_cases hm : a < places ∧ a ∈ L
      · rw [slid1_go hm] at h3
        exact ih (a + 1) (by omega) (by omega) h3
      · rw [slid1_stop hm] at h3
        omega
  exact this _ a rfl hak h
theorem slid1_bd {places : Int} {L : List Int} {at_ : Int} (h : at_ ≤ places) : at_ ≤ slid1 places L at_ ∧ slid1 places L at_ ≤ places := slid1_le _ _ rfl h

/-- Drops that are valid. -/
structure Valid (places : Int) (ds : List Int) : Prop where
  lo : 1 ≤ places
  hi : places ≤ 8
  many : ds.length ≤ 12
  all : ∀ d ∈ ds, 0 ≤ d ∧ d < places
def okDrop (p d : Int) : Bool := decide (0 ≤ d) && decide (d < p)
def checkDrops (p : Int) (ds : List Int) : Int := if p < 1 ∨ 8 < p ∨ 12 < ds.length then 6 else if ds.all (okDrop p) then 0 else 3
def checkPlaces (p : Int) : Int := if p < 1 ∨ 8 < p then 6 else 0
theorem okDrop_iff {p d : Int} : okDrop p d = true ↔ 0 ≤ d ∧ d < p := by simp [okDrop]
theorem checkDrops_many {p : Int} {ds : List Int} (h : p < 1 ∨ 8 < p ∨ 12 < ds.length) : checkDrops p ds = 6 := by rw [checkDrops, if_pos h]
theorem checkDrops_bad {p d : Int} {ds : List Int} (h : ¬ (p < 1 ∨ 8 < p ∨ 12 < ds.length)) (hd : d ∈ ds) (hb : ¬ (0 ≤ d ∧ d < p)) : checkDrops p ds = 3 := by
  rw [checkDrops, if_neg h, if_neg]
  intro ha
  exact hb (okDrop_iff.1 (List.all_eq_true.1 ha d hd))
theorem checkDrops_ok {p : Int} {ds : List Int} (h : ¬ (p < 1 ∨ 8 < p ∨ 12 < ds.length)) (ha : ds.all (okDrop p) = true) : checkDrops p ds = 0 := by
  rw [checkDrops, if_neg h, if_pos ha]
theorem checkDrops_valid {p : Int} {ds : List Int} : checkDrops p ds = 0 ↔ Valid p ds := by
  constructor
  · intro h
    unfold checkDrops at h
    split at h
    · cases h
    · rename_i hn
      split at h
      · rename_i ha
        exact ⟨by omega, by omega, by omega, fun d hd => okDrop_iff.1 (List.all_eq_true.1 ha d hd)⟩
      · cases h
  · intro h
    have h1 := h.lo
    have h2 := h.hi
    have h3 := h.many
    exact checkDrops_ok (by omega) (List.all_eq_true.2 fun d hd => okDrop_iff.2 (h.all d hd))
theorem far_bd {places : Int} (h8 : places ≤ 8) (ds : List Int) : (∀ d ∈ ds, 0 ≤ d ∧ d < places) → 0 ≤ farOf places ds ∧ farOf places ds ≤ 8 * ds.length := by
  induction ds using snoc_induction with
  | h0 => intro _; simp [farOf, runOf]
  | h1 l d ih =>
    intro h
    have h1 := ih (fun x hx => h x (by simp [hx]))
    have h2 := h d (by simp)
    have h3 := slid1_bd (places := places) (L := lieOf places l) (at_ := d) (by omega)
    rw [farOf_snoc, List.length_append]
    simp only [List.length_singleton]
    omega
/-- 0, 1, .., n - 1. -/
def upTo (n : Nat) : List Int := (List.range n).map fun (i : Nat) => (i : Int)
theorem upTo_succ (n : Nat) : upTo (n + 1) = upTo n ++ [(n : Int)] := by simp [upTo, List.range_succ]
theorem upTo_length (n : Nat) : (upTo n).length = n := by simp [upTo]
theorem mem_upTo {n : Nat} {x : Int} : x ∈ upTo n ↔ 0 ≤ x ∧ x < n := by
  simp only [upTo, List.mem_map, List.mem_range]
  constructor
  · rintro ⟨k, hk, rfl⟩; omega
  · intro h; exact ⟨x.toNat, by omega, by omega⟩
def inL (L : List Int) (i : Int) : Bool := decide (i ∈ L)
/-- The full places. -/
def fullIn (L : List Int) (n : Nat) : List Int := (upTo n).filter (inL L)
def fullOf (p : Int) (ds : List Int) : List Int := fullIn (lieOf p ds) p.toNat
def fellOf (p : Int) (ds : List Int) : Int := (ds.length : Int) - ((fullOf p ds).length : Int)
theorem fullIn_le (L : List Int) (n : Nat) : (fullIn L n).length ≤ n := by
  have h := List.length_filter_le (inL L) (upTo n)
  rw [upTo_length] at h
  exact h
theorem fullIn_yes {L : List Int} {n : Nat} (h : (n : Int) ∈ L) : fullIn L (n + 1) = fullIn L n ++ [(n : Int)] := by simp [fullIn, upTo_succ, inL, h]
theorem fullIn_no {L : List Int} {n : Nat} (h : (n : Int) ∉ L) : fullIn L (n + 1) = fullIn L n := by simp [fullIn, upTo_succ, inL, h]
theorem full_le {p : Int} (h : p ≤ 8) (ds : List Int) : (fullOf p ds).length ≤ 8 := by
  have := fullIn_le (lieOf p ds) p.toNat
  unfold fullOf
  omega
/-- How many coppers a place proves to fall. -/
def geB (q d : Int) : Bool := decide (q ≤ d)
def cntGe (q : Int) (ds : List Int) : Int := ((ds.countP (geB q) : Nat) : Int)
def overOf (p : Int) (ds : List Int) (q : Int) : Int := q - p + cntGe q ds
theorem cntGe_bd (q : Int) (ds : List Int) : 0 ≤ cntGe q ds ∧ cntGe q ds ≤ ds.length := by
  have := List.countP_le_length (p := geB q) (l := ds)
  unfold cntGe
  omega
theorem cntGe_yes {q d : Int} {ds : List Int} (h : q ≤ d) : cntGe q (ds ++ [d]) = cntGe q ds + 1 := by
  have : geB q d = true := by simp [geB, h]
  simp [cntGe, List.countP_append, this]
theorem cntGe_no {q d : Int} {ds : List Int} (h : ¬ q ≤ d) : cntGe q (ds ++ [d]) = cntGe q ds := by
  have : geB q d = false := by simp [geB, h]
  simp [cntGe, List.countP_append, this]
/-- The first place, from k on, that proves m coppers to fall. -/
def firstOver (p : Int) (ds : List Int) (m : Int) : Nat → Nat → Int × Int
  | 0, _ => (0, 20)
  | f + 1, k => if (k : Int) < p then (if overOf p ds k = m then ((k : Int), 0) else firstOver p ds m f (k + 1)) else (0, 20)
def overR (p : Int) (ds : List Int) : Int × Int := if 0 < fellOf p ds then firstOver p ds (fellOf p ds) 9 0 else (0, 20)
/-- The places on which one more may be dropped. -/
def mayB (p : Int) (ds : List Int) (i : Int) : Bool := decide (fellOf p (ds ++ [i]) = 0)
def mayIn (p : Int) (ds : List Int) (n : Nat) : List Int := (upTo n).filter (mayB p ds)
theorem mayIn_yes {p : Int} {ds : List Int} {n : Nat} (h : fellOf p (ds ++ [(n : Int)]) = 0) : mayIn p ds (n + 1) = mayIn p ds n ++ [(n : Int)] := by simp [mayIn, upTo_succ, mayB, h]
theorem mayIn_no {p : Int} {ds : List Int} {n : Nat} (h : ¬ fellOf p (ds ++ [(n : Int)]) = 0) : mayIn p ds (n + 1) = mayIn p ds n := by simp [mayIn, upTo_succ, mayB, h]
theorem fell_snoc_valid {p d : Int} {ds : List Int} (hv : Valid p ds) (h0 : fellOf p ds = 0) (hd : 0 ≤ d ∧ d < p) : Valid p (ds ++ [d]) := by
  have h8 := full_le hv.hi ds
  refine ⟨hv.lo, hv.hi, ?_, fun x hx => ?_⟩
  · unfold fellOf at h0
    rw [List.length_append, List.length_singleton]
    omega
  · rcases List.mem_append.1 hx with h | h
    · exact hv.all x h
    · obtain rfl := List.mem_singleton.1 h
      exact hd
/-- How many places of l follow one another up to q, downwards. -/
def runDown (l : List Int) : Nat → Int → Int
  | 0, _ => 0
  | f + 1, q => if q ∈ l then 1 + runDown l f (q - 1) else 0
def runR (l : List Int) (q : Int) : Int := 1 + runDown l q.toNat (q - 1)
theorem runDown_bd (l : List Int) : ∀ (f : Nat) (q : Int), 0 ≤ runDown l f q ∧ runDown l f q ≤ f := by
  intro f
  induction f with
  | zero => intro q; simp [runDown]
  | succ f ih =>
    intro q
    have := ih (q - 1)
    unfold runDown
    split <;> omega
theorem runR_bd (l : List Int) {q : Int} (h : 0 ≤ q) : 1 ≤ runR l q ∧ runR l q ≤ q + 1 := by
  have := runDown_bd l q.toNat (q - 1)
  unfold runR
  omega
/-- Bit i of a number. -/
def bitB (s : Nat) (i : Nat) : Bool := decide (s / 2 ^ i % 2 = 1)
def listedIn (s : Nat) (n : Nat) : List Int := ((List.range n).filter (bitB s)).map fun (i : Nat) => (i : Int)
def listed (s : Nat) : List Int := listedIn s 8
theorem listedIn_yes {s n : Nat} (h : bitB s n = true) : listedIn s (n + 1) = listedIn s n ++ [(n : Int)] := by simp [listedIn, List.range_succ, List.filter_append, h]
theorem listedIn_no {s n : Nat} (h : bitB s n = false) : listedIn s (n + 1) = listedIn s n := by simp [listedIn, List.range_succ, List.filter_append, h]
theorem listedIn_le (s n : Nat) : (listedIn s n).length ≤ n := by
  have := List.length_filter_le (bitB s) (List.range n)
  simp only [listedIn, List.length_map, List.length_range] at *
  omega
theorem mem_listed {s : Nat} {q : Int} (h : q ∈ listed s) : 0 ≤ q ∧ q < 8 ∧ bitB s q.toNat = true := by
  simp only [listed, listedIn, List.mem_map, List.mem_filter, List.mem_range] at h
  obtain ⟨k, ⟨h1, h2⟩, rfl⟩ := h
  exact ⟨by omega, by omega, by simpa using h2⟩
end Go.Proofs.YtibmpjhffeinoaaGreat

namespace Go.Proofs.YtibmpjhffeinoaaGreat
open Go.RowKit

def outB (lo hi x : Int) : Bool := decide (x < lo) || decide (hi < x)
theorem outB_false {lo hi x : Int} : outB lo hi x = false ↔ lo ≤ x ∧ x ≤ hi := by simp [outB]
set_option maxHeartbeats 400000 in
theorem lWithin1 (x lo hi : Int) (a b : Addr) (w : World) (ha : w.cell? a = some (.int .i64 lo)) (hb : w.cell? b = some (.int .i64 hi)) :
    Calls Tryz.prog 170 #[.int .i64 x, .pointer (some a), .pointer (some b)] w fun e w' => e = .returned (.bool (outB lo hi x)) ∧ w = w' := by
  by_cases h1 : x < lo
  · go_enter Tryz.func170, Tryz.ntmps170
    go_wp2
    go_ret
    exact ⟨ret_b (by simp [outB, h1]), rfl⟩
  · by_cases h2 : hi < x
    · go_enter Tryz.func170, Tryz.ntmps170
      go_wp2
      go_ret
      exact ⟨ret_b (by simp [outB, h2]), rfl⟩
    · go_enter Tryz.func170, Tryz.ntmps170
      go_wp2
      go_ret
      exact ⟨ret_b (by symm; rw [outB_false]; omega), rfl⟩

set_option maxHeartbeats 400000 in
theorem indexFunc_within (lo hi : Int) (a b : Addr) (A : Option Addr) (n c B : Nat) (xs : List Int) (w : World) (ha : w.cell? a = some (.int .i64 lo)) (hb : w.cell? b = some (.int .i64 hi))
    (hx : Ri w B A n xs) (hn : n ≤ 1099511627776) (r : Bool) (HR : Hid (xs.any (outB lo hi) = r)) :
    Calls Tryz.prog 283 #[.slice A n c, .func (.func 170) #[] #[.pointer (some a), .pointer (some b)]] w fun e w' => (∃ k : Int, e = .returned (.int .i64 k) ∧ decide (0 ≤ k) = r) ∧ w = w' := by
  have HL := Lib.hid hx.len
  go_enter Tryz.func283, Tryz.ntmps283
  go_wp2
  go_loop [5, 8] (fun _ i => ∃ k : Nat, k ≤ n ∧ i = .int .i64 k ∧ Hid ((xs.take k).any (outB lo hi) = false)) (fun _ i => n - (intOf i).toNat)
  case atStart => exact ⟨0, Nat.zero_le _, rfl, Lib.hid rfl⟩
  case round =>
    obtain ⟨k, hk, rfl, hno⟩ := hrel
    by_cases hlt : k < n
    · obtain ⟨ad, x, rfl, _, hc, hxk, _⟩ := hx.at_ hlt
      cases hout : outB lo hi x
      · have HX : Hid ((xs.take (k + 1)).any (outB lo hi) = false) := Lib.hid (by rw [take_snoc hxk.out, List.any_append, hno.out]; simp [hout])
        have HO := Lib.hid hout
        clear hout
        go_wp2_with (go_at_call 170; refine (lWithin1 _ _ _ _ _ _ ha hb).mono ?_; rintro e w' ⟨rfl, rfl⟩; rw [HO.out])
        go_round
        case rel => exact ⟨k + 1, by omega, by go_num, HX⟩
        case measure => simp [intOf]; omega
      · have HX : Hid (r = true) := Lib.hid (by rw [← HR.out]; exact List.any_eq_true.2 ⟨x, List.mem_of_getElem? hxk.out, hout⟩)
        have HO := Lib.hid hout
        clear hout
        go_wp2_with (go_at_call 170; refine (lWithin1 _ _ _ _ _ _ ha hb).mono ?_; rintro e w' ⟨rfl, rfl⟩; rw [HO.out])
        go_ret
        exact ⟨⟨k, rfl, by rw [HX.out]; simp⟩, rfl⟩
    · have HX : Hid (r = false) := Lib.hid (by rw [← HR.out]; have := hno.out; rw [List.take_of_length_le (by rw [HL.out]; omega)] at this; exact this)
      go_wp2
      go_ret
      exact ⟨⟨-1, rfl, by rw [HX.out]; simp⟩, rfl⟩

set_option maxHeartbeats 400000 in
theorem containsFunc_within (lo hi : Int) (a b : Addr) (A : Option Addr) (n c B : Nat) (xs : List Int) (w : World) (ha : w.cell? a = some (.int .i64 lo)) (hb : w.cell? b = some (.int .i64 hi))
    (hx : Ri w B A n xs) (hn : n ≤ 1099511627776) (r : Bool) (HR : Hid (xs.any (outB lo hi) = r)) :
    Calls Tryz.prog 156 #[.slice A n c, .func (.func 170) #[] #[.pointer (some a), .pointer (some b)]] w fun e w' => e = .returned (.bool r) ∧ w = w' := by
  go_enter Tryz.func156, Tryz.ntmps156
  go_wp2_with (go_at_call 283; refine (indexFunc_within _ _ _ _ _ _ _ _ _ _ ha hb hx hn _ HR).mono ?_; rintro e w' ⟨⟨k, rfl, hk⟩, rfl⟩; have HK := Lib.hid hk; clear hk)
  go_ret
  exact ⟨ret_b HK.out, rfl⟩

set_option maxHeartbeats 400000 in
theorem lWithin (lo hi : Int) (A : Option Addr) (n c : Nat) (xs : List Int) (w : World) (hx : Ri w w.heap.size A n xs) (hn : n ≤ 1099511627776) (r : Bool) (HR : Hid (xs.any (outB lo hi) = r)) :
    Calls Tryz.prog 70 #[.int .i64 lo, .int .i64 hi, .slice A n c] w fun e w' => e = .returned (.bool (!r)) ∧ Below w.heap.size w w' ∧ w'.heap.size = w.heap.size + 2 := by
  have ha : ((w.alloc (.cells #[.int .i64 lo] 3)).alloc (.cells #[.int .i64 hi] 3)).cell? ⟨w.heap.size, 0, none⟩ = some (.int .i64 lo) := (World.cell?_alloc_lt _ _ _ (by simp)).trans (cell_new1 _ _ _)
  have hb : ((w.alloc (.cells #[.int .i64 lo] 3)).alloc (.cells #[.int .i64 hi] 3)).cell? ⟨w.heap.size + 1, 0, none⟩ = some (.int .i64 hi) := by
    simp
  have hx2 : Ri ((w.alloc (.cells #[.int .i64 lo] 3)).alloc (.cells #[.int .i64 hi] 3)) w.heap.size A n xs := (hx.alloc (Nat.le_refl _) _).alloc (by simp) _
  go_enter Tryz.func70, Tryz.ntmps70
  go_wp2_with (go_at_call 156; refine (containsFunc_within _ _ _ _ _ _ _ _ _ _ ha hb hx2 hn _ HR).mono ?_; rintro e w' ⟨rfl, rfl⟩)
  go_ret
  exact ⟨rfl, ((Below.refl _ w).alloc (Nat.le_refl _) _).alloc (by simp) _, by simp⟩
end Go.Proofs.YtibmpjhffeinoaaGreat

namespace Go.Proofs.YtibmpjhffeinoaaGreat
open Go.RowKit

set_option maxHeartbeats 400000 in
theorem lCheckDrops (p : Int) (A : Option Addr) (n c : Nat) (ds : List Int) (w : World) (hx : Ri w w.heap.size A n ds) (hn : n ≤ 1099511627776) (r : Int) (HR : Hid (checkDrops p ds = r)) :
    Calls Tryz.prog 166 #[.int .i64 p, .slice A n c] w fun e w' => e = .returned (.int .i64 r) ∧ Below w.heap.size w w' := by
  have HL := Lib.hid hx.len
  have hlit := (Oi.lit1 w p).ri
  by_cases h1 : p < 1 ∨ 8 < p
  · have HE : Hid (r = 6) := Lib.hid (HR.out.symm.trans (checkDrops_many (by omega)))
    have HB : Hid ([p].any (outB 1 8) = true) := Lib.hid (by simp [outB]; omega)
    go_enter Tryz.func166, Tryz.ntmps166
    go_wp2_with (go_at_call 70; refine (lWithin _ _ _ _ _ _ _ hlit (by omega) _ HB).mono ?_; rintro e w1 ⟨rfl, hb, hs⟩; clear hs)
    go_ret
    exact ⟨ret_i HE.out.symm, ((Below.refl _ w).alloc (Nat.le_refl _) _).trans (hb.mono (by simp))⟩
  · have HB : Hid ([p].any (outB 1 8) = false) := Lib.hid (by simp [outB]; omega)
    by_cases h2 : 12 < n
    · have HE : Hid (r = 6) := Lib.hid (HR.out.symm.trans (checkDrops_many (by rw [HL.out]; omega)))
      go_enter Tryz.func166, Tryz.ntmps166
      go_wp2_with (go_at_call 70; refine (lWithin _ _ _ _ _ _ _ hlit (by omega) _ HB).mono ?_; rintro e w1 ⟨rfl, hb, hs⟩; clear hs)
      go_ret
      exact ⟨ret_i HE.out.symm, ((Below.refl _ w).alloc (Nat.le_refl _) _).trans (hb.mono (by simp))⟩
    · have HN : Hid (¬ (p < 1 ∨ 8 < p ∨ 12 < ds.length)) := Lib.hid (by rw [HL.out]; omega)
      have hp1 : 1 ≤ p := by omega
      have hp8 : p ≤ 8 := by omega
      have hbe : ∀ w1, Below (w.heap.size + 1) (w.alloc (.cells #[.int .i64 p] 3)) w1 → Below w.heap.size w w1 := fun w1 hb => ((Below.refl _ w).alloc (Nat.le_refl _) _).trans (hb.mono (by omega))
      have HBE := Lib.hid hbe
      clear hbe
      obtain ⟨b, HBB⟩ : ∃ b, Hid (ds.any (outB 0 (p - 1)) = b) := ⟨_, Lib.hid rfl⟩
      cases b
      · have HE : Hid (r = 0) := Lib.hid (HR.out.symm.trans (checkDrops_ok HN.out (List.all_eq_true.2 fun d hd => by
          have h := List.any_eq_false.1 HBB.out d hd
          rw [Bool.not_eq_true, outB_false] at h
          rw [okDrop_iff]
          omega)))
        go_enter Tryz.func166, Tryz.ntmps166
        go_wp2_with fail
        refine (lWithin _ _ _ _ _ _ _ hlit (by omega) _ HB).mono ?_
        rintro e w1 ⟨rfl, hb, hs⟩
        clear hs
        have hb1 := HBE.out w1 (by simpa using hb)
        go_wp2_with fail
        refine (lWithin _ _ _ _ _ _ _ ((hx.below hb1).more hb1.size) hn _ HBB).mono ?_
        rintro e w2 ⟨rfl, hb2, hs2⟩
        clear hs2
        go_wp2_with fail
        go_ret
        exact ⟨ret_i HE.out.symm, hb1.trans (hb2.mono hb1.size)⟩
      · have HE : Hid (r = 3) := Lib.hid (by
          obtain ⟨d, hd, ho⟩ := List.any_eq_true.1 HBB.out
          refine HR.out.symm.trans (checkDrops_bad HN.out hd fun h => ?_)
          have : outB 0 (p - 1) d = false := outB_false.2 (by omega)
          rw [this] at ho
          cases ho)
        go_enter Tryz.func166, Tryz.ntmps166
        go_wp2_with fail
        refine (lWithin _ _ _ _ _ _ _ hlit (by omega) _ HB).mono ?_
        rintro e w1 ⟨rfl, hb, hs⟩
        clear hs
        have hb1 := HBE.out w1 (by simpa using hb)
        go_wp2_with fail
        refine (lWithin _ _ _ _ _ _ _ ((hx.below hb1).more hb1.size) hn _ HBB).mono ?_
        rintro e w2 ⟨rfl, hb2, hs2⟩
        clear hs2
        go_wp2_with fail
        go_ret
        exact ⟨ret_i HE.out.symm, hb1.trans (hb2.mono hb1.size)⟩

/-! ### The pusher -/
def tkI (L : List Int) (i : Int) : Int := if i ∈ L then 1 else 0
def puCells (pl : Int) (wh : Bool) (L : List Int) (A : Option Addr) (n c : Nat) (s : Int) : Array Value :=
  #[.int .i64 pl, .bool wh, .int .i64 (tkI L 0), .int .i64 (tkI L 1), .int .i64 (tkI L 2), .int .i64 (tkI L 3), .int .i64 (tkI L 4), .int .i64 (tkI L 5), .int .i64 (tkI L 6), .int .i64 (tkI L 7), .slice A n c, .int .i64 s]
/-- Block g is a pusher: its ledge, what is taken, where the coppers L lie, how far all slid. Its list lies in a row of its own, from 'base' on. -/
def Pu (w : World) (base g : Nat) (pl : Int) (wh : Bool) (A : Option Addr) (n c : Nat) (L : List Int) (s : Int) : Prop :=
  base ≤ g ∧ w.heap[g]? = some (.cells (puCells pl wh L A n c s) 128 (0, 0)) ∧ Oi w base A n c L

theorem zero_int (w : World) : (zeroValue 3).run Tryz.prog w = .ok (.int .i64 0) w := by kernel_rfl
theorem clear_new (pl : Int) (wh : Bool) (w : World) (ty : TypeId) : (Builtin.clear_ #[35] ty #[.slice (some ⟨w.heap.size, 2, none⟩) 8 8]).run Tryz.prog (w.alloc (.cells (puCells pl wh [] none 0 0 0) 128)) = .ok (.tuple #[]) (w.alloc (.cells (puCells pl wh [] none 0 0 0) 128)) := by
  have h := Lib.run_clear_slice (P := Tryz.prog) (w.alloc (.cells (puCells pl wh [] none 0 0 0) 128)) 35 3 ty (.int .i64 0) under_ints zero_int rfl rfl w.heap.size 2 8 8 (by decide)
    (fun j hj => by
      rw [cell_of_row _ w.heap.size (2 + j) _ _ (0, 0) (heap_alloc_new w _)]
      match j, hj with
      | 0, _ => rfl
      | 1, _ => rfl
      | 2, _ => rfl
      | 3, _ => rfl
      | 4, _ => rfl
      | 5, _ => rfl
      | 6, _ => rfl
      | 7, _ => rfl)
    (fun j hj => frozen_of_row _ w.heap.size (2 + j) _ _ (heap_alloc_new w _))
  rw [h]
  have e : ∀ (c : Array Value) (i : Nat), (w.alloc (.cells c 128)).setCell ⟨w.heap.size, i, none⟩ (.int .i64 0) = w.alloc (.cells (c.setIfInBounds i (.int .i64 0)) 128) := fun c i => World.setCell_alloc_new c _ i _
  simp only [List.replicate, World.setCells, e]
  have e2 : ((((((((puCells pl wh [] none 0 0 0).setIfInBounds 2 (.int .i64 0)).setIfInBounds 3 (.int .i64 0)).setIfInBounds 4 (.int .i64 0)).setIfInBounds 5 (.int .i64 0)).setIfInBounds 6 (.int .i64 0)).setIfInBounds 7 (.int .i64 0)).setIfInBounds 8 (.int .i64 0)).setIfInBounds 9 (.int .i64 0) = puCells pl wh [] none 0 0 0 := by simp [puCells, tkI]
  simp only [Nat.reduceAdd, e2]

set_option maxHeartbeats 400000 in
theorem lNewPusher (pl : Int) (wh : Bool) (w : World) :
    Calls Tryz.prog 71 #[.int .i64 pl, .bool wh] w fun e w' => e = .returned (.pointer (some ⟨w.heap.size, 0, none⟩)) ∧ Pu w' w.heap.size w.heap.size pl wh none 0 0 [] 0 ∧ Below w.heap.size w w' ∧ w'.heap.size = w.heap.size + 1 := by
  have hcl := fun ty => clear_new pl wh w ty
  unfold puCells tkI at hcl
  simp only [List.not_mem_nil, if_false] at hcl
  go_enter Tryz.func71, Tryz.ntmps71
  go_wp2_with (simp only [hcl])
  go_ret
  exact ⟨rfl, ⟨Nat.le_refl _, heap_alloc_new w _, Oi.nil_ _ _⟩, (Below.refl _ w).alloc (Nat.le_refl _) _, by simp⟩
end Go.Proofs.YtibmpjhffeinoaaGreat

namespace Go.Proofs.YtibmpjhffeinoaaGreat
open Go.RowKit Go.Shelf
attribute [local go_sem] Oper.semAt_some

/-- The free places from a on, below b. -/
abbrev Free (L : List Int) := { x : Nat // x < 8 ∧ (x : Int) ∉ L }
def yl (L : List Int) (a : Nat) : Nat → List (Free L)
  | 0 => []
  | b + 1 => if h : b < 8 ∧ (b : Int) ∉ L then (if a ≤ b then yl L a b ++ [⟨b, h⟩] else yl L a b) else yl L a b
theorem yl_le (L : List Int) (a : Nat) : ∀ b, (yl L a b).length ≤ b := by
  intro b
  induction b with
  | zero => simp [yl]
  | succ b ih =>
    unfold yl
    split
    · split
      · rw [List.length_append, List.length_singleton]; omega
      · omega
    · omega
theorem yl_start (L : List Int) (a : Nat) : ∀ b, b ≤ a → yl L a b = [] := by
  intro b
  induction b with
  | zero => intro _; rfl
  | succ b ih =>
    intro h
    have h1 := ih (by omega)
    unfold yl
    split
    · rw [if_neg (by omega), h1]
    · exact h1
theorem yl_yes {L : List Int} {a b : Nat} (h8 : b < 8) (h1 : a ≤ b) (h2 : (b : Int) ∉ L) : yl L a (b + 1) = yl L a b ++ [⟨b, h8, h2⟩] := by
  rw [yl, dif_pos ⟨h8, h2⟩, if_pos h1]
theorem yl_no {L : List Int} {a b : Nat} (h2 : (b : Int) ∈ L) : yl L a (b + 1) = yl L a b := by
  rw [yl, dif_neg (fun h => h.2 h2)]
theorem yl_nil {L : List Int} {a : Nat} : ∀ b, b ≤ 8 → yl L a b = [] → ∀ j, a ≤ j → j < b → (j : Int) ∈ L := by
  intro b
  induction b with
  | zero => intro _ _ j _ h; omega
  | succ b ih =>
    intro h8 h j hj hb
    by_cases hm : (b : Int) ∈ L
    · rw [yl_no hm] at h
      rcases Nat.lt_or_ge j b with hlt | hge
      · exact ih (by omega) h j hj hlt
      · obtain rfl : j = b := by omega
        exact hm
    · rw [yl_yes (by omega) (by omega) hm] at h
      simp at h
theorem slid1_first {L : List Int} {b k : Nat} (hkb : k < b) (hk : (k : Int) ∉ L) : ∀ (d a : Nat), k - a = d → a ≤ k → (∀ j : Nat, a ≤ j → j < k → (j : Int) ∈ L) → slid1 (b : Int) L (a : Int) = k := by
  intro d
  induction d with
  | zero =>
    intro a h1 h2 _
    obtain rfl : a = k := by omega
    exact slid1_stop (fun h => hk h.2)
  | succ d ih =>
    intro a h1 h2 h3
    rw [slid1_go ⟨by omega, h3 a (Nat.le_refl _) (by omega)⟩]
    exact ih (a + 1) (by omega) (by omega) (fun j hj hk => h3 j (by omega) hk)
theorem slid1_none {L : List Int} {b : Nat} : ∀ (d a : Nat), b - a = d → a ≤ b → (∀ j : Nat, a ≤ j → j < b → (j : Int) ∈ L) → slid1 (b : Int) L (a : Int) = b := by
  intro d
  induction d with
  | zero =>
    intro a h1 h2 _
    obtain rfl : a = b := by omega
    exact slid1_stop (by omega)
  | succ d ih =>
    intro a h1 h2 h3
    rw [slid1_go ⟨by omega, h3 a (Nat.le_refl _) (by omega)⟩]
    exact ih (a + 1) (by omega) (by omega) (fun j hj hk => h3 j (by omega) hk)

set_option maxHeartbeats 400000 in
theorem pFree (g : Addr) (at_ : Int) (w : World) :
    Calls Tryz.prog 287 #[.pointer (some g), .int .i64 at_] w fun e w' => e = .returned (.func (.func 341) #[] #[.pointer (some ⟨w.heap.size + 1, 0, none⟩), .pointer (some ⟨w.heap.size, 0, none⟩)]) ∧
      (w.alloc (.cells #[.pointer (some g)] 119)).alloc (.cells #[.int .i64 at_] 3) = w' := by
  go_enter Tryz.func287, Tryz.ntmps287
  go_wp2
  go_ret
  exact ⟨rfl, rfl⟩

theorem pu_cell {w : World} {g : Nat} {pl : Int} {wh : Bool} {L : List Int} {A : Option Addr} {n c : Nat} {s : Int} (h : w.heap[g]? = some (.cells (puCells pl wh L A n c s) 128 (0, 0))) (i : Nat) :
    w.cell? ⟨g, i, none⟩ = (puCells pl wh L A n c s)[i]? := cell_of_row w g i _ _ (0, 0) h
theorem pu_taken {w : World} {g : Nat} {pl : Int} {wh : Bool} {L : List Int} {A : Option Addr} {n c : Nat} {s : Int} (h : w.heap[g]? = some (.cells (puCells pl wh L A n c s) 128 (0, 0))) {k : Nat} (hk : k < 8) :
    w.cell? ⟨g, 2 + k, none⟩ = some (.int .i64 (tkI L k)) := by
  rw [pu_cell h]
  match k, hk with
  | 0, _ => rfl
  | 1, _ => rfl
  | 2, _ => rfl
  | 3, _ => rfl
  | 4, _ => rfl
  | 5, _ => rfl
  | 6, _ => rfl
  | 7, _ => rfl
theorem tkI_yes {L : List Int} {i : Int} (h : i ∈ L) : tkI L i = 1 := if_pos h
theorem tkI_no {L : List Int} {i : Int} (h : i ∉ L) : tkI L i = 0 := if_neg h

set_option maxRecDepth 100000 in
set_option maxHeartbeats 1000000 in
theorem free1_in (F : Fence) (n : Nat) (hF : F.fn 341) (hro : F.round = none) (hn : 1 ≤ n) (l bp bf g n₀ a b : Nat) (wh : Bool) (L : List Int) (A : Option Addr) (m c : Nat) (s : Int) (hb8 : b ≤ 8) (hab : a ≤ b)
    (hbp : bp < n₀) (hg : g < n₀) (J Jx : List (Free L) → World → Prop)
    (hY : ∀ pre x W, J pre W → pre.length < 9 → YieldAt F (n - 1) Tryz.prog l #[.int .i64 ((x : Free L).1 : Int)] W fun e W' =>
      (e = .returned (.bool true) ∧ J (pre ++ [x]) W' ∧ Below n₀ W W') ∨ (e = .returned (.bool false) ∧ Jx (pre ++ [x]) W'))
    (W : World) (hcp : W.cell? ⟨bp, 0, none⟩ = some (.pointer (some ⟨g, 0, none⟩))) (hcf : W.cell? ⟨bf, 0, none⟩ = some (.int .i64 (a : Int)))
    (hpu : W.heap[g]? = some (.cells (puCells (b : Int) wh L A m c s) 128 (0, 0))) (h0 : J [] W) :
    CallsIn F n Tryz.prog 341 #[.func (.yield l) #[] #[], .pointer (some ⟨bf, 0, none⟩), .pointer (some ⟨bp, 0, none⟩)] W fun e W' => (∃ v, e = .returned v) ∧
      ((∃ ys, ys = yl L a b ∧ J ys W') ∨ (∃ pre, (∃ k, k < b ∧ a ≤ k ∧ (k : Int) ∉ L ∧ pre = yl L a (k + 1)) ∧ Jx pre W')) := by
  refine callsIn_of_wp Tryz.func341 rfl hF ?_ hro
  simp only [Tryz.ntmps341, List.size_toArray, List.length_cons, List.length_nil, Nat.reduceAdd, Nat.reduceSub, Array.replicate_succ, Array.replicate_zero, List.push_toArray, List.append_toArray, List.nil_append, List.cons_append]
  gi_wp2
  gi_loopw [4] (fun i wr => ∃ k : Nat, a ≤ k ∧ k ≤ b ∧ i = .int .i64 k ∧ J (yl L a k) wr ∧ Below n₀ W wr) (fun i _ => b - (intOf i).toNat)
  case atStart => exact ⟨a, Nat.le_refl _, hab, rfl, by rw [yl_start L a a (Nat.le_refl _)]; exact h0, Below.refl _ _⟩
  case round =>
    obtain ⟨k, hak, hk, rfl, hJs, hnx⟩ := hrel
    have hcp' := (hnx.cell (p := ⟨bp, 0, none⟩) hbp).trans hcp
    have hpu' := (hnx.block g hg).trans hpu
    have hc0 : wr.cell? ⟨g, 0, none⟩ = some (.int .i64 (b : Int)) := pu_cell hpu' 0
    by_cases hlt : k < b
    · have hc1 := pu_taken hpu' (k := k) (by omega)
      clear hpu'
      by_cases hm : (k : Int) ∈ L
      · have HX := Lib.hid (yl_no (a := a) hm)
        rw [tkI_yes hm] at hc1
        clear hm
        gi_wp2
        refine ⟨fun _ h => (by cases h), ?_⟩
        gi_wp2
        go_roundw
        case rel => exact ⟨k + 1, by omega, by omega, by go_num, by rw [HX.out]; exact hJs, hnx⟩
        case measure => simp [intOf]; omega
      · have HX := Lib.hid (yl_yes (a := a) (b := k) (by omega) hak hm)
        rw [tkI_no hm] at hc1
        obtain ⟨fn, tmps, assign, body, hy, hR⟩ := hY _ ⟨k, by omega, hm⟩ wr hJs (by have := yl_le L a k; omega)
        have HM := Lib.hid hm
        dsimp only at hy
        gi_wp2
        refine hR.mono ?_
        rintro e W3 (⟨rfl, hJ3, hk3⟩ | ⟨rfl, hJx3⟩)
        · gi_wp2
          go_roundw
          case rel => exact ⟨k + 1, by omega, by omega, by go_num, by rw [HX.out]; exact hJ3, hnx.trans hk3⟩
          case measure => simp [intOf]; omega
        · gi_wp2
          refine bodyPost_ret (results_none rfl _ _ _) rfl ?_
          exact ⟨⟨_, rfl⟩, .inr ⟨_, ⟨k, hlt, hak, HM.out, HX.out.symm⟩, hJx3⟩⟩
    · obtain rfl : k = b := by omega
      clear hpu'
      gi_wp2
      go_end0
      exact ⟨⟨_, rfl⟩, .inl ⟨_, rfl, hJs⟩⟩

theorem free1_stops (F : Fence) (n : Nat) (hF : F.fn 341) (hro : F.round = none) (hn : 1 ≤ n) (bp bf g n₀ a b : Nat) (wh : Bool) (L : List Int) (A : Option Addr) (m c : Nat) (s : Int) (hb8 : b ≤ 8) (hab : a ≤ b) (w : World)
    (hbp : bp < n₀) (hbf : bf < n₀) (hg : g < n₀) (hn₀ : n₀ ≤ w.heap.size) (hcp : w.cell? ⟨bp, 0, none⟩ = some (.pointer (some ⟨g, 0, none⟩))) (hcf : w.cell? ⟨bf, 0, none⟩ = some (.int .i64 (a : Int)))
    (hpu : w.heap[g]? = some (.cells (puCells (b : Int) wh L A m c s) 128 (0, 0))) :
    SeqStopsK F n Tryz.prog 341 #[.pointer (some ⟨bf, 0, none⟩), .pointer (some ⟨bp, 0, none⟩)] (fun x : Free L => #[.int .i64 (x.1 : Int)]) (Below n₀) (fun ys => ys = yl L a b)
      (fun pre => ∃ k, k < b ∧ a ≤ k ∧ (k : Int) ∉ L ∧ pre = yl L a (k + 1)) 9 w := fun l J Jx W hW _ _ hY h0 =>
  free1_in F n hF hro hn l bp bf g n₀ a b wh L A m c s hb8 hab hbp hg J Jx hY W ((hW.cell (p := ⟨bp, 0, none⟩) (Nat.lt_of_lt_of_le hbp hn₀)).trans hcp) ((hW.cell (p := ⟨bf, 0, none⟩) (Nat.lt_of_lt_of_le hbf hn₀)).trans hcf) ((hW.block g (Nat.lt_of_lt_of_le hg hn₀)).trans hpu) h0
end Go.Proofs.YtibmpjhffeinoaaGreat

namespace Go.Proofs.YtibmpjhffeinoaaGreat
open Go.RowKit Go.Shelf
attribute [local go_sem] Oper.semAt_some

theorem cell_old {w : World} {p : Addr} {v : Value} (o : Obj) (h : w.cell? p = some v) : (w.alloc o).cell? p = some v := (World.grownBy_alloc w o none).cell h (by simp)
/-- Block k is cells, known whole, none frozen. -/
def Bk (W : World) (k : Nat) (t : TypeId) (cs : Array Value) : Prop := W.heap[k]? = some (.cells cs t (0, 0))
theorem Bk.lt {W : World} {k : Nat} {t : TypeId} {cs : Array Value} (h : Bk W k t cs) : k < W.heap.size := (Array.getElem?_eq_some_iff.1 h).1
theorem Bk.cell {W : World} {k : Nat} {t : TypeId} {cs : Array Value} (h : Bk W k t cs) (i : Nat) : W.cell? ⟨k, i, none⟩ = cs[i]? := cell_of_row W k i cs t (0, 0) h
theorem Bk.frozen {W : World} {k : Nat} {t : TypeId} {cs : Array Value} (h : Bk W k t cs) (i : Nat) : W.frozen? ⟨k, i, none⟩ = false := frozen_of_row W k i cs t h
theorem Bk.new (W : World) (t : TypeId) (cs : Array Value) : Bk (W.alloc (.cells cs t)) W.heap.size t cs := heap_alloc_new W _
theorem Bk.alloc {W : World} {k : Nat} {t : TypeId} {cs : Array Value} (h : Bk W k t cs) (o : Obj) : Bk (W.alloc o) k t cs := (Below.heap_alloc W o k h.lt).trans h
theorem Bk.drew {W : World} {k : Nat} {t : TypeId} {cs : Array Value} (h : Bk W k t cs) : Bk W.drew k t cs := h
theorem Bk.grown {W W' : World} {k : Nat} {t : TypeId} {cs : Array Value} {row : Option Nat} (h : Bk W k t cs) (hg : W.grownBy W' row) (hne : some k ≠ row) : Bk W' k t cs := (hg.block k h.lt hne).trans h
theorem Bk.set_ {W : World} {k : Nat} {t : TypeId} {cs : Array Value} (h : Bk W k t cs) (i : Nat) (u : Value) : Bk (W.setCell ⟨k, i, none⟩ u) k t (cs.setIfInBounds i u) := heap_setCell_same W k i cs t u h
theorem Bk.far {W : World} {k : Nat} {t : TypeId} {cs : Array Value} (h : Bk W k t cs) {p : Addr} (hp : k ≠ p.block) (u : Value) : Bk (W.setCell p u) k t cs := (Below.heap_setCell W p u k hp).trans h
theorem Bk.below {W W' : World} {B k : Nat} {t : TypeId} {cs : Array Value} (h : Bk W k t cs) (hb : Below B W W') (hk : k < B) : Bk W' k t cs := (hb.block k hk).trans h
theorem Bk.from_ {β : Type} (B k : Nat) (t : TypeId) (cs : Array Value) : OwnFrom B (fun (_ : β) W => Bk W k t cs) := fun s W W' row hs hg hr => Bk.grown hs hg fun e => by
  obtain ⟨_, o, ho, hc⟩ := hr k e.symm
  rw [show W.heap[k]? = _ from hs] at ho
  cases ho
  cases hc
theorem Oi.from_ {β : Type} (B base n c : Nat) (A : Option Addr) (xs : List Int) : OwnFrom B (fun (_ : β) W => Oi W base A n c xs) := fun s W W' row hs hg hr => by
  refine Oi.kept hs hg ?_
  cases A with
  | none => exact .inl rfl
  | some ad =>
    refine .inr fun e => ?_
    obtain ⟨_, o, ho, hc⟩ := hr ad.block (by rw [← e]; rfl)
    rcases hs.2 with ⟨h', _⟩ | ⟨g', cap', cur, h', _, hg', _⟩
    · cases h'
    · have hA : ad = ⟨g', 0, none⟩ := by injection h' with h1; injection h1
      subst hA
      rw [hg'] at ho
      cases ho
      cases hc
theorem below_from {β : Type} {base B : Nat} {w0 : World} (hB : base ≤ B) (hs : base ≤ w0.heap.size) : OwnFrom B (fun (_ : β) W => Below base w0 W) := fun _ _ _ _ hs' hg hr => Below.grown hs' hg (Nat.le_trans hs hs'.size) fun k e => Nat.le_trans hB (hr k e).1

/-- An append of one int, at an operation of a region that draws its order. -/
theorem step_push {ops : Array Oper} {o : Oper} {a : Act} {K : Act → World → Prop} {Q : Exit → Act → World → Prop} {E : Prop} {W : World} (hgd : o.guard = none) (s x : Operand)
    (ho : o.op = .call { callee := .builtin .append, args := #[s, x], argTypes := #[35, 35] })
    (base : Nat) (A : Option Addr) (n c : Nat) (xs : List Int) (hs : a.eval s = .slice A n c) (hown : Oi W base A n c xs) (ad : Addr) (c' : Nat) (z : Int) (hx : a.eval x = .slice (some ad) 1 c')
    (hz : W.cell? ad = some (.int .i64 z)) (hn : n < 1099511627776) (hbase : base ≤ W.heap.size)
    (hK : ∀ g cap W', Oi W' base (some ⟨g, 0, none⟩) (n + 1) cap (xs ++ [z]) → W.grownBy W' (A.map Addr.block) → K (a.put o.dst (.slice (some ⟨g, 0, none⟩) (n + 1) cap)) W') :
    if Region.wanted o (yielded ops a.tmps) = true then Oper.wp Tryz.prog o a W K Q else E := by
  obtain ⟨i0, hi, hz0, hz1, hz2⟩ := info_parts info_int
  have hm : n + 1 ≤ maxLen := by unfold maxLen; omega
  refine step_append_lies (P := Tryz.prog) W hgd s x 35 ho base 3 i0 (.int .i64 0) 1 8 under_ints hi hz0 hz1 hz2 rfl (by decide) _ n (ints xs) hs hown ad 1 c' [.int .i64 z] hx rfl (by
    intro j u hj
    match j, hj with
    | 0, hj => simp at hj; subst hj; exact hz) (by simp [Value.oneCell']) (by decide) hm (by omega) hbase _ rfl ?_
  intro g cap w' hown' hgrow _ _
  refine hK g cap w' ?_ ?_
  · unfold Oi; rw [ints_append]; exact hown'
  · cases A <;> exact hgrow

/-- Only block g, row r and what is new have turned. -/
structure Only (W W' : World) (g : Nat) (r : Option Nat) : Prop where
  os : W'.os = W.os
  tape : W'.tape = W.tape
  output : W'.output = W.output
  size : W.heap.size ≤ W'.heap.size
  block : ∀ k, k < W.heap.size → k ≠ g → some k ≠ r → W'.heap[k]? = W.heap[k]?
theorem Only.refl (W : World) (g : Nat) (r : Option Nat) : Only W W g r := ⟨rfl, rfl, rfl, Nat.le_refl _, fun _ _ _ _ => rfl⟩
theorem Only.drew {W W' : World} {g : Nat} {r : Option Nat} (h : Only W W' g r) : Only W W'.drew g r := ⟨h.os, h.tape, h.output, h.size, h.block⟩
theorem Only.alloc {W W' : World} {g : Nat} {r : Option Nat} (h : Only W W' g r) (o : Obj) : Only W (W'.alloc o) g r :=
  ⟨h.os, h.tape, h.output, by simp; exact Nat.le_succ_of_le h.size, fun k hk h1 h2 => (Below.heap_alloc W' o k (Nat.lt_of_lt_of_le hk h.size)).trans (h.block k hk h1 h2)⟩
theorem Only.setCell {W W' : World} {g : Nat} {r : Option Nat} (h : Only W W' g r) (i : Nat) (u : Value) : Only W (W'.setCell ⟨g, i, none⟩ u) g r :=
  ⟨h.os, h.tape, h.output, by simpa [World.setCell] using h.size, fun k hk h1 h2 => (Below.heap_setCell W' _ u k h1).trans (h.block k hk h1 h2)⟩
theorem Only.grown {W W' W2 : World} {g : Nat} {r row : Option Nat} (h : Only W W' g r) (hg : W'.grownBy W2 row) (hr : row = r) : Only W W2 g r :=
  ⟨hg.os.trans h.os, hg.tape.trans h.tape, hg.output.trans h.output, Nat.le_trans h.size hg.size, fun k hk h1 h2 => (hg.block k (Nat.lt_of_lt_of_le hk h.size) (by rw [hr]; exact h2)).trans (h.block k hk h1 h2)⟩
theorem Only.below {W W' : World} {g base : Nat} {r : Option Nat} (h : Only W W' g r) (hg : base ≤ g) (hr : ∀ k, r = some k → base ≤ k) (hs : base ≤ W.heap.size) : Below base W W' :=
  ⟨h.os, h.tape, h.output, h.size, fun k hk => h.block k (Nat.lt_of_lt_of_le hk hs) (by omega) (fun e => by have := hr k e.symm; omega)⟩
theorem Only.bk {W W' : World} {g k : Nat} {r : Option Nat} {t : TypeId} {cs : Array Value} (h : Only W W' g r) (hk : Bk W k t cs) (hg : k ≠ g) (hr : some k ≠ r) : Bk W' k t cs := (h.block k hk.lt hg hr).trans hk
theorem Oi.bk_ne {W : World} {base n c k : Nat} {A : Option Addr} {xs : List Int} {t : TypeId} {cs : Array Value} (h : Oi W base A n c xs) (hk : Bk W k t cs) (ht : t ≠ 3) : some k ≠ A.map Addr.block := by
  cases A with
  | none => simp
  | some ad =>
    intro e
    rcases h.2 with ⟨h', _⟩ | ⟨g', cap', cur, h', _, hg', _⟩
    · cases h'
    · have hA : ad = ⟨g', 0, none⟩ := by injection h' with h1; injection h1
      subst hA
      have : k = g' := by simpa using e
      subst this
      rw [show W.heap[k]? = _ from hk] at hg'
      injection hg' with h2
      injection h2 with _ h3
      exact ht h3
theorem Oi.setOther {W : World} {base n c : Nat} {A : Option Addr} {xs : List Int} (h : Oi W base A n c xs) {p : Addr} (hp : some p.block ≠ A.map Addr.block) (u : Value) : Oi (W.setCell p u) base A n c xs :=
  h.kept (row := some p.block) ⟨rfl, rfl, rfl, by simp [World.setCell], fun k _ hk => Below.heap_setCell W p u k (fun e => hk (by rw [e]))⟩ (.inr fun e => hp e.symm)
end Go.Proofs.YtibmpjhffeinoaaGreat

namespace Go.Proofs.YtibmpjhffeinoaaGreat
open Go.RowKit

def noDefer (o : Oper) : Bool := match o.op with | .defer _ => false | _ => true
section
variable {P : Program} {ops : Array Oper} {Q : Exit → Act → World → Prop} {md : Region.Mode}
theorem rowsIn_round {l n : Nat} {row : String} {args : Array Value} {w : World} {R : Value → World → Prop} (h : Rows P row args w R) : RowsIn (Fence.wide.inRound l) n P row args w R := fun c cs _ => by
  obtain ⟨v, w', r, s⟩ := h c cs
  exact ⟨v, w', r, stepsIn_wide.2 s⟩
theorem wpIn_of_wp_round {l n : Nat} {o : Oper} {a : Act} {w : World} {K K' : Act → World → Prop} (hd : noDefer o = true) (hK : ∀ a w, K a w → K' a w) (h : o.wp P a w K Q) : o.wpIn (Fence.wide.inRound l) n P a w K' Q := by
  refine ⟨fun _ _ => trivial, ?_⟩
  have he : o.semAt (Fence.wide.inRound l).round a.eval = execOp a.eval o := Oper.semAt_eq _ _ _ fun c hc => by
    unfold noDefer at hd
    rw [hc] at hd
    cases hd
  rw [he]
  unfold Oper.wp at h
  generalize (execOp a.eval o).run P w = r at *
  cases r with
  | ok x w' =>
    cases x with
    | value v => exact hK _ _ h
    | skip => exact hK _ _ h
    | defer d => exact hK _ _ h
    | enter f args =>
      refine ⟨(fun h => by cases h), CallsIn.inRound l (callsIn_wide.2 (Calls.mono h fun e w'' he => ?_))⟩
      cases e with
      | returned v => exact hK _ _ he
      | panicked ch => exact he
      | outgrown => exact he
    | row row args => exact ⟨(fun h => by cases h), rowsIn_round (Rows.mono h fun v w'' hv => hK _ _ hv)⟩
    | _ => exact h.elim
  | halt x w' =>
    cases x with
    | panic v => exact h
    | _ => exact h.elim
theorem wpOpIn_of_wpOp {l n i : Nat} {a : Act} {w : World} {K K' : Act → World → Prop} (hd : ops.all noDefer = true) (hQ : ∀ a w, ¬ Q .outgrown a w) (hK : ∀ a w, K a w → K' a w) (h : wpOp P ops Q i K a w) :
    wpOpIn (Fence.wide.inRound l) n P ops Q i K' a w := by
  unfold wpOp at h
  unfold wpOpIn
  cases ho : ops[i]? with
  | none => rw [ho] at h; exact hK _ _ h
  | some o =>
    rw [ho] at h
    simp only at h ⊢
    split
    · rename_i hw
      rw [if_pos hw] at h
      rcases h with h | ⟨_, a', w', h⟩
      · refine wpIn_of_wp_round ?_ hK h
        obtain ⟨hi, rfl⟩ := Array.getElem?_eq_some_iff.1 ho
        exact Array.all_eq_true.1 hd i hi
      · exact (hQ _ _ h).elim
    · rename_i hw
      rw [if_neg hw] at h
      exact ⟨fun _ _ => trivial, hK _ _ h⟩
theorem wpAnyIn_of_wpAny {l n : Nat} (hd : ops.all noDefer = true) (hQ : ∀ a w, ¬ Q .outgrown a w) : ∀ (fuel : Nat) (listed : Array Bool) (a : Act) (w : World), wpAny P md ops Q fuel listed a w →
    wpAnyIn (Fence.wide.inRound l) n P md ops Q fuel listed a w := by
  intro fuel
  induction fuel with
  | zero => intro listed a w h; exact h
  | succ fuel ih => intro listed a w h; exact ⟨h.1, fun i hi => wpOpIn_of_wpOp hd hQ (fun a w => ih _ a w) (h.2 i hi)⟩
/-- In a round: every order, by a held condition. -/
theorem round_held {l n id : Nat} {a : Act} {w : World} (S : World → Prop) (hm : P.follows .mixedOrders = true) (hd : ops.all noDefer = true) (hQ : ∀ a w, ¬ Q .outgrown a w) (hS : S w.drew)
    (h : S w.drew → wpAnyH P .any ops Q S ops.size (Array.replicate ops.size false) a w.drew) : (Code.region id ops true).wpIn (Fence.wide.inRound l) n P Q a w :=
  wpIn_region_any hm (wpAnyIn_of_wpAny hd hQ _ _ _ _ (wpAny_of_held _ _ _ _ (h hS)))
end
end Go.Proofs.YtibmpjhffeinoaaGreat

namespace Go.Proofs.YtibmpjhffeinoaaGreat
open Go.RowKit
theorem under_marks : Tryz.prog.underlying 126 = some (.array 8 3) := by kernel_rfl
theorem under_int : Tryz.prog.underlying 3 = some (.int .i64) := by kernel_rfl
theorem cells_int : Tryz.prog.cellsOf 3 = 1 := by kernel_rfl
theorem agg_int (w : World) : (isAgg 3).run Tryz.prog w = .ok false w := by kernel_rfl
theorem part_int (xs : Array Value) (i : Nat) (x : Int) (w : World) (h : xs[i]? = some (.int .i64 x)) : (part 3 xs (i * 1)).run Tryz.prog w = .ok (.int .i64 x) w := by
  have hi := (Array.getElem?_eq_some_iff.1 h).1
  simp [part, h]
/-- '==' of two arrays of ints, place by place. -/
theorem eqItems_ints (d : Nat) (w : World) (xs ys : List Int) : ∀ (is : List Nat), (∀ i ∈ is, i < xs.length ∧ i < ys.length) →
    ∃ r : Bool, (Op.eqItems (d + 1) 3 1 (ints xs).toArray (ints ys).toArray is).run Tryz.prog w = .ok r w ∧ (r = true ↔ ∀ i ∈ is, xs[i]? = ys[i]?)
  | [], _ => ⟨true, by simp [Op.eqItems], by simp⟩
  | i :: is, h => by
    obtain ⟨r', hr', hiff⟩ := eqItems_ints d w xs ys is (fun j hj => h j (by simp [hj]))
    obtain ⟨h1, h2⟩ := h i (by simp)
    have p1 := part_int (ints xs).toArray i xs[i] w (by simp [ints, h1])
    have p2 := part_int (ints ys).toArray i ys[i] w (by simp [ints, h2])
    have p3 := run_equalIn_int (P := Tryz.prog) (w := w) d 3 .i64 .i64 xs[i] ys[i] under_int
    simp only [Op.eqItems, Sem.run_bind, p1, p2, p3, Result.andThen_ok]
    by_cases e : xs[i] = ys[i]
    · refine ⟨r', by simpa [e] using hr', ?_⟩
      rw [hiff]
      simp [h1, h2, e]
    · exact ⟨false, by simp [e], by simp [h1, h2, e]⟩
theorem eql_marks (xs ys : List Int) (hx : xs.length = 8) (hy : ys.length = 8) (w : World) (r : Bool) (hr : decide (xs = ys) = r) :
    (binOp .eql 126 (.agg (ints xs).toArray) (.agg (ints ys).toArray)).run Tryz.prog w = .ok (.bool r) w := by
  obtain ⟨i0, hi, _, _, _⟩ := info_parts info_int
  obtain ⟨r', h1, h2⟩ := eqItems_ints 9998 w xs ys (List.range 8) (fun i hi => by have := List.mem_range.1 hi; omega)
  have h3 := run_equalIn_array (P := Tryz.prog) (w := w) 9999 (ints xs).toArray (ints ys).toArray under_marks hi
  rw [cells_int, h1] at h3
  rw [run_eql_struct, h3]
  have : r' = r := by
    rw [← hr, Bool.eq_iff_iff, h2, decide_eq_true_iff]
    constructor
    · intro h
      apply List.ext_getElem?
      intro i
      rcases Nat.lt_or_ge i 8 with hlt | hge
      · exact h i (List.mem_range.2 hlt)
      · rw [List.getElem?_eq_none (by omega), List.getElem?_eq_none (by omega)]
    · rintro rfl i _
      rfl
  rw [this]
  rfl
end Go.Proofs.YtibmpjhffeinoaaGreat
