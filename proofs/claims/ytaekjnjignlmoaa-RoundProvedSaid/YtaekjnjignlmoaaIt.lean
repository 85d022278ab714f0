/-
  Iterators whose elements are rows in memory: what a body leaves as it was; appends inside a fence.
  The program: 'steps'.
  The program: 'late', 'inTime', 'length'.
  The program: 'goOn', 'rounds'.
  Which blocks a piece of code has changed; the range over all rounds.
-/
import Derived.Test.YtaekjnjignlmoaaWd
import Derived.Test.YtaekjnjignlmoaaSq
import Derived.ArgAppend
import Derived.RangeFuncCalls
import Derived.RangeFuncLeaves
import Derived.LoopIn
import Derived.LoopNIn
import Derived.OwnWalkIn
import Derived.TacticsInMore
import Derived.Sort.QuietIn
import Derived.BigFrameIn
import Derived.Test.YtaekjnjignlmoaaCk
import Derived.Test.YtaekjnjignlmoaaPlain
import Derived.StillTailTactics
import Derived.Lib.SliceRun
import Derived.ChangeKeysEq
import Derived.Deep.RegionHeld3
namespace Go.Proofs.Ytaekjnjignlmoaa
open Go.RowKit Go.Shelf

theorem grown_drewN (w : World) (k : Nat) : w.grownBy (w.drewN k) none := ⟨rfl, rfl, rfl, Nat.le_refl _, fun _ _ _ => rfl⟩
theorem grown_drew (w : World) : w.grownBy w.drew none := ⟨rfl, rfl, rfl, Nat.le_refl _, fun _ _ _ => rfl⟩
theorem cell_eq {A B : World} {k : Nat} (e : B.heap[k]? = A.heap[k]?) (i : Nat) : B.cell? ⟨k, i, none⟩ = A.cell? ⟨k, i, none⟩ := by
  unfold World.cell?
  rw [e]
theorem grown_set (w : World) (a : Addr) (u : Value) : w.grownBy (w.setCell a u) (some a.block) := ⟨rfl, rfl, rfl, by simp [World.setCell], fun k _ hk => Below.heap_setCell w a u k (fun e => hk (by rw [e]))⟩
theorem Oi.cells {w : World} {base n c k : Nat} {A : Option Addr} {xs : List Int} (h : Oi w base A n c xs) (hk : A.map Addr.block = some k) : ∃ o : Obj, w.heap[k]? = some o ∧ o.isCells = true := by
  rcases h.2 with ⟨h', _⟩ | ⟨g', cap', cur, h', _, hg', _⟩
  · cases h'
    cases hk
  · have hA : A = some ⟨g', 0, none⟩ := by injection h'
    subst hA
    cases hk
    exact ⟨_, hg', rfl⟩
theorem Oj.cells {w : World} {base n c k : Nat} {A : Option Addr} {xs : List Int} (h : Oj w base A n c xs) (hk : A.map Addr.block = some k) : ∃ o : Obj, w.heap[k]? = some o ∧ o.isCells = true := by
  rcases h.2 with ⟨h', _⟩ | ⟨g', cap', cur, h', _, hg', _⟩
  · cases h'
    cases hk
  · have hA : A = some ⟨g', 0, none⟩ := by injection h'
    subst hA
    cases hk
    exact ⟨_, hg', rfl⟩
theorem Bk.cells {W : World} {k : Nat} {t : TypeId} {cs : Array Value} (h : Bk W k t cs) : ∃ o : Obj, W.heap[k]? = some o ∧ o.isCells = true := ⟨_, h, rfl⟩
section
variable {F : Fence} {nF : Nat} {w : World} {ops : Array Oper} {rest : List Oper} {o : Oper} {a : Act} {Q : Exit → Act → World → Prop}
theorem push_in (hgd : o.guard = none) (s x : Operand)
    (ho : o.op = .call { callee := .builtin .append, args := #[s, x], argTypes := #[28, 28] })
    (base : Nat) (A : Option Addr) (n c : Nat) (xs : List Int) (hs : a.eval s = .slice A n c) (hown : Oi w base A n c xs)
    (ad : Addr) (c' : Nat) (z : Int) (hx : a.eval x = .slice (some ad) 1 c') (hz : w.cell? ad = some (.int .i64 z)) (hlen : n < 1099511627776) (hbase : base ≤ w.heap.size)
    (h : ∀ g cap w', Oi w' base (some ⟨g, 0, none⟩) (n + 1) cap (xs ++ [z]) → w.grownBy w' (A.map Addr.block) → wpListIn F nF Try.prog ops Q rest (a.put o.dst (.slice (some ⟨g, 0, none⟩) (n + 1) cap)) w') : wpListIn F nF Try.prog ops Q (o :: rest) a w := by
  obtain ⟨i0, hi, hz0, hz1, hz2⟩ := info_parts info_int
  have hm : n + 1 ≤ maxLen := by unfold maxLen; omega
  refine wpListIn_append_own w hgd s x _ ho base _ i0 _ 1 8 under_ints hi hz0 hz1 hz2 rfl (by decide) _ n (ints xs) hs hown ad 1 c' [.int .i64 z] hx rfl ?_ (by simp [Value.oneCell']) hm (by omega) hbase ?_
  · intro j u hj
    match j, hj with
    | 0, hj => simp at hj; subst hj; exact hz
  · intro v' w' hown' hgrow _
    obtain ⟨g, cap, hv, _, _⟩ := hown'.form (by omega)
    subst hv
    refine h g cap w' ?_ ?_
    · unfold Oi; rw [ints_append]; exact hown'
    · cases A <;> exact hgrow
theorem push_num_in (hgd : o.guard = none) (s x : Operand)
    (ho : o.op = .call { callee := .builtin .append, args := #[s, x], argTypes := #[25, 25] })
    (base : Nat) (A : Option Addr) (n c : Nat) (xs : List Int) (hs : a.eval s = .slice A n c) (hown : Oj w base A n c xs)
    (ad : Addr) (c' : Nat) (z : Int) (hx : a.eval x = .slice (some ad) 1 c') (hz : w.cell? ad = some (.int .i64 z)) (hlen : n < 1099511627776) (hbase : base ≤ w.heap.size)
    (h : ∀ g cap w', Oj w' base (some ⟨g, 0, none⟩) (n + 1) cap (xs ++ [z]) → w.grownBy w' (A.map Addr.block) → wpListIn F nF Try.prog ops Q rest (a.put o.dst (.slice (some ⟨g, 0, none⟩) (n + 1) cap)) w') : wpListIn F nF Try.prog ops Q (o :: rest) a w := by
  obtain ⟨i0, hi, hz0, hz1, hz2⟩ := info_parts info_num
  have hm : n + 1 ≤ maxLen := by unfold maxLen; omega
  refine wpListIn_append_own w hgd s x _ ho base _ i0 _ 1 8 under_nums hi hz0 hz1 hz2 rfl (by decide) _ n (ints xs) hs hown ad 1 c' [.int .i64 z] hx rfl ?_ (by simp [Value.oneCell']) hm (by omega) hbase ?_
  · intro j u hj
    match j, hj with
    | 0, hj => simp at hj; subst hj; exact hz
  · intro v' w' hown' hgrow _
    obtain ⟨g, cap, hv, _, _⟩ := hown'.form (by omega)
    subst hv
    refine h g cap w' ?_ ?_
    · unfold Oj; rw [ints_append]; exact hown'
    · cases A <;> exact hgrow
/-- 'append(l[:len(l):len(l)], x)': a new row. -/
theorem push_full_num_in (hwd : Region.wanted o (yielded ops a.tmps) = true) (s x : Operand)
    (ho : o.op = .call { callee := .builtin .append, args := #[s, x], argTypes := #[25, 25] })
    (base : Nat) (A : Option Addr) (n c : Nat) (xs : List Int) (hs : a.eval s = .slice A n n) (hown : Oj w base A n c xs)
    (ad : Addr) (c' : Nat) (z : Int) (hx : a.eval x = .slice (some ad) 1 c') (hz : w.cell? ad = some (.int .i64 z)) (hlen : n < 1099511627776)
    (h : ∀ g cap w', Oj w' w.heap.size (some ⟨g, 0, none⟩) (n + 1) cap (xs ++ [z]) → w.grownBy w' none → wpListIn F nF Try.prog ops Q rest (a.put o.dst (.slice (some ⟨g, 0, none⟩) (n + 1) cap)) w') : wpListIn F nF Try.prog ops Q (o :: rest) a w := by
  obtain ⟨i0, hi, hz0, hz1, hz2⟩ := info_parts info_num
  have hri := hown.ri
  have hlx := hown.len
  refine BigFrame.wpListIn_want hwd fun K hK' => ?_
  have key : ∃ v' w', (Builtin.append_ #[25, 25] o.type #[.slice A n n, .slice (some ad) 1 c']).run Try.prog w = .ok v' w' ∧ w'.ownsRow w.heap.size 3 1 v' (n + 1) (ints xs ++ [.int .i64 z]) ∧ w.grownBy w' none := by
    have hnews : ∀ j u, ([Value.int .i64 z] : List Value)[j]? = some u → w.cell? (ad.add j) = some u := fun j u hj => by
      match j, hj with
      | 0, hj => simp at hj; subst hj; exact hz
    cases A with
    | some b =>
      obtain ⟨v', w', hrun, r1, r2⟩ := run_append_arg_grows (P := Try.prog) w _ o.type _ i0 _ 1 8 under_nums hi hz0 hz1 hz2 rfl (by decide) b n n (ints xs) (by rw [ints_length, hlx]; omega) (fun j u hj => by
        have hjn : j < n := by
          have := (List.getElem?_eq_some_iff.1 hj).1
          rw [ints_length, hlx] at this
          exact this
        obtain ⟨ad', y, hA, _, hc, hy, _⟩ := hri.at_ hjn
        cases hA
        rw [ints, List.getElem?_map, hy.out] at hj
        cases hj
        exact hc) ad 1 c' [.int .i64 z] rfl hnews (by omega) (by unfold maxLen; omega) (by omega)
      exact ⟨v', w', hrun, r1, r2⟩
    | none =>
      have h0 : n = 0 := by
        rcases hown.2 with ⟨_, h'⟩ | ⟨g', cap', cur, h', _⟩
        · simp_all
        · cases h'
      subst h0
      obtain rfl : xs = [] := List.eq_nil_of_length_eq_zero hlx
      obtain ⟨v', w', hrun, r1, r2, _⟩ := run_append_own (P := Try.prog) w w.heap.size _ o.type _ i0 _ 1 8 under_nums hi hz0 hz1 hz2 rfl (by decide) (.slice none 0 0) 0 [] (World.ownsRow_nil w _ _ _) ad 1 c' [.int .i64 z] rfl hnews (by simp [Value.oneCell']) (by unfold maxLen; omega) (by omega) (Nat.le_refl _)
      exact ⟨v', w', hrun, r1, r2⟩
  obtain ⟨v', w', hrun, hown', hgrow⟩ := key
  obtain ⟨g, cap, hv, _, _⟩ := hown'.form (by omega)
  subst hv
  unfold Oper.wpIn
  refine ⟨?_, ?_⟩
  · simp [Oper.about, ho, resolve, Target.leads, Sem.run_pure]
  · rw [Oper.semAt_plain F _ _ (by rw [ho]; intro c hc'; cases hc')]
    simp [execOp, ho, resolve, invoke, builtin, hs, hx, hrun, Result.andThen]
    refine hK' _ _ (h g cap w' ?_ hgrow)
    unfold Oj
    rw [ints_append]
    exact hown'
end

theorem Oj.cap {w : World} {base n c : Nat} {A : Option Addr} {xs : List Int} (h : Oj w base A n c xs) : n ≤ c := by
  rcases h.2 with ⟨h', h2⟩ | ⟨g', cap', cur, h', _, _, h4, _⟩
  · cases h'; omega
  · cases h'; exact h4
/-- An element: a row of numbers, where it lies. -/
structure El where
  A : Option Addr
  c : Nat
  l : List Nat
def ofN (l : List Nat) : List Int := l.map Int.ofNat
theorem ofN_length (l : List Nat) : (ofN l).length = l.length := by simp [ofN]
theorem ofN_at {l : List Nat} {k : Nat} {x : Int} (h : (ofN l)[k]? = some x) : ∃ i : Nat, l[k]? = some i ∧ x = i := by
  unfold ofN at h
  rw [List.getElem?_map] at h
  cases hi : l[k]? with
  | none => rw [hi] at h; cases h
  | some i => rw [hi] at h; cases h; exact ⟨i, rfl, rfl⟩
theorem ofN_append (l m : List Nat) : ofN (l ++ m) = ofN l ++ ofN m := by simp [ofN]
def El.enc (x : El) : Array Value := #[.slice x.A x.l.length x.c]
/-- The element is ready: its row is there, and it is one of Ls. -/
def Rr (B1 : Nat) (Ls : List (List Nat)) (x : El) (W : World) : Prop := Oj W B1 x.A x.l.length x.c (ofN x.l) ∧ x.l ∈ Ls
/-- What lay ahead of B0, and all rows of numbers from B1 on, are as they were. -/
structure Kr (B0 B1 : Nat) (V V' : World) : Prop where
  below : Below B0 V V'
  rows : ∀ (k : Nat) (cs : Array Value), B1 ≤ k → Bk V k 3 cs → Bk V' k 3 cs
section
variable {B0 B1 : Nat} {A B C : World}
theorem Kr.refl (B0 B1 : Nat) (A : World) : Kr B0 B1 A A := ⟨Below.refl _ _, fun _ _ _ h => h⟩
theorem Kr.trans (h : Kr B0 B1 A B) (k : Kr B0 B1 B C) : Kr B0 B1 A C := ⟨h.below.trans k.below, fun j cs hj hb => k.rows j cs hj (h.rows j cs hj hb)⟩
theorem Kr.new (h : Kr B0 B1 A B) (hg : B.grownBy C none) (hs : B0 ≤ B.heap.size) : Kr B0 B1 A C := ⟨h.below.grown hg hs (fun k e => by cases e), fun j cs hj hb => (h.rows j cs hj hb).grown hg (by simp)⟩
theorem Kr.size (h : Kr B0 B1 A B) : A.heap.size ≤ B.heap.size := h.below.size
theorem Kr.oj {D : Option Addr} {n c : Nat} {xs : List Int} (h : Kr B0 B1 A B) (ho : Oj A B1 D n c xs) : Oj B B1 D n c xs := by
  refine ⟨ho.1, ?_⟩
  rcases ho.2 with h1 | ⟨g, cap, cur, h1, h2, h3, h4⟩
  · exact .inl h1
  · exact .inr ⟨g, cap, cur, h1, h2, h.rows g cur h2 h3, h4⟩
theorem Kr.putObj {l : Nat} {o : Obj} (o' : Obj) (hl : B0 ≤ l) (h : A.heap[l]? = some o) (hc : o.isCells = false) : Kr B0 B1 A (A.putObj l o') :=
  ⟨(Below.refl B0 A).grown (grownBy_putObj' A l o') (by have := (Array.getElem?_eq_some_iff.1 h).1; omega) (fun k e => by cases e; exact hl),
    fun j cs _ hb => ((grownBy_putObj' A l o').block j (Array.getElem?_eq_some_iff.1 hb).1 (fun e => by
      cases e
      have hb' : A.heap[l]? = some (.cells cs _ (0, 0)) := hb
      rw [hb'] at h
      cases h
      cases hc)).trans hb⟩
end
theorem Rr.putObj {B1 l : Nat} {Ls : List (List Nat)} {x : El} {W : World} {o : Obj} (o' : Obj) (h : W.heap[l]? = some o) (hc : o.isCells = false) (hr : Rr B1 Ls x W) : Rr B1 Ls x (W.putObj l o') := by
  refine ⟨hr.1.kept (grownBy_putObj' W l o') ?_, hr.2⟩
  cases hA : x.A.map Addr.block with
  | none => exact .inl rfl
  | some k =>
    refine .inr fun e => ?_
    obtain ⟨o2, h1, h2⟩ := hr.1.cells hA
    cases e
    rw [h] at h1
    cases h1
    rw [hc] at h2
    cases h2
end Go.Proofs.Ytaekjnjignlmoaa

namespace Go.Proofs.Ytaekjnjignlmoaa
open Go.RowKit Go.Shelf

/-- Ten numbers, as an array has them. -/
def arr10 (L : List Int) : Array Value := #[.int .i64 (nth L 0), .int .i64 (nth L 1), .int .i64 (nth L 2), .int .i64 (nth L 3), .int .i64 (nth L 4), .int .i64 (nth L 5), .int .i64 (nth L 6), .int .i64 (nth L 7), .int .i64 (nth L 8), .int .i64 (nth L 9)]
theorem arr10_at (L : List Int) {k : Nat} (hk : k < 10) : (arr10 L)[k]? = some (.int .i64 (nth L k)) := by
  match k, hk with
  | 0, _ => rfl
  | 1, _ => rfl
  | 2, _ => rfl
  | 3, _ => rfl
  | 4, _ => rfl
  | 5, _ => rfl
  | 6, _ => rfl
  | 7, _ => rfl
  | 8, _ => rfl
  | 9, _ => rfl
theorem arr10_put (L : List Int) (hl : L.length = 10) {k : Nat} (hk : k < 10) (x : Int) : (arr10 L).setIfInBounds k (.int .i64 x) = arr10 (L.set k x) := by
  match L, hl with
  | [a0, a1, a2, a3, a4, a5, a6, a7, a8, a9], _ =>
    match k, hk with
    | 0, _ => rfl
    | 1, _ => rfl
    | 2, _ => rfl
    | 3, _ => rfl
    | 4, _ => rfl
    | 5, _ => rfl
    | 6, _ => rfl
    | 7, _ => rfl
    | 8, _ => rfl
    | 9, _ => rfl
theorem zero_i64 (w : World) : (zeroValue 2).run Try.prog w = .ok (.int .i64 0) w := by kernel_rfl
abbrev z10 : Array Value := #[.int .i64 0, .int .i64 0, .int .i64 0, .int .i64 0, .int .i64 0, .int .i64 0, .int .i64 0, .int .i64 0, .int .i64 0, .int .i64 0]

theorem setCells_size : ∀ (vs : List Value) (w : World) (b o : Nat), (w.setCells b o vs).heap.size = w.heap.size
  | [], _, _, _ => rfl
  | v :: vs, w, b, o => by
    show ((w.setCell ⟨b, o, none⟩ v).setCells b (o + 1) vs).heap.size = _
    rw [setCells_size vs]
    simp [World.setCell]
theorem Bk.farCells {k b : Nat} {t : TypeId} {cs : Array Value} (hne : k ≠ b) : ∀ (vs : List Value) (W : World) (o : Nat), Bk W k t cs → Bk (W.setCells b o vs) k t cs
  | [], _, _, h => h
  | v :: vs, W, o, h => Bk.farCells hne vs (W.setCell ⟨b, o, none⟩ v) (o + 1) (h.far hne v)
theorem below_setCells {B b : Nat} (hb : B ≤ b) {a : World} : ∀ (vs : List Value) (W : World) (o : Nat), Below B a W → Below B a (W.setCells b o vs)
  | [], _, _, h => h
  | v :: vs, W, o, h => below_setCells hb vs (W.setCell ⟨b, o, none⟩ v) (o + 1) (h.setCell (p := ⟨b, o, none⟩) hb v)

theorem Bk.setRow {W : World} {k : Nat} {t : TypeId} {cs : Array Value} (h : Bk W k t cs) (cs' : Array Value) : Bk (W.setRow k cs') k t cs' := setRow_heap W k cs cs' t (0, 0) h
theorem Bk.farRow {W : World} {k b : Nat} {t : TypeId} {cs : Array Value} (h : Bk W k t cs) (hne : k ≠ b) (cs' : Array Value) : Bk (W.setRow b cs') k t cs := (setRow_other W b k cs' hne).trans h
theorem below_setRow {B b : Nat} (cs : Array Value) (hb : B ≤ b) {a W : World} (h : Below B a W) : Below B a (W.setRow b cs) :=
  ⟨h.os, h.tape, h.output, by rw [setRow_size]; exact h.size, fun k hk => (setRow_other W b k cs (by omega)).trans (h.block k hk)⟩

theorem under_steps : Try.prog.underlying 85 = some (.array 10 2) := by kernel_rfl
theorem load_steps {W : World} {k : Nat} {L : List Int} (h : Bk W k 85 (arr10 L)) : (loadVar 85 ⟨k, 0, none⟩).run Try.prog W = .ok (.agg (arr10 L)) W :=
  run_loadVar_row W k 85 85 (arr10 L) (0, 0) _ h under_steps rfl (by kernel_rfl)

theorem eq_int1 (d : Nat) (a b : Int) (w : World) : (Op.equalIn (d + 1) 2 (.int .i64 a) (.int .i64 b)).run Try.prog w = .ok (a == b) w := by
  simp [Op.equalIn, run_underlying (show Try.prog.underlying 2 = some (.int .i64) by kernel_rfl)]
theorem no_agg (w : World) : (isAgg 2).run Try.prog w = .ok false w := by kernel_rfl
theorem cells_one : Try.prog.cellsOf 2 = 1 := by kernel_rfl
theorem eq_items (d : Nat) (w : World) (xs ys : Array Value) (L M : List Int) : ∀ is : List Nat, (∀ i ∈ is, xs[i]? = some (.int .i64 (nth L i)) ∧ ys[i]? = some (.int .i64 (nth M i))) → (Op.eqItems (d + 1) 2 (Try.prog.cellsOf 2) xs ys is).run Try.prog w = .ok (is.all fun i => nth L i == nth M i) w
  | [], _ => by simp [Op.eqItems]
  | i :: is, h => by
    obtain ⟨h1, h2⟩ := h i (by simp)
    have ih := eq_items d w xs ys L M is (fun j hj => h j (by simp [hj]))
    rw [cells_one] at ih
    simp only [Op.eqItems, cells_one, Nat.mul_one, part, Sem.run_bind, no_agg, Result.andThen_ok, h1, h2, Bool.false_eq_true, if_false, Sem.run_pure, eq_int1]
    cases hb : nth L i == nth M i with
    | false => simp [hb]
    | true => simp [hb, ih]
theorem eq_stepsAt (d : Nat) (w : World) {L M : List Int} (hL : L.length = 10) (hM : M.length = 10) : (Op.equalIn (d + 1 + 1) 85 (.agg (arr10 L)) (.agg (arr10 M))).run Try.prog w = .ok (decide (L = M)) w := by
  obtain ⟨i, hi, _⟩ := info_parts info_int
  rw [run_equalIn_array w (d + 1) _ _ under_steps hi, eq_items d w _ _ L M _ (fun i hi => ⟨arr10_at L (by simpa using hi), arr10_at M (by simpa using hi)⟩)]
  refine congrArg (fun b => Result.ok b w) ?_
  rw [Bool.eq_iff_iff, decide_eq_true_eq, List.all_eq_true]
  constructor
  · intro h
    exact eq_of_nth hL hM fun j hj => by have := h j (List.mem_range.2 hj); simpa using this
  · rintro rfl i _
    simp
theorem arr10_one (L : List Int) : (arr10 L).all (·.oneCell') = true := by simp [arr10, Value.oneCell']
theorem results_steps {fn : Func} {p q : Tmp} (h : fn.results = #[.cell p 85, .tmp q]) (tmps : Array Value) {w : World} {k : Nat} {L : List Int} (hp : tmps.getD p undef = .pointer (some ⟨k, 0, none⟩)) (hb : Bk w k 85 (arr10 L)) :
    (results fn tmps).run Try.prog w = .ok (.tuple #[.agg (arr10 L), tmps.getD q undef]) w := by
  have hp' : tmps[p]?.getD undef = .pointer (some ⟨k, 0, none⟩) := by simpa using hp
  simp [results, h, hp', asAddr, load_steps hb]
theorem exec_load_row {o : Oper} {a : Act} {w : World} (x : Operand) (ho : o.op = .load 85 x) (k : Nat) (hx : a.eval x = .pointer (some ⟨k, 0, none⟩)) {L : List Int} (hb : Bk w k 85 (arr10 L)) :
    (execOp a.eval o).run Try.prog w = .ok (.value (.agg (arr10 L))) w := by
  unfold execOp
  simp only [ho, hx, Instr.loadAt, Instr.sureAddr, Sem.run_bind, Sem.run_pure, Result.andThen_ok, load_steps hb]
theorem exec_neq_row {o : Oper} {a : Act} {w : World} (x y : Operand) (ty : TypeId) (ho : o.op = .binOp .neq 85 x y ty) {L M : List Int} (hx : a.eval x = .agg (arr10 L)) (hy : a.eval y = .agg (arr10 M)) (hL : L.length = 10) (hM : M.length = 10) :
    (execOp a.eval o).run Try.prog w = .ok (.value (.bool (decide (L ≠ M)))) w := by
  have h3 := eq_stepsAt 9998 w hL hM
  unfold execOp
  simp only [ho, hx, hy, Sem.run_bind, run_eqGuard_agg _ _ _ _ _ _ _ (show Try.prog.eqGuardType Try.prog.depth 85 = false by kernel_rfl), Result.andThen_ok]
  rw [run_neq_struct, h3]
  rw [Result.andThen_ok, Result.andThen_ok, ← decide_not]
  rfl

set_option maxRecDepth 100000 in
set_option maxHeartbeats 1000000 in
theorem dSteps (g n c : Nat) (A : Option Addr) (b : Int) (ps : List (Int × Int)) (w : World) (hw : Wk w w.heap.size g A n c b ps) (HP : Hid (Pier b ps)) (B : Option Addr) (k d : Nat) (l : List Nat) (hl : Ri w w.heap.size B k (ofN l)) (hk : k ≤ 1048576) (hall : Hid (∀ i ∈ l, i < n)) :
    Calls Try.prog 60 #[.pointer (some ⟨g, 0, none⟩), .slice B k d] w fun e w' => e = .returned (.tuple #[.agg (arr10 (stepsL b ps l)), .bool (decide (stepsL b ps l ≠ zeros))]) ∧ Below w.heap.size w w' := by
  have HL := Lib.hid hw.rp.len
  have k0 := hw.c0
  have k1 := hw.c1
  have k2 := hw.c2
  have hgl := hw.lt
  obtain ⟨w0, hw0⟩ : ∃ w0, w0 = (w.alloc (.cells #[.int .i64 0, .int .i64 0, .int .i64 0, .int .i64 0, .int .i64 0, .int .i64 0, .int .i64 0, .int .i64 0, .int .i64 0, .int .i64 0] 85)).alloc (.cells #[.int .i64 0, .int .i64 0, .int .i64 0, .int .i64 0, .int .i64 0, .int .i64 0, .int .i64 0, .int .i64 0, .int .i64 0, .int .i64 0] 85) := ⟨_, rfl⟩
  have hbR : Bk w0 w.heap.size 85 (arr10 zeros) := hw0 ▸ (Bk.new w 85 (arr10 zeros)).alloc _
  have hbO : Bk w0 (w.heap.size + 1) 85 (arr10 zeros) := by
    have := Bk.new (w.alloc (.cells (arr10 zeros) 85)) 85 (arr10 zeros)
    rw [World.size_alloc w] at this
    rw [hw0]
    exact this
  have hb0 : Below w.heap.size w w0 := hw0 ▸ ((Below.refl _ w).alloc (Nat.le_refl _) _).alloc (by simp) _
  have hs0 : w0.heap.size = w.heap.size + 2 := by rw [hw0]; simp
  obtain ⟨w1, hw1⟩ : ∃ w1, w1 = w0.setCells (w.heap.size + 1) 0 (List.replicate 10 (.int .i64 0)) := ⟨_, rfl⟩
  have hcl : ∀ ty, (Builtin.clear_ #[28] ty #[.slice (some ⟨w.heap.size + 1, 0, none⟩) 10 10]).run Try.prog w0 = .ok (.tuple #[]) w1 := fun ty => by
    rw [hw1]
    refine Lib.run_clear_slice w0 28 2 ty (.int .i64 0) (by kernel_rfl) zero_i64 rfl rfl (w.heap.size + 1) 0 10 10 (by omega) (fun j hj => ?_) (fun j hj => ?_)
    · rw [hbO.cell, arr10_at _ (by omega)]; rfl
    · exact hbO.frozen _
  have hbR1 : Bk w1 w.heap.size 85 (arr10 zeros) := by
    rw [hw1]
    exact Bk.farCells (by omega) _ _ _ hbR
  have hbO1 : Bk w1 (w.heap.size + 1) 85 (arr10 zeros) := by
    rw [hw1]
    exact (((((((((hbO.set_ 0 (.int .i64 0)).set_ 1 (.int .i64 0)).set_ 2 (.int .i64 0)).set_ 3 (.int .i64 0)).set_ 4 (.int .i64 0)).set_ 5 (.int .i64 0)).set_ 6 (.int .i64 0)).set_ 7 (.int .i64 0)).set_ 8 (.int .i64 0)).set_ 9 (.int .i64 0)
  have hb1 : Below w.heap.size w w1 := by
    rw [hw1]
    exact below_setCells (by omega) _ _ _ hb0
  have hcl := hcl 0
  rw [hw0] at hcl
  clear hbR hbO hb0
  have hx1 := hw.rp.below hb1
  have kk0 : w1.cell? ⟨g, 0, none⟩ = some (.int .i64 b) := (hb1.cell hgl).trans k0
  have kk2 : w1.cell? ⟨g, 2, none⟩ = some (.int .i64 (lefts b ps : Nat)) := (hb1.cell hgl).trans k2
  have hle := lefts_le b ps
  rw [HL.out] at hle
  obtain ⟨q, HQ⟩ : ∃ q : Nat, Hid (lefts b ps = q) := ⟨_, Lib.hid rfl⟩
  rw [HQ.out] at hle kk2
  have HS0 := Lib.hid hs0
  have hs1 : w.heap.size + 2 ≤ w1.heap.size := by rw [hw1, ← hs0]; exact Nat.le_of_eq (setCells_size _ _ _ _).symm
  clear hs0 hw0 hw1 k0 k1 k2
  go_enter Try.func60, Try.ntmps60
  go_wp2_with fail
  have hw1' : IntKind.i64.wrap ((q : Int) - 1) = (q : Int) - 1 := IntWalk.i64_in _ (by have := HP.out.hi; have := HL.out; omega)
  go_quiet (fail)
  clear hw1' hcl
  have HN10 : Hid (n ≤ 10) := Lib.hid (by have := HP.out.hi; have := HL.out; omega)
  go_wp2
  go_loopw [7, 8, 9, 10, 30] (fun at_ nn lft rgt i wr => ∃ (j : Nat) (s : St), j ≤ k ∧ i = .int .i64 j ∧ at_ = .int .i64 s.at_ ∧ nn = .int .i64 s.n ∧ lft = .int .i64 ((s.lo : Int) - 1) ∧ rgt = .int .i64 (s.hi : Nat) ∧ Hid (stAt b ps (l.take j) = some s) ∧
    Bk wr w.heap.size 85 (arr10 zeros) ∧ Bk wr (w.heap.size + 1) 85 (arr10 s.out) ∧ Below w.heap.size w wr ∧ w.heap.size + 2 ≤ wr.heap.size) (fun _ _ _ _ i _ => k - (intOf i).toNat)
  case atStart => exact ⟨0, st0 b ps, Nat.zero_le _, rfl, rfl, rfl, by rw [← HQ.out]; rfl, by rw [← HQ.out]; rfl, Lib.hid rfl, hbR1, hbO1, below_drewN hb1 _, hs1⟩
  case round =>
    clear hbR1 hbO1 hb1 hx1 kk0 kk2 hs1
    obtain ⟨j, s, hj, rfl, rfl, rfl, rfl, rfl, HS, hbR, hbO, hb, hsz⟩ := hrel
    have hallj : ∀ i ∈ l.take j, i < ps.length := fun i hi => by rw [HL.out]; exact hall.out i (List.mem_of_mem_take hi)
    have HOK := Lib.hid (stOk HP.out (l.take j) s hallj HS.out)
    have hat := HOK.out.at_
    have hlo := HOK.out.lo
    have hhi := HOK.out.hi
    have hnn := HOK.out.n
    have hmany := HOK.out.many
    have hlj : (l.take j).length ≤ 10 := by have := HN10.out; have := HL.out; omega
    have HOL := Lib.hid HOK.out.out
    clear hallj
    obtain ⟨a0, n0, lo, hi, out⟩ := s
    dsimp only at hat hlo hhi hnn hmany HS HOL hbO ⊢
    have hnn2 : 0 ≤ n0 ∧ n0 ≤ 10000 := by omega
    clear hnn
    have hlo2 : lo ≤ 10 := by have := HN10.out; have := HL.out; omega
    have hhi2 : hi ≤ 10 := by have := HN10.out; have := HL.out; omega
    have hlhi : lo ≤ hi := by omega
    clear hmany hlj
    obtain ⟨lf, hlf⟩ : ∃ lf : Int, (lo : Int) - 1 = lf := ⟨_, rfl⟩
    rw [hlf]
    have hlf2 : -1 ≤ lf ∧ lf ≤ 10 := by omega
    have HLF := Lib.hid hlf
    clear hlf
    by_cases hlt : j < k
    · obtain ⟨ad2, x, rfl, _, hcx, hxk, _⟩ := (hl.below hb).at_ hlt
      obtain ⟨i, hi1, rfl⟩ := ofN_at hxk.out
      have HI := Lib.hid hi1
      have hin : i < n := hall.out i (List.mem_of_getElem? hi1)
      clear hi1 hxk
      have hi10 : i < 10 := by have := HN10.out; omega
      obtain ⟨ad, hA, _, c1, _⟩ := (hw.rp.below hb).at2 hin
      subst hA
      have hpl := HP.out.at_ i
      obtain ⟨x, HX⟩ : ∃ x, Hid (plc ps i = x) := ⟨_, Lib.hid rfl⟩
      rw [HX.out] at c1 hpl
      obtain ⟨f, HF⟩ : ∃ f, Hid (far a0 x = f) := ⟨_, Lib.hid rfl⟩
      have hfb := far_bd hat ⟨hpl.1, hpl.2.1⟩
      rw [HF.out] at hfb
      have kk1 : wr.cell? ⟨g, 1, none⟩ = some (.slice (some ad) n c) := (hb.cell hgl).trans hw.c1
      have HST : Hid (stAt b ps (l.take (j + 1)) = stF ps (some ⟨a0, n0, lo, hi, out⟩) i) := Lib.hid (by rw [take_snoc HI.out, stAt_snoc, HS.out])
      have hfO := hbO.frozen i
      have hcO : wr.cell? ⟨w.heap.size + 1, i, none⟩ = some (.int .i64 (nth out i)) := (hbO.cell i).trans (arr10_at out hi10)
      by_cases h1 : (i : Int) = lf
      · subst h1
        have HM : Hid (stF ps (some ⟨a0, n0, lo, hi, out⟩) i = some (move ps ⟨a0, n0, lo, hi, out⟩ i i hi)) := Lib.hid (by
          simp only [stF, Option.bind_some]
          rw [if_pos (by have := HLF.out; omega)])
        have HMO : Hid ((move ps ⟨a0, n0, lo, hi, out⟩ i i hi).out = out.set i (n0 + f)) := Lib.hid (by rw [← HF.out, ← HX.out]; rfl)
        go_wp2_with fail
        refine (fFar a0 x _ ⟨by omega, by omega⟩ ⟨by omega, by omega⟩).mono ?_
        rintro e w2 ⟨rfl, rfl⟩
        rw [HF.out]
        go_wp2_with fail
        have HP2 : Hid ((arr10 out).setIfInBounds i (.int .i64 (n0 + f)) = arr10 (out.set i (n0 + f))) := Lib.hid (arr10_put out HOL.out hi10 _)
        have hbO2 := hbO.set_ i (.int .i64 (n0 + f))
        rw [HP2.out] at hbO2
        have hbR2 := hbR.far (p := ⟨w.heap.size + 1, i, none⟩) (by simp) (.int .i64 (n0 + f))
        have hb2 := hb.setCell (p := ⟨w.heap.size + 1, i, none⟩) (by simp) (.int .i64 (n0 + f))
        go_roundw
        case rel => exact ⟨j + 1, move ps ⟨a0, n0, lo, hi, out⟩ i i hi, by omega, by go_num, by rw [← HX.out]; rfl, by rw [← HF.out, ← HX.out]; rfl, rfl, rfl, Lib.hid (by rw [HST.out, HM.out]), hbR2, by rw [HMO.out]; exact hbO2, hb2, by simp; omega⟩
        case measure => simp [intOf]; omega
      · by_cases h2 : (i : Int) = (hi : Int)
        · obtain rfl : i = hi := by omega
          have HM : Hid (stF ps (some ⟨a0, n0, lo, i, out⟩) i = some (move ps ⟨a0, n0, lo, i, out⟩ i lo (i + 1))) := Lib.hid (by
            simp only [stF, Option.bind_some]
            rw [if_neg (by have := HLF.out; omega), if_pos trivial])
          have HMO : Hid ((move ps ⟨a0, n0, lo, i, out⟩ i lo (i + 1)).out = out.set i (n0 + f)) := Lib.hid (by rw [← HF.out, ← HX.out]; rfl)
          clear h2
          go_wp2_with fail
          refine (fFar a0 x _ ⟨by omega, by omega⟩ ⟨by omega, by omega⟩).mono ?_
          rintro e w2 ⟨rfl, rfl⟩
          rw [HF.out]
          go_wp2_with fail
          have HP2 : Hid ((arr10 out).setIfInBounds i (.int .i64 (n0 + f)) = arr10 (out.set i (n0 + f))) := Lib.hid (arr10_put out HOL.out hi10 _)
          have hbO2 := hbO.set_ i (.int .i64 (n0 + f))
          rw [HP2.out] at hbO2
          have hbR2 := hbR.far (p := ⟨w.heap.size + 1, i, none⟩) (by simp) (.int .i64 (n0 + f))
          have hb2 := hb.setCell (p := ⟨w.heap.size + 1, i, none⟩) (by simp) (.int .i64 (n0 + f))
          go_roundw
          case rel => exact ⟨j + 1, move ps ⟨a0, n0, lo, i, out⟩ i lo (i + 1), by omega, by go_num, by rw [← HX.out]; rfl, by rw [← HF.out, ← HX.out]; rfl, by rw [← HLF.out]; rfl, by simp [move], Lib.hid (by rw [HST.out, HM.out]), hbR2, by rw [HMO.out]; exact hbO2, hb2, by simp; omega⟩
          case measure => simp [intOf]; omega
        · have HM : Hid (stepsL b ps l = zeros) := Lib.hid (stepsL_none (by
            rw [← List.take_append_drop (j + 1) l]
            refine stAt_none ?_
            rw [HST.out]
            simp only [stF, Option.bind_some]
            rw [if_neg (by have := HLF.out; omega), if_neg (by omega)]))
          have hbR2 : Bk (wr.setRow w.heap.size z10) w.heap.size 85 (arr10 zeros) := hbR.setRow (arr10 zeros)
          have hb2 : Below w.heap.size w (wr.setRow w.heap.size z10) := below_setRow (arr10 zeros) (Nat.le_refl _) hb
          have hld := load_steps hbR2
          go_wp2_with (refine wpList_store_row rfl _ (.tmp 4) (.tmp 35) rfl w.heap.size z10 rfl rfl 85 (arr10 zeros) hbR (by kernel_rfl) rfl (by kernel_rfl) ?_)
          exact bodyPost_ret (results_steps rfl _ rfl hbR2) rfl ⟨by rw [HM.out]; rfl, hb2⟩
    · obtain rfl : j = k := by omega
      have HLK : Hid (l.length = j) := Lib.hid (by rw [← ofN_length]; exact hl.len)
      have HSO : Hid (stepsL b ps l = out) := Lib.hid (by
        have h := HS.out
        rw [List.take_of_length_le (by rw [HLK.out]; omega)] at h
        rw [stepsL_some h])
      have hmix : Try.prog.follows .mixedOrders = true := by kernel_rfl
      have hbOd : Bk wr.drew (w.heap.size + 1) 85 (arr10 out) := hbO
      have hbRd : Bk wr.drew w.heap.size 85 (arr10 zeros) := hbR
      have hbd := hb.drew
      have hl1 := load_steps hbOd
      have hbR2 := hbRd.setRow (arr10 out)
      have hb2 := below_setRow (arr10 out) (Nat.le_refl _) hbd
      have hl2 := load_steps hbR2
      go_wp2
      refine wp_region_noPanic ?_
      refine wp_region_held_drew (S := fun W => Bk W (w.heap.size + 1) 85 (arr10 out)) hmix hbOd (fun hS => ?_)
      refine wpAnyH_take (i := 0) (v := .agg (arr10 out)) rfl (by kernel_rfl) (by kernel_rfl) (by kernel_rfl) (fun _ _ _ h => h) (Or.inl ⟨by rfl, fun W hSw => exec_load_row (.tmp 6) rfl (w.heap.size + 1) rfl hSw⟩) hS ?_
      simp (maxSteps := 10000000) only [Act.put, List.setIfInBounds_toArray, List.set_cons_zero, List.set_cons_succ, List.getElem_toArray, List.getElem_cons_zero]
      refine wpAnyH_take (i := 1) (v := .agg (arr10 out)) rfl (by kernel_rfl) (by kernel_rfl) (by kernel_rfl) (fun _ _ _ h => h) (Or.inl ⟨by rfl, fun W hSw => exec_load_row (.tmp 6) rfl (w.heap.size + 1) rfl hSw⟩) hS ?_
      simp (maxSteps := 10000000) only [Act.put, List.setIfInBounds_toArray, List.set_cons_zero, List.set_cons_succ, List.getElem_toArray, List.getElem_cons_zero, List.getElem_cons_succ]
      refine wpAnyH_take (i := 2) (v := .agg (arr10 zeros)) rfl (by kernel_rfl) (by kernel_rfl) (by kernel_rfl) (fun _ _ _ h => h) (Or.inl ⟨by rfl, fun W hSw => by kernel_rfl⟩) hS ?_
      simp (maxSteps := 10000000) only [Act.put, List.setIfInBounds_toArray, List.set_cons_zero, List.set_cons_succ, List.getElem_toArray, List.getElem_cons_zero, List.getElem_cons_succ]
      refine wpAnyH_take (i := 3) (v := .bool (decide (out ≠ zeros))) rfl (by kernel_rfl) (by kernel_rfl) (by kernel_rfl) (fun _ _ _ h => h) (Or.inl ⟨by rfl, fun W hSw => exec_neq_row (.tmp 73) (.tmp 74) _ rfl rfl rfl HOL.out rfl⟩) hS ?_
      simp (maxSteps := 10000000) only [Act.put, List.setIfInBounds_toArray, List.set_cons_zero, List.set_cons_succ, List.getElem_toArray, List.getElem_cons_zero, List.getElem_cons_succ]
      refine wpAnyH_ready (rs := [4]) (by kernel_rfl) (by simp) ?_
      refine AllReadyH.cons rfl (fun K hK => ?_) AllReadyH.nil
      rw [if_pos (by kernel_rfl)]
      refine wp_store_row _ (.tmp 4) (.tmp 72) rfl w.heap.size (arr10 out) rfl rfl 85 (arr10 zeros) hbRd (by kernel_rfl) rfl (arr10_one out) ?_
      refine hK.out _ _ (hbOd.farRow (by omega) _) (fun hS => ?_)
      clear hK K
      simp (maxSteps := 10000000) only [Act.put, List.getElem_toArray, List.getElem_cons_zero, List.getElem_cons_succ]
      refine wpAnyH_ready (rs := [5]) (by kernel_rfl) (by simp) ?_
      refine AllReadyH.cons rfl (fun K hK => ?_) AllReadyH.nil
      go_simp
      refine hK.out _ _ hS (fun hS => ?_)
      clear hK K
      refine wpAnyH_done (by kernel_rfl) (NoPanic.normal ?_) _
      go_wp2
      exact bodyPost_ret (results_steps rfl _ rfl hbR2) rfl ⟨by rw [HSO.out, show decide (out ≠ zeros) = !decide (out = zeros) from by simp]; rfl, hb2⟩
end Go.Proofs.Ytaekjnjignlmoaa

namespace Go.Proofs.Ytaekjnjignlmoaa
open Go.RowKit Go.Shelf

theorem Bk.drewN {W : World} {k : Nat} {t : TypeId} {cs : Array Value} (h : Bk W k t cs) (n : Nat) : Bk (W.drewN n) k t cs := h
set_option maxRecDepth 100000 in
set_option maxHeartbeats 1000000 in
theorem dLate (g n c : Nat) (A : Option Addr) (b : Int) (ps : List (Int × Int)) (w : World) (hw : Wk w w.heap.size g A n c b ps) (HP : Hid (Pier b ps)) (L : List Int) (_HL10 : Hid (L.length = 10)) (HB : Hid (∀ i : Nat, 0 ≤ nth L i ∧ nth L i ≤ 10000)) :
    Calls Try.prog 61 #[.pointer (some ⟨g, 0, none⟩), .agg (arr10 L)] w fun e w' => e = .returned (.int .i64 (lateL ps L)) ∧ Below w.heap.size w w' := by
  have HL := Lib.hid hw.rp.len
  have hn0 : 0 < n := by have := HP.out.lo; have := HL.out; omega
  have hn10 : n ≤ 10 := by have := HP.out.hi; have := HL.out; omega
  have hbO := Bk.new w 85 (arr10 L)
  have hb0 : Below w.heap.size w (w.alloc (.cells (arr10 L) 85)) := (Below.refl _ w).alloc (Nat.le_refl _) _
  obtain ⟨ad, rfl, _, c1, c2⟩ := (hw.rp.below hb0).at2 hn0
  have k1 : (w.alloc (.cells (arr10 L) 85)).cell? ⟨g, 1, none⟩ = some (.slice (some ad) n c) := (hb0.cell hw.lt).trans hw.c1
  have hp0 := HP.out.at_ 0
  have hl0 := HB.out 0
  obtain ⟨x0, HX0⟩ : ∃ x, Hid (nth L 0 = x) := ⟨_, Lib.hid rfl⟩
  obtain ⟨t0, HT0⟩ : ∃ x, Hid (too ps 0 = x) := ⟨_, Lib.hid rfl⟩
  have o0 : (w.alloc (.cells (arr10 L) 85)).cell? ⟨w.heap.size, 0, none⟩ = some (.int .i64 x0) := by rw [hbO.cell 0, ← HX0.out]; rfl
  rw [HX0.out] at hl0
  rw [HT0.out] at c2 hp0
  have hw0 : IntKind.i64.wrap (x0 - t0) = x0 - t0 := IntWalk.i64_in _ (by omega)
  rw [addr_zero] at c1 c2
  go_enter Try.func61, Try.ntmps61
  go_wp2
  go_quiet (fail)
  clear hw0
  have HL0 : Hid (lateTo ps L 0 = x0 - t0) := Lib.hid (by rw [← HX0.out, ← HT0.out]; rfl)
  have k1d : ((w.alloc (.cells (arr10 L) 85)).drewN nq).cell? ⟨g, 1, none⟩ = some (.slice (some ad) n c) := k1
  go_wp2
  go_loopw [5, 25] (fun m i wr => ∃ j : Nat, j ≤ n ∧ i = .int .i64 j ∧ m = .int .i64 (lateTo ps L j) ∧ Bk wr w.heap.size 85 (arr10 L) ∧ Below w.heap.size w wr ∧ w.heap.size < wr.heap.size) (fun _ i _ => n - (intOf i).toNat)
  case atStart => exact ⟨0, Nat.zero_le _, rfl, by rw [HL0.out], hbO.drewN nq, below_drewN hb0 nq, by simp⟩
  case round =>
    clear hbO hb0 c1 c2 k1 k1d o0
    obtain ⟨j, hj, rfl, rfl, hbO, hb, hsz⟩ := hrel
    have hlt := lateTo_bd HP.out HB.out j
    obtain ⟨m, HM⟩ : ∃ m, Hid (lateTo ps L j = m) := ⟨_, Lib.hid rfl⟩
    rw [HM.out] at hlt ⊢
    by_cases hjn : j < n
    · have hj10 : j < 10 := by omega
      obtain ⟨ad2, hA, _, c1, c2⟩ := (hw.rp.below hb).at2 hjn
      obtain rfl : ad = ad2 := Option.some.inj hA
      have hpj := HP.out.at_ j
      have hlj := HB.out j
      obtain ⟨x, HX⟩ : ∃ x, Hid (nth L j = x) := ⟨_, Lib.hid rfl⟩
      obtain ⟨tt, HT⟩ : ∃ x, Hid (too ps j = x) := ⟨_, Lib.hid rfl⟩
      obtain ⟨pp, HPP⟩ : ∃ x, Hid (plc ps j = x) := ⟨_, Lib.hid rfl⟩
      rw [HT.out, HPP.out] at hpj
      rw [HT.out] at c2
      rw [HPP.out] at c1
      rw [HX.out] at hlj
      have hbO1 := hbO.alloc (.cells #[.int .i64 pp, .int .i64 tt] 67)
      have hb1 := hb.alloc hb.size (.cells #[.int .i64 pp, .int .i64 tt] 67)
      have oj : (wr.alloc (.cells #[.int .i64 pp, .int .i64 tt] 67)).cell? ⟨w.heap.size, j, none⟩ = some (.int .i64 x) := by rw [hbO1.cell j, arr10_at L hj10, HX.out]
      have sj : (wr.alloc (.cells #[.int .i64 pp, .int .i64 tt] 67)).cell? ⟨wr.heap.size, 1, none⟩ = some (.int .i64 tt) := (Bk.new wr _ _).cell 1
      have hw0 : IntKind.i64.wrap (x - tt) = x - tt := IntWalk.i64_in _ (by omega)
      have HS : Hid (lateTo ps L (j + 1) = maxI m (x - tt)) := Lib.hid (by rw [lateTo_succ, HM.out, HX.out, HT.out])
      by_cases hmx : m < x - tt
      · have HMX : Hid (maxI m (x - tt) = x - tt) := Lib.hid (if_pos hmx)
        go_wp2
        go_quiet (fail)
        clear hw0
        go_wp2
        go_roundw
        case rel => exact ⟨j + 1, by omega, by go_num, by rw [HS.out, HMX.out], hbO1.drewN nq, below_drewN hb1 nq, by simp; omega⟩
        case measure => simp [intOf]; omega
      · have HMX : Hid (maxI m (x - tt) = m) := Lib.hid (if_neg hmx)
        go_wp2
        go_quiet (fail)
        clear hw0
        go_wp2
        go_roundw
        case rel => exact ⟨j + 1, by omega, by go_num, by rw [HS.out, HMX.out], hbO1.drewN nq, below_drewN hb1 nq, by simp; omega⟩
        case measure => simp [intOf]; omega
    · obtain rfl : j = n := by omega
      have HE : Hid (m = lateL ps L) := Lib.hid (by rw [← HM.out, ← HL.out]; rfl)
      go_wp2
      go_ret
      exact ⟨ret_i HE.out, hb⟩

/-- Steps are stored into a block of their own. -/
theorem store_steps {w : World} {ops : Array Oper} {rest : List Oper} {o : Oper} {a : Act} {Q : Exit → Act → World → Prop} (hgd : o.guard = none) (x y : Operand) (ho : o.op = .store 85 x y)
    (k : Nat) (L M : List Int) (hx : a.eval x = .pointer (some ⟨k, 0, none⟩)) (hy : a.eval y = .agg (arr10 L)) (hb : Bk w k 85 (arr10 M))
    (h : ∀ w', Bk w' k 85 (arr10 L) → Below k w w' → w'.heap.size = w.heap.size → wpList Try.prog ops Q rest (a.put o.dst undef) w') : wpList Try.prog ops Q (o :: rest) a w :=
  wpList_store_row hgd _ x y ho k (arr10 L) hx hy _ (arr10 M) hb (by kernel_rfl) rfl (arr10_one L) (h _ (hb.setRow _) (below_setRow _ (Nat.le_refl _) (Below.refl _ _)) (setRow_size _ _ _))
theorem load_stepsG {w : World} {ops : Array Oper} {rest : List Oper} {o : Oper} {a : Act} {Q : Exit → Act → World → Prop} (hw : Region.wanted o (yielded ops a.tmps) = true) (x : Operand) (ho : o.op = .load 85 x)
    (k : Nat) {L : List Int} (hx : a.eval x = .pointer (some ⟨k, 0, none⟩)) (hb : Bk w k 85 (arr10 L))
    (h : wpList Try.prog ops Q rest (a.put o.dst (.agg (arr10 L))) w) : wpList Try.prog ops Q (o :: rest) a w :=
  BigFrame.wpList_want hw fun _ hK => wp_load_row _ x ho k hx _ _ _ _ hb under_steps rfl (by kernel_rfl) (hK _ _ h)
/-- What a walk says of the steps of a list. -/
theorem stepsL_bd {b : Int} {ps : List (Int × Int)} (hp : Pier b ps) {l : List Nat} (hl : ∀ i ∈ l, i < ps.length) (h10 : l.length ≤ 10) : (stepsL b ps l).length = 10 ∧ ∀ i : Nat, 0 ≤ nth (stepsL b ps l) i ∧ nth (stepsL b ps l) i ≤ 10000 := by
  cases h : stAt b ps l with
  | none =>
    rw [stepsL_none h]
    refine ⟨rfl, fun i => ?_⟩
    have e : nth zeros i = 0 := by
      unfold nth zeros
      rw [List.getElem?_replicate]
      split <;> rfl
    omega
  | some s =>
    have hk := stOk hp l s hl h
    rw [stepsL_some h]
    refine ⟨hk.out, fun i => ?_⟩
    have := hk.outs i
    omega

set_option maxRecDepth 100000 in
set_option maxHeartbeats 1000000 in
theorem dInTime (g n c : Nat) (A : Option Addr) (b : Int) (ps : List (Int × Int)) (w : World) (hw : Wk w w.heap.size g A n c b ps) (HP : Hid (Pier b ps)) (B : Option Addr) (k d : Nat) (l : List Nat) (hl : Ri w w.heap.size B k (ofN l)) (hk : k ≤ 10) (hall : Hid (∀ i ∈ l, i < n)) :
    Calls Try.prog 70 #[.pointer (some ⟨g, 0, none⟩), .slice B k d] w (RetB w (inTimeB b ps l)) := by
  have HL := Lib.hid hw.rp.len
  have HLL := Lib.hid hl.len
  have HSB := Lib.hid (stepsL_bd HP.out (l := l) (by rw [HL.out]; exact hall.out) (by have := HLL.out; rw [ofN_length] at this; omega))
  obtain ⟨L, HLS⟩ : ∃ L, Hid (stepsL b ps l = L) := ⟨_, Lib.hid rfl⟩
  have HRE : Hid (inTimeB b ps l = (decide (L ≠ zeros) && decide (lateL ps L ≤ 0))) := Lib.hid (by rw [← HLS.out]; rfl)
  have HST := dSteps g n c A b ps w hw HP B k d l hl (by omega) hall
  rw [HLS.out] at HSB
  go_enter Try.func70, Try.ntmps70
  go_wp2_with fail
  refine HST.mono ?_
  rintro e w1 ⟨rfl, hb1⟩
  rw [HLS.out]
  have hw1 := (hw.below hb1).more hb1.size
  have hbO := Bk.new w1 85 (arr10 zeros)
  obtain ⟨r1, HR1⟩ : ∃ r, Hid (decide (L ≠ zeros) = r) := ⟨_, Lib.hid rfl⟩
  rw [HR1.out]
  cases r1
  · have HE : Hid (false = inTimeB b ps l) := Lib.hid (by rw [HRE.out, HR1.out]; rfl)
    go_wp2_with (refine store_steps rfl (.tmp 5) (.tmp 11) rfl w1.heap.size L zeros rfl rfl hbO ?_; intro w2 hk2 hb2 hs2)
    go_ret
    exact ⟨ret_b HE.out, (hb1.alloc hb1.size _).trans (hb2.mono hb1.size)⟩
  · have HE : Hid (decide (lateL ps L ≤ 0) = inTimeB b ps l) := Lib.hid (by rw [HRE.out, HR1.out]; rfl)
    obtain ⟨m, HM⟩ : ∃ m, Hid (lateL ps L = m) := ⟨_, Lib.hid rfl⟩
    rw [HM.out] at HE
    go_wp2_with (first | (refine store_steps rfl (.tmp 5) (.tmp 11) rfl w1.heap.size L zeros rfl rfl hbO ?_; intro w2 hk2 hb2 hs2) | (refine load_stepsG (by kernel_rfl) (.tmp 5) rfl w1.heap.size rfl hk2 ?_))
    have hb3 : Below w.heap.size w w2 := (hb1.alloc hb1.size _).trans (hb2.mono hb1.size)
    refine (dLate g n c A b ps _ ((hw.below hb3).more hb3.size) HP L (Lib.hid HSB.out.1) (Lib.hid HSB.out.2)).mono ?_
    rintro e w3 ⟨rfl, hb4⟩
    rw [HM.out]
    go_wp2
    go_ret
    exact ⟨ret_b HE.out, hb3.trans (hb4.mono hb3.size)⟩

set_option maxRecDepth 100000 in
set_option maxHeartbeats 1000000 in
theorem dLength (g n c : Nat) (A : Option Addr) (b : Int) (ps : List (Int × Int)) (w : World) (hw : Wk w w.heap.size g A n c b ps) (HP : Hid (Pier b ps)) (B : Option Addr) (k d : Nat) (l : List Nat) (hl : Ri w w.heap.size B k (ofN l)) (hk : k ≤ 10) (hk0 : 0 < k) (hall : Hid (∀ i ∈ l, i < n)) :
    Calls Try.prog 107 #[.pointer (some ⟨g, 0, none⟩), .slice B k d] w (RetI w (lenR b ps l)) := by
  have HL := Lib.hid hw.rp.len
  have HLL := Lib.hid hl.len
  have hn10 : n ≤ 10 := by have := HP.out.hi; have := HL.out; omega
  obtain ⟨L, HLS⟩ : ∃ L, Hid (stepsL b ps l = L) := ⟨_, Lib.hid rfl⟩
  obtain ⟨m, HM⟩ : ∃ m, Hid (lenR b ps l = m) := ⟨_, Lib.hid rfl⟩
  rw [HM.out]
  have HST := dSteps g n c A b ps w hw HP B k d l hl (by omega) hall
  go_enter Try.func107, Try.ntmps107
  go_wp2_with fail
  refine HST.mono ?_
  rintro e w1 ⟨rfl, hb1⟩
  rw [HLS.out]
  have hbO := Bk.new w1 85 (arr10 zeros)
  obtain ⟨q, hq⟩ : ∃ q : Nat, q + 1 = k := ⟨k - 1, by omega⟩
  have hqk : q < k := by omega
  obtain ⟨ad, x, rfl, hbl, hcx, hxk, _⟩ := (hl.below hb1).at_ hqk
  obtain ⟨i, hi1, rfl⟩ := ofN_at hxk.out
  have hin : i < n := hall.out i (List.mem_of_getElem? hi1)
  have HE : Hid (nth L i = m) := Lib.hid (by
    rw [← HM.out, ← HLS.out]
    unfold lenR lastOf
    have hlen : l.length = k := by rw [← ofN_length]; exact HLL.out
    rw [List.getLast?_eq_getElem?, hlen, ← hq, Nat.add_sub_cancel, hi1]
    rfl)
  have hw0 : IntKind.i64.wrap ((k : Int) - 1) = (q : Int) := by rw [IntWalk.i64_in _ (by omega)]; omega
  clear hi1 hxk hq
  obtain ⟨r1, HR1⟩ : ∃ r, Hid (decide (L ≠ zeros) = r) := ⟨_, Lib.hid rfl⟩
  rw [HR1.out]
  have hi10 : i < 10 := by omega
  have hcq : ∀ w2, Below w1.heap.size w1 w2 → w2.cell? (ad.add q) = some (.int .i64 (i : Int)) := fun w2 h => (h.cell (by rw [addr_block]; have := hb1.size; omega)).trans hcx
  go_wp2_with (refine store_steps rfl (.tmp 5) (.tmp 11) rfl w1.heap.size L zeros rfl rfl hbO ?_; intro w2 hk2 hb2 hs2; have hc2 := hcq w2 (((Below.refl _ w1).alloc (Nat.le_refl _) _).trans hb2); have ho2 : w2.cell? ⟨w1.heap.size, i, none⟩ = some (.int .i64 (nth L i)) := (hk2.cell i).trans (arr10_at L hi10))
  go_ret
  exact ⟨ret_i HE.out, (hb1.alloc hb1.size _).trans (hb2.mono hb1.size)⟩
end Go.Proofs.Ytaekjnjignlmoaa

namespace Go.Proofs.Ytaekjnjignlmoaa
open Go.RowKit Go.Shelf
attribute [local go_sem] Oper.semAt_some

theorem room_of_none {F : Fence} (hd : F.depth = none) (k : Nat) : F.room k := fun d h => by rw [hd] at h; cases h
theorem RoundIn.anyDepth {F : Fence} (hd : F.depth = none) {m m' : Nat} {P : Program} {l : Nat} {f : FuncId} {tmps : Array Value} {assign body : Code} {w : World} {R : Ending → World → Prop}
    (h : RoundIn F m P l f tmps assign body w R) : RoundIn F m' P l f tmps assign body w R := ⟨h.1, fun c cs _ => h.2 c cs (room_of_none hd _)⟩
theorem YieldAt.anyDepth {F : Fence} (hd : F.depth = none) {m : Nat} (m' : Nat) {P : Program} {l : Nat} {args : Array Value} {W : World} {R : Ending → World → Prop} (h : YieldAt F m P l args W R) : YieldAt F m' P l args W R := by
  obtain ⟨fn, tmps, assign, body, hy, hR⟩ := h
  exact ⟨fn, tmps, assign, body, hy, RoundIn.anyDepth hd hR⟩

/-- What comes of going on: all rounds have been yielded, or no more were wanted. -/
def Gone (B0 B1 : Nat) (J Jx : List El → World → Prop) (pre : List El) (Ls : List (List Nat)) (W : World) (e : Ending) (W' : World) : Prop :=
  (e = .returned (.bool true) ∧ ∃ xs : List El, xs.map El.l = Ls ∧ J (pre ++ xs) W' ∧ Kr B0 B1 W W') ∨ (e = .returned (.bool false) ∧ ∃ q : List El, q.map El.l <+: Ls ∧ Jx (pre ++ q) W')

set_option maxRecDepth 100000 in
set_option maxHeartbeats 2000000 in
theorem goOn_in (lp g n c : Nat) (A : Option Addr) (b : Int) (ps : List (Int × Int)) (B0 B1 BJ N : Nat) (Ls : List (List Nat)) (hn : n ≤ 10) (J Jx : List El → World → Prop) (hJ : AbidesFrom BJ J)
    (hY : ∀ m pre x W, J pre W → Rr B1 Ls x W → pre.length < N → YieldAt Fence.wide m Try.prog lp x.enc W fun e W' => (e = .returned (.bool true) ∧ J (pre ++ [x]) W' ∧ Kr B0 B1 W W') ∨ (e = .returned (.bool false) ∧ Jx (pre ++ [x]) W')) :
    ∀ (f lo hi : Nat) (m : Nat) (begun : List Nat) (D : Option Addr) (cc : Nat) (pre : List El) (W : World), f = lo + (n - hi) → hi ≤ n → lo ≤ n → begun.length ≤ 10 → Wk W B0 g A n c b ps → Oj W B1 D begun.length cc (ofN begun) → J pre W →
      pre.length + (genR n f lo hi).length ≤ N → (∀ r ∈ genR n f lo hi, begun ++ r ∈ Ls) → (f + begun.length ≤ 10) → B0 ≤ B1 → B1 ≤ W.heap.size →
      CallsIn Fence.wide m Try.prog 109 #[.pointer (some ⟨g, 0, none⟩), .slice D begun.length cc, .int .i64 (lo : Int), .int .i64 (hi : Int), .func (.yield lp) #[] #[]] W (Gone B0 B1 J Jx pre ((genR n f lo hi).map (begun ++ ·)) W) := by
  intro f
  induction f with
  | zero =>
    intro lo hi m begun D cc pre W hf hhi hlo hbl hw ho h0 hN hall hlen hB01 hB1
    obtain rfl : lo = 0 := by omega
    obtain rfl : hi = n := by omega
    have k1 := hw.c1
    have hx : Rr B1 Ls ⟨D, cc, begun⟩ W := ⟨ho, by have := hall [] (by simp [genR]); simpa using this⟩
    obtain ⟨fn, tmps, assign, body, hy, hR⟩ := hY (m - 1) pre ⟨D, cc, begun⟩ W h0 hx (by simp [genR] at hN; omega)
    dsimp only [El.enc] at hy
    have HN := Lib.hid hN
    have HALL := Lib.hid hall
    clear hN hall
    refine callsIn_of_wp Try.func109 rfl trivial ?_ rfl
    simp only [Try.ntmps109, List.size_toArray, List.length_cons, List.length_nil, Nat.reduceAdd, Nat.reduceSub, Array.replicate_succ, Array.replicate_zero, List.push_toArray, List.append_toArray, List.nil_append, List.cons_append]
    clear hf
    gi_wp2
    refine ⟨fun h => (by cases h), ?_⟩
    refine hR.mono ?_
    have HG : Hid ((genR hi 0 0 hi).map (begun ++ ·) = [begun]) := Lib.hid (by simp [genR])
    rintro e W' (⟨rfl, h1, h2⟩ | ⟨rfl, h1⟩)
    · gi_wp2
      go_ret
      exact .inl ⟨rfl, [⟨D, cc, begun⟩], by rw [HG.out]; rfl, h1, h2⟩
    · gi_wp2
      go_ret
      exact .inr ⟨rfl, [⟨D, cc, begun⟩], by rw [HG.out]; exact List.prefix_refl _, h1⟩
  | succ f ih =>
    intro lo hi m begun D cc pre W hf hhi hlo hbl hw ho h0 hN hall hlen hB01 hB1
    have k1 := hw.c1
    have hcap := ho.cap
    have hl20 : begun.length ≤ 1048576 := by omega
    obtain ⟨bl, HBL⟩ : ∃ bl, Hid (begun.length = bl) := ⟨_, Lib.hid rfl⟩
    have HIH := Lib.hid ih
    have HN := Lib.hid hN
    have HALL := Lib.hid hall
    clear ih hN hall
    have GO : ∀ (lo2 hi2 i m2 : Nat) (pre2 : List El) (w2 w3 : World) (g3 cap3 : Nat), f = lo2 + (n - hi2) → hi2 ≤ n → lo2 ≤ n → Wk w2 B0 g A n c b ps → J pre2 w2 → pre2.length + (genR n f lo2 hi2).length ≤ N → (∀ r ∈ genR n f lo2 hi2, begun ++ i :: r ∈ Ls) → B1 ≤ w2.heap.size →
        Oj w3 (w2.alloc (.cells #[.int .i64 (i : Int)] 3)).heap.size (some ⟨g3, 0, none⟩) (bl + 1) cap3 (ofN begun ++ [(i : Int)]) → (w2.alloc (.cells #[.int .i64 (i : Int)] 3)).grownBy w3 none →
        CallsIn Fence.wide m2 Try.prog 109 #[.pointer (some ⟨g, 0, none⟩), .slice (some ⟨g3, 0, none⟩) (bl + 1) cap3, .int .i64 (lo2 : Int), .int .i64 (hi2 : Int), .func (.yield lp) #[] #[]] w3 (Gone B0 B1 J Jx pre2 ((genR n f lo2 hi2).map (fun r => begun ++ i :: r)) w2) := by
      intro lo2 hi2 i m2 pre2 w2 w3 g3 cap3 e1 e2 e3 e4 e5 e6 e7 e8 e9 e10
      have hk : Kr B0 B1 w2 w3 := ((Kr.refl B0 B1 w2).new (World.grownBy_alloc w2 _ none) (by omega)).new e10 (by simp; omega)
      have hJ3 : J pre2 w3 := hJ pre2 _ w3 none (hJ pre2 w2 _ none e5 (World.grownBy_alloc w2 _ none) (fun r e => by cases e)) e10 (fun r e => by cases e)
      have hl : (begun ++ [i]).length = bl + 1 := by rw [List.length_append, HBL.out]; rfl
      have h := HIH.out lo2 hi2 m2 (begun ++ [i]) (some ⟨g3, 0, none⟩) cap3 pre2 w3 e1 e2 e3 (by rw [hl, ← HBL.out]; omega) (e4.below hk.below) (by rw [hl, ofN_append]; exact e9.base (by simp; omega)) hJ3 e6 (fun r hr => by rw [List.append_assoc]; exact e7 r hr) (by rw [hl, ← HBL.out]; omega) hB01 (Nat.le_trans e8 hk.size)
      rw [hl] at h
      refine h.mono ?_
      have em : (genR n f lo2 hi2).map (begun ++ [i] ++ ·) = (genR n f lo2 hi2).map (fun r => begun ++ i :: r) := by
        refine List.map_congr_left fun r _ => ?_
        rw [List.append_assoc]
        rfl
      rw [em]
      rintro e W' (⟨h1, xs, h2, h3, h4⟩ | h1)
      · exact .inl ⟨h1, xs, h2, h3, hk.trans h4⟩
      · exact .inr h1
    clear HIH
    have HGO := Lib.hid GO
    clear GO
    rw [HBL.out] at ho hcap hl20 hbl hlen ⊢
    have hdd : ∀ k : Nat, (Fence.wide.depth.isSome = true → 1 ≤ k) := fun k h => by cases h
    rcases Nat.eq_zero_or_pos lo with h00 | h00
    · have hhn : hi < n := by omega
      subst h00
      have HF : Hid (f = 0 + (n - (hi + 1))) := Lib.hid (by omega)
      have HG : Hid (genR n (f + 1) 0 hi = (genR n f 0 (hi + 1)).map (hi :: ·)) := Lib.hid (by rw [genR, if_neg (by omega), if_pos hhn, List.nil_append])
      have HM : Hid ((genR n (f + 1) 0 hi).map (begun ++ ·) = (genR n f 0 (hi + 1)).map (fun r => begun ++ hi :: r)) := Lib.hid (by rw [HG.out, List.map_map]; rfl)
      rw [HM.out]
      clear hf
      refine callsIn_of_wp Try.func109 rfl trivial ?_ rfl
      simp only [Try.ntmps109, List.size_toArray, List.length_cons, List.length_nil, Nat.reduceAdd, Nat.reduceSub, Array.replicate_succ, Array.replicate_zero, List.push_toArray, List.append_toArray, List.nil_append, List.cons_append]
      gi_wp2
      refine ⟨trivial, ?_⟩
      gi_wp2_with (refine push_full_num_in (by kernel_rfl) (.tmp 62) (.tmp 64) rfl B1 D bl cc (ofN begun) rfl (ho.alloc _) ⟨W.heap.size, 0, none⟩ 1 (hi : Int) rfl (cell_new1 _ _ _) (by omega) ?_; intro g3 cap3 w3 ho3 hgr3)
      have hcall := HGO.out 0 (hi + 1) hi (m - 1) pre W w3 g3 cap3 HF.out (by omega) (by omega) hw h0 (by have := HN.out; rw [HG.out, List.length_map] at this; exact this) (fun r hr => HALL.out _ (by rw [HG.out]; exact List.mem_map.2 ⟨r, hr, rfl⟩)) hB1 ho3 hgr3
      refine ⟨trivial, hdd _, ?_⟩
      refine hcall.mono ?_
      rintro e W' (⟨rfl, h1⟩ | ⟨rfl, h1⟩)
      · gi_wp2
        go_ret
        exact .inl ⟨rfl, h1⟩
      · gi_wp2
        go_ret
        exact .inr ⟨rfl, h1⟩
    · obtain ⟨q, rfl⟩ : ∃ q, lo = q + 1 := ⟨lo - 1, by omega⟩
      have HF : Hid (f = q + (n - hi)) := Lib.hid (by omega)
      obtain ⟨R2, HR2⟩ : ∃ R2, Hid ((if hi < n then (genR n f (q + 1) (hi + 1)).map (hi :: ·) else []) = R2) := ⟨_, Lib.hid rfl⟩
      have HG : Hid (genR n (f + 1) (q + 1) hi = (genR n f q hi).map (q :: ·) ++ R2) := Lib.hid (by rw [genR, if_pos (by omega), Nat.add_sub_cancel, HR2.out])
      have HM : Hid ((genR n (f + 1) (q + 1) hi).map (begun ++ ·) = (genR n f q hi).map (fun r => begun ++ q :: r) ++ R2.map (begun ++ ·)) := Lib.hid (by rw [HG.out, List.map_append, List.map_map]; rfl)
      rw [HM.out]
      have HN1 : Hid (pre.length + (genR n f q hi).length + R2.length ≤ N) := Lib.hid (by have := HN.out; rw [HG.out, List.length_append, List.length_map] at this; omega)
      clear hf
      have hq1 : ((q + 1 : Nat) : Int) = (q : Int) + 1 := rfl
      rw [hq1]
      clear hq1
      refine callsIn_of_wp Try.func109 rfl trivial ?_ rfl
      simp only [Try.ntmps109, List.size_toArray, List.length_cons, List.length_nil, Nat.reduceAdd, Nat.reduceSub, Array.replicate_succ, Array.replicate_zero, List.push_toArray, List.append_toArray, List.nil_append, List.cons_append]
      gi_wp2_with (refine push_full_num_in (by kernel_rfl) (.tmp 35) (.tmp 38) rfl B1 D bl cc (ofN begun) rfl (ho.alloc _) ⟨W.heap.size, 0, none⟩ 1 (q : Int) rfl (cell_new1 _ _ _) (by omega) ?_; intro g3 cap3 w3 ho3 hgr3)
      have hcall := HGO.out q hi q (m - 1) pre W w3 g3 cap3 HF.out (by omega) (by omega) hw h0 (by have := HN1.out; omega) (fun r hr => HALL.out _ (by rw [HG.out]; exact List.mem_append_left _ (List.mem_map.2 ⟨r, hr, rfl⟩))) hB1 ho3 hgr3
      refine ⟨trivial, hdd _, ?_⟩
      refine hcall.mono ?_
      clear hcall
      rintro e W2 (⟨rfl, xs, hxs, hJ2, hk2⟩ | ⟨rfl, xs, hxs, hJ2⟩)
      · have hw2 := hw.below hk2.below
        have k2 := hw2.c1
        have ho2 := hk2.oj ho
        have hs2 : B1 ≤ W2.heap.size := Nat.le_trans hB1 hk2.size
        have HXS := Lib.hid hxs
        clear hxs k1 ho hgr3 ho3
        rcases Nat.lt_or_ge hi n with hhn | hhn
        · have HR3 : Hid (R2 = (genR n f (q + 1) (hi + 1)).map (hi :: ·)) := Lib.hid (by rw [← HR2.out, if_pos hhn])
          have HXL : Hid ((pre ++ xs).length + (genR n f (q + 1) (hi + 1)).length ≤ N) := Lib.hid (by
            have h1 := HN1.out
            rw [HR3.out, List.length_map] at h1
            have h2 := congrArg List.length HXS.out
            rw [List.length_map, List.length_map] at h2
            rw [List.length_append]
            omega)
          have hne : ((hi : Int) == (n : Int)) = false := by simp; omega
          gi_wp2_with (refine push_full_num_in (by kernel_rfl) (.tmp 62) (.tmp 64) rfl B1 D bl cc (ofN begun) rfl (ho2.alloc _) ⟨W2.heap.size, 0, none⟩ 1 (hi : Int) rfl (cell_new1 _ _ _) (by omega) ?_; intro g4 cap4 w4 ho4 hgr4)
          have hcall := HGO.out (q + 1) (hi + 1) hi (m - 1) (pre ++ xs) W2 w4 g4 cap4 (by have := HF.out; omega) (by omega) (by omega) hw2 hJ2 HXL.out (fun r hr => HALL.out _ (by rw [HG.out, HR3.out]; exact List.mem_append_right _ (List.mem_map.2 ⟨r, hr, rfl⟩))) hs2 ho4 hgr4
          refine ⟨trivial, hdd _, ?_⟩
          refine hcall.mono ?_
          clear hcall
          have HR4 : Hid (R2.map (begun ++ ·) = (genR n f (q + 1) (hi + 1)).map (fun r => begun ++ hi :: r)) := Lib.hid (by rw [HR3.out, List.map_map]; rfl)
          rintro e W' (⟨rfl, ys, hys, hJ3, hk3⟩ | ⟨rfl, ys, hys, hJ3⟩)
          · have HYS := Lib.hid hys
            clear hys
            gi_wp2
            go_ret
            exact .inl ⟨rfl, xs ++ ys, by rw [List.map_append, HXS.out, HYS.out, HR4.out], by rw [← List.append_assoc]; exact hJ3, hk2.trans hk3⟩
          · have HYS := Lib.hid hys
            clear hys
            gi_wp2
            go_ret
            exact .inr ⟨rfl, xs ++ ys, by rw [List.map_append, HXS.out, HR4.out]; exact List.prefix_append_right_inj _ |>.2 HYS.out, by rw [← List.append_assoc]; exact hJ3⟩
        · obtain rfl : hi = n := by omega
          have HR3 : Hid (R2 = []) := Lib.hid (by rw [← HR2.out, if_neg (by omega)])
          gi_wp2
          refine ⟨trivial, ?_⟩
          gi_wp2
          go_ret
          exact .inl ⟨rfl, xs, by rw [HXS.out, HR3.out]; simp, hJ2, hk2⟩
      · have HXS := Lib.hid hxs
        clear hxs
        gi_wp2
        go_ret
        exact .inr ⟨rfl, xs, HXS.out.trans (List.prefix_append _ _), hJ2⟩

set_option maxRecDepth 100000 in
set_option maxHeartbeats 1000000 in
theorem dRounds (p : Value) (hp : ∃ a, p = .pointer a) (w : World) : Calls Try.prog 71 #[p] w fun e w' => e = .returned (.func (.func 108) #[] #[.pointer (some ⟨w.heap.size, 0, none⟩)]) ∧ w.alloc (.cells #[p] 79) = w' := by
  obtain ⟨a, rfl⟩ := hp
  go_enter Try.func71, Try.ntmps71
  go_wp2
  go_ret
  exact ⟨rfl, rfl⟩

set_option maxRecDepth 100000 in
set_option maxHeartbeats 1000000 in
theorem rounds_in (lp bx g n c : Nat) (A : Option Addr) (b : Int) (ps : List (Int × Int)) (B0 B1 BJ : Nat) (HP : Hid (Pier b ps)) (J Jx : List El → World → Prop) (hJ : AbidesFrom BJ J)
    (hY : ∀ m pre x W, J pre W → Rr B1 (allR b ps) x W → pre.length < (allR b ps).length → YieldAt Fence.wide m Try.prog lp x.enc W fun e W' => (e = .returned (.bool true) ∧ J (pre ++ [x]) W' ∧ Kr B0 B1 W W') ∨ (e = .returned (.bool false) ∧ Jx (pre ++ [x]) W'))
    (W : World) (hbx : W.cell? ⟨bx, 0, none⟩ = some (.pointer (some ⟨g, 0, none⟩))) (hw : Wk W B0 g A n c b ps) (h0 : J [] W) (hB01 : B0 ≤ B1) (hB1 : B1 ≤ W.heap.size) :
    Calls Try.prog 108 #[.func (.yield lp) #[] #[], .pointer (some ⟨bx, 0, none⟩)] W fun e W' => (∃ v, e = .returned v) ∧
      ((∃ xs : List El, xs.map El.l = allR b ps ∧ J xs W') ∨ (∃ pre : List El, pre.map El.l <+: allR b ps ∧ Jx pre W')) := by
  have HL := Lib.hid hw.rp.len
  have hn10 : n ≤ 10 := by have := HP.out.hi; have := HL.out; omega
  have hq := lefts_le b ps
  rw [HL.out] at hq
  have k2 := hw.c2
  have HALL : Hid (allR b ps = genR n n (lefts b ps) (lefts b ps)) := Lib.hid (by rw [← HL.out]; rfl)
  obtain ⟨q, HQ⟩ : ∃ q, Hid (lefts b ps = q) := ⟨_, Lib.hid rfl⟩
  rw [HQ.out] at hq k2 HALL
  have hwd : Wk W.drew B0 g A n c b ps := hw.drewN 1
  have hJd : J [] W.drew := hJ [] W _ none h0 (grown_drew W) (fun r e => by cases e)
  have hcall := fun m => goOn_in lp g n c A b ps B0 B1 BJ (allR b ps).length (allR b ps) hn10 J Jx hJ hY n q q m [] none 0 [] W.drew (by omega) hq hq (by simp) hwd (Oj.nil_ _ _) hJd (by rw [HALL.out]; simp) (fun r hr => by rw [HALL.out]; exact hr) (by simp; omega) hB01 hB1
  have hcall2 := callsIn_wide.1 (hcall 0)
  clear hY hJ hcall
  have d0 : W.drew.cell? ⟨bx, 0, none⟩ = some (.pointer (some ⟨g, 0, none⟩)) := hbx
  have d1 : W.drew.cell? ⟨g, 2, none⟩ = some (.int .i64 (q : Int)) := k2
  go_enter Try.func108, Try.ntmps108
  refine wp_region_still_tail 10 (by kernel_rfl) (by kernel_rfl) ?_
  simp only [List.take_succ_cons, List.take_zero, List.drop_succ_cons, List.drop_zero]
  change wpStill _ _ W.drew _ _ _
  iterate 10 still_step
  refine wpStill_nil ?_
  go_wp2_with fail
  refine hcall2.mono ?_
  clear hcall2
  rintro e W' (⟨rfl, xs, h1, h2, h3⟩ | ⟨rfl, xs, h1, h2⟩)
  · have H1 := Lib.hid h1
    clear h1
    go_wp2
    go_end0
    exact ⟨⟨_, rfl⟩, .inl ⟨xs, by rw [H1.out, HALL.out]; simp, h2⟩⟩
  · have H1 := Lib.hid h1
    clear h1
    go_wp2
    go_end0
    exact ⟨⟨_, rfl⟩, .inr ⟨xs, by have := H1.out; rw [HALL.out]; simpa using this, h2⟩⟩
theorem rounds_seq (m bx g n c B0 : Nat) (A : Option Addr) (b : Int) (ps : List (Int × Int)) (w : World) (HP : Hid (Pier b ps)) (hbx : Bk w bx 79 #[.pointer (some ⟨g, 0, none⟩)]) (hw : Wk w B0 g A n c b ps) (hB0 : B0 ≤ w.heap.size) :
    SeqR Fence.wide m Try.prog 108 #[.pointer (some ⟨bx, 0, none⟩)] El.enc (Kr B0 w.heap.size) (Rr w.heap.size (allR b ps)) (fun xs => xs.map El.l = allR b ps) (fun pre => pre.map El.l <+: allR b ps) (allR b ps).length w :=
  fun l J Jx W hW hJ _ hY h0 => callsIn_wide.2 (rounds_in l bx g n c A b ps B0 w.heap.size W.heap.size HP J Jx hJ (fun k pre x V h1 h2 h3 => YieldAt.anyDepth rfl k (hY pre x V h1 h2 h3)) W
    ((hW.cell (p := ⟨bx, 0, none⟩) hbx.lt).trans (hbx.cell 0)) (hw.below' hW hB0) h0 hB0 hW.size)
end Go.Proofs.Ytaekjnjignlmoaa

namespace Go.Proofs.Ytaekjnjignlmoaa
open Go.RowKit Go.Shelf

/-- Of the blocks that were there only those of X have changed. -/
structure Chg (X : Nat → Prop) (V V' : World) : Prop where
  os : V'.os = V.os
  tape : V'.tape = V.tape
  output : V'.output = V.output
  size : V.heap.size ≤ V'.heap.size
  block : ∀ k, k < V.heap.size → ¬ X k → V'.heap[k]? = V.heap[k]?
section
variable {X : Nat → Prop} {A B C : World}
theorem Chg.refl (X : Nat → Prop) (A : World) : Chg X A A := ⟨rfl, rfl, rfl, Nat.le_refl _, fun _ _ _ => rfl⟩
theorem Chg.trans (h : Chg X A B) (k : Chg X B C) : Chg X A C :=
  ⟨k.os.trans h.os, k.tape.trans h.tape, k.output.trans h.output, Nat.le_trans h.size k.size, fun i hi hx => (k.block i (Nat.lt_of_lt_of_le hi h.size) hx).trans (h.block i hi hx)⟩
theorem Chg.grown (h : Chg X A B) {row : Option Nat} (hg : B.grownBy C row) (hr : ∀ r, row = some r → X r ∨ A.heap.size ≤ r) : Chg X A C :=
  ⟨hg.os.trans h.os, hg.tape.trans h.tape, hg.output.trans h.output, Nat.le_trans h.size hg.size, fun i hi hx => (hg.block i (Nat.lt_of_lt_of_le hi h.size) (fun e => by
    rcases hr i e.symm with h1 | h1
    · exact hx h1
    · omega)).trans (h.block i hi hx)⟩
theorem Chg.alloc (h : Chg X A B) (o : Obj) : Chg X A (B.alloc o) := h.grown (World.grownBy_alloc B o none) (fun r e => by cases e)
theorem Chg.drewN (h : Chg X A B) (k : Nat) : Chg X A (B.drewN k) := h.grown (grown_drewN B k) (fun r e => by cases e)
theorem Chg.drew (h : Chg X A B) : Chg X A B.drew := h.grown (grown_drew B) (fun r e => by cases e)
theorem Chg.setCell (h : Chg X A B) {p : Addr} (hp : X p.block ∨ A.heap.size ≤ p.block) (u : Value) : Chg X A (B.setCell p u) := h.grown (grown_set B p u) (fun r e => by cases e; exact hp)
theorem Chg.below (h : Chg X A B) {K : Nat} (hb : Below K B C) (hK : A.heap.size ≤ K) : Chg X A C :=
  ⟨hb.os.trans h.os, hb.tape.trans h.tape, hb.output.trans h.output, Nat.le_trans h.size hb.size, fun i hi hx => (hb.block i (by omega)).trans (h.block i hi hx)⟩
theorem Chg.toBelow (h : Chg X A B) {K : Nat} (hK : ∀ k, X k → K ≤ k) (hs : K ≤ A.heap.size) : Below K A B := ⟨h.os, h.tape, h.output, h.size, fun i hi => h.block i (by omega) (fun hx => by have := hK i hx; omega)⟩
theorem Chg.keeps (h : Chg X A B) (K : Nat) (hX : ∀ k, X k → ∃ o : Obj, A.heap[k]? = some o ∧ o.isCells = true) : KeepsFrom K A B :=
  ⟨h.size, fun k o _ hk hc => (h.block k (Array.getElem?_eq_some_iff.1 hk).1 (fun hx => by
    obtain ⟨o2, h1, h2⟩ := hX k hx
    rw [hk] at h1
    cases h1
    rw [hc] at h2
    cases h2)).trans hk⟩
theorem Chg.kr (h : Chg X A B) {B0 B1 : Nat} (hB0 : ∀ k, X k → B0 ≤ k) (hs : B0 ≤ A.heap.size) (hX : ∀ k cs, X k → B1 ≤ k → ¬ Bk A k 3 cs) : Kr B0 B1 A B :=
  ⟨h.toBelow hB0 hs, fun k cs hk hb => (h.block k hb.lt (fun hx => hX k cs hx hk hb)).trans hb⟩
theorem Chg.bk (h : Chg X A B) {k : Nat} {t : TypeId} {cs : Array Value} (hb : Bk A k t cs) (hx : ¬ X k) : Bk B k t cs := (h.block k hb.lt hx).trans hb
theorem Chg.mono {X' : Nat → Prop} (h : Chg X A B) (hX : ∀ k, k < A.heap.size → X k → X' k) : Chg X' A B := ⟨h.os, h.tape, h.output, h.size, fun k hk hx => h.block k hk (fun h' => hx (hX k hk h'))⟩
theorem Chg.oi (h : Chg X A B) {base n c : Nat} {D : Option Addr} {xs : List Int} (ho : Oi A base D n c xs) (hx : ∀ k, D.map Addr.block = some k → ¬ X k) : Oi B base D n c xs := by
  refine ⟨ho.1, ?_⟩
  rcases ho.2 with h1 | ⟨g, cap, cur, h1, h2, h3, h4⟩
  · exact .inl h1
  · have hD : D = some ⟨g, 0, none⟩ := by injection h1
    subst hD
    exact .inr ⟨g, cap, cur, h1, h2, h.bk h3 (hx g rfl), h4⟩
theorem Chg.oj (h : Chg X A B) {base n c : Nat} {D : Option Addr} {xs : List Int} (ho : Oj A base D n c xs) (hx : ∀ k, D.map Addr.block = some k → ¬ X k) : Oj B base D n c xs := by
  refine ⟨ho.1, ?_⟩
  rcases ho.2 with h1 | ⟨g, cap, cur, h1, h2, h3, h4⟩
  · exact .inl h1
  · have hD : D = some ⟨g, 0, none⟩ := by injection h1
    subst hD
    exact .inr ⟨g, cap, cur, h1, h2, h.bk h3 (hx g rfl), h4⟩
end

set_option maxRecDepth 100000 in
/-- The range over all rounds of a pier. -/
theorem rounds_range {gop : Operand} {pt : Tmp} {assign body : Code} {Q : Exit → Act → World → Prop} {a : Act} {w : World} (bx g n c B0 : Nat) (A : Option Addr) (b : Int) (ps : List (Int × Int))
    (hg : a.eval gop = .func (.func 108) #[] #[.pointer (some ⟨bx, 0, none⟩)]) (HP : Hid (Pier b ps)) (hbx : Bk w bx 79 #[.pointer (some ⟨g, 0, none⟩)]) (hw : Wk w B0 g A n c b ps) (hB0 : B0 ≤ w.heap.size)
    (I : List El → World → Prop) (Ix : Code → List El → World → Prop) (hI : OwnFrom w.heap.size I) (hIx : ∀ c, OwnFrom w.heap.size (Ix c)) (h0 : I [] w) (a₁ : El → Act)
    (hassign : ∀ (l : Nat) (x : El) (W : World) (K : Act → World → Prop), K (a₁ x) W →
      assign.wpIn (Fence.wide.inRound l) 3 Try.prog (Exit.then K (fun _ _ _ => False)) { tmps := a.tmps.setIfInBounds pt (.slice x.A x.l.length x.c), defers := [] } W)
    (hbody : ∀ (l : Nat) (pre : List El) (x : El) (W : World), I pre W → Rr w.heap.size (allR b ps) x W → pre.length < (allR b ps).length → body.wpIn (Fence.wide.inRound l) 3 Try.prog (ownPostG w.heap.size (Kr B0 w.heap.size) I Ix (pre ++ [x]) W) (a₁ x) W)
    (hdone : ∀ (D : Nat) (xs : List El) (W : World), w.heap.size ≤ D → xs.map El.l = allR b ps → I xs W → W.heap[D]? = some (.deferred (some [])) → Q .normal { a with defers := { target := .collected D, args := #[] } :: a.defers } W)
    (hstop : ∀ (D : Nat) (c : Code) (pre : List El) (W : World), w.heap.size ≤ D → pre.map El.l <+: allR b ps → Ix c pre W → W.heap[D]? = some (.deferred (some [])) → c.wp Try.prog Q { a with defers := { target := .collected D, args := #[] } :: a.defers } W) :
    (Code.rangeFunc gop #[pt] assign body).wp Try.prog Q a w := by
  refine (wpIn_wide (n := 5)).1 ?_
  refine wpIn_rangeFunc_ready rfl (by decide) (gf := 108) (lb := #[.pointer (some ⟨bx, 0, none⟩)]) hg trivial (enters_of Try.func108 (by kernel_rfl) rfl)
    (rounds_seq (5 - 1) bx g n c B0 A b ps w HP hbx hw hB0) (fun h k => h.trans k) (fun W' l o o' hl ho hc _ => Kr.putObj o' (Nat.le_trans hB0 hl) ho hc) (fun x W' l o o' _ ho hc hr => Rr.putObj o' ho hc hr)
    (Below.refl _ _) (fun _ => rfl) I Ix hI hIx h0 a₁ ?_ hbody hdone (fun D c' pre W h1 h2 h3 h4 => wpIn_wide.2 (hstop D c' pre W h1 h2 h3 h4))
  intro l x W K hK
  have e : (#[pt].zip x.enc).foldl (fun t (p : Tmp × Value) => match p with | (p, v) => t.setIfInBounds p v) a.tmps = a.tmps.setIfInBounds pt (.slice x.A x.l.length x.c) := by simp [El.enc]
  rw [e]
  exact hassign l x W K hK
end Go.Proofs.Ytaekjnjignlmoaa
