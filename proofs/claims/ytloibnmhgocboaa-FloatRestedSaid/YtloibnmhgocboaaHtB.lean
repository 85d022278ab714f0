/-
  What the body of a range over a function leaves as it was; appends inside a fence.
-/
import Derived.Test.YtloibnmhgocboaaPay
import Derived.ArgAppend
namespace Go.Proofs.Ytloibnmhgocboaa
open Go.RowKit Go.Shelf

structure Kb (B0 p q : Nat) (A B : World) : Prop where
  others : KeepsOthers A B
  below : Below B0 A B
  one : B.heap[p]? = A.heap[p]?
  two : B.heap[q]? = A.heap[q]?
section
variable {B0 p q : Nat} {A B C : World}
theorem Kb.refl (B0 p q : Nat) (A : World) : Kb B0 p q A A := ⟨⟨Nat.le_refl _, fun _ _ h _ => h⟩, Below.refl _ _, rfl, rfl⟩
theorem Kb.kp (h : Kb B0 p q A B) : Kp B0 p q A B := ⟨h.others.walks, h.below, h.one, h.two⟩
theorem Kb.grow (h : Kb B0 p q A B) {row : Option Nat} (hg : B.grownBy C row) (hs : B0 ≤ B.heap.size) (hp : p < B.heap.size) (hq : q < B.heap.size) (hr : ∀ r, row = some r → B0 ≤ r ∧ r ≠ p ∧ r ≠ q ∧ ∃ o : Obj, B.heap[r]? = some o ∧ o.isCells = true) : Kb B0 p q A C := by
  refine ⟨⟨Nat.le_trans h.others.size hg.size, fun k o hk ho => ?_⟩, h.below.grown hg hs fun k e => (hr k e).1, ?_, ?_⟩
  · have hB := h.others.same k o hk ho
    refine (hg.block k (Array.getElem?_eq_some_iff.1 hB).1 fun e => ?_).trans hB
    obtain ⟨_, _, _, o', h1, h2⟩ := hr k e.symm
    rw [hB] at h1
    cases h1
    rw [ho] at h2
    cases h2
  · exact (hg.block p hp fun e => (hr p e.symm).2.1 rfl).trans h.one
  · exact (hg.block q hq fun e => (hr q e.symm).2.2.1 rfl).trans h.two
theorem grown_set (w : World) (a : Addr) (u : Value) : w.grownBy (w.setCell a u) (some a.block) := ⟨rfl, rfl, rfl, by simp [World.setCell], fun k _ hk => Below.heap_setCell w a u k (fun e => hk (by rw [e]))⟩
end
theorem Oi.cells {w : World} {base n c k : Nat} {A : Option Addr} {xs : List Int} (h : Oi w base A n c xs) (hk : A.map Addr.block = some k) : ∃ o : Obj, w.heap[k]? = some o ∧ o.isCells = true := by
  rcases h.2 with ⟨h', _⟩ | ⟨g', cap', cur, h', _, hg', _⟩
  · cases h'
    cases hk
  · have hA : A = some ⟨g', 0, none⟩ := by injection h'
    subst hA
    cases hk
    exact ⟨_, hg', rfl⟩
theorem Bk.cells {W : World} {k : Nat} {t : TypeId} {cs : Array Value} (h : Bk W k t cs) : ∃ o : Obj, W.heap[k]? = some o ∧ o.isCells = true := ⟨_, h, rfl⟩
section
variable {F : Fence} {nF : Nat} {w : World} {ops : Array Oper} {rest : List Oper} {o : Oper} {a : Act} {Q : Exit → Act → World → Prop}
theorem push_in (hgd : o.guard = none) (s x : Operand)
    (ho : o.op = .call { callee := .builtin .append, args := #[s, x], argTypes := #[22, 22] })
    (base : Nat) (A : Option Addr) (n c : Nat) (xs : List Int) (hs : a.eval s = .slice A n c) (hown : Oi w base A n c xs)
    (ad : Addr) (c' : Nat) (z : Int) (hx : a.eval x = .slice (some ad) 1 c') (hz : w.cell? ad = some (.int .i64 z)) (hlen : n < 1099511627776) (hbase : base ≤ w.heap.size)
    (h : ∀ g cap w', Oi w' base (some ⟨g, 0, none⟩) (n + 1) cap (xs ++ [z]) → w.grownBy w' (A.map Addr.block) → wpListIn F nF Try.prog ops Q rest (a.put o.dst (.slice (some ⟨g, 0, none⟩) (n + 1) cap)) w') : wpListIn F nF Try.prog ops Q (o :: rest) a w := by
  obtain ⟨i0, hi, hz0, hz1, hz2⟩ := info_parts info_int
  have hm : n + 1 ≤ maxLen := by unfold maxLen; omega
  refine wpListIn_append_own w hgd s x _ ho base _ i0 _ 1 8 under_ints hi hz0 hz1 hz2 rfl (by decide) _ n (ints xs) hs hown ad 1 c' [.int .i64 z] hx rfl ?_ (by simp [Value.oneCell']) hm (by omega) hbase ?_
  · intro j u hj
    match j, hj with
    | 0, hj => simp at hj; subst hj; exact hz
  · intro v' w' hown' hgrow _
    obtain ⟨g, cap, hv, _, _⟩ := hown'.form (by omega)
    subst hv
    refine h g cap w' ?_ ?_
    · unfold Oi; rw [ints_append]; exact hown'
    · cases A <;> exact hgrow
/-- 'append(l[:len(l):len(l)], x)': a new row. -/
theorem push_full_in (hgd : o.guard = none) (s x : Operand)
    (ho : o.op = .call { callee := .builtin .append, args := #[s, x], argTypes := #[22, 22] })
    (base : Nat) (A : Option Addr) (n c : Nat) (xs : List Int) (hs : a.eval s = .slice A n n) (hown : Oi w base A n c xs)
    (ad : Addr) (c' : Nat) (z : Int) (hx : a.eval x = .slice (some ad) 1 c') (hz : w.cell? ad = some (.int .i64 z)) (hlen : n < 1099511627776)
    (h : ∀ g cap w', Oi w' w.heap.size (some ⟨g, 0, none⟩) (n + 1) cap (xs ++ [z]) → w.grownBy w' none → wpListIn F nF Try.prog ops Q rest (a.put o.dst (.slice (some ⟨g, 0, none⟩) (n + 1) cap)) w') : wpListIn F nF Try.prog ops Q (o :: rest) a w := by
  obtain ⟨i0, hi, hz0, hz1, hz2⟩ := info_parts info_int
  have hri := hown.ri
  have hlx := hown.len
  refine wpListIn_plain hgd fun K hK' => ?_
  have key : ∃ v' w', (Builtin.append_ #[22, 22] o.type #[.slice A n n, .slice (some ad) 1 c']).run Try.prog w = .ok v' w' ∧ w'.ownsRow w.heap.size 2 1 v' (n + 1) (ints xs ++ [.int .i64 z]) ∧ w.grownBy w' none := by
    have hnews : ∀ j u, ([Value.int .i64 z] : List Value)[j]? = some u → w.cell? (ad.add j) = some u := fun j u hj => by
      match j, hj with
      | 0, hj => simp at hj; subst hj; exact hz
    cases A with
    | some b =>
      obtain ⟨v', w', hrun, r1, r2⟩ := run_append_arg_grows (P := Try.prog) w _ o.type _ i0 _ 1 8 under_ints hi hz0 hz1 hz2 rfl (by decide) b n n (ints xs) (by rw [ints_length, hlx]; omega) (fun j u hj => by
        have hjn : j < n := by
          have := (List.getElem?_eq_some_iff.1 hj).1
          rw [ints_length, hlx] at this
          exact this
        obtain ⟨ad', y, hA, _, hc, hy, _⟩ := hri.at_ hjn
        cases hA
        rw [ints, List.getElem?_map, hy.out] at hj
        cases hj
        exact hc) ad 1 c' [.int .i64 z] rfl hnews (by omega) (by unfold maxLen; omega) (by omega)
      exact ⟨v', w', hrun, r1, r2⟩
    | none =>
      have h0 : n = 0 := by
        rcases hown.2 with ⟨_, h'⟩ | ⟨g', cap', cur, h', _⟩
        · simp_all
        · cases h'
      subst h0
      obtain rfl : xs = [] := List.eq_nil_of_length_eq_zero hlx
      obtain ⟨v', w', hrun, r1, r2, _⟩ := run_append_own (P := Try.prog) w w.heap.size _ o.type _ i0 _ 1 8 under_ints hi hz0 hz1 hz2 rfl (by decide) (.slice none 0 0) 0 [] (World.ownsRow_nil w _ _ _) ad 1 c' [.int .i64 z] rfl hnews (by simp [Value.oneCell']) (by unfold maxLen; omega) (by omega) (Nat.le_refl _)
      exact ⟨v', w', hrun, r1, r2⟩
  obtain ⟨v', w', hrun, hown', hgrow⟩ := key
  obtain ⟨g, cap, hv, _, _⟩ := hown'.form (by omega)
  subst hv
  unfold Oper.wpIn
  refine ⟨?_, ?_⟩
  · simp [Oper.about, ho, resolve, Target.leads, Sem.run_pure]
  · rw [Oper.semAt_plain F _ _ (by rw [ho]; intro c hc'; cases hc')]
    simp [execOp, ho, resolve, invoke, builtin, hs, hx, hrun, Result.andThen]
    refine hK' _ _ (h g cap w' ?_ hgrow)
    unfold Oi
    rw [ints_append]
    exact hown'
end
end Go.Proofs.Ytloibnmhgocboaa
