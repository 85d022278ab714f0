/-
  A window into a row of ints that the call itself makes: a queue.
-/
import Derived.Test.YtibmpjhffeinoaaGreatLs
import Derived.ArgAppend
import Derived.Maps.AppendAt
namespace Go.Proofs.YtibmpjhffeinoaaGreat
open Go.RowKit Go.Shelf

/-- A part of an own row of ints, up to its end; not in block gx. -/
structure Win (w : World) (base gx : Nat) (A : Option Addr) (n c : Nat) (xs : List Int) : Prop where
  len : xs.length = n
  le : n ≤ c
  nn : A = none → c = 0
  bk : 0 < c → ∃ g off cs, A = some ⟨g, off, none⟩ ∧ base ≤ g ∧ g ≠ gx ∧ Bk w g 3 cs ∧ off + c = cs.size ∧ ∀ (j : Nat) (x : Int), xs[j]? = some x → cs[off + j]? = some (.int .i64 x)
section
variable {w w' : World} {base gx gx' n c : Nat} {A : Option Addr} {xs : List Int} {x : Int}
theorem Win.kept {row : Option Nat} (h : Win w base gx A n c xs) (hg : w.grownBy w' row) (hr : row = none ∨ row = some gx) : Win w' base gx A n c xs := ⟨h.len, h.le, h.nn, fun hc => by
  obtain ⟨g, off, cs, e, h1, h2, h3, h4⟩ := h.bk hc
  refine ⟨g, off, cs, e, h1, h2, h3.grown hg ?_, h4⟩
  rcases hr with rfl | rfl
  · simp
  · simpa using h2⟩
theorem Win.away (h : Win w base gx A n c xs) (hg : w.heap.size ≤ gx') : Win w base gx' A n c xs := ⟨h.len, h.le, h.nn, fun hc => by
  obtain ⟨g, off, cs, e, h1, h2, h3, h4⟩ := h.bk hc
  exact ⟨g, off, cs, e, h1, fun e' => by have := h3.lt; omega, h3, h4⟩⟩
theorem Win.kept2 (h : Win w base gx A n c xs) (hg : w.grownBy w' (some gx)) (hx : gx' = gx ∨ gx' = w.heap.size) : Win w' base gx' A n c xs := ⟨h.len, h.le, h.nn, fun hc => by
  obtain ⟨g, off, cs, e, h1, h2, h3, h4⟩ := h.bk hc
  have := h3.lt
  exact ⟨g, off, cs, e, h1, by omega, h3.grown hg (by simpa using h2), h4⟩⟩
theorem Win.alloc (h : Win w base gx A n c xs) (o : Obj) : Win (w.alloc o) base gx A n c xs := h.kept (row := none) (World.grownBy_alloc w o none) (.inl rfl)
theorem Win.below (h : Win w base gx A n c xs) (hb : Below w.heap.size w w') : Win w' base gx A n c xs := ⟨h.len, h.le, h.nn, fun hc => by
  obtain ⟨g, off, cs, e, h1, h2, h3, h4⟩ := h.bk hc
  exact ⟨g, off, cs, e, h1, h2, h3.below hb h3.lt, h4⟩⟩
theorem Win.head (h : Win w base gx A n c (x :: xs)) : ∃ a, A = some a ∧ w.cell? a = some (.int .i64 x) := by
  have hl := h.len
  have hle := h.le
  simp only [List.length_cons] at hl
  obtain ⟨g, off, cs, e, h1, h2, h3, h4, h5⟩ := h.bk (by omega)
  refine ⟨_, e, ?_⟩
  rw [h3.cell]
  have := h5 0 x rfl
  rwa [Nat.add_zero] at this
/-- What is left behind the first one, where there is room behind it. -/
theorem Win.tail {a : Addr} (h : Win w base gx (some a) (n + 1) (c + 1) (x :: xs)) (hc : 0 < c) : Win w base gx (some (a.add 1)) n c xs := ⟨by have := h.len; simpa using this, by have := h.le; omega, fun e => (by cases e), fun _ => by
  obtain ⟨g, off, cs, e, h1, h2, h3, h4, h5⟩ := h.bk (by omega)
  cases e
  refine ⟨g, off + 1, cs, rfl, h1, h2, h3, by omega, fun j y hj => ?_⟩
  have := h5 (j + 1) y hj
  rwa [show off + (j + 1) = off + 1 + j from by omega] at this⟩
theorem Win.empty (a : Addr) : Win w base gx (some a) 0 0 [] := ⟨rfl, Nat.le_refl _, fun e => (by cases e), fun h => absurd h (Nat.lt_irrefl _)⟩
theorem Win.own {v : Value} (h : w.ownsRow base 3 1 v n (ints xs)) (hn : 0 < n) (hx : gx < base ∨ w.heap.size ≤ gx) : ∃ A c, v = .slice A n c ∧ Win w base gx A n c xs := by
  have hl := h.1
  rw [ints_length, Nat.mul_one] at hl
  rcases h.2 with ⟨_, h0⟩ | ⟨g, cap, cur, rfl, h1, h2, h3, _, h4, h5⟩
  · omega
  · have hlt : g < w.heap.size := (Array.getElem?_eq_some_iff.1 h2).1
    refine ⟨_, cap, rfl, hl, h3, fun e => (by cases e), fun _ => ⟨g, 0, cur, rfl, h1, by omega, h2, by omega, fun j y hj => ?_⟩⟩
    rw [Nat.mul_one] at h5
    have hj2 : (ints xs)[j]? = some (.int .i64 y) := by unfold ints; rw [List.getElem?_map, hj]; rfl
    rw [← h5, List.getElem?_take] at hj2
    split at hj2
    · rw [Nat.zero_add, ← Array.getElem?_toList]
      exact hj2
    · cases hj2
end
theorem setCell_grown (w : World) (p : Addr) (u : Value) : w.grownBy (w.setCell p u) (some p.block) := ⟨rfl, rfl, rfl, by simp [World.setCell], fun k _ hk => Below.heap_setCell w p u k (fun e => hk (by rw [e]))⟩
/-- 'wait = append(wait, x)'. -/
theorem push_win {w : World} {ops : Array Oper} {rest : List Oper} {o : Oper} {a : Act} {Q : Exit → Act → World → Prop} (hgd : o.guard = none) (s x : Operand)
    (ho : o.op = .call { callee := .builtin .append, args := #[s, x], argTypes := #[35, 35] })
    (base gx : Nat) (A : Option Addr) (n c : Nat) (xs : List Int) (hs : a.eval s = .slice A n c) (hw : Win w base gx A n c xs)
    (ad : Addr) (c' : Nat) (z : Int) (hx : a.eval x = .slice (some ad) 1 c') (hz : w.cell? ad = some (.int .i64 z)) (hlen : n < 1099511627776) (hbase : base ≤ w.heap.size) (hgx : gx < w.heap.size)
    (h : ∀ A' c2 w' row, Win w' base gx A' (n + 1) c2 (xs ++ [z]) → w.grownBy w' row → (∀ g, row = some g → base ≤ g ∧ g ≠ gx) → wpList Tryz.prog ops Q rest (a.put o.dst (.slice A' (n + 1) c2)) w') : wpList Tryz.prog ops Q (o :: rest) a w := by
  obtain ⟨i0, hi, hz0, hz1, hz2⟩ := info_parts info_num
  have hm : n + 1 ≤ maxLen := by unfold maxLen; omega
  have hl : (ints xs).length = n * 1 := by rw [ints_length, hw.len, Nat.mul_one]
  have hnews : ∀ (j : Nat) u, ([Value.int .i64 z])[j]? = some u → w.cell? (ad.add j) = some u := fun j u hj => by
    match j, hj with
    | 0, hj => simp at hj; subst hj; exact hz
  have hone : ∀ u ∈ [Value.int .i64 z], u.oneCell' = true := by simp [Value.oneCell']
  have key : ∀ v' w', w'.ownsRow w.heap.size 3 1 v' (n + 1) (ints xs ++ [.int .i64 z]) → w.grownBy w' none → wpList Tryz.prog ops Q rest (a.put o.dst v') w' := fun v' w' hown hg => by
    rw [show ints xs ++ [.int .i64 z] = ints (xs ++ [z]) from by rw [ints_append]; rfl] at hown
    obtain ⟨A', c2, rfl, hwin⟩ := Win.own (gx := gx) hown (by omega) (.inl hgx)
    refine h A' c2 w' none ⟨hwin.len, hwin.le, hwin.nn, fun hc => ?_⟩ hg fun g e => by cases e
    obtain ⟨g, off, cs, e, h1, h2⟩ := hwin.bk hc
    exact ⟨g, off, cs, e, by omega, h2⟩
  by_cases hc : c = 0
  · subst hc
    have hn0 : n = 0 := by have := hw.le; omega
    subst hn0
    have hx0 : xs = [] := List.eq_nil_of_length_eq_zero hw.len
    subst hx0
    exact wpList_append_grows w hgd s x _ ho 3 i0 _ 1 8 under_nums hi hz0 hz1 hz2 rfl (by decide) A 0 0 [] hs (fun _ => ⟨rfl, rfl⟩) rfl (fun b _ j u hj => by simp at hj) ad 1 c' [.int .i64 z] hx rfl hnews hone (by omega) hm (by omega) key
  · obtain ⟨g, off, cs, rfl, h1, h2, h3, h4, h5⟩ := hw.bk (by omega)
    refine wpList_append_arg w hgd s x _ ho 3 i0 _ 1 8 under_nums hi hz0 hz1 hz2 rfl (by decide) g off n c (ints xs) hs hl (fun j u hj => ?_) ad 1 c' [.int .i64 z] hx rfl hnews hone (fun hr j hj => ?_) hm (by omega) (fun hr => ?_) (fun _ v' w' hown hg => key v' w' hown hg)
    · unfold ints at hj
      rw [List.getElem?_map, Option.map_eq_some_iff] at hj
      obtain ⟨y, h6, rfl⟩ := hj
      rw [h3.cell]
      exact h5 j y h6
    · have hj0 : j = 0 := by simpa using hj
      subst hj0
      refine ⟨?_, h3.frozen _⟩
      rw [h3.cell, Array.getElem?_eq_getElem (by omega)]
      rfl
    · rw [Nat.mul_one]
      show wpList Tryz.prog ops Q rest _ (w.setCell ⟨g, off + n, none⟩ (.int .i64 z))
      refine h _ c _ (some g) ⟨by simp [hw.len], by omega, fun e => (by cases e), fun _ => ⟨g, off, cs.setIfInBounds (off + n) (.int .i64 z), rfl, h1, h2, h3.set_ _ _, by simp [h4], fun j y hj => ?_⟩⟩ (setCell_grown _ _ _) fun g' e => by cases e; exact ⟨h1, h2⟩
      by_cases hjn : j = n
      · subst hjn
        rw [List.getElem?_append_right (by rw [hw.len]; omega), hw.len, Nat.sub_self] at hj
        simp at hj
        subst hj
        rw [Array.getElem?_setIfInBounds_self_of_lt (by omega)]
      · have hjl : j < n := by
          have := (List.getElem?_eq_some_iff.1 hj).1
          rw [List.length_append, hw.len] at this
          simp at this
          omega
        rw [List.getElem?_append_left (by rw [hw.len]; exact hjl)] at hj
        rw [Array.getElem?_setIfInBounds_ne (by omega)]
        exact h5 j y hj
/-- 'out = append(out, x)', and where it lies. -/
theorem push_at {w : World} {ops : Array Oper} {rest : List Oper} {o : Oper} {a : Act} {Q : Exit → Act → World → Prop} (hgd : o.guard = none) (s x : Operand)
    (ho : o.op = .call { callee := .builtin .append, args := #[s, x], argTypes := #[35, 35] })
    (base gx : Nat) (n c : Nat) (xs : List Int) (hs : a.eval s = .slice (some ⟨gx, 0, none⟩) n c) (hown : Oj w base (some ⟨gx, 0, none⟩) n c xs)
    (ad : Addr) (c' : Nat) (z : Int) (hx : a.eval x = .slice (some ad) 1 c') (hz : w.cell? ad = some (.int .i64 z)) (hlen : n < 1099511627776) (hbase : base ≤ w.heap.size)
    (h : ∀ g cap w', Oj w' base (some ⟨g, 0, none⟩) (n + 1) cap (xs ++ [z]) → w.grownBy w' (some gx) → (g = gx ∨ g = w.heap.size) → wpList Tryz.prog ops Q rest (a.put o.dst (.slice (some ⟨g, 0, none⟩) (n + 1) cap)) w') : wpList Tryz.prog ops Q (o :: rest) a w := by
  obtain ⟨i0, hi, hz0, hz1, hz2⟩ := info_parts info_num
  have hm : n + 1 ≤ maxLen := by unfold maxLen; omega
  refine wpList_append_own_at w hgd s x _ ho base _ i0 _ 1 8 under_nums hi hz0 hz1 hz2 rfl (by decide) _ n (ints xs) hs hown ad 1 c' [.int .i64 z] hx rfl ?_ (by simp [Value.oneCell']) hm (by omega) hbase ?_
  · intro j u hj
    match j, hj with
    | 0, hj => simp at hj; subst hj; exact hz
  · intro v' w' hown' hgrow _ hloc
    obtain ⟨g, cap, hv, _, _⟩ := hown'.form (by omega)
    subst hv
    refine h g cap w' ?_ hgrow ?_
    · unfold Oj; rw [ints_append]; exact hown'
    · simpa [Value.ownBlock] using hloc
end Go.Proofs.YtibmpjhffeinoaaGreat
