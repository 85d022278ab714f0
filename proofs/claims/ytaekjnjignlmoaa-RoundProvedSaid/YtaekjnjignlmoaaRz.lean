/-
  Stores and appends inside a round, and inside a region that draws its order; lists in boxes.
  Rows of rows inside a round.
-/
import Derived.Test.YtaekjnjignlmoaaIt
import Derived.Test.YtaekjnjignlmoaaSq
import Derived.Deep.DrawnRows
namespace Go.Proofs.Ytaekjnjignlmoaa
open Go.RowKit Go.Shelf

/-- An append of one int, at an operation of a region that draws its order. -/
theorem step_push {ops : Array Oper} {o : Oper} {a : Act} {K : Act → World → Prop} {Q : Exit → Act → World → Prop} {E : Prop} {W : World} (hgd : o.guard = none) (s x : Operand)
    (ho : o.op = .call { callee := .builtin .append, args := #[s, x], argTypes := #[28, 28] })
    (base : Nat) (A : Option Addr) (n c : Nat) (xs : List Int) (hs : a.eval s = .slice A n c) (hown : Oi W base A n c xs) (ad : Addr) (c' : Nat) (z : Int) (hx : a.eval x = .slice (some ad) 1 c')
    (hz : W.cell? ad = some (.int .i64 z)) (hn : n < 1099511627776) (hbase : base ≤ W.heap.size)
    (hK : ∀ g cap W', Oi W' base (some ⟨g, 0, none⟩) (n + 1) cap (xs ++ [z]) → W.grownBy W' (A.map Addr.block) → K (a.put o.dst (.slice (some ⟨g, 0, none⟩) (n + 1) cap)) W') :
    if Region.wanted o (yielded ops a.tmps) = true then Oper.wp Try.prog o a W K Q else E := by
  obtain ⟨i0, hi, hz0, hz1, hz2⟩ := info_parts info_int
  have hm : n + 1 ≤ maxLen := by unfold maxLen; omega
  refine step_append_lies (P := Try.prog) W hgd s x 28 ho base 2 i0 (.int .i64 0) 1 8 under_ints hi hz0 hz1 hz2 rfl (by decide) _ n (ints xs) hs hown ad 1 c' [.int .i64 z] hx rfl (by
    intro j u hj
    match j, hj with
    | 0, hj => simp at hj; subst hj; exact hz) (by simp [Value.oneCell']) (by decide) hm (by omega) hbase _ rfl ?_
  intro g cap w' hown' hgrow _ _
  refine hK g cap w' ?_ ?_
  · unfold Oi; rw [ints_append]; exact hown'
  · cases A <;> exact hgrow

theorem wp_push_full {w : World} {o : Oper} {a : Act} {K : Act → World → Prop} {Q : Exit → Act → World → Prop} (s x : Operand)
    (ho : o.op = .call { callee := .builtin .append, args := #[s, x], argTypes := #[28, 28] })
    (base : Nat) (A : Option Addr) (n c : Nat) (xs : List Int) (hs : a.eval s = .slice A n n) (hown : Oi w base A n c xs)
    (ad : Addr) (c' : Nat) (z : Int) (hx : a.eval x = .slice (some ad) 1 c') (hz : w.cell? ad = some (.int .i64 z)) (hlen : n < 1099511627776)
    (h : ∀ g cap w', Oi w' w.heap.size (some ⟨g, 0, none⟩) (n + 1) cap (xs ++ [z]) → w.grownBy w' none → K (a.put o.dst (.slice (some ⟨g, 0, none⟩) (n + 1) cap)) w') : Oper.wp Try.prog o a w K Q := by
  obtain ⟨i0, hi, hz0, hz1, hz2⟩ := info_parts info_int
  have hri := hown.ri
  have hlx := hown.len
  have key : ∃ v' w', (Builtin.append_ #[28, 28] o.type #[.slice A n n, .slice (some ad) 1 c']).run Try.prog w = .ok v' w' ∧ w'.ownsRow w.heap.size 2 1 v' (n + 1) (ints xs ++ [.int .i64 z]) ∧ w.grownBy w' none := by
    have hnews : ∀ j u, ([Value.int .i64 z] : List Value)[j]? = some u → w.cell? (ad.add j) = some u := fun j u hj => by
      match j, hj with
      | 0, hj => simp at hj; subst hj; exact hz
    cases A with
    | some b =>
      obtain ⟨v', w', hrun, r1, r2⟩ := run_append_arg_grows (P := Try.prog) w _ o.type _ i0 _ 1 8 under_ints hi hz0 hz1 hz2 rfl (by decide) b n n (ints xs) (by rw [ints_length, hlx]; omega) (fun j u hj => by
        have hjn : j < n := by
          have := (List.getElem?_eq_some_iff.1 hj).1
          rw [ints_length, hlx] at this
          exact this
        obtain ⟨ad', y, hA, _, hc, hy, _⟩ := hri.at_ hjn
        cases hA
        rw [ints, List.getElem?_map, hy.out] at hj
        cases hj
        exact hc) ad 1 c' [.int .i64 z] rfl hnews (by omega) (by unfold maxLen; omega) (by omega)
      exact ⟨v', w', hrun, r1, r2⟩
    | none =>
      have h0 : n = 0 := by
        rcases hown.2 with ⟨_, h'⟩ | ⟨g', cap', cur, h', _⟩
        · simp_all
        · cases h'
      subst h0
      obtain rfl : xs = [] := List.eq_nil_of_length_eq_zero hlx
      obtain ⟨v', w', hrun, r1, r2, _⟩ := run_append_own (P := Try.prog) w w.heap.size _ o.type _ i0 _ 1 8 under_ints hi hz0 hz1 hz2 rfl (by decide) (.slice none 0 0) 0 [] (World.ownsRow_nil w _ _ _) ad 1 c' [.int .i64 z] rfl hnews (by simp [Value.oneCell']) (by unfold maxLen; omega) (by omega) (Nat.le_refl _)
      exact ⟨v', w', hrun, r1, r2⟩
  obtain ⟨v', w', hrun, hown', hgrow⟩ := key
  obtain ⟨g, cap, hv, _, _⟩ := hown'.form (by omega)
  subst hv
  unfold Oper.wp
  simp [execOp, ho, resolve, invoke, builtin, hs, hx, hrun, Result.andThen]
  refine h g cap w' ?_ hgrow
  unfold Oi
  rw [ints_append]
  exact hown'
theorem step_push_full {w : World} {ops : Array Oper} {o : Oper} {a : Act} {K : Act → World → Prop} {Q : Exit → Act → World → Prop} {E : Prop} (hwd : Region.wanted o (yielded ops a.tmps) = true) (s x : Operand)
    (ho : o.op = .call { callee := .builtin .append, args := #[s, x], argTypes := #[28, 28] })
    (base : Nat) (A : Option Addr) (n c : Nat) (xs : List Int) (hs : a.eval s = .slice A n n) (hown : Oi w base A n c xs)
    (ad : Addr) (c' : Nat) (z : Int) (hx : a.eval x = .slice (some ad) 1 c') (hz : w.cell? ad = some (.int .i64 z)) (hlen : n < 1099511627776)
    (h : ∀ g cap w', Oi w' w.heap.size (some ⟨g, 0, none⟩) (n + 1) cap (xs ++ [z]) → w.grownBy w' none → K (a.put o.dst (.slice (some ⟨g, 0, none⟩) (n + 1) cap)) w') :
    if Region.wanted o (yielded ops a.tmps) = true then Oper.wp Try.prog o a w K Q else E := by
  rw [if_pos hwd]
  exact wp_push_full s x ho base A n c xs hs hown ad c' z hx hz hlen h
theorem store_steps_in {F : Fence} {nF : Nat} {w : World} {ops : Array Oper} {rest : List Oper} {o : Oper} {a : Act} {Q : Exit → Act → World → Prop} (hgd : o.guard = none) (x y : Operand) (ho : o.op = .store 85 x y)
    (k : Nat) (L M : List Int) (hx : a.eval x = .pointer (some ⟨k, 0, none⟩)) (hy : a.eval y = .agg (arr10 L)) (hb : Bk w k 85 (arr10 M))
    (h : ∀ w', Bk w' k 85 (arr10 L) → Below k w w' → w'.heap.size = w.heap.size → wpListIn F nF Try.prog ops Q rest (a.put o.dst undef) w') : wpListIn F nF Try.prog ops Q (o :: rest) a w := by
  refine wpListIn_plain hgd fun K hK => ?_
  refine ⟨fun f hf => ?_, ?_⟩
  · simp [Oper.about, ho] at hf
  · rw [Oper.semAt_eq _ _ _ (by simp [ho])]
    unfold execOp
    simp only [ho, hx, hy, Instr.storeAt, Instr.sureAddr, Sem.run_bind, Sem.run_pure, Result.andThen_ok, run_storeVar_row (P := Try.prog) w k _ 85 (arr10 M) (arr10 L) hb (by kernel_rfl) rfl (arr10_one L)]
    exact hK _ _ (h _ (hb.setRow _) (below_setRow _ (Nat.le_refl _) (Below.refl _ _)) (setRow_size _ _ _))
theorem load_steps_in {F : Fence} {nF : Nat} {w : World} {ops : Array Oper} {rest : List Oper} {o : Oper} {a : Act} {Q : Exit → Act → World → Prop} (hw : Region.wanted o (yielded ops a.tmps) = true) (x : Operand) (ho : o.op = .load 85 x)
    (k : Nat) {L : List Int} (hx : a.eval x = .pointer (some ⟨k, 0, none⟩)) (hb : Bk w k 85 (arr10 L))
    (h : wpListIn F nF Try.prog ops Q rest (a.put o.dst (.agg (arr10 L))) w) : wpListIn F nF Try.prog ops Q (o :: rest) a w := by
  refine BigFrame.wpListIn_want hw fun K hK => ?_
  refine ⟨fun f hf => ?_, ?_⟩
  · simp [Oper.about, ho] at hf
  · rw [Oper.semAt_eq _ _ _ (by simp [ho])]
    rw [exec_load_row x ho k hx hb]
    exact hK _ _ h
theorem cell_old {W : World} {a : Addr} {v : Value} (o : Obj) (h : W.cell? a = some v) : (W.alloc o).cell? a = some v := (World.cell?_alloc_lt W o a (World.block_lt_of_cell? W a h)).trans h
/-- Block P is the box of a list of the call's own. -/
def OutP (base P : Nat) (L : List Int) (W : World) : Prop := ∃ (A : Option Addr) (c : Nat), Bk W P 28 #[.slice A L.length c] ∧ Oi W base A L.length c L
theorem outP_from {β : Type} (B base P : Nat) (L : β → List Int) : OwnFrom B (fun s W => OutP base P (L s) W) := fun s A C row hs hg hr => by
  obtain ⟨A', c', h1, h2⟩ := hs
  exact ⟨A', c', Bk.from_ (β := Unit) _ _ _ _ () A C row h1 hg hr, Oi.from_ (β := Unit) _ _ _ _ _ _ () A C row h2 hg hr⟩
end Go.Proofs.Ytaekjnjignlmoaa

namespace Go.Proofs.Ytaekjnjignlmoaa
open Go.RowKit Go.Shelf

theorem own_from {β : Type} (B base : Nat) (e : TypeId) (size n : Nat) (v : Value) (xs : List Value) : OwnFrom B (fun (_ : β) W => W.ownsRow base e size v n xs) := fun s W W' row hs hg hr => by
  refine World.ownsRow.kept hs hg ?_
  rcases hs.2 with ⟨rfl, _⟩ | ⟨g, cap, cur, rfl, _, hg', _⟩
  · exact .inl rfl
  · refine .inr fun e0 => ?_
    obtain ⟨_, o, ho, hc⟩ := hr g (by rw [← e0]; rfl)
    rw [hg'] at ho
    cases ho
    cases hc
theorem Rowsj_.from_ {β : Type} (B base m : Nat) (vs : List Value) (Ls : List (List Int)) : OwnFrom B (fun (_ : β) W => Rowsj_ W base m vs Ls) := fun _s W W' row hs hg hr => hs.mono fun _g c L h => Oj.from_ (β := Unit) B base m c _ L () W W' row h hg hr
theorem RRj.from_ {β : Type} (B base n c m : Nat) (A : Option Addr) (Ls : List (List Int)) : OwnFrom B (fun (_ : β) W => RRj W base A n c m Ls) := fun s W W' row hs hg hr => by
  obtain ⟨vs, h1, h2⟩ := hs
  exact ⟨vs, own_from (β := Unit) B base _ _ _ _ _ () W W' row h1 hg hr, Rowsj_.from_ (β := Unit) B base m vs Ls () W W' row h2 hg hr⟩
theorem Chg.own {X : Nat → Prop} {A B : World} (h : Chg X A B) {base size n : Nat} {e : TypeId} {v : Value} {xs : List Value} (ho : A.ownsRow base e size v n xs) (hx : ∀ k, v.ownBlock = some k → ¬ X k) : B.ownsRow base e size v n xs := by
  refine ⟨ho.1, ?_⟩
  rcases ho.2 with h1 | ⟨g, cap, cur, rfl, h2, h3, h4⟩
  · exact .inl h1
  · exact .inr ⟨g, cap, cur, rfl, h2, h.bk h3 (hx g rfl), h4⟩
theorem Chg.rrj {X : Nat → Prop} {A B : World} (h : Chg X A B) {base n c m : Nat} {D : Option Addr} {Ls : List (List Int)} (ho : RRj A base D n c m Ls) (hx : ∀ k, D.map Addr.block = some k → ¬ X k) (hr : ∀ k cs, Bk A k 3 cs → ¬ X k) : RRj B base D n c m Ls := by
  obtain ⟨vs, h1, h2⟩ := ho
  refine ⟨vs, h.own h1 (fun k e => hx k (by cases D <;> simp_all [Value.ownBlock])), h2.mono fun g c' L h' => h.oj h' (fun k e => ?_)⟩
  obtain ⟨o, h3, h4⟩ := h'.cells e
  rcases h'.2 with ⟨h5, _⟩ | ⟨g', cap', cur, h5, _, h6, _⟩
  · cases h5
  · have hA : (some ⟨g, 0, none⟩ : Option Addr) = some ⟨g', 0, none⟩ := by injection h5
    cases hA
    cases e
    exact hr _ _ h6
theorem RRj.bk_ne {W : World} {base n c m k : Nat} {A : Option Addr} {Ls : List (List Int)} {t : TypeId} {cs : Array Value} (h : RRj W base A n c m Ls) (hk : Bk W k t cs) (ht : t ≠ 25) : some k ≠ A.map Addr.block := by
  obtain ⟨vs, h1, _⟩ := h
  cases A with
  | none => simp
  | some ad =>
    intro e
    rcases h1.2 with ⟨h', _⟩ | ⟨g', cap', cur, h', _, hg', _⟩
    · cases h'
    · have hA : ad = ⟨g', 0, none⟩ := by injection h' with h1; injection h1
      subst hA
      have : k = g' := by simpa using e
      subst this
      rw [show W.heap[k]? = _ from hk] at hg'
      injection hg' with h2
      injection h2 with _ h3
      exact ht h3
theorem RRj.cells {w : World} {base n c m k : Nat} {A : Option Addr} {Ls : List (List Int)} (h : RRj w base A n c m Ls) (hk : A.map Addr.block = some k) : ∃ o : Obj, w.heap[k]? = some o ∧ o.isCells = true := by
  obtain ⟨vs, h1, _⟩ := h
  rcases h1.2 with ⟨h', _⟩ | ⟨g', cap', cur, h', _, hg', _⟩
  · cases h'
    cases hk
  · have hA : A = some ⟨g', 0, none⟩ := by injection h'
    subst hA
    cases hk
    exact ⟨_, hg', rfl⟩
theorem RRj.setOther {W : World} {base n c m : Nat} {A : Option Addr} {Ls : List (List Int)} (h : RRj W base A n c m Ls) {p : Addr} {t : TypeId} {cs : Array Value} (hk : Bk W p.block t cs) (h1 : t ≠ 3) (h2 : t ≠ 25) (u : Value) : RRj (W.setCell p u) base A n c m Ls :=
  Chg.rrj (X := fun k => k = p.block) (Chg.setCell (X := fun k => k = p.block) (Chg.refl _ W) (.inl rfl) u) h (fun k e hx => h.bk_ne hk h2 (by rw [e, hx])) (fun k cs' hb hx => by
    subst hx
    have := hk.symm.trans hb
    injection this with h3
    injection h3 with _ h4
    exact h1 h4)
theorem RRj.cap {w : World} {base n c m : Nat} {A : Option Addr} {Ls : List (List Int)} (h : RRj w base A n c m Ls) : n ≤ c := by
  obtain ⟨vs, h1, _⟩ := h
  rcases h1.2 with ⟨h', h2⟩ | ⟨g', cap', cur, h', _, _, h4, _⟩
  · cases h'; omega
  · cases h'; exact h4
theorem RRj.nil_ (w : World) (base m : Nat) : RRj w base none 0 0 m [] := ⟨[], World.ownsRow_nil _ _ _ _, rfl, fun i L h => by simp at h⟩
section
variable {F : Fence} {nF : Nat} {w : World} {ops : Array Oper} {rest : List Oper} {o : Oper} {a : Act} {Q : Exit → Act → World → Prop}
/-- 'out = append(out, row)'. -/
theorem push_rowj_in (hgd : o.guard = none) (s x : Operand)
    (ho : o.op = .call { callee := .builtin .append, args := #[s, x], argTypes := #[61, 61] })
    (base : Nat) (A : Option Addr) (n c m : Nat) (Ls : List (List Int)) (hs : a.eval s = .slice A n c) (hown : RRj w base A n c m Ls)
    (ad : Addr) (c1 : Nat) (g0 c0 : Nat) (L : List Int) (hx : a.eval x = .slice (some ad) 1 c1) (hz : w.cell? ad = some (.slice (some ⟨g0, 0, none⟩) m c0)) (hrow : Oj w base (some ⟨g0, 0, none⟩) m c0 L) (hlen : n < 1048576) (hbase : base ≤ w.heap.size)
    (h : ∀ g cap w', RRj w' base (some ⟨g, 0, none⟩) (n + 1) cap m (Ls ++ [L]) → w.grownBy w' (A.map Addr.block) → wpListIn F nF Try.prog ops Q rest (a.put o.dst (.slice (some ⟨g, 0, none⟩) (n + 1) cap)) w') : wpListIn F nF Try.prog ops Q (o :: rest) a w := by
  obtain ⟨i0, hi, hz0, hz1, hz2⟩ := info_parts info_rowj
  have hll := hown.len
  obtain ⟨vs, h1, h2⟩ := hown
  have hm : n + 1 ≤ maxLen := by unfold maxLen; omega
  refine wpListIn_append_own w hgd s x _ ho base _ i0 _ 1 24 under_rowsj hi hz0 hz1 hz2 rfl (by decide) _ n vs hs h1 ad 1 c1 [.slice (some ⟨g0, 0, none⟩) m c0] hx rfl ?_ (by simp [Value.oneCell']) hm (by omega) hbase ?_
  · intro j u hj
    match j, hj with
    | 0, hj => simp at hj; subst hj; exact hz
  · intro v' w' hown' hgrow _
    obtain ⟨g, cap, hv, _, _⟩ := hown'.form (by omega)
    subst hv
    have hgr : w.grownBy w' (A.map Addr.block) := by cases A <;> exact hgrow
    refine h g cap w' ⟨_, hown', ?_⟩ hgr
    have hk : ∀ (g c' : Nat) (L : List Int), Oj w base (some ⟨g, 0, none⟩) m c' L → Oj w' base (some ⟨g, 0, none⟩) m c' L := fun g c' L hO => by
      refine hO.kept hgr ?_
      rcases own_ne hO h1 (by decide) with h3 | h3
      · exact .inl h3
      · refine .inr fun e => h3 ?_
        cases A with
      | none => simp at e
      | some ad => simpa [Value.ownBlock] using e
    refine ⟨by simp [h2.1], fun i L' hL => ?_⟩
    rcases Nat.lt_or_ge i Ls.length with hi3 | hi3
    · rw [List.getElem?_append_left hi3] at hL
      obtain ⟨g1, c1', h5, h6⟩ := h2.2 i L' hL
      exact ⟨g1, c1', by rw [List.getElem?_append_left (by rw [h2.1]; exact hi3)]; exact h5, hk _ _ _ h6⟩
    · have hi4 : i = Ls.length := by
        have := (List.getElem?_eq_some_iff.1 hL).1
        simp at this
        omega
      subst hi4
      simp at hL
      subst hL
      exact ⟨g0, c0, by rw [← h2.1]; simp, hk _ _ _ hrow⟩
end
end Go.Proofs.Ytaekjnjignlmoaa
