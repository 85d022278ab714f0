/-
  'append' of ints at a step of a region that draws its order.
-/
import Derived.Test.YtkeiajncmhkdmaaBase
import Derived.Deep.RegionHeld3
import Derived.Deep.DrawnRows
namespace Go.Proofs.Ytkeiajncmhkdmaa
open Go.RowKit

theorem wp_push_ints {w : World} {o : Oper} {a : Act} {K : Act → World → Prop} {Q : Exit → Act → World → Prop} (s x : Operand)
    (ho : o.op = .call { callee := .builtin .append, args := #[s, x], argTypes := #[22, 22] })
    (base : Nat) (A : Option Addr) (n c : Nat) (xs : List Int) (hs : a.eval s = .slice A n c) (hown : Oi w base A n c xs)
    (B : Nat) (D : Option Addr) (m c' : Nat) (ys : List Int) (hx : a.eval x = .slice D m c') (hy : Ri w B D m ys) (hlen : n < 549755813888) (hlen2 : m < 549755813888) (hbase : base ≤ w.heap.size)
    (h : ∀ A' cap w', Oi w' base A' (n + m) cap (xs ++ ys) → w.grownBy w' (A.map Addr.block) → K (a.put o.dst (.slice A' (n + m) cap)) w') : Oper.wp Try.prog o a w K Q := by
  obtain ⟨i0, hi, hz0, hz1, hz2⟩ := info_parts info_int
  rcases D with _ | ad
  · have hm : m = 0 := by
      rcases Nat.eq_zero_or_pos m with h0 | h0
      · exact h0
      · obtain ⟨ad, h, _⟩ := hy.2 h0
        cases h
    subst hm
    have hn : ys = [] := List.eq_nil_of_length_eq_zero hy.len
    subst hn
    have hrun := run_append_none (P := Try.prog) w base _ o.type _ i0 1 under_ints hi (.slice A n c) n (ints xs) hown c'
    unfold Oper.wp
    simp only [execOp, ho, resolve, invoke]
    simp [builtin, hs, hx, hrun, Result.andThen]
    refine h A c w ?_ (World.grownBy.refl w _)
    simpa using hown
  · have hm : n + m ≤ maxLen := by unfold maxLen; omega
    refine wp_append_own w s x _ ho base _ i0 _ 1 8 under_ints hi hz0 hz1 hz2 rfl (by decide) _ n (ints xs) hs hown ad m c' (ints ys) hx hy.1 ?_ (ints_oneCell _ _) hm (by omega) hbase ?_
    · intro j u hj
      rcases Nat.eq_zero_or_pos m with h0 | h0
      · subst h0
        have : ys = [] := List.eq_nil_of_length_eq_zero hy.len
        subst this
        simp [ints] at hj
      · obtain ⟨ad', e, _, hc⟩ := hy.2 h0
        obtain rfl := Option.some.inj e
        obtain ⟨hl, rfl⟩ := List.getElem?_eq_some_iff.1 hj
        exact hc j hl
    · intro v' w' hown' hgrow _
      have hv : ∃ A' cap, v' = .slice A' (n + m) cap := by
        rcases hown'.2 with ⟨rfl, h0⟩ | ⟨g, cap, cur, rfl, _⟩
        · exact ⟨none, 0, by rw [h0]⟩
        · exact ⟨_, cap, rfl⟩
      obtain ⟨A', cap, rfl⟩ := hv
      refine h A' cap w' ?_ ?_
      · unfold Oi; rw [ints_append]; exact hown'
      · cases A <;> exact hgrow
theorem step_push_ints {w : World} {ops : Array Oper} {o : Oper} {a : Act} {K : Act → World → Prop} {Q : Exit → Act → World → Prop} {E : Prop} (hgd : o.guard = none) (s x : Operand)
    (ho : o.op = .call { callee := .builtin .append, args := #[s, x], argTypes := #[22, 22] })
    (base : Nat) (A : Option Addr) (n c : Nat) (xs : List Int) (hs : a.eval s = .slice A n c) (hown : Oi w base A n c xs)
    (B : Nat) (D : Option Addr) (m c' : Nat) (ys : List Int) (hx : a.eval x = .slice D m c') (hy : Ri w B D m ys) (hlen : n < 549755813888) (hlen2 : m < 549755813888) (hbase : base ≤ w.heap.size)
    (h : ∀ A' cap w', Oi w' base A' (n + m) cap (xs ++ ys) → w.grownBy w' (A.map Addr.block) → K (a.put o.dst (.slice A' (n + m) cap)) w') :
    if Region.wanted o (yielded ops a.tmps) = true then Oper.wp Try.prog o a w K Q else E := by
  have hw : Region.wanted o (yielded ops a.tmps) = true := by simp [Region.wanted, hgd]
  rw [if_pos hw]
  exact wp_push_ints s x ho base A n c xs hs hown B D m c' ys hx hy hlen hlen2 hbase h
end Go.Proofs.Ytkeiajncmhkdmaa
