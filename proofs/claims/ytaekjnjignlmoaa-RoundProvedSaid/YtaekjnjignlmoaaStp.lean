/-
  Rows of stops of the call's own.
-/
import Derived.Test.YtaekjnjignlmoaaWd
import Derived.Test.YtaekjnjignlmoaaRz
import Derived.Deep.AppendLies
namespace Go.Proofs.Ytaekjnjignlmoaa
open Go.RowKit

theorem info_stop : (Try.prog.info? 67).map (fun i => (i.zero, i.size, i.bytes)) = some (some (.agg #[.int .i64 0, .int .i64 0]), 2, 16) := by kernel_rfl
theorem under_stops : Try.prog.underlying 22 = some (.slice 67) := by kernel_rfl
theorem pv_append (ps : List (Int × Int)) (x y : Int) : pv (ps ++ [(x, y)]) = pv ps ++ [.int .i64 x, .int .i64 y] := by
  induction ps with
  | nil => rfl
  | cons p ps ih => simp only [List.cons_append, pv, ih]
/-- Stops of the call's own. -/
def Os (w : World) (base : Nat) (A : Option Addr) (n c : Nat) (ps : List (Int × Int)) : Prop := w.ownsRow base 67 2 (.slice A n c) n (pv ps)
section
variable {w w' : World} {base n c : Nat} {A : Option Addr} {ps : List (Int × Int)}
theorem Os.rp (h : Os w base A n c ps) : Rp w w.heap.size A n ps := Rd.of_own h
theorem Os.len (h : Os w base A n c ps) : ps.length = n := h.rp.len
theorem Os.nil_ (w : World) (base : Nat) : Os w base none 0 0 [] := World.ownsRow_nil _ _ _ _
theorem Os.lt (h : Os w base A n c ps) (k : Nat) (hk : A.map Addr.block = some k) : base ≤ k ∧ k < w.heap.size := World.ownsRow.lt h k (by cases A <;> simp_all [Value.ownBlock])
theorem Os.kept {row : Option Nat} (h : Os w base A n c ps) (hg : w.grownBy w' row) (hne : A.map Addr.block = none ∨ A.map Addr.block ≠ row) : Os w' base A n c ps :=
  World.ownsRow.kept h hg (by cases A <;> simp_all [Value.ownBlock])
theorem Os.alloc (h : Os w base A n c ps) (o : Obj) : Os (w.alloc o) base A n c ps := World.ownsRow.alloc h o
theorem Os.drew (h : Os w base A n c ps) : Os w.drew base A n c ps := h
theorem Os.drewN (h : Os w base A n c ps) (k : Nat) : Os (w.drewN k) base A n c ps := h
theorem Os.below (h : Os w base A n c ps) (hb : Below w.heap.size w w') : Os w' base A n c ps :=
  Os.kept (row := none) h ⟨hb.os, hb.tape, hb.output, hb.size, fun k hk _ => hb.block k hk⟩ (by cases A <;> simp)
theorem Os.cap (h : Os w base A n c ps) : n ≤ c := by
  rcases h.2 with ⟨h', h2⟩ | ⟨g', cap', cur, h', _, _, h4, _⟩
  · cases h'; omega
  · cases h'; exact h4
theorem Os.bk_ne {k : Nat} {t : TypeId} {cs : Array Value} (h : Os w base A n c ps) (hk : Bk w k t cs) (ht : t ≠ 67) : some k ≠ A.map Addr.block := by
  rcases h.2 with ⟨h', h2⟩ | ⟨g', cap', cur, h', _, h3, _⟩
  · cases h'; simp
  · cases h'
    intro e
    have e2 : k = g' := by simpa using e
    subst e2
    unfold Bk at hk
    rw [hk] at h3
    injection h3 with h4
    injection h4 with _ h5
    exact ht h5
theorem Os.setOther (h : Os w base A n c ps) {p : Addr} (hp : some p.block ≠ A.map Addr.block) (u : Value) : Os (w.setCell p u) base A n c ps :=
  Os.kept (row := some p.block) h ⟨rfl, rfl, rfl, by simp [World.setCell], fun k _ hk => Below.heap_setCell w p u k (fun e => hk (by rw [e]))⟩ (by
    cases A with
    | none => exact .inl rfl
    | some a => exact .inr (fun e => hp e.symm))
end
theorem Os.base {w : World} {base base' n c : Nat} {A : Option Addr} {ps : List (Int × Int)} (h : Os w base A n c ps) (hB : base' ≤ base) : Os w base' A n c ps := own_base h hB
/-- 'append' of a stop, as an operation of a region that draws its order. -/
theorem step_stop {ops : Array Oper} {o : Oper} {a : Act} {K : Act → World → Prop} {Q : Exit → Act → World → Prop} {E : Prop} {W : World} (hgd : o.guard = none) (s x : Operand)
    (ho : o.op = .call { callee := .builtin .append, args := #[s, x], argTypes := #[22, 22] })
    (base : Nat) (A : Option Addr) (n c : Nat) (ps : List (Int × Int)) (hs : a.eval s = .slice A n c) (hown : Os W base A n c ps) (ad : Addr) (c' : Nat) (y z : Int) (hx : a.eval x = .slice (some ad) 1 c')
    (hy : W.cell? ad = some (.int .i64 y)) (hz : W.cell? (ad.add 1) = some (.int .i64 z)) (hn : n < 1099511627776) (hbase : base ≤ W.heap.size)
    (hK : ∀ g cap W', Os W' base (some ⟨g, 0, none⟩) (n + 1) cap (ps ++ [(y, z)]) → W.grownBy W' (A.map Addr.block) → K (a.put o.dst (.slice (some ⟨g, 0, none⟩) (n + 1) cap)) W') :
    if Region.wanted o (yielded ops a.tmps) = true then Oper.wp Try.prog o a W K Q else E := by
  obtain ⟨i0, hi, hz0, hz1, hz2⟩ := info_parts info_stop
  have hm : n + 1 ≤ maxLen := by unfold maxLen; omega
  refine step_append_lies (P := Try.prog) W hgd s x 22 ho base 67 i0 (.agg #[.int .i64 0, .int .i64 0]) 2 16 under_stops hi hz0 hz1 hz2 rfl (by decide) _ n (pv ps) hs hown ad 1 c' [.int .i64 y, .int .i64 z] hx rfl (by
    intro j u hj
    match j, hj with
    | 0, hj => simp at hj; subst hj; exact hy
    | 1, hj => simp at hj; subst hj; exact hz) (by simp [Value.oneCell']) (by decide) hm (by omega) hbase _ rfl ?_
  intro g cap w' hown' hgrow _ _
  refine hK g cap w' ?_ ?_
  · unfold Os; rw [pv_append]; exact hown'
  · cases A <;> exact hgrow
theorem push_stop {w : World} {ops : Array Oper} {rest : List Oper} {o : Oper} {a : Act} {Q : Exit → Act → World → Prop} (hgd : o.guard = none) (s x : Operand)
    (ho : o.op = .call { callee := .builtin .append, args := #[s, x], argTypes := #[22, 22] })
    (base : Nat) (A : Option Addr) (n c : Nat) (ps : List (Int × Int)) (hs : a.eval s = .slice A n c) (hown : Os w base A n c ps)
    (ad : Addr) (c' : Nat) (y z : Int) (hx : a.eval x = .slice (some ad) 1 c') (hy : w.cell? ad = some (.int .i64 y)) (hz : w.cell? (ad.add 1) = some (.int .i64 z)) (hlen : n < 1099511627776) (hbase : base ≤ w.heap.size)
    (h : ∀ g cap w', Os w' base (some ⟨g, 0, none⟩) (n + 1) cap (ps ++ [(y, z)]) → w.grownBy w' (A.map Addr.block) → wpList Try.prog ops Q rest (a.put o.dst (.slice (some ⟨g, 0, none⟩) (n + 1) cap)) w') : wpList Try.prog ops Q (o :: rest) a w := by
  obtain ⟨i0, hi, hz0, hz1, hz2⟩ := info_parts info_stop
  have hm : n + 1 ≤ maxLen := by unfold maxLen; omega
  refine wpList_append_own w hgd s x _ ho base _ i0 _ 2 16 under_stops hi hz0 hz1 hz2 rfl (by decide) _ n (pv ps) hs hown ad 1 c' [.int .i64 y, .int .i64 z] hx rfl ?_ (by simp [Value.oneCell']) hm (by omega) hbase ?_
  · intro j u hj
    match j, hj with
    | 0, hj => simp at hj; subst hj; exact hy
    | 1, hj => simp at hj; subst hj; exact hz
  · intro v' w' hown' hgrow _
    obtain ⟨g, cap, hv, _, _⟩ := hown'.form (by omega)
    subst hv
    refine h g cap w' ?_ ?_
    · unfold Os; rw [pv_append]; exact hown'
    · cases A <;> exact hgrow
end Go.Proofs.Ytaekjnjignlmoaa
