/-
  The map of sums, inside a fence.
-/
import Derived.Test.YtloibnmhgocboaaBk
import Derived.Maps.OwnIn
namespace Go.Proofs.Ytloibnmhgocboaa
open Go.RowKit Go.Maps

section
variable {w w' : World} {b r n cnt : Nat} {f : Int × Int → Option Int} {F : Fence} {nF : Nat}
variable {ops : Array Oper} {rest : List Oper} {o : Oper} {a : Act} {Q : Exit → Act → World → Prop}
theorem Ms.same (h : Ms w b n f) (e : w'.heap[b]? = w.heap[b]?) : Ms w' b n f := by
  obtain ⟨D, ⟨es, c, h1, h2⟩, h3⟩ := h
  exact ⟨D, ⟨es, c, e.trans h1, h2⟩, h3⟩
theorem Ms.walk (h : Ms w b n f) : ∃ o : Obj, w.heap[b]? = some o ∧ o.isWalk = true := let ⟨_, _, h1⟩ := h.obj; ⟨_, h1, rfl⟩
/-- An entry of a map's literal. -/
theorem Ms.insert_in (hg : o.guard = none) (m x v : Operand) (hop : o.op = Op.insert 80 m x v) (p : Int × Int) (c : Int) (hm : a.eval m = .map (some b)) (h : Ms w b n f) (hn : n < 1048576) (hp : in64 p)
    (hc : (Lit.int .i64 c).wf = true) (hx : a.eval x = bkV p) (hv : a.eval v = .int .i64 c) (hK : ∀ w', Ms w' b (n + 1) (upd f p c) → w.grownBy w' (some b) → wpListIn F nF Try.prog ops Q rest (a.put o.dst undef) w') :
    wpListIn F nF Try.prog ops Q (o :: rest) a w := by
  obtain ⟨D, h1, h2⟩ := h
  refine wpListIn_plain hg fun K' hK' => ?_
  obtain ⟨w', hrun, r1, r2⟩ := h1.update bk_law Try.underlying80 (by unfold maxLen; omega) (bk_keyOf hp) (plainElem_int under_e hc)
  unfold Oper.wpIn
  refine ⟨by simp [Oper.about, hop], ?_⟩
  rw [Oper.semAt_plain F _ _ (by rw [hop]; intro c hc'; cases hc')]
  simp [execOp, hop, hm, hx, hv, hrun, Result.andThen]
  exact hK' _ _ (hK w' ⟨_, r1, h2.put_ hp c⟩ r2)
theorem Ms.store_in (hg : o.guard = none) (m x v : Operand) (hop : o.op = Op.mapUpdate 80 m x v) (p : Int × Int) (c : Int) (hm : a.eval m = .map (some b)) (h : Ms w b n f) (hn : n < 1048576) (hp : in64 p)
    (hc : (Lit.int .i64 c).wf = true) (hx : a.eval x = bkV p) (hv : a.eval v = .int .i64 c) (hK : ∀ w', Ms w' b (n + 1) (upd f p c) → w.grownBy w' (some b) → wpListIn F nF Try.prog ops Q rest (a.put o.dst undef) w') :
    wpListIn F nF Try.prog ops Q (o :: rest) a w := by
  obtain ⟨D, h1, h2⟩ := h
  exact wpListIn_mapUpdate_own w hg m x v _ hop 95 2 bk_law Try.underlying80 (plainElem (H := Unit) Try.prog 2) b n D hm h1 (by unfold maxLen; omega) _ _ (bkL p) hx hv (bk_keyOf hp) (.lit (.int .i64 c)) [] (plainElem_int under_e hc)
    (fun w' h3 h4 => hK w' ⟨_, h3, h2.put_ hp c⟩ h4)
theorem Ms.none_in (hg : o.guard = none) (m x : Operand) (hop : o.op = Op.lookup 80 m x true) (hm : a.eval m = .map (some b)) (h : Ms w b n f) (p : Int × Int) (hx : a.eval x = bkV p) (hp : in64 p) (hf : Hid (f p = none))
    (hK : wpListIn F nF Try.prog ops Q rest (a.put o.dst (.tuple #[.int .i64 0, .bool false])) w) : wpListIn F nF Try.prog ops Q (o :: rest) a w := by
  obtain ⟨D, h1, h2⟩ := h
  refine wpListIn_lookup_own_ok_int w hg m x _ hop 95 2 .i64 bk_law Try.underlying80 under_e (zero_e w) b n D hm h1 _ (bkL p) hx (bk_keyOf hp) fun c hat _ => ?_
  have hh := h2.2.1 p hp
  rw [hf.out] at hh
  rw [hh]
  have e3 := atKey_of_not_has hh (.lit (.int .i64 0))
  rw [hat] at e3
  cases e3
  exact hK
theorem Ms.some_in (hg : o.guard = none) (m x : Operand) (hop : o.op = Op.lookup 80 m x true) (hm : a.eval m = .map (some b)) (h : Ms w b n f) (p : Int × Int) (hx : a.eval x = bkV p) (hp : in64 p) (v : Int) (hf : Hid (f p = some v))
    (hK : wpListIn F nF Try.prog ops Q rest (a.put o.dst (.tuple #[.int .i64 v, .bool true])) w) : wpListIn F nF Try.prog ops Q (o :: rest) a w := by
  obtain ⟨D, h1, h2⟩ := h
  refine wpListIn_lookup_own_ok_int w hg m x _ hop 95 2 .i64 bk_law Try.underlying80 under_e (zero_e w) b n D hm h1 _ (bkL p) hx (bk_keyOf hp) fun c hat _ => ?_
  have hh := h2.2.1 p hp
  rw [hf.out] at hh
  rw [hh]
  have := h2.2.2 p v hp hf.out (.lit (.int .i64 0))
  rw [hat] at this
  cases this
  exact hK
theorem Ms.look_in (hg : o.guard = none) (m x : Operand) (hop : o.op = Op.lookup 80 m x true) (hm : a.eval m = .map (some b)) (h : Ms w b n f) (p : Int × Int) (hx : a.eval x = bkV p) (hp : in64 p) (z : Int) (ok : Bool) (hf : Hid (f p = if ok then some z else none)) (hz : Hid (ok = false → z = 0))
    (hK : wpListIn F nF Try.prog ops Q rest (a.put o.dst (.tuple #[.int .i64 z, .bool ok])) w) : wpListIn F nF Try.prog ops Q (o :: rest) a w := by
  cases ok with
  | true => exact Ms.some_in hg m x hop hm h p hx hp z (Lib.hid (by rw [hf.out, if_pos rfl])) hK
  | false =>
    have := hz.out rfl
    subst this
    exact Ms.none_in hg m x hop hm h p hx hp (Lib.hid (by rw [hf.out, if_neg (by decide)])) hK
theorem Ms.delete_in (hg : o.guard = none) (m x : Operand) (hop : o.op = Op.call { callee := Callee.builtin Builtin.delete, args := #[m, x], argTypes := #[80, 95] }) (hm : a.eval m = .map (some b)) (h : Ms w b n f)
    (p : Int × Int) (hx : a.eval x = bkV p) (hp : in64 p) (hK : ∀ w', Ms w' b n (cutP f p) → w.grownBy w' (some b) → wpListIn F nF Try.prog ops Q rest (a.put o.dst (.tuple #[])) w') :
    wpListIn F nF Try.prog ops Q (o :: rest) a w := by
  obtain ⟨D, h1, h2⟩ := h
  exact wpListIn_delete_own w hg m x _ _ hop 2 bk_law Try.underlying80 (plainElem (H := Unit) Try.prog 2) b n D hm h1 _ (bkL p) hx (bk_keyOf hp) fun w' h3 h4 => hK w' ⟨_, h3, h2.del_ hp⟩ h4.grown
end
end Go.Proofs.Ytloibnmhgocboaa
