/-
  The map of blocks: its keys are pairs of numbers, its elements numbers.
-/
import Derived.Test.YtkeiajncmhkdmaaQuiet
import Derived.Test.YtkeiajncmhkdmaaInc
import Derived.DeepKeys4
import Derived.Maps.RangeWalk
import Derived.Maps.Ext
import Derived.Deep.RegionWith
namespace Go.Proofs.Ytkeiajncmhkdmaa
open Go.RowKit Go.Maps

theorem laidOut0 : laidOutB Try.prog = true := by kernel_rfl
theorem bk_wide : (match Try.prog.underlying 88 with | some (.array _ _) | some (.struct _) => true | _ => false) = true := by kernel_rfl
theorem bk_row : (88 : TypeId) < Try.prog.types.size := of_decide_eq_true (by kernel_rfl)
theorem bk_law : Keyed Try.prog 88 := Keyed.of_law (deep_law_laid laidOut0 (m := 3) (by omega) bk_row (by kernel_rfl) bk_wide)
def bkV (p : Int × Int) : Value := .agg #[.int .i64 p.1, .int .i64 p.2]
def bkL (p : Int × Int) : Lit := .string (keyBytes [.int .i64 p.1, .int .i64 p.2])
def in64 (p : Int × Int) : Prop := (Lit.int .i64 p.1).wf = true ∧ (Lit.int .i64 p.2).wf = true
theorem bk_key : Try.prog.keyType 88 = true := by kernel_rfl
theorem bk_cells : Try.prog.cellsOf 88 = 2 := by kernel_rfl
theorem bk_size : ∃ n, Try.prog.types.size = n + 1 := ⟨Try.prog.types.size - 1, by have : (0 : Nat) < Try.prog.types.size := of_decide_eq_true (by kernel_rfl); omega⟩
theorem bk_under0 : Try.prog.underlying 3 = some (.int .i64) := by kernel_rfl
theorem bk_cells0 : Try.prog.cellsOf 3 = 1 := by kernel_rfl
theorem bk_keyOf {p : Int × Int} (h : in64 p) : keyOf Try.prog 88 (bkV p) = some (bkL p) := by
  obtain ⟨n, hn⟩ := bk_size
  obtain ⟨h1, h2⟩ := h
  have hf : (bkV p).formed Try.prog 88 = true := by simp [bkV, Value.formed, Try.underlying88, bk_cells]
  have hl : ∀ x : Int, (Lit.int .i64 x).wf = true → Try.prog.keyLits (n + 1) 3 [.int .i64 x] = some [.int .i64 x] := fun x hx => by simp [Program.keyLits, hx]
  unfold keyOf
  simp only [Try.underlying88, bk_key, hf, Bool.and_self, if_true, hn]
  have e : Try.prog.keyLits (n + 1 + 1) 88 (bkV p).cells.toList = some [.int .i64 p.1, .int .i64 p.2] := by
    unfold Program.keyLits
    simp [Try.underlying88, bkV, Value.cells, bk_cells, bk_cells0, hl _ h1, hl _ h2]
  rw [e]
  rfl
theorem one_int {c : Value} {ls : List Lit} {n : Nat} (h : Try.prog.keyLits (n + 1) 3 [c] = some ls) : ∃ x, c = .int .i64 x ∧ ls = [.int .i64 x] ∧ (Lit.int .i64 x).wf = true := by
  unfold Program.keyLits at h
  rw [bk_under0] at h
  cases c <;> simp at h
  obtain ⟨⟨rfl, hw⟩, rfl⟩ := h
  exact ⟨_, rfl, rfl, hw⟩
theorem bk_inv {key : Value} {k : Lit} (h : keyOf Try.prog 88 key = some k) : ∃ p, key = bkV p ∧ in64 p ∧ k = bkL p := by
  obtain ⟨n, hn⟩ := bk_size
  unfold keyOf at h
  simp only [Try.underlying88, bk_key, hn, Bool.true_and] at h
  split at h
  · rename_i hf
    cases key <;> simp [Value.formed, Try.underlying88, bk_cells] at hf
    rename_i cs
    obtain ⟨l, hl⟩ : ∃ l, cs = l.toArray := ⟨cs.toList, by simp⟩
    subst hl
    match l, hf with
    | [a, b], _ =>
      unfold Program.keyLits at h
      simp [Try.underlying88, Value.cells, bk_cells, bk_cells0] at h
      cases ha : Try.prog.keyLits (n + 1) 3 [a] with
      | none => rw [ha] at h; cases h
      | some la =>
        cases hb : Try.prog.keyLits (n + 1) 3 [b] with
        | none => rw [ha, hb] at h; cases h
        | some lb =>
          obtain ⟨x, rfl, rfl, hx⟩ := one_int ha
          obtain ⟨y, rfl, rfl, hy⟩ := one_int hb
          rw [ha, hb] at h
          refine ⟨(x, y), rfl, ⟨hx, hy⟩, ?_⟩
          simp at h
          rw [← h]
          rfl
  · cases h
theorem bkV_inj {p q : Int × Int} (h : bkV p = bkV q) : p = q := by
  obtain ⟨a, b⟩ := p
  obtain ⟨c, d⟩ := q
  simp only [bkV, Value.agg.injEq] at h
  simpa using h
theorem bkL_inj {p q : Int × Int} (hp : in64 p) (hq : in64 q) (h : bkL p = bkL q) : p = q := bkV_inj (bk_law.inj (bk_keyOf hp) (by rw [h]; exact bk_keyOf hq))
theorem bkL_key (p : Int × Int) : WideAt.IsKeyLit (bkL p) := trivial
theorem bkL_same {p q : Int × Int} (hp : in64 p) (hq : in64 q) : (bkL p).sameKey (bkL q) = decide (p = q) := by
  by_cases h : p = q
  · subst h
    rw [WideAt.sameKey_self (bkL_key p), decide_eq_true rfl]
  · rw [sameKey_ne (fun e => h (bkL_inj hp hq e)), decide_eq_false h]
theorem in64_of {p : Int × Int} (h1 : -9223372036854775808 ≤ p.1 ∧ p.1 ≤ 9223372036854775807) (h2 : -9223372036854775808 ≤ p.2 ∧ p.2 ≤ 9223372036854775807) : in64 p := ⟨WalkArith.wf_i64 (by omega), WalkArith.wf_i64 (by omega)⟩

/-- What a map of pairs holds: f. -/
def Holds (D : DataW Unit) (f : Int × Int → Option Int) : Prop :=
  IsMap D ∧ (∀ p, in64 p → Maps.has D (bkL p) = (f p).isSome) ∧ ∀ p v, in64 p → f p = some v → ∀ z, D.atKey (bkL p) z = .lit (.int .i64 v)
def upd (f : Int × Int → Option Int) (p : Int × Int) (v : Int) (q : Int × Int) : Option Int := if q = p then some v else f q
def cutP (f : Int × Int → Option Int) (p q : Int × Int) : Option Int := if q = p then none else f q
theorem Holds.nil_ : Holds (.map []) (fun _ => none) := ⟨isMap_empty, fun p _ => rfl, fun p v _ h => by cases h⟩
theorem Holds.put_ {D : DataW Unit} {f : Int × Int → Option Int} (h : Holds D f) {p : Int × Int} (hp : in64 p) (v : Int) : Holds (D.put (bkL p) (.lit (.int .i64 v))) (upd f p v) := by
  refine ⟨h.1.put _ _, fun q hq => ?_, fun q u hq hu z => ?_⟩
  · unfold upd
    by_cases e : q = p
    · subst e
      rw [has_put_same h.1 (bkL_key _), if_pos rfl]
      rfl
    · rw [has_put_other (fun x => e (bkL_inj hq hp x)), if_neg e]
      exact h.2.1 q hq
  · unfold upd at hu
    by_cases e : q = p
    · subst e
      rw [if_pos rfl] at hu
      cases hu
      exact atKey_put_same h.1 (bkL_key _) _ _
    · rw [if_neg e] at hu
      rw [atKey_put_other (fun x => e (bkL_inj hq hp x))]
      exact h.2.2 q u hq hu z
theorem Holds.del_ {D : DataW Unit} {f : Int × Int → Option Int} (h : Holds D f) {p : Int × Int} (hp : in64 p) : Holds (D.del (bkL p)) (cutP f p) := by
  refine ⟨h.1.del _, fun q hq => ?_, fun q u hq hu z => ?_⟩
  · unfold cutP
    by_cases e : q = p
    · subst e
      rw [has_del_same, if_pos rfl]
      rfl
    · rw [has_del_other (fun x => e (bkL_inj hq hp x)), if_neg e]
      exact h.2.1 q hq
  · unfold cutP at hu
    by_cases e : q = p
    · rw [if_pos e] at hu
      cases hu
    · rw [if_neg e] at hu
      rw [atKey_del_other (fun x => e (bkL_inj hq hp x))]
      exact h.2.2 q u hq hu z

theorem under_e : Try.prog.underlying 2 = some (.int .i64) := by kernel_rfl
/-- Block b is a map of pairs that holds f. -/
def Ms (w : World) (b n : Nat) (f : Int × Int → Option Int) : Prop := ∃ D : DataW Unit, w.ownsMap Try.prog 88 (plainElem (H := Unit) Try.prog 2) b n D ∧ Holds D f
/-- .. and block r goes through it; L: what is still to come. -/
def Mr (w : World) (b r n : Nat) (f : Int × Int → Option Int) (L : Int × Int → Bool) (cnt : Nat) : Prop :=
  ∃ (D : DataW Unit) (left : Lit → Bool), w.ranges Try.prog 88 (plainElem (H := Unit) Try.prog 2) b r n D left cnt ∧ Holds D f ∧ ∀ p, in64 p → left (bkL p) = L p
section
variable {w w' : World} {b r n cnt : Nat} {f : Int × Int → Option Int} {L : Int × Int → Bool}
theorem Ms.made (w : World) : Ms (w.alloc (.map #[] 0)) w.heap.size 0 (fun _ => none) := ⟨.map [], World.ownsMap_made _ _ _ _, Holds.nil_⟩
theorem Ms.kept {row : Option Nat} (h : Ms w b n f) (hg : w.grownBy w' row) (hne : some b ≠ row) : Ms w' b n f := let ⟨D, h1, h2⟩ := h; ⟨D, h1.kept hg hne, h2⟩
theorem Ms.alloc (h : Ms w b n f) (o : Obj) : Ms (w.alloc o) b n f := let ⟨D, h1, h2⟩ := h; ⟨D, h1.alloc o, h2⟩
theorem Ms.drew (h : Ms w b n f) : Ms w.drew b n f := h
theorem Ms.drewN (h : Ms w b n f) (k : Nat) : Ms (w.drewN k) b n f := h
theorem Ms.setCell (h : Ms w b n f) {a : Addr} (ha : b ≠ a.block) (u : Value) : Ms (w.setCell a u) b n f := let ⟨D, h1, h2⟩ := h; ⟨D, h1.setCell ha u, h2⟩
theorem Ms.lt (h : Ms w b n f) : b < w.heap.size := let ⟨_, h1, _⟩ := h; h1.lt
theorem Ms.obj (h : Ms w b n f) : ∃ es clock, w.heap[b]? = some (.map es clock) := let ⟨_, ⟨es, c, h1, _⟩, _⟩ := h; ⟨es, c, h1⟩
theorem Mr.kept {row : Option Nat} (h : Mr w b r n f L cnt) (hg : w.grownBy w' row) (hb : some b ≠ row) (hr : some r ≠ row) : Mr w' b r n f L cnt := let ⟨D, l, h1, h2⟩ := h; ⟨D, l, h1.kept hg hb hr, h2⟩
theorem Mr.alloc (h : Mr w b r n f L cnt) (o : Obj) : Mr (w.alloc o) b r n f L cnt := let ⟨D, l, h1, h2⟩ := h; ⟨D, l, h1.alloc o, h2⟩
theorem Mr.left_eq (h : Mr w b r n f L cnt) : w.rangeLeft b r = cnt := let ⟨_, _, h1, _⟩ := h; h1.left_eq
theorem Mr.owns (h : Mr w b r n f L cnt) : Ms w b n f := let ⟨D, _, h1, h2, _⟩ := h; ⟨D, h1.owns, h2⟩
theorem Mr.lt (h : Mr w b r n f L cnt) : r < w.heap.size := let ⟨_, _, h1, _⟩ := h; h1.lt

variable {ops : Array Oper} {rest : List Oper} {o : Oper} {a : Act} {Q : Exit → Act → World → Prop}
/-- 'm[k] = v'. -/
theorem Ms.store_op (hg : o.guard = none) (m x v : Operand) (hop : o.op = Op.mapUpdate 86 m x v) (p : Int × Int) (c : Int) (hm : a.eval m = .map (some b)) (h : Ms w b n f) (hn : n < 1048576) (hp : in64 p)
    (hc : (Lit.int .i64 c).wf = true) (hx : a.eval x = bkV p) (hv : a.eval v = .int .i64 c) (hK : ∀ w', Ms w' b (n + 1) (upd f p c) → w.grownBy w' (some b) → wpList Try.prog ops Q rest (a.put o.dst undef) w') :
    wpList Try.prog ops Q (o :: rest) a w := by
  obtain ⟨D, h1, h2⟩ := h
  exact wpList_mapUpdate_own w hg m x v _ hop 88 2 bk_law Try.underlying86 (plainElem (H := Unit) Try.prog 2) b n D hm h1 (by unfold maxLen; omega) _ _ (bkL p) hx hv (bk_keyOf hp) (.lit (.int .i64 c)) [] (plainElem_int under_e hc)
    (fun w' h3 h4 => hK w' ⟨_, h3, h2.put_ hp c⟩ h4)
/-- 'range m'. -/
theorem Ms.range_op (hg : o.guard = none) (m : Operand) (hop : o.op = Op.range 86 m) (hm : a.eval m = .map (some b)) (h : Ms w b n f)
    (hK : ∀ w' cnt, Mr w' b w.heap.size n f (fun p => (f p).isSome) cnt → w.grownBy w' none → w'.heap.size = w.heap.size + 1 → wpList Try.prog ops Q rest (a.put o.dst (.pointer (some ⟨w.heap.size, 0, none⟩))) w') :
    wpList Try.prog ops Q (o :: rest) a w := by
  obtain ⟨D, h1, h2⟩ := h
  exact wpList_range_own w hg m _ hop 88 2 bk_law Try.underlying86 (plainElem (H := Unit) Try.prog 2) b n D hm h1 (fun w' h3 h4 h5 => hK w' _ ⟨D, _, h3, h2, h2.2.1⟩ h4 h5)
/-- The step. -/
theorem Mr.next_op (hg : o.guard = none) (it : Operand) (hop : o.op = Op.next it false) (hit : a.eval it = .pointer (some ⟨r, 0, none⟩)) (h : Mr w b r n f L cnt)
    (hDone : (∀ p, in64 p → L p = false) → wpList Try.prog ops Q rest (a.put o.dst (.tuple #[.bool false])) w)
    (hMore : ∀ (p : Int × Int) (c : Int) (w' : World) (cnt' : Nat), in64 p → L p = true → f p = some c → Mr w' b r n f (fun q => L q && !decide (q = p)) cnt' → cnt' < cnt → w.grownBy w' (some r) → w'.heap.size = w.heap.size →
      (Instr.entry (.pointer (some ⟨r, 0, none⟩))).run Try.prog w' = .ok (.tuple #[bkV p, .int .i64 c]) w' → wpList Try.prog ops Q rest (a.put o.dst (.tuple #[.bool true, bkV p, .int .i64 c])) w') :
    wpList Try.prog ops Q (o :: rest) a w := by
  obtain ⟨D, left, h1, h2, h3⟩ := h
  refine wpList_next_ranges w hg it hop 88 bk_law (plainElem (H := Unit) Try.prog 2) bkV (Value.int .i64) (fun key kl hk => by obtain ⟨p, rfl, _⟩ := bk_inv hk; exact ⟨p, rfl⟩) (fun v y hv => by obtain ⟨c, rfl, _⟩ := plainElem_int_inv under_e hv; exact ⟨c, rfl⟩)
    b r n D left cnt hit h1 (fun _ hl => hDone fun p hp => by rw [← h3 p hp]; exact hl _) ?_
  intro p c kl y w' cnt' hk hl hy hat hrg hlt hgr hsz hen
  obtain ⟨p', e, hp, rfl⟩ := bk_inv hk
  obtain rfl := bkV_inj e
  obtain ⟨c', e2, rfl, _⟩ := plainElem_int_inv under_e hy
  cases e2
  refine hMore p c w' cnt' hp (by rw [← h3 p hp]; exact hl) ?_ ⟨D, _, hrg, h2, fun q hq => by rw [h3 q hq, bkL_same hq hp]⟩ hlt hgr hsz hen
  cases hf : f p with
  | none =>
    have := h2.2.1 p hp
    rw [hf] at this
    have e3 := atKey_of_not_has this (.lit (.bool true))
    rw [hat] at e3
    cases e3
  | some v =>
    have := h2.2.2 p v hp hf .nil
    rw [hat] at this
    cases this
    rfl
/-- 'delete(m, k)' in a round. -/
theorem Mr.delete_op (hg : o.guard = none) (m x : Operand) (hop : o.op = Op.call { callee := Callee.builtin Builtin.delete, args := #[m, x], argTypes := #[86, 88] }) (hm : a.eval m = .map (some b)) (h : Mr w b r n f L cnt)
    (p : Int × Int) (hx : a.eval x = bkV p) (hp : in64 p)
    (hK : ∀ w' cnt', Mr w' b r n (cutP f p) (fun q => L q && !decide (q = p)) cnt' → cnt' ≤ cnt → w.grownBy w' (some b) → w'.heap.size = w.heap.size → wpList Try.prog ops Q rest (a.put o.dst (.tuple #[])) w') :
    wpList Try.prog ops Q (o :: rest) a w := by
  obtain ⟨D, left, h1, h2, h3⟩ := h
  refine wpList_delete_ranges w hg m x _ _ hop 2 bk_law Try.underlying86 (plainElem (H := Unit) Try.prog 2) b r n D left cnt hm h1 _ (bkL p) hx (bk_keyOf hp) (fun w' cnt' h4 h5 h6 => ?_)
  refine hK w' cnt' ⟨_, _, h4, h2.del_ hp, fun q hq => by rw [h3 q hq, bkL_same hq hp]⟩ h5 h6.grown ?_
  obtain ⟨es, cl, es', cl', _, rfl⟩ := h6
  simp [ChangeMaps.setBlock]
end
end Go.Proofs.Ytkeiajncmhkdmaa
