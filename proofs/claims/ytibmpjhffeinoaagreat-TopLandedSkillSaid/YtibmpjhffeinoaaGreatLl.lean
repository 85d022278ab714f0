/-
  A region that draws its order, whose last operation waits for all others: these in every order, by a held condition, then the last one. append of one row to an own table that is full.
-/
import Derived.Test.YtibmpjhffeinoaaGreatLv
import Derived.OrdersHeld
import Derived.Deep.RegionHeld3
namespace Go.Proofs.YtibmpjhffeinoaaGreat
open Go.RowKit

/-- Each operation waits for earlier ones alone; ol waits for all of ops. -/
def lastB (md : Region.Mode) (ops : Array Oper) (ol : Oper) : Bool :=
  (List.range ops.size).all (fun i => match ops[i]? with
    | some o => o.after.all (fun e => !Region.binds md e || decide (e.on < i)) && (match o.guard with
      | none => true
      | some (j, _) => decide (j < ops.size))
    | none => true) &&
  ((List.range ops.size).all (fun i => (ol.after.any fun e => Region.binds md e && e.on == i) || ol.after.any fun e => Region.binds md e && (match ops[e.on]? with
    | some o => o.after.any fun e2 => Region.binds md e2 && e2.on == i
    | none => false)) && (ol.after.all (fun e => !Region.binds md e || decide (e.on < ops.size)) && ol.guard.isNone))
/-- What is asked behind the others: the last operation. -/
def lastQ (P : Program) (ol : Oper) (Q : Exit → Act → World → Prop) : Exit → Act → World → Prop
  | .normal, a, w => ol.wp P a w (fun a' w' => Q .normal a' w') Q
  | .panic c, a, w => Q (.panic c) a w
  | .outgrown, a, w => Q .outgrown a w
  | _, _, _ => False

section
variable {P : Program} {ops : Array Oper} {ol : Oper} {Q : Exit → Act → World → Prop} {md : Region.Mode}
theorem lastB_spec (h : lastB md ops ol = true) : (∀ i o, ops[i]? = some o → (∀ e ∈ o.after, Region.binds md e = true → e.on < i) ∧ ∀ j b, o.guard = some (j, b) → j < ops.size) ∧
    (∀ i, i < ops.size → (∃ e ∈ ol.after, Region.binds md e = true ∧ e.on = i) ∨ ∃ e ∈ ol.after, Region.binds md e = true ∧ ∃ o, ops[e.on]? = some o ∧ ∃ e2 ∈ o.after, Region.binds md e2 = true ∧ e2.on = i) ∧ (∀ e ∈ ol.after, Region.binds md e = true → e.on < ops.size) ∧ ol.guard = none := by
  unfold lastB at h
  rw [Bool.and_eq_true, Bool.and_eq_true, Bool.and_eq_true] at h
  obtain ⟨h1, h2, h3, h4⟩ := h
  refine ⟨fun i o ho => ?_, fun i hi => ?_, fun e he hb => ?_, by simpa using h4⟩
  · have hi : i < ops.size := (Array.getElem?_eq_some_iff.1 ho).1
    have h := List.all_eq_true.1 h1 i (List.mem_range.2 hi)
    rw [ho] at h
    simp only [Bool.and_eq_true] at h
    refine ⟨fun e he hb => ?_, fun j b hg => ?_⟩
    · have := Array.all_eq_true_iff_forall_mem.1 h.1 e he
      rw [hb] at this
      simpa using this
    · have h5 := h.2
      rw [hg] at h5
      simpa using h5
  · have h := List.all_eq_true.1 h2 i (List.mem_range.2 hi)
    rw [Bool.or_eq_true] at h
    rcases h with h | h
    · obtain ⟨e, he, hb⟩ := Array.any_eq_true'.1 h
      rw [Bool.and_eq_true, beq_iff_eq] at hb
      exact .inl ⟨e, he, hb.1, hb.2⟩
    · obtain ⟨e, he, hb⟩ := Array.any_eq_true'.1 h
      rw [Bool.and_eq_true] at hb
      obtain ⟨hb1, hb2⟩ := hb
      split at hb2
      · rename_i o ho
        obtain ⟨e2, he2, hb3⟩ := Array.any_eq_true'.1 hb2
        rw [Bool.and_eq_true, beq_iff_eq] at hb3
        exact .inr ⟨e, he, hb1, o, ho, e2, he2, hb3.1, hb3.2⟩
      · cases hb2
  · have := Array.all_eq_true_iff_forall_mem.1 h3 e he
    rw [hb] at this
    simpa using this
theorem push_get {i : Nat} (hi : i < ops.size) : (ops.push ol)[i]? = ops[i]? := by rw [Array.getElem?_push, if_neg (by omega)]
theorem push_false (listed : Array Bool) (k : Nat) : (listed.push false).getD k false = listed.getD k false := by
  rw [Array.getD_eq_getD_getElem?, Array.getD_eq_getD_getElem?, Array.getElem?_push]
  split
  · rename_i h
    subst h
    simp
  · rfl
theorem push_true {listed : Array Bool} {k : Nat} (hk : k < listed.size) : (listed.push false).getD k true = listed.getD k true := by
  rw [Array.getD_eq_getD_getElem?, Array.getD_eq_getD_getElem?, Array.getElem?_push, if_neg (by omega)]
theorem ready_lt {listed : Array Bool} {i : Nat} (hs : listed.size = ops.size) (hi : i < ops.size) : i ∈ Region.ready md (ops.push ol) (listed.push false) ↔ i ∈ Region.ready md ops listed := by
  rw [mem_ready, mem_ready, push_get hi, push_true (by omega)]
  simp only [push_false]
/-- What an operation waits for has come up ahead of it. -/
def ClB (md : Region.Mode) (ops : Array Oper) (listed : Array Bool) : Prop := ∀ j o, ops[j]? = some o → listed.getD j false = true → ∀ e ∈ o.after, Region.binds md e = true → listed.getD e.on false = true
/-- Whichever is the first that has not come up may come up. -/
theorem ready_some {listed : Array Bool} (h : lastB md ops ol = true) (hs : listed.size = ops.size) : ∀ (k i : Nat), i ≤ k → i < ops.size → listed.getD i true = false → ∃ j, j ∈ Region.ready md ops listed := by
  obtain ⟨h1, _, _, _⟩ := lastB_spec h
  intro k
  induction k with
  | zero =>
    intro i hi hn hf
    obtain rfl : i = 0 := by omega
    refine ⟨0, mem_ready.2 ⟨hf, ops[0], Array.getElem?_eq_getElem hn, fun e he hb => ?_⟩⟩
    have := (h1 0 _ (Array.getElem?_eq_getElem hn)).1 e he hb
    omega
  | succ k ih =>
    intro i hi hn hf
    by_cases hall : ∀ j, j < i → listed.getD j true = true
    · refine ⟨i, mem_ready.2 ⟨hf, ops[i], Array.getElem?_eq_getElem hn, fun e he hb => ?_⟩⟩
      have h2 := (h1 i _ (Array.getElem?_eq_getElem hn)).1 e he hb
      have h3 := hall e.on h2
      have h4 : e.on < listed.size := by omega
      simp [h4] at h3 ⊢
      exact h3
    · have : ∃ j, j < i ∧ listed.getD j true = false := by
        refine Classical.byContradiction fun hc => hall fun j hj => ?_
        cases hb : listed.getD j true with
        | true => rfl
        | false => exact absurd ⟨j, hj, hb⟩ hc
      obtain ⟨j, hj, hjf⟩ := this
      exact ih j (by omega) (by omega) hjf
theorem wp_lastQ {o : Oper} {a : Act} {w : World} {K K' : Act → World → Prop} (hK : ∀ a w, K a w → K' a w) (h : o.wp P a w K (lastQ P ol Q)) : o.wp P a w K' Q := by
  unfold Oper.wp at *
  generalize (execOp a.eval o).run P w = r at *
  cases r with
  | ok x w' =>
    cases x with
    | value v => exact hK _ _ h
    | skip => exact hK _ _ h
    | defer d => exact hK _ _ h
    | enter f args =>
      refine Calls.mono h fun e w'' he => ?_
      cases e with
      | returned v => exact hK _ _ he
      | panicked ch => exact he
      | outgrown => exact he
    | row row args => exact Rows.mono h fun v w'' hv => hK _ _ hv
    | _ => exact h.elim
  | halt x w' =>
    cases x with
    | panic v => exact h
    | _ => exact h.elim
theorem wpOp_last {i : Nat} {a : Act} {w : World} {K K' : Act → World → Prop} (hl : lastB md ops ol = true) (hi : i < ops.size) (hK : ∀ a w, K a w → K' a w) (h : wpOp P ops (lastQ P ol Q) i K a w) : wpOp P (ops.push ol) Q i K' a w := by
  obtain ⟨h1, _, _, _⟩ := lastB_spec hl
  unfold wpOp at *
  rw [push_get hi]
  cases ho : ops[i]? with
  | none => rw [ho] at h; exact hK _ _ h
  | some o =>
    rw [ho] at h
    simp only at h ⊢
    have hw : Region.wanted o (yielded (ops.push ol) a.tmps) = Region.wanted o (yielded ops a.tmps) := by
      unfold Region.wanted
      cases hg : o.guard with
      | none => rfl
      | some p =>
        obtain ⟨j, b⟩ := p
        have hj := (h1 i o ho).2 j b hg
        simp only [yielded, push_get hj]
    rw [hw]
    split
    · rename_i hw
      rw [if_pos hw] at h
      rcases h with h | ⟨ha, b, V, hb⟩
      · exact .inl (wp_lastQ hK h)
      · exact .inr ⟨ha, b, V, hb⟩
    · rename_i hw
      rw [if_neg hw] at h
      exact hK _ _ h
theorem wpAny_last (hl : lastB md ops ol = true) : ∀ (fuel : Nat) (listed : Array Bool) (a : Act) (w : World), listed.size = ops.size → ClB md ops listed → wpAny P md ops (lastQ P ol Q) fuel listed a w → wpAny P md (ops.push ol) Q (fuel + 1) (listed.push false) a w := by
  obtain ⟨h1, h2, h3, h4⟩ := lastB_spec hl
  -- the last one, where it comes up
  have key : ∀ (f : Nat) (listed : Array Bool) (a : Act) (w : World), listed.size = ops.size → ClB md ops listed → ops.size ∈ Region.ready md (ops.push ol) (listed.push false) → (Region.ready md ops listed = [] → lastQ P ol Q .normal a w) →
      wpOp P (ops.push ol) Q ops.size (wpAny P md (ops.push ol) Q f ((listed.push false).setIfInBounds ops.size true)) a w := by
    intro f listed a w hs hcl hr hq
    obtain ⟨_, o, ho, hall⟩ := mem_ready.1 hr
    have ho2 : (ops.push ol)[ops.size]? = some ol := by simp
    obtain rfl : ol = o := Option.some.inj (ho2.symm.trans ho)
    have hev : ∀ i, i < ops.size → listed.getD i false = true := fun i hi => by
      rcases h2 i hi with ⟨e, he, hb, hon⟩ | ⟨e, he, hb, o2, ho2', e2, he2, hb2, hon⟩
      · have := hall e he hb
        rw [hon, push_false] at this
        exact this
      · have h9 := hall e he hb
        rw [push_false] at h9
        rw [← hon]
        exact hcl _ _ ho2' h9 e2 he2 hb2
    have hnone : Region.ready md ops listed = [] := by
      refine List.eq_nil_iff_forall_not_mem.2 fun i hi => ?_
      obtain ⟨h5, oi, hoi, _⟩ := mem_ready.1 hi
      have hin : i < ops.size := (Array.getElem?_eq_some_iff.1 hoi).1
      have h6 := hev i hin
      have h7 : i < listed.size := by omega
      simp [h7] at h5 h6
      rw [h5] at h6
      cases h6
    have hdone : Region.ready md (ops.push ol) ((listed.push false).setIfInBounds ops.size true) = [] := by
      refine List.eq_nil_iff_forall_not_mem.2 fun i hi => ?_
      obtain ⟨h5, oi, hoi, _⟩ := mem_ready.1 hi
      have hin : i < (ops.push ol).size := (Array.getElem?_eq_some_iff.1 hoi).1
      rw [Array.size_push] at hin
      rcases Nat.lt_or_ge i ops.size with hin2 | hin2
      · rw [getD_set_ne true (by omega), push_true (by omega)] at h5
        have h6 := hev i hin2
        have h7 : i < listed.size := by omega
        simp [h7] at h5 h6
        rw [h5] at h6
        cases h6
      · obtain rfl : i = ops.size := by omega
        simp [hs] at h5
    have hgo : ∀ a' w', Q .normal a' w' → wpAny P md (ops.push ol) Q f ((listed.push false).setIfInBounds ops.size true) a' w' := fun a' w' hq' => by
      cases f with
      | zero => exact ⟨hdone, hq'⟩
      | succ f => exact ⟨fun _ => hq', by rw [hdone]; simp⟩
    unfold wpOp
    rw [ho2]
    simp only [Region.wanted, h4, if_true]
    exact .inl (Oper.wp_mono hgo (hq hnone))
  intro fuel
  induction fuel with
  | zero =>
    intro listed a w hs hcl h
    obtain ⟨hr, hq⟩ := h
    have hno : ∀ i, i < ops.size → listed.getD i false = true := fun i hi => by
      cases hb : listed.getD i false with
      | true => rfl
      | false =>
        have h7 : i < listed.size := by omega
        obtain ⟨j, hj⟩ := ready_some hl hs i i (Nat.le_refl _) hi (by simp [h7] at hb ⊢; exact hb)
        rw [hr] at hj
        cases hj
    have hn : ops.size ∈ Region.ready md (ops.push ol) (listed.push false) := mem_ready.2 ⟨by simp [← hs], ol, by simp, fun e he hb => by rw [push_false]; exact hno _ (h3 e he hb)⟩
    refine ⟨fun h0 => (by rw [h0] at hn; cases hn), fun i hi => ?_⟩
    obtain ⟨_, oi, hoi, _⟩ := mem_ready.1 hi
    have hin : i < (ops.push ol).size := (Array.getElem?_eq_some_iff.1 hoi).1
    rw [Array.size_push] at hin
    rcases Nat.lt_or_ge i ops.size with hin2 | hin2
    · rw [ready_lt hs hin2, hr] at hi
      cases hi
    · obtain rfl : i = ops.size := by omega
      exact key 0 listed a w hs hcl hi (fun _ => hq)
  | succ f ih =>
    intro listed a w hs hcl h
    obtain ⟨hq, hall⟩ := h
    refine ⟨fun h0 => ?_, fun i hi => ?_⟩
    · exfalso
      by_cases hev : ∀ i, i < ops.size → listed.getD i false = true
      · have hn : ops.size ∈ Region.ready md (ops.push ol) (listed.push false) := mem_ready.2 ⟨by simp [← hs], ol, by simp, fun e he hb => by rw [push_false]; exact hev _ (h3 e he hb)⟩
        rw [h0] at hn
        cases hn
      · have : ∃ i, i < ops.size ∧ listed.getD i false = false := by
          refine Classical.byContradiction fun hc => hev fun j hj => ?_
          cases hb : listed.getD j false with
          | true => rfl
          | false => exact absurd ⟨j, hj, hb⟩ hc
        obtain ⟨i, hi, hb⟩ := this
        have h7 : i < listed.size := by omega
        obtain ⟨j, hj⟩ := ready_some hl hs i i (Nat.le_refl _) hi (by simp [h7] at hb ⊢; exact hb)
        obtain ⟨_, oj, hoj, _⟩ := mem_ready.1 hj
        have hjn : j < ops.size := (Array.getElem?_eq_some_iff.1 hoj).1
        rw [← ready_lt (ol := ol) hs hjn, h0] at hj
        cases hj
    · obtain ⟨_, oi, hoi, _⟩ := mem_ready.1 hi
      have hin : i < (ops.push ol).size := (Array.getElem?_eq_some_iff.1 hoi).1
      rw [Array.size_push] at hin
      rcases Nat.lt_or_ge i ops.size with hin2 | hin2
      · rw [ready_lt hs hin2] at hi
        have e : (listed.push false).setIfInBounds i true = (listed.setIfInBounds i true).push false := by
          apply Array.ext'
          have h8 : i < listed.toList.length := by simpa [hs] using hin2
          simp only [Array.toList_setIfInBounds, Array.toList_push]
          rw [List.set_append_left _ _ h8]
        rw [e]
        have hi2 := hi
        obtain ⟨_, oi2, hoi2, hpre⟩ := mem_ready.1 hi2
        have hcl2 : ClB md ops (listed.setIfInBounds i true) := fun j o hj hlj e he hb => by
          have up : ∀ k, listed.getD k false = true → (listed.setIfInBounds i true).getD k false = true := fun k hk => by
            by_cases e' : i = k
            · subst e'
              have : i < listed.size := by omega
              simp [this]
            · rw [getD_set_ne false e']
              exact hk
          by_cases e' : i = j
          · subst e'
            rw [hoi2] at hj
            cases hj
            exact up _ (hpre e he hb)
          · rw [getD_set_ne false e'] at hlj
            exact up _ (hcl j o hj hlj e he hb)
        exact wpOp_last hl hin2 (fun a' w' h' => ih _ a' w' (by simp [hs]) hcl2 h') (hall i hi)
      · obtain rfl : i = ops.size := by omega
        exact key (f + 1) listed a w hs hcl hi hq
theorem replicate_push (n : Nat) : Array.replicate (n + 1) false = (Array.replicate n false).push false := by rw [Array.replicate_succ]
/-- The others in every order, by a held condition; then the last one. -/
theorem wp_region_last {id : Nat} {a : Act} {w : World} (S : World → Prop) (hm : P.follows .mixedOrders = true) (hl : lastB .any ops ol = true) (hS : S w.drew)
    (h : S w.drew → wpAnyH P .any ops (lastQ P ol Q) S ops.size (Array.replicate ops.size false) a w.drew) : (Code.region id (ops.push ol) true).wp P Q a w :=
  wp_region_any hm (by
    rw [Array.size_push, replicate_push]
    exact wpAny_last hl _ _ _ _ (by simp) (fun j o _ hlj => by
      rw [Array.getD_eq_getD_getElem?, Array.getElem?_replicate] at hlj
      split at hlj <;> simp at hlj) (wpAny_of_held _ _ _ _ (h hS)))
theorem toArray_last {l : List Oper} (ho : l.getLast? = some ol) : l.toArray = l.dropLast.toArray.push ol := by
  have hne : l ≠ [] := by rintro rfl; cases ho
  have h := List.dropLast_concat_getLast hne
  have e : l.getLast hne = ol := by rw [List.getLast?_eq_some_getLast hne] at ho; exact Option.some.inj ho
  rw [e] at h
  conv => lhs; rw [← h]
  simp
theorem wp_region_lastL {l : List Oper} {id : Nat} {a : Act} {w : World} (S : World → Prop) (hm : P.follows .mixedOrders = true) (ho : l.getLast? = some ol) (hl : lastB .any l.dropLast.toArray ol = true) (hS : S w.drew)
    (h : S w.drew → wpAnyH P .any l.dropLast.toArray (lastQ P ol Q) S l.dropLast.length (Array.replicate l.dropLast.length false) a w.drew) : (Code.region id l.toArray true).wp P Q a w := by
  rw [toArray_last ho]
  exact wp_region_last S hm hl hS (by simpa only [List.size_toArray] using h)
end
end Go.Proofs.YtibmpjhffeinoaaGreat

namespace Go.Proofs.YtibmpjhffeinoaaGreat
open Go.RowKit

theorem info_row : (Tryz.prog.info? 35).map (fun i => (i.zero, i.size, i.bytes)) = some (some (.slice none 0 0), 1, 24) := by kernel_rfl
theorem under_rows : Tryz.prog.underlying 29 = some (.slice 35) := by kernel_rfl
/-- 'append(rows[:n:n], row)': a new table. -/
theorem wp_grow_rows {w : World} {o : Oper} {a : Act} {Q : Exit → Act → World → Prop} {K : Act → World → Prop} (s x : Operand)
    (ho : o.op = .call { callee := .builtin .append, args := #[s, x], argTypes := #[29, 29] })
    (ao : Option Addr) (n : Nat) (olds : List Value) (hs : a.eval s = .slice ao n n) (hnone : ao = none → n = 0) (hlo : olds.length = n) (holds : ∀ b, ao = some b → ∀ (j : Nat) u, olds[j]? = some u → w.cell? (b.add j) = some u)
    (ad : Addr) (c : Nat) (v : Value) (hx : a.eval x = .slice (some ad) 1 c) (hv : w.cell? ad = some v) (h1 : v.oneCell' = true) (hn : n ≤ 1000)
    (h : ∀ g cap w', w.heap.size ≤ g → w'.heap[g]? ≠ none → (∀ (j : Nat) u, (olds ++ [v])[j]? = some u → w'.cell? ⟨g, j, none⟩ = some u) → n + 1 ≤ cap → w.grownBy w' none → K (a.put o.dst (.slice (some ⟨g, 0, none⟩) (n + 1) cap)) w') : o.wp Tryz.prog a w K Q := by
  obtain ⟨i, hi, hz, hsize, hby⟩ := info_parts info_row
  have hlo' : olds.length = n * 1 := by omega
  have hnews : ∀ (j : Nat) u, ([v])[j]? = some u → w.cell? (ad.add j) = some u := fun j u hj => by
    match j, hj with
    | 0, hj => simp at hj; subst hj; exact hv
  have key : ∃ v' w', (Builtin.append_ #[29, 29] o.type #[.slice ao n n, .slice (some ad) 1 c]).run Tryz.prog w = .ok v' w' ∧ w'.ownsRow w.heap.size 35 1 v' (n + 1) (olds ++ [v]) ∧ w.grownBy w' none := by
    cases ao with
    | some b => exact run_append_arg_grows w _ o.type _ i _ 1 24 under_rows hi hz hsize hby rfl (by decide) b n n olds hlo' (holds b rfl) ad 1 c [v] rfl hnews (by omega) (by unfold maxLen; omega) (by omega)
    | none =>
      have hn0 := hnone rfl
      subst hn0
      obtain rfl : olds = [] := List.eq_nil_of_length_eq_zero hlo
      obtain ⟨v', w', hrun, r1, r2, _⟩ := run_append_own (P := Tryz.prog) w w.heap.size _ o.type _ i _ 1 24 under_rows hi hz hsize hby rfl (by decide) (.slice none 0 0) 0 [] (World.ownsRow_nil w _ _ 1) ad 1 c [v] rfl hnews (by simpa using h1) (by unfold maxLen; omega) (by omega) (Nat.le_refl _)
      exact ⟨v', w', hrun, r1, r2⟩
  obtain ⟨v', w', hrun, hown, hg⟩ := key
  rcases hown.2 with ⟨_, h0⟩ | ⟨g, cap, cur, rfl, hb, hc, hcap, _, hcs, htk⟩
  · omega
  · unfold Oper.wp execOp
    simp only [ho, resolve, invoke, builtin, Sem.run_bind, Sem.run_pure, Result.andThen_ok, List.map_toArray, List.map_cons, List.map_nil, hs, hx, hrun]
    refine h g cap w' hb (by rw [hc]; simp) (fun j u hj => ?_) hcap hg
    rw [cell_of_row w' g j cur _ (0, 0) hc, ← Array.getElem?_toList]
    rw [Nat.mul_one] at htk
    rw [← htk, List.getElem?_take] at hj
    split at hj
    · exact hj
    · cases hj
theorem step_grow_rows {w : World} {ops : Array Oper} {o : Oper} {a : Act} {Q : Exit → Act → World → Prop} {K : Act → World → Prop} {E : Prop} (hgd : o.guard = none) (s x : Operand)
    (ho : o.op = .call { callee := .builtin .append, args := #[s, x], argTypes := #[29, 29] })
    (ao : Option Addr) (n : Nat) (olds : List Value) (hs : a.eval s = .slice ao n n) (hnone : ao = none → n = 0) (hlo : olds.length = n) (holds : ∀ b, ao = some b → ∀ (j : Nat) u, olds[j]? = some u → w.cell? (b.add j) = some u)
    (ad : Addr) (c : Nat) (v : Value) (hx : a.eval x = .slice (some ad) 1 c) (hv : w.cell? ad = some v) (h1 : v.oneCell' = true) (hn : n ≤ 1000)
    (h : ∀ g cap w', w.heap.size ≤ g → w'.heap[g]? ≠ none → (∀ (j : Nat) u, (olds ++ [v])[j]? = some u → w'.cell? ⟨g, j, none⟩ = some u) → n + 1 ≤ cap → w.grownBy w' none → K (a.put o.dst (.slice (some ⟨g, 0, none⟩) (n + 1) cap)) w') :
    if Region.wanted o (yielded ops a.tmps) = true then Oper.wp Tryz.prog o a w K Q else E := by
  rw [if_pos (by simp [Region.wanted, hgd])]
  exact wp_grow_rows s x ho ao n olds hs hnone hlo holds ad c v hx hv h1 hn h
end Go.Proofs.YtibmpjhffeinoaaGreat
