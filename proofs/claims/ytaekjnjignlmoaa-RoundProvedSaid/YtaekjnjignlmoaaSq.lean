/-
  A region that draws its order, inside a round of a range over a function: out of the plain law of all orders.
  A range over a function whose elements lie in memory: behind the call of yield the element is known to be ready.
  A region that draws its order whose last operation waits for all others: the others in every order, then the last one.
-/
import Derived.RangeFuncNested
import Derived.RangeFuncBound
import Derived.RangeFuncCalls
import Derived.RangeFuncLeaves
import Derived.Shelf.Abstract
import Derived.Shelf.RegionOpen
import Derived.WalkKit
import Derived.OwnWalkIn
import Derived.TacticsInMore
import Derived.LoopNIn
import Derived.LoopIn
import Derived.OrdersHeld
import Derived.Deep.RegionHeld3
import Derived.Test.YtaekjnjignlmoaaProg
import Derived.RangeFuncWrites
import Derived.Below
namespace Go.Proofs.Ytaekjnjignlmoaa
open Go.RowKit

def noDefer (o : Oper) : Bool := match o.op with | .defer _ => false | _ => true
section
variable {P : Program} {ops : Array Oper} {Q : Exit → Act → World → Prop} {md : Region.Mode}
theorem rowsIn_round {l n : Nat} {row : String} {args : Array Value} {w : World} {R : Value → World → Prop} (h : Rows P row args w R) : RowsIn (Fence.wide.inRound l) n P row args w R := fun c cs _ => by
  obtain ⟨v, w', r, s⟩ := h c cs
  exact ⟨v, w', r, stepsIn_wide.2 s⟩
theorem wpIn_of_wp_round {l n : Nat} {o : Oper} {a : Act} {w : World} {K K' : Act → World → Prop} (hd : noDefer o = true) (hK : ∀ a w, K a w → K' a w) (h : o.wp P a w K Q) : o.wpIn (Fence.wide.inRound l) n P a w K' Q := by
  refine ⟨fun _ _ => trivial, ?_⟩
  have he : o.semAt (Fence.wide.inRound l).round a.eval = execOp a.eval o := Oper.semAt_eq _ _ _ fun c hc => by
    unfold noDefer at hd
    rw [hc] at hd
    cases hd
  rw [he]
  unfold Oper.wp at h
  generalize (execOp a.eval o).run P w = r at *
  cases r with
  | ok x w' =>
    cases x with
    | value v => exact hK _ _ h
    | skip => exact hK _ _ h
    | defer d => exact hK _ _ h
    | enter f args =>
      refine ⟨(fun h => by cases h), CallsIn.inRound l (callsIn_wide.2 (Calls.mono h fun e w'' he => ?_))⟩
      cases e with
      | returned v => exact hK _ _ he
      | panicked ch => exact he
      | outgrown => exact he
    | row row args => exact ⟨(fun h => by cases h), rowsIn_round (Rows.mono h fun v w'' hv => hK _ _ hv)⟩
    | _ => exact h.elim
  | halt x w' =>
    cases x with
    | panic v => exact h
    | _ => exact h.elim
theorem wpOpIn_of_wpOp {l n i : Nat} {a : Act} {w : World} {K K' : Act → World → Prop} (hd : ops.all noDefer = true) (hQ : ∀ a w, ¬ Q .outgrown a w) (hK : ∀ a w, K a w → K' a w) (h : wpOp P ops Q i K a w) :
    wpOpIn (Fence.wide.inRound l) n P ops Q i K' a w := by
  unfold wpOp at h
  unfold wpOpIn
  cases ho : ops[i]? with
  | none => rw [ho] at h; exact hK _ _ h
  | some o =>
    rw [ho] at h
    simp only at h ⊢
    split
    · rename_i hw
      rw [if_pos hw] at h
      rcases h with h | ⟨_, a', w', h⟩
      · refine wpIn_of_wp_round ?_ hK h
        obtain ⟨hi, rfl⟩ := Array.getElem?_eq_some_iff.1 ho
        exact Array.all_eq_true.1 hd i hi
      · exact (hQ _ _ h).elim
    · rename_i hw
      rw [if_neg hw] at h
      exact ⟨fun _ _ => trivial, hK _ _ h⟩
theorem wpAnyIn_of_wpAny {l n : Nat} (hd : ops.all noDefer = true) (hQ : ∀ a w, ¬ Q .outgrown a w) : ∀ (fuel : Nat) (listed : Array Bool) (a : Act) (w : World), wpAny P md ops Q fuel listed a w →
    wpAnyIn (Fence.wide.inRound l) n P md ops Q fuel listed a w := by
  intro fuel
  induction fuel with
  | zero => intro listed a w h; exact h
  | succ fuel ih => intro listed a w h; exact ⟨h.1, fun i hi => wpOpIn_of_wpOp hd hQ (fun a w => ih _ a w) (h.2 i hi)⟩
/-- In a round: every order, by a held condition. -/
theorem round_held {l n id : Nat} {a : Act} {w : World} (S : World → Prop) (hm : P.follows .mixedOrders = true) (hd : ops.all noDefer = true) (hQ : ∀ a w, ¬ Q .outgrown a w) (hS : S w.drew)
    (h : S w.drew → wpAnyH P .any ops Q S ops.size (Array.replicate ops.size false) a w.drew) : (Code.region id ops true).wpIn (Fence.wide.inRound l) n P Q a w :=
  wpIn_region_any hm (wpAnyIn_of_wpAny hd hQ _ _ _ _ (wpAny_of_held _ _ _ _ (h hS)))
end
end Go.Proofs.Ytaekjnjignlmoaa

namespace Go.Proofs.Ytaekjnjignlmoaa
open Go Go.RowKit

/-- What an iterator promises whose element x is ready ('R x W') in the world W in which it is handed over. -/
def SeqR {α : Type} (F : Fence) (n : Nat) (P : Program) (g : Nat) (lb : Array Value) (encs : α → Array Value) (Kp : World → World → Prop) (R : α → World → Prop) (S Sp : List α → Prop) (N : Nat) (w : World) : Prop :=
  ∀ (l : Nat) (J Jx : List α → World → Prop) (W : World), Below w.heap.size w W → AbidesFrom W.heap.size J → AbidesFrom W.heap.size Jx →
    (∀ pre x V, J pre V → R x V → pre.length < N → YieldAt F (n - 1) P l (encs x) V fun e V' => (e = .returned (.bool true) ∧ J (pre ++ [x]) V' ∧ Kp V V') ∨ (e = .returned (.bool false) ∧ Jx (pre ++ [x]) V')) →
    J [] W → CallsIn F n P g (#[.func (.yield l) #[] #[]] ++ lb) W fun e W' => (∃ v, e = .returned v) ∧ ((∃ xs, S xs ∧ J xs W') ∨ (∃ pre, Sp pre ∧ Jx pre W'))

section
variable {F : Fence} {n : Nat} {P : Program} {α : Type}
/-- The record b of a loop, in the state s. -/
def inState (b : Loop) (s : LoopState) (p : Option Code) : Loop := { b with state := s, pending := p }
/-- The books of a loop in the world V: its record at r + 1, and, at r, no deferred call. -/
def Books (r : Nat) (rec : Loop) (V : World) : Prop := V.heap[r + 1]? = some (.loop rec) ∧ V.heap[r]? = some (.deferred (some []))
theorem Books.put {r : Nat} {rec : Loop} {V : World} (h : Books r rec V) (rec' : Loop) : Books r rec' (V.putObj (r + 1) (.loop rec')) :=
  ⟨World.putObj_heap_same (Array.getElem?_eq_some_iff.1 h.1).1, (World.putObj_heap_other (by omega)).trans h.2⟩
theorem Books.step {r : Nat} {rec : Loop} {A B : World} {row : Option Nat} (h : Books r rec A) (hg : A.grownBy B row) (hr : ∀ k, row = some k → ∃ o : Obj, A.heap[k]? = some o ∧ o.isWalk = true) : Books r rec B :=
  ⟨(grownBy_keeps hg hr h.1 rfl).trans h.1, (grownBy_keeps hg hr h.2 rfl).trans h.2⟩
theorem Books.from_ {r : Nat} {rec : Loop} {A B : World} (h : Books r rec A) (hk : KeepsFrom r A B) : Books r rec B :=
  ⟨hk.same _ _ (by omega) h.1 rfl, hk.same _ _ (Nat.le_refl _) h.2 rfl⟩
theorem Books.first (w : World) (b : Loop) : Books w.heap.size b ((w.alloc (.deferred (some []))).alloc (.loop b)) := by
  refine ⟨?_, (Below.heap_alloc _ _ _ (by simp)).trans (World.alloc_heap_new w _)⟩
  have h := World.alloc_heap_new (w.alloc (.deferred (some []))) (.loop b)
  rwa [World.size_alloc] at h
/-- An invariant that abides new blocks, and turns of blocks that are no cells, abides a turn of the books. -/
theorem own_put {β : Type} {r : Nat} {I : β → World → Prop} (hI : OwnFrom r I) {s : β} {V : World} {rec : Loop} (h : I s V) (hb : Books r rec V) (rec' : Loop) : I s (V.putObj (r + 1) (.loop rec')) := hI.putObj _ h (by omega) hb.1 rfl

/-- The loop over such an iterator: the body may look at its element. -/
theorem wpIn_rangeFunc_ready {g : Operand} {ps : Array Tmp} {assign body : Code} {Q : Exit → Act → World → Prop} {a : Act} {w : World}
    (hro : F.round = none) (h1 : 1 ≤ n) {gf : Nat} {lb : Array Value} (hg : a.eval g = .func (.func gf) #[] lb) (hFg : F.fn gf) (eg : ∀ args w, (callFunc gf args).run P w = .ok (.enter gf args) w)
    {encs : α → Array Value} {Kp : World → World → Prop} {R : α → World → Prop} {S Sp : List α → Prop} {N : Nat} {w0 : World} (hseq : SeqR F (n - 1) P gf lb encs Kp R S Sp N w0)
    (hKt : ∀ {A B C : World}, Kp A B → Kp B C → Kp A C) (hKb : ∀ (W : World) (l : Nat) (o o' : Obj), w.heap.size ≤ l → W.heap[l]? = some o → o.isCells = false → o.isWalk = false → Kp W (W.putObj l o'))
    (hRb : ∀ (x : α) (W : World) (l : Nat) (o o' : Obj), w.heap.size ≤ l → W.heap[l]? = some o → o.isCells = false → R x W → R x (W.putObj l o')) (hb0 : Below w0.heap.size w0 w) (hps : ∀ x, (encs x).size = ps.size)
    (I : List α → World → Prop) (Ix : Code → List α → World → Prop) (hI : OwnFrom w.heap.size I) (hIx : ∀ c, OwnFrom w.heap.size (Ix c)) (h0 : I [] w) (a₁ : α → Act)
    (hassign : ∀ (l : Nat) (x : α) (W : World) (K : Act → World → Prop), K (a₁ x) W →
      assign.wpIn (F.inRound l) (n - 1 - 1) P (Exit.then K (fun _ _ _ => False)) { tmps := (ps.zip (encs x)).foldl (fun t (p, v) => t.setIfInBounds p v) a.tmps, defers := [] } W)
    (hbody : ∀ (l : Nat) (pre : List α) (x : α) (W : World), I pre W → R x W → pre.length < N → body.wpIn (F.inRound l) (n - 1 - 1) P (ownPostG w.heap.size Kp I Ix (pre ++ [x]) W) (a₁ x) W)
    (hdone : ∀ (D : Nat) (xs : List α) (W : World), w.heap.size ≤ D → S xs → I xs W → W.heap[D]? = some (.deferred (some [])) → Q .normal { a with defers := { target := .collected D, args := #[] } :: a.defers } W)
    (hstop : ∀ (D : Nat) (c : Code) (pre : List α) (W : World), w.heap.size ≤ D → Sp pre → Ix c pre W → W.heap[D]? = some (.deferred (some [])) → c.wpIn F n P Q { a with defers := { target := .collected D, args := #[] } :: a.defers } W) :
    (Code.rangeFunc g ps assign body).wpIn F n P Q a w := by
  refine wpIn_rangeFunc fun fn hfn => ?_
  rw [hro]
  obtain ⟨b, hb⟩ : ∃ b : Loop, b = { state := .ready, pending := none, fn, tmps := a.tmps, params := ps, assign, body, defers := w.heap.size } := ⟨_, rfl⟩
  obtain ⟨W1, hW1⟩ : ∃ W1, W1 = (w.alloc (.deferred (some []))).alloc (.loop (inState b .ready none)) := ⟨_, rfl⟩
  have hB1 : Books w.heap.size (inState b .ready none) W1 := hW1 ▸ Books.first w _
  have hI1 : I [] W1 := hW1 ▸ hI.alloc _ (hI.alloc _ h0)
  have hs1 : w.heap.size ≤ W1.heap.size := by rw [hW1]; simp only [World.size_alloc]; omega
  have hw01 : Below w0.heap.size w0 W1 := by
    rw [hW1]
    exact hb0.trans ((((Below.refl _ w).alloc (Nat.le_refl _) _).alloc (by simp) _).mono hb0.size)
  have hcl : ∀ {A : World} {row : Option Nat}, (∀ r, row = some r → W1.heap.size ≤ r ∧ ∃ o : Obj, A.heap[r]? = some o ∧ o.isWalk = true) → ∀ r, row = some r → w.heap.size ≤ r ∧ ∃ o : Obj, A.heap[r]? = some o ∧ o.isCells = false :=
    fun hr r e => ⟨Nat.le_trans hs1 (hr r e).1, by obtain ⟨_, o, ho, hw⟩ := hr r e; exact ⟨o, ho, Obj.not_cells_of_walk hw⟩⟩
  have hend : ∀ (jump : Option Code) (V : World), Books w.heap.size (inState b .busy none) V → (Instr.endRound (w.heap.size + 1) jump).run P V = .ok (.bool jump.isNone) (V.putObj (w.heap.size + 1) (.loop (inState b (if jump.isNone then .ready else .done) jump))) := fun jump V h => by
    have h2 := run_endRound (P := P) jump h.1
    exact h2
  refine ⟨w.heap.size + 1, [{ target := .collected w.heap.size, args := #[] }], W1, { target := .fn (.func gf) lb, args := #[.func (.yield (w.heap.size + 1)) #[] #[]] }, W1, gf, #[.func (.yield (w.heap.size + 1)) #[] #[]] ++ lb, W1, ?_, ?_, ?_, ?_, fun _ => h1, ?_⟩
  · rw [hW1, hb]
    exact run_enterLoop_outer _ _ _ _ _
  · simp only [resolve, hg]
    simp [go_sem]
  · intro f' hf'
    simp [Target.leads] at hf'
    subst hf'
    exact hFg
  · simp [invoke, go_sem, eg]
  · refine (hseq (w.heap.size + 1) (fun pre V => I pre V ∧ Books w.heap.size (inState b .ready none) V) (fun pre V => ∃ c, Ix c pre V ∧ Books w.heap.size (inState b .done (some c)) V) W1 hw01
      (fun s A B row hs hg' hr => ⟨hI s A B row hs.1 hg' (hcl hr), hs.2.step hg' fun k e => (hr k e).2⟩)
      (fun s A B row ⟨c, hc, hk⟩ hg' hr => ⟨c, hIx c s A B row hc hg' (hcl hr), hk.step hg' fun k e => (hr k e).2⟩) ?_ ⟨hI1, hB1⟩).mono ?_
    · rintro pre x V ⟨hi, hk⟩ hx hlen
      have hy := run_yield (P := P) (args := encs x) hk.1 (by rw [hb]; exact hps x)
      have hk2 : Books w.heap.size (inState b .busy none) (V.putObj (w.heap.size + 1) (.loop (inState b .busy none))) := hk.put _
      have hkp : Kp V (V.putObj (w.heap.size + 1) (.loop (inState b .busy none))) := hKb _ _ _ _ (by omega) hk.1 rfl rfl
      have hgo := hbody (w.heap.size + 1) pre x _ (own_put hI hi hk (inState b .busy none)) (hRb x V _ _ (.loop (inState b .busy none)) (by omega) hk.1 rfl hx) hlen
      rw [hb] at hy
      refine ⟨fn, _, assign, body, hy, roundIn_of_wpIn hfn (hassign _ x V _ ⟨_, run_beginRound (hb ▸ hk.1) rfl, ?_⟩)⟩
      rw [hb] at hgo
      refine wpIn_mono hgo ?_
      rw [← hb]
      rintro e a3 V3 hp
      cases e with
      | normal =>
        have hk3 := hk2.from_ hp.1
        exact ⟨_, _, hend none V3 hk3, .inl ⟨rfl, ⟨own_put hI hp.2.2 hk3 _, hk3.put _⟩, hKt (hKt hkp hp.2.1) (hKb _ _ _ _ (by omega) hk3.1 rfl rfl)⟩⟩
      | ret =>
        have hk3 := hk2.from_ hp.1
        exact ⟨_, _, hend (some .ret) V3 hk3, .inr ⟨rfl, .ret, own_put (hIx _) hp.2 hk3 _, hk3.put _⟩⟩
      | exit id =>
        have hk3 := hk2.from_ hp.1
        exact ⟨_, _, hend (some (.exit id)) V3 hk3, .inr ⟨rfl, .exit id, own_put (hIx _) hp.2 hk3 _, hk3.put _⟩⟩
      | goto t =>
        have hk3 := hk2.from_ hp.1
        exact ⟨_, _, hend (some (.goto t)) V3 hk3, .inr ⟨rfl, .goto t, own_put (hIx _) hp.2 hk3 _, hk3.put _⟩⟩
      | panic ch => exact hp.elim
      | outgrown => exact hp.elim
    · rintro e W2 ⟨⟨v, rfl⟩, hor⟩
      rcases hor with ⟨xs, hS, hi, hk⟩ | ⟨pre, hSp, c, hi, hk⟩
      · exact ⟨none, _, run_endLoop hk.1 (by simp [inState]), hdone _ xs _ (Nat.le_refl _) hS (own_put hI hi hk _) (hk.put _).2⟩
      · exact ⟨some c, _, run_endLoop hk.1 (by simp [inState]), hstop _ c pre _ (Nat.le_refl _) hSp (own_put (hIx c) hi hk _) (hk.put _).2⟩
end
end Go.Proofs.Ytaekjnjignlmoaa

namespace Go.Proofs.Ytaekjnjignlmoaa
open Go.RowKit

/-- Each operation waits for earlier ones alone; ol waits for all of ops. -/
def lastB (md : Region.Mode) (ops : Array Oper) (ol : Oper) : Bool :=
  (List.range ops.size).all (fun i => match ops[i]? with
    | some o => o.after.all (fun e => !Region.binds md e || decide (e.on < i)) && (match o.guard with
      | none => true
      | some (j, _) => decide (j < ops.size))
    | none => true) &&
  ((List.range ops.size).all (fun i => ol.after.any fun e => Region.binds md e && e.on == i) && (ol.after.all (fun e => !Region.binds md e || decide (e.on < ops.size)) && ol.guard.isNone))
/-- What is asked behind the others: the last operation. -/
def lastQ (P : Program) (ol : Oper) (Q : Exit → Act → World → Prop) : Exit → Act → World → Prop
  | .normal, a, w => ol.wp P a w (fun a' w' => Q .normal a' w') Q
  | .panic c, a, w => Q (.panic c) a w
  | .outgrown, a, w => Q .outgrown a w
  | _, _, _ => False

section
variable {P : Program} {ops : Array Oper} {ol : Oper} {Q : Exit → Act → World → Prop} {md : Region.Mode}
theorem lastB_spec (h : lastB md ops ol = true) : (∀ i o, ops[i]? = some o → (∀ e ∈ o.after, Region.binds md e = true → e.on < i) ∧ ∀ j b, o.guard = some (j, b) → j < ops.size) ∧
    (∀ i, i < ops.size → ∃ e ∈ ol.after, Region.binds md e = true ∧ e.on = i) ∧ (∀ e ∈ ol.after, Region.binds md e = true → e.on < ops.size) ∧ ol.guard = none := by
  unfold lastB at h
  rw [Bool.and_eq_true, Bool.and_eq_true, Bool.and_eq_true] at h
  obtain ⟨h1, h2, h3, h4⟩ := h
  refine ⟨fun i o ho => ?_, fun i hi => ?_, fun e he hb => ?_, by simpa using h4⟩
  · have hi : i < ops.size := (Array.getElem?_eq_some_iff.1 ho).1
    have h := List.all_eq_true.1 h1 i (List.mem_range.2 hi)
    rw [ho] at h
    simp only [Bool.and_eq_true] at h
    refine ⟨fun e he hb => ?_, fun j b hg => ?_⟩
    · have := Array.all_eq_true_iff_forall_mem.1 h.1 e he
      rw [hb] at this
      simpa using this
    · have h5 := h.2
      rw [hg] at h5
      simpa using h5
  · have h := List.all_eq_true.1 h2 i (List.mem_range.2 hi)
    obtain ⟨e, he, hb⟩ := Array.any_eq_true'.1 h
    rw [Bool.and_eq_true, beq_iff_eq] at hb
    exact ⟨e, he, hb.1, hb.2⟩
  · have := Array.all_eq_true_iff_forall_mem.1 h3 e he
    rw [hb] at this
    simpa using this
theorem push_get {i : Nat} (hi : i < ops.size) : (ops.push ol)[i]? = ops[i]? := by rw [Array.getElem?_push, if_neg (by omega)]
theorem push_false (listed : Array Bool) (k : Nat) : (listed.push false).getD k false = listed.getD k false := by
  rw [Array.getD_eq_getD_getElem?, Array.getD_eq_getD_getElem?, Array.getElem?_push]
  split
  · rename_i h
    subst h
    simp
  · rfl
theorem push_true {listed : Array Bool} {k : Nat} (hk : k < listed.size) : (listed.push false).getD k true = listed.getD k true := by
  rw [Array.getD_eq_getD_getElem?, Array.getD_eq_getD_getElem?, Array.getElem?_push, if_neg (by omega)]
theorem ready_lt {listed : Array Bool} {i : Nat} (hs : listed.size = ops.size) (hi : i < ops.size) : i ∈ Region.ready md (ops.push ol) (listed.push false) ↔ i ∈ Region.ready md ops listed := by
  rw [mem_ready, mem_ready, push_get hi, push_true (by omega)]
  simp only [push_false]
/-- Whichever is the first that has not come up may come up. -/
theorem ready_some {listed : Array Bool} (h : lastB md ops ol = true) (hs : listed.size = ops.size) : ∀ (k i : Nat), i ≤ k → i < ops.size → listed.getD i true = false → ∃ j, j ∈ Region.ready md ops listed := by
  obtain ⟨h1, _, _, _⟩ := lastB_spec h
  intro k
  induction k with
  | zero =>
    intro i hi hn hf
    obtain rfl : i = 0 := by omega
    refine ⟨0, mem_ready.2 ⟨hf, ops[0], Array.getElem?_eq_getElem hn, fun e he hb => ?_⟩⟩
    have := (h1 0 _ (Array.getElem?_eq_getElem hn)).1 e he hb
    omega
  | succ k ih =>
    intro i hi hn hf
    by_cases hall : ∀ j, j < i → listed.getD j true = true
    · refine ⟨i, mem_ready.2 ⟨hf, ops[i], Array.getElem?_eq_getElem hn, fun e he hb => ?_⟩⟩
      have h2 := (h1 i _ (Array.getElem?_eq_getElem hn)).1 e he hb
      have h3 := hall e.on h2
      have h4 : e.on < listed.size := by omega
      simp [h4] at h3 ⊢
      exact h3
    · have : ∃ j, j < i ∧ listed.getD j true = false := by
        refine Classical.byContradiction fun hc => hall fun j hj => ?_
        cases hb : listed.getD j true with
        | true => rfl
        | false => exact absurd ⟨j, hj, hb⟩ hc
      obtain ⟨j, hj, hjf⟩ := this
      exact ih j (by omega) (by omega) hjf
theorem wp_lastQ {o : Oper} {a : Act} {w : World} {K K' : Act → World → Prop} (hK : ∀ a w, K a w → K' a w) (h : o.wp P a w K (lastQ P ol Q)) : o.wp P a w K' Q := by
  unfold Oper.wp at *
  generalize (execOp a.eval o).run P w = r at *
  cases r with
  | ok x w' =>
    cases x with
    | value v => exact hK _ _ h
    | skip => exact hK _ _ h
    | defer d => exact hK _ _ h
    | enter f args =>
      refine Calls.mono h fun e w'' he => ?_
      cases e with
      | returned v => exact hK _ _ he
      | panicked ch => exact he
      | outgrown => exact he
    | row row args => exact Rows.mono h fun v w'' hv => hK _ _ hv
    | _ => exact h.elim
  | halt x w' =>
    cases x with
    | panic v => exact h
    | _ => exact h.elim
theorem wpOp_last {i : Nat} {a : Act} {w : World} {K K' : Act → World → Prop} (hl : lastB md ops ol = true) (hi : i < ops.size) (hK : ∀ a w, K a w → K' a w) (h : wpOp P ops (lastQ P ol Q) i K a w) : wpOp P (ops.push ol) Q i K' a w := by
  obtain ⟨h1, _, _, _⟩ := lastB_spec hl
  unfold wpOp at *
  rw [push_get hi]
  cases ho : ops[i]? with
  | none => rw [ho] at h; exact hK _ _ h
  | some o =>
    rw [ho] at h
    simp only at h ⊢
    have hw : Region.wanted o (yielded (ops.push ol) a.tmps) = Region.wanted o (yielded ops a.tmps) := by
      unfold Region.wanted
      cases hg : o.guard with
      | none => rfl
      | some p =>
        obtain ⟨j, b⟩ := p
        have hj := (h1 i o ho).2 j b hg
        simp only [yielded, push_get hj]
    rw [hw]
    split
    · rename_i hw
      rw [if_pos hw] at h
      rcases h with h | ⟨ha, b, V, hb⟩
      · exact .inl (wp_lastQ hK h)
      · exact .inr ⟨ha, b, V, hb⟩
    · rename_i hw
      rw [if_neg hw] at h
      exact hK _ _ h
theorem wpAny_last (hl : lastB md ops ol = true) : ∀ (fuel : Nat) (listed : Array Bool) (a : Act) (w : World), listed.size = ops.size → wpAny P md ops (lastQ P ol Q) fuel listed a w → wpAny P md (ops.push ol) Q (fuel + 1) (listed.push false) a w := by
  obtain ⟨h1, h2, h3, h4⟩ := lastB_spec hl
  -- the last one, where it comes up
  have key : ∀ (f : Nat) (listed : Array Bool) (a : Act) (w : World), listed.size = ops.size → ops.size ∈ Region.ready md (ops.push ol) (listed.push false) → (Region.ready md ops listed = [] → lastQ P ol Q .normal a w) →
      wpOp P (ops.push ol) Q ops.size (wpAny P md (ops.push ol) Q f ((listed.push false).setIfInBounds ops.size true)) a w := by
    intro f listed a w hs hr hq
    obtain ⟨_, o, ho, hall⟩ := mem_ready.1 hr
    have ho2 : (ops.push ol)[ops.size]? = some ol := by simp
    obtain rfl : ol = o := Option.some.inj (ho2.symm.trans ho)
    have hev : ∀ i, i < ops.size → listed.getD i false = true := fun i hi => by
      obtain ⟨e, he, hb, hon⟩ := h2 i hi
      have := hall e he hb
      rw [hon, push_false] at this
      exact this
    have hnone : Region.ready md ops listed = [] := by
      refine List.eq_nil_iff_forall_not_mem.2 fun i hi => ?_
      obtain ⟨h5, oi, hoi, _⟩ := mem_ready.1 hi
      have hin : i < ops.size := (Array.getElem?_eq_some_iff.1 hoi).1
      have h6 := hev i hin
      have h7 : i < listed.size := by omega
      simp [h7] at h5 h6
      rw [h5] at h6
      cases h6
    have hdone : Region.ready md (ops.push ol) ((listed.push false).setIfInBounds ops.size true) = [] := by
      refine List.eq_nil_iff_forall_not_mem.2 fun i hi => ?_
      obtain ⟨h5, oi, hoi, _⟩ := mem_ready.1 hi
      have hin : i < (ops.push ol).size := (Array.getElem?_eq_some_iff.1 hoi).1
      rw [Array.size_push] at hin
      rcases Nat.lt_or_ge i ops.size with hin2 | hin2
      · rw [getD_set_ne true (by omega), push_true (by omega)] at h5
        have h6 := hev i hin2
        have h7 : i < listed.size := by omega
        simp [h7] at h5 h6
        rw [h5] at h6
        cases h6
      · obtain rfl : i = ops.size := by omega
        simp [hs] at h5
    have hgo : ∀ a' w', Q .normal a' w' → wpAny P md (ops.push ol) Q f ((listed.push false).setIfInBounds ops.size true) a' w' := fun a' w' hq' => by
      cases f with
      | zero => exact ⟨hdone, hq'⟩
      | succ f => exact ⟨fun _ => hq', by rw [hdone]; simp⟩
    unfold wpOp
    rw [ho2]
    simp only [Region.wanted, h4, if_true]
    exact .inl (Oper.wp_mono hgo (hq hnone))
  intro fuel
  induction fuel with
  | zero =>
    intro listed a w hs h
    obtain ⟨hr, hq⟩ := h
    have hno : ∀ i, i < ops.size → listed.getD i false = true := fun i hi => by
      cases hb : listed.getD i false with
      | true => rfl
      | false =>
        have h7 : i < listed.size := by omega
        obtain ⟨j, hj⟩ := ready_some hl hs i i (Nat.le_refl _) hi (by simp [h7] at hb ⊢; exact hb)
        rw [hr] at hj
        cases hj
    have hn : ops.size ∈ Region.ready md (ops.push ol) (listed.push false) := mem_ready.2 ⟨by simp [← hs], ol, by simp, fun e he hb => by rw [push_false]; exact hno _ (h3 e he hb)⟩
    refine ⟨fun h0 => (by rw [h0] at hn; cases hn), fun i hi => ?_⟩
    obtain ⟨_, oi, hoi, _⟩ := mem_ready.1 hi
    have hin : i < (ops.push ol).size := (Array.getElem?_eq_some_iff.1 hoi).1
    rw [Array.size_push] at hin
    rcases Nat.lt_or_ge i ops.size with hin2 | hin2
    · rw [ready_lt hs hin2, hr] at hi
      cases hi
    · obtain rfl : i = ops.size := by omega
      exact key 0 listed a w hs hi (fun _ => hq)
  | succ f ih =>
    intro listed a w hs h
    obtain ⟨hq, hall⟩ := h
    refine ⟨fun h0 => ?_, fun i hi => ?_⟩
    · exfalso
      by_cases hev : ∀ i, i < ops.size → listed.getD i false = true
      · have hn : ops.size ∈ Region.ready md (ops.push ol) (listed.push false) := mem_ready.2 ⟨by simp [← hs], ol, by simp, fun e he hb => by rw [push_false]; exact hev _ (h3 e he hb)⟩
        rw [h0] at hn
        cases hn
      · have : ∃ i, i < ops.size ∧ listed.getD i false = false := by
          refine Classical.byContradiction fun hc => hev fun j hj => ?_
          cases hb : listed.getD j false with
          | true => rfl
          | false => exact absurd ⟨j, hj, hb⟩ hc
        obtain ⟨i, hi, hb⟩ := this
        have h7 : i < listed.size := by omega
        obtain ⟨j, hj⟩ := ready_some hl hs i i (Nat.le_refl _) hi (by simp [h7] at hb ⊢; exact hb)
        obtain ⟨_, oj, hoj, _⟩ := mem_ready.1 hj
        have hjn : j < ops.size := (Array.getElem?_eq_some_iff.1 hoj).1
        rw [← ready_lt (ol := ol) hs hjn, h0] at hj
        cases hj
    · obtain ⟨_, oi, hoi, _⟩ := mem_ready.1 hi
      have hin : i < (ops.push ol).size := (Array.getElem?_eq_some_iff.1 hoi).1
      rw [Array.size_push] at hin
      rcases Nat.lt_or_ge i ops.size with hin2 | hin2
      · rw [ready_lt hs hin2] at hi
        have e : (listed.push false).setIfInBounds i true = (listed.setIfInBounds i true).push false := by
          apply Array.ext'
          have h8 : i < listed.toList.length := by simpa [hs] using hin2
          simp only [Array.toList_setIfInBounds, Array.toList_push]
          rw [List.set_append_left _ _ h8]
        rw [e]
        exact wpOp_last hl hin2 (fun a' w' h' => ih _ a' w' (by simp [hs]) h') (hall i hi)
      · obtain rfl : i = ops.size := by omega
        exact key (f + 1) listed a w hs hi hq
theorem replicate_push (n : Nat) : Array.replicate (n + 1) false = (Array.replicate n false).push false := by rw [Array.replicate_succ]
/-- The others in every order, by a held condition; then the last one. -/
theorem wp_region_last {id : Nat} {a : Act} {w : World} (S : World → Prop) (hm : P.follows .mixedOrders = true) (hl : lastB .any ops ol = true) (hS : S w.drew)
    (h : S w.drew → wpAnyH P .any ops (lastQ P ol Q) S ops.size (Array.replicate ops.size false) a w.drew) : (Code.region id (ops.push ol) true).wp P Q a w :=
  wp_region_any hm (by
    rw [Array.size_push, replicate_push]
    exact wpAny_last hl _ _ _ _ (by simp) (wpAny_of_held _ _ _ _ (h hS)))
theorem round_last {l n id : Nat} {a : Act} {w : World} (S : World → Prop) (hm : P.follows .mixedOrders = true) (hl : lastB .any ops ol = true) (hd : (ops.push ol).all noDefer = true) (hQ : ∀ a w, ¬ Q .outgrown a w) (hS : S w.drew)
    (h : S w.drew → wpAnyH P .any ops (lastQ P ol Q) S ops.size (Array.replicate ops.size false) a w.drew) : (Code.region id (ops.push ol) true).wpIn (Fence.wide.inRound l) n P Q a w :=
  wpIn_region_any hm (wpAnyIn_of_wpAny hd hQ _ _ _ _ (by
    rw [Array.size_push, replicate_push]
    exact wpAny_last hl _ _ _ _ (by simp) (wpAny_of_held _ _ _ _ (h hS))))
theorem toArray_last {l : List Oper} (ho : l.getLast? = some ol) : l.toArray = l.dropLast.toArray.push ol := by
  have hne : l ≠ [] := by rintro rfl; cases ho
  have h := List.dropLast_concat_getLast hne
  have e : l.getLast hne = ol := by rw [List.getLast?_eq_some_getLast hne] at ho; exact Option.some.inj ho
  rw [e] at h
  conv => lhs; rw [← h]
  simp
theorem wp_region_lastL {l : List Oper} {id : Nat} {a : Act} {w : World} (S : World → Prop) (hm : P.follows .mixedOrders = true) (ho : l.getLast? = some ol) (hl : lastB .any l.dropLast.toArray ol = true) (hS : S w.drew)
    (h : S w.drew → wpAnyH P .any l.dropLast.toArray (lastQ P ol Q) S l.dropLast.length (Array.replicate l.dropLast.length false) a w.drew) : (Code.region id l.toArray true).wp P Q a w := by
  rw [toArray_last ho]
  exact wp_region_last S hm hl hS (by simpa only [List.size_toArray] using h)
theorem round_lastL {l : List Oper} {lp n id : Nat} {a : Act} {w : World} (S : World → Prop) (hm : P.follows .mixedOrders = true) (ho : l.getLast? = some ol) (hl : lastB .any l.dropLast.toArray ol = true) (hd : l.toArray.all noDefer = true) (hQ : ∀ a w, ¬ Q .outgrown a w) (hS : S w.drew)
    (h : S w.drew → wpAnyH P .any l.dropLast.toArray (lastQ P ol Q) S l.dropLast.length (Array.replicate l.dropLast.length false) a w.drew) : (Code.region id l.toArray true).wpIn (Fence.wide.inRound lp) n P Q a w := by
  rw [toArray_last ho] at hd ⊢
  exact round_last S hm hl hd hQ hS (by simpa only [List.size_toArray] using h)
end
end Go.Proofs.Ytaekjnjignlmoaa
