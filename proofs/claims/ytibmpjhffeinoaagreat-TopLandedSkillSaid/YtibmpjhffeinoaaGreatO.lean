/-
  The executor that is told results which bounds don't decide; calls over memory that comes in and is read alone.
-/
import Derived.Test.YtibmpjhffeinoaaGreatMm
namespace Go.Proofs.YtibmpjhffeinoaaGreat.Kx
open Go Go.RowKit

noncomputable section
def exeO (orc : List (Nat × AV × AV × AV)) (l : List Nat) (ms : List ME) : Exe := ⟨envO orc, fns, primYM l ms⟩
theorem keysOKO {orc : List (Nat × AV × AV × AV)} : KeysOK (envO orc) := fun _t _n h => keysOK _t _n h
theorem exeO_sound [Val] [Bet] {orc : List (Nat × AV × AV × AV)} {l : List Nat} {ms : List ME} (ho : OrcOK orc) (hl : ∀ f ∈ l, YesFn Tryz.prog f) (hm : ∀ e ∈ ms, MemoOK Tryz.prog e) (n : Nat) : Sound (exeO orc l ms).E.P (run (exeO orc l ms) n) := by
  refine run_sound (X := exeO orc l ms) (tabOKO ho) keysOKO (fun f fi h => fnsOK f fi h) (fun f args h v h' he => ?_) (drawK_sound (tabOKO ho) keysOKO exe0_mixed) n
  have he' : primYM l ms f args h = some (v, h') := he
  unfold primYM at he'
  split at he'
  · rename_i q hq
    cases he'
    exact primMemo_ok hm hq
  · exact primOf_ok hl f args h v h' he'
section
variable [Val] [Bet] {φ : Phi} {x y z : AV} {u v : Value}
def numA (x : AV) : Int := match x with
  | .int _ n => n
  | .lin _ c ts => c + linS ts 0
  | _ => 0
def i64A (x : AV) : Bool := match x with
  | .int .i64 _ => true
  | .lin .i64 _ _ => true
  | _ => false
def bndA (x : AV) : Prop := match x with
  | .lin _ _ ts => linB ts 0
  | _ => True
omit [Bet] in
theorem numA_val (hk : i64A x = true) (h : VR φ x v) : v = .int .i64 (numA x) := by
  unfold i64A at hk
  split at hk
  · cases h; rfl
  · cases h with
    | lin _ _ _ n hn _ => rw [hn]; rfl
  · cases hk
omit [Bet] in
theorem numA_VR (hk : i64A z = true) (hb : bndA z) {n : Int} (hn : n = numA z) : VR φ z (.int .i64 n) := by
  subst hn
  unfold i64A at hk
  split at hk
  · exact .int _ _
  · exact .lin _ _ _ _ rfl hb
  · cases hk
/-- What an entry of the oracle has to be. -/
def OrcOne (e : Nat × AV × AV × AV) : Prop := i64A e.2.1 = true ∧ i64A e.2.2.1 = true ∧
  ((e.1 = 2 ∧ i64A e.2.2.2 = true ∧ bndA e.2.2.2 ∧ numA e.2.1 * numA e.2.2.1 = numA e.2.2.2 ∧ -9223372036854775808 ≤ numA e.2.2.2 ∧ numA e.2.2.2 ≤ 9223372036854775807) ∨
   (e.1 = 0 ∧ i64A e.2.2.2 = true ∧ bndA e.2.2.2 ∧ numA e.2.1 + numA e.2.2.1 = numA e.2.2.2 ∧ -9223372036854775808 ≤ numA e.2.2.2 ∧ numA e.2.2.2 ≤ 9223372036854775807) ∨
   (∃ b, e.2.2.2 = .bool b ∧ ((e.1 = 3 ∧ (b = true ↔ numA e.2.1 = numA e.2.2.1)) ∨ (e.1 = 4 ∧ (b = true ↔ ¬ numA e.2.1 = numA e.2.2.1)) ∨ (e.1 = 5 ∧ (b = true ↔ numA e.2.1 < numA e.2.2.1)) ∨ (e.1 = 6 ∧ (b = true ↔ numA e.2.1 ≤ numA e.2.2.1)) ∨ (e.1 = 7 ∧ (b = true ↔ numA e.2.2.1 < numA e.2.1)) ∨ (e.1 = 8 ∧ (b = true ↔ numA e.2.2.1 ≤ numA e.2.1)))) ∨
   (e.1 = 100 ∧ i64A e.2.2.2 = true ∧ bndA e.2.2.2 ∧ numA e.2.2.2 = if numA e.2.2.1 < numA e.2.1 then numA e.2.2.1 else numA e.2.1) ∨
   (e.1 = 101 ∧ i64A e.2.2.2 = true ∧ bndA e.2.2.2 ∧ numA e.2.2.2 = if numA e.2.1 < numA e.2.2.1 then numA e.2.2.1 else numA e.2.1))
omit [Bet] in
theorem orcOK_of {l : List (Nat × AV × AV × AV)} (h : ∀ e ∈ l, OrcOne e) : OrcOK l := by
  intro e he φ u v hu hv
  obtain ⟨h1, h2, h3⟩ := h e he
  have hu := numA_val h1 hu
  have hv := numA_val h2 hv
  subst hu
  subst hv
  refine ⟨⟨_, _, rfl⟩, fun op hop => ?_, fun hop => ?_, fun hop => ?_⟩
  · rcases h3 with ⟨e0, h4, h5, h6, h7, h8⟩ | ⟨e0, h4, h5, h6, h7, h8⟩ | ⟨b, h4, h5⟩ | ⟨e0, _⟩ | ⟨e0, _⟩
    · rw [e0] at hop
      cases op <;> simp [codeB] at hop
      refine ⟨_, numA_VR h4 h5 rfl, fun P w t => ?_⟩
      have hw := IntWalk.i64_in (numA e.2.2.2) ⟨h7, h8⟩
      simp [binOp, Op.intArith, h6, hw] <;> rfl
    · rw [e0] at hop
      cases op <;> simp [codeB] at hop
      refine ⟨_, numA_VR h4 h5 rfl, fun P w t => ?_⟩
      have hw := IntWalk.i64_in (numA e.2.2.2) ⟨h7, h8⟩
      simp [binOp, Op.intArith, h6, hw] <;> rfl
    · rcases h5 with ⟨e0, h5⟩ | ⟨e0, h5⟩ | ⟨e0, h5⟩ | ⟨e0, h5⟩ | ⟨e0, h5⟩ | ⟨e0, h5⟩
      · rw [e0] at hop
        cases op <;> simp [codeB] at hop
        refine ⟨.bool b, by rw [h4]; exact .bool b, fun P w t => ?_⟩
        have := (show (numA e.2.1 == numA e.2.2.1) = b from by
          rw [show (numA e.2.1 == numA e.2.2.1) = decide (numA e.2.1 = numA e.2.2.1) from rfl]
          cases b with
          | true => exact decide_eq_true (h5.1 rfl)
          | false => exact decide_eq_false fun h => by cases h5.2 h)
        simp [binOp, Op.intCmp, this]
      · rw [e0] at hop
        cases op <;> simp [codeB] at hop
        refine ⟨.bool b, by rw [h4]; exact .bool b, fun P w t => ?_⟩
        have := (show (numA e.2.1 != numA e.2.2.1) = b from by
          rw [show (numA e.2.1 != numA e.2.2.1) = !decide (numA e.2.1 = numA e.2.2.1) from rfl]
          cases b with
          | true => rw [decide_eq_false (h5.1 rfl)]; rfl
          | false => rw [decide_eq_true (Decidable.byContradiction fun h => by cases h5.2 h)]; rfl)
        simp [binOp, Op.intCmp, this]
      · rw [e0] at hop
        cases op <;> simp [codeB] at hop
        refine ⟨.bool b, by rw [h4]; exact .bool b, fun P w t => ?_⟩
        have := (show decide (numA e.2.1 < numA e.2.2.1) = b from by
          cases b with
          | true => exact decide_eq_true (h5.1 rfl)
          | false => exact decide_eq_false fun h => by cases h5.2 h)
        simp [binOp, Op.intCmp, this]
      · rw [e0] at hop
        cases op <;> simp [codeB] at hop
        refine ⟨.bool b, by rw [h4]; exact .bool b, fun P w t => ?_⟩
        have := (show decide (numA e.2.1 ≤ numA e.2.2.1) = b from by
          cases b with
          | true => exact decide_eq_true (h5.1 rfl)
          | false => exact decide_eq_false fun h => by cases h5.2 h)
        simp [binOp, Op.intCmp, this]
      · rw [e0] at hop
        cases op <;> simp [codeB] at hop
        refine ⟨.bool b, by rw [h4]; exact .bool b, fun P w t => ?_⟩
        have := (show decide (numA e.2.2.1 < numA e.2.1) = b from by
          cases b with
          | true => exact decide_eq_true (h5.1 rfl)
          | false => exact decide_eq_false fun h => by cases h5.2 h)
        simp [binOp, Op.intCmp, this]
      · rw [e0] at hop
        cases op <;> simp [codeB] at hop
        refine ⟨.bool b, by rw [h4]; exact .bool b, fun P w t => ?_⟩
        have := (show decide (numA e.2.2.1 ≤ numA e.2.1) = b from by
          cases b with
          | true => exact decide_eq_true (h5.1 rfl)
          | false => exact decide_eq_false fun h => by cases h5.2 h)
        simp [binOp, Op.intCmp, this]
    · rw [e0] at hop
      cases op <;> simp [codeB] at hop
    · rw [e0] at hop
      cases op <;> simp [codeB] at hop
  · rcases h3 with ⟨e0, _⟩ | ⟨e0, _⟩ | ⟨_, _, h5⟩ | ⟨e0, h4, h5, h6⟩ | ⟨e0, _⟩
    · rw [e0] at hop; cases hop
    · rw [e0] at hop; cases hop
    · rcases h5 with ⟨e0, _⟩ | ⟨e0, _⟩ | ⟨e0, _⟩ | ⟨e0, _⟩ | ⟨e0, _⟩ | ⟨e0, _⟩ <;> (rw [e0] at hop; cases hop)
    · refine ⟨_, numA_VR h4 h5 rfl, fun P w ts ty => ?_⟩
      rw [h6]
      by_cases hab : numA e.2.2.1 < numA e.2.1
      · rw [if_pos hab]; simp [Builtin.min_, Builtin.min2, hab]
      · rw [if_neg hab]; simp [Builtin.min_, Builtin.min2, hab]
    · rw [e0] at hop; cases hop
  · rcases h3 with ⟨e0, _⟩ | ⟨e0, _⟩ | ⟨_, _, h5⟩ | ⟨e0, _⟩ | ⟨e0, h4, h5, h6⟩
    · rw [e0] at hop; cases hop
    · rw [e0] at hop; cases hop
    · rcases h5 with ⟨e0, _⟩ | ⟨e0, _⟩ | ⟨e0, _⟩ | ⟨e0, _⟩ | ⟨e0, _⟩ | ⟨e0, _⟩ <;> (rw [e0] at hop; cases hop)
    · rw [e0] at hop; cases hop
    · refine ⟨_, numA_VR h4 h5 rfl, fun P w ts ty => ?_⟩
      rw [h6]
      by_cases hab : numA e.2.1 < numA e.2.2.1
      · rw [if_pos hab]; simp [Builtin.max_, Builtin.max2, hab]
      · rw [if_neg hab]; simp [Builtin.max_, Builtin.max2, hab]
section
variable {x y z : AV} {t s u : Int}
omit [Bet]
theorem orc_mul (hx : i64A x = true) (hy : i64A y = true) (hz : i64A z = true) (hb : bndA z) (ex : numA x = t) (ey : numA y = s) (ez : numA z = u) (h : t * s = u) (hl : -9223372036854775808 ≤ u) (hu : u ≤ 9223372036854775807) : OrcOne (2, x, y, z) :=
  ⟨hx, hy, .inl ⟨rfl, hz, hb, by show numA x * numA y = numA z; rw [ex, ey, ez]; exact h, by show _ ≤ numA z; rw [ez]; exact hl, by show numA z ≤ _; rw [ez]; exact hu⟩⟩
theorem orc_add (hx : i64A x = true) (hy : i64A y = true) (hz : i64A z = true) (hb : bndA z) (ex : numA x = t) (ey : numA y = s) (ez : numA z = u) (h : t + s = u) (hl : -9223372036854775808 ≤ u) (hu : u ≤ 9223372036854775807) : OrcOne (0, x, y, z) :=
  ⟨hx, hy, .inr (.inl ⟨rfl, hz, hb, by show numA x + numA y = numA z; rw [ex, ey, ez]; exact h, by show _ ≤ numA z; rw [ez]; exact hl, by show numA z ≤ _; rw [ez]; exact hu⟩)⟩
theorem orc_min (hx : i64A x = true) (hy : i64A y = true) (hz : i64A z = true) (hb : bndA z) (ex : numA x = t) (ey : numA y = s) (ez : numA z = u) (h : u = if s < t then s else t) : OrcOne (100, x, y, z) :=
  ⟨hx, hy, .inr (.inr (.inr (.inl ⟨rfl, hz, hb, by show numA z = if numA y < numA x then numA y else numA x; rw [ex, ey, ez]; exact h⟩)))⟩
theorem orc_max (hx : i64A x = true) (hy : i64A y = true) (hz : i64A z = true) (hb : bndA z) (ex : numA x = t) (ey : numA y = s) (ez : numA z = u) (h : u = if t < s then s else t) : OrcOne (101, x, y, z) :=
  ⟨hx, hy, .inr (.inr (.inr (.inr ⟨rfl, hz, hb, by show numA z = if numA x < numA y then numA y else numA x; rw [ex, ey, ez]; exact h⟩)))⟩
omit [Val] in
theorem iff_f {p : Prop} (h : ¬ p) : (false = true) ↔ p := ⟨(fun h => by cases h), fun q => absurd q h⟩
omit [Val] in
theorem iff_t {p : Prop} (h : p) : (true = true) ↔ p := ⟨fun _ => h, fun _ => rfl⟩
theorem orc_ne0 (hx : i64A x = true) (hy : i64A y = true) (ex : numA x = t) (ey : numA y = s) (h : t = s) : OrcOne (4, x, y, .bool false) := ⟨hx, hy, .inr (.inr (.inl ⟨_, rfl, .inr (.inl ⟨rfl, iff_f fun q => q (by rw [ex, ey]; exact h)⟩)⟩))⟩
theorem orc_lt0 (hx : i64A x = true) (hy : i64A y = true) (ex : numA x = t) (ey : numA y = s) (h : s ≤ t) : OrcOne (5, x, y, .bool false) := ⟨hx, hy, .inr (.inr (.inl ⟨_, rfl, .inr (.inr (.inl ⟨rfl, iff_f (by show ¬ numA x < numA y; rw [ex, ey]; omega)⟩))⟩))⟩
theorem orc_le1 (hx : i64A x = true) (hy : i64A y = true) (ex : numA x = t) (ey : numA y = s) (h : t ≤ s) : OrcOne (6, x, y, .bool true) := ⟨hx, hy, .inr (.inr (.inl ⟨_, rfl, .inr (.inr (.inr (.inl ⟨rfl, iff_t (by show numA x ≤ numA y; rw [ex, ey]; exact h)⟩)))⟩))⟩
theorem orc_gt0 (hx : i64A x = true) (hy : i64A y = true) (ex : numA x = t) (ey : numA y = s) (h : t ≤ s) : OrcOne (7, x, y, .bool false) := ⟨hx, hy, .inr (.inr (.inl ⟨_, rfl, .inr (.inr (.inr (.inr (.inl ⟨rfl, iff_f (by show ¬ numA y < numA x; rw [ex, ey]; omega)⟩))))⟩))⟩
theorem orc_ge1 (hx : i64A x = true) (hy : i64A y = true) (ex : numA x = t) (ey : numA y = s) (h : s ≤ t) : OrcOne (8, x, y, .bool true) := ⟨hx, hy, .inr (.inr (.inl ⟨_, rfl, .inr (.inr (.inr (.inr (.inr ⟨rfl, iff_t (by show numA y ≤ numA x; rw [ex, ey]; exact h)⟩))))⟩))⟩
end
/-- A call over memory that comes in, and is read alone. -/
theorem callsIn_frz {orc : List (Nat × AV × AV × AV)} {l : List Nat} {ms : List ME} {n f : Nat} {h0 : AH} (ho : OrcOK orc) (hl : ∀ f ∈ l, YesFn Tryz.prog f) (hm : ∀ e ∈ ms, MemoOK Tryz.prog e) {args : List AV} {us : List Value} {w : World} (hR : R φ h0 w) (hz : ∀ i a, h0.get i = some a → a.isF = true)
    (he : isVal (run (exeO orc l ms) n (.call (.func f) args h0)) isTrue = true) (hx : VRs φ args us) (m : Nat) : CallsIn (Fro none) m Tryz.prog f us.toArray w (Yes w) := by
  cases hq : run (exeO orc l ms) n (.call (.func f) args h0) with
  | none => rw [hq] at he; cases he
  | some r =>
    cases r with
    | code => rw [hq] at he; cases he
    | val v h1 =>
      rw [hq] at he
      cases v <;> try (cases he; done)
      rename_i b
      cases b with
      | false => cases he
      | true =>
        obtain ⟨_, h2⟩ := exeO_sound ho hl hm n _ _ hq φ w us hR hx
        refine (h2 m).mono fun e w' hb => ?_
        obtain ⟨u, φ', rfl, b1, b2, b3⟩ := hb
        cases b1
        exact ⟨rfl, StF.below ⟨_, _, hz, b3⟩⟩
/-- Blocks that come in. -/
theorem R.frz {w : World} {h0 : AH} (hz : ∀ i a, h0.get i = some a → a.isF = true ∧ i < h0.nx ∧ ∃ g d o, φ i = some (g, d) ∧ w.heap[g]? = some o ∧ OR φ d a o) (hd : ∀ i p, φ i = some p → i < h0.nx) : R φ h0 w :=
  ⟨fun i a hi => (hz i a hi).2.2, fun i j a b _ _ _ hi hj _ _ => .inr ⟨(hz i a hi).1, (hz j b hj).1⟩, hd⟩
end
end
end Go.Proofs.YtibmpjhffeinoaaGreat.Kx
