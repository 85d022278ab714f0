/-
  A call over frozen blocks that makes one block of numbers: its run with numbers of its own, as a known call of another run.
-/
import Derived.Test.YtibmpjhffeinoaaGreatN
namespace Go.Proofs.YtibmpjhffeinoaaGreat.Kx
open Go Go.RowKit

noncomputable section
section
variable [Val] [Bet] {P : Program} {φ : Phi} {h h' : AH} {w w' : World}
omit [Val] [Bet] in
theorem flat_i64 {x : AV} (h : i64A x = true) : flatL x = true := by
  unfold i64A at h
  split at h
  · rfl
  · rfl
  · cases h
/-- What a run has to end with. -/
def waysB (q : Option Res) (nn : Nat) (cs2 : List AV) : Bool := match q with
  | some (.val (.tup [.sl (some (i, 0)) m (.k c), .int .i64 0]) hh) => ite_ (Nat.beq m nn) (ite_ (Nat.beq c nn) (ite_ (allB i64A cs2) (getK false hh.t i fun ao => match ao with
    | .cells cs => eqFs cs cs2
    | _ => false) false) false) false
  | _ => false
theorem ways_call {orc : List (Nat × AV × AV × AV)} {n f nn : Nat} {args2 cs2 : List AV} {hb2 : AH} {us : List Value} (ho : OrcOK orc) (he : waysB (run (exeO orc [] []) n (.call (.func f) args2 hb2)) nn cs2 = true) (hR : R φ hb2 w) (hz : ∀ i a, hb2.get i = some a → a.isF = true) (hx : VRs φ args2 us) :
    (∀ u w, (callFunc f u).run Tryz.prog w = .ok (.enter f u) w) ∧ ∀ m, CallsIn (Fro none) m Tryz.prog f us.toArray w (fun e w' => ∃ (g : Nat) (d : Nat × Nat) (cs' : Array Value) (ee : TypeId), e = .returned (.tuple #[.slice (some ⟨g, d.1, none⟩) nn nn, .int .i64 0]) ∧ w.heap.size ≤ g ∧ w'.heap[g]? = some (.cells cs' ee (0, 0)) ∧ cs'.size = d.2 ∧
      (∀ j x, cs2[j]? = some x → ∃ v, cs'[d.1 + j]? = some v ∧ VR φ x v ∧ v.oneCell' = true) ∧ Below w.heap.size w w') := by
  unfold waysB at he
  split at he
  · rename_i i m c hh hq
    obtain ⟨h3, h4⟩ := ite_and he
    obtain ⟨h5, h6⟩ := ite_and h4
    obtain ⟨h7, h8⟩ := ite_and h6
    obtain rfl := beq_true' h3
    obtain rfl := beq_true' h5
    have hcs : hh.get i = some (.cells cs2) := by
      rw [getK_eq] at h8
      cases hg : hh.t.get i with
      | none => rw [hg] at h8; cases h8
      | some ao =>
        rw [hg] at h8
        cases ao <;> try (cases h8; done)
        rw [← eqFs_true _ h8]
        exact AH.get_of hg (by simp)
    obtain ⟨c1, c2⟩ := exeO_sound ho (l := []) (ms := []) (fun f hf => by cases hf) (fun e he => by cases he) n _ _ hq φ w us hR hx
    refine ⟨c1, fun k => (c2 k).mono fun e w' hb => ?_⟩
    obtain ⟨u, φ', rfl, b1, b2, b3⟩ := hb
    obtain ⟨g, d, o, k1, k2, cc, ee, rfl, k3, k4⟩ := b2.obj _ _ hcs
    refine ⟨g, d, cc, ee, ?_, ?_, k2, k3, fun j x hj => ?_, StF.below ⟨_, _, hz, b3⟩⟩
    · cases b1 with
      | tup _ us' hvs =>
        have : us' = us'.toList.toArray := by simp
        rw [this]
        generalize us'.toList = vs at hvs
        cases hvs with
        | cons _ v0 _ vs h9 h10 =>
          cases h10 with
          | cons _ v1 _ vs h11 h12 =>
            cases h12
            cases h11
            cases h9 with
            | sl _ _ g' d' _ _ hp =>
              rw [k1] at hp
              cases hp
              rfl
    · refine Nat.le_of_not_lt fun hlt => ?_
      obtain ⟨j, b, z, q1, q2, _⟩ := b3.im _ _ _ _ hcs rfl k1 hlt
      rw [hz j b q1] at q2
      cases q2
    · obtain ⟨v, q1, q2, q3⟩ := k4 j x hj
      exact ⟨v, q1, flatL_VR (flat_i64 (allB_true h7 x (List.mem_of_getElem? hj))) q2, q3⟩
  · cases he
/-- Such a call, as a known one. -/
structure WP where
  f : Nat
  args : List AV
  hb : AH
  nn : Nat
  cs : List AV
def WP.v (e : WP) (i : Nat) : AV := .tup [.sl (some (i, 0)) e.nn (.k e.nn), .int .i64 0]
/-- So many of the numbered blocks. -/
def cutP (φ : Phi) (n : Nat) : Phi := fun i => if i < n then φ i else none
def refF (n : Nat) (x : AV) : Bool := match x with
  | .int _ _ => true
  | .lin _ _ _ => true
  | .sl (some (i, _)) _ (.u _) => Nat.blt i n
  | _ => false
def refB (n : Nat) (x : AV) : Bool := match x with
  | .agg xs => allB (refF n) xs
  | x => refF n x
omit [Bet] in
theorem refF_VR {n : Nat} {x : AV} {v : Value} (h : refF n x = true) (hv : VR φ x v) : VR (cutP φ n) x v := by
  unfold refF at h
  split at h
  · cases hv; exact .int _ _
  · cases hv with
    | lin _ _ _ _ h1 h2 => exact .lin _ _ _ _ h1 h2
  · cases hv with
    | slU _ _ g d _ c _ a hp hc ha hz => exact .slU _ _ _ _ _ _ _ _ (by unfold cutP; rw [if_pos (blt_true h)]; exact hp) hc ha hz
  · cases h
omit [Bet] in
theorem refFs_VRs {n : Nat} {xs : List AV} (h : ∀ x ∈ xs, refF n x = true) : ∀ {vs : List Value}, VRs φ xs vs → VRs (cutP φ n) xs vs := by
  induction xs with
  | nil => intro vs hv; cases hv; exact .nil
  | cons x xs ih =>
    intro vs hv
    cases hv with
    | cons _ v _ vs h1 h2 => exact .cons _ _ _ _ (refF_VR (h x List.mem_cons_self) h1) (ih (fun y hy => h y (List.mem_cons_of_mem _ hy)) h2)
omit [Bet] in
theorem refB_VR {n : Nat} {x : AV} {v : Value} (h : refB n x = true) (hv : VR φ x v) : VR (cutP φ n) x v := by
  unfold refB at h
  split at h
  · cases hv with
    | agg _ us hs => exact .agg _ _ (refFs_VRs (allB_true h) hs)
  · exact refF_VR h hv
omit [Bet] in
theorem refBs_VRs {n : Nat} {xs : List AV} (h : ∀ x ∈ xs, refB n x = true) : ∀ {vs : List Value}, VRs φ xs vs → VRs (cutP φ n) xs vs := by
  induction xs with
  | nil => intro vs hv; cases hv; exact .nil
  | cons x xs ih =>
    intro vs hv
    cases hv with
    | cons _ v _ vs h1 h2 => exact .cons _ _ _ _ (refB_VR (h x List.mem_cons_self) h1) (ih (fun y hy => h y (List.mem_cons_of_mem _ hy)) h2)
theorem R.cut {h1 : AH} (hR : R φ h w) (hs : subT leO h1.t h.t = true) (hq : ∀ i a, h1.get i = some a → i < h1.nx ∧ a.isF = true ∧ ∀ cs, a = .froz cs → ∀ x ∈ cs, refF h1.nx x = true) : R (cutP φ h1.nx) h1 w := by
  have hn : ∀ i a, h1.get i = some a → i < h1.nx := fun i a hi => (hq i a hi).1
  have hfz : ∀ i a, h1.get i = some a → a.isF = true := fun i a hi => (hq i a hi).2.1
  have hfl : ∀ i cs, h1.get i = some (.froz cs) → ∀ (j : Nat) x, cs[j]? = some x → ∀ v, VR φ x v → VR (cutP φ h1.nx) x v := fun i cs hi j x hj v hv => refF_VR ((hq i _ hi).2.2 cs rfl x (List.mem_of_getElem? hj)) hv
  have key : ∀ i a, h1.get i = some a → ∃ b, h.get i = some b ∧ leO a b = true := fun i a hi => by
    obtain ⟨q1, _⟩ := AH.of_get hi
    obtain ⟨b, q2, q3⟩ := subT_get _ hs i a q1
    exact ⟨b, AH.get_of q2 (by rintro rfl; cases a <;> cases q3), q3⟩
  have cp : ∀ i p, cutP φ h1.nx i = some p → i < h1.nx ∧ φ i = some p := fun i p hp => by
    unfold cutP at hp
    split at hp
    · exact ⟨‹_›, hp⟩
    · cases hp
  refine ⟨fun i a hi => ?_, fun i j a b g d e hi hj hp hq => ?_, fun i p hp => (cp i p hp).1⟩
  · obtain ⟨b, q1, q2⟩ := key i a hi
    obtain ⟨g, d, o, q3, q4, q5⟩ := hR.obj i b q1
    have hc : cutP φ h1.nx i = some (g, d) := by unfold cutP; rw [if_pos (hn i a hi)]; exact q3
    refine ⟨g, d, o, hc, q4, ?_⟩
    cases a with
    | froz cs =>
      cases b <;> try (cases q2; done)
      obtain ⟨c, e, p, rfl, hz, hx⟩ := leO_OR q2 q5
      refine ⟨c, e, p, rfl, hz, fun j x hj => ?_⟩
      obtain ⟨v, v1, v2, v3⟩ := hx j x hj
      exact ⟨v, v1, hfl i cs hi j x hj v v2, v3⟩
    | _ => exact absurd (hfz i _ hi) (by simp [AO.isF])
  · obtain ⟨a', q1, q2⟩ := key i a hi
    obtain ⟨b', q3, q4⟩ := key j b hj
    rw [leO_isF q2, leO_isF q4]
    exact hR.inj i j a' b' g d e q1 q3 (cp i _ hp).2 (cp j _ hq).2
def WOK (P : Program) (e : WP) : Prop := (∀ x ∈ e.cs, flatL x = true) ∧ (∀ x ∈ e.args, refB e.hb.nx x = true) ∧ (∀ i a, e.hb.get i = some a → i < e.hb.nx ∧ a.isF = true ∧ ∀ cs, a = .froz cs → ∀ x ∈ cs, refF e.hb.nx x = true) ∧ ∀ (φ : Phi) (w : World) (us : List Value), R φ e.hb w → VRs φ e.args us → (∀ u w, (callFunc e.f u).run P w = .ok (.enter e.f u) w) ∧ ∀ m, CallsIn (Fro none) m P e.f us.toArray w (fun en w' => ∃ (g : Nat) (d : Nat × Nat) (cs' : Array Value) (ee : TypeId), en = .returned (.tuple #[.slice (some ⟨g, d.1, none⟩) e.nn e.nn, .int .i64 0]) ∧ w.heap.size ≤ g ∧ w'.heap[g]? = some (.cells cs' ee (0, 0)) ∧ cs'.size = d.2 ∧
    (∀ j x, e.cs[j]? = some x → ∃ v, cs'[d.1 + j]? = some v ∧ VR φ x v ∧ v.oneCell' = true) ∧ Below w.heap.size w w')
theorem wp_ok {e : WP} (hm : WOK P e) (hl : subT leO e.hb.t h.t = true) (n1 : h'.nx = h.nx + 1) (n2 : ∀ m a, h'.get m = some a → (m = h.nx ∧ a = .cells e.cs) ∨ (m ≠ h.nx ∧ h.get m = some a)) : CallOK P (.func e.f) e.args h (e.v h.nx) h' := by
  obtain ⟨hcs, ha, hq, hm⟩ := hm
  intro φ w us hR hx
  obtain ⟨c1, c2⟩ := hm _ w us (R.cut hR hl hq) (refBs_VRs ha hx)
  refine ⟨c1, fun n => (c2 n).mono fun en w' hb => ?_⟩
  obtain ⟨g, d, c, ee, rfl, hfresh, k2, k3, k4, k5⟩ := hb
  have hx' : Ext φ (φ.upd h.nx (g, d)) := Phi.upd_ext hR.fresh
  have hold : ∀ i p, φ i = some p → (φ.upd h.nx (g, d)) i = some p := fun i p hp => hx' i p hp
  have hR' := hR.below k5
  have old : ∀ i x, h.get i = some x → ∃ g1 d1, φ i = some (g1, d1) ∧ g1 < w.heap.size := fun i x hi => by
    obtain ⟨g1, d1, o1, q1, q2, _⟩ := hR.obj i x hi
    exact ⟨g1, d1, q1, (Array.getElem?_eq_some_iff.1 q2).1⟩
  refine ⟨_, _, rfl, .tup _ _ (.cons _ _ _ _ (.sl _ _ g d _ _ (Phi.upd_same _ _)) (.cons _ _ _ _ (.int _ _) .nil)), ⟨fun i ao hi => ?_, fun i j x y g' d' e' hi hj hp hq => ?_, fun i p hp => ?_⟩, ⟨⟨hx', by omega, k5.size, fun k hk hno => k5.block k hk, fun i x g' d' hi hf hp hg => ?_, fun i x hi hf => ?_, k5.os, k5.tape, k5.output⟩, Phi.upd_old (Nat.le_refl _)⟩⟩
  · rcases n2 i ao hi with ⟨rfl, rfl⟩ | ⟨_, hi⟩
    · refine ⟨g, d, _, Phi.upd_same _ _, k2, c, ee, rfl, k3, fun j x hj => ?_⟩
      obtain ⟨v, v1, v2, v3⟩ := k4 j x hj
      exact ⟨v, v1, flatL_VR (hcs x (List.mem_of_getElem? hj)) v2, v3⟩
    · obtain ⟨g', d', o, q1, q2, q3⟩ := hR'.obj i ao hi
      exact ⟨g', d', o, hold _ _ q1, q2, q3.ext hx'⟩
  · rcases n2 i x hi with ⟨rfl, rfl⟩ | ⟨_, hi⟩ <;> rcases n2 j y hj with ⟨rfl, rfl⟩ | ⟨_, hj⟩
    · exact .inl rfl
    · exfalso
      obtain ⟨g1, d1, q1, q2⟩ := old j y hj
      rw [Phi.upd_same] at hp
      cases hp
      rw [hold _ _ q1] at hq
      cases hq
      omega
    · exfalso
      obtain ⟨g1, d1, q1, q2⟩ := old i x hi
      rw [Phi.upd_same] at hq
      cases hq
      rw [hold _ _ q1] at hp
      cases hp
      omega
    · obtain ⟨g1, d1, q1, _⟩ := old i x hi
      obtain ⟨g2, d2, q2, _⟩ := old j y hj
      rw [hold _ _ q1] at hp
      rw [hold _ _ q2] at hq
      cases hp
      cases hq
      exact hR.inj i j x y _ _ _ hi hj q1 q2
  · rcases Phi.upd_dom _ _ hp with rfl | hp
    · omega
    · have := hR.dom _ _ hp
      omega
  · rcases n2 i x hi with ⟨rfl, rfl⟩ | ⟨_, hi⟩
    · rw [Phi.upd_same] at hp
      cases hp
      omega
    · obtain ⟨g1, d1, o1, q1, _⟩ := hR.obj i x hi
      rw [hold _ _ q1] at hp
      cases hp
      exact ⟨i, x, _, hi, hf, q1⟩
  · rcases n2 i x hi with ⟨rfl, rfl⟩ | ⟨_, hi⟩
    · cases hf
    · exact ⟨x, hi, hf⟩
def eqVs (xs : List AV) : List AV → Bool := List.rec (motive := fun _ => List AV → Bool) (fun ys => List.rec true (fun _ _ _ => false) ys) (fun x _ ih ys => List.rec (motive := fun _ => Bool) false (fun y ys _ => ite_ (eqV x y) (ih ys) false) ys) xs
omit [Val] [Bet] in
theorem eqVs_true (xs : List AV) : ∀ {ys : List AV}, eqVs xs ys = true → xs = ys := by
  induction xs with
  | nil => intro ys h; cases ys with
    | nil => rfl
    | cons => cases h
  | cons x xs ih =>
    intro ys h
    cases ys with
    | nil => cases h
    | cons y ys =>
      have h' : ite_ (eqV x y) (eqVs xs ys) false = true := h
      obtain ⟨h1, h2⟩ := ite_and h'
      rw [eqV_true h1, ih h2]
def primW (l : List WP) (f : FuncId) (args : List AV) (h : AH) : Option (AV × AH) := List.rec none (fun e _ ih => ite_ (Nat.beq e.f f) (ite_ (eqVs e.args args) (ite_ (subT leO e.hb.t h.t) (newHK none h (.cells e.cs) fun h' => some (e.v h.nx, h')) ih) ih) ih) l
theorem primW_ok {l : List WP} (hl : ∀ e ∈ l, WOK P e) {f : FuncId} {args : List AV} {v : AV} (he : primW l f args h = some (v, h')) : CallOK P (.func f) args h v h' := by
  induction l with
  | nil => cases he
  | cons e l ih =>
    have he' : ite_ (Nat.beq e.f f) (ite_ (eqVs e.args args) (ite_ (subT leO e.hb.t h.t) (newHK none h (.cells e.cs) fun h' => some (e.v h.nx, h')) (primW l f args h)) (primW l f args h)) (primW l f args h) = some (v, h') := he
    have ih' := ih fun e' h' => hl e' (List.mem_cons_of_mem _ h')
    cases hb : Nat.beq e.f f with
    | false => rw [hb] at he'; exact ih' he'
    | true =>
      rw [hb, ite_true_] at he'
      cases hm : eqVs e.args args with
      | false => rw [hm] at he'; exact ih' he'
      | true =>
        rw [hm, ite_true_] at he'
        cases hh : subT leO e.hb.t h.t with
        | false => rw [hh] at he'; exact ih' he'
        | true =>
          rw [hh, ite_true_] at he'
          obtain ⟨h1, n1, n2, n3⟩ := newHK_some he'
          simp only [Option.some.injEq, Prod.mk.injEq] at n3
          obtain ⟨rfl, rfl⟩ := n3
          rw [← beq_true' hb, ← eqVs_true _ hm]
          exact wp_ok (hl e List.mem_cons_self) hh n1 n2
def exeW (orc : List (Nat × AV × AV × AV)) (l : List Nat) (ms : List ME) (ns : List MN) (ws : List WP) : Exe := ⟨envO orc, fns, fun f args h => match primW ws f args h with
  | some r => some r
  | none => match primN ns f args h with
    | some r => some r
    | none => primYM l ms f args h⟩
theorem exeW_sound {orc : List (Nat × AV × AV × AV)} {l : List Nat} {ms : List ME} {ns : List MN} {ws : List WP} (ho : OrcOK orc) (hl : ∀ f ∈ l, YesFn Tryz.prog f) (hm : ∀ e ∈ ms, MemoOK Tryz.prog e) (hn : ∀ e ∈ ns, MemoN Tryz.prog e) (hw : ∀ e ∈ ws, WOK Tryz.prog e) (n : Nat) : Sound (exeW orc l ms ns ws).E.P (run (exeW orc l ms ns ws) n) := by
  refine run_sound (X := exeW orc l ms ns ws) (tabOKO ho) keysOKO (fun f fi h => fnsOK f fi h) (fun f args h v h' he => ?_) (drawK_sound (tabOKO ho) keysOKO exe0_mixed) n
  have he' : (match primW ws f args h with
    | some r => some r
    | none => match primN ns f args h with
      | some r => some r
      | none => primYM l ms f args h) = some (v, h') := he
  split at he'
  · rename_i q hq
    cases he'
    exact primW_ok hw hq
  · split at he'
    · rename_i q hq
      cases he'
      exact primN_ok hn hq
    · unfold primYM at he'
      split at he'
      · rename_i q hq
        cases he'
        exact primMemo_ok hm hq
      · exact primOf_ok hl f args h v h' he'
/-- A call over memory that comes in, and is read alone. -/
theorem callsIn_frzW {orc : List (Nat × AV × AV × AV)} {l : List Nat} {ms : List ME} {ns : List MN} {ws : List WP} {n f : Nat} {h0 : AH} (ho : OrcOK orc) (hl : ∀ f ∈ l, YesFn Tryz.prog f) (hm : ∀ e ∈ ms, MemoOK Tryz.prog e) (hn : ∀ e ∈ ns, MemoN Tryz.prog e) (hw : ∀ e ∈ ws, WOK Tryz.prog e) {args : List AV} {us : List Value} {w : World} (hR : R φ h0 w)
    (hz : ∀ i a, h0.get i = some a → a.isF = true) (he : isVal (run (exeW orc l ms ns ws) n (.call (.func f) args h0)) isTrue = true) (hx : VRs φ args us) (m : Nat) : CallsIn (Fro none) m Tryz.prog f us.toArray w (Yes w) := by
  cases hq : run (exeW orc l ms ns ws) n (.call (.func f) args h0) with
  | none => rw [hq] at he; cases he
  | some r =>
    cases r with
    | code => rw [hq] at he; cases he
    | val v h1 =>
      rw [hq] at he
      cases v <;> try (cases he; done)
      rename_i b
      cases b with
      | false => cases he
      | true =>
        obtain ⟨_, h2⟩ := exeW_sound ho hl hm hn hw n _ _ hq φ w us hR hx
        refine (h2 m).mono fun e w' hb => ?_
        obtain ⟨u, φ', rfl, b1, b2, b3⟩ := hb
        cases b1
        exact ⟨rfl, StF.below ⟨_, _, hz, b3⟩⟩
end
/-! ### The same blocks, told by other numbers -/
section
variable {φ : Phi}
/-- Whatever the one says, the other one does. -/
def Imp (V1 V2 : Val) (x y : AV) : Prop := ∀ (φ : Phi) (v : Value), @VR V1 φ x v → @VR V2 φ y v
theorem Imp.sl {V1 V2 : Val} (i n s : Nat) : Imp V1 V2 (.sl (some (i, 0)) n (.u s)) (.sl (some (i, 0)) n (.u s)) := fun φ v h => by
  cases h with
  | slU _ _ g d _ c _ a hp hc ha hz => exact .slU _ _ _ _ _ _ _ _ hp hc ha hz
theorem Imp.num {V1 V2 : Val} {x y : AV} (hx : i64A x = true) (hy : i64A y = true) (hb : @bndA V2 y) (he : @numA V1 x = @numA V2 y) : Imp V1 V2 x y := fun φ v h => by
  rw [@numA_val V1 φ x v hx h]
  exact @numA_VR V2 φ y hy hb _ he
def Imps (V1 V2 : Val) : List AV → List AV → Prop
  | [], [] => True
  | x :: xs, y :: ys => Imp V1 V2 x y ∧ Imps V1 V2 xs ys
  | _, _ => False
theorem Imps.get {V1 V2 : Val} : ∀ {xs ys : List AV}, Imps V1 V2 xs ys → ∀ (j : Nat) (y : AV), ys[j]? = some y → ∃ x, xs[j]? = some x ∧ Imp V1 V2 x y
  | [], [], _, j, y, h => by simp at h
  | x :: xs, y :: ys, h, j, z, hz => by
    cases j with
    | zero => simp at hz; subst hz; exact ⟨x, rfl, h.1⟩
    | succ j =>
      simp at hz
      obtain ⟨u, h1, h2⟩ := Imps.get h.2 j z hz
      exact ⟨u, by simpa using h1, h2⟩
  | [], _ :: _, h, _, _, _ => h.elim
  | _ :: _, [], h, _, _, _ => h.elim
theorem Imps.vrs {V1 V2 : Val} : ∀ {xs ys : List AV} {vs : List Value}, Imps V1 V2 xs ys → @VRs V1 φ xs vs → @VRs V2 φ ys vs
  | [], [], _, _, h => by cases h; exact @VRs.nil V2 φ
  | x :: xs, y :: ys, _, hi, h => by
    cases h with
    | cons _ v _ vs h1 h2 => exact @VRs.cons V2 φ _ _ _ _ (hi.1 _ _ h1) (Imps.vrs hi.2 h2)
  | [], _ :: _, _, h, _ => h.elim
  | _ :: _, [], _, h, _ => h.elim
theorem or_imps {V1 V2 : Val} [Bet] {xs ys : List AV} (hi : Imps V1 V2 xs ys) {d : Nat × Nat} {o : Obj} (h : @OR V1 _ φ d (.froz xs) o) : @OR V2 _ φ d (.froz ys) o := by
  obtain ⟨c, e, p, rfl, hz, hc⟩ := h
  refine ⟨c, e, p, rfl, hz, fun j y hj => ?_⟩
  obtain ⟨x, h1, h2⟩ := hi.get j y hj
  obtain ⟨v, h3, h4, h5⟩ := hc j x h1
  exact ⟨v, h3, h2 _ _ h4, h5⟩
theorem Imp.agg {V1 V2 : Val} {xs ys : List AV} (h : Imps V1 V2 xs ys) : Imp V1 V2 (.agg xs) (.agg ys) := fun φ v hv => by
  cases hv with
  | agg _ us hs => exact @VR.agg V2 φ _ _ (Imps.vrs h hs)
end
end
end Go.Proofs.YtibmpjhffeinoaaGreat.Kx
