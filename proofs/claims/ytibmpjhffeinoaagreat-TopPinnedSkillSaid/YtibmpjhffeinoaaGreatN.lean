/-
  Calls whose result is known, and that make one block of numbers.
-/
import Derived.Test.YtibmpjhffeinoaaGreatO
namespace Go.Proofs.YtibmpjhffeinoaaGreat.Kx
open Go Go.RowKit

noncomputable section
variable [Val] [Bet] {X : Exe} {P : Program} {φ φ' : Phi} {h h' : AH} {w w' : World}
/-- Such a call: of these arguments, over this heap of numbers; the block's number, the slice's length, its element's size, the other results, the cells. -/
structure MN where
  f : Nat
  args : List AV
  h : AH
  n : Nat
  s : Nat
  xs : List AV
  cs : List AV
def MN.v (e : MN) (i : Nat) : AV := .tup (.sl (some (i, 0)) e.n (.u e.s) :: e.xs)
def MN.me (e : MN) : ME := ⟨e.f, e.args, e.h, .any⟩
def MemoN (P : Program) (e : MN) : Prop := (∀ x ∈ e.xs, flatL x = true) ∧ (∀ x ∈ e.cs, flatL x = true) ∧ ∃ K hh, e.h.t.get K = none ∧ CallOK P (.func e.f) e.args e.h (e.v K) hh ∧ subT leO e.h.t hh.t = true ∧ hh.get K = some (.cells e.cs)
omit [Bet] in
theorem flatNs_VRs {xs : List AV} (hf : ∀ x ∈ xs, flatL x = true) : ∀ {vs : List Value}, VRs φ' xs vs → VRs φ xs vs := by
  induction xs with
  | nil => intro vs h; cases h; exact .nil
  | cons x xs ih =>
    intro vs h
    cases h with
    | cons _ v _ vs h1 h2 => exact .cons _ _ _ _ (flatL_VR (hf x List.mem_cons_self) h1) (ih (fun y hy => hf y (List.mem_cons_of_mem _ hy)) h2)
theorem memoN_ok {e : MN} (hm : MemoN P e) {args : List AV} (hc : matchM e.me args h = true) (n1 : h'.nx = h.nx + 1) (n2 : ∀ m a, h'.get m = some a → (m = h.nx ∧ a = .cells e.cs) ∨ (m ≠ h.nx ∧ h.get m = some a)) : CallOK P (.func e.f) args h (e.v h.nx) h' := by
  obtain ⟨hflat, hcs, K, hh, hKn, hok, hsub, hK⟩ := hm
  obtain ⟨rho, inv, h1⟩ := pairVs_true _ hc
  obtain ⟨h2, h3⟩ := ite_and h1
  replace h2 : simL rho e.h.nx e.args args = true := h2
  replace h3 : memH rho inv e.h h = true := h3
  intro φ w us hR hx
  have key : ∀ i ao1, e.h.get i = some ao1 → ∃ j xs p, rho.get i = some j ∧ inv.get j = some i ∧ ao1 = .cells xs ∧ h.get j = some (.cells xs) ∧ (∀ v ∈ xs, flatL v = true) ∧ φ j = some p ∧ phiN rho e.h.nx φ i = some p := by
    intro i ao1 hg
    obtain ⟨q1, _⟩ := AH.of_get hg
    obtain ⟨q2, j, ao, q3, q4, q5, q6⟩ := memH_get h3 q1
    obtain ⟨xs, rfl, rfl, q7⟩ := memO_eq q6
    have q8 : h.get j = some (.cells xs) := AH.get_of q5 (by simp)
    obtain ⟨g, d, o, q9, _⟩ := hR.obj j _ q8
    refine ⟨j, xs, _, q3, q4, rfl, q8, q7, q9, ?_⟩
    unfold phiN
    rw [if_pos q2, q3]
    exact q9
  have hR0 : R (phiN rho e.h.nx φ) e.h w := by
    refine ⟨fun i ao1 hg => ?_, fun i j x y g d z hx hy hp hq => ?_, fun i p hp => ?_⟩
    · obtain ⟨j, xs, p, _, _, rfl, q1, q2, q3, q4⟩ := key i ao1 hg
      obtain ⟨g, d, o, q5, q6, c, ee, rfl, q7, q8⟩ := hR.obj j _ q1
      rw [q3] at q5
      cases q5
      refine ⟨g, d, _, q4, q6, c, ee, rfl, q7, fun k x hk => ?_⟩
      obtain ⟨v, r1, r2, r3⟩ := q8 k x hk
      exact ⟨v, r1, flatL_VR (q2 x (List.mem_of_getElem? hk)) r2, r3⟩
    · obtain ⟨i', xs, p, r1, r2, _, q1, _, q3, q4⟩ := key i x hx
      obtain ⟨j', ys, p', r3, r4, _, q1', _, q3', q4'⟩ := key j y hy
      rw [hp] at q4
      cases q4
      rw [hq] at q4'
      cases q4'
      have := hR.injN q1 q1' q3 q3' rfl
      subst this
      rw [r2] at r4
      cases r4
      exact .inl rfl
    · unfold phiN at hp
      split at hp
      · assumption
      · cases hp
  obtain ⟨c1, c2⟩ := hok _ w us hR0 (simL_VRs _ h2 hx)
  refine ⟨c1, fun n => (c2 n).mono fun en w' hb => ?_⟩
  obtain ⟨u, φ2, rfl, b1, b2, b3⟩ := hb
  have hblk : ∀ j ao, h.get j = some ao → ∃ g d o, φ j = some (g, d) ∧ w'.heap[g]? = some o ∧ OR φ d ao o := by
    intro j ao hj
    obtain ⟨g, d, o, q1, q2, q3⟩ := hR.obj j ao hj
    by_cases hex : ∃ i b z, e.h.get i = some b ∧ phiN rho e.h.nx φ i = some (g, z)
    · obtain ⟨i, b, z, e1, e2⟩ := hex
      obtain ⟨j', xs, p, r1, r2, rfl, r3, r4, r5, r6⟩ := key i b e1
      rw [e2] at r6
      cases r6
      have hjj := hR.injB hj r3 q1 r5 rfl
      subst hjj
      rw [r3] at hj
      cases hj
      rw [q1] at r5
      cases r5
      obtain ⟨t1, _⟩ := AH.of_get e1
      obtain ⟨y, t2, t3⟩ := subT_get _ hsub i _ t1
      have t4 : hh.get i = some y := AH.get_of t2 (by rintro rfl; cases t3)
      obtain ⟨g', d', o', t5, t6, t7⟩ := b2.obj i y t4
      have t8 := b3.ext _ _ e2
      rw [t8] at t5
      cases t5
      obtain ⟨c, ee, rfl, t9, t10⟩ := leO_OR t3 t7
      refine ⟨g, d, _, q1, t6, c, ee, rfl, t9, fun k x hk => ?_⟩
      obtain ⟨v, v1, v2, v3⟩ := t10 k x hk
      exact ⟨v, v1, flatL_VR (r4 x (List.mem_of_getElem? hk)) v2, v3⟩
    · refine ⟨g, d, o, q1, ?_, q3⟩
      rw [b3.fr g (Array.getElem?_eq_some_iff.1 q2).1 fun i b z e1 _ e2 => hex ⟨i, b, z, e1, e2⟩]
      exact q2
  -- the new block
  obtain ⟨g, d, o, k1, k2, c, ee, rfl, k3, k4⟩ := b2.obj _ _ hK
  have hfresh : w.heap.size ≤ g := by
    refine Nat.le_of_not_lt fun hlt => ?_
    obtain ⟨j, b, z, q1, _, q2⟩ := b3.im _ _ _ _ hK rfl k1 hlt
    obtain ⟨q3, _⟩ := AH.of_get q1
    obtain ⟨y, q4, q5⟩ := subT_get _ hsub j _ q3
    have q6 : hh.get j = some y := AH.get_of q4 (by
      rintro rfl
      obtain ⟨_, xs, _, _, _, rfl, _⟩ := key j b q1
      cases q5)
    have := b2.injN hK q6 k1 (b3.ext _ _ q2) rfl
    rw [← this, hKn] at q3
    cases q3
  have hx' : Ext φ (φ.upd h.nx (g, d)) := Phi.upd_ext hR.fresh
  have hu : VR (φ.upd h.nx (g, d)) (e.v h.nx) u := by
    unfold MN.v at b1
    cases b1 with
    | tup _ us' hvs =>
      refine .tup _ _ ?_
      generalize us'.toList = vs at hvs
      cases hvs with
      | cons _ v0 _ vs h4 h5 =>
        refine .cons _ _ _ _ ?_ (flatNs_VRs hflat h5)
        cases h4 with
        | slU _ _ g' d' _ c' _ a hp hc ha hz =>
          rw [k1] at hp
          cases hp
          exact .slU _ _ _ _ _ _ _ _ (Phi.upd_same _ _) hc ha hz
  have hold : ∀ i p, φ i = some p → (φ.upd h.nx (g, d)) i = some p := fun i p hp => hx' i p hp
  refine ⟨u, _, rfl, hu, ⟨fun i ao hi => ?_, fun i j x y g' d' e' hi hj hp hq => ?_, fun i p hp => ?_⟩, ⟨⟨hx', by omega, b3.size, fun k hk hno => ?_, fun i x g' d' hi hf hp hg => ?_, fun i x hi hf => ?_, b3.os, b3.tape, b3.output⟩, Phi.upd_old (Nat.le_refl _)⟩⟩
  · rcases n2 i ao hi with ⟨rfl, rfl⟩ | ⟨_, hi⟩
    · refine ⟨g, d, _, Phi.upd_same _ _, k2, c, ee, rfl, k3, fun j x hj => ?_⟩
      obtain ⟨v, v1, v2, v3⟩ := k4 j x hj
      exact ⟨v, v1, flatL_VR (hcs x (List.mem_of_getElem? hj)) v2, v3⟩
    · obtain ⟨g', d', o, q1, q2, q3⟩ := hblk i ao hi
      exact ⟨g', d', o, hold _ _ q1, q2, q3.ext hx'⟩
  · have old : ∀ i x, h.get i = some x → ∃ g1 d1, φ i = some (g1, d1) ∧ g1 < w.heap.size := fun i x hi => by
      obtain ⟨g1, d1, o1, q1, q2, _⟩ := hR.obj i x hi
      exact ⟨g1, d1, q1, (Array.getElem?_eq_some_iff.1 q2).1⟩
    rcases n2 i x hi with ⟨rfl, rfl⟩ | ⟨_, hi⟩ <;> rcases n2 j y hj with ⟨rfl, rfl⟩ | ⟨_, hj⟩
    · exact .inl rfl
    · exfalso
      obtain ⟨g1, d1, q1, q2⟩ := old j y hj
      rw [Phi.upd_same] at hp
      cases hp
      rw [hold _ _ q1] at hq
      cases hq
      omega
    · exfalso
      obtain ⟨g1, d1, q1, q2⟩ := old i x hi
      rw [Phi.upd_same] at hq
      cases hq
      rw [hold _ _ q1] at hp
      cases hp
      omega
    · obtain ⟨g1, d1, q1, _⟩ := old i x hi
      obtain ⟨g2, d2, q2, _⟩ := old j y hj
      rw [hold _ _ q1] at hp
      rw [hold _ _ q2] at hq
      cases hp
      cases hq
      exact hR.inj i j x y _ _ _ hi hj q1 q2
  · rcases Phi.upd_dom _ _ hp with rfl | hp
    · omega
    · have := hR.dom _ _ hp
      omega
  · refine b3.fr k hk fun i b z e1 _ e2 => ?_
    obtain ⟨j', xs, p, r1, r2, rfl, r3, r4, r5, r6⟩ := key i b e1
    rw [e2] at r6
    cases r6
    exact hno _ _ _ r3 rfl r5
  · rcases n2 i x hi with ⟨rfl, rfl⟩ | ⟨_, hi⟩
    · rw [Phi.upd_same] at hp
      cases hp
      omega
    · obtain ⟨g1, d1, o1, q1, _⟩ := hR.obj i x hi
      rw [hold _ _ q1] at hp
      cases hp
      exact ⟨i, x, _, hi, hf, q1⟩
  · rcases n2 i x hi with ⟨rfl, rfl⟩ | ⟨_, hi⟩
    · cases hf
    · exact ⟨x, hi, hf⟩
def primN (l : List MN) (f : FuncId) (args : List AV) (h : AH) : Option (AV × AH) := List.rec none (fun e _ ih => ite_ (Nat.beq e.f f) (ite_ (matchM e.me args h) (newHK none h (.cells e.cs) fun h' => some (e.v h.nx, h')) ih) ih) l
theorem primN_ok {l : List MN} (hl : ∀ e ∈ l, MemoN P e) {f : FuncId} {args : List AV} {v : AV} (he : primN l f args h = some (v, h')) : CallOK P (.func f) args h v h' := by
  induction l with
  | nil => cases he
  | cons e l ih =>
    have he' : ite_ (Nat.beq e.f f) (ite_ (matchM e.me args h) (newHK none h (.cells e.cs) fun h' => some (e.v h.nx, h')) (primN l f args h)) (primN l f args h) = some (v, h') := he
    have ih' := ih fun e' h' => hl e' (List.mem_cons_of_mem _ h')
    cases hb : Nat.beq e.f f with
    | false => rw [hb] at he'; exact ih' he'
    | true =>
      rw [hb, ite_true_] at he'
      cases hm : matchM e.me args h with
      | false => rw [hm] at he'; exact ih' he'
      | true =>
        rw [hm, ite_true_] at he'
        obtain ⟨h1, n1, n2, n3⟩ := newHK_some he'
        simp only [Option.some.injEq, Prod.mk.injEq] at n3
        obtain ⟨rfl, rfl⟩ := n3
        rw [← beq_true' hb]
        exact memoN_ok (hl e List.mem_cons_self) hm n1 n2
def memoNB (X : Exe) (n : Nat) (e : MN) : Bool := match run X n (.call (.func e.f) e.args e.h) with
  | some (.val (.tup (.sl (some (K, 0)) m (.u s) :: xs)) hh) => ite_ (eqV (e.v K) (.tup (.sl (some (K, 0)) m (.u s) :: xs))) (ite_ (allB flatL e.xs) (ite_ (allB flatL e.cs) (ite_ (absB e.h.t K) (ite_ (subT leO e.h.t hh.t) (getK false hh.t K fun ao => match ao with
    | .cells cs => eqFs cs e.cs
    | _ => false) false) false) false) false) false
  | _ => false
theorem memoNB_ok {n : Nat} {e : MN} (HS : Sound P (run X n)) (h : memoNB X n e = true) : MemoN P e := by
  unfold memoNB at h
  split at h
  · rename_i K m s xs hh hq
    obtain ⟨h1, h2⟩ := ite_and h
    obtain ⟨h3, h4⟩ := ite_and h2
    obtain ⟨h5, h6⟩ := ite_and h4
    obtain ⟨h7, h8⟩ := ite_and h6
    obtain ⟨h9, h10⟩ := ite_and h8
    have hok := HS _ _ hq
    rw [← eqV_true h1] at hok
    refine ⟨allB_true h3, allB_true h5, K, hh, absB_true h7, hok, h9, ?_⟩
    rw [getK_eq] at h10
    cases hg : hh.t.get K with
    | none => rw [hg] at h10; cases h10
    | some ao =>
      rw [hg] at h10
      cases ao <;> try (cases h10; done)
      rw [← eqFs_true _ h10]
      exact AH.get_of hg (by simp)
  · cases h
def exeQ (orc : List (Nat × AV × AV × AV)) (l : List Nat) (ms : List ME) (ns : List MN) : Exe := ⟨envO orc, fns, fun f args h => match primN ns f args h with
  | some r => some r
  | none => primYM l ms f args h⟩
theorem exeQ_sound {orc : List (Nat × AV × AV × AV)} {l : List Nat} {ms : List ME} {ns : List MN} (ho : OrcOK orc) (hl : ∀ f ∈ l, YesFn Tryz.prog f) (hm : ∀ e ∈ ms, MemoOK Tryz.prog e) (hn : ∀ e ∈ ns, MemoN Tryz.prog e) (n : Nat) : Sound (exeQ orc l ms ns).E.P (run (exeQ orc l ms ns) n) := by
  refine run_sound (X := exeQ orc l ms ns) (tabOKO ho) keysOKO (fun f fi h => fnsOK f fi h) (fun f args h v h' he => ?_) (drawK_sound (tabOKO ho) keysOKO exe0_mixed) n
  have he' : (match primN ns f args h with
    | some r => some r
    | none => primYM l ms f args h) = some (v, h') := he
  split at he'
  · rename_i q hq
    cases he'
    exact primN_ok hn hq
  · unfold primYM at he'
    split at he'
    · rename_i q hq
      cases he'
      exact primMemo_ok hm hq
    · exact primOf_ok hl f args h v h' he'
/-- A call over memory that comes in, and is read alone. -/
theorem callsIn_frzQ {orc : List (Nat × AV × AV × AV)} {l : List Nat} {ms : List ME} {ns : List MN} {n f : Nat} {h0 : AH} (ho : OrcOK orc) (hl : ∀ f ∈ l, YesFn Tryz.prog f) (hm : ∀ e ∈ ms, MemoOK Tryz.prog e) (hn : ∀ e ∈ ns, MemoN Tryz.prog e) {args : List AV} {us : List Value} {w : World} (hR : R φ h0 w) (hz : ∀ i a, h0.get i = some a → a.isF = true)
    (he : isVal (run (exeQ orc l ms ns) n (.call (.func f) args h0)) isTrue = true) (hx : VRs φ args us) (m : Nat) : CallsIn (Fro none) m Tryz.prog f us.toArray w (Yes w) := by
  cases hq : run (exeQ orc l ms ns) n (.call (.func f) args h0) with
  | none => rw [hq] at he; cases he
  | some r =>
    cases r with
    | code => rw [hq] at he; cases he
    | val v h1 =>
      rw [hq] at he
      cases v <;> try (cases he; done)
      rename_i b
      cases b with
      | false => cases he
      | true =>
        obtain ⟨_, h2⟩ := exeQ_sound ho hl hm hn n _ _ hq φ w us hR hx
        refine (h2 m).mono fun e w' hb => ?_
        obtain ⟨u, φ', rfl, b1, b2, b3⟩ := hb
        cases b1
        exact ⟨rfl, StF.below ⟨_, _, hz, b3⟩⟩
end
end Go.Proofs.YtibmpjhffeinoaaGreat.Kx
