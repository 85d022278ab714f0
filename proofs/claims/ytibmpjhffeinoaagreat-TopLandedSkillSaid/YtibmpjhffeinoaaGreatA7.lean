/-
  An executor: loops over maps whose rounds take away their own entries at most.
  An executor: one round of a loop over a map.
  An executor: a loop over a map, all rounds.
  An executor: a loop over a map whose rounds take away their own entries at most.
  An executor: a loop over a map of few entries, in whatever order: all orders are gone through.
  An executor: a loop over a map of few entries: what it does.
-/
import Derived.Test.YtibmpjhffeinoaaGreatA6
import Derived.Maps.RangeRun
namespace Go.Proofs.YtibmpjhffeinoaaGreat.Kx
open Go Go.RowKit
open Go.ChangeMaps (setBlock)
variable [Val] [Bet]

noncomputable section
variable {X : Exe} {E : Env} {P : Program} {φ φ' : Phi} {h h' : AH} {w w' w0 : World} {fr fr' : AF} {a : Act} {β : Type} {r : β}

/-! ### Back to what was known -/
omit [Val] [Bet] in
theorem phi_back {i : Nat} {p q : Nat × Nat × Nat} (he : Ext φ φ') (h : φ i = some p) (h' : φ' i = some q) : φ i = some q := by
  have := he _ _ h
  rw [h'] at this
  rw [h, this]
omit [Bet] in
mutual
theorem VR.back (he : Ext φ φ') : ∀ {x : AV} {v0 v : Value}, VR φ x v0 → VR φ' x v → VR φ x v
  | _, _, _, .int k n, .int _ _ => .int k n
  | _, _, _, .lin k c ts _ _ _, .lin _ _ _ n h hb => .lin k c ts n h hb
  | _, _, _, .exS i c ts _ _ _ _ _ _, .exS _ _ _ A n m hi h hb => .exS i c ts A n m hi h hb
  | _, _, _, .bool b, .bool _ => .bool b
  | _, _, _, .ptr0, .ptr0 => .ptr0
  | _, _, _, .ptr i o _ _ h, .ptr _ _ g d h' => .ptr i o g d (phi_back he h h')
  | _, _, _, .sl0 n c, .sl0 _ _ => .sl0 n c
  | _, _, _, .sl i o _ _ n c h, .sl _ _ g d _ _ h' => .sl i o g d n c (phi_back he h h')
  | _, _, _, .slU i o _ _ n _ s _ h _ _ _, .slU _ _ g d _ c _ a h' hc ha hz => .slU i o g d n c s a (phi_back he h h') hc ha hz
  | _, _, _, .mp0, .mp0 => .mp0
  | _, _, _, .mp i _ _ h, .mp _ g d h' => .mp i g d (phi_back he h h')
  | _, _, _, .fn f xs ys _ _ h1 h2, .fn _ _ _ us vs h3 h4 => .fn f xs ys us vs (VRs.back he h1 h3) (VRs.back he h2 h4)
  | _, _, _, .yield i _ _ h, .yield _ g d h' => .yield i g d (phi_back he h h')
  | _, _, _, .agg xs _ h, .agg _ us h' => .agg xs us (VRs.back he h h')
  | _, _, _, .tup xs _ h, .tup _ us h' => .tup xs us (VRs.back he h h')
  | _, _, _, .nilf, .nilf => .nilf
  | _, _, _, .str s, .str _ => .str s
  | _, _, _, .any _, .any v => .any v
theorem VRs.back (he : Ext φ φ') : ∀ {xs : List AV} {us vs : List Value}, VRs φ xs us → VRs φ' xs vs → VRs φ xs vs
  | _, _, _, .nil, .nil => .nil
  | _, _, _, .cons x _ xs _ h hs, .cons _ v _ vs h' hs' => .cons x v xs vs (VR.back he h h') (VRs.back he hs hs')
end
omit [Bet] in
theorem FR.back {T0 T : Array Value} (he : Ext φ φ') (h0 : FR φ fr T0) (h : FR φ' fr T) : FR φ fr T := ⟨h.1, fun t x hx => by
  obtain ⟨v0, _, h2⟩ := h0.2 t x hx
  obtain ⟨v, h3, h4⟩ := h.2 t x hx
  exact ⟨v, h3, h2.back he h4⟩⟩
omit [Val] [Bet] in
theorem Mk.back (he : Ext φ φ') : ∀ {ds : List Nat} {es0 es : List Deferred}, Mk φ ds es0 → Mk φ' ds es → Mk φ ds es
  | [], [], [], _, _ => trivial
  | _ :: _, _ :: _, _ :: _, h0, h => ⟨let ⟨_g, _z, h1, _⟩ := h0.1; let ⟨g', z', h3, h4⟩ := h.1; ⟨g', z', phi_back he h1 h3, h4⟩, Mk.back he h0.2 h.2⟩
  | [], [], _ :: _, _, h => h.elim
  | [], _ :: _, _, h, _ => h.elim
  | _ :: _, [], _, h, _ => h.elim
  | _ :: _, _ :: _, [], _, h => h.elim
omit [Bet] in
theorem ERs.back (he : Ext φ φ') : ∀ {es : List (List Int × AV × Nat)} {fs : List MapEntry}, (∀ e ∈ es, ∃ v0, VR φ e.2.1 v0) → ERs φ' es fs → ERs φ es fs
  | [], [], _, _ => trivial
  | (_, _, _) :: _, _ :: _, h0, h => by
    obtain ⟨v0, h1⟩ := h0 _ List.mem_cons_self
    exact ⟨h.1, h1.back he h.2.1, h.2.2.1, ERs.back he (fun e he' => h0 e (List.mem_cons_of_mem _ he')) h.2.2.2⟩
  | [], _ :: _, _, h => h.elim
  | _ :: _, [], _, h => h.elim
omit [Bet] in
theorem FR.back_ {T : Array Value} (he : Ext φ φ') (h0 : ∀ t x, fr.t.get t = some x → ∃ v0, VR φ x v0) (h : FR φ' fr T) : FR φ fr T := ⟨h.1, fun t x hx => by
  obtain ⟨v0, h2⟩ := h0 t x hx
  obtain ⟨v, h3, h4⟩ := h.2 t x hx
  exact ⟨v, h3, h2.back he h4⟩⟩
omit [Bet] in
theorem FR.put_none {t : Nat} (hF : FR φ fr a.tmps) (hn : fr.t.get t = none) (v : Value) : FR φ fr (a.put (some t) v).tmps := by
  refine ⟨by simp only [Act.put, Array.size_setIfInBounds]; exact hF.1, fun s x hx => ?_⟩
  have hne : t ≠ s := by rintro rfl; rw [hn] at hx; cases hx
  obtain ⟨u, h1, h2⟩ := hF.2 s x hx
  refine ⟨u, ?_, h2⟩
  simp only [Act.put, Array.getElem?_setIfInBounds, if_neg hne]
  exact h1

/-! ### What a loop over a map is made of -/
structure RL where
  B : Nat
  B1 : Nat
  nid : Nat
  eid : Nat
  opN : Oper
  opX : Oper
  tI : Nat
  tn : Nat
  tc : Nat
  te : Nat
  opE : Oper
  rest : List Oper
  body : Code
def RL.opsE (L : RL) : Array Oper := (L.opE :: L.rest).toArray
def RL.round (L : RL) : Code := .block L.B1 (.seq (.region L.eid L.opsE false) L.body)
def RL.loopBody (L : RL) : Code := .seq (.region L.nid #[L.opN, L.opX] false) (.seq (.cond (.tmp L.tc) .skip (.exit L.B)) L.round)
def RL.code (L : RL) : Code := .block L.B (.loop L.loopBody)
structure RL.Good (L : RL) : Prop where
  n1 : L.opN.op = .next (.tmp L.tI) false
  n2 : L.opN.dst = some L.tn
  n3 : L.opN.guard = none
  x1 : L.opX.op = .extract (.tmp L.tn) 0
  x2 : L.opX.dst = some L.tc
  x3 : L.opX.guard = none
  e1 : L.opE.op = .entry (.tmp L.tI)
  e2 : L.opE.dst = some L.te
  e3 : L.opE.guard = none
omit [Val] [Bet] in
theorem oper_run {o : Oper} {ro : Option Nat} {n : Nat} {Q : Exit → Act → World → Prop} {next : Act → World → Prop} (hg : ∀ c, o.op ≠ .defer c) {v : Value} (h : (execOp a.eval o).run P w = .ok (.value v) w') (hk : next (a.put o.dst v) w') :
    Oper.wpIn (Fro ro) n P o a w next Q := ⟨fun _ _ => trivial, by rw [Oper.semAt_eq _ _ _ hg, h]; exact hk⟩
omit [Val] [Bet] in
theorem wpOps_cons {F : Fence} {n : Nat} {ops : Array Oper} {i : Nat} {l : List Nat} {o : Oper} {Q : Exit → Act → World → Prop} (hoi : ops[i]? = some o) (hg : o.guard = none) (h : Oper.wpIn F n P o a w (wpOpsIn F n P ops Q l) Q) : wpOpsIn F n P ops Q (i :: l) a w := by
  unfold wpOpsIn
  rw [hoi]
  simp only
  rw [if_pos (by unfold Region.wanted; rw [hg])]
  exact h

/-! ### The executor's part -/
def keyV (ks : List Int) : AV := .agg (ks.map (AV.int .i64))
def eqNs (xs : List Nat) : List Nat → Bool := List.rec (motive := fun _ => List Nat → Bool) (fun ys => List.rec true (fun _ _ _ => false) ys) (fun x _ ih ys => List.rec (motive := fun _ => Bool) false (fun y ys _ => ite_ (Nat.beq x y) (ih ys) false) ys) xs
omit [Val] [Bet] in
theorem eqNs_true (xs : List Nat) : ∀ {ys : List Nat}, eqNs xs ys = true → xs = ys := by
  induction xs with
  | nil => intro ys h; cases ys with
    | nil => rfl
    | cons => cases h
  | cons x xs ih =>
    intro ys h
    cases ys with
    | nil => cases h
    | cons y ys =>
      have h' : ite_ (Nat.beq x y) (eqNs xs ys) false = true := h
      obtain ⟨h1, h2⟩ := ite_and h'
      rw [beq_true' h1, ih h2]
/-- One round, for one entry. -/
def rndK (X : Exe) (N : Nat) (L : RL) (rd : Option Nat) (ds : List Nat) (frS : AF) (hS : AH) (e : List Int × AV × Nat) : Option (AF × AH) :=
  putK none frS (some L.te) (.tup [keyV e.1, e.2.1]) fun fr0 => seqOps X (run X N) L.opsE.toList L.rest fr0 hS fun fr1 h1 => match run X N (.code rd ds L.body fr1 h1) with
    | some (.code .normal ds' fr2 h2) => ite_ (eqNs ds ds') (some (fr2, h2)) none
    | _ => none
end
end Go.Proofs.YtibmpjhffeinoaaGreat.Kx

namespace Go.Proofs.YtibmpjhffeinoaaGreat.Kx
open Go Go.RowKit
open Go.ChangeMaps (setBlock)
variable [Val]

noncomputable section
variable {X : Exe} {E : Env} {P : Program} {φ φ' : Phi} {h h' : AH} {w w' w0 : World} {fr fr' : AF} {a : Act} {β : Type} {r : β}

/-- What stands at a loop's head: of the heap a part, the map, the iterator; the entries in S are seen. -/
structure RInv (φ0 : Phi) (frS : AF) (hB : Tr AO) (es : List (List Int × AV × Nat)) (cl since : Nat) (keep : List Nat → Nat → Bool) (git gm : Nat) (w0 : World) (ds : List Nat) (S : List Nat) (a : Act) (w : World) : Prop where
  rB : ∀ i ao, hB.get i = some ao → ∃ cs g d o, ao = .cells cs ∧ φ0 i = some (g, d) ∧ w.heap[g]? = some o ∧ (∃ c e, o = .cells c e (0, 0) ∧ c.size = d.2 ∧ ∀ j x, cs[j]? = some x → ∃ v, c[d.1 + j]? = some v ∧ VR φ0 x v ∧ v.oneCell' = true)
  map : ∃ ces, w.heap[gm]? = some (.map ces cl) ∧ ERs φ0 (es.filter fun e => keep S e.2.2) ces.toList
  fr : FR φ0 frS a.tmps
  it : ∃ c0, w.heap[git]? = some (.mapIter (some gm) since S.toArray c0) ∧ since ≤ c0
  os : w.os = w0.os
  tape : w.tape = w0.tape
  output : w.output = w0.output
  size : w0.heap.size ≤ w.heap.size
  other : ∀ k, k < w0.heap.size → k ≠ git → k ≠ gm → (∀ i ao d, hB.get i = some ao → φ0 i ≠ some (k, d)) → w.heap[k]? = w0.heap[k]?
  mrk : Mk φ0 ds a.defers
/-- What is the same in all rounds. -/
structure RFix (L : RL) (φ0 : Phi) (frS : AF) (hB : Tr AO) (n : Nat) (es : List (List Int × AV × Nat)) (cl since iI m nx : Nat) (git gm : Nat) (zm : Nat × Nat) (w0 : World) : Prop where
  good : L.Good
  frH : ∀ t x, frS.t.get t = some x → ∃ v0, VR φ0 x v0
  tI : frS.t.get L.tI = some (.ptr (some (iI, 0)))
  tn : frS.t.get L.tn = none
  tc : frS.t.get L.tc = none
  ln : L.tn < frS.nt
  lc : L.tc < frS.nt
  pI : φ0 iI = some (git, 0, 0)
  pm : φ0 m = some (gm, zm)
  neB : ∀ i ao d, hB.get i = some ao → φ0 i = some (gm, d) → False
  neI : ∀ i ao d, hB.get i = some ao → φ0 i = some (git, d) → False
  ne : git ≠ gm
  nm : hB.get m = none
  inj : ∀ i j x y g d e, hB.get i = some x → hB.get j = some y → φ0 i = some (g, d) → φ0 j = some (g, e) → i = j
  dom : ∀ i p, φ0 i = some p → i < nx
  gI : git < w0.heap.size
  gm : gm < w0.heap.size
  born : ∀ e ∈ es, e.2.2 < since
  bornN : (es.map (·.2.2)).Nodup
  keyN : (es.map (·.1)).Nodup
  wf : ∀ e ∈ es, e.1.length = n ∧ ∀ x ∈ e.1, (Lit.int .i64 x).wf = true
  hole : ∀ e ∈ es, ∃ v0, VR φ0 e.2.1 v0
  cells : ∀ i ao, hB.get i = some ao → ∃ cs, ao = .cells cs ∧ ∀ x ∈ cs, ∃ v0, VR φ0 x v0

abbrev betOf (k : Nat → Bool) : Bet := ⟨k⟩
omit [Val] in
theorem map_keep (es : List (List Int × AV × Nat)) (k : Nat → Bool) : es.filter (@keepE (betOf k)) = es.filter fun e => k e.2.2 := rfl
/-- The part of the heap, with the map. -/
theorem RInv.small {L : RL} {φ0 : Phi} {frS : AF} {hB tS : Tr AO} {n : Nat} {es : List (List Int × AV × Nat)} {cl since iI m nx git gm : Nat} {zm : Nat × Nat} {keep : List Nat → Nat → Bool} {ds S : List Nat}
    (F : RFix L φ0 frS hB n es cl since iI m nx git gm zm w0) (I : RInv φ0 frS hB es cl since keep git gm w0 ds S a w) (hS : ∀ j, tS.get j = if j = m then some (.mapG n es cl) else hB.get j) : @R _ (betOf (keep S)) φ0 ⟨nx, tS⟩ w := by
  letI : Bet := betOf (keep S)
  have get : ∀ j ao, (AH.mk nx tS).get j = some ao → (j = m ∧ ao = .mapG n es cl) ∨ (j ≠ m ∧ hB.get j = some ao) := by
    intro j ao hj
    obtain ⟨h1, _⟩ := AH.of_get hj
    rw [hS] at h1
    split at h1
    · cases h1; exact .inl ⟨by assumption, rfl⟩
    · exact .inr ⟨by assumption, h1⟩
  refine ⟨fun j ao hj => ?_, fun i j x y g d e hi hj h1 h2 => ?_, F.dom⟩
  · rcases get j ao hj with ⟨rfl, rfl⟩ | ⟨_, h1⟩
    · obtain ⟨ces, h2, h3⟩ := I.map
      exact ⟨gm, zm, _, F.pm, h2, ces, rfl, h3, F.keyN, F.wf⟩
    · obtain ⟨cs, g, d, o, rfl, h3, h4, h5⟩ := I.rB j ao h1
      exact ⟨g, d, o, h3, h4, h5⟩
  · rcases get i x hi with ⟨rfl, rfl⟩ | ⟨n1, h3⟩
    · rcases get j y hj with ⟨rfl, rfl⟩ | ⟨n2, h4⟩
      · exact .inl rfl
      · rw [F.pm] at h1; cases h1; exact (F.neB _ _ _ h4 h2).elim
    · rcases get j y hj with ⟨rfl, rfl⟩ | ⟨n2, h4⟩
      · rw [F.pm] at h2; cases h2; exact (F.neB _ _ _ h3 h1).elim
      · exact .inl (F.inj _ _ _ _ _ _ _ h3 h4 h1 h2)
theorem ERs.mem : ∀ {es : List (List Int × AV × Nat)} {fs : List MapEntry}, ERs φ es fs → ∀ f ∈ fs, ∃ e ∈ es, f.key = .agg (intsV e.1) ∧ VR φ e.2.1 f.val ∧ f.born = e.2.2
  | [], [], _, f, hf => by cases hf
  | (_, _, _) :: _, _ :: _, h, f, hf => by
    cases hf with
    | head => exact ⟨_, List.mem_cons_self, h.1, h.2.1, h.2.2.1⟩
    | tail _ hf =>
      obtain ⟨e, h1, h2⟩ := ERs.mem h.2.2.2 f hf
      exact ⟨e, List.mem_cons_of_mem _ h1, h2⟩
  | [], _ :: _, h, _, _ => h.elim
  | _ :: _, [], h, _, _ => h.elim
theorem ERs.mem' : ∀ {es : List (List Int × AV × Nat)} {fs : List MapEntry}, ERs φ es fs → ∀ e ∈ es, ∃ f ∈ fs, f.born = e.2.2
  | [], [], _, f, hf => by cases hf
  | (_, _, _) :: _, _ :: _, h, e, he => by
    cases he with
    | head => exact ⟨_, List.mem_cons_self, h.2.2.1⟩
    | tail _ he =>
      obtain ⟨f, h1, h2⟩ := ERs.mem' h.2.2.2 e he
      exact ⟨f, List.mem_cons_of_mem _ h1, h2⟩
  | [], _ :: _, h, _, _ => h.elim
  | _ :: _, [], h, _, _ => h.elim
theorem ERs.borns : ∀ {es : List (List Int × AV × Nat)} {fs : List MapEntry}, ERs φ es fs → fs.map (·.born) = es.map (·.2.2)
  | [], [], _ => rfl
  | (_, _, _) :: _, _ :: _, h => by rw [List.map_cons, List.map_cons, ERs.borns h.2.2.2, h.2.2.1]
  | [], _ :: _, h => h.elim
  | _ :: _, [], h => h.elim
omit [Val] in
theorem set_heap (g : Nat) (o : Obj) (w : World) (hg : g < w.heap.size) : (setBlock w g o).heap[g]? = some o ∧ (∀ k, k ≠ g → (setBlock w g o).heap[k]? = w.heap[k]?) ∧ (setBlock w g o).heap.size = w.heap.size := by
  refine ⟨?_, fun k hk => ?_, ?_⟩
  · show (w.heap.setIfInBounds g o)[g]? = _
    rw [Array.getElem?_setIfInBounds, if_pos rfl, if_pos hg]
  · show (w.heap.setIfInBounds g o)[k]? = _
    rw [Array.getElem?_setIfInBounds, if_neg (fun e => hk e.symm)]
  · show (w.heap.setIfInBounds g o).size = _
    exact Array.size_setIfInBounds
omit [Val] in
theorem leEs_filter [Bet] {k : Nat → Bool} (xs : List (List Int × AV × Nat)) : ∀ {ys : List (List Int × AV × Nat)}, leEs xs ys = true → leEs (xs.filter fun e => k e.2.2) (ys.filter fun e => k e.2.2) = true := by
  induction xs with
  | nil => intro ys h; cases ys with
    | nil => rfl
    | cons => cases h
  | cons x xs ih =>
    intro ys h
    cases ys with
    | nil => cases h
    | cons y ys =>
      have h' : ite_ (eqIs x.1 y.1) (ite_ (leV x.2.1 y.2.1) (ite_ (Nat.beq x.2.2 y.2.2) (leEs xs ys) false) false) false = true := h
      obtain ⟨h1, h2⟩ := ite_and h'
      obtain ⟨h3, h4⟩ := ite_and h2
      obtain ⟨h5, h6⟩ := ite_and h4
      have hb := beq_true' h5
      rw [List.filter_cons, List.filter_cons, hb]
      split
      · show ite_ (eqIs x.1 y.1) (ite_ (leV x.2.1 y.2.1) (ite_ (Nat.beq x.2.2 y.2.2) (leEs _ _) false) false) false = true
        rw [h1, h3, h5]
        exact ih h6
      · exact ih h6
/-- A round, whose entry is e. -/
theorem round_wp {L : RL} {φ0 : Phi} {frS : AF} {hB tS : Tr AO} {n N m' : Nat} {es : List (List Int × AV × Nat)} {cl since iI m nx git gm : Nat} {zm : Nat × Nat} {keep : List Nat → Nat → Bool} {ds S : List Nat} {rd rO : Option Nat}
    (HT : TabOK X.E) (HK : KeysOK X.E) (HS : ∀ [Bet], Sound X.E.P (run X N)) (F : RFix L φ0 frS hB n es cl since iI m nx git gm zm w0) (I : RInv φ0 frS hB es cl since keep git gm w0 ds S a w) (hS : ∀ j, tS.get j = if j = m then some (.mapG n es cl) else hB.get j)
    (hro : RO φ0 rd rO)
    {e : List Int × AV × Nat} {f : MapEntry} {ces : Array MapEntry} {fr2 : AF} {h2 : AH} (hrun : rndK X N L rd ds frS ⟨nx, tS⟩ e = some (fr2, h2)) (hk : f.key = .agg (intsV e.1)) (hv : VR φ0 e.2.1 f.val) (_hb : f.born = e.2.2)
    (hw1 : w'.heap[git]? = some (.mapIter (some gm) since (S.toArray.push f.born) cl)) (hw2 : ∀ k, k ≠ git → w'.heap[k]? = w.heap[k]?) (hw3 : w'.heap.size = w.heap.size) (hw4 : w'.os = w.os ∧ w'.tape = w.tape ∧ w'.output = w.output)
    (hm : w.heap[gm]? = some (.map ces cl)) (hf : f ∈ ces.toList) (hers : ERs φ0 (es.filter fun e => keep S e.2.2) ces.toList) {a' : Act} (hF' : FR φ0 frS a'.tmps) (hM' : Mk φ0 ds a'.defers) {Q : Exit → Act → World → Prop}
    (hQ : ∀ (φ2 : Phi) (a2 : Act) (w2 : World), Ext φ0 φ2 → (∀ i, i < nx → φ2 i = φ0 i) → @R _ (betOf (keep S)) φ2 h2 w2 → FR φ2 fr2 a2.tmps → Mk φ2 ds a2.defers → w2.heap[git]? = some (.mapIter (some gm) since (S.toArray.push f.born) cl) →
      w2.os = w.os → w2.tape = w.tape → w2.output = w.output → w.heap.size ≤ w2.heap.size → (∀ k, k < w.heap.size → k ≠ git → k ≠ gm → (∀ i ao d, hB.get i = some ao → φ0 i ≠ some (k, d)) → w2.heap[k]? = w.heap[k]?) → Q .normal a2 w2) :
    L.round.wpIn (Fro rO) m' X.E.P Q a' w' := by
  letI : Bet := betOf (keep S)
  have G := F.good
  have hR : R φ0 ⟨nx, tS⟩ w := I.small F hS
  have hgI : git < w.heap.size := Nat.lt_of_lt_of_le F.gI I.size
  have hR' : R φ0 ⟨nx, tS⟩ w' := by
    refine ⟨fun j ao hj => ?_, hR.inj, hR.dom⟩
    obtain ⟨g, d, o, h1, h3, h4⟩ := hR.obj j ao hj
    refine ⟨g, d, o, h1, ?_, h4⟩
    rw [hw2 g ?_]
    · exact h3
    · rintro rfl
      obtain ⟨h5, _⟩ := AH.of_get hj
      rw [hS] at h5
      split at h5
      · rename_i hjm
        rw [hjm, F.pm] at h1
        cases h1
        exact F.ne rfl
      · exact F.neI _ _ _ h5 h1
  unfold rndK at hrun
  have hkv : VR φ0 (.tup [keyV e.1, e.2.1]) (.tuple #[f.key, f.val]) := by
    refine .tup _ _ (.cons _ _ _ _ ?_ (.cons _ _ _ _ hv .nil))
    rw [hk]
    unfold keyV intsV
    refine .agg _ _ ?_
    exact ints_VRs φ0 e.1
  obtain ⟨fr0, k1, k2⟩ := putK_some (a := a') (v := .tuple #[f.key, f.val]) hrun hF' hkv
  refine wpIn_block (wpIn_seq ?_)
  refine wpIn_region ?_
  have hsz : L.opsE.size = L.rest.length + 1 := by unfold RL.opsE; simp
  rw [hsz, List.range_eq_range', List.range'_succ]
  refine wpOps_cons (o := L.opE) (by unfold RL.opsE; simp) G.e3 ?_
  have hev : a'.eval (.tmp L.tI) = .pointer (some ⟨git, 0, none⟩) := by
    obtain ⟨v, q1, q2⟩ := hF'.2 _ _ F.tI
    cases q2 with
    | ptr _ _ g d hp =>
      rw [F.pI] at hp
      cases hp
      show a'.tmps.getD L.tI undef = _
      rw [Array.getD_eq_getD_getElem?, q1]
      rfl
  have hmw : w'.heap[gm]? = some (.map ces cl) := by rw [hw2 _ (fun e => F.ne e.symm)]; exact hm
  have hbn : (ces.toList.map (·.born)).Nodup := by
    rw [ERs.borns hers]
    exact (List.filter_sublist.map _).nodup F.bornN
  have hent := run_entry_at (P := X.E.P) w' git gm since S.toArray ces cl f hw1 hmw hf hbn
  refine oper_run (w' := w') (v := .tuple #[f.key, f.val]) (by rw [G.e1]; intro c; simp) ?_ ?_
  · show (execOp a'.eval L.opE).run X.E.P w' = _
    unfold execOp
    rw [G.e1]
    simp only [hev, Sem.run_bind, hent, Result.andThen]
    rfl
  rw [G.e2]
  have hd : L.opsE.toList.drop 1 = L.rest ++ [] := by unfold RL.opsE; simp
  have key := seqPart (r := (fr2, h2)) HT HK HS L.opsE [] L.rest [] 1 φ0 w' fr0 ⟨nx, tS⟩ (a'.put (some L.te) (.tuple #[f.key, f.val])) _ rO m' (Exit.then (L.body.wpIn (Fro rO) m' X.E.P (Exit.inBlock L.B1 Q)) (Exit.inBlock L.B1 Q)) hd k1 hR' k2 fun fr1 h1 φ1 w1 a1 q1 q2 q3 q4 q5 => ?_
  · rw [List.append_nil] at key
    exact key
  · show L.body.wpIn (Fro rO) m' X.E.P (Exit.inBlock L.B1 Q) a1 w1
    split at q1
    · rename_i ds' frr2 hh2 hc
      obtain ⟨b1, b2⟩ := ite_some_ q1
      cases b2
      have hds := eqNs_true ds b1
      subst hds
      have hM1 : Mk φ1 ds a1.defers := by
        rw [q5]
        have : (a'.put (some L.te) (.tuple #[f.key, f.val])).defers = a'.defers := rfl
        rw [this]
        exact hM'.ext q3.ext
      refine CodeOK.in (HS _ _ hc) q2 q4 hM1 (hro.ext q3.ext) fun φ2 w2 a2 m1 m2 m3 m4 => ?_
      have hST := q3.trans m2
      have hsm : ∀ k, k < w'.heap.size → k ≠ gm → (∀ i ao d, hB.get i = some ao → φ0 i ≠ some (k, d)) → w2.heap[k]? = w'.heap[k]? := fun k hk hkm hno => by
        refine hST.fr k hk fun i b d hi _ hp => ?_
        obtain ⟨h5, _⟩ := AH.of_get hi
        rw [hS] at h5
        split at h5
        · rename_i hjm
          rw [hjm, F.pm] at hp
          cases hp
          exact hkm rfl
        · exact hno _ _ _ h5 hp
      refine hQ φ2 a2 w2 hST.ext (fun i hi => hST.old i hi) m1 m3 m4 ?_ ?_ ?_ ?_ ?_ ?_
      · rw [hsm git (by omega) F.ne (fun i ao d hi hp => F.neI i ao d hi hp)]
        exact hw1
      · rw [hST.os, hw4.1]
      · rw [hST.tape, hw4.2.1]
      · rw [hST.output, hw4.2.2]
      · have := hST.size; omega
      · intro k hk hki hkm hno
        rw [hsm k (by omega) hkm hno, hw2 k hki]
    · cases q1
end
end Go.Proofs.YtibmpjhffeinoaaGreat.Kx

namespace Go.Proofs.YtibmpjhffeinoaaGreat.Kx
open Go Go.RowKit
open Go.ChangeMaps (setBlock)
variable [Val]

noncomputable section
variable {X : Exe} {E : Env} {P : Program} {φ φ' : Phi} {h h' : AH} {w w' w0 : World} {fr fr' : AF} {a : Act} {β : Type} {r : β}

omit [Val] in
theorem put_eval {t : Nat} {v : Value} (h : t < a.tmps.size) : (a.put (some t) v).eval (.tmp t) = v := by
  show (a.tmps.setIfInBounds t v).getD t undef = v
  rw [Array.getD_eq_getD_getElem?, Array.getElem?_setIfInBounds, if_pos rfl, if_pos h]
  rfl
/-- What a round must do. -/
def StepOK (X : Exe) (N : Nat) (L : RL) (rd : Option Nat) (ds : List Nat) (frSf : List Nat → AF) (nx n cl m : Nat) (es : List (List Int × AV × Nat)) (hBf : List Nat → Tr AO) (keep : List Nat → Nat → Bool) (Reach : List Nat → Prop) : Prop :=
  ∀ S e, Reach S → e ∈ es → keep S e.2.2 = true → e.2.2 ∉ S → Reach (S ++ [e.2.2]) ∧ ∃ tS fr2 h2, (∀ j, tS.get j = if j = m then some (.mapG n es cl) else (hBf S).get j) ∧ rndK X N L rd ds (frSf S) ⟨nx, tS⟩ e = some (fr2, h2) ∧ (∀ (φ : Phi) (T : Array Value), FR φ fr2 T → FR φ (frSf (S ++ [e.2.2])) T) ∧
    (∃ es2 T, h2.get m = some (.mapG n es2 cl) ∧ leEs T es2 = true ∧ T.filter (fun e => keep S e.2.2) = es.filter (fun x => keep (S ++ [e.2.2]) x.2.2) ∧ ∀ x ∈ T, x ∈ es) ∧
    (∀ j ao, (hBf (S ++ [e.2.2])).get j = some ao → ∃ ao2, h2.get j = some ao2 ∧ (leO ao ao2 = true ∨ ao2 = ao)) ∧
    (∀ j ao, (hBf (S ++ [e.2.2])).get j = some ao → ∃ ao2, (hBf S).get j = some ao2) ∧ (∀ j ao, (hBf S).get j = some ao → ∃ ao2, (hBf (S ++ [e.2.2])).get j = some ao2)
theorem loop_wp {L : RL} {φ0 : Phi} {frSf : List Nat → AF} {hBf : List Nat → Tr AO} {n N m' : Nat} {es : List (List Int × AV × Nat)} {cl since iI m nx git gm : Nat} {zm : Nat × Nat} {keep : List Nat → Nat → Bool} {Reach : List Nat → Prop} {ds : List Nat} {rd rO : Option Nat}
    (HT : TabOK X.E) (HK : KeysOK X.E) (HS : ∀ [Bet], Sound X.E.P (run X N)) (F : ∀ S, Reach S → RFix L φ0 (frSf S) (hBf S) n es cl since iI m nx git gm zm w0) (hcl : since ≤ cl)
    (hstep : StepOK X N L rd ds frSf nx n cl m es hBf keep Reach) (hro : RO φ0 rd rO) {Q : Exit → Act → World → Prop}
    (hQ : ∀ S a w, Reach S → RInv φ0 (frSf S) (hBf S) es cl since keep git gm w0 ds S a w → (∀ e ∈ es, keep S e.2.2 = true → e.2.2 ∈ S) → Q .normal a w) :
    ∀ (k : Nat) (S : List Nat) (a : Act) (w : World), Reach S → RInv φ0 (frSf S) (hBf S) es cl since keep git gm w0 ds S a w → (es.filter fun e => !S.contains e.2.2).length ≤ k → wpX (Fro rO) m' X.E.P (.loop L.loopBody) (Exit.inBlock L.B Q) a w := by
  intro k
  induction k with
  | zero =>
    intro S a w hre I hk
    letI : Bet := betOf (keep S)
    have F0 := F S hre
    have G := F0.good
    obtain ⟨ces, hm, hers⟩ := I.map
    obtain ⟨c0, hit, hc⟩ := I.it
    have hall : ∀ e ∈ es, e.2.2 ∈ S := fun e he => by
      have h0 : es.filter (fun e => !S.contains e.2.2) = [] := List.eq_nil_of_length_eq_zero (by omega)
      have := List.filter_eq_nil_iff.1 h0 e he
      simpa using this
    have hold : ∀ x ∈ ces.toList, x.born < since := fun x hx => by
      obtain ⟨e, h1, _, _, h2⟩ := hers.mem x hx
      rw [h2]
      exact F0.born e (List.mem_filter.1 h1).1
    refine wpX_loop (wpIn_seq (wpIn_region ?_))
    rw [show List.range (#[L.opN, L.opX] : Array Oper).size = [0, 1] from rfl]
    have hev : a.eval (.tmp L.tI) = .pointer (some ⟨git, 0, none⟩) := by
      obtain ⟨v, q1, q2⟩ := I.fr.2 _ _ F0.tI
      cases q2 with
      | ptr _ _ g d hp =>
        rw [F0.pI] at hp
        cases hp
        show a.tmps.getD L.tI undef = _
        rw [Array.getD_eq_getD_getElem?, q1]
        rfl
    rcases run_next_at (P := X.E.P) w L.opN.type git gm since c0 S.toArray ces cl hit hm hold hc with ⟨h0, hrun⟩ | ⟨f, hf, w1, hal, hrun⟩
    · refine wpOps_cons (o := L.opN) rfl G.n3 (oper_run (w' := w) (v := .tuple #[.bool false]) (by rw [G.n1]; intro c; simp) ?_ ?_)
      · unfold execOp
        rw [G.n1]
        simp only [hev, Sem.run_bind, hrun, Result.andThen]
        rfl
      rw [G.n2]
      refine wpOps_cons (o := L.opX) rfl G.x3 (oper_run (w' := w) (v := .bool false) (by rw [G.x1]; intro c; simp) ?_ ?_)
      · unfold execOp
        rw [G.x1]
        simp only [put_eval (a := a) (v := .tuple #[.bool false]) (by rw [I.fr.1]; exact F0.ln)]
        simp [Instr.extract]
      rw [G.x2]
      refine wpIn_seq (wpIn_cond_false (put_eval (by simp only [Act.put, Array.size_setIfInBounds]; rw [I.fr.1]; exact F0.lc)) (wpIn_exit ?_))
      show (if L.B = L.B then Q .normal _ _ else _)
      rw [if_pos rfl]
      refine hQ S _ _ hre ⟨I.rB, I.map, (I.fr.put_none F0.tn _).put_none F0.tc _, I.it, I.os, I.tape, I.output, I.size, I.other, I.mrk⟩ fun e he _ => hall e he
    · exfalso
      unfold leftOf at hf
      simp only [Array.toList_filter, List.mem_filter] at hf
      obtain ⟨hf1, hf2⟩ := hf
      obtain ⟨e, h1, _, _, h2⟩ := hers.mem f hf1
      have := hall e (List.mem_filter.1 h1).1
      rw [← h2] at this
      simp [this] at hf2
  | succ k ih =>
    intro S a w hre I hk
    letI : Bet := betOf (keep S)
    have F0 := F S hre
    have G := F0.good
    obtain ⟨ces, hm, hers⟩ := I.map
    obtain ⟨c0, hit, hc⟩ := I.it
    have hold : ∀ x ∈ ces.toList, x.born < since := fun x hx => by
      obtain ⟨e, h1, _, _, h2⟩ := hers.mem x hx
      rw [h2]
      exact F0.born e (List.mem_filter.1 h1).1
    refine wpX_loop (wpIn_seq (wpIn_region ?_))
    rw [show List.range (#[L.opN, L.opX] : Array Oper).size = [0, 1] from rfl]
    have hev : a.eval (.tmp L.tI) = .pointer (some ⟨git, 0, none⟩) := by
      obtain ⟨v, q1, q2⟩ := I.fr.2 _ _ F0.tI
      cases q2 with
      | ptr _ _ g d hp =>
        rw [F0.pI] at hp
        cases hp
        show a.tmps.getD L.tI undef = _
        rw [Array.getD_eq_getD_getElem?, q1]
        rfl
    rcases run_next_at (P := X.E.P) w L.opN.type git gm since c0 S.toArray ces cl hit hm hold hc with ⟨h0, hrun⟩ | ⟨f, hf, w1, hal, hrun⟩
    · refine wpOps_cons (o := L.opN) rfl G.n3 (oper_run (w' := w) (v := .tuple #[.bool false]) (by rw [G.n1]; intro c; simp) ?_ ?_)
      · unfold execOp
        rw [G.n1]
        simp only [hev, Sem.run_bind, hrun, Result.andThen]
        rfl
      rw [G.n2]
      refine wpOps_cons (o := L.opX) rfl G.x3 (oper_run (w' := w) (v := .bool false) (by rw [G.x1]; intro c; simp) ?_ ?_)
      · unfold execOp
        rw [G.x1]
        simp only [put_eval (a := a) (v := .tuple #[.bool false]) (by rw [I.fr.1]; exact F0.ln)]
        simp [Instr.extract]
      rw [G.x2]
      refine wpIn_seq (wpIn_cond_false (put_eval (by simp only [Act.put, Array.size_setIfInBounds]; rw [I.fr.1]; exact F0.lc)) (wpIn_exit ?_))
      show (if L.B = L.B then Q .normal _ _ else _)
      rw [if_pos rfl]
      refine hQ S _ _ hre ⟨I.rB, I.map, (I.fr.put_none F0.tn _).put_none F0.tc _, I.it, I.os, I.tape, I.output, I.size, I.other, I.mrk⟩ fun e he hke => ?_
      obtain ⟨f, h1, h2⟩ := hers.mem' e (List.mem_filter.2 ⟨he, hke⟩)
      have h3 : leftOf ces S.toArray = #[] := Array.eq_empty_of_size_eq_zero h0
      have h4 : f ∉ (leftOf ces S.toArray).toList := by rw [h3]; simp
      unfold leftOf at h4
      simp only [Array.toList_filter, List.mem_filter, not_and] at h4
      have h5 := h4 h1
      rw [h2] at h5
      simpa using h5
    · unfold leftOf at hf
      simp only [Array.toList_filter, List.mem_filter] at hf
      obtain ⟨hf1, hf2⟩ := hf
      obtain ⟨e, h1, h2, h3, h4⟩ := hers.mem f hf1
      obtain ⟨he, hke⟩ := List.mem_filter.1 h1
      have hnS : e.2.2 ∉ S := by
        rw [h4] at hf2
        simpa using hf2
      obtain ⟨hre', tS', fr2', h2', htS', hrnd, hleF, ⟨es2, T, hg2, hle, hT, hTe⟩, hB2, hB3, hB4⟩ := hstep S e hre he hke hnS
      have hgI : git < w1.heap.size := by
        have : w1.heap = w.heap := by rcases hal with rfl | rfl <;> rfl
        rw [this]
        exact Nat.lt_of_lt_of_le F0.gI I.size
      obtain ⟨s1, s2, s3⟩ := set_heap git (.mapIter (some gm) since (S.toArray.push f.born) cl) w1 hgI
      have hw1h : w1.heap = w.heap := by rcases hal with rfl | rfl <;> rfl
      refine wpOps_cons (o := L.opN) rfl G.n3 (oper_run (w' := setBlock w1 git (.mapIter (some gm) since (S.toArray.push f.born) cl)) (v := .tuple #[.bool true, f.key, f.val]) (by rw [G.n1]; intro c; simp) ?_ ?_)
      · unfold execOp
        rw [G.n1]
        simp only [hev, Sem.run_bind, hrun, Result.andThen]
        rfl
      rw [G.n2]
      refine wpOps_cons (o := L.opX) rfl G.x3 (oper_run (w' := setBlock w1 git (.mapIter (some gm) since (S.toArray.push f.born) cl)) (v := .bool true) (by rw [G.x1]; intro c; simp) ?_ ?_)
      · unfold execOp
        rw [G.x1]
        simp only [put_eval (a := a) (v := .tuple #[.bool true, f.key, f.val]) (by rw [I.fr.1]; exact F0.ln)]
        simp [Instr.extract]
      rw [G.x2]
      refine wpIn_seq (wpIn_cond_true (put_eval (by simp only [Act.put, Array.size_setIfInBounds]; rw [I.fr.1]; exact F0.lc)) (wpIn_skip ?_))
      refine round_wp (w := w) (a := a) (hB := hBf S) (tS := tS') HT HK HS F0 I htS' hro hrnd h2 h3 h4 s1 (fun k hk => by rw [s2 k hk, hw1h]) (by rw [s3, hw1h])
        (by rcases hal with rfl | rfl <;> exact ⟨rfl, rfl, rfl⟩) hm hf1 hers ((I.fr.put_none F0.tn _).put_none F0.tc _) I.mrk fun φ2 a2 w2 q1 q2 q3 q4 q5 q6 q7 q8 q9 q10 q11 => ?_
      refine ih (S ++ [e.2.2]) a2 w2 hre' ⟨fun i ao hi => ?_, ?_, (hleF _ _ q4).back_ q1 (F _ hre').frH, ⟨cl, ?_, hcl⟩, by rw [q7, I.os], by rw [q8, I.tape], by rw [q9, I.output], Nat.le_trans I.size q10, fun k hk hki hkm hno => ?_, I.mrk.back q1 q5⟩ ?_
      · obtain ⟨ao2, p1, p2⟩ := hB2 i ao hi
        obtain ⟨cs, rfl, hcs⟩ := (F _ hre').cells i ao hi
        obtain ⟨g, d, o, p3, p4, p5⟩ := q3.obj i ao2 p1
        have p5' : OR φ2 d (.cells cs) o := by
          rcases p2 with p2 | rfl
          · exact leO_OR p2 p5
          · exact p5
        obtain ⟨c, ee, p6, p7, p8⟩ := p5'
        obtain ⟨ao0, p9⟩ := hB3 i _ hi
        obtain ⟨cs0, g0, d0, o0, _, p10, _⟩ := I.rB i ao0 p9
        refine ⟨cs, g, d, o, rfl, phi_back q1 p10 p3, p4, c, ee, p6, p7, fun j x hx => ?_⟩
        obtain ⟨v, p11, p12, p13⟩ := p8 j x hx
        obtain ⟨v0, p14⟩ := hcs x (List.mem_of_getElem? hx)
        exact ⟨v, p11, p14.back q1 p12, p13⟩
      · obtain ⟨g, d, o, p1, p2, ces', rfl, p3, _, _⟩ := q3.obj m _ hg2
        have p4 := phi_back q1 F0.pm p1
        rw [F0.pm] at p4
        cases p4
        refine ⟨ces', p2, ?_⟩
        rw [map_keep] at p3
        obtain ⟨p5, _⟩ := leEs_ERs _ (leEs_filter (k := keep S) T hle) p3
        rw [hT] at p5
        exact p5.back q1 fun x hx => F0.hole x (List.mem_filter.1 hx).1
      · rw [q6, ← h4]
        simp
      · rw [q11 k (Nat.lt_of_lt_of_le hk I.size) hki hkm fun i ao d hi => ?_]
        · refine I.other k hk hki hkm fun i ao d hi => ?_
          obtain ⟨ao2, p1⟩ := hB4 i ao hi
          exact hno i ao2 d p1
        · obtain ⟨ao2, p1⟩ := hB4 i ao hi
          exact hno i ao2 d p1
      · have hlt : (es.filter fun x => !(S ++ [e.2.2]).contains x.2.2).length < (es.filter fun x => !S.contains x.2.2).length := by
          rw [← List.countP_eq_length_filter, ← List.countP_eq_length_filter]
          have hsub : ∀ x ∈ es, (!(S ++ [e.2.2]).contains x.2.2) = true → (!S.contains x.2.2) = true := fun x _ hx => by
            simp at hx ⊢
            exact fun hh => hx.1 hh
          obtain ⟨l1, l2, rfl⟩ := List.append_of_mem he
          simp only [List.countP_append, List.countP_cons]
          have c1 : List.countP (fun x => !(S ++ [e.2.2]).contains x.2.2) l1 ≤ List.countP (fun x => !S.contains x.2.2) l1 := List.countP_mono_left fun x hx => hsub x (by simp [hx])
          have c2 : List.countP (fun x => !(S ++ [e.2.2]).contains x.2.2) l2 ≤ List.countP (fun x => !S.contains x.2.2) l2 := List.countP_mono_left fun x hx => hsub x (by simp [hx])
          have c3 : (!(S ++ [e.2.2]).contains e.2.2) = false := by simp
          have c4 : (!S.contains e.2.2) = true := by simpa using hnS
          simp only [c3, c4]
          simp only [Bool.false_eq_true, if_false, if_true]
          omega
        omega
end
end Go.Proofs.YtibmpjhffeinoaaGreat.Kx

namespace Go.Proofs.YtibmpjhffeinoaaGreat.Kx
open Go Go.RowKit
open Go.ChangeMaps (setBlock)
variable [Val]

noncomputable section
variable {X : Exe} {E : Env} {P : Program} {φ φ' : Phi} {h h' : AH} {w w' w0 : World} {fr fr' : AF} {a : Act} {β : Type} {r : β}

/-! ### Parts of frame and heap -/
def keepFrK (ts : List Nat) (fr : AF) : AF → (AF → Option β) → Option β := List.rec (motive := fun _ => AF → (AF → Option β) → Option β) (fun acc k => k acc) (fun t _ ih acc k => getK none fr.t t fun x => putK none acc (some t) x fun acc => ih acc k) ts
theorem keepFrK_some [Bet] {T : Array Value} (ts : List Nat) : ∀ {acc : AF} {k : AF → Option β}, FR φ fr T → FR φ acc T → keepFrK ts fr acc k = some r → ∃ acc', k acc' = some r ∧ FR φ acc' T ∧ acc'.nt = acc.nt := by
  induction ts with
  | nil => intro acc k _ h2 h; exact ⟨acc, h, h2, rfl⟩
  | cons t ts ih =>
    intro acc k h1 h2 h
    obtain ⟨x, h3, h4⟩ := getK_some (k := fun x => putK none acc (some t) x fun acc => keepFrK ts fr acc k) h
    obtain ⟨v, h5, h6⟩ := h1.2 t x h3
    obtain ⟨_, acc', h7, h8, h9⟩ := putK_there h4 h2 h5 h6
    obtain ⟨acc2, e1, e2, e3⟩ := ih h1 h8 h7
    exact ⟨acc2, e1, e2, e3.trans h9⟩
def blk1K (h : AH) (i : Nat) (acc : Tr AO) (k : Tr AO → Option β) : Option β := cellsK none h i fun cs => setK none 15 acc i (.cells cs) k
def blk0K (h : AH) (x : AV) (acc : Tr AO) (k : Tr AO → Option β) : Option β := match x with
  | .ptr (some (i, _)) => blk1K h i acc k
  | .sl (some (i, _)) _ _ => blk1K h i acc k
  | .sl none _ _ => k acc
  | _ => none
def blkK (ts : List Nat) (fr : AF) (h : AH) : Tr AO → (Tr AO → Option β) → Option β := List.rec (motive := fun _ => Tr AO → (Tr AO → Option β) → Option β) (fun acc k => k acc)
  (fun t _ ih acc k => getK none fr.t t fun x => blk0K h x acc fun acc => ih acc k) ts
omit [Val] in
theorem blk1K_some [Bet] {i : Nat} {acc : Tr AO} {k : Tr AO → Option β} (he : blk1K h i acc k = some r) : ∃ acc', k acc' = some r ∧ ∀ j ao, acc'.get j = some ao → acc.get j = some ao ∨ ∃ cs, ao = .cells cs ∧ h.get j = some ao := by
  obtain ⟨cs, h5, h6⟩ := cellsK_some he
  obtain ⟨acc1, h7, h8⟩ := setK_some _ h6
  refine ⟨acc1, h8, fun j ao hj => ?_⟩
  rw [h7] at hj
  split at hj
  · rename_i hji
    cases hj
    exact .inr ⟨cs, rfl, by rw [hji]; exact h5⟩
  · exact .inl hj
omit [Val] in
theorem blkK_some [Bet] (ts : List Nat) : ∀ {acc : Tr AO} {k : Tr AO → Option β}, blkK ts fr h acc k = some r → ∃ acc', k acc' = some r ∧ ∀ j ao, acc'.get j = some ao → acc.get j = some ao ∨ ∃ cs, ao = .cells cs ∧ h.get j = some ao := by
  induction ts with
  | nil => intro acc k h; exact ⟨acc, h, fun j ao hj => .inl hj⟩
  | cons t ts ih =>
    intro acc k he
    obtain ⟨x, h3, h4⟩ := getK_some (k := fun x => blk0K h x acc fun acc => blkK ts fr h acc k) he
    have key : ∀ i, blk1K h i acc (fun acc => blkK ts fr h acc k) = some r → ∃ acc', k acc' = some r ∧ ∀ j ao, acc'.get j = some ao → acc.get j = some ao ∨ ∃ cs, ao = .cells cs ∧ h.get j = some ao := by
      intro i hi
      obtain ⟨acc1, h7, h8⟩ := blk1K_some hi
      obtain ⟨acc2, e1, e2⟩ := ih h7
      refine ⟨acc2, e1, fun j ao hj => ?_⟩
      rcases e2 j ao hj with h9 | h9
      · exact h8 j ao h9
      · exact .inr h9
    unfold blk0K at h4
    split at h4
    · exact key _ h4
    · exact key _ h4
    · exact ih h4
    · cases h4
def absB {α : Type} (t : Tr α) (n : Nat) : Bool := getK true t n fun _ => false
omit [Val] in
theorem absB_true [Bet] {α : Type} {t : Tr α} {n : Nat} (h : absB t n = true) : t.get n = none := by
  unfold absB at h
  rw [getK_eq] at h
  cases hg : t.get n with
  | none => rfl
  | some v => rw [hg] at h; cases h
def bornsB (since : Nat) (es : List (List Int × AV × Nat)) : Nat → Bool := List.rec (motive := fun _ => Nat → Bool) (fun lo => Nat.ble lo since) (fun e _ ih lo => ite_ (Nat.ble lo e.2.2) (natK (Nat.succ e.2.2) ih) false) es
omit [Val] in
theorem bornsB_true [Bet] {since : Nat} (es : List (List Int × AV × Nat)) : ∀ lo, bornsB since es lo = true → lo ≤ since ∧ (∀ e ∈ es, lo ≤ e.2.2 ∧ e.2.2 < since) ∧ (es.map (·.2.2)).Nodup := by
  induction es with
  | nil => intro lo h; exact ⟨Nat.le_of_ble_eq_true h, (fun e he => by cases he), List.nodup_nil⟩
  | cons e es ih =>
    intro lo h
    have h' : ite_ (Nat.ble lo e.2.2) (natK (Nat.succ e.2.2) (bornsB since es)) false = true := h
    obtain ⟨h1, h2⟩ := ite_and h'
    rw [natK_eq] at h2
    obtain ⟨h3, h4, h5⟩ := ih _ h2
    have h6 := Nat.le_of_ble_eq_true h1
    refine ⟨by omega, fun x hx => ?_, ?_⟩
    · cases hx with
      | head => exact ⟨h6, by omega⟩
      | tail _ hx => have := h4 x hx; omega
    · rw [List.map_cons, List.nodup_cons]
      refine ⟨fun hm => ?_, h5⟩
      obtain ⟨x, hx, hxe⟩ := List.mem_map.1 hm
      have := h4 x hx
      omega

/-! ### A round -/
def hasB (b : Nat) (es : List (List Int × AV × Nat)) : Bool := List.rec false (fun e _ ih => ite_ (Nat.beq e.2.2 b) true ih) es
def dropE (X : Exe) (N : Nat) (L : RL) (rd : Option Nat) (ds : List Nat) (frS : AF) (hB : Tr AO) (hS : AH) (m n cl : Nat) (es : List (List Int × AV × Nat)) (e : List Int × AV × Nat) (k : Bool → Option β) : Option β := match rndK X N L rd ds frS hS e with
  | some (fr2, h2) => ite_ (leF frS fr2) (ite_ (subT leO hB h2.t) (getK none h2.t m fun ao => match ao with
    | .mapG n' es2 cl' => ite_ (Nat.beq n n') (ite_ (Nat.beq cl cl') (ite_ (hasB e.2.2 es2) (ite_ (leEs es es2) (k false) none) (dropKeyK e.1 es fun es' => ite_ (leEs es' es2) (k true) none)) none) none
    | _ => none) none) none
  | none => none
def DropOK (X : Exe) (N : Nat) (L : RL) (rd : Option Nat) (ds : List Nat) (frS : AF) (hB : Tr AO) (hS : AH) (m n cl : Nat) (es : List (List Int × AV × Nat)) (e : List Int × AV × Nat) (d : Bool) : Prop :=
  ∃ fr2 h2 es2, rndK X N L rd ds frS hS e = some (fr2, h2) ∧ leF frS fr2 = true ∧ subT leO hB h2.t = true ∧ h2.t.get m = some (.mapG n es2 cl) ∧ leEs (if d then es.filter (otherKey e.1) else es) es2 = true
omit [Val] in
theorem dropE_some [Bet] {N : Nat} {L : RL} {rd : Option Nat} {ds : List Nat} {frS : AF} {hB : Tr AO} {hS : AH} {m n cl : Nat} {es : List (List Int × AV × Nat)} {e : List Int × AV × Nat} {k : Bool → Option β}
    (he : dropE X N L rd ds frS hB hS m n cl es e k = some r) : ∃ d, k d = some r ∧ DropOK X N L rd ds frS hB hS m n cl es e d := by
  unfold dropE at he
  split at he
  · rename_i fr2 h2 hr
    obtain ⟨h0, he'⟩ := ite_some_ he
    obtain ⟨h3, h4⟩ := ite_some_ he'
    obtain ⟨ao, h5, h6⟩ := getK_some h4
    split at h6
    · rename_i n' es2 cl'
      obtain ⟨h7, h8⟩ := ite_some_ h6
      obtain ⟨h9, h10⟩ := ite_some_ h8
      have e1 := beq_true' h7
      have e2 := beq_true' h9
      subst e1
      subst e2
      cases hb : hasB e.2.2 es2 with
      | true =>
        rw [hb, ite_true_] at h10
        obtain ⟨h11, h12⟩ := ite_some_ h10
        exact ⟨false, h12, fr2, h2, es2, hr, h0, h3, h5, h11⟩
      | false =>
        rw [hb, ite_false_, dropKeyK_eq] at h10
        obtain ⟨h11, h12⟩ := ite_some_ h10
        exact ⟨true, h12, fr2, h2, es2, hr, h0, h3, h5, h11⟩
    · cases h6
  · cases he
def delsK (X : Exe) (N : Nat) (L : RL) (rd : Option Nat) (ds : List Nat) (frS : AF) (hB : Tr AO) (hS : AH) (m n cl : Nat) (es l : List (List Int × AV × Nat)) : (List Nat → Option β) → Option β :=
  List.rec (motive := fun _ => (List Nat → Option β) → Option β) (fun k => k []) (fun e _ ih k => dropE X N L rd ds frS hB hS m n cl es e fun d => ih fun dl => k (ite_ d (e.2.2 :: dl) dl)) l
omit [Val] in
theorem delsK_some [Bet] {N : Nat} {L : RL} {rd : Option Nat} {ds : List Nat} {frS : AF} {hB : Tr AO} {hS : AH} {m n cl : Nat} {es : List (List Int × AV × Nat)} (l : List (List Int × AV × Nat)) : ∀ {k : List Nat → Option β}, (l.map (·.2.2)).Nodup →
    delsK X N L rd ds frS hB hS m n cl es l k = some r → ∃ dl, k dl = some r ∧ (∀ b ∈ dl, b ∈ l.map (·.2.2)) ∧ ∀ e ∈ l, DropOK X N L rd ds frS hB hS m n cl es e (dl.contains e.2.2) := by
  induction l with
  | nil => intro k _ h; exact ⟨[], h, (fun b hb => by cases hb), (fun e he => by cases he)⟩
  | cons e l ih =>
    intro k hn h
    rw [List.map_cons, List.nodup_cons] at hn
    obtain ⟨d, h1, h2⟩ := dropE_some (k := fun d => delsK X N L rd ds frS hB hS m n cl es l fun dl => k (ite_ d (e.2.2 :: dl) dl)) h
    obtain ⟨dl, h3, h4, h5⟩ := ih hn.2 h1
    have hne : e.2.2 ∉ dl := fun hm => hn.1 (h4 _ hm)
    refine ⟨_, h3, ?_, ?_⟩
    · intro b hb
      rw [List.map_cons]
      cases d with
      | true =>
        cases hb with
        | head => exact List.mem_cons_self
        | tail _ hb => exact List.mem_cons_of_mem _ (h4 b hb)
      | false => exact List.mem_cons_of_mem _ (h4 b hb)
    · intro x hx
      cases hx with
      | head =>
        cases d with
        | true =>
          have : (ite_ true (e.2.2 :: dl) dl).contains e.2.2 = true := by show (e.2.2 :: dl).contains e.2.2 = true; simp
          rw [this]; exact h2
        | false =>
          have : (ite_ false (e.2.2 :: dl) dl).contains e.2.2 = false := by show dl.contains e.2.2 = false; simpa using hne
          rw [this]; exact h2
      | tail _ hx =>
        have hxe : ¬ x.2.2 = e.2.2 := fun hh => hn.1 (by rw [← hh]; exact List.mem_map_of_mem hx)
        cases d with
        | true =>
          have : (ite_ true (e.2.2 :: dl) dl).contains x.2.2 = dl.contains x.2.2 := by
            show (e.2.2 :: dl).contains x.2.2 = _
            rw [List.contains_cons]
            simp [hxe]
          rw [this]; exact h5 x hx
        | false => exact h5 x hx
def outB (dl : List Nat) (b : Nat) : Bool := List.rec true (fun x _ ih => ite_ (Nat.beq x b) false ih) dl
omit [Val] in
theorem outB_eq [Bet] (dl : List Nat) (b : Nat) : outB dl b = !dl.contains b := by
  induction dl with
  | nil => rfl
  | cons x dl ih =>
    show ite_ (Nat.beq x b) false (outB dl b) = _
    rw [ih, beq_dec, List.contains_cons]
    by_cases hx : x = b
    · subst hx; simp [ite_]
    · rw [decide_eq_false hx, ite_false_]
      have : ¬ b = x := fun e => hx e.symm
      simp [this]
def keptK (dl : List Nat) (es : List (List Int × AV × Nat)) : (List (List Int × AV × Nat) → β) → β := List.rec (motive := fun _ => (List (List Int × AV × Nat) → β) → β) (fun k => k []) (fun e _ ih k => ite_ (outB dl e.2.2) (ih fun l => k (e :: l)) (ih k)) es
omit [Val] in
theorem keptK_eq [Bet] (dl : List Nat) (es : List (List Int × AV × Nat)) : ∀ k : List (List Int × AV × Nat) → β, keptK dl es k = k (es.filter fun e => !dl.contains e.2.2) := by
  induction es with
  | nil => intro k; rfl
  | cons e es ih =>
    intro k
    show ite_ (outB dl e.2.2) (keptK dl es fun l => k (e :: l)) (keptK dl es k) = _
    rw [ih, ih, outB_eq, List.filter_cons]
    cases dl.contains e.2.2 <;> rfl
/-- The whole loop. -/
def rdelK (X : Exe) (N : Nat) (L : RL) (keepT blkT : List Nat) (rd : Option Nat) (ds : List Nat) (fr : AF) (h : AH) : Option (AF × AH) :=
  keepFrK keepT fr ⟨fr.nt, .e⟩ fun frS => ite_ (absB frS.t L.tn) (ite_ (absB frS.t L.tc) (ite_ (Nat.blt L.tn frS.nt) (ite_ (Nat.blt L.tc frS.nt) (getK none frS.t L.tI fun it => match it with
    | .ptr (some (i, 0)) => getK none h.t i fun ao => match ao with
      | .iter m since => mapK none h m fun n es cl => ite_ (Nat.ble since cl) (ite_ (bornsB since es 0) (blkK blkT fr h .e fun hB => ite_ (absB hB m) (setK none 15 hB m (.mapG n es cl) fun tS =>
          delsK X N L rd ds frS hB ⟨h.nx, tS⟩ m n cl es es fun dl => keptK dl es fun kept => setHK none h m (.map n kept cl) fun h1 => setHK none h1 i .dead fun h2 => some (frS, h2)) none) none) none
      | _ => none
    | _ => none) none) none) none) none
omit [Val] in
theorem inj_of_nodup {α γ : Type} {f : α → γ} : ∀ {l : List α}, (l.map f).Nodup → ∀ {x y : α}, x ∈ l → y ∈ l → f x = f y → x = y
  | [], _, x, _, hx, _, _ => by cases hx
  | z :: l, hn, x, y, hx, hy, h => by
    rw [List.map_cons, List.nodup_cons] at hn
    rcases List.mem_cons.1 hx with rfl | hx'
    · rcases List.mem_cons.1 hy with rfl | hy'
      · rfl
      · exact absurd (by rw [h]; exact List.mem_map_of_mem hy') hn.1
    · rcases List.mem_cons.1 hy with rfl | hy'
      · exact absurd (by rw [← h]; exact List.mem_map_of_mem hx') hn.1
      · exact inj_of_nodup hn.2 hx' hy' h
theorem VR.hole [Bet] {x : AV} {v : Value} (h : VR φ x v) : ∃ v0, VR φ x v0 := ⟨v, h⟩
/-- What the loop does. -/
theorem rdel_ok [Bet] {N : Nat} {L : RL} {keepT blkT : List Nat} (HT : TabOK X.E) (HK : KeysOK X.E) (HS : ∀ [Bet], Sound X.E.P (run X N)) (G : L.Good) : CutOK X.E.P L.code (rdelK X N L keepT blkT) := by
  intro rd ds fr h fr' h' he
  refine CodeOK.of (by unfold RL.code; simp) fun φ0 w0 a0 rO m' Q hR hF hM hro hQ => ?_
  obtain ⟨frS, h1, hFS, hnt⟩ := keepFrK_some (acc := ⟨fr.nt, .e⟩) keepT hF ⟨hF.1, fun t x hx => by simp [Tr.get] at hx⟩ he
  obtain ⟨c1, h2⟩ := ite_some_ h1
  obtain ⟨c2, h3⟩ := ite_some_ h2
  obtain ⟨c3, h4⟩ := ite_some_ h3
  obtain ⟨c4, h5⟩ := ite_some_ h4
  obtain ⟨it, g1, h6⟩ := getK_some h5
  split at h6
  · rename_i iI
    obtain ⟨ao, g2, h7⟩ := getK_some h6
    split at h7
    · rename_i m since
      have g3 : h.get iI = some (.iter m since) := AH.get_of g2 (by simp)
      obtain ⟨git, zI, o, p1, p2, rfl, gm, zm, rfl, p3⟩ := hR.obj iI _ g3
      obtain ⟨n, es, cl, ces, g4, h8, p4, p5, p6, p7⟩ := mapK_some hR p3 h7
      obtain ⟨c5, h9⟩ := ite_some_ h8
      obtain ⟨c6, h10⟩ := ite_some_ h9
      obtain ⟨hB, h11, hBs⟩ := blkK_some (acc := .e) blkT h10
      obtain ⟨c7, h12⟩ := ite_some_ h11
      obtain ⟨tS, htS, h13⟩ := setK_some _ h12
      obtain ⟨_, hb1, hb2⟩ := bornsB_true es 0 c6
      obtain ⟨dl, h14, hd1, hd2⟩ := delsK_some es hb2 h13
      rw [keptK_eq] at h14
      obtain ⟨hh1, k1, k2, h15⟩ := setHK_some h14
      obtain ⟨hh2, k3, k4, h16⟩ := setHK_some h15
      simp only [Option.some.injEq, Prod.mk.injEq] at h16
      obtain ⟨rfl, rfl⟩ := h16
      have hBh : ∀ j ao, hB.get j = some ao → ∃ cs, ao = .cells cs ∧ h.get j = some (.cells cs) := fun j ao hj => by
        rcases hBs j ao hj with h0 | ⟨cs, rfl, h0⟩
        · simp [Tr.get] at h0
        · exact ⟨cs, rfl, h0⟩
      have hlenI : git < w0.heap.size := (Array.getElem?_eq_some_iff.1 p2).1
      have hlenm : gm < w0.heap.size := (Array.getElem?_eq_some_iff.1 p4).1
      have hne : git ≠ gm := by
        rintro rfl
        rw [p2] at p4
        cases p4
      have hmI : m ≠ iI := by
        rintro rfl
        rw [g3] at g4
        cases g4
      have hIB : ∀ i ao d, hB.get i = some ao → φ0 i = some (git, d) → False := fun i ao d hi hp => by
        obtain ⟨cs, rfl, h0⟩ := hBh i ao hi
        have := hR.injN h0 g3 hp p1 rfl
        rw [this, g3] at h0
        cases h0
      have hmB : ∀ i ao d, hB.get i = some ao → φ0 i = some (gm, d) → False := fun i ao d hi hp => by
        obtain ⟨cs, rfl, h0⟩ := hBh i ao hi
        have := hR.injN h0 g4 hp p3 rfl
        rw [this, g4] at h0
        cases h0
      have hkN : (es.map (·.1)).Nodup := p6
      have F : ∀ S : List Nat, True → RFix L φ0 frS hB n es cl since iI m h.nx git gm zm w0 := fun S _ => {
        good := G, frH := fun t x hx => by
          obtain ⟨v, _, hv⟩ := hFS.2 t x hx
          exact ⟨v, hv⟩
        tI := g1, tn := absB_true c1, tc := absB_true c2, ln := blt_true c3, lc := blt_true c4, pI := p1, pm := p3, neB := hmB, neI := hIB, ne := hne, nm := absB_true c7
        inj := fun i j x y g d e hi hj h1 h2 => by
          obtain ⟨cs, rfl, e1⟩ := hBh i x hi
          obtain ⟨cs', rfl, e2⟩ := hBh j y hj
          exact hR.injN e1 e2 h1 h2 rfl
        dom := hR.dom, gI := hlenI, gm := hlenm, born := fun e he => (hb1 e he).2, bornN := hb2, keyN := hkN, wf := p7
        hole := fun e he => by
          obtain ⟨j, hj⟩ := List.getElem?_of_mem he
          obtain ⟨f, _, _, q3, _⟩ := p5.get hj
          exact ⟨_, q3⟩
        cells := fun i ao hi => by
          obtain ⟨cs, rfl, e1⟩ := hBh i ao hi
          refine ⟨cs, rfl, fun x hx => ?_⟩
          obtain ⟨g, d, o, _, _, c, ee, _, _, q4⟩ := hR.obj i _ e1
          obtain ⟨j, hj⟩ := List.getElem?_of_mem hx
          obtain ⟨v, _, q5, _⟩ := q4 j x hj
          exact ⟨v, q5⟩ }
      have I0 : RInv φ0 frS hB es cl since (fun S b => !(S.contains b && dl.contains b)) git gm w0 ds [] a0 w0 := {
        rB := fun i ao hi => by
          obtain ⟨cs, rfl, e1⟩ := hBh i ao hi
          obtain ⟨g, d, o, q1, q2, q3⟩ := hR.obj i _ e1
          exact ⟨cs, g, d, o, rfl, q1, q2, q3⟩
        map := ⟨ces, p4, by
          rw [List.filter_eq_self.2 fun e _ => by simp]
          exact p5⟩
        fr := hFS, it := ⟨since, p2, Nat.le_refl _⟩, os := rfl, tape := rfl, output := rfl, size := Nat.le_refl _, other := fun k _ _ _ _ => rfl, mrk := hM }
      have hkeep : ∀ (S : List Nat) (e : List Int × AV × Nat), e ∈ es → e.2.2 ∉ S → ∀ x ∈ es, (!((S ++ [e.2.2]).contains x.2.2 && dl.contains x.2.2)) = ((!(S.contains x.2.2 && dl.contains x.2.2)) && !(decide (x.1 = e.1) && dl.contains e.2.2)) := by
        intro S e he _ x hx
        have hxe : (x.2.2 = e.2.2) ↔ (x.1 = e.1) := by
          constructor
          · intro hh
            rw [inj_of_nodup (f := fun x : List Int × AV × Nat => x.2.2) hb2 hx he hh]
          · intro hh
            rw [inj_of_nodup (f := fun x : List Int × AV × Nat => x.1) hkN hx he hh]
        rw [List.contains_append]
        by_cases hh : x.2.2 = e.2.2
        · have h1 := hxe.1 hh
          simp only [hh, h1, decide_true, Bool.true_and, List.contains_cons, beq_self_eq_true, Bool.true_or, Bool.or_true]
          cases S.contains e.2.2 <;> cases dl.contains e.2.2 <;> rfl
        · have h1 : ¬ x.1 = e.1 := fun h0 => hh (hxe.2 h0)
          simp [h1, hh]
      refine wpIn_block (wpX_in (loop_wp (N := N) (n := n) (iI := iI) (m := m) (nx := h.nx) (zm := zm) (keep := fun S b => !(S.contains b && dl.contains b)) (Reach := fun _ => True) (frSf := fun _ => frS) (hBf := fun _ => hB) (w0 := w0) HT HK HS F (Nat.le_of_ble_eq_true c5) ?_ hro ?_ es.length [] a0 w0 trivial I0 ?_))
      · intro S e _ he hke hnS
        obtain ⟨fr2, h2, es2, r1, r0, r2, r3, r4⟩ := hd2 e he
        refine ⟨trivial, tS, fr2, h2, htS, r1, (fun _ _ hfr => leF_FR r0 hfr), ⟨es2, _, AH.get_of r3 (by simp), r4, ?_, ?_⟩, fun j ao hj => ?_, fun j ao hj => ⟨ao, hj⟩, fun j ao hj => ⟨ao, hj⟩⟩
        · have hkk := hkeep S e he hnS
          cases hdl : dl.contains e.2.2 with
          | true =>
            rw [if_pos rfl, List.filter_filter]
            refine List.filter_congr fun x hx => ?_
            show ((!(S.contains x.2.2 && dl.contains x.2.2)) && otherKey e.1 x) = (!((S ++ [e.2.2]).contains x.2.2 && dl.contains x.2.2))
            rw [hkk x hx, hdl]
            unfold otherKey
            simp
          | false =>
            rw [if_neg (by simp)]
            refine List.filter_congr fun x hx => ?_
            show (!(S.contains x.2.2 && dl.contains x.2.2)) = (!((S ++ [e.2.2]).contains x.2.2 && dl.contains x.2.2))
            rw [hkk x hx, hdl]
            simp
        · intro x hx
          split at hx
          · exact (List.mem_filter.1 hx).1
          · exact hx
        · obtain ⟨u, e1, e2⟩ := subT_get _ r2 j ao hj
          obtain ⟨cs, rfl, _⟩ := hBh j ao hj
          exact ⟨u, AH.get_of e1 (by rintro rfl; cases e2), .inl e2⟩
      · intro S a w _ I hall
        obtain ⟨ces', m1, m2⟩ := I.map
        have hfin : es.filter (fun e => !(S.contains e.2.2 && dl.contains e.2.2)) = es.filter (fun e => !dl.contains e.2.2) := by
          refine List.filter_congr fun e he => ?_
          cases hc : S.contains e.2.2 with
          | true => rfl
          | false =>
            exfalso
            have : e.2.2 ∈ S := hall e he (by show (!(S.contains e.2.2 && dl.contains e.2.2)) = true; rw [hc]; rfl)
            simp [this] at hc
        rw [hfin] at m2
        have get2 : ∀ j ao, hh2.get j = some ao → (j = m ∧ ao = .map n (es.filter fun e => !dl.contains e.2.2) cl) ∨ (j ≠ m ∧ j ≠ iI ∧ h.get j = some ao) := by
          intro j ao hj
          rcases k4 j ao hj with ⟨rfl, rfl⟩ | ⟨n1, hj1⟩
          · exact absurd rfl (AH.of_get hj).2
          · rcases k2 j ao hj1 with ⟨rfl, rfl⟩ | ⟨n2, hj2⟩
            · exact .inl ⟨rfl, rfl⟩
            · exact .inr ⟨n2, n1, hj2⟩
        refine hQ φ0 w a ⟨fun j ao hj => ?_, fun i j x y g d e hi hj h1 h2 => ?_, fun i p hp => by rw [k3, k1]; exact hR.dom i p hp⟩ ⟨⟨.refl _, by rw [k3, k1]; exact Nat.le_refl _, I.size, fun k hk hno => ?_, fun i x g d hi hf hp hg => ?_, fun i x hi hf => ?_, I.os, I.tape, I.output⟩, fun _ _ => rfl⟩ I.fr I.mrk
        · rcases get2 j ao hj with ⟨rfl, rfl⟩ | ⟨n1, n2, hj2⟩
          · exact ⟨gm, zm, _, p3, m1, ces', rfl, m2, (List.filter_sublist.map _).nodup hkN, fun e he => p7 e (List.mem_filter.1 he).1⟩
          · cases hBj : hB.get j with
            | some ao' =>
              obtain ⟨cs, rfl, e1⟩ := hBh j ao' hBj
              rw [e1] at hj2
              cases hj2
              obtain ⟨cs', g, d, o, e2, e3, e4, e5⟩ := I.rB j _ hBj
              cases e2
              exact ⟨g, d, o, e3, e4, e5⟩
            | none =>
              obtain ⟨g, d, o, e1, e2, e3⟩ := hR.obj j ao hj2
              refine ⟨g, d, o, e1, ?_, e3⟩
              rw [I.other g (Array.getElem?_eq_some_iff.1 e2).1 ?_ ?_ ?_]
              · exact e2
              · rintro rfl; exact n2 (hR.injB hj2 g3 e1 p1 rfl)
              · rintro rfl; exact n1 (hR.injB hj2 g4 e1 p3 rfl)
              · intro i ai di hi hp
                obtain ⟨cs, rfl, e4⟩ := hBh i ai hi
                have := hR.injB hj2 e4 e1 hp rfl
                rw [← this, hBj] at hi
                cases hi
        · have o1 : ∃ x', h.get i = some x' ∧ x.isF = x'.isF := by
            rcases get2 i x hi with ⟨rfl, rfl⟩ | ⟨_, _, h3⟩
            · exact ⟨_, g4, rfl⟩
            · exact ⟨_, h3, rfl⟩
          have o2 : ∃ y', h.get j = some y' ∧ y.isF = y'.isF := by
            rcases get2 j y hj with ⟨rfl, rfl⟩ | ⟨_, _, h3⟩
            · exact ⟨_, g4, rfl⟩
            · exact ⟨_, h3, rfl⟩
          obtain ⟨x', o1, f1⟩ := o1
          obtain ⟨y', o2, f2⟩ := o2
          rw [f1, f2]
          exact hR.inj _ _ _ _ _ _ _ o1 o2 h1 h2
        · refine I.other k hk ?_ ?_ fun i ao d hi hp => ?_
          · rintro rfl; exact hno _ _ _ g3 rfl p1
          · rintro rfl; exact hno _ _ _ g4 rfl p3
          · obtain ⟨cs, rfl, e1⟩ := hBh i ao hi
            exact hno _ _ _ e1 rfl hp
        · rcases get2 i x hi with ⟨rfl, _⟩ | ⟨_, _, h3⟩
          · exact ⟨_, _, _, g4, rfl, hp⟩
          · exact ⟨_, _, _, h3, hf, hp⟩
        · rcases get2 i x hi with ⟨_, rfl⟩ | ⟨_, _, h3⟩
          · cases hf
          · exact ⟨x, h3, hf⟩
      · exact Nat.le_trans (List.length_filter_le _ _) (Nat.le_refl _)
    · cases h7
  · cases h6
end
end Go.Proofs.YtibmpjhffeinoaaGreat.Kx

namespace Go.Proofs.YtibmpjhffeinoaaGreat.Kx
open Go Go.RowKit
open Go.ChangeMaps (setBlock)
variable [Val]

noncomputable section
variable {X : Exe} {E : Env} {P : Program} {φ φ' : Phi} {h h' : AH} {w w' w0 : World} {fr fr' : AF} {a : Act} {β : Type} {r : β}

abbrev Ent := List Int × AV × Nat
abbrev XSt := AF × Tr AO
def flatB (x : AV) : Bool := match x with
  | .int _ _ => true
  | .bool _ => true
  | _ => false
def flatF (x : AV) : Bool := match x with
  | .int _ _ => true
  | .bool _ => true
  | .lin _ _ _ => true
  | _ => false
def memE (es : List Ent) (x : AV) : Bool := List.rec false (fun e _ ih => ite_ (eqV e.2.1 x) true ih) es
def okV (es : List Ent) (x x0 : AV) : Bool := ite_ (flatB x) (flatF x0) (ite_ (eqV x x0) true (ite_ (flatF x0) (memE es x) false))
def okV' (es : List Ent) (x0 x : AV) : Bool := okV es x x0
def okVs (es : List Ent) (xs : List AV) : List AV → Bool := List.rec (motive := fun _ => List AV → Bool) (fun ys => List.rec true (fun _ _ _ => false) ys) (fun x _ ih ys => List.rec (motive := fun _ => Bool) false (fun y ys _ => ite_ (okV es x y) (ih ys) false) ys) xs
def okO (es : List Ent) (x x0 : AO) : Bool := match x, x0 with
  | .cells xs, .cells ys => okVs es xs ys
  | _, _ => false
def okO' (es : List Ent) (x0 x : AO) : Bool := okO es x x0
def simB (es : List Ent) (s0 s : XSt) : Bool := ite_ (Nat.beq s.1.nt s0.1.nt) (ite_ (subT (okV es) s.1.t s0.1.t) (ite_ (subT (okV' es) s0.1.t s.1.t) (ite_ (subT (okO es) s.2 s0.2) (subT (okO' es) s0.2 s.2) false) false) false) false
omit [Val] in
theorem memE_true [Bet] {es : List Ent} {x : AV} (h : memE es x = true) : ∃ e ∈ es, e.2.1 = x := by
  induction es with
  | nil => cases h
  | cons e es ih =>
    have h' : ite_ (eqV e.2.1 x) true (memE es x) = true := h
    cases hq : eqV e.2.1 x with
    | true => exact ⟨e, List.mem_cons_self, eqV_true hq⟩
    | false =>
      rw [hq, ite_false_] at h'
      obtain ⟨e', h1, h2⟩ := ih h'
      exact ⟨e', List.mem_cons_of_mem _ h1, h2⟩
theorem okV_hole [Bet] {es : List Ent} {x x0 : AV} {v0 : Value} (h : okV es x x0 = true) (h0 : VR φ x0 v0) (hes : ∀ e ∈ es, ∃ v, VR φ e.2.1 v) : ∃ v, VR φ x v := by
  unfold okV at h
  cases hf : flatB x with
  | true =>
    unfold flatB at hf
    split at hf
    · exact ⟨_, .int _ _⟩
    · exact ⟨_, .bool _⟩
    · cases hf
  | false =>
    rw [hf, ite_false_] at h
    cases hq : eqV x x0 with
    | true =>
      rw [eqV_true hq]
      exact ⟨v0, h0⟩
    | false =>
      rw [hq, ite_false_] at h
      obtain ⟨_, h2⟩ := ite_and h
      obtain ⟨e, h3, rfl⟩ := memE_true h2
      exact hes e h3
omit [Val] in
theorem okVs_get [Bet] {es : List Ent} (xs : List AV) : ∀ {ys : List AV}, okVs es xs ys = true → ∀ x ∈ xs, ∃ y ∈ ys, okV es x y = true := by
  induction xs with
  | nil => intro ys _ x hx; cases hx
  | cons z xs ih =>
    intro ys h x hx
    cases ys with
    | nil => cases h
    | cons y ys =>
      have h' : ite_ (okV es z y) (okVs es xs ys) false = true := h
      obtain ⟨h1, h2⟩ := ite_and h'
      cases hx with
      | head => exact ⟨y, List.mem_cons_self, h1⟩
      | tail _ hx => obtain ⟨y', h3, h4⟩ := ih h2 x hx; exact ⟨y', List.mem_cons_of_mem _ h3, h4⟩
/-- One entry. -/
def stepX (X : Exe) (N : Nat) (L : RL) (rd : Option Nat) (ds : List Nat) (keepT blkT : List Nat) (nx m n cl : Nat) (es : List Ent) (st : XSt) (e : Ent) : Option XSt :=
  setK none 15 st.2 m (.mapG n es cl) fun tS => match rndK X N L rd ds st.1 ⟨nx, tS⟩ e with
  | some (fr2, h2) => getK none h2.t m fun ao => match ao with
    | .mapG n' es2 cl' => ite_ (Nat.beq n n') (ite_ (Nat.beq cl cl') (ite_ (leEs es es2) (keepFrK keepT fr2 ⟨fr2.nt, .e⟩ fun frS' => blkK blkT frS' h2 .e fun hB' => ite_ (simB es st (frS', hB')) (some (frS', hB')) none) none) none) none
    | _ => none
  | none => none
omit [Val] in
theorem keepFrK_FR [Bet] (ts : List Nat) : ∀ {acc : AF} {k : AF → Option β}, keepFrK ts fr acc k = some r → (∀ t x, acc.t.get t = some x → fr.t.get t = some x) → acc.nt = fr.nt → ∃ acc', k acc' = some r ∧ (∀ t x, acc'.t.get t = some x → fr.t.get t = some x) ∧ acc'.nt = fr.nt := by
  induction ts with
  | nil => intro acc k h h1 h2; exact ⟨acc, h, h1, h2⟩
  | cons t ts ih =>
    intro acc k h h1 h2
    obtain ⟨x, h3, h4⟩ := getK_some (k := fun x => putK none acc (some t) x fun acc => keepFrK ts fr acc k) h
    unfold putK at h4
    simp only at h4
    obtain ⟨_, h5⟩ := ite_some_ h4
    obtain ⟨u, h6, h7⟩ := setK_some _ h5
    refine ih (acc := ⟨acc.nt, u⟩) h7 (fun s y hs => ?_) h2
    rw [h6] at hs
    split at hs
    · rename_i he; cases hs; rw [he]; exact h3
    · exact h1 s y hs
def StepX (X : Exe) (N : Nat) (L : RL) (rd : Option Nat) (ds : List Nat) (nx m n cl : Nat) (es : List Ent) (st : XSt) (e : Ent) (st' : XSt) : Prop :=
  ∃ tS fr2 h2 es2, (∀ j, tS.get j = if j = m then some (.mapG n es cl) else st.2.get j) ∧ rndK X N L rd ds st.1 ⟨nx, tS⟩ e = some (fr2, h2) ∧ h2.get m = some (.mapG n es2 cl) ∧ leEs es es2 = true ∧
    (∀ t x, st'.1.t.get t = some x → fr2.t.get t = some x) ∧ st'.1.nt = fr2.nt ∧ (∀ j ao, st'.2.get j = some ao → ∃ cs, ao = .cells cs ∧ h2.get j = some ao) ∧ simB es st st' = true
omit [Val] in
theorem stepX_some [Bet] {N : Nat} {L : RL} {rd : Option Nat} {ds keepT blkT : List Nat} {nx m n cl : Nat} {es : List Ent} {st st' : XSt} {e : Ent} (he : stepX X N L rd ds keepT blkT nx m n cl es st e = some st') : StepX X N L rd ds nx m n cl es st e st' := by
  obtain ⟨tS, h1, h2⟩ := setK_some _ he
  split at h2
  · rename_i fr2 hh hr
    obtain ⟨ao, h3, h4⟩ := getK_some h2
    split at h4
    · rename_i n' es2 cl'
      obtain ⟨h5, h6⟩ := ite_some_ h4
      obtain ⟨h7, h8⟩ := ite_some_ h6
      obtain ⟨h9, h10⟩ := ite_some_ h8
      have e1 := beq_true' h5
      have e2 := beq_true' h7
      subst e1
      subst e2
      obtain ⟨frS', h11, h12, h13⟩ := keepFrK_FR keepT h10 (fun t x hx => by simp [Tr.get] at hx) rfl
      obtain ⟨hB', h14, h15⟩ := blkK_some blkT h11
      obtain ⟨h16, h17⟩ := ite_some_ h14
      cases h17
      refine ⟨tS, fr2, hh, es2, h1, hr, AH.get_of h3 (by simp), h9, h12, h13, fun j ao hj => ?_, h16⟩
      rcases h15 j ao hj with h0 | ⟨cs, rfl, h0⟩
      · simp [Tr.get] at h0
      · exact ⟨cs, rfl, h0⟩
    · cases h4
  · cases h2
def leSt (s0 s : XSt) : Bool := ite_ (leF s0.1 s.1) (subT leO s0.2 s.2) false
/-- Of s at least so much as fin is known. -/
def LeS (fin s : XSt) : Prop := (∀ (φ : Phi) (T : Array Value), FR φ s.1 T → FR φ fin.1 T) ∧ ∀ j ao, fin.2.get j = some ao → ∃ ao2, s.2.get j = some ao2 ∧ ao.isF = ao2.isF ∧ ∀ [Bet] (φ : Phi) (d : Nat × Nat) (o : Obj), OR φ d ao2 o → OR φ d ao o
theorem LeS.refl (s : XSt) : LeS s s := ⟨fun _ _ h => h, fun _ ao h => ⟨ao, h, rfl, fun _ _ _ h => h⟩⟩
theorem LeS.trans {x y z : XSt} (h1 : LeS x y) (h2 : LeS y z) : LeS x z := ⟨fun φ T h => h1.1 φ T (h2.1 φ T h), fun j ao hj => by
  obtain ⟨ao2, h3, f1, h4⟩ := h1.2 j ao hj
  obtain ⟨ao3, h5, f2, h6⟩ := h2.2 j ao2 h3
  exact ⟨ao3, h5, f1.trans f2, fun φ d o h => h4 φ d o (h6 φ d o h)⟩⟩
theorem LeS.of [Bet] {s0 s : XSt} (h : leSt s0 s = true) : LeS s0 s := by
  obtain ⟨h1, h2⟩ := ite_and h
  exact ⟨fun φ T hF => leF_FR h1 hF, fun j ao hj => by
    obtain ⟨u, h3, h4⟩ := subT_get _ h2 j ao hj
    exact ⟨u, h3, leO_isF h4, fun φ d o hO => leO_OR h4 hO⟩⟩
/-- Two states of which as much is known. -/
def eqAO (x y : AO) : Bool := match x, y with
  | .cells xs, .cells ys => eqFs xs ys
  | _, _ => false
def eqSt (s s' : XSt) : Bool := ite_ (Nat.beq s.1.nt s'.1.nt) (ite_ (subT eqV s.1.t s'.1.t) (ite_ (subT eqV s'.1.t s.1.t) (ite_ (subT eqAO s.2 s'.2) (subT eqAO s'.2 s.2) false) false) false) false
def EqS (s s' : XSt) : Prop := s.1.nt = s'.1.nt ∧ (∀ t, s.1.t.get t = s'.1.t.get t) ∧ ∀ j, s.2.get j = s'.2.get j
omit [Val] in
theorem EqS.refl (s : XSt) : EqS s s := ⟨rfl, fun _ => rfl, fun _ => rfl⟩
omit [Val] in
theorem eqAO_true {x y : AO} (h : eqAO x y = true) : x = y := by
  unfold eqAO at h
  split at h
  · rw [eqFs_true _ h]
  · cases h
omit [Val] in
theorem sub_both {α : Type} {f : α → α → Bool} (hf : ∀ {x y : α}, f x y = true → x = y) {a b : Tr α} (h1 : subT f a b = true) (h2 : subT f b a = true) (t : Nat) : a.get t = b.get t := by
  cases ha : a.get t with
  | some x =>
    obtain ⟨y, e1, e2⟩ := subT_get _ h1 t x ha
    rw [e1, hf e2]
  | none =>
    cases hb : b.get t with
    | none => rfl
    | some y =>
      obtain ⟨x, e1, _⟩ := subT_get _ h2 t y hb
      rw [ha] at e1
      cases e1
omit [Val] in
theorem eqSt_true {s s' : XSt} (h : eqSt s s' = true) : EqS s s' := by
  obtain ⟨h1, h2⟩ := ite_and h
  obtain ⟨h3, h4⟩ := ite_and h2
  obtain ⟨h5, h6⟩ := ite_and h4
  obtain ⟨h7, h8⟩ := ite_and h6
  exact ⟨beq_true' h1, sub_both eqV_true h3 h5, sub_both eqAO_true h7 h8⟩
/-- From the state behind the entries of the set m: each other entry. -/
def trK (f : XSt → Ent → Option XSt) (m : Nat) (st : XSt) (k : Tr XSt → Option β) (es : List Ent) : Nat → Nat → Tr XSt → Option β := List.rec (motive := fun _ => Nat → Nat → Tr XSt → Option β) (fun _ _ T => k T) (fun e _ ih q p T => natK (Nat.div q 2) fun q' => natK (Nat.mul 2 p) fun p' => ite_ (Nat.beq (Nat.mod q 2) 0) (match f st e with
  | some st' => natK (Nat.add m p) fun m' => getK (setK none 15 T m' st' fun T' => ih q' p' T') T m' fun s => ite_ (eqSt s st') (ih q' p' T) none
  | none => none) (ih q' p' T)) es
/-- So many sets, from m on. -/
def dpL (f : XSt → Ent → Option XSt) (es : List Ent) (k : Tr XSt → Option β) (n : Nat) : Nat → Tr XSt → Option β := Nat.rec (motive := fun _ => Nat → Tr XSt → Option β) (fun _ T => k T) (fun _ ih m T => getK none T m fun st => trK f m st (fun T' => natK (Nat.succ m) fun m' => ih m' T') es m 1 T) n
def dpK (f : XSt → Ent → Option XSt) (es : List Ent) (st : XSt) : Option XSt := natK (Nat.pow 2 es.length) fun c => setK none 15 .e 0 st fun T => dpL f es (fun T => getK none T (Nat.sub c 1) fun s => some s) c 0 T
omit [Val] in
theorem trK_some {f : XSt → Ent → Option XSt} {m : Nat} {st : XSt} {k : Tr XSt → Option β} (es : List Ent) : ∀ {q p : Nat} {T : Tr XSt}, trK f m st k es q p T = some r → ∃ T', k T' = some r ∧ (∀ i s, T.get i = some s → T'.get i = some s) ∧ (∀ i s, T'.get i = some s → T.get i = some s ∨ ∃ e ∈ es, f st e = some s) ∧
    ∀ l1 e l2, es = l1 ++ e :: l2 → (q / 2 ^ l1.length) % 2 = 0 → ∃ st' s, f st e = some st' ∧ T'.get (m + p * 2 ^ l1.length) = some s ∧ EqS s st' := by
  induction es with
  | nil => intro q p T h; exact ⟨T, h, fun _ _ h => h, fun _ _ h => .inl h, fun l1 e l2 h => by cases l1 <;> cases h⟩
  | cons e es ih =>
    intro q p T h
    have h' : natK (Nat.div q 2) (fun q' => natK (Nat.mul 2 p) fun p' => ite_ (Nat.beq (Nat.mod q 2) 0) (match f st e with
      | some st' => natK (Nat.add m p) fun m' => getK (setK none 15 T m' st' fun T' => trK f m st k es q' p' T') T m' fun s => ite_ (eqSt s st') (trK f m st k es q' p' T) none
      | none => none) (trK f m st k es q' p' T)) = some r := h
    rw [natK_eq, natK_eq] at h'
    have tail : ∀ {T1 : Tr XSt}, trK f m st k es (Nat.div q 2) (Nat.mul 2 p) T1 = some r → (∀ i s, T.get i = some s → T1.get i = some s) → (∀ i s, T1.get i = some s → T.get i = some s ∨ f st e = some s) →
        (q % 2 = 0 → ∃ st' s, f st e = some st' ∧ T1.get (m + p) = some s ∧ EqS s st') → ∃ T', k T' = some r ∧ (∀ i s, T.get i = some s → T'.get i = some s) ∧ (∀ i s, T'.get i = some s → T.get i = some s ∨ ∃ e' ∈ e :: es, f st e' = some s) ∧
        ∀ l1 e' l2, e :: es = l1 ++ e' :: l2 → (q / 2 ^ l1.length) % 2 = 0 → ∃ st' s, f st e' = some st' ∧ T'.get (m + p * 2 ^ l1.length) = some s ∧ EqS s st' := by
      intro T1 h1 h2 h3 h4
      obtain ⟨T', e1, e2, e3, e4⟩ := ih h1
      refine ⟨T', e1, fun i s hi => e2 i s (h2 i s hi), fun i s hi => ?_, fun l1 e' l2 hl hq => ?_⟩
      · rcases e3 i s hi with h5 | ⟨e', h5, h6⟩
        · rcases h3 i s h5 with h6 | h6
          · exact .inl h6
          · exact .inr ⟨e, List.mem_cons_self, h6⟩
        · exact .inr ⟨e', List.mem_cons_of_mem _ h5, h6⟩
      · cases l1 with
        | nil =>
          simp only [List.nil_append, List.cons.injEq] at hl
          obtain ⟨rfl, rfl⟩ := hl
          simp only [List.length_nil, Nat.pow_zero, Nat.div_one, Nat.mul_one] at hq ⊢
          obtain ⟨st', s, h5, h6, h7⟩ := h4 hq
          exact ⟨st', s, h5, e2 _ _ h6, h7⟩
        | cons z l1 =>
          simp only [List.cons_append, List.cons.injEq] at hl
          obtain ⟨rfl, hl⟩ := hl
          have hp2 : 2 ^ (e :: l1).length = 2 * 2 ^ l1.length := by rw [List.length_cons, Nat.pow_succ, Nat.mul_comm]
          rw [hp2] at hq ⊢
          obtain ⟨st', s, h5, h6, h7⟩ := e4 l1 e' l2 hl (by rw [← Nat.div_div_eq_div_mul] at hq; exact hq)
          refine ⟨st', s, h5, ?_, h7⟩
          rw [← h6]
          congr 2
          show p * (2 * 2 ^ l1.length) = 2 * p * 2 ^ l1.length
          rw [Nat.mul_comm 2 p, Nat.mul_assoc]
    cases hb : Nat.beq (Nat.mod q 2) 0 with
    | false =>
      rw [hb, ite_false_] at h'
      refine tail h' (fun _ _ h => h) (fun _ _ h => .inl h) fun hq => ?_
      rw [show Nat.mod q 2 = 0 from hq] at hb
      cases hb
    | true =>
      rw [hb, ite_true_] at h'
      split at h'
      · rename_i st' hst
        rw [natK_eq, getK_eq] at h'
        cases hg : T.get (Nat.add m p) with
        | none =>
          rw [hg] at h'
          obtain ⟨T1, h1, h2⟩ := setK_some _ h'
          refine tail h2 (fun i s hi => ?_) (fun i s hi => ?_) fun _ => ⟨st', st', hst, ?_, .refl _⟩
          · rw [h1]
            by_cases hi2 : i = Nat.add m p
            · rw [hi2, hg] at hi; cases hi
            · rw [if_neg hi2]; exact hi
          · rw [h1] at hi
            split at hi
            · cases hi; exact .inr hst
            · exact .inl hi
          · have := h1 (Nat.add m p)
            rw [if_pos rfl] at this
            exact this
        | some s =>
          rw [hg] at h'
          obtain ⟨h1, h2⟩ := ite_some_ h'
          exact tail h2 (fun _ _ h => h) (fun _ _ h => .inl h) fun _ => ⟨st', s, hst, hg, eqSt_true h1⟩
      · cases h'
omit [Val] in
theorem dpL_some {f : XSt → Ent → Option XSt} {es : List Ent} {k : Tr XSt → Option β} {Qs : XSt → Prop} (hQ : ∀ st e s, Qs st → e ∈ es → f st e = some s → Qs s) (n : Nat) : ∀ {m : Nat} {T : Tr XSt}, dpL f es k n m T = some r → (∀ i s, T.get i = some s → Qs s) → ∃ T', k T' = some r ∧ (∀ i s, T.get i = some s → T'.get i = some s) ∧ (∀ i s, T'.get i = some s → Qs s) ∧
    ∀ i, m ≤ i → i < m + n → ∃ st, T'.get i = some st ∧ ∀ l1 e l2, es = l1 ++ e :: l2 → (i / 2 ^ l1.length) % 2 = 0 → ∃ st' s, f st e = some st' ∧ T'.get (i + 2 ^ l1.length) = some s ∧ EqS s st' := by
  induction n with
  | zero => intro m T h hT; exact ⟨T, h, fun _ _ h => h, hT, fun i h1 h2 => by omega⟩
  | succ n ih =>
    intro m T h hT
    have h' : getK none T m (fun st => trK f m st (fun T' => natK (Nat.succ m) fun m' => dpL f es k n m' T') es m 1 T) = some r := h
    obtain ⟨st, h1, h2⟩ := getK_some h'
    obtain ⟨T1, h3, h4, h5, h6⟩ := trK_some es h2
    rw [natK_eq] at h3
    obtain ⟨T', e1, e2, e3, e4⟩ := ih h3 fun i s hi => by
      rcases h5 i s hi with h7 | ⟨e, h7, h8⟩
      · exact hT i s h7
      · exact hQ st e s (hT m st h1) h7 h8
    refine ⟨T', e1, fun i s hi => e2 i s (h4 i s hi), e3, fun i hi1 hi2 => ?_⟩
    by_cases him : i = m
    · subst him
      refine ⟨st, e2 _ _ (h4 _ _ h1), fun l1 e l2 hl hq => ?_⟩
      obtain ⟨st', s, h7, h8, h9⟩ := h6 l1 e l2 hl hq
      rw [Nat.one_mul] at h8
      exact ⟨st', s, h7, e2 _ _ h8, h9⟩
    · exact e4 i (by omega) (by omega)
/-- The set of those entries whose numbers are in S. -/
def msk (S : List Nat) : List Ent → Nat
  | [] => 0
  | e :: es => (if S.contains e.2.2 then 1 else 0) + 2 * msk S es
omit [Val] in
theorem msk_lt (S : List Nat) (es : List Ent) : msk S es < 2 ^ es.length := by
  induction es with
  | nil => simp [msk]
  | cons e es ih =>
    unfold msk
    rw [List.length_cons, Nat.pow_succ]
    split <;> omega
omit [Val] in
theorem msk_nil (es : List Ent) : msk [] es = 0 := by
  induction es with
  | nil => rfl
  | cons e es ih => unfold msk; simp [ih]
omit [Val] in
theorem msk_full {S : List Nat} {es : List Ent} (h : ∀ e ∈ es, e.2.2 ∈ S) : msk S es = 2 ^ es.length - 1 := by
  induction es with
  | nil => rfl
  | cons e es ih =>
    unfold msk
    have h1 : S.contains e.2.2 = true := by simpa using h e List.mem_cons_self
    rw [ih fun e he => h e (List.mem_cons_of_mem _ he), if_pos h1, List.length_cons, Nat.pow_succ]
    have : 0 < 2 ^ es.length := Nat.pow_pos (by omega)
    omega
omit [Val] in
theorem msk_at {S : List Nat} {e : Ent} {l2 : List Ent} (l1 : List Ent) (hS : ¬ e.2.2 ∈ S) : (msk S (l1 ++ e :: l2) / 2 ^ l1.length) % 2 = 0 := by
  induction l1 with
  | nil =>
    show (msk S (e :: l2) / 1) % 2 = 0
    unfold msk
    rw [if_neg (by simpa using hS)]
    omega
  | cons z l1 ih =>
    show (msk S (z :: (l1 ++ e :: l2)) / 2 ^ (l1.length + 1)) % 2 = 0
    unfold msk
    rw [Nat.pow_succ, Nat.mul_comm (2 ^ l1.length) 2, ← Nat.div_div_eq_div_mul]
    have : ((if S.contains z.2.2 then 1 else 0) + 2 * msk S (l1 ++ e :: l2)) / 2 = msk S (l1 ++ e :: l2) := by split <;> omega
    rw [this]
    exact ih
omit [Val] in
theorem msk_same {S : List Nat} {b : Nat} {es : List Ent} (h : ∀ e ∈ es, e.2.2 ≠ b) : msk (S ++ [b]) es = msk S es := by
  induction es with
  | nil => rfl
  | cons e es ih =>
    unfold msk
    rw [ih fun e he => h e (List.mem_cons_of_mem _ he)]
    have : (S ++ [b]).contains e.2.2 = S.contains e.2.2 := by
      have := h e List.mem_cons_self
      simp [this]
    rw [this]
omit [Val] in
theorem msk_add {S : List Nat} {e : Ent} {l2 : List Ent} (l1 : List Ent) (hS : ¬ e.2.2 ∈ S) (hn : ((l1 ++ e :: l2).map (·.2.2)).Nodup) : msk (S ++ [e.2.2]) (l1 ++ e :: l2) = msk S (l1 ++ e :: l2) + 2 ^ l1.length := by
  induction l1 with
  | nil =>
    have h2 : ∀ x ∈ l2, x.2.2 ≠ e.2.2 := fun x hx hh => by
      simp only [List.nil_append, List.map_cons, List.nodup_cons] at hn
      exact hn.1 (by rw [← hh]; exact List.mem_map_of_mem hx)
    show msk (S ++ [e.2.2]) (e :: l2) = msk S (e :: l2) + 1
    unfold msk
    rw [msk_same h2, if_pos (by simp), if_neg (by simpa using hS)]
    omega
  | cons z l1 ih =>
    simp only [List.cons_append, List.map_cons, List.nodup_cons] at hn
    have hz : z.2.2 ≠ e.2.2 := fun hh => hn.1 (by rw [hh]; exact List.mem_map_of_mem (List.mem_append_right _ List.mem_cons_self))
    show msk (S ++ [e.2.2]) (z :: (l1 ++ e :: l2)) = msk S (z :: (l1 ++ e :: l2)) + 2 ^ (l1.length + 1)
    unfold msk
    have : (S ++ [e.2.2]).contains z.2.2 = S.contains z.2.2 := by simp [hz]
    rw [this, ih hn.2, Nat.pow_succ]
    omega
omit [Val] in
/-- What the table says. -/
theorem dpK_some [Bet] {f : XSt → Ent → Option XSt} {es : List Ent} {st fin : XSt} {Qs : XSt → Prop} (hQ : ∀ st e s, Qs st → e ∈ es → f st e = some s → Qs s) (h0 : Qs st) (h : dpK f es st = some fin) : ∃ T : Tr XSt, T.get 0 = some st ∧ T.get (2 ^ es.length - 1) = some fin ∧ (∀ i s, T.get i = some s → Qs s) ∧
    ∀ i, i < 2 ^ es.length → ∃ st, T.get i = some st ∧ ∀ l1 e l2, es = l1 ++ e :: l2 → (i / 2 ^ l1.length) % 2 = 0 → ∃ st' s, f st e = some st' ∧ T.get (i + 2 ^ l1.length) = some s ∧ EqS s st' := by
  have h' : natK (Nat.pow 2 es.length) (fun c => setK none 15 .e 0 st fun T => dpL f es (fun T => getK none T (Nat.sub c 1) fun s => some s) c 0 T) = some fin := h
  rw [natK_eq] at h'
  obtain ⟨T0, h1, h2⟩ := setK_some _ h'
  obtain ⟨T, e1, e2, e3, e4⟩ := dpL_some hQ _ h2 fun i s hi => by
    rw [h1] at hi
    split at hi
    · cases hi; exact h0
    · simp [Tr.get] at hi
  obtain ⟨s, e5, e6⟩ := getK_some e1
  cases e6
  refine ⟨T, e2 _ _ ?_, e5, e3, fun i hi => e4 i (Nat.zero_le _) (by rw [Nat.zero_add]; exact hi)⟩
  have := h1 0
  rw [if_pos rfl] at this
  exact this
/-! ### The heap behind the loop -/
def overT {α : Type} (s : Tr α) : Tr α → (Tr α → β) → β := Tr.rec (motive := fun _ => Tr α → (Tr α → β) → β) (fun t k => k t) (fun v _ k => k (.l v))
  (fun a b ia ib t => Tr.rec (motive := fun _ => (Tr α → β) → β) (fun k => ia .e fun a' => ib .e fun b' => k (.n a' b')) (fun _ k => k (.n a b)) (fun c d _ _ k => ia c fun a' => ib d fun b' => k (.n a' b')) t) s
omit [Val] in
theorem overT_some [Bet] {α : Type} (s : Tr α) : ∀ {t : Tr α} {k : Tr α → Option β}, overT s t k = some r → ∃ t', k t' = some r ∧ ∀ j x, t'.get j = some x → s.get j = some x ∨ (s.get j = none ∧ t.get j = some x) := by
  induction s with
  | e => intro t k h; exact ⟨t, h, fun j x hj => .inr ⟨rfl, hj⟩⟩
  | l v => intro t k h; exact ⟨_, h, fun j x hj => .inl hj⟩
  | n a b iha ihb =>
    intro t k h
    cases t with
    | l u => exact ⟨_, h, fun j x hj => .inl hj⟩
    | e =>
      have h' : overT a .e (fun a' => overT b .e fun b' => k (.n a' b')) = some r := h
      obtain ⟨a', h1, h2⟩ := iha h'
      obtain ⟨b', h3, h4⟩ := ihb h1
      refine ⟨_, h3, fun j x hj => ?_⟩
      unfold Tr.get at hj ⊢
      split at hj
      · rename_i hz
        rw [if_pos hz]
        rcases h2 _ _ hj with h5 | ⟨_, h5⟩
        · exact .inl h5
        · simp [Tr.get] at h5
      · rename_i hz
        rw [if_neg hz]
        rcases h4 _ _ hj with h5 | ⟨_, h5⟩
        · exact .inl h5
        · simp [Tr.get] at h5
    | n c d =>
      have h' : overT a c (fun a' => overT b d fun b' => k (.n a' b')) = some r := h
      obtain ⟨a', h1, h2⟩ := iha h'
      obtain ⟨b', h3, h4⟩ := ihb h1
      refine ⟨_, h3, fun j x hj => ?_⟩
      unfold Tr.get at hj
      split at hj
      · rename_i hz
        rcases h2 _ _ hj with h5 | ⟨h5, h6⟩
        · exact .inl (by unfold Tr.get; rw [if_pos hz]; exact h5)
        · exact .inr ⟨by unfold Tr.get; rw [if_pos hz]; exact h5, by unfold Tr.get; rw [if_pos hz]; exact h6⟩
      · rename_i hz
        rcases h4 _ _ hj with h5 | ⟨h5, h6⟩
        · exact .inl (by unfold Tr.get; rw [if_neg hz]; exact h5)
        · exact .inr ⟨by unfold Tr.get; rw [if_neg hz]; exact h5, by unfold Tr.get; rw [if_neg hz]; exact h6⟩
def yesB (_ _ : AO) : Bool := true
/-- The whole loop. -/
def rexpK (X : Exe) (N : Nat) (L : RL) (keepT blkT : List Nat) (rd : Option Nat) (ds : List Nat) (fr : AF) (h : AH) : Option (AF × AH) :=
  keepFrK keepT fr ⟨fr.nt, .e⟩ fun frS => ite_ (absB frS.t L.tn) (ite_ (absB frS.t L.tc) (ite_ (Nat.blt L.tn frS.nt) (ite_ (Nat.blt L.tc frS.nt) (getK none frS.t L.tI fun it => match it with
    | .ptr (some (i, 0)) => getK none h.t i fun ao => match ao with
      | .iter m since => mapK none h m fun n es cl => ite_ (Nat.ble since cl) (ite_ (bornsB since es 0) (blkK blkT fr h .e fun hB => ite_ (absB hB m) (match dpK (stepX X N L rd ds keepT blkT h.nx m n cl es) es (frS, hB) with
          | some fin => ite_ (subT yesB hB fin.2) (overT fin.2 h.t fun t1 => setHK none ⟨h.nx, t1⟩ i .dead fun h2 => some (fin.1, h2)) none
          | none => none) none) none) none
      | _ => none
    | _ => none) none) none) none) none
end
end Go.Proofs.YtibmpjhffeinoaaGreat.Kx

namespace Go.Proofs.YtibmpjhffeinoaaGreat.Kx
open Go Go.RowKit
open Go.ChangeMaps (setBlock)
variable [Val]

noncomputable section
variable {X : Exe} {E : Env} {P : Program} {φ φ' : Phi} {h h' : AH} {w w' w0 : World} {fr fr' : AF} {a : Act} {β : Type} {r : β}

/-- What stays from state to state. -/
structure Inv0 (φ0 : Phi) (L : RL) (iI : Nat) (s0 s : XSt) : Prop where
  nt : s.1.nt = s0.1.nt
  fr : ∀ t x, s.1.t.get t = some x → (∃ x0, s0.1.t.get t = some x0) ∧ ∃ v0, VR φ0 x v0
  tI : s.1.t.get L.tI = some (.ptr (some (iI, 0)))
  bk : ∀ j ao, s.2.get j = some ao → (∃ ao0, s0.2.get j = some ao0) ∧ ∃ cs, ao = .cells cs ∧ ∀ x ∈ cs, ∃ v0, VR φ0 x v0
  on : ∀ j ao0, s0.2.get j = some ao0 → ∃ ao, s.2.get j = some ao
theorem Inv0.step [Bet] {φ0 : Phi} {L : RL} {iI N : Nat} {rd : Option Nat} {ds : List Nat} {nx m n cl : Nat} {es : List Ent} {s0 s s' : XSt} {e : Ent} (I : Inv0 φ0 L iI s0 s) (hs : StepX X N L rd ds nx m n cl es s e s') (hes : ∀ e ∈ es, ∃ v, VR φ0 e.2.1 v) : Inv0 φ0 L iI s0 s' := by
  obtain ⟨tS, fr2, h2, es2, h1, h3, h4, h5, h6, h7, h8, h9⟩ := hs
  obtain ⟨b1, b2⟩ := ite_and h9
  obtain ⟨b3, b4⟩ := ite_and b2
  obtain ⟨b5, b6⟩ := ite_and b4
  obtain ⟨b7, b8⟩ := ite_and b6
  refine ⟨by rw [beq_true' b1]; exact I.nt, fun t x hx => ?_, ?_, fun j ao hj => ?_, fun j ao0 hj => ?_⟩
  · obtain ⟨x1, q1, q2⟩ := subT_get _ b3 t x hx
    obtain ⟨q3, v0, q4⟩ := I.fr t x1 q1
    exact ⟨q3, okV_hole q2 q4 hes⟩
  · obtain ⟨x1, q1, q2⟩ := subT_get _ b5 _ _ I.tI
    unfold okV' okV at q2
    cases hf : flatB x1 with
    | true => rw [hf, ite_true_] at q2; cases q2
    | false =>
      rw [hf, ite_false_] at q2
      cases hq : eqV x1 (.ptr (some (iI, 0))) with
      | true => rw [q1, eqV_true hq]
      | false => rw [hq, ite_false_] at q2; cases q2
  · obtain ⟨ao1, q1, q2⟩ := subT_get _ b7 j ao hj
    obtain ⟨q3, cs, rfl, q4⟩ := I.bk j ao1 q1
    unfold okO at q2
    split at q2
    · rename_i xs ys e1
      cases e1
      refine ⟨q3, xs, rfl, fun x hx => ?_⟩
      obtain ⟨y, q5, q6⟩ := okVs_get xs q2 x hx
      obtain ⟨v0, q7⟩ := q4 y q5
      exact okV_hole q6 q7 hes
    · cases q2
  · obtain ⟨ao, q1⟩ := I.on j ao0 hj
    obtain ⟨ao2, q2, _⟩ := subT_get _ b8 j ao q1
    exact ⟨ao2, q2⟩

/-- What the loop does. -/
theorem rexp_ok [Bet] {N : Nat} {L : RL} {keepT blkT : List Nat} (HT : TabOK X.E) (HK : KeysOK X.E) (HS : ∀ [Bet], Sound X.E.P (run X N)) (G : L.Good) : CutOK X.E.P L.code (rexpK X N L keepT blkT) := by
  intro rd ds fr h fr' h' he
  refine CodeOK.of (by unfold RL.code; simp) fun φ0 w0 a0 rO m' Q hR hF hM hro hQ => ?_
  obtain ⟨frS, h1, hFS, hnt⟩ := keepFrK_some (acc := ⟨fr.nt, .e⟩) keepT hF ⟨hF.1, fun t x hx => by simp [Tr.get] at hx⟩ he
  obtain ⟨c1, h2⟩ := ite_some_ h1
  obtain ⟨c2, h3⟩ := ite_some_ h2
  obtain ⟨c3, h4⟩ := ite_some_ h3
  obtain ⟨c4, h5⟩ := ite_some_ h4
  obtain ⟨it, g1, h6⟩ := getK_some h5
  split at h6
  · rename_i iI
    obtain ⟨ao, g2, h7⟩ := getK_some h6
    split at h7
    · rename_i m since
      have g3 : h.get iI = some (.iter m since) := AH.get_of g2 (by simp)
      obtain ⟨git, zI, o, p1, p2, rfl, gm, zm, rfl, p3⟩ := hR.obj iI _ g3
      obtain ⟨n, es, cl, ces, g4, h8, p4, p5, p6, p7⟩ := mapK_some hR p3 h7
      obtain ⟨c5, h9⟩ := ite_some_ h8
      obtain ⟨c6, h10⟩ := ite_some_ h9
      obtain ⟨hB, h11, hBs⟩ := blkK_some (acc := .e) blkT h10
      obtain ⟨c7, h12⟩ := ite_some_ h11
      obtain ⟨_, hb1, hb2⟩ := bornsB_true es 0 c6
      split at h12
      · rename_i fin hfin
        obtain ⟨c8, h12'⟩ := ite_some_ h12
        obtain ⟨t1, h13, ht1⟩ := overT_some _ h12'
        obtain ⟨hh2, k3, k4, h16⟩ := setHK_some h13
        simp only [Option.some.injEq, Prod.mk.injEq] at h16
        obtain ⟨rfl, rfl⟩ := h16
        have hBh : ∀ j ao, hB.get j = some ao → ∃ cs, ao = .cells cs ∧ h.get j = some (.cells cs) := fun j ao hj => by
          rcases hBs j ao hj with h0 | ⟨cs, rfl, h0⟩
          · simp [Tr.get] at h0
          · exact ⟨cs, rfl, h0⟩
        have hlenI : git < w0.heap.size := (Array.getElem?_eq_some_iff.1 p2).1
        have hlenm : gm < w0.heap.size := (Array.getElem?_eq_some_iff.1 p4).1
        have hne : git ≠ gm := by
          rintro rfl
          rw [p2] at p4
          cases p4
        have hIB : ∀ i ao d, hB.get i = some ao → φ0 i = some (git, d) → False := fun i ao d hi hp => by
          obtain ⟨cs, rfl, h0⟩ := hBh i ao hi
          have := hR.injN h0 g3 hp p1 rfl
          rw [this, g3] at h0
          cases h0
        have hmB : ∀ i ao d, hB.get i = some ao → φ0 i = some (gm, d) → False := fun i ao d hi hp => by
          obtain ⟨cs, rfl, h0⟩ := hBh i ao hi
          have := hR.injN h0 g4 hp p3 rfl
          rw [this, g4] at h0
          cases h0
        have hhole : ∀ e ∈ es, ∃ v, VR φ0 e.2.1 v := fun e he => by
          obtain ⟨j, hj⟩ := List.getElem?_of_mem he
          obtain ⟨f, _, _, q3, _⟩ := p5.get hj
          exact ⟨_, q3⟩
        have hI0 : Inv0 φ0 L iI (frS, hB) (frS, hB) := by
          refine ⟨rfl, fun t x hx => ⟨⟨x, hx⟩, ?_⟩, g1, fun j ao hj => ⟨⟨ao, hj⟩, ?_⟩, fun j ao0 hj => ⟨ao0, hj⟩⟩
          · obtain ⟨v, _, hv⟩ := hFS.2 t x hx
            exact ⟨v, hv⟩
          · obtain ⟨cs, rfl, e1⟩ := hBh j ao hj
            refine ⟨cs, rfl, fun x hx => ?_⟩
            obtain ⟨g, d, o, _, _, c, ee, _, _, q4⟩ := hR.obj j _ e1
            obtain ⟨i, hi⟩ := List.getElem?_of_mem hx
            obtain ⟨v, _, q5, _⟩ := q4 i x hi
            exact ⟨v, q5⟩
        obtain ⟨T, T0, T1, TQ, TS⟩ := dpK_some (Qs := Inv0 φ0 L iI (frS, hB)) (fun st e s hI _ hs => hI.step (stepX_some hs) hhole) hI0 hfin
        let st : List Nat → XSt := fun S => (T.get (msk S es)).getD (frS, hB)
        have hst : ∀ S, T.get (msk S es) = some (st S) := fun S => by
          obtain ⟨s, h1, _⟩ := TS (msk S es) (msk_lt S es)
          show T.get (msk S es) = some ((T.get (msk S es)).getD (frS, hB))
          rw [h1]
          rfl
        have hst0 : st [] = (frS, hB) := by
          have := hst []
          rw [msk_nil, T0] at this
          exact (Option.some.inj this).symm
        let Reach : List Nat → Prop := fun _ => True
        have F : ∀ S, Reach S → RFix L φ0 (st S).1 (st S).2 n es cl since iI m h.nx git gm zm w0 := fun S hS => by
          have I := TQ _ _ (hst S)
          exact {
            good := G, frH := fun t x hx => (I.fr t x hx).2, tI := I.tI
            tn := by
              cases hq : (st S).1.t.get L.tn with
              | none => rfl
              | some x => obtain ⟨⟨x0, h0⟩, _⟩ := I.fr _ x hq; rw [absB_true c1] at h0; cases h0
            tc := by
              cases hq : (st S).1.t.get L.tc with
              | none => rfl
              | some x => obtain ⟨⟨x0, h0⟩, _⟩ := I.fr _ x hq; rw [absB_true c2] at h0; cases h0
            ln := by rw [I.nt]; exact blt_true c3
            lc := by rw [I.nt]; exact blt_true c4
            pI := p1, pm := p3
            neB := fun i ao d hi hp => let ⟨⟨ao0, h0⟩, _⟩ := I.bk i ao hi; hmB i ao0 d h0 hp
            neI := fun i ao d hi hp => let ⟨⟨ao0, h0⟩, _⟩ := I.bk i ao hi; hIB i ao0 d h0 hp
            ne := hne
            nm := by
              cases hq : (st S).2.get m with
              | none => rfl
              | some x => obtain ⟨⟨x0, h0⟩, _⟩ := I.bk _ x hq; rw [absB_true c7] at h0; cases h0
            inj := fun i j x y g d e hi hj h1 h2 => by
              obtain ⟨⟨x0, hi0⟩, _⟩ := I.bk i x hi
              obtain ⟨⟨y0, hj0⟩, _⟩ := I.bk j y hj
              obtain ⟨cs, rfl, e1⟩ := hBh i x0 hi0
              obtain ⟨cs', rfl, e2⟩ := hBh j y0 hj0
              exact hR.injN e1 e2 h1 h2 rfl
            dom := hR.dom, gI := hlenI, gm := hlenm, born := fun e he => (hb1 e he).2, bornN := hb2, keyN := p6, wf := p7
            hole := hhole
            cells := fun i ao hi => (I.bk i ao hi).2 }
        have I0 : RInv φ0 frS hB es cl since (fun _ _ => true) git gm w0 ds [] a0 w0 := {
          rB := fun i ao hi => by
            obtain ⟨cs, rfl, e1⟩ := hBh i ao hi
            obtain ⟨g, d, o, q1, q2, q3⟩ := hR.obj i _ e1
            exact ⟨cs, g, d, o, rfl, q1, q2, q3⟩
          map := ⟨ces, p4, by
            rw [List.filter_eq_self.2 fun e _ => rfl]
            exact p5⟩
          fr := hFS, it := ⟨since, p2, Nat.le_refl _⟩, os := rfl, tape := rfl, output := rfl, size := Nat.le_refl _, other := fun k _ _ _ _ => rfl, mrk := hM }
        refine wpIn_block (wpX_in (loop_wp (N := N) (n := n) (iI := iI) (m := m) (nx := h.nx) (zm := zm) (keep := fun _ _ => true) (Reach := Reach) (frSf := fun S => (st S).1) (hBf := fun S => (st S).2) (w0 := w0) HT HK HS F (Nat.le_of_ble_eq_true c5) ?_ hro ?_ es.length [] a0 w0 trivial (by rw [hst0]; exact I0) ?_))
        · intro S e hre hes _ hnS
          have I := TQ _ _ (hst S)
          obtain ⟨l1, l2, hl⟩ := List.append_of_mem hes
          obtain ⟨s0, z1, z2⟩ := TS _ (msk_lt S es)
          rw [hst S] at z1
          cases z1
          have hm1 := msk_at (S := S) (l2 := l2) l1 hnS
          have hm2 := msk_add (S := S) (l2 := l2) l1 hnS (by rw [← hl]; exact hb2)
          rw [← hl] at hm1 hm2
          obtain ⟨st', s, e1, e2, n1, n2, n3⟩ := z2 l1 e l2 hl hm1
          have hst' : st (S ++ [e.2.2]) = s := by
            have := hst (S ++ [e.2.2])
            rw [hm2, e2] at this
            exact (Option.some.inj this).symm
          have I' := TQ _ _ e2
          obtain ⟨tS, fr2, h2, es2, q1, q2, q3, q4, q5, q6, q7, q8⟩ := stepX_some e1
          refine ⟨trivial, tS, fr2, h2, q1, q2, fun φ T hF => ?_, ⟨es2, es, q3, q4, rfl, fun x hx => hx⟩, fun j ao hj => ?_, fun j ao hj => ?_, fun j ao hj => ?_⟩
          · show FR φ (st (S ++ [e.2.2])).1 T
            rw [hst']
            exact ⟨by rw [n1, q6]; exact hF.1, fun t x hx => hF.2 t x (q5 t x (by rw [← n2]; exact hx))⟩
          · have hj : s.2.get j = some ao := by rw [← hst']; exact hj
            rw [n3] at hj
            obtain ⟨cs, rfl, h5⟩ := q7 j ao hj
            exact ⟨_, h5, .inr rfl⟩
          · have hj : s.2.get j = some ao := by rw [← hst']; exact hj
            obtain ⟨⟨ao0, h0⟩, _⟩ := I'.bk j ao hj
            exact I.on j ao0 h0
          · obtain ⟨⟨ao0, h0⟩, _⟩ := I.bk j ao hj
            show ∃ ao2, (st (S ++ [e.2.2])).2.get j = some ao2
            rw [hst']
            exact I'.on j ao0 h0
        · intro S a w hre I hall
          have J := TQ _ _ (hst S)
          have hle : LeS fin (st S) := by
            have := hst S
            rw [msk_full (fun e he => hall e he rfl), T1] at this
            rw [Option.some.inj this]
            exact .refl _
          obtain ⟨ces', m1, m2⟩ := I.map
          have hfl : es.filter (fun e => (fun _ _ => true : List Nat → Nat → Bool) S e.2.2) = es := List.filter_eq_self.2 fun e _ => rfl
          rw [hfl] at m2
          have get2 : ∀ j ao, hh2.get j = some ao → fin.2.get j = some ao ∨ (fin.2.get j = none ∧ j ≠ iI ∧ h.get j = some ao) := by
            intro j ao hj
            rcases k4 j ao hj with ⟨rfl, rfl⟩ | ⟨n1, hj1⟩
            · exact absurd rfl (AH.of_get hj).2
            · obtain ⟨h1, h2⟩ := AH.of_get hj1
              rcases ht1 j ao h1 with h3 | ⟨h3, h4⟩
              · exact .inl h3
              · exact .inr ⟨h3, n1, AH.get_of h4 h2⟩
          have fin_in : ∀ j ao, fin.2.get j = some ao → ∃ cs, h.get j = some (.cells cs) := fun j ao hj => by
            obtain ⟨ao2, h1, _⟩ := hle.2 j ao hj
            obtain ⟨⟨ao0, h2⟩, _⟩ := J.bk j ao2 h1
            obtain ⟨cs, rfl, h3⟩ := hBh j ao0 h2
            exact ⟨cs, h3⟩
          refine hQ φ0 w a ⟨fun j ao hj => ?_, fun i j x y g d e hi hj h1 h2 => ?_, fun i p hp => by rw [k3]; exact hR.dom i p hp⟩ ⟨⟨.refl _, by rw [k3]; exact Nat.le_refl _, I.size, fun k hk hno => ?_, fun i x g d hi hf hp hg => ?_, fun i x hi hf => ?_, I.os, I.tape, I.output⟩, fun _ _ => rfl⟩ (hle.1 _ _ I.fr) I.mrk
          · rcases get2 j ao hj with hj2 | ⟨n0, n2, hj2⟩
            · obtain ⟨ao2, h1, _, h2⟩ := hle.2 j ao hj2
              obtain ⟨cs, g, d, o, rfl, e3, e4, e5⟩ := I.rB j _ h1
              exact ⟨g, d, o, e3, e4, h2 _ _ _ e5⟩
            · by_cases hjm : j = m
              · subst hjm
                rw [g4] at hj2
                cases hj2
                exact ⟨gm, zm, _, p3, m1, ces', rfl, m2, p6, p7⟩
              · cases hBj : (st S).2.get j with
                | some ao' =>
                  obtain ⟨⟨ao0, h0⟩, _⟩ := J.bk j ao' hBj
                  obtain ⟨u, h1, _⟩ := subT_get _ c8 j ao0 h0
                  rw [n0] at h1
                  cases h1
                | none =>
                  obtain ⟨g, d, o, e1, e2, e3⟩ := hR.obj j ao hj2
                  refine ⟨g, d, o, e1, ?_, e3⟩
                  rw [I.other g (Array.getElem?_eq_some_iff.1 e2).1 ?_ ?_ ?_]
                  · exact e2
                  · rintro rfl; exact n2 (hR.injB hj2 g3 e1 p1 rfl)
                  · rintro rfl; exact hjm (hR.injB hj2 g4 e1 p3 rfl)
                  · intro i ai di hi hp
                    obtain ⟨⟨ao0, h0⟩, _⟩ := J.bk i ai hi
                    obtain ⟨cs, rfl, e4⟩ := hBh i ao0 h0
                    have := hR.injB hj2 e4 e1 hp rfl
                    rw [← this, hBj] at hi
                    cases hi
          · have o1 : ∃ x', h.get i = some x' ∧ x.isF = x'.isF := by
              rcases get2 i x hi with h3 | ⟨_, _, h3⟩
              · obtain ⟨cs, h4⟩ := fin_in _ _ h3; obtain ⟨ao2, q1, q2, _⟩ := hle.2 _ _ h3; obtain ⟨_, cs', rfl, _⟩ := J.bk _ ao2 q1; exact ⟨_, h4, q2⟩
              · exact ⟨_, h3, rfl⟩
            have o2 : ∃ y', h.get j = some y' ∧ y.isF = y'.isF := by
              rcases get2 j y hj with h3 | ⟨_, _, h3⟩
              · obtain ⟨cs, h4⟩ := fin_in _ _ h3; obtain ⟨ao2, q1, q2, _⟩ := hle.2 _ _ h3; obtain ⟨_, cs', rfl, _⟩ := J.bk _ ao2 q1; exact ⟨_, h4, q2⟩
              · exact ⟨_, h3, rfl⟩
            obtain ⟨x', o1, f1⟩ := o1
            obtain ⟨y', o2, f2⟩ := o2
            rw [f1, f2]
            exact hR.inj _ _ _ _ _ _ _ o1 o2 h1 h2
          · refine I.other k hk ?_ ?_ fun i ao d hi hp => ?_
            · rintro rfl; exact hno _ _ _ g3 rfl p1
            · rintro rfl; exact hno _ _ _ g4 rfl p3
            · obtain ⟨⟨ao0, h0⟩, _⟩ := J.bk i ao hi
              obtain ⟨cs, rfl, e1⟩ := hBh i ao0 h0
              exact hno _ _ _ e1 rfl hp
          · rcases get2 i x hi with h3 | ⟨_, _, h3⟩
            · obtain ⟨cs, h4⟩ := fin_in _ _ h3; exact ⟨_, _, _, h4, rfl, hp⟩
            · exact ⟨_, _, _, h3, hf, hp⟩
          · rcases get2 i x hi with h3 | ⟨_, _, h3⟩
            · obtain ⟨ao2, q1, q2, _⟩ := hle.2 _ _ h3
              obtain ⟨_, cs', rfl, _⟩ := J.bk _ ao2 q1
              rw [q2] at hf
              cases hf
            · exact ⟨x, h3, hf⟩
        · exact Nat.le_trans (List.length_filter_le _ _) (Nat.le_refl _)
      · cases h12
    · cases h7
  · cases h6
end
end Go.Proofs.YtibmpjhffeinoaaGreat.Kx
