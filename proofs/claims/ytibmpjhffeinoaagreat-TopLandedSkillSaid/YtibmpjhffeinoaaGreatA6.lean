/-
  An executor, 28th part: segments: states that are known in part.
  An executor, 29th part: bodies in segments.
  An executor: segments: blocks are numbered anew; closed calls.
  An executor: calls whose result is known, and that leave all as it was.
-/
import Derived.Test.YtibmpjhffeinoaaGreatA5
namespace Go.Proofs.YtibmpjhffeinoaaGreat.Kx
open Go Go.RowKit
variable [Val] [Bet]

noncomputable section
variable {X : Exe} {E : Env} {P : Program} {φ φ' : Phi} {h h' : AH} {w w' w0 : World} {fr fr' : AF} {a : Act} {β : Type} {r : β}

/-! ### Less is known -/
def leV (x y : AV) : Bool := match x with
  | .any => true
  | .nilf => match y with
    | .nilf => true
    | _ => false
  | x => eqV x y
omit [Bet] in
theorem leV_VR {x y : AV} {v : Value} (h : leV x y = true) (hy : VR φ y v) : VR φ x v := by
  unfold leV at h
  split at h
  · exact .any v
  · split at h
    · exact hy
    · cases h
  · rw [eqV_true h]; exact hy
def leVs (xs : List AV) : List AV → Bool := List.rec (motive := fun _ => List AV → Bool) (fun _ => true) (fun x _ ih ys => List.rec (motive := fun _ => Bool) false (fun y ys _ => ite_ (leV x y) (ih ys) false) ys) xs
omit [Val] [Bet] in
theorem leVs_get (xs : List AV) : ∀ {ys : List AV}, leVs xs ys = true → ∀ (j : Nat) (x : AV), xs[j]? = some x → ∃ y, ys[j]? = some y ∧ leV x y = true := by
  induction xs with
  | nil => intro ys _ j x hj; simp at hj
  | cons z xs ih =>
    intro ys h j x hj
    cases ys with
    | nil => cases h
    | cons y ys =>
      have h' : ite_ (leV z y) (leVs xs ys) false = true := h
      obtain ⟨h1, h2⟩ := ite_and h'
      cases j with
      | zero => simp at hj; subst hj; exact ⟨y, rfl, h1⟩
      | succ j => obtain ⟨y', h3, h4⟩ := ih h2 j x (by simpa using hj); exact ⟨y', by simpa using h3, h4⟩
def eqIs (xs : List Int) : List Int → Bool := List.rec (motive := fun _ => List Int → Bool) (fun ys => List.rec true (fun _ _ _ => false) ys) (fun x _ ih ys => List.rec (motive := fun _ => Bool) false (fun y ys _ => ite_ (eqB x y) (ih ys) false) ys) xs
omit [Val] [Bet] in
theorem eqIs_true (xs : List Int) : ∀ {ys : List Int}, eqIs xs ys = true → xs = ys := by
  induction xs with
  | nil => intro ys h; cases ys with
    | nil => rfl
    | cons => cases h
  | cons x xs ih =>
    intro ys h
    cases ys with
    | nil => cases h
    | cons y ys =>
      have h' : ite_ (eqB x y) (eqIs xs ys) false = true := h
      obtain ⟨h1, h2⟩ := ite_and h'
      rw [eqB_eq] at h1
      simp at h1
      rw [h1, ih h2]
def leEs (xs : List (List Int × AV × Nat)) : List (List Int × AV × Nat) → Bool := List.rec (motive := fun _ => List (List Int × AV × Nat) → Bool) (fun ys => List.rec true (fun _ _ _ => false) ys)
  (fun x _ ih ys => List.rec (motive := fun _ => Bool) false (fun y ys _ => ite_ (eqIs x.1 y.1) (ite_ (leV x.2.1 y.2.1) (ite_ (Nat.beq x.2.2 y.2.2) (ih ys) false) false) false) ys) xs
omit [Bet] in
theorem leEs_ERs (xs : List (List Int × AV × Nat)) : ∀ {ys : List (List Int × AV × Nat)} {fs : List MapEntry}, leEs xs ys = true → ERs φ ys fs → ERs φ xs fs ∧ xs.map (·.1) = ys.map (·.1) := by
  induction xs with
  | nil => intro ys fs h he; cases ys with
    | nil => exact ⟨he, rfl⟩
    | cons => cases h
  | cons x xs ih =>
    intro ys fs h he
    cases ys with
    | nil => cases h
    | cons y ys =>
      have h' : ite_ (eqIs x.1 y.1) (ite_ (leV x.2.1 y.2.1) (ite_ (Nat.beq x.2.2 y.2.2) (leEs xs ys) false) false) false = true := h
      obtain ⟨h1, h2⟩ := ite_and h'
      obtain ⟨h3, h4⟩ := ite_and h2
      obtain ⟨h5, h6⟩ := ite_and h4
      obtain ⟨xk, xv, xb⟩ := x
      obtain ⟨yk, yv, yb⟩ := y
      cases fs with
      | nil => exact he.elim
      | cons f fs =>
        obtain ⟨e1, e2, e3, e4⟩ := he
        have hk := eqIs_true _ h1
        have hb := beq_true' h5
        simp only at hk hb
        subst hk
        subst hb
        obtain ⟨i1, i2⟩ := ih h6 e4
        exact ⟨⟨e1, leV_VR h3 e2, e3, i1⟩, by simp only [List.map_cons, i2]⟩
def leO (x y : AO) : Bool := match x, y with
  | .cells xs, .cells ys => leVs xs ys
  | .froz xs, .froz ys => leVs xs ys
  | .iter a s, .iter b t => ite_ (Nat.beq a b) (Nat.beq s t) false
  | .map n es k, .map m fs l => ite_ (Nat.beq n m) (ite_ (leEs es fs) (Nat.beq k l) false) false
  | .deferred, .deferred => true
  | _, _ => false
omit [Val] [Bet] in
theorem leO_isF {x y : AO} (h : leO x y = true) : x.isF = y.isF := by
  unfold leO at h
  split at h <;> first | rfl | cases h
theorem leO_OR {x y : AO} {d : Nat × Nat} {o : Obj} (h : leO x y = true) (hy : OR φ d y o) : OR φ d x o := by
  unfold leO at h
  split at h
  · rename_i xs ys
    obtain ⟨c, e, h1, h2, h3⟩ := hy
    refine ⟨c, e, h1, h2, fun j x hj => ?_⟩
    obtain ⟨y, h4, h5⟩ := leVs_get xs h j x hj
    obtain ⟨v, h6, h7, h8⟩ := h3 j y h4
    exact ⟨v, h6, leV_VR h5 h7, h8⟩
  · rename_i xs ys
    obtain ⟨c, e, p, h1, h2, h3⟩ := hy
    refine ⟨c, e, p, h1, h2, fun j x hj => ?_⟩
    obtain ⟨y, h4, h5⟩ := leVs_get xs h j x hj
    obtain ⟨v, h6, h7, h8⟩ := h3 j y h4
    exact ⟨v, h6, leV_VR h5 h7, h8⟩
  · obtain ⟨h1, h2⟩ := ite_and h
    rw [beq_true' h1, beq_true' h2]
    exact hy
  · rename_i n es k m fs l
    obtain ⟨h1, h2⟩ := ite_and h
    obtain ⟨h3, h4⟩ := ite_and h2
    have hn := beq_true' h1
    have hk := beq_true' h4
    subst hn
    subst hk
    obtain ⟨ces, rfl, e1, e2, e3⟩ := hy
    obtain ⟨i1, i2⟩ := leEs_ERs es h3 e1
    refine ⟨ces, rfl, i1, by rw [i2]; exact e2, fun e he => ?_⟩
    have hm : e.1 ∈ es.map (·.1) := List.mem_map_of_mem he
    rw [i2] at hm
    obtain ⟨e', he', hee⟩ := List.mem_map.1 hm
    rw [← hee]
    exact e3 e' he'
  · exact hy
  · cases h
section
variable {α : Type}
def subT (p : α → α → Bool) (s : Tr α) : Tr α → Bool := Tr.rec (motive := fun _ => Tr α → Bool) (fun _ => true)
  (fun v t => Tr.rec (motive := fun _ => Bool) false (fun u => p v u) (fun _ _ _ _ => false) t)
  (fun _ _ ia ib t => Tr.rec (motive := fun _ => Bool) (ite_ (ia .e) (ib .e) false) (fun _ => false) (fun c d _ _ => ite_ (ia c) (ib d) false) t) s
omit [Val] [Bet] in
theorem subT_get {p : α → α → Bool} (s : Tr α) : ∀ {t : Tr α}, subT p s t = true → ∀ k v, s.get k = some v → ∃ u, t.get k = some u ∧ p v u = true := by
  induction s with
  | e => intro t _ k v hk; simp [Tr.get] at hk
  | l v =>
    intro t h k u hk
    cases t with
    | e => cases h
    | n => cases h
    | l x =>
      unfold Tr.get at hk ⊢
      split at hk
      · cases hk
        rename_i h0
        rw [if_pos h0]
        exact ⟨x, rfl, h⟩
      · cases hk
  | n a b iha ihb =>
    intro t h k u hk
    cases t with
    | l => cases h
    | e =>
      have h' : ite_ (subT p a .e) (subT p b .e) false = true := h
      obtain ⟨h1, h2⟩ := ite_and h'
      unfold Tr.get at hk
      split at hk
      · obtain ⟨x, h3, _⟩ := iha h1 _ _ hk; simp [Tr.get] at h3
      · obtain ⟨x, h3, _⟩ := ihb h2 _ _ hk; simp [Tr.get] at h3
    | n c d =>
      have h' : ite_ (subT p a c) (subT p b d) false = true := h
      obtain ⟨h1, h2⟩ := ite_and h'
      unfold Tr.get at hk ⊢
      split at hk
      · rename_i h0; rw [if_pos h0]; exact iha h1 _ _ hk
      · rename_i h0; rw [if_neg h0]; exact ihb h2 _ _ hk
end
def leF (x y : AF) : Bool := ite_ (Nat.beq x.nt y.nt) (subT leV x.t y.t) false
omit [Bet] in
theorem leF_FR {x y : AF} {tmps : Array Value} (h : leF x y = true) (hF : FR φ y tmps) : FR φ x tmps := by
  obtain ⟨h1, h2⟩ := ite_and h
  refine ⟨by rw [beq_true' h1]; exact hF.1, fun t v hv => ?_⟩
  obtain ⟨u, h3, h4⟩ := subT_get _ h2 t v hv
  obtain ⟨c, h5, h6⟩ := hF.2 t u h3
  exact ⟨c, h5, leV_VR h4 h6⟩
def leH (x y : AH) : Bool := ite_ (Nat.ble y.nx x.nx) (subT leO x.t y.t) false
omit [Val] [Bet] in
theorem leH_get {x y : AH} (h : leH x y = true) : y.nx ≤ x.nx ∧ ∀ m b, x.get m = some b → ∃ c, y.get m = some c ∧ leO b c = true := by
  obtain ⟨h1, h2⟩ := ite_and h
  refine ⟨Nat.le_of_ble_eq_true h1, fun m b hm => ?_⟩
  obtain ⟨h3, h4⟩ := AH.of_get hm
  obtain ⟨u, h5, h6⟩ := subT_get _ h2 m b h3
  refine ⟨u, AH.get_of h5 ?_, h6⟩
  rintro rfl
  cases b <;> cases h6
theorem leH_R {x y : AH} (h : leH x y = true) (hR : R φ y w) : R φ x w := by
  obtain ⟨h1, h2⟩ := leH_get h
  refine ⟨fun i ao hi => ?_, fun i j b c g d e hi hj => ?_, fun i p hp => Nat.lt_of_lt_of_le (hR.dom i p hp) h1⟩
  · obtain ⟨c, h3, h4⟩ := h2 i ao hi
    obtain ⟨g, d, o, h5, h6, h7⟩ := hR.obj i c h3
    exact ⟨g, d, o, h5, h6, leO_OR h4 h7⟩
  · obtain ⟨c1, h3, q1⟩ := h2 i b hi
    obtain ⟨c2, h4, q2⟩ := h2 j c hj
    rw [leO_isF q1, leO_isF q2]
    exact hR.inj i j c1 c2 g d e h3 h4
omit [Val] [Bet] in
theorem leH_St {x y hs : AH} {φ0 : Phi} (h : leH x y = true) (hS : St φ0 hs w0 φ y w) : St φ0 hs w0 φ x w := by
  obtain ⟨h1, h2⟩ := leH_get h
  refine ⟨⟨hS.ext, Nat.le_trans hS.nx h1, hS.size, hS.fr, fun i b g d hi hf hp hg => ?_, fun i b hi hf => ?_, hS.os, hS.tape, hS.output⟩, hS.old⟩
  · obtain ⟨c, h3, q⟩ := h2 i b hi
    exact hS.im i c g d h3 (by rw [← leO_isF q]; exact hf) hp hg
  · obtain ⟨c, h3, q⟩ := h2 i b hi
    exact hS.frz i c h3 (by rw [← leO_isF q]; exact hf)

/-! ### Segments -/
def noH : AH := ⟨0, .e⟩
omit [Val] [Bet] in
theorem noH_get (m : Nat) (b : AO) : noH.get m ≠ some b := by
  intro h
  have := (AH.of_get h).1
  simp [noH, Tr.get] at this
theorem R.noH (w : World) : R phi0 noH w := ⟨fun i ao hi => absurd hi (noH_get _ _), fun i j x y g d e hi => absurd hi (noH_get _ _), fun i p hp => by cases hp⟩
/-- Where one is: a frame, a heap, of both at least so much. -/
def StF (w0 : World) (φ : Phi) (h : AH) (w : World) : Prop := ∃ φ0 h0, (∀ i a, h0.get i = some a → a.isF = true) ∧ St φ0 h0 w0 φ h w
omit [Val] [Bet] in
theorem StF.of {φ : Phi} {h : AH} (hS : St phi0 noH w0 φ h w) : StF w0 φ h w := ⟨phi0, noH, fun _ _ hi => absurd hi (noH_get _ _), hS⟩
omit [Val] [Bet] in
theorem StF.trans {φ φ' : Phi} {h h' : AH} (hS : StF w0 φ h w) (hT : St φ h w φ' h' w') : StF w0 φ' h' w' := let ⟨_, _, h1, h2⟩ := hS; ⟨_, _, h1, h2.trans hT⟩
omit [Val] [Bet] in
theorem StF.below {φ : Phi} {h : AH} (hS : StF w0 φ h w) : Below w0.heap.size w0 w := by
  obtain ⟨_, _, h1, hS⟩ := hS
  exact ⟨hS.os, hS.tape, hS.output, hS.size, fun k hk => hS.fr k hk fun i b _d hi hf => by rw [h1 i b hi] at hf; cases hf⟩
def InSt (w0 : World) (fr : AF) (h : AH) (a : Act) (w : World) : Prop := ∃ φ, R φ h w ∧ StF w0 φ h w ∧ FR φ fr a.tmps ∧ a.defers = []
omit [Val] [Bet] in
theorem St.below {φ : Phi} {h : AH} (hS : St phi0 noH w0 φ h w) : Below w0.heap.size w0 w := ⟨hS.os, hS.tape, hS.output, hS.size, fun k hk => hS.fr k hk fun _i _b _d hi _ => absurd hi (noH_get _ _)⟩
theorem InSt.below (h : InSt w0 fr h' a w) : Below w0.heap.size w0 w := let ⟨_, _, hS, _⟩ := h; hS.below
theorem InSt.le {fr1 : AF} {h1 : AH} (hi : InSt w0 fr h a w) (hf : leF fr1 fr = true) (hh : leH h1 h = true) : InSt w0 fr1 h1 a w := by
  obtain ⟨φ, e1, e2, e3, e4⟩ := hi
  obtain ⟨_, _, q1, q2⟩ := e2
  exact ⟨φ, leH_R hh e1, ⟨_, _, q1, leH_St hh q2⟩, leF_FR hf e3, e4⟩
def segB (q : Option Res) (fr1 : AF) (h1 : AH) : Bool := match q with
  | some (.code .normal [] fr h) => ite_ (leF fr1 fr) (leH h1 h) false
  | _ => false
def retB (q : Option Res) (fr1 : AF) (h1 : AH) : Bool := match q with
  | some (.code .ret [] fr h) => ite_ (leF fr1 fr) (leH h1 h) false
  | _ => false
omit [Val] [Bet] in
theorem Mk.nil {es : List Deferred} (h : Mk φ [] es) : es = [] := by
  cases es with
  | nil => rfl
  | cons => exact h.elim
theorem seg_code {n m : Nat} (HS : Sound P (run X n)) {c : Code} {fr1 : AF} {h1 : AH} (hb : segB (run X n (.code none [] c fr h)) fr1 h1 = true) (hi : InSt w0 fr h a w) {Q : Exit → Act → World → Prop}
    (hK : ∀ a' w', InSt w0 fr1 h1 a' w' → Q .normal a' w') : c.wpIn (Fro none) m P Q a w := by
  unfold segB at hb
  split at hb
  · rename_i fr2 h2 hq
    obtain ⟨b1, b2⟩ := ite_and hb
    obtain ⟨φ, e1, e2, e3, e4⟩ := hi
    refine CodeOK.in (HS _ _ hq) e1 e3 (by rw [e4]; trivial) trivial fun φ' w' a' m1 m2 m3 m4 => hK a' w' ?_
    exact InSt.le ⟨φ', m1, e2.trans m2, m3, m4.nil⟩ b1 b2
  · cases hb
theorem seg_ret {n m : Nat} (HS : Sound P (run X n)) {c : Code} {fr1 : AF} {h1 : AH} (hb : retB (run X n (.code none [] c fr h)) fr1 h1 = true) (hi : InSt w0 fr h a w) {Q : Exit → Act → World → Prop}
    (hK : ∀ a' w', InSt w0 fr1 h1 a' w' → Q .ret a' w') : c.wpIn (Fro none) m P Q a w := by
  unfold retB at hb
  split at hb
  · rename_i fr2 h2 hq
    obtain ⟨b1, b2⟩ := ite_and hb
    obtain ⟨φ, e1, e2, e3, e4⟩ := hi
    refine CodeOK.in (HS _ _ hq) e1 e3 (by rw [e4]; trivial) trivial fun φ' w' a' m1 m2 m3 m4 => hK a' w' ?_
    exact InSt.le ⟨φ', m1, e2.trans m2, m3, m4.nil⟩ b1 b2
  · cases hb
def pairF (fr : AF) (h : AH) : Option (AF × AH) := some (fr, h)
def opsB (q : Option (AF × AH)) (fr1 : AF) (h1 : AH) : Bool := match q with
  | some (fr, h) => ite_ (leF fr1 fr) (leH h1 h) false
  | none => false
/-- A part of a region's operations. -/
theorem seqPart (HT : TabOK X.E) (HK : KeysOK X.E) {ih : Task → Option Res} (hih : Sound X.E.P ih) (ops : Array Oper) (l2 : List Nat) : ∀ (part more : List Oper) (i : Nat) (φ : Phi) (w : World) (fr : AF) (h : AH) (a : Act) (k : AF → AH → Option β) (ro : Option Nat) (n : Nat) (Q : Exit → Act → World → Prop),
    ops.toList.drop i = part ++ more → seqOps X ih ops.toList part fr h k = some r → R φ h w → FR φ fr a.tmps →
    (∀ fr' h' φ' w' a', k fr' h' = some r → R φ' h' w' → St φ h w φ' h' w' → FR φ' fr' a'.tmps → a'.defers = a.defers → wpOpsIn (Fro ro) n X.E.P ops Q l2 a' w') → wpOpsIn (Fro ro) n X.E.P ops Q (List.range' i part.length ++ l2) a w := by
  intro part
  induction part with
  | nil => intro more i φ w fr h a k ro n Q _ he hR hF hq; exact hq fr h φ w a he hR (.refl _ _ _) hF rfl
  | cons o part rec =>
    intro more i φ w fr h a k ro n Q hd he hR hF hq
    have hoi : ops[i]? = some o := by
      have := congrArg (·[0]?) hd
      simp only [List.getElem?_drop, Nat.add_zero, List.cons_append, List.getElem?_cons_zero] at this
      rw [← this, Array.getElem?_toList]
    have hd' : ops.toList.drop (i + 1) = part ++ more := by rw [← List.drop_drop, hd]; rfl
    show wpOpsIn (Fro ro) n X.E.P ops Q (i :: (List.range' (i + 1) part.length ++ l2)) a w
    unfold wpOpsIn
    rw [hoi]
    simp only
    have go : ∀ φ' w' h' x v fr', R φ' h' w' → St φ h w φ' h' w' → FR φ' fr' (a.put o.dst v).tmps → seqOps X ih ops.toList part fr' h' k = some r → VR φ' x v → wpOpsIn (Fro ro) n X.E.P ops Q (List.range' (i + 1) part.length ++ l2) (a.put o.dst v) w' := by
      intro φ' w' h' x v fr' hR' hS hF' he' hx
      refine rec more (i + 1) φ' w' fr' h' (a.put o.dst v) k ro n Q hd' he' hR' hF' fun fr2 h2 φ2 w2 a2 e1 e2 e3 e4 e5 => ?_
      exact hq fr2 h2 φ2 w2 a2 e1 e2 (hS.trans e3) e4 (by rw [e5, put_defers])
    rcases wantK_some hF he with ⟨hw, hy⟩ | ⟨hw, hy⟩
    · rw [if_pos hw]
      obtain ⟨v, h', h1, h2⟩ := opRunK_some (k := fun v h' => putK none fr o.dst v fun fr' => seqOps X ih ops.toList part fr' h' k) HT HK hih hR hF hy
      refine h2 ro n Q _ fun φ' u w' hu hR' hS => ?_
      obtain ⟨fr', h3, h4⟩ := putK_some (v := u) h1 (hF.ext hS.ext) hu
      exact go φ' w' h' v u fr' hR' hS h4 h3 hu
    · rw [if_neg (by rw [hw]; exact Bool.false_ne_true)]
      refine ⟨fun _ _ => trivial, ?_⟩
      obtain ⟨fr', h3, h4⟩ := putK_some (x := .tup []) (v := undef) hy hF (.tup [] #[] .nil)
      exact go φ w h (.tup []) undef fr' hR (.refl _ _ _) h4 h3 (.tup [] #[] .nil)
theorem seg_ops (HT : TabOK X.E) (HK : KeysOK X.E) {n m i len : Nat} (HS : Sound X.E.P (run X n)) {ops : Array Oper} {l2 : List Nat} {fr1 : AF} {h1 : AH} (hb : opsB (seqOps X (run X n) ops.toList ((ops.toList.drop i).take len) fr h pairF) fr1 h1 = true) (hlen : ((ops.toList.drop i).take len).length = len)
    (hi : InSt w0 fr h a w) {Q : Exit → Act → World → Prop} (hK : ∀ a' w', InSt w0 fr1 h1 a' w' → wpOpsIn (Fro none) m X.E.P ops Q l2 a' w') : wpOpsIn (Fro none) m X.E.P ops Q (List.range' i len ++ l2) a w := by
  unfold opsB at hb
  split at hb
  · rename_i fr2 h2 hq
    obtain ⟨b1, b2⟩ := ite_and hb
    obtain ⟨φ, e1, e2, e3, e4⟩ := hi
    have := seqPart (r := (fr2, h2)) HT HK HS ops l2 ((ops.toList.drop i).take len) ((ops.toList.drop i).drop len) i φ w fr h a pairF none m Q (List.take_append_drop _ _).symm hq e1 e3 fun fr' h' φ' w' a' q1 q2 q3 q4 q5 => by
      cases q1
      exact hK a' w' (InSt.le ⟨φ', q2, e2.trans q3, q4, q5.trans e4⟩ b1 b2)
    rwa [hlen] at this
  · cases hb
/-- A call without arguments, of a closed result. -/
theorem calls_closed {n f : Nat} (HS : Sound P (run X n)) {x : AV} {h1 : AH} (he : run X n (.call (.func f) [] noH) = some (.val x h1)) (w : World) : Calls P f #[] w fun e w' => ∃ u φ, e = .returned u ∧ VR φ x u ∧ Below w.heap.size w w' := by
  obtain ⟨_, h2⟩ := HS _ _ he phi0 w [] (R.noH w) .nil
  have h3 := (h2 0).calls (fun k => room_wide k)
  exact h3.mono fun e w' hb => by
    obtain ⟨u, φ, rfl, b1, b2, b3⟩ := hb
    exact ⟨u, φ, rfl, b1, b3.below⟩
end
end Go.Proofs.YtibmpjhffeinoaaGreat.Kx

namespace Go.Proofs.YtibmpjhffeinoaaGreat.Kx
open Go Go.RowKit
variable [Val] [Bet]

noncomputable section
variable {X : Exe} {E : Env} {P : Program} {φ φ' : Phi} {h h' : AH} {w w' w0 : World} {fr fr' : AF} {a : Act} {β : Type} {r : β}

def dropSeq : Nat → Code → Code
  | 0, c => c
  | n + 1, c => match c with
    | .seq _ b => dropSeq n b
    | c => c
def headSeq : Code → Code
  | .seq a _ => a
  | c => c
def takeL : Nat → Code → List Code
  | 0, _ => []
  | n + 1, c => match c with
    | .seq a b => a :: takeL n b
    | _ => []
def opsOf : Code → Array Oper
  | .region _ ops _ => ops
  | .seq a _ => opsOf a
  | _ => #[]
def chain : List Code → Code → Code
  | [], c => c
  | x :: xs, c => .seq x (chain xs c)
/-- Statements, one behind the other. -/
def runL (X : Exe) (n : Nat) (cs : List Code) : AF → AH → (AF → AH → Bool) → Bool := List.rec (motive := fun _ => AF → AH → (AF → AH → Bool) → Bool) (fun fr h k => k fr h) (fun c _ ih fr h k => match run X n (.code none [] c fr h) with
  | some (.code .normal [] fr' h') => ih fr' h' k
  | _ => false) cs
def leS (fr1 : AF) (h1 : AH) (fr : AF) (h : AH) : Bool := ite_ (leF fr1 fr) (leH h1 h) false
theorem seg_list {n m : Nat} (HS : Sound P (run X n)) {fr1 : AF} {h1 : AH} {Q : Exit → Act → World → Prop} {rest : Code} : ∀ (cs : List Code) (fr : AF) (h : AH) (a : Act) (w : World), runL X n cs fr h (leS fr1 h1) = true → InSt w0 fr h a w →
    (∀ a' w', InSt w0 fr1 h1 a' w' → rest.wpIn (Fro none) m P Q a' w') → (chain cs rest).wpIn (Fro none) m P Q a w := by
  intro cs
  induction cs with
  | nil =>
    intro fr h a w hb hi hK
    obtain ⟨b1, b2⟩ := ite_and (show ite_ (leF fr1 fr) (leH h1 h) false = true from hb)
    exact hK a w (hi.le b1 b2)
  | cons c cs ih =>
    intro fr h a w hb hi hK
    have hb' : (match run X n (.code none [] c fr h) with
      | some (.code .normal [] fr' h') => runL X n cs fr' h' (leS fr1 h1)
      | _ => false) = true := hb
    split at hb'
    · rename_i fr2 h2 hq
      obtain ⟨φ, e1, e2, e3, e4⟩ := hi
      refine wpIn_seq (CodeOK.in (HS _ _ hq) e1 e3 (by rw [e4]; trivial) trivial fun φ' w' a' m1 m2 m3 m4 => ?_)
      exact ih fr2 h2 a' w' hb' ⟨φ', m1, e2.trans m2, m3, m4.nil⟩ hK
    · cases hb'
omit [Val] [Bet] in
/-- A region in segments: its operations are told by numbers. -/
theorem wpIn_region_of {m id : Nat} {ops : Array Oper} {Q : Exit → Act → World → Prop} {l : List Nat} (hl : List.range ops.size = l) (h : wpOpsIn (Fro none) m P ops Q l a w) : (Code.region id ops false).wpIn (Fro none) m P Q a w :=
  wpIn_region (by rw [hl]; exact h)
/-- What is asked at a function's end. -/
def FinQ (t : Nat) (w0 : World) (e : Exit) (a : Act) (w' : World) : Prop := (e = .normal ∨ e = .ret) ∧ a.defers = [] ∧ a.tmps[t]? = some (.bool true) ∧ Below w0.heap.size w0 w'
theorem InSt.fin {t : Nat} (hi : InSt w0 fr h a w) (ht : fr.t.get t = some (.bool true)) {e : Exit} (he : e = .normal ∨ e = .ret) : FinQ t w0 e a w := by
  have hB := hi.below
  obtain ⟨φ, e1, e2, e3, e4⟩ := hi
  obtain ⟨v, h1, h2⟩ := e3.2 t _ ht
  cases h2
  exact ⟨he, e4, h1, hB⟩
theorem InSt.start {nt : Nat} (w : World) : InSt w ⟨nt, .e⟩ noH { tmps := #[] ++ Array.replicate (nt - 0) undef, defers := [] } w :=
  ⟨phi0, R.noH w, .of (.refl _ _ _), ⟨by simp, fun t x hx => by simp [Tr.get] at hx⟩, rfl⟩
theorem calls_fin {f t : Nat} {fn : Func} {c : Code} (hf : P.funcs[f]? = some fn) (hb : fn.body = some c) (hr : fn.results = #[.tmp t]) (w : World)
    (hw : ∀ a, InSt w ⟨fn.ntmps, .e⟩ noH a w → c.wpIn (Fro none) 0 P (FinQ t w) a w) : Calls P f #[] w fun e w' => e = .returned (.bool true) ∧ Below w.heap.size w w' := by
  refine CallsIn.calls (F := Fro none) (n := 0) (callsIn_of_wp_marks hf hb trivial ?_) fun k => room_wide k
  refine wpIn_mono (hw _ (InSt.start w)) fun e a w' hq => ?_
  obtain ⟨he, h1, h2, h3⟩ := hq
  have hl : LeavesInM (Fro none) 0 P fn a.tmps (fun e w' => e = .returned (.bool true) ∧ Below w.heap.size w w') a.defers .returning w' := by
    rw [h1]
    refine ⟨.bool true, ?_, rfl, h3⟩
    have hm : (fn.results.toList.mapM (resSem a.tmps)).run P w' = .ok [.bool true] w' := by
      rw [hr]
      simp only [List.mapM_cons, List.mapM_nil, Sem.run_bind, resSem, Sem.run_pure, Result.andThen]
      rw [Array.getD_eq_getD_getElem?, h2]
      rfl
    have := run_results hm
    simpa using this
  rcases he with rfl | rfl
  · exact hl
  · exact hl
end
end Go.Proofs.YtibmpjhffeinoaaGreat.Kx

namespace Go.Proofs.YtibmpjhffeinoaaGreat.Kx
open Go Go.RowKit
variable [Val] [Bet]

noncomputable section
variable {X : Exe} {E : Env} {P : Program} {φ φ' : Phi} {h h' : AH} {w w' w0 : World} {fr fr' : AF} {a : Act} {β : Type} {r : β}

/-! ### Numbers, new and old -/
def newB (rho : Tr Nat) (nx i j : Nat) : Bool := ite_ (Nat.blt i nx) (getK false rho i fun j' => Nat.beq j' j) false
def simA (rho : Tr Nat) (nx : Nat) (x y : Option (Nat × Nat)) : Bool := match x, y with
  | none, none => true
  | some p, some q => ite_ (newB rho nx p.1 q.1) (Nat.beq p.2 q.2) false
  | _, _ => false
def simF (rho : Tr Nat) (nx : Nat) (x y : AV) : Bool := match x, y with
  | .any, _ => true
  | .ptr p, .ptr q => simA rho nx p q
  | .sl p n (.k c), .sl q m (.k d) => ite_ (simA rho nx p q) (ite_ (Nat.beq n m) (Nat.beq c d) false) false
  | .sl (some p) n (.u c), .sl (some q) m (.u d) => ite_ (simA rho nx (some p) (some q)) (ite_ (Nat.beq n m) (Nat.beq c d) false) false
  | .mp none, .mp none => true
  | .mp (some i), .mp (some j) => newB rho nx i j
  | .nilf, .nilf => true
  | .int k n, .int l m => eqF (.int k n) (.int l m)
  | .lin k c ts, .lin l d us => eqF (.lin k c ts) (.lin l d us)
  | .bool b, .bool c => sameB b c
  | _, _ => false
def simFs (rho : Tr Nat) (nx : Nat) (xs : List AV) : List AV → Bool := List.rec (motive := fun _ => List AV → Bool) (fun ys => List.rec true (fun _ _ _ => false) ys) (fun x _ ih ys => List.rec (motive := fun _ => Bool) false (fun y ys _ => ite_ (simF rho nx x y) (ih ys) false) ys) xs
def simV (rho : Tr Nat) (nx : Nat) (x y : AV) : Bool := match x, y with
  | .agg xs, .agg ys => simFs rho nx xs ys
  | .tup xs, .tup ys => simFs rho nx xs ys
  | .fn (.func f) a b, .fn (.func g) c d => ite_ (Nat.beq f g) (ite_ (simFs rho nx a c) (simFs rho nx b d) false) false
  | x, y => simF rho nx x y
def phiN (rho : Tr Nat) (nx : Nat) (φ : Phi) : Phi := fun i => if i < nx then (rho.get i).bind φ else none
omit [Val] [Bet] in
theorem newB_phi {rho : Tr Nat} {nx i j : Nat} {p : Nat × Nat × Nat} (h : newB rho nx i j = true) (hp : φ j = some p) : phiN rho nx φ i = some p := by
  obtain ⟨h1, h2⟩ := ite_and h
  rw [getK_eq] at h2
  unfold phiN
  rw [if_pos (blt_true h1)]
  cases hg : rho.get i with
  | none => rw [hg] at h2; cases h2
  | some j' =>
    rw [hg] at h2
    have := beq_true' h2
    subst this
    exact hp
omit [Bet] in
theorem simF_VR {rho : Tr Nat} {nx : Nat} {x y : AV} {v : Value} (h : simF rho nx x y = true) (hy : VR φ y v) : VR (phiN rho nx φ) x v := by
  unfold simF at h
  split at h
  · exact .any v
  · rename_i p q
    unfold simA at h
    split at h
    · cases hy; exact .ptr0
    · rename_i p q
      obtain ⟨h1, h2⟩ := ite_and h
      obtain ⟨p1, p2⟩ := p
      obtain ⟨q1, q2⟩ := q
      have e := beq_true' h2
      simp only at e
      subst e
      cases hy with
      | ptr i o g d hp => exact .ptr _ _ _ _ (newB_phi h1 hp)
    · cases h
  · rename_i p n c q m d
    obtain ⟨h1, h2⟩ := ite_and h
    obtain ⟨h3, h4⟩ := ite_and h2
    have e1 := beq_true' h3
    have e2 := beq_true' h4
    subst e1
    subst e2
    unfold simA at h1
    split at h1
    · cases hy; exact .sl0 _ _
    · rename_i p q
      obtain ⟨h5, h6⟩ := ite_and h1
      obtain ⟨p1, p2⟩ := p
      obtain ⟨q1, q2⟩ := q
      have e := beq_true' h6
      simp only at e
      subst e
      cases hy with
      | sl i o g d n c hp => exact .sl _ _ _ _ _ _ (newB_phi h5 hp)
    · cases h1
  · rename_i p n c q m d
    obtain ⟨h1, h2⟩ := ite_and h
    obtain ⟨h3, h4⟩ := ite_and h2
    have e1 := beq_true' h3
    have e2 := beq_true' h4
    subst e1
    subst e2
    obtain ⟨h5, h6⟩ := ite_and (show ite_ (newB rho nx p.1 q.1) (Nat.beq p.2 q.2) false = true from h1)
    obtain ⟨p1, p2⟩ := p
    obtain ⟨q1, q2⟩ := q
    have e := beq_true' h6
    simp only at e
    subst e
    cases hy with
    | slU i o g d n c s a hp hc ha hz => exact .slU _ _ _ _ _ _ _ _ (newB_phi h5 hp) hc ha hz
  · cases hy; exact .mp0
  · cases hy with
    | mp i g d hp => exact .mp _ _ _ (newB_phi h hp)
  · cases hy; exact .nilf
  · rw [eqF_true h]
    cases hy
    exact .int _ _
  · rw [eqF_true h]
    cases hy with
    | lin _ _ _ n hn hb => exact .lin _ _ _ n hn hb
  · rename_i b c
    cases hy
    cases b <;> cases c <;> first | exact .bool _ | cases h
  · cases h
omit [Bet] in
theorem simFs_VRs {rho : Tr Nat} {nx : Nat} (xs : List AV) : ∀ {ys : List AV} {vs : List Value}, simFs rho nx xs ys = true → VRs φ ys vs → VRs (phiN rho nx φ) xs vs := by
  induction xs with
  | nil => intro ys vs h hy; cases ys with
    | nil => cases hy; exact .nil
    | cons => cases h
  | cons x xs ih =>
    intro ys vs h hy
    cases ys with
    | nil => cases h
    | cons y ys =>
      have h' : ite_ (simF rho nx x y) (simFs rho nx xs ys) false = true := h
      obtain ⟨h1, h2⟩ := ite_and h'
      cases hy with
      | cons _ v _ vs h3 h4 => exact .cons _ _ _ _ (simF_VR h1 h3) (ih h2 h4)
omit [Bet] in
theorem simV_VR {rho : Tr Nat} {nx : Nat} {x y : AV} {v : Value} (h : simV rho nx x y = true) (hy : VR φ y v) : VR (phiN rho nx φ) x v := by
  unfold simV at h
  split at h
  · cases hy with
    | agg _ us hu => exact .agg _ _ (simFs_VRs _ h hu)
  · cases hy with
    | tup _ us hu => exact .tup _ _ (simFs_VRs _ h hu)
  · obtain ⟨h1, h2⟩ := ite_and h
    obtain ⟨h3, h4⟩ := ite_and h2
    rw [beq_true' h1]
    cases hy with
    | fn f xs ys us vs e1 e2 => exact .fn _ _ _ _ _ (simFs_VRs _ h3 e1) (simFs_VRs _ h4 e2)
  · exact simF_VR h hy

/-! ### Frames and heaps -/
def allIx {α : Type} (p : Nat → α → Bool) (t : Tr α) : Nat → Nat → Bool := Tr.rec (motive := fun _ => Nat → Nat → Bool) (fun _ _ => true) (fun v k _ => p k v) (fun _ _ ia ib k w => natK (Nat.mul 2 w) fun w2 => ite_ (ia k w2) (natK (Nat.add k w) fun kw => ib kw w2) false) t
omit [Val] [Bet] in
theorem allIx_get {α : Type} {p : Nat → α → Bool} (t : Tr α) : ∀ {k0 w : Nat}, allIx p t k0 w = true → ∀ k v, t.get k = some v → p (k0 + w * k) v = true := by
  induction t with
  | e => intro k0 w _ k v hk; simp [Tr.get] at hk
  | l u =>
    intro k0 w h k v hk
    unfold Tr.get at hk
    split at hk
    · rename_i h0
      cases hk
      subst h0
      exact h
    · cases hk
  | n a b iha ihb =>
    intro k0 w h k v hk
    have h' : (natK (Nat.mul 2 w) fun w2 => ite_ (allIx p a k0 w2) (natK (Nat.add k0 w) fun kw => allIx p b kw w2) false) = true := h
    rw [natK_eq] at h'
    obtain ⟨h1, h2⟩ := ite_and h'
    rw [natK_eq] at h2
    unfold Tr.get at hk
    split at hk
    · rename_i h0
      have := iha h1 _ _ hk
      have e : k0 + Nat.mul 2 w * (k / 2) = k0 + w * k := by
        have : k = 2 * (k / 2) := by omega
        conv => rhs; rw [this]
        show k0 + 2 * w * (k / 2) = _
        rw [Nat.mul_comm 2 w, Nat.mul_assoc]
      rwa [e] at this
    · rename_i h0
      have := ihb h2 _ _ hk
      have e : Nat.add k0 w + Nat.mul 2 w * (k / 2) = k0 + w * k := by
        have : k = 2 * (k / 2) + 1 := by omega
        conv => rhs; rw [this]
        show k0 + w + 2 * w * (k / 2) = _
        rw [Nat.mul_comm 2 w, Nat.mul_assoc, Nat.mul_add]
        omega
      rwa [e] at this
def simEs (rho : Tr Nat) (nx : Nat) (xs : List (List Int × AV × Nat)) : List (List Int × AV × Nat) → Bool := List.rec (motive := fun _ => List (List Int × AV × Nat) → Bool) (fun ys => List.rec true (fun _ _ _ => false) ys)
  (fun x _ ih ys => List.rec (motive := fun _ => Bool) false (fun y ys _ => ite_ (eqIs x.1 y.1) (ite_ (simV rho nx x.2.1 y.2.1) (ite_ (Nat.beq x.2.2 y.2.2) (ih ys) false) false) false) ys) xs
omit [Bet] in
theorem simEs_ERs {rho : Tr Nat} {nx : Nat} (xs : List (List Int × AV × Nat)) : ∀ {ys : List (List Int × AV × Nat)} {fs : List MapEntry}, simEs rho nx xs ys = true → ERs φ ys fs → ERs (phiN rho nx φ) xs fs ∧ xs.map (·.1) = ys.map (·.1) := by
  induction xs with
  | nil => intro ys fs h he; cases ys with
    | nil =>
      cases fs with
      | nil => exact ⟨trivial, rfl⟩
      | cons => exact he.elim
    | cons => cases h
  | cons x xs ih =>
    intro ys fs h he
    cases ys with
    | nil => cases h
    | cons y ys =>
      have h' : ite_ (eqIs x.1 y.1) (ite_ (simV rho nx x.2.1 y.2.1) (ite_ (Nat.beq x.2.2 y.2.2) (simEs rho nx xs ys) false) false) false = true := h
      obtain ⟨h1, h2⟩ := ite_and h'
      obtain ⟨h3, h4⟩ := ite_and h2
      obtain ⟨h5, h6⟩ := ite_and h4
      obtain ⟨xk, xv, xb⟩ := x
      obtain ⟨yk, yv, yb⟩ := y
      cases fs with
      | nil => exact he.elim
      | cons f fs =>
        obtain ⟨e1, e2, e3, e4⟩ := he
        have hk := eqIs_true _ h1
        have hb := beq_true' h5
        simp only at hk hb
        subst hk
        subst hb
        obtain ⟨i1, i2⟩ := ih h6 e4
        exact ⟨⟨e1, simV_VR h3 e2, e3, i1⟩, by simp only [List.map_cons, i2]⟩
def simVs (rho : Tr Nat) (nx : Nat) (xs : List AV) : List AV → Bool := List.rec (motive := fun _ => List AV → Bool) (fun _ => true) (fun x _ ih ys => List.rec (motive := fun _ => Bool) false (fun y ys _ => ite_ (simV rho nx x y) (ih ys) false) ys) xs
omit [Val] [Bet] in
theorem simVs_get {rho : Tr Nat} {nx : Nat} (xs : List AV) : ∀ {ys : List AV}, simVs rho nx xs ys = true → ∀ (j : Nat) (x : AV), xs[j]? = some x → ∃ y, ys[j]? = some y ∧ simV rho nx x y = true := by
  induction xs with
  | nil => intro ys _ j x hj; simp at hj
  | cons z xs ih =>
    intro ys h j x hj
    cases ys with
    | nil => cases h
    | cons y ys =>
      have h' : ite_ (simV rho nx z y) (simVs rho nx xs ys) false = true := h
      obtain ⟨h1, h2⟩ := ite_and h'
      cases j with
      | zero => simp at hj; subst hj; exact ⟨y, rfl, h1⟩
      | succ j => obtain ⟨y', h3, h4⟩ := ih h2 j x (by simpa using hj); exact ⟨y', by simpa using h3, h4⟩
def simO (rho : Tr Nat) (nx : Nat) (x y : AO) : Bool := match x, y with
  | .cells xs, .cells ys => simVs rho nx xs ys
  | .froz xs, .froz ys => simVs rho nx xs ys
  | .map n es k, .map m fs l => ite_ (Nat.beq n m) (ite_ (simEs rho nx es fs) (Nat.beq k l) false) false
  | _, _ => false
omit [Val] [Bet] in
theorem simO_isF {rho : Tr Nat} {nx : Nat} {x y : AO} (h : simO rho nx x y = true) : x.isF = y.isF := by
  unfold simO at h
  split at h <;> first | rfl | cases h
theorem simO_OR {rho : Tr Nat} {nx : Nat} {x y : AO} {d : Nat × Nat} {o : Obj} (h : simO rho nx x y = true) (hy : OR φ d y o) : OR (phiN rho nx φ) d x o ∧ y ≠ .dead := by
  unfold simO at h
  split at h
  · rename_i xs ys
    obtain ⟨c, e, h1, h2, h3⟩ := hy
    refine ⟨⟨c, e, h1, h2, fun j x hj => ?_⟩, by simp⟩
    obtain ⟨y, h4, h5⟩ := simVs_get xs h j x hj
    obtain ⟨v, h6, h7, h8⟩ := h3 j y h4
    exact ⟨v, h6, simV_VR h5 h7, h8⟩
  · rename_i xs ys
    obtain ⟨c, e, p, h1, h2, h3⟩ := hy
    refine ⟨⟨c, e, p, h1, h2, fun j x hj => ?_⟩, by simp⟩
    obtain ⟨y, h4, h5⟩ := simVs_get xs h j x hj
    obtain ⟨v, h6, h7, h8⟩ := h3 j y h4
    exact ⟨v, h6, simV_VR h5 h7, h8⟩
  · rename_i n es k m fs l
    obtain ⟨h1, h2⟩ := ite_and h
    obtain ⟨h3, h4⟩ := ite_and h2
    have hn := beq_true' h1
    have hk := beq_true' h4
    subst hn
    subst hk
    obtain ⟨ces, rfl, e1, e2, e3⟩ := hy
    obtain ⟨i1, i2⟩ := simEs_ERs es h3 e1
    refine ⟨⟨ces, rfl, i1, by rw [i2]; exact e2, fun e he => ?_⟩, by simp⟩
    have hm : e.1 ∈ es.map (·.1) := List.mem_map_of_mem he
    rw [i2] at hm
    obtain ⟨e', he', hee⟩ := List.mem_map.1 hm
    rw [← hee]
    exact e3 e' he'
  · cases h
/-- rho: of a new number the old one; inv: of an old one the new one. -/
def renH (rho inv : Tr Nat) (h1 h : AH) : Bool := allIx (fun i ao1 => ite_ (Nat.blt i h1.nx) (getK false rho i fun j => getK false inv j fun i' => ite_ (Nat.beq i' i) (getK false h.t j fun ao => simO rho h1.nx ao1 ao) false) false) h1.t 0 1
def renF (rho : Tr Nat) (nx : Nat) (fr1 fr : AF) : Bool := ite_ (Nat.beq fr1.nt fr.nt) (subT (simV rho nx) fr1.t fr.t) false
def renS (rho inv : Tr Nat) (fr1 : AF) (h1 : AH) (fr : AF) (h : AH) : Bool := ite_ (renF rho h1.nx fr1 fr) (renH rho inv h1 h) false
omit [Val] [Bet] in
theorem renH_get {rho inv : Tr Nat} {h1 h : AH} (hr : renH rho inv h1 h = true) {i : Nat} {ao1 : AO} (hi : h1.t.get i = some ao1) : i < h1.nx ∧ ∃ j ao, rho.get i = some j ∧ inv.get j = some i ∧ h.t.get j = some ao ∧ simO rho h1.nx ao1 ao = true := by
  have h2 := allIx_get _ hr i ao1 hi
  rw [Nat.zero_add, Nat.one_mul] at h2
  obtain ⟨h3, h4⟩ := ite_and h2
  rw [getK_eq] at h4
  cases h5 : rho.get i with
  | none => rw [h5] at h4; cases h4
  | some j =>
    rw [h5] at h4
    simp only [getK_eq] at h4
    cases h6 : inv.get j with
    | none => rw [h6] at h4; cases h4
    | some i' =>
      rw [h6] at h4
      obtain ⟨h7, h8⟩ := ite_and h4
      cases h9 : h.t.get j with
      | none => rw [h9] at h8; cases h8
      | some ao =>
        rw [h9] at h8
        refine ⟨blt_true h3, j, ao, rfl, ?_, h9, h8⟩
        rw [h6, beq_true' h7]
theorem InSt.ren {rho inv : Tr Nat} {fr1 : AF} {h1 : AH} (hi : InSt w0 fr h a w) (hr : renS rho inv fr1 h1 fr h = true) : InSt w0 fr1 h1 a w := by
  obtain ⟨b1, b2⟩ := ite_and hr
  obtain ⟨b3, b4⟩ := ite_and b1
  obtain ⟨φ, e1, e2, e3, e4⟩ := hi
  have key : ∀ i ao1, h1.get i = some ao1 → ∃ j ao p, rho.get i = some j ∧ inv.get j = some i ∧ h.get j = some ao ∧ simO rho h1.nx ao1 ao = true ∧ φ j = some p ∧ phiN rho h1.nx φ i = some p := by
    intro i ao1 hg
    obtain ⟨q1, _⟩ := AH.of_get hg
    obtain ⟨q2, j, ao, q3, q4, q5, q6⟩ := renH_get b2 q1
    have q7 : ao ≠ .dead := by
      rintro rfl
      unfold simO at q6
      split at q6 <;> first | (cases q6; done) | simp_all
    have q8 := AH.get_of q5 q7
    obtain ⟨g, d, o, q9, _⟩ := e1.obj j ao q8
    refine ⟨j, ao, _, q3, q4, q8, q6, q9, ?_⟩
    unfold phiN
    rw [if_pos q2, q3]
    exact q9
  obtain ⟨H0, hnx0, hget0⟩ := exAH h1.nx (fun m a => h1.get m = some a ∧ a.isF = true) (fun m a b p1 p2 => by
    have := p1.1
    rw [p2.1] at this
    cases this
    rfl) (fun m a p1 => by
    obtain ⟨j, ao, p, _, _, _, _, _, q4⟩ := key m a p1.1
    unfold phiN at q4
    split at q4
    · assumption
    · cases q4) (fun m a p1 => (AH.of_get p1.1).2)
  refine ⟨phiN rho h1.nx φ, ⟨fun i ao1 hg => ?_, fun i j x y g d e hx hy hp hq => ?_, fun i p hp => ?_⟩, ⟨_, H0, (fun i x hx => ((hget0 i x).1 hx).2), ⟨.refl _, by rw [hnx0]; exact Nat.le_refl _, e2.below.size, fun k hk _ => e2.below.block k hk, fun i x g d hx hf hp hg => ?_, fun i x hx hf => ⟨x, (hget0 i x).2 ⟨hx, hf⟩, hf⟩, e2.below.os, e2.below.tape, e2.below.output⟩, fun i hi => rfl⟩, ⟨by rw [beq_true' b3]; exact e3.1, fun t x hx => ?_⟩, e4⟩
  · obtain ⟨j, ao, p, _, _, q1, q2, q3, q4⟩ := key i ao1 hg
    obtain ⟨g, d, o, q5, q6, q7⟩ := e1.obj j ao q1
    rw [q3] at q5
    cases q5
    exact ⟨g, d, o, q4, q6, (simO_OR q2 q7).1⟩
  · obtain ⟨i', ao, p, r1, r2, q1, s1, q3, q4⟩ := key i x hx
    obtain ⟨j', ao', p', r3, r4, q1', s2, q3', q4'⟩ := key j y hy
    rw [hp] at q4
    cases q4
    rw [hq] at q4'
    cases q4'
    rw [simO_isF s1, simO_isF s2]
    refine (e1.inj _ _ _ _ _ _ _ q1 q1' q3 q3').elim (fun this => .inl ?_) .inr
    subst this
    rw [r2] at r4
    cases r4
    rfl
  · unfold phiN at hp
    split at hp
    · assumption
    · cases hp
  · obtain ⟨j, ao, p, _, _, q1, q2, q3, q4⟩ := key i x hx
    rw [hp] at q4
    cases q4
    exfalso
    obtain ⟨_, _, a1, a2⟩ := e2
    obtain ⟨j', b, e, n1, n2, _⟩ := a2.im j ao g d q1 (by rw [← simO_isF q2]; exact hf) q3 hg
    rw [a1 j' b n1] at n2
    cases n2
  · obtain ⟨u, q1, q2⟩ := subT_get _ b4 t x hx
    obtain ⟨v, q3, q4⟩ := e3.2 t u q1
    exact ⟨v, q3, simV_VR q2 q4⟩
theorem seg_ren {n m : Nat} (HS : Sound P (run X n)) {fr1 : AF} {h1 : AH} {rho inv : Tr Nat} {Q : Exit → Act → World → Prop} {rest : Code} : ∀ (cs : List Code) (fr : AF) (h : AH) (a : Act) (w : World), runL X n cs fr h (renS rho inv fr1 h1) = true → InSt w0 fr h a w →
    (∀ a' w', InSt w0 fr1 h1 a' w' → rest.wpIn (Fro none) m P Q a' w') → (chain cs rest).wpIn (Fro none) m P Q a w := by
  intro cs
  induction cs with
  | nil =>
    intro fr h a w hb hi hK
    exact hK a w (hi.ren hb)
  | cons c cs ih =>
    intro fr h a w hb hi hK
    have hb' : (match run X n (.code none [] c fr h) with
      | some (.code .normal [] fr' h') => runL X n cs fr' h' (renS rho inv fr1 h1)
      | _ => false) = true := hb
    split at hb'
    · rename_i fr2 h2 hq
      obtain ⟨φ, e1, e2, e3, e4⟩ := hi
      refine wpIn_seq (CodeOK.in (HS _ _ hq) e1 e3 (by rw [e4]; trivial) trivial fun φ' w' a' m1 m2 m3 m4 => ?_)
      exact ih fr2 h2 a' w' hb' ⟨φ', m1, e2.trans m2, m3, m4.nil⟩ hK
    · cases hb'
/-! ### Closed calls -/
/-- It returns true, and leaves all that was there. -/
def Yes (w : World) (e : Ending) (w' : World) : Prop := e = .returned (.bool true) ∧ Below w.heap.size w w'
theorem callsIn_run {n f : Nat} (HS : Sound P (run X n)) {args : List AV} {us : List Value} {h1 : AH} (he : run X n (.call (.func f) args noH) = some (.val (.bool true) h1)) (hx : VRs phi0 args us) (w : World) (m : Nat) : CallsIn (Fro none) m P f us.toArray w (Yes w) := by
  obtain ⟨_, h2⟩ := HS _ _ he phi0 w us (R.noH w) hx
  refine (h2 m).mono fun e w' hb => ?_
  obtain ⟨u, φ, rfl, b1, b2, b3⟩ := hb
  cases b1
  exact ⟨rfl, b3.below⟩
theorem callsIn_fin {f t : Nat} {fn : Func} {c : Code} {args : List AV} {us : List Value} {fr0 : AF} (hf : P.funcs[f]? = some fn) (hb : fn.body = some c) (hr : fn.results = #[.tmp t]) (hx : VRs phi0 args us) (ha : argsK fn.ntmps args 0 ⟨fn.ntmps, .e⟩ some = some fr0) (m : Nat) (w : World)
    (hw : ∀ a, InSt w fr0 noH a w → c.wpIn (Fro none) m P (FinQ t w) a w) : CallsIn (Fro none) m P f us.toArray w (Yes w) := by
  refine callsIn_of_wp_marks hf hb trivial ?_
  have hle := argsK_le _ ha
  have hT : (us.toArray ++ Array.replicate (fn.ntmps - us.toArray.size) undef).size = fn.ntmps := by
    have hl := hx.length
    rw [Array.size_append, Array.size_replicate, List.size_toArray]
    rcases hle with rfl | hle
    · simp at hl; rw [← hl]; simp
    · simp only at hle; omega
  obtain ⟨fr', k1, k2⟩ := argsK_some (φ := phi0) (T := us.toArray ++ Array.replicate (fn.ntmps - us.toArray.size) undef) args ha hx ⟨hT, fun t x hx => by simp [Tr.get] at hx⟩ fun j v hv => by
    rw [Nat.zero_add, Array.getElem?_append_left (by rw [List.size_toArray]; exact (List.getElem?_eq_some_iff.1 hv).1)]
    simpa using hv
  cases k1
  refine wpIn_mono (hw _ ⟨phi0, R.noH w, .of (.refl _ _ _), k2, rfl⟩) fun e a w' hq => ?_
  obtain ⟨he, h1, h2, h3⟩ := hq
  have hl : LeavesInM (Fro none) m P fn a.tmps (Yes w) a.defers .returning w' := by
    rw [h1]
    refine ⟨.bool true, ?_, rfl, h3⟩
    have hm : (fn.results.toList.mapM (resSem a.tmps)).run P w' = .ok [.bool true] w' := by
      rw [hr]
      simp only [List.mapM_cons, List.mapM_nil, Sem.run_bind, resSem, Sem.run_pure, Result.andThen]
      rw [Array.getD_eq_getD_getElem?, h2]
      rfl
    have := run_results hm
    simpa using this
  rcases he with rfl | rfl
  · exact hl
  · exact hl
/-! ### Functions without arguments that return true -/
def memN (f : Nat) (l : List Nat) : Bool := List.rec false (fun x _ ih => ite_ (Nat.beq x f) true ih) l
def primOf (l : List Nat) (f : FuncId) (args : List AV) (h : AH) : Option (AV × AH) := ite_ (memN f l) (match args with
  | [] => some (.bool true, h)
  | _ => none) none
def YesFn (P : Program) (f : Nat) : Prop := (∃ fn c, P.funcs[f]? = some fn ∧ fn.body = some c ∧ (fn.name == "runtime.NumGoroutine") = false) ∧ ∀ (m : Nat) (w : World), CallsIn (Fro none) m P f #[] w (Yes w)
theorem R.below (hR : R φ h w) (hb : Below w.heap.size w w') : R φ h w' := ⟨fun i ao hi => by
  obtain ⟨g, d, o, h1, h2, h3⟩ := hR.obj i ao hi
  exact ⟨g, d, o, h1, by rw [hb.block g (Array.getElem?_eq_some_iff.1 h2).1]; exact h2, h3⟩, hR.inj, hR.dom⟩
theorem St.ofBelow (_hR : R φ h w) (hb : Below w.heap.size w w') : St φ h w φ h w' := ⟨⟨.refl _, Nat.le_refl _, hb.size, fun k hk _ => hb.block k hk, fun i a _g d hi hf hp _ => ⟨i, a, d, hi, hf, hp⟩, fun _ a hi hf => ⟨a, hi, hf⟩, hb.os, hb.tape, hb.output⟩, fun _ _ => rfl⟩
theorem primOf_ok {l : List Nat} (hl : ∀ f ∈ l, YesFn P f) (f : FuncId) (args : List AV) (h : AH) (v : AV) (h' : AH) (he : primOf l f args h = some (v, h')) : CallOK P (.func f) args h v h' := by
  obtain ⟨h1, h2⟩ := ite_some_ he
  have hm : f ∈ l := by
    clear he h2 hl
    induction l with
    | nil => cases h1
    | cons x l ih =>
      have h3 : ite_ (Nat.beq x f) true (memN f l) = true := h1
      cases hb : Nat.beq x f with
      | true => rw [beq_true' hb]; exact List.mem_cons_self
      | false => rw [hb] at h3; exact List.mem_cons_of_mem _ (ih h3)
  obtain ⟨⟨fn, c, f1, f2, f3⟩, hc⟩ := hl f hm
  split at h2
  · simp only [Option.some.injEq, Prod.mk.injEq] at h2
    obtain ⟨rfl, rfl⟩ := h2
    intro φ w us hR hx
    cases hx
    refine ⟨callFunc_run f1 f2 f3, fun n => (hc n w).mono fun e w' hq => ?_⟩
    obtain ⟨rfl, hb⟩ := hq
    exact ⟨_, φ, rfl, .bool _, hR.below hb, .ofBelow hR hb⟩
  · cases h2
end
end Go.Proofs.YtibmpjhffeinoaaGreat.Kx

namespace Go.Proofs.YtibmpjhffeinoaaGreat.Kx
open Go Go.RowKit
variable [Val] [Bet]

noncomputable section
variable {X : Exe} {E : Env} {P : Program} {φ φ' : Phi} {h h' : AH} {w w' w0 : World} {fr fr' : AF} {a : Act} {β : Type} {r : β}

/-- A call whose result is known: of these arguments, over this heap of numbers. -/
structure ME where
  f : Nat
  args : List AV
  h : AH
  v : AV
def flatL (x : AV) : Bool := match x with
  | .int _ _ => true
  | .lin _ _ _ => true
  | .bool _ => true
  | _ => false
omit [Bet] in
theorem flatL_VR {x : AV} {v : Value} (hf : flatL x = true) (h : VR φ' x v) : VR φ x v := by
  unfold flatL at hf
  split at hf
  · cases h; exact .int _ _
  · cases h with
    | lin _ _ _ n hn hb => exact .lin _ _ _ n hn hb
  · cases h; exact .bool _
  · cases hf
def flatR (x : AV) : Bool := match x with
  | .tup xs => allB flatL xs
  | .agg xs => allB flatL xs
  | x => flatL x
omit [Bet] in
theorem flatLs_VRs (xs : List AV) : ∀ {vs : List Value}, (∀ x ∈ xs, flatL x = true) → VRs φ' xs vs → VRs φ xs vs := by
  induction xs with
  | nil => intro vs _ h; cases h; exact .nil
  | cons x xs ih =>
    intro vs hf h
    cases h with
    | cons _ v _ vs h1 h2 => exact .cons _ _ _ _ (flatL_VR (hf x List.mem_cons_self) h1) (ih (fun y hy => hf y (List.mem_cons_of_mem _ hy)) h2)
omit [Bet] in
theorem flatR_VR {x : AV} {v : Value} (hf : flatR x = true) (h : VR φ' x v) : VR φ x v := by
  unfold flatR at hf
  split at hf
  · cases h with
    | tup _ us hu => exact .tup _ _ (flatLs_VRs _ (allB_true hf) hu)
  · cases h with
    | agg _ us hu => exact .agg _ _ (flatLs_VRs _ (allB_true hf) hu)
  · exact flatL_VR hf h
def pairN (x0 x : AV) (rho inv : Tr Nat) (k : Tr Nat → Tr Nat → Bool) : Bool := match x0, x with
  | .sl (some (i0, _)) _ _, .sl (some (i, _)) _ _ => setK false 15 rho i0 i fun rho => setK false 15 inv i i0 fun inv => k rho inv
  | _, _ => k rho inv
def pairNs (xs : List AV) : List AV → Tr Nat → Tr Nat → (Tr Nat → Tr Nat → Bool) → Bool := List.rec (motive := fun _ => List AV → Tr Nat → Tr Nat → (Tr Nat → Tr Nat → Bool) → Bool) (fun _ rho inv k => k rho inv)
  (fun x _ ih ys rho inv k => List.rec (motive := fun _ => Bool) false (fun y ys _ => pairN x y rho inv fun rho inv => ih ys rho inv k) ys) xs
def pairV (x0 x : AV) (rho inv : Tr Nat) (k : Tr Nat → Tr Nat → Bool) : Bool := match x0, x with
  | .agg xs, .agg ys => pairNs xs ys rho inv k
  | x0, x => pairN x0 x rho inv k
def pairVs (xs : List AV) : List AV → Tr Nat → Tr Nat → (Tr Nat → Tr Nat → Bool) → Bool := List.rec (motive := fun _ => List AV → Tr Nat → Tr Nat → (Tr Nat → Tr Nat → Bool) → Bool) (fun _ rho inv k => k rho inv)
  (fun x _ ih ys rho inv k => List.rec (motive := fun _ => Bool) false (fun y ys _ => pairV x y rho inv fun rho inv => ih ys rho inv k) ys) xs
def simL (rho : Tr Nat) (nx : Nat) (xs : List AV) : List AV → Bool := List.rec (motive := fun _ => List AV → Bool) (fun ys => List.rec true (fun _ _ _ => false) ys) (fun x _ ih ys => List.rec (motive := fun _ => Bool) false (fun y ys _ => ite_ (simV rho nx x y) (ih ys) false) ys) xs
omit [Bet] in
theorem simL_VRs {rho : Tr Nat} {nx : Nat} (xs : List AV) : ∀ {ys : List AV} {vs : List Value}, simL rho nx xs ys = true → VRs φ ys vs → VRs (phiN rho nx φ) xs vs := by
  induction xs with
  | nil => intro ys vs h hy; cases ys with
    | nil => cases hy; exact .nil
    | cons => cases h
  | cons x xs ih =>
    intro ys vs h hy
    cases ys with
    | nil => cases h
    | cons y ys =>
      have h' : ite_ (simV rho nx x y) (simL rho nx xs ys) false = true := h
      obtain ⟨h1, h2⟩ := ite_and h'
      cases hy with
      | cons _ v _ vs h3 h4 => exact .cons _ _ _ _ (simV_VR h1 h3) (ih h2 h4)
def memO (x y : AO) : Bool := match x, y with
  | .cells xs, .cells ys => ite_ (eqFs xs ys) (allB flatL xs) false
  | _, _ => false
def memH (rho inv : Tr Nat) (h0 h : AH) : Bool := allIx (fun i ao1 => ite_ (Nat.blt i h0.nx) (getK false rho i fun j => getK false inv j fun i' => ite_ (Nat.beq i' i) (getK false h.t j fun ao => memO ao1 ao) false) false) h0.t 0 1
omit [Val] [Bet] in
theorem memH_get {rho inv : Tr Nat} {h1 h : AH} (hr : memH rho inv h1 h = true) {i : Nat} {ao1 : AO} (hi : h1.t.get i = some ao1) : i < h1.nx ∧ ∃ j ao, rho.get i = some j ∧ inv.get j = some i ∧ h.t.get j = some ao ∧ memO ao1 ao = true := by
  have h2 := allIx_get _ hr i ao1 hi
  rw [Nat.zero_add, Nat.one_mul] at h2
  obtain ⟨h3, h4⟩ := ite_and h2
  rw [getK_eq] at h4
  cases h5 : rho.get i with
  | none => rw [h5] at h4; cases h4
  | some j =>
    rw [h5] at h4
    simp only [getK_eq] at h4
    cases h6 : inv.get j with
    | none => rw [h6] at h4; cases h4
    | some i' =>
      rw [h6] at h4
      obtain ⟨h7, h8⟩ := ite_and h4
      cases h9 : h.t.get j with
      | none => rw [h9] at h8; cases h8
      | some ao =>
        rw [h9] at h8
        refine ⟨blt_true h3, j, ao, rfl, ?_, h9, h8⟩
        rw [h6, beq_true' h7]
omit [Val] [Bet] in
theorem memO_eq {x y : AO} (h : memO x y = true) : ∃ xs, x = .cells xs ∧ y = .cells xs ∧ ∀ v ∈ xs, flatL v = true := by
  unfold memO at h
  split at h
  · rename_i xs ys
    obtain ⟨h1, h2⟩ := ite_and h
    rw [eqFs_true _ h1]
    rw [eqFs_true _ h1] at h2
    exact ⟨_, rfl, rfl, allB_true h2⟩
  · cases h
def matchM (e : ME) (args : List AV) (h : AH) : Bool := pairVs e.args args .e .e fun rho inv => ite_ (simL rho e.h.nx e.args args) (memH rho inv e.h h) false
omit [Val] [Bet] in
theorem pairN_true {x y : AV} {rho inv : Tr Nat} {k : Tr Nat → Tr Nat → Bool} (h : pairN x y rho inv k = true) : ∃ rho inv, k rho inv = true := by
  unfold pairN at h
  split at h
  · have key : ∀ {t : Tr Nat} {n v : Nat} {k : Tr Nat → Bool}, setK false 15 t n v k = true → ∃ t', k t' = true := by
      intro t n v k h
      have : setK (β := Option Unit) none 15 t n v (fun t => ite_ (k t) (some ()) none) = some () := by
        have gen : ∀ (d : Nat) (t : Tr Nat) (n : Nat) (k : Tr Nat → Bool), setK false d t n v k = true → ∀ k' : Tr Nat → Option Unit, (∀ t, k t = true → k' t = some ()) → setK none d t n v k' = some () := by
          intro d
          induction d with
          | zero =>
            intro t n k h k' hk
            cases t with
            | e =>
              have h : ite_ (Nat.beq n 0) (k (.l v)) false = true := h
              obtain ⟨h1, h2⟩ := ite_and h
              show ite_ (Nat.beq n 0) (k' (.l v)) none = some ()
              rw [h1]
              exact hk _ h2
            | l u =>
              have h : ite_ (Nat.beq n 0) (k (.l v)) false = true := h
              obtain ⟨h1, h2⟩ := ite_and h
              show ite_ (Nat.beq n 0) (k' (.l v)) none = some ()
              rw [h1]
              exact hk _ h2
            | n a b => cases h
          | succ d ih =>
            intro t n k h k' hk
            cases t with
            | l u => cases h
            | e =>
              have h : ite_ (Nat.beq (Nat.mod n 2) 0) (setK false d .e (Nat.div n 2) v fun a' => k (.n a' .e)) (setK false d .e (Nat.div n 2) v fun b' => k (.n .e b')) = true := h
              show ite_ (Nat.beq (Nat.mod n 2) 0) (setK none d .e (Nat.div n 2) v fun a' => k' (.n a' .e)) (setK none d .e (Nat.div n 2) v fun b' => k' (.n .e b')) = some ()
              cases hb : Nat.beq (Nat.mod n 2) 0 with
              | true => rw [hb] at h; exact ih _ _ _ h _ fun t ht => hk _ ht
              | false => rw [hb] at h; exact ih _ _ _ h _ fun t ht => hk _ ht
            | n a b =>
              have h : ite_ (Nat.beq (Nat.mod n 2) 0) (setK false d a (Nat.div n 2) v fun a' => k (.n a' b)) (setK false d b (Nat.div n 2) v fun b' => k (.n a b')) = true := h
              show ite_ (Nat.beq (Nat.mod n 2) 0) (setK none d a (Nat.div n 2) v fun a' => k' (.n a' b)) (setK none d b (Nat.div n 2) v fun b' => k' (.n a b')) = some ()
              cases hb : Nat.beq (Nat.mod n 2) 0 with
              | true => rw [hb] at h; exact ih _ _ _ h _ fun t ht => hk _ ht
              | false => rw [hb] at h; exact ih _ _ _ h _ fun t ht => hk _ ht
        exact gen 15 t n k h _ fun t ht => by rw [ht]; rfl
      obtain ⟨t', _, h2⟩ := setK_some _ this
      refine ⟨t', ?_⟩
      cases hk : k t' with
      | true => rfl
      | false => rw [hk] at h2; cases h2
    obtain ⟨rho', h1⟩ := key h
    obtain ⟨inv', h2⟩ := key h1
    exact ⟨rho', inv', h2⟩
  · exact ⟨_, _, h⟩
omit [Val] [Bet] in
theorem pairNs_true (xs : List AV) : ∀ {ys : List AV} {rho inv : Tr Nat} {k : Tr Nat → Tr Nat → Bool}, pairNs xs ys rho inv k = true → ∃ rho inv, k rho inv = true := by
  induction xs with
  | nil => intro ys rho inv k h; exact ⟨_, _, h⟩
  | cons x xs ih =>
    intro ys rho inv k h
    cases ys with
    | nil => cases h
    | cons y ys =>
      obtain ⟨rho', inv', h1⟩ := pairN_true (k := fun rho inv => pairNs xs ys rho inv k) h
      exact ih h1
omit [Val] [Bet] in
theorem pairVs_true (xs : List AV) : ∀ {ys : List AV} {rho inv : Tr Nat} {k : Tr Nat → Tr Nat → Bool}, pairVs xs ys rho inv k = true → ∃ rho inv, k rho inv = true := by
  induction xs with
  | nil => intro ys rho inv k h; exact ⟨_, _, h⟩
  | cons x xs ih =>
    intro ys rho inv k h
    cases ys with
    | nil => cases h
    | cons y ys =>
      have h' : pairV x y rho inv (fun rho inv => pairVs xs ys rho inv k) = true := h
      have : ∃ rho inv, pairVs xs ys rho inv k = true := by
        unfold pairV at h'
        split at h'
        · exact pairNs_true _ h'
        · exact pairN_true h'
      obtain ⟨rho', inv', h1⟩ := this
      exact ih h1
/-- What is known of an entry. -/
def MemoOK (P : Program) (e : ME) : Prop := flatR e.v = true ∧ ∃ hh, CallOK P (.func e.f) e.args e.h e.v hh ∧ subT leO e.h.t hh.t = true
theorem memo_ok {e : ME} (hm : MemoOK P e) {args : List AV} (hc : matchM e args h = true) : CallOK P (.func e.f) args h e.v h := by
  obtain ⟨hflat, hh, hok, hsub⟩ := hm
  obtain ⟨rho, inv, h1⟩ := pairVs_true _ hc
  obtain ⟨h2, h3⟩ := ite_and h1
  intro φ w us hR hx
  have key : ∀ i ao1, e.h.get i = some ao1 → ∃ j xs p, rho.get i = some j ∧ inv.get j = some i ∧ ao1 = .cells xs ∧ h.get j = some (.cells xs) ∧ (∀ v ∈ xs, flatL v = true) ∧ φ j = some p ∧ phiN rho e.h.nx φ i = some p := by
    intro i ao1 hg
    obtain ⟨q1, _⟩ := AH.of_get hg
    obtain ⟨q2, j, ao, q3, q4, q5, q6⟩ := memH_get h3 q1
    obtain ⟨xs, rfl, rfl, q7⟩ := memO_eq q6
    have q8 : h.get j = some (.cells xs) := AH.get_of q5 (by simp)
    obtain ⟨g, d, o, q9, _⟩ := hR.obj j _ q8
    refine ⟨j, xs, _, q3, q4, rfl, q8, q7, q9, ?_⟩
    unfold phiN
    rw [if_pos q2, q3]
    exact q9
  have hR0 : R (phiN rho e.h.nx φ) e.h w := by
    refine ⟨fun i ao1 hg => ?_, fun i j x y g d z hx hy hp hq => ?_, fun i p hp => ?_⟩
    · obtain ⟨j, xs, p, _, _, rfl, q1, q2, q3, q4⟩ := key i ao1 hg
      obtain ⟨g, d, o, q5, q6, c, ee, rfl, q7, q8⟩ := hR.obj j _ q1
      rw [q3] at q5
      cases q5
      refine ⟨g, d, _, q4, q6, c, ee, rfl, q7, fun k x hk => ?_⟩
      obtain ⟨v, r1, r2, r3⟩ := q8 k x hk
      exact ⟨v, r1, flatL_VR (q2 x (List.mem_of_getElem? hk)) r2, r3⟩
    · obtain ⟨i', xs, p, r1, r2, _, q1, _, q3, q4⟩ := key i x hx
      obtain ⟨j', ys, p', r3, r4, _, q1', _, q3', q4'⟩ := key j y hy
      rw [hp] at q4
      cases q4
      rw [hq] at q4'
      cases q4'
      have := hR.injN q1 q1' q3 q3' rfl
      subst this
      rw [r2] at r4
      cases r4
      exact .inl rfl
    · unfold phiN at hp
      split at hp
      · assumption
      · cases hp
  obtain ⟨c1, c2⟩ := hok _ w us hR0 (simL_VRs _ h2 hx)
  refine ⟨c1, fun n => (c2 n).mono fun en w' hb => ?_⟩
  obtain ⟨u, φ2, rfl, b1, b2, b3⟩ := hb
  replace b1 : VR φ e.v u := flatR_VR hflat b1
  -- what became of the blocks
  have hblk : ∀ j ao, h.get j = some ao → ∃ g d o, φ j = some (g, d) ∧ w'.heap[g]? = some o ∧ OR φ d ao o := by
    intro j ao hj
    obtain ⟨g, d, o, q1, q2, q3⟩ := hR.obj j ao hj
    by_cases hex : ∃ i b z, e.h.get i = some b ∧ phiN rho e.h.nx φ i = some (g, z)
    · obtain ⟨i, b, z, e1, e2⟩ := hex
      obtain ⟨j', xs, p, r1, r2, rfl, r3, r4, r5, r6⟩ := key i b e1
      rw [e2] at r6
      cases r6
      have hjj := hR.injB hj r3 q1 r5 rfl
      subst hjj
      rw [r3] at hj
      cases hj
      rw [q1] at r5
      cases r5
      obtain ⟨t1, _⟩ := AH.of_get e1
      obtain ⟨y, t2, t3⟩ := subT_get _ hsub i _ t1
      have t4 : hh.get i = some y := AH.get_of t2 (by rintro rfl; cases t3)
      obtain ⟨g', d', o', t5, t6, t7⟩ := b2.obj i y t4
      have t8 := b3.ext _ _ e2
      rw [t8] at t5
      cases t5
      obtain ⟨c, ee, rfl, t9, t10⟩ := leO_OR t3 t7
      refine ⟨g, d, _, q1, t6, c, ee, rfl, t9, fun k x hk => ?_⟩
      obtain ⟨v, v1, v2, v3⟩ := t10 k x hk
      exact ⟨v, v1, flatL_VR (r4 x (List.mem_of_getElem? hk)) v2, v3⟩
    · refine ⟨g, d, o, q1, ?_, q3⟩
      rw [b3.fr g (Array.getElem?_eq_some_iff.1 q2).1 fun i b z e1 _ e2 => hex ⟨i, b, z, e1, e2⟩]
      exact q2
  refine ⟨_, φ, rfl, b1, ⟨hblk, hR.inj, hR.dom⟩, ⟨⟨.refl _, Nat.le_refl _, b3.size, fun k hk hno => ?_, fun i x g d hi hf hp _ => ⟨i, x, d, hi, hf, hp⟩, fun _ x hi hf => ⟨x, hi, hf⟩, b3.os, b3.tape, b3.output⟩, fun _ _ => rfl⟩⟩
  refine b3.fr k hk fun i b z e1 _ e2 => ?_
  obtain ⟨j', xs, p, r1, r2, rfl, r3, r4, r5, r6⟩ := key i b e1
  rw [e2] at r6
  cases r6
  exact hno _ _ _ r3 rfl r5
def primMemo (l : List ME) (f : FuncId) (args : List AV) (h : AH) : Option (AV × AH) := List.rec none (fun e _ ih => ite_ (Nat.beq e.f f) (ite_ (matchM e args h) (some (e.v, h)) ih) ih) l
theorem primMemo_ok {l : List ME} (hl : ∀ e ∈ l, MemoOK P e) {f : FuncId} {args : List AV} {v : AV} (he : primMemo l f args h = some (v, h')) : CallOK P (.func f) args h v h' := by
  induction l with
  | nil => cases he
  | cons e l ih =>
    have he' : ite_ (Nat.beq e.f f) (ite_ (matchM e args h) (some (e.v, h)) (primMemo l f args h)) (primMemo l f args h) = some (v, h') := he
    have ih' := ih fun e' h' => hl e' (List.mem_cons_of_mem _ h')
    cases hb : Nat.beq e.f f with
    | false => rw [hb] at he'; exact ih' he'
    | true =>
      rw [hb, ite_true_] at he'
      cases hm : matchM e args h with
      | false => rw [hm] at he'; exact ih' he'
      | true =>
        rw [hm, ite_true_] at he'
        cases he'
        rw [← beq_true' hb]
        exact memo_ok (hl e List.mem_cons_self) hm
end
end Go.Proofs.YtibmpjhffeinoaaGreat.Kx
