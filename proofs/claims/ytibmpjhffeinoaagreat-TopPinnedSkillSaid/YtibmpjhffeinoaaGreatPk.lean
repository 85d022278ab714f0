/-
  Calls over frozen blocks that come to rows of numbers, or to 0.
-/
import Derived.Test.YtibmpjhffeinoaaGreatR
namespace Go.Proofs.YtibmpjhffeinoaaGreat.Kx
open Go Go.RowKit

noncomputable section
section
variable [Val] [Bet] {φ : Phi} {w : World}
/-- A row that a run has made: its cells are these. -/
def rowK (t : Tr AO) (x : AV) (ys : List AV) : Bool := match x with
  | .sl (some (i, 0)) m (.k c) => ite_ (Nat.beq m ys.length) (ite_ (Nat.ble m c) (ite_ (allB i64A ys) (getK false t i fun ao => match ao with
    | .cells cs => eqFs cs ys
    | _ => false) false) false) false
  | _ => false
def rowsK (t : Tr AO) : List AV → List (List AV) → Bool
  | [], [] => true
  | x :: xs, y :: ys => rowK t x y && rowsK t xs ys
  | _, _ => false
/-- What a run has to end with. -/
def backB (q : Option Res) (nn : Nat) (css : List (List AV)) : Bool := match q with
  | some (.val (.tup [.sl (some (i, 0)) m (.k c), .int .i64 0]) hh) => ite_ (Nat.beq m nn) (ite_ (Nat.beq c nn) (getK false hh.t i fun ao => match ao with
    | .cells cs => rowsK hh.t cs css
    | _ => false) false) false
  | _ => false
omit [Val] [Bet] in
theorem rowsK_get {t : Tr AO} : ∀ {xs : List AV} {css : List (List AV)}, rowsK t xs css = true → ∀ (r : Nat) ys, css[r]? = some ys → ∃ x, xs[r]? = some x ∧ rowK t x ys = true
  | [], [], _, r, ys, h => by simp at h
  | x :: xs, y :: css, hk, r, ys, h => by
    have hk : (rowK t x y && rowsK t xs css) = true := hk
    rw [Bool.and_eq_true] at hk
    cases r with
    | zero => simp at h; subst h; exact ⟨x, rfl, hk.1⟩
    | succ r =>
      obtain ⟨z, h1, h2⟩ := rowsK_get hk.2 r ys (by simpa using h)
      exact ⟨z, by simpa using h1, h2⟩
  | [], _ :: _, hk, _, _, _ => by cases hk
  | _ :: _, [], hk, _, _, _ => by cases hk
omit [Val] [Bet] in
theorem rowK_get {h : AH} {x : AV} {ys : List AV} (hk : rowK h.t x ys = true) : ∃ i c, x = .sl (some (i, 0)) ys.length (.k c) ∧ ys.length ≤ c ∧ (∀ y ∈ ys, i64A y = true) ∧ h.get i = some (.cells ys) := by
  unfold rowK at hk
  split at hk
  · rename_i i m c
    obtain ⟨h1, h2⟩ := ite_and hk
    obtain ⟨h3, h4⟩ := ite_and h2
    obtain ⟨h5, h6⟩ := ite_and h4
    obtain rfl := beq_true' h1
    refine ⟨i, c, rfl, Nat.le_of_ble_eq_true h3, allB_true h5, ?_⟩
    rw [getK_eq] at h6
    cases hg : h.t.get i with
    | none => rw [hg] at h6; cases h6
    | some ao =>
      rw [hg] at h6
      cases ao <;> try (cases h6; done)
      rw [← eqFs_true _ h6]
      exact AH.get_of hg (by simp)
  · cases hk
theorem back_call {orc : List (Nat × AV × AV × AV)} {n f nn : Nat} {args2 : List AV} {css : List (List AV)} {hb2 : AH} {us : List Value} (ho : OrcOK orc) (he : backB (run (exeO orc [] []) n (.call (.func f) args2 hb2)) nn css = true) (hR : R φ hb2 w) (hz : ∀ i a, hb2.get i = some a → a.isF = true) (hx : VRs φ args2 us) (k : Nat) :
    CallsIn (Fro none) k Tryz.prog f us.toArray w (fun e w' => ∃ (g : Nat) (d : Nat × Nat) (cs' : Array Value) (ee : TypeId), e = .returned (.tuple #[.slice (some ⟨g, d.1, none⟩) nn nn, .int .i64 0]) ∧ w'.heap[g]? = some (.cells cs' ee (0, 0)) ∧
      (∀ r ys, css[r]? = some ys → ∃ (g' : Nat) (d' : Nat × Nat) (c : Nat) (cr : Array Value) (er : TypeId), cs'[d.1 + r]? = some (.slice (some ⟨g', d'.1, none⟩) ys.length c) ∧ ys.length ≤ c ∧ w'.heap[g']? = some (.cells cr er (0, 0)) ∧ ∀ j x, ys[j]? = some x → ∃ v, cr[d'.1 + j]? = some v ∧ VR φ x v) ∧ Below w.heap.size w w') := by
  unfold backB at he
  split at he
  · rename_i i m c hh hq
    obtain ⟨h3, h4⟩ := ite_and he
    obtain ⟨h5, h8⟩ := ite_and h4
    obtain rfl := beq_true' h3
    obtain rfl := beq_true' h5
    obtain ⟨cs, hcs, hrk⟩ : ∃ cs, hh.get i = some (.cells cs) ∧ rowsK hh.t cs css = true := by
      rw [getK_eq] at h8
      cases hg : hh.t.get i with
      | none => rw [hg] at h8; cases h8
      | some ao =>
        rw [hg] at h8
        cases ao <;> try (cases h8; done)
        exact ⟨_, AH.get_of hg (by simp), h8⟩
    obtain ⟨c1, c2⟩ := exeO_sound ho (l := []) (ms := []) (fun f hf => by cases hf) (fun e he => by cases he) n _ _ hq φ w us hR hx
    refine (c2 k).mono fun e w' hb => ?_
    obtain ⟨u, φ', rfl, b1, b2, b3⟩ := hb
    obtain ⟨g, d, o, k1, k2, cc, ee, rfl, k3, k4⟩ := b2.obj _ _ hcs
    refine ⟨g, d, cc, ee, ?_, k2, fun r ys hr => ?_, StF.below ⟨_, _, hz, b3⟩⟩
    · cases b1 with
      | tup _ us' hvs =>
        have : us' = us'.toList.toArray := by simp
        rw [this]
        generalize us'.toList = vs at hvs
        cases hvs with
        | cons _ v0 _ vs h9 h10 =>
          cases h10 with
          | cons _ v1 _ vs h11 h12 =>
            cases h12
            cases h11
            cases h9 with
            | sl _ _ g' d' _ _ hp =>
              rw [k1] at hp
              cases hp
              rfl
    · obtain ⟨x, q1, q2⟩ := rowsK_get hrk r ys hr
      obtain ⟨i', c', rfl, q3, q4, q5⟩ := rowK_get q2
      obtain ⟨v, q6, q7, _⟩ := k4 r _ q1
      obtain ⟨g', d', o', m1, m2, cr, er, rfl, m3, m4⟩ := b2.obj _ _ q5
      cases q7 with
      | sl _ _ g2 d2 _ _ hp =>
        rw [m1] at hp
        cases hp
        refine ⟨g', d', c', cr, er, q6, q3, m2, fun j x hj => ?_⟩
        obtain ⟨v, n1, n2, _⟩ := m4 j x hj
        exact ⟨v, n1, flatL_VR (flat_i64 (q4 x (List.mem_of_getElem? hj))) n2⟩
  · cases he
def isZ (x : AV) : Bool := match x with
  | .int .i64 0 => true
  | _ => false
theorem zero_call {orc : List (Nat × AV × AV × AV)} {n f : Nat} {args2 : List AV} {hb2 : AH} {us : List Value} (ho : OrcOK orc) (he : isVal (run (exeO orc [] []) n (.call (.func f) args2 hb2)) isZ = true) (hR : R φ hb2 w) (hz : ∀ i a, hb2.get i = some a → a.isF = true) (hx : VRs φ args2 us) (k : Nat) :
    CallsIn (Fro none) k Tryz.prog f us.toArray w (fun e w' => e = .returned (.int .i64 0) ∧ Below w.heap.size w w') := by
  cases hq : run (exeO orc [] []) n (.call (.func f) args2 hb2) with
  | none => rw [hq] at he; cases he
  | some r =>
    cases r with
    | code => rw [hq] at he; cases he
    | val v h1 =>
      rw [hq] at he
      obtain ⟨_, h2⟩ := exeO_sound ho (l := []) (ms := []) (fun f hf => by cases hf) (fun e he => by cases he) n _ _ hq φ w us hR hx
      refine (h2 k).mono fun e w' hb => ?_
      obtain ⟨u, φ', rfl, b1, b2, b3⟩ := hb
      have he : isZ v = true := he
      unfold isZ at he
      split at he
      · cases b1
        exact ⟨rfl, StF.below ⟨_, _, hz, b3⟩⟩
      · cases he
end
/-! ### Rows of numbers, told by forms -/
section
variable [Val] [Bet] {φ : Phi} {w : World}
def okR (B : List (Int × Int)) (l : List Fo) : Bool := List.rec true (fun x _ ih => ite_ (x.ok B) ih false) l
def okF (B : List (Int × Int)) (l : List (List Fo)) : Bool := List.rec true (fun x _ ih => ite_ (okR B x) ih false) l
def avR (B : List (Int × Int)) (l : List Fo) : List AV := List.rec [] (fun x _ ih => x.av B :: ih) l
def avF (B : List (Int × Int)) (l : List (List Fo)) : List (List AV) := List.rec [] (fun x _ ih => avR B x :: ih) l
def ValK (b : Nat → Int) : Nat → List Fo → Prop
  | _, [] => True
  | k, x :: xs => x.v = b k ∧ ValK b (k + 1) xs
def ValR (b : Nat → Nat → Int) : Nat → List (List Fo) → Prop
  | _, [] => True
  | r, x :: xs => x.length = r + 1 ∧ ValK (b r) 0 x ∧ ValR b (r + 1) xs
omit [Bet] in
theorem avR_get {B : List (Int × Int)} {b : Nat → Int} : ∀ {l : List Fo} {i k : Nat}, okR B l = true → ValK b i l → k < l.length → ∃ x, (avR B l)[k]? = some x ∧ i64A x = true ∧ numA x = b (i + k)
  | [], i, k, _, _, h => absurd h (Nat.not_lt_zero k)
  | x :: l, i, k, h1, h2, h => by
    have h1' : ite_ (x.ok B) (okR B l) false = true := h1
    obtain ⟨h3, h4⟩ := ite_and h1'
    cases k with
    | zero => exact ⟨x.av B, rfl, Fo.i64 x, (Fo.num h3).trans h2.1⟩
    | succ k =>
      obtain ⟨y, e1, e2, e3⟩ := avR_get (k := k) h4 h2.2 (by simpa using h)
      exact ⟨y, e1, e2, by rw [e3]; congr 1; omega⟩
omit [Val] [Bet] in
theorem avR_len {B : List (Int × Int)} (l : List Fo) : (avR B l).length = l.length := by
  induction l with
  | nil => rfl
  | cons x l ih =>
    show (avR B l).length + 1 = _
    rw [ih]
    rfl
omit [Bet] in
theorem avF_get {B : List (Int × Int)} {b : Nat → Nat → Int} : ∀ {l : List (List Fo)} {i r : Nat}, okF B l = true → ValR b i l → r < l.length → ∃ x, (avF B l)[r]? = some (avR B x) ∧ okR B x = true ∧ x.length = i + r + 1 ∧ ValK (b (i + r)) 0 x
  | [], i, r, _, _, h => absurd h (Nat.not_lt_zero r)
  | x :: l, i, r, h1, h2, h => by
    have h1' : ite_ (okR B x) (okF B l) false = true := h1
    obtain ⟨h3, h4⟩ := ite_and h1'
    cases r with
    | zero => exact ⟨x, rfl, h3, h2.1, h2.2.1⟩
    | succ r =>
      obtain ⟨y, e1, e2, e3, e4⟩ := avF_get (r := r) h4 h2.2.2 (by simpa using h)
      exact ⟨y, e1, e2, by omega, by rw [show i + (r + 1) = i + 1 + r from by omega]; exact e4⟩
/-- A list of numbers in memory. -/
def bRow (w' : World) (A2 : Option Addr) (n : Nat) (b : Nat → Int) : Prop := ∃ (g o : Nat) (cr : Array Value) (er : TypeId), A2 = some ⟨g, o, none⟩ ∧ w'.heap[g]? = some (.cells cr er (0, 0)) ∧ ∀ k, k < n → cr[o + k]? = some (.int .i64 (b k))
/-- Rows of them. -/
def bRows (w' : World) (A2 : Option Addr) (n : Nat) (b : Nat → Nat → Int) : Prop := ∃ (g o : Nat) (cs' : Array Value) (ee : TypeId), A2 = some ⟨g, o, none⟩ ∧ w'.heap[g]? = some (.cells cs' ee (0, 0)) ∧ ∀ r, r < n → ∃ (A' : Option Addr) (c : Nat), cs'[o + r]? = some (.slice A' (r + 1) c) ∧ r + 1 ≤ c ∧ bRow w' A' (r + 1) (b r)
theorem back_rows {orc : List (Nat × AV × AV × AV)} {n f nn : Nat} {args2 : List AV} {fss : List (List Fo)} {B : List (Int × Int)} {b : Nat → Nat → Int} {hb2 : AH} {us : List Value} (ho : OrcOK orc) (he : backB (run (exeO orc [] []) n (.call (.func f) args2 hb2)) nn (avF B fss) = true) (hl : fss.length = nn) (hok : okF B fss = true) (hv : ValR b 0 fss) (hR : R φ hb2 w) (hz : ∀ i a, hb2.get i = some a → a.isF = true) (hx : VRs φ args2 us) (k : Nat) :
    CallsIn (Fro none) k Tryz.prog f us.toArray w (fun e w' => ∃ A2, e = .returned (.tuple #[.slice A2 nn nn, .int .i64 0]) ∧ bRows w' A2 nn b ∧ Below w.heap.size w w') := by
  refine (back_call ho he hR hz hx k).mono fun e w' hb => ?_
  obtain ⟨g, d, cs', ee, rfl, h1, h2, h3⟩ := hb
  refine ⟨_, rfl, ⟨g, d.1, cs', ee, rfl, h1, fun r hr => ?_⟩, h3⟩
  obtain ⟨x, e1, e2, e3, e4⟩ := avF_get (r := r) hok hv (by omega)
  rw [Nat.zero_add] at e3 e4
  obtain ⟨g', d', c, cr, er, q1, q2, q3, q4⟩ := h2 r _ e1
  rw [avR_len, e3] at q1 q2
  refine ⟨_, c, q1, q2, g', d'.1, cr, er, rfl, q3, fun k hk => ?_⟩
  obtain ⟨z, m1, m2, m3⟩ := avR_get (k := k) e2 e4 (by omega)
  rw [Nat.zero_add] at m3
  obtain ⟨v, n1, n2⟩ := q4 k z m1
  rw [n1, numA_val m2 n2, m3]
theorem ways_row {orc : List (Nat × AV × AV × AV)} {n f nn : Nat} {args2 : List AV} {fs : List Fo} {B : List (Int × Int)} {b : Nat → Int} {hb2 : AH} {us : List Value} (ho : OrcOK orc) (he : waysB (run (exeO orc [] []) n (.call (.func f) args2 hb2)) nn (avR B fs) = true) (hl : fs.length = nn) (hok : okR B fs = true) (hv : ValK b 0 fs) (hR : R φ hb2 w) (hz : ∀ i a, hb2.get i = some a → a.isF = true) (hx : VRs φ args2 us) (k : Nat) :
    CallsIn (Fro none) k Tryz.prog f us.toArray w (fun e w' => ∃ A2, e = .returned (.tuple #[.slice A2 nn nn, .int .i64 0]) ∧ bRow w' A2 nn b ∧ Below w.heap.size w w') := by
  refine ((ways_call ho he hR hz hx).2 k).mono fun e w' hb => ?_
  obtain ⟨g, d, cs', ee, rfl, _, h1, _, h2, h3⟩ := hb
  refine ⟨_, rfl, ⟨g, d.1, cs', ee, rfl, h1, fun k hk => ?_⟩, h3⟩
  obtain ⟨z, m1, m2, m3⟩ := avR_get (k := k) hok hv (by omega)
  rw [Nat.zero_add] at m3
  obtain ⟨v, n1, n2, _⟩ := h2 k z m1
  rw [n1, numA_val m2 n2, m3]
end
end
end Go.Proofs.YtibmpjhffeinoaaGreat.Kx
