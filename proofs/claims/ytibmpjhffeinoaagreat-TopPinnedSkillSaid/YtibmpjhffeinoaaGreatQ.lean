/-
  Boards of n rows as frozen blocks; forms that are read off; how many falls come to each pin, in plain numbers.
-/
import Derived.Test.YtibmpjhffeinoaaGreatP
import Derived.Test.YtibmpjhffeinoaaGreatBo
namespace Go.Proofs.YtibmpjhffeinoaaGreat.Kx
open Go Go.RowKit

/-! ### How many falls come to each pin -/
section
def mx1 (x : Int) : Int := if 0 < x then x else 0
def rt1 (m : Int) : Int := if m < 10 then m else 10
theorem mx1_b {x : Int} (h : x ≤ 15) : 0 ≤ mx1 x ∧ mx1 x ≤ 15 := by unfold mx1; split <;> omega
theorem rt1_b (x : Int) : 0 ≤ rt1 (mx1 x) ∧ rt1 (mx1 x) ≤ 10 := by unfold rt1 mx1; split <;> (try split) <;> omega
theorem rt1_le {x y : Int} (h : x ≤ y) : rt1 (mx1 x) ≤ rt1 (mx1 y) := by
  unfold rt1 mx1
  split <;> split <;> split <;> (try split) <;> omega
variable (p : Nat → Nat → Int) (l : Int)
def Rq (r k : Nat) : Int := rt1 (mx1 (p r k + l))
def Nf : Nat → Nat → Int
  | 0, 0 => 1
  | 0, _ + 1 => 0
  | r + 1, 0 => Nf r 0 * (10 - Rq p l r 0)
  | r + 1, k + 1 => Nf r k * Rq p l r k + Nf r (k + 1) * (10 - Rq p l r (k + 1))
theorem Rq_b (r k : Nat) : 0 ≤ Rq p l r k ∧ Rq p l r k ≤ 10 := rt1_b _
theorem Nf_pos (r : Nat) : ∀ k, 0 ≤ Nf p l r k := by
  induction r with
  | zero => intro k; cases k <;> simp [Nf]
  | succ r ih =>
    intro k
    cases k with
    | zero =>
      have := Rq_b p l r 0
      exact Int.mul_nonneg (ih 0) (by omega)
    | succ k =>
      have h1 := Rq_b p l r k
      have h2 := Rq_b p l r (k + 1)
      exact Int.add_nonneg (Int.mul_nonneg (ih k) h1.1) (Int.mul_nonneg (ih (k + 1)) (by omega))
theorem Nf_zero (r : Nat) : ∀ k, r < k → Nf p l r k = 0 := by
  induction r with
  | zero => intro k h; cases k with
    | zero => omega
    | succ k => rfl
  | succ r ih =>
    intro k h
    cases k with
    | zero => omega
    | succ k =>
      show Nf p l r k * Rq p l r k + Nf p l r (k + 1) * (10 - Rq p l r (k + 1)) = 0
      rw [ih k (by omega), ih (k + 1) (by omega), Int.zero_mul, Int.zero_mul]
      rfl
def sumN (r : Nat) : Nat → Int
  | 0 => 0
  | m + 1 => sumN r m + Nf p l r m
theorem sumN_succ (r m : Nat) : sumN p l (r + 1) (m + 1) = 10 * sumN p l r m + Nf p l r m * (10 - Rq p l r m) := by
  induction m with
  | zero =>
    show 0 + Nf p l r 0 * (10 - Rq p l r 0) = 10 * 0 + Nf p l r 0 * (10 - Rq p l r 0)
    omega
  | succ m ih =>
    show sumN p l (r + 1) (m + 1) + (Nf p l r m * Rq p l r m + Nf p l r (m + 1) * (10 - Rq p l r (m + 1))) = 10 * (sumN p l r m + Nf p l r m) + Nf p l r (m + 1) * (10 - Rq p l r (m + 1))
    rw [ih, Int.mul_sub (Nf p l r m)]
    generalize Nf p l r m * Rq p l r m = A
    generalize Nf p l r (m + 1) * (10 - Rq p l r (m + 1)) = C
    omega
theorem sumN_all (r : Nat) : sumN p l r (r + 1) = (10 : Int) ^ r := by
  induction r with
  | zero => rfl
  | succ r ih =>
    rw [sumN_succ, ih, Nf_zero p l r (r + 1) (by omega), Int.zero_mul, Int.pow_succ]
    omega
theorem Nf_le_sum (r k m : Nat) (h : k < m) : Nf p l r k ≤ sumN p l r m := by
  have hs : ∀ m, 0 ≤ sumN p l r m := fun m => by
    induction m with
    | zero => exact Int.le_refl _
    | succ m ih => exact Int.add_nonneg ih (Nf_pos p l r m)
  induction m with
  | zero => omega
  | succ m ih =>
    show Nf p l r k ≤ sumN p l r m + Nf p l r m
    by_cases hk : k = m
    · subst hk
      have := hs k
      omega
    · have := ih (by omega)
      have := Nf_pos p l r m
      omega
theorem Nf_b (r k : Nat) : 0 ≤ Nf p l r k ∧ Nf p l r k ≤ (10 : Int) ^ r := by
  refine ⟨Nf_pos p l r k, ?_⟩
  by_cases h : k < r + 1
  · rw [← sumN_all p l r]
    exact Nf_le_sum p l r k (r + 1) h
  · rw [Nf_zero p l r k (by omega)]
    exact Int.pow_nonneg (by omega)
theorem Nf_diag (r : Nat) : Nf p l r r * Rq p l r r = Nf p l (r + 1) (r + 1) := by
  show _ = Nf p l r r * Rq p l r r + Nf p l r (r + 1) * (10 - Rq p l r (r + 1))
  rw [Nf_zero p l r (r + 1) (by omega), Int.zero_mul, Int.add_zero]
theorem Nf_first (r : Nat) : Nf p l r 0 * (10 - Rq p l r 0) = Nf p l (r + 1) 0 := rfl
theorem Nf_left (r k : Nat) : Nf p l r k * (10 - Rq p l r k) = 10 * Nf p l r k - Nf p l r k * Rq p l r k := by rw [Int.mul_sub]; omega
theorem Nf_leftD (r : Nat) : Nf p l r r * (10 - Rq p l r r) = 10 * Nf p l r r - Nf p l (r + 1) (r + 1) := by rw [Nf_left, Nf_diag]
theorem Nf_join (r k : Nat) : Nf p l r k * Rq p l r k + (10 * Nf p l r (k + 1) - Nf p l r (k + 1) * Rq p l r (k + 1)) = Nf p l (r + 1) (k + 1) := by
  rw [← Nf_left]
  rfl
theorem Nf_joinD (r k : Nat) (h : k + 1 = r) : Nf p l r k * Rq p l r k + (10 * Nf p l r (k + 1) - Nf p l (r + 1) (k + 2)) = Nf p l (r + 1) (k + 1) := by
  subst h
  rw [← Nf_leftD]
  rfl
theorem G_b (r k : Nat) : 0 ≤ Nf p l r k * Rq p l r k ∧ Nf p l r k * Rq p l r k ≤ (10 : Int) ^ (r + 1) := by
  have h1 := Nf_b p l r k
  have h2 := Rq_b p l r k
  refine ⟨Int.mul_nonneg h1.1 h2.1, ?_⟩
  rw [Int.pow_succ]
  exact Int.mul_le_mul h1.2 h2.2 h2.1 (Int.pow_nonneg (by omega))
theorem Nf_mono {l l' : Int} (h : l ≤ l') (r : Nat) : Nf p l r r ≤ Nf p l' r r := by
  induction r with
  | zero => exact Int.le_refl _
  | succ r ih =>
    rw [← Nf_diag, ← Nf_diag]
    exact Int.mul_le_mul ih (rt1_le (by omega)) (Rq_b p l r r).1 (Nf_pos p l' r r)
end

noncomputable section
/-! ### Forms that are read off -/
def nth : List Int → Nat → Int
  | [], _ => 0
  | x :: _, 0 => x
  | _ :: xs, i + 1 => nth xs i
def AllB : List (Int × Int) → List Int → Prop
  | [], [] => True
  | b :: bs, x :: xs => (b.1 ≤ x ∧ x ≤ b.2) ∧ AllB bs xs
  | _, _ => False
def preB : List (Int × Int × Int) → List (Int × Int) → Bool
  | [], _ => true
  | t :: ts, b :: bs => decide (t.2.1 = b.1) && (decide (t.2.2 = b.2) && preB ts bs)
  | _ :: _, [] => false
section
variable [Val]
theorem bnd_go : ∀ (ts : List (Int × Int × Int)) (B : List (Int × Int)) (xs : List Int) (i : Nat), preB ts B = true → AllB B xs → (∀ j, j < xs.length → Val.rho (i + j) = nth xs j) → linB ts i
  | [], _, _, _, _, _, _ => trivial
  | t :: ts, [], _, _, h, _, _ => by cases h
  | t :: ts, b :: bs, [], _, _, h, _ => h.elim
  | t :: ts, b :: bs, x :: xs, i, h1, h2, h3 => by
    simp only [preB, Bool.and_eq_true, decide_eq_true_eq] at h1
    obtain ⟨e1, e2, e3⟩ := h1
    have h0 := h3 0 (by simp)
    have h0 : Val.rho i = x := h0
    refine ⟨?_, bnd_go ts bs xs (i + 1) e3 h2.2 fun j hj => ?_⟩
    · rw [e1, e2, h0]
      exact h2.1
    · have := h3 (j + 1) (by simp; omega)
      rw [show i + 1 + j = i + (j + 1) from by omega]
      exact this
def spars : List (Int × Int × Int) → Nat → List (Nat × Int)
  | [], _ => []
  | t :: ts, i => match decide (t.1 = 0) with
    | true => spars ts (i + 1)
    | false => (i, t.1) :: spars ts (i + 1)
def spS : List (Nat × Int) → Int
  | [] => 0
  | q :: l => q.2 * Val.rho q.1 + spS l
theorem linS_sp : ∀ (ts : List (Int × Int × Int)) (i : Nat), linS ts i = spS (spars ts i)
  | [], _ => rfl
  | t :: ts, i => by
    unfold linS spars
    rw [linS_sp ts (i + 1)]
    cases h : decide (t.1 = 0) with
    | true =>
      rw [of_decide_eq_true h, Int.zero_mul, Int.zero_add]
    | false => rfl
theorem numA_sp {k : IntKind} {c : Int} {ts : List (Int × Int × Int)} {l : List (Nat × Int)} (h : spars ts 0 = l) : numA (.lin k c ts) = c + spS l := by
  show c + linS ts 0 = _
  rw [linS_sp, h]
theorem numA_1 {k : IntKind} {ts : List (Int × Int × Int)} {i : Nat} (h : spars ts 0 = [(i, 1)]) : numA (.lin k 0 ts) = Val.rho i := by
  rw [numA_sp h]
  show 0 + (1 * Val.rho i + 0) = _
  omega
theorem numA_m {k : IntKind} {c : Int} {ts : List (Int × Int × Int)} {i : Nat} (h : spars ts 0 = [(i, -1)]) : numA (.lin k c ts) = c - Val.rho i := by
  rw [numA_sp h]
  show c + (-1 * Val.rho i + 0) = _
  omega
theorem numA_2 {k : IntKind} {ts : List (Int × Int × Int)} {i j : Nat} (h : spars ts 0 = [(i, 1), (j, 1)]) : numA (.lin k 0 ts) = Val.rho j + Val.rho i := by
  rw [numA_sp h]
  show 0 + (1 * Val.rho i + (1 * Val.rho j + 0)) = _
  omega
theorem numA_10 {k : IntKind} {ts : List (Int × Int × Int)} {i j : Nat} (h : spars ts 0 = [(i, 10), (j, -1)]) : numA (.lin k 0 ts) = 10 * Val.rho i - Val.rho j := by
  rw [numA_sp h]
  show 0 + (10 * Val.rho i + (-1 * Val.rho j + 0)) = _
  omega
theorem numA_01 {k : IntKind} {ts : List (Int × Int × Int)} {i j : Nat} (h : spars ts 0 = [(j, -1), (i, 10)]) : numA (.lin k 0 ts) = 10 * Val.rho i - Val.rho j := by
  rw [numA_sp h]
  show 0 + (-1 * Val.rho j + (10 * Val.rho i + 0)) = _
  omega
end
/-! ### Frozen blocks, one after another -/
def mkH : List AO → AH → Option AH
  | [], h => some h
  | a :: l, h => newHK none h a fun h' => mkH l h'
theorem mkH_get : ∀ (l : List AO) {h h' : AH}, mkH l h = some h' → h'.nx = h.nx + l.length ∧ ∀ i a, h'.get i = some a → h.get i = some a ∨ ∃ j, i = h.nx + j ∧ l[j]? = some a
  | [], h, h', he => by cases he; exact ⟨rfl, fun i a hi => .inl hi⟩
  | x :: l, h, h', he => by
    obtain ⟨h1, n1, n2, n3⟩ := newHK_some (k := fun h' => mkH l h') he
    obtain ⟨e1, e2⟩ := mkH_get l n3
    refine ⟨by rw [e1, n1, List.length_cons]; omega, fun i a hi => ?_⟩
    rcases e2 i a hi with h2 | ⟨j, h2, h3⟩
    · rcases n2 i a h2 with ⟨h3, h4⟩ | ⟨_, h3⟩
      · exact .inr ⟨0, by omega, by rw [h4]; rfl⟩
      · exact .inl h3
    · exact .inr ⟨j + 1, by omega, by simpa using h3⟩
theorem mk_get {l : List AO} {h : AH} (he : mkH l noH = some h) : h.nx = l.length ∧ ∀ i a, h.get i = some a → l[i]? = some a := by
  obtain ⟨e1, e2⟩ := mkH_get l he
  have n0 : noH.nx = 0 := rfl
  refine ⟨by rw [e1, n0]; omega, fun i a hi => ?_⟩
  rcases e2 i a hi with h1 | ⟨j, h1, h2⟩
  · exact absurd h1 (noH_get _ _)
  · rw [n0, Nat.zero_add] at h1
    rw [h1]
    exact h2
theorem R.imps {V1 V2 : Val} [Bet] {φ : Phi} {h1 h2 : AH} {w : World} (hn : h1.nx = h2.nx) (hh : ∀ i b, h2.get i = some b → ∃ xs ys, b = .froz ys ∧ h1.get i = some (.froz xs) ∧ Imps V1 V2 xs ys) (hR : @R V1 _ φ h1 w) : @R V2 _ φ h2 w := by
  refine @R.frz V2 _ φ w h2 (fun i b hi => ?_) fun i p hp => by rw [← hn]; exact @R.dom V1 _ φ h1 w hR i p hp
  obtain ⟨xs, ys, rfl, e1, e2⟩ := hh i b hi
  obtain ⟨g, d, o, e3, e4, e5⟩ := @R.obj V1 _ φ h1 w hR i _ e1
  exact ⟨rfl, by rw [← hn]; exact @R.dom V1 _ φ h1 w hR _ _ e3, g, d, o, e3, e4, or_imps e2 e5⟩
def ImpL (V1 V2 : Val) : List (List AV) → List (List AV) → Prop
  | [], [] => True
  | x :: xs, y :: ys => Imps V1 V2 x y ∧ ImpL V1 V2 xs ys
  | _, _ => False
theorem ImpL.get {V1 V2 : Val} : ∀ {xs ys : List (List AV)}, ImpL V1 V2 xs ys → ∀ (j : Nat) (y : List AV), ys[j]? = some y → ∃ x, xs[j]? = some x ∧ Imps V1 V2 x y
  | [], [], _, j, y, h => by simp at h
  | x :: xs, y :: ys, h, j, z, hz => by
    cases j with
    | zero => simp at hz; subst hz; exact ⟨x, rfl, h.1⟩
    | succ j =>
      simp at hz
      obtain ⟨u, h1, h2⟩ := ImpL.get h.2 j z hz
      exact ⟨u, by simpa using h1, h2⟩
  | [], _ :: _, h, _, _, _ => h.elim
  | _ :: _, [], h, _, _, _ => h.elim
def chkG (t : Tr AO) : List (List AV) → Nat → Bool
  | [], _ => true
  | xs :: l, i => getK false t i fun ao => match ao with
    | .froz cs => eqVs xs cs && chkG t l (i + 1)
    | _ => false
theorem chkG_get {h : AH} : ∀ (l : List (List AV)) (i : Nat), chkG h.t l i = true → ∀ j xs, l[j]? = some xs → h.get (i + j) = some (.froz xs)
  | [], _, _, j, xs, hj => by simp at hj
  | x :: l, i, hc, j, xs, hj => by
    unfold chkG at hc
    rw [getK_eq] at hc
    cases hg : h.t.get i with
    | none => rw [hg] at hc; cases hc
    | some ao =>
      rw [hg] at hc
      cases ao <;> try (cases hc; done)
      rename_i cs
      have hc : (eqVs x cs && chkG h.t l (i + 1)) = true := hc
      rw [Bool.and_eq_true] at hc
      cases j with
      | zero =>
        simp at hj
        subst hj
        rw [eqVs_true _ hc.1]
        exact AH.get_of hg (by simp)
      | succ j =>
        simp at hj
        have := chkG_get l (i + 1) hc.2 j xs hj
        rw [show i + (j + 1) = i + 1 + j from by omega]
        exact this
/-- A known call, from a run with numbers of its own. -/
theorem wok_of {V1 V2 : Val} [Bet] {e : WP} {orc : List (Nat × AV × AV × AV)} {n : Nat} {args2 cs2 : List AV} {hb2 : AH} {l1 l2 : List (List AV)} (ho : @OrcOK V2 orc) (he : waysB (run (exeO orc [] []) n (.call (.func e.f) args2 hb2)) e.nn cs2 = true) (hn : e.hb.nx = hb2.nx) (h1 : chkG e.hb.t l1 0 = true) (h2 : mkH (l2.map AO.froz) noH = some hb2) (hl : ImpL V1 V2 l1 l2)
    (ha : Imps V1 V2 e.args args2) (hc : Imps V2 V1 cs2 e.cs) (hf : allB flatL e.cs = true) (hr : allB (refB e.hb.nx) e.args = true) (hm : mkH (l1.map AO.froz) noH = some e.hb) (hrl : l1.all (fun xs => allB (refF e.hb.nx) xs) = true) : @WOK V1 _ Tryz.prog e := by
  refine ⟨allB_true hf, allB_true hr, fun i a hi => ?_, fun φ w us hR hx => ?_⟩
  · obtain ⟨n1, n2⟩ := mk_get hm
    have hb := n2 i a hi
    have hlt := (List.getElem?_eq_some_iff.1 hb).1
    rw [List.getElem?_map] at hb
    cases hy : l1[i]? with
    | none => rw [hy] at hb; cases hb
    | some ys =>
      rw [hy] at hb
      simp at hb
      refine ⟨by omega, by rw [← hb]; rfl, fun cs hcs x hx => ?_⟩
      rw [← hb] at hcs
      cases hcs
      exact allB_true (List.all_eq_true.1 hrl ys (List.mem_of_getElem? hy)) x hx
  obtain ⟨hnx, hget⟩ := mk_get h2
  have hR2 : @R V2 _ φ hb2 w := R.imps hn (fun i b hi => by
    have hb := hget i b hi
    rw [List.getElem?_map] at hb
    cases hy : l2[i]? with
    | none => rw [hy] at hb; cases hb
    | some ys =>
      rw [hy] at hb
      obtain ⟨xs, e1, e2⟩ := hl.get i ys hy
      have := chkG_get l1 0 h1 i xs e1
      rw [Nat.zero_add] at this
      exact ⟨xs, ys, by simpa using hb.symm, this, e2⟩) hR
  have hz : ∀ i a, hb2.get i = some a → a.isF = true := fun i a hi => by
    have hb := hget i a hi
    rw [List.getElem?_map] at hb
    cases hy : l2[i]? with
    | none => rw [hy] at hb; cases hb
    | some ys =>
      rw [hy] at hb
      simp at hb
      rw [← hb]
      rfl
  obtain ⟨c1, c2⟩ := @ways_call V2 _ _ _ _ _ _ _ _ _ _ _ ho he hR2 hz (Imps.vrs ha hx)
  refine ⟨c1, fun m => (c2 m).mono fun en w' hb => ?_⟩
  obtain ⟨g, d, cs', ee, q1, q2, q3, q4, q5, q6⟩ := hb
  refine ⟨g, d, cs', ee, q1, q2, q3, q4, fun j x hj => ?_, q6⟩
  obtain ⟨x2, e1, e2⟩ := hc.get j x hj
  obtain ⟨v, e3, e4, e5⟩ := q5 j x2 e1
  exact ⟨v, e3, e2 _ _ e4, e5⟩
/-- What is to be shown of an oracle. -/
def AllO [Val] : List (Nat × AV × AV × AV) → Prop
  | [] => True
  | e :: l => OrcOne e ∧ AllO l
theorem AllO.ok [Val] {l : List (Nat × AV × AV × AV)} (h : AllO l) : OrcOK l := orcOK_of (by
  induction l with
  | nil => intro e he; cases he
  | cons x l ih =>
    intro e he
    cases he with
    | head => exact h.1
    | tail _ he => exact ih h.2 e he)
theorem lo_of {u b : Int} (h : 0 ≤ u ∧ u ≤ b) : -9223372036854775808 ≤ u := by omega
theorem hi_of {u b : Int} (h : 0 ≤ u ∧ u ≤ b) (hb : b ≤ 9223372036854775807) : u ≤ 9223372036854775807 := by omega
theorem L_b (p : Nat → Nat → Int) (l : Int) (r k : Nat) : 0 ≤ 10 * Nf p l r k - Nf p l r k * Rq p l r k ∧ 10 * Nf p l r k - Nf p l r k * Rq p l r k ≤ (10 : Int) ^ (r + 1) := by
  have h1 := Nf_b p l r k
  have h2 := Rq_b p l r k
  have h3 := G_b p l r k
  have h4 : 0 ≤ Nf p l r k * (10 - Rq p l r k) := Int.mul_nonneg h1.1 (by omega)
  rw [Nf_left] at h4
  rw [Int.pow_succ] at h3 ⊢
  omega
theorem LD_b (p : Nat → Nat → Int) (l : Int) (r : Nat) : 0 ≤ 10 * Nf p l r r - Nf p l (r + 1) (r + 1) ∧ 10 * Nf p l r r - Nf p l (r + 1) (r + 1) ≤ (10 : Int) ^ (r + 1) := by
  rw [← Nf_diag]
  exact L_b p l r r
/-- One number, and the same one. -/
theorem Imp.v {V1 V2 : Val} {ts us : List (Int × Int × Int)} {i j : Nat} (h1 : spars ts 0 = [(i, 1)]) (h2 : spars us 0 = [(j, 1)]) (hb : @linB V2 us 0) (e : @Val.rho V1 i = @Val.rho V2 j) : Imp V1 V2 (.lin .i64 0 ts) (.lin .i64 0 us) :=
  Imp.num rfl rfl hb (by rw [@numA_1 V1 _ _ _ h1, @numA_1 V2 _ _ _ h2, e])
theorem Imp.v5 {V1 V2 : Val} {ts us : List (Int × Int × Int)} {i j : Nat} (h1 : spars ts 0 = [(i, 1)]) (h2 : spars us 0 = [(j, 1)]) (hb : @linB V2 us 0) (e : @Val.rho V1 i - 5 = @Val.rho V2 j) : Imp V1 V2 (.lin .i64 (-5) ts) (.lin .i64 0 us) :=
  Imp.num rfl rfl hb (by
    rw [@numA_sp V1 _ _ _ _ h1, @numA_1 V2 _ _ _ h2, ← e]
    show -5 + (1 * @Val.rho V1 i + 0) = _
    omega)
theorem vsym [Val] {φ : Phi} {ts : List (Int × Int × Int)} {i : Nat} {n : Int} (h : spars ts 0 = [(i, 1)]) (hb : linB ts 0) (e : n = Val.rho i) : VR φ (.lin .i64 0 ts) (.int .i64 n) := numA_VR (z := .lin .i64 0 ts) rfl hb (by rw [numA_1 h, e])
theorem vu8 [Val] {φ : Phi} {ts : List (Int × Int × Int)} {i j : Nat} {n : Int} (h : spars ts 0 = [(i, 1), (j, 11)]) (hb : linB ts 0) (e : n = Val.rho i + 11 * Val.rho j) : VR φ (.lin .u8 0 ts) (.int .u8 n) := .lin _ _ _ _ (by
  rw [linS_sp, h]
  show n = 0 + (1 * Val.rho i + (11 * Val.rho j + 0))
  omega) hb
theorem PB {a b m : Int} (ha : 0 ≤ a ∧ a ≤ m) (hb : 0 ≤ b ∧ b ≤ m) : 0 ≤ a * b ∧ a * b ≤ m * m := ⟨Int.mul_nonneg ha.1 hb.1, Int.mul_le_mul ha.2 hb.2 hb.1 (by omega)⟩
theorem sqle {t s C v w : Int} (h1 : t = C + (-1 * (v * v) + 0)) (h2 : s = C + (-1 * (w * w) + 0)) (h0 : 0 ≤ w) (h : w ≤ v) : t ≤ s := by
  have : w * w ≤ v * v := Int.mul_le_mul h h h0 (by omega)
  omega
def lvLo (x1 x2 : Int) : Int := if x2 % 11 < x1 % 11 then x2 % 11 else x1 % 11
def lvHi (x1 x2 : Int) : Int := if x1 % 11 < x2 % 11 then x2 % 11 else x1 % 11
theorem lvLo_b (x1 x2 : Int) : 0 ≤ lvLo x1 x2 ∧ lvLo x1 x2 ≤ 10 := by unfold lvLo; split <;> omega
theorem lvHi_b (x1 x2 : Int) : 0 ≤ lvHi x1 x2 ∧ lvHi x1 x2 ≤ 10 := by unfold lvHi; split <;> omega
theorem lohi (x1 x2 : Int) : lvLo x1 x2 - 5 ≤ lvHi x1 x2 - 5 := by unfold lvLo lvHi; split <;> split <;> omega
theorem lo5 (x1 x2 : Int) : -5 ≤ lvLo x1 x2 - 5 ∧ lvLo x1 x2 - 5 ≤ 5 := by have := lvLo_b x1 x2; omega
theorem hi5 (x1 x2 : Int) : -5 ≤ lvHi x1 x2 - 5 ∧ lvHi x1 x2 - 5 ≤ 5 := by have := lvHi_b x1 x2; omega
/-! ### Known calls of the ledge -/
def hij (i j : Int) : AH := ⟨1, (.n (.n (.n (.n (.n (.n (.n (.n (.n (.n (.n (.n (.n (.n (.n (.l (.cells [.int .i64 i, .int .i64 j])) .e) .e) .e) .e) .e) .e) .e) .e) .e) .e) .e) .e) .e) .e) .e)⟩
def cr (n i j v : Int) : ME := ⟨22, [.int .i64 n, .sl (some (0, 0)) 2 (.k 2)], hij i j, .int .i64 v⟩
def fu (n i j : Int) (m : Nat) (f : Int) (cs : List AV) : MN := ⟨23, [.int .i64 n, .sl (some (0, 0)) 2 (.k 2)], hij i j, m, 1, [.int .i64 f, .int .i64 0], cs⟩
def meB (l : List ME) : Bool := List.rec true (fun e _ ih => ite_ (memoB (exeY [] []) 1000 e) ih false) l
def mnB (l : List MN) : Bool := List.rec true (fun e _ ih => ite_ (memoNB (exeY [] []) 1000 e) ih false) l
theorem meB_ok [Val] [Bet] {l : List ME} (h : meB l = true) : ∀ e ∈ l, MemoOK Tryz.prog e := by
  induction l with
  | nil => intro e he; cases he
  | cons x l ih =>
    have h' : ite_ (memoB (exeY [] []) 1000 x) (meB l) false = true := h
    obtain ⟨h1, h2⟩ := ite_and h'
    intro e he
    cases he with
    | head => exact memoB_ok (exeY_sound (fun f hf => by cases hf) (fun e he => by cases he) 1000) h1
    | tail _ he => exact ih h2 e he
theorem mnB_ok [Val] [Bet] {l : List MN} (h : mnB l = true) : ∀ e ∈ l, MemoN Tryz.prog e := by
  induction l with
  | nil => intro e he; cases he
  | cons x l ih =>
    have h' : ite_ (memoNB (exeY [] []) 1000 x) (mnB l) false = true := h
    obtain ⟨h1, h2⟩ := ite_and h'
    intro e he
    cases he with
    | head => exact memoNB_ok (exeY_sound (fun f hf => by cases hf) (fun e he => by cases he) 1000) h1
    | tail _ he => exact ih h2 e he
/-! ### A board of n rows -/
/-- A board of n rows, whose rows are as long as they have to be. -/
structure BrdN (W : World) (n : Nat) (A A' : Addr) (As : Nat → Addr) (c c' : Nat) (cs : Nat → Nat) (p : Nat → Nat → Int) (y : Nat → Int) : Prop where
  hc : n ≤ c
  hc' : n + 1 ≤ c'
  hcs : ∀ r, r < n → r + 1 ≤ cs r
  rows : Cl W A c ((List.range n).map fun r => .slice (some (As r)) (r + 1) (cs r))
  row : ∀ r, r < n → Cl W (As r) (cs r) ((List.range (r + 1)).map fun k => .int .i64 (p r k))
  pays : Cl W A' c' ((List.range (n + 1)).map fun i => .int .i64 (y i))
def phiN' (W : World) (n : Nat) (A A' : Addr) (As : Nat → Addr) : Phi := fun i => if i = 0 then some (A.block, A.off, bsz W A.block) else if i = n + 1 then some (A'.block, A'.off, bsz W A'.block) else if i ≤ n then some ((As (i - 1)).block, (As (i - 1)).off, bsz W (As (i - 1)).block) else none
def slices (n : Nat) : List AV := (List.range n).map fun r => .sl (some (r + 1, 0)) (r + 1) (.u 1)
theorem BrdN.r [Val] [Bet] {W : World} {n : Nat} {A A' : Addr} {As : Nat → Addr} {c c' : Nat} {cs : Nat → Nat} {p : Nat → Nat → Int} {y : Nat → Int} (h : BrdN W n A A' As c c' cs p y) {hb : AH} {rs : List (List AV)} {py : List AV} (hm : mkH (.froz (slices n) :: (rs.map AO.froz ++ [.froz py])) noH = some hb) (hl : rs.length = n)
    (hrs : ∀ r xs, rs[r]? = some xs → VRs phi0 xs ((List.range (r + 1)).map fun k => .int .i64 (p r k))) (hpy : VRs phi0 py ((List.range (n + 1)).map fun i => .int .i64 (y i))) :
    R (phiN' W n A A' As) hb W ∧ (∀ i a, hb.get i = some a → a.isF = true) ∧ VR (phiN' W n A A' As) (.agg [.sl (some (0, 0)) n (.u 1), .sl (some (n + 1, 0)) (n + 1) (.u 1)]) (.agg #[.slice (some A) n c, .slice (some A') (n + 1) c']) := by
  obtain ⟨hnx, hget⟩ := mk_get hm
  have hnx : hb.nx = n + 2 := by rw [hnx]; simp [hl]
  have f0 : phiN' W n A A' As 0 = some (A.block, A.off, bsz W A.block) := rfl
  have f1 : phiN' W n A A' As (n + 1) = some (A'.block, A'.off, bsz W A'.block) := by unfold phiN'; rw [if_neg (by omega), if_pos rfl]
  have f2 : ∀ r, r < n → phiN' W n A A' As (r + 1) = some ((As r).block, (As r).off, bsz W (As r).block) := fun r hr => by
    unfold phiN'
    rw [if_neg (by omega), if_neg (by omega), if_pos (by omega)]
    rfl
  have one : ∀ (f : Nat → Int) (m : Nat), ∀ v ∈ (List.range m).map fun i => Value.int .i64 (f i), v.oneCell' = true := fun f m v hv => by
    obtain ⟨i, _, rfl⟩ := List.mem_map.1 hv
    rfl
  have cases_ : ∀ i a, hb.get i = some a → (i = 0 ∧ a = .froz (slices n)) ∨ (∃ r xs, i = r + 1 ∧ r < n ∧ rs[r]? = some xs ∧ a = .froz xs) ∨ (i = n + 1 ∧ a = .froz py) := fun i a hi => by
    have := hget i a hi
    cases i with
    | zero => simp at this; exact .inl ⟨rfl, this.symm⟩
    | succ r =>
      simp only [List.getElem?_cons_succ] at this
      by_cases hr : r < n
      · rw [List.getElem?_append_left (by simp [hl]; exact hr), List.getElem?_map] at this
        have hlt : r < rs.length := by omega
        rw [List.getElem?_eq_getElem hlt] at this
        exact .inr (.inl ⟨r, rs[r], rfl, hr, List.getElem?_eq_getElem hlt, by simpa using this.symm⟩)
      · rw [List.getElem?_append_right (by simp [hl]; omega)] at this
        simp only [List.length_map, hl] at this
        have hr0 : r - n = 0 := by
          have := (List.getElem?_eq_some_iff.1 this).1
          simp at this
          omega
        rw [hr0] at this
        simp at this
        exact .inr (.inr ⟨by omega, this.symm⟩)
  have hf : ∀ i a, hb.get i = some a → a.isF = true := fun i a hi => by
    rcases cases_ i a hi with ⟨_, rfl⟩ | ⟨_, _, _, _, _, rfl⟩ | ⟨_, rfl⟩ <;> rfl
  refine ⟨.frz (fun i a hi => ⟨hf i a hi, ?_⟩) (fun i q hq => ?_), hf, .agg _ _ (.cons _ _ _ _ (h.rows.sl f0 h.hc) (.cons _ _ _ _ (h.pays.sl f1 h.hc') .nil))⟩
  · rcases cases_ i a hi with ⟨rfl, rfl⟩ | ⟨r, xs, rfl, hr, hx, rfl⟩ | ⟨rfl, rfl⟩
    · obtain ⟨o, a1, a2⟩ := h.rows.or (φ := phiN' W n A A' As) (xs := slices n) (VRs.of (by simp [slices]) fun k x v hx hv => by
        have hk : k < n := by
          have := (List.getElem?_eq_some_iff.1 hx).1
          simpa [slices] using this
        unfold slices at hx
        rw [List.getElem?_map, List.getElem?_range hk] at hx hv
        simp only [Option.map_some, Option.some.injEq] at hx hv
        rw [← hx, ← hv]
        exact (h.row k hk).sl (f2 k hk) (h.hcs k hk)) (fun v hv => by
        obtain ⟨i, _, rfl⟩ := List.mem_map.1 hv
        rfl)
      exact ⟨by omega, _, _, o, f0, a1, a2⟩
    · obtain ⟨o, a1, a2⟩ := (h.row r hr).or (φ := phiN' W n A A' As) ((hrs r xs hx).ext (phi0_ext _)) (one _ _)
      exact ⟨by omega, _, _, o, f2 r hr, a1, a2⟩
    · obtain ⟨o, a1, a2⟩ := h.pays.or (φ := phiN' W n A A' As) (hpy.ext (phi0_ext _)) (one _ _)
      exact ⟨by omega, _, _, o, f1, a1, a2⟩
  · rw [hnx]
    unfold phiN' at hq
    split at hq
    · omega
    · split at hq
      · omega
      · split at hq
        · omega
        · cases hq
end
end Go.Proofs.YtibmpjhffeinoaaGreat.Kx
