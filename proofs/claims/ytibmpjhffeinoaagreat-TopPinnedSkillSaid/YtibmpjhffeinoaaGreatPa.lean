/-
  TopPairedLedge: boards that are not valid.
-/
import Derived.Test.YtibmpjhffeinoaaGreatQ
namespace Go.Proofs.YtibmpjhffeinoaaGreat.Kx
open Go Go.RowKit

noncomputable section
/-! ### Forms of one number, of any bounds -/
def frmA (B : Nat → Int × Int) : Nat → List (Int × Int × Int) → List (Int × Int × Int)
  | 0, t => t
  | i + 1, t => frmA B i ((0, (B i).1, (B i).2) :: t)
def frm (B : Nat → Int × Int) (j : Nat) : List (Int × Int × Int) := frmA B j [(1, (B j).1, (B j).2)]
section
variable [Val] {B : Nat → Int × Int}
theorem frmA_S : ∀ (j : Nat) (t : List (Int × Int × Int)), linS (frmA B j t) 0 = linS t j
  | 0, _ => rfl
  | j + 1, t => by
    show linS (frmA B j ((0, (B j).1, (B j).2) :: t)) 0 = _
    rw [frmA_S j]
    show 0 * Val.rho j + linS t (j + 1) = _
    omega
theorem frmA_B : ∀ (j : Nat) (t : List (Int × Int × Int)), (∀ i, i < j → (B i).1 ≤ Val.rho i ∧ Val.rho i ≤ (B i).2) → linB t j → linB (frmA B j t) 0
  | 0, _, _, h => h
  | j + 1, t, hb, h => frmA_B j _ (fun i hi => hb i (by omega)) ⟨hb j (by omega), h⟩
theorem frm_S (j : Nat) : linS (frm B j) 0 = Val.rho j := by
  unfold frm
  rw [frmA_S]
  show 1 * Val.rho j + 0 = _
  omega
theorem frm_B {j : Nat} (hb : ∀ i, i ≤ j → (B i).1 ≤ Val.rho i ∧ Val.rho i ≤ (B i).2) : linB (frm B j) 0 := frmA_B j _ (fun i hi => hb i (by omega)) ⟨hb j (Nat.le_refl _), trivial⟩
end
/-! ### Numbers that are not right -/
/-- The number of a pin. -/
def tri (r k : Nat) : Nat := r * (r + 1) / 2 + k
def rowsV (n : Nat) (B : Nat → Int × Int) : List (List AV) := (List.range n).map fun r => (List.range (r + 1)).map fun k => .lin .i64 0 (frm B (tri r k))
def paysV (n : Nat) (B : Nat → Int × Int) : List AV := (List.range (n + 1)).map fun i => .lin .i64 0 (frm B (tri n i))
def hbV (n : Nat) (B : Nat → Int × Int) : AH := (mkH (.froz (slices n) :: ((rowsV n B).map AO.froz ++ [.froz (paysV n B)])) noH).getD noH
def brdV (n : Nat) : AV := .agg [.sl (some (0, 0)) n (.u 1), .sl (some (n + 1, 0)) (n + 1) (.u 1)]
/-- The greatest that a number may be. -/
def top (n i : Nat) : Int := if i < tri n 0 then 10 else 500
/-- All ahead of k are right, k is not. -/
def badB (n k : Nat) (neg : Bool) (i : Nat) : Int × Int := if i < k then (0, top n i) else if i = k then (match neg with
  | true => (-9223372036854775808, -1)
  | false => (top n i + 1, 9223372036854775807)) else (-9223372036854775808, 9223372036854775807)
def exeV (f : Nat) : Exe := exeO [] [f] []
def oneV (f g n k : Nat) (neg : Bool) : Bool := ite_ (mkH (.froz (slices n) :: ((rowsV n (badB n k neg)).map AO.froz ++ [.froz (paysV n (badB n k neg))])) noH).isSome (isVal (run (exeV g) 10000 (.call (.func f) [brdV n, .any, .any] (hbV n (badB n k neg)))) isTrue) false
def bothV (f g n k : Nat) : Bool := ite_ (oneV f g n k true) (oneV f g n k false) false
theorem tri_lt {r k r' : Nat} (hk : k ≤ r) (h : r < r') : tri r k < tri r' 0 := by
  have h2 : r * (r + 1) / 2 + (r + 1) = (r + 1) * (r + 2) / 2 := by
    have : (r + 1) * (r + 2) = r * (r + 1) + 2 * (r + 1) := by rw [Nat.mul_comm (r + 1) (r + 2), Nat.add_mul]
    rw [this, Nat.add_mul_div_left _ _ (by omega)]
  have h3 : ∀ m, r + 1 ≤ m → (r + 1) * (r + 2) / 2 ≤ m * (m + 1) / 2 := fun m hm => Nat.div_le_div_right (Nat.mul_le_mul hm (by omega))
  have := h3 r' h
  unfold tri
  omega
theorem exeV_nil [Val] : OrcOK [] := fun _ h => by cases h
theorem noMV [Val] [Bet] : ∀ e ∈ ([] : List ME), MemoOK Tryz.prog e := fun _ h => by cases h
section
variable {f g : Nat} {W : World} {x1 x2 : Value} (hl : ∀ f ∈ [g], YesFn Tryz.prog f)
include hl
/-- The board's numbers, in a row. -/
theorem bad_one {n k : Nat} {neg : Bool} {A A' : Addr} {As : Nat → Addr} {c c' : Nat} {cs : Nat → Nat} {q : Nat → Int} (hb : BrdN W n A A' As c c' cs (fun r k => q (tri r k)) (fun i => q (tri n i))) (he : oneV f g n k neg = true) (hq : ∀ i, i < tri n (n + 1) → (badB n k neg i).1 ≤ q i ∧ q i ≤ (badB n k neg i).2) :
    CallsIn (Fro none) 0 Tryz.prog f #[.agg #[.slice (some A) n c, .slice (some A') (n + 1) c'], x1, x2] W (Yes W) := by
  letI : Val := ⟨q, fun _ => .nilFunc⟩
  letI : Bet := bet0
  obtain ⟨h1, h2⟩ := ite_and he
  have hm : mkH (.froz (slices n) :: ((rowsV n (badB n k neg)).map AO.froz ++ [.froz (paysV n (badB n k neg))])) noH = some (hbV n (badB n k neg)) := by
    unfold hbV
    cases hq : mkH (.froz (slices n) :: ((rowsV n (badB n k neg)).map AO.froz ++ [.froz (paysV n (badB n k neg))])) noH with
    | none => rw [hq] at h1; cases h1
    | some h => rfl
  have num : ∀ i, i < tri n (n + 1) → VR phi0 (.lin .i64 0 (frm (badB n k neg) i)) (.int .i64 (q i)) := fun i hi => .lin _ _ _ _ (by rw [frm_S]; show q i = 0 + q i; omega) (frm_B fun j hj => hq j (by omega))
  have row : ∀ (m : Nat) (f : Nat → Nat), (∀ i, i < m → f i < tri n (n + 1)) → VRs phi0 ((List.range m).map fun i => AV.lin .i64 0 (frm (badB n k neg) (f i))) ((List.range m).map fun i => Value.int .i64 (q (f i))) := fun m f hf => VRs.of (by simp) fun i x v hx hv => by
    have hi : i < m := by
      have := (List.getElem?_eq_some_iff.1 hx).1
      simpa using this
    rw [List.getElem?_map, List.getElem?_range hi] at hx hv
    simp only [Option.map_some, Option.some.injEq] at hx hv
    rw [← hx, ← hv]
    exact num _ (hf i hi)
  have hn1 : ∀ i, i < n + 1 → tri n i < tri n (n + 1) := fun i hi => by unfold tri; omega
  obtain ⟨hR, hz, hg⟩ := hb.r (rs := rowsV n (badB n k neg)) (py := paysV n (badB n k neg)) hm (by simp [rowsV]) (fun r xs hx => by
    have hr : r < n := by
      have := (List.getElem?_eq_some_iff.1 hx).1
      simpa [rowsV] using this
    unfold rowsV at hx
    rw [List.getElem?_map, List.getElem?_range hr] at hx
    simp only [Option.map_some, Option.some.injEq] at hx
    rw [← hx]
    exact row (r + 1) (fun k => tri r k) fun i hi => Nat.lt_of_lt_of_le (tri_lt (r' := n) (by omega) hr) (by unfold tri; omega)) (row (n + 1) (fun i => tri n i) hn1)
  exact callsIn_frz exeV_nil hl noMV hR hz h2 (.cons _ _ _ _ hg (.cons _ _ _ _ (.any _) (.cons _ _ _ _ (.any _) .nil))) 0
/-- Some number is not right. -/
theorem bad_num {n : Nat} {A A' : Addr} {As : Nat → Addr} {c c' : Nat} {cs : Nat → Nat} {q : Nat → Int} (hb : BrdN W n A A' As c c' cs (fun r k => q (tri r k)) (fun i => q (tri n i))) (he : ∀ k, k < tri n (n + 1) → bothV f g n k = true) (hr : ∀ i, i < tri n (n + 1) → -9223372036854775808 ≤ q i ∧ q i ≤ 9223372036854775807)
    (hbad : ∃ i, i < tri n (n + 1) ∧ ¬ (0 ≤ q i ∧ q i ≤ top n i)) : CallsIn (Fro none) 0 Tryz.prog f #[.agg #[.slice (some A) n c, .slice (some A') (n + 1) c'], x1, x2] W (Yes W) := by
  have first : ∀ m, (∃ i, i < m ∧ i < tri n (n + 1) ∧ ¬ (0 ≤ q i ∧ q i ≤ top n i)) → ∃ k, k < tri n (n + 1) ∧ ¬ (0 ≤ q k ∧ q k ≤ top n k) ∧ ∀ i, i < k → 0 ≤ q i ∧ q i ≤ top n i := fun m => by
    induction m with
    | zero => rintro ⟨i, h, _⟩; omega
    | succ m ih =>
      rintro ⟨i, h1, h2, h3⟩
      by_cases hex : ∃ i, i < m ∧ i < tri n (n + 1) ∧ ¬ (0 ≤ q i ∧ q i ≤ top n i)
      · exact ih hex
      · refine ⟨i, h2, h3, fun j hj => ?_⟩
        by_cases hc : 0 ≤ q j ∧ q j ≤ top n j
        · exact hc
        · exact absurd ⟨j, by omega, by omega, hc⟩ hex
  obtain ⟨i, h1, h2⟩ := hbad
  obtain ⟨k, h3, h4, h5⟩ := first (i + 1) ⟨i, by omega, h1, h2⟩
  obtain ⟨e1, e2⟩ := ite_and (he k h3)
  have other : ∀ (neg : Bool) i, i < tri n (n + 1) → i ≠ k → (badB n k neg i).1 ≤ q i ∧ q i ≤ (badB n k neg i).2 := fun neg i hi hne => by
    unfold badB
    by_cases hlt : i < k
    · rw [if_pos hlt]; exact h5 i hlt
    · rw [if_neg hlt, if_neg hne]; exact hr i hi
  by_cases hneg : q k < 0
  · refine bad_one hl hb e1 fun i hi => ?_
    by_cases hik : i = k
    · subst hik
      unfold badB
      rw [if_neg (Nat.lt_irrefl _), if_pos rfl]
      exact ⟨(hr i hi).1, by show q i ≤ -1; omega⟩
    · exact other true i hi hik
  · refine bad_one hl hb e2 fun i hi => ?_
    by_cases hik : i = k
    · subst hik
      unfold badB
      rw [if_neg (Nat.lt_irrefl _), if_pos rfl]
      exact ⟨by show top n i + 1 ≤ q i; omega, (hr i hi).2⟩
    · exact other false i hi hik
end
/-! ### Lengths that are not right -/
def rowsL (n : Nat) (B : Nat → Int × Int) : List AV := (List.range n).map fun r => .exS (r + 2) 0 (frm B r)
def hbL (n : Nat) (B : Nat → Int × Int) : AH := (mkH [.froz (rowsL n B)] noH).getD noH
def brdL (n : Nat) (B : Nat → Int × Int) : AV := .agg [.sl (some (0, 0)) n (.u 1), .exS (n + 2) 0 (frm B n)]
/-- All rows ahead of k are right, k is not (the pays are the row n); of the pays there are not more than P. -/
def lenB (n P k : Nat) (less : Bool) (i : Nat) : Int × Int := if i < k then ((i : Int) + 1, (i : Int) + 1) else if i = k then (match less with
  | true => (0, (i : Int))
  | false => ((i : Int) + 2, if i = n then (P : Int) else 9223372036854775807)) else (0, if i = n then (P : Int) else 9223372036854775807)
def anyL (n P : Nat) (i : Nat) : Int × Int := if i = n then ((P : Int) + 1, 9223372036854775807) else (0, 9223372036854775807)
def oneL (f g n : Nat) (B : Nat → Int × Int) : Bool := ite_ (mkH [.froz (rowsL n B)] noH).isSome (isVal (run (exeV g) 10000 (.call (.func f) [brdL n B, .any, .any] (hbL n B))) isTrue) false
def bothL (f g n P k : Nat) : Bool := ite_ (oneL f g n (lenB n P k true)) (oneL f g n (lenB n P k false)) false
section
variable {f g : Nat} {W : World} {x1 x2 : Value} (hl : ∀ f ∈ [g], YesFn Tryz.prog f)
include hl
theorem bad_len1 {n : Nat} {B : Nat → Int × Int} {A : Addr} {c : Nat} {us : Nat → Option Addr × Nat × Nat} (_hn : 0 < n) (hc : n ≤ c) (h : Cl W A c ((List.range n).map fun r => .slice (us r).1 (us r).2.1 (us r).2.2)) (he : oneL f g n B = true) (hq : ∀ i, i ≤ n → (B i).1 ≤ ((us i).2.1 : Int) ∧ ((us i).2.1 : Int) ≤ (B i).2) :
    CallsIn (Fro none) 0 Tryz.prog f #[.agg #[.slice (some A) n c, .slice (us n).1 (us n).2.1 (us n).2.2], x1, x2] W (Yes W) := by
  letI : Val := ⟨fun i => ((us i).2.1 : Int), fun i => .slice (us (i - 2)).1 (us (i - 2)).2.1 (us (i - 2)).2.2⟩
  letI : Bet := bet0
  obtain ⟨h1, h2⟩ := ite_and he
  have hm : mkH [.froz (rowsL n B)] noH = some (hbL n B) := by
    unfold hbL
    cases hq : mkH [.froz (rowsL n B)] noH with
    | none => rw [hq] at h1; cases h1
    | some h => rfl
  obtain ⟨hnx, hget⟩ := mk_get hm
  have one : ∀ i, i ≤ n → ∀ φ, VR φ (.exS (i + 2) 0 (frm B i)) (.slice (us i).1 (us i).2.1 (us i).2.2) := fun i hi φ => .exS _ _ _ _ _ _ rfl (by rw [frm_S]; show ((us i).2.1 : Int) = 0 + ((us i).2.1 : Int); omega) (frm_B fun j hj => hq j (by omega))
  have hg : ∀ i a, (hbL n B).get i = some a → i = 0 ∧ a = .froz (rowsL n B) := fun i a hi => by
    have := hget i a hi
    cases i with
    | zero => simp at this; exact ⟨rfl, this.symm⟩
    | succ i => simp at this
  have hf : ∀ i a, (hbL n B).get i = some a → a.isF = true := fun i a hi => by rw [(hg i a hi).2]; rfl
  have hR : R (phiL W A) (hbL n B) W := .frz (fun i a hi => ⟨hf i a hi, by
    obtain ⟨rfl, rfl⟩ := hg i a hi
    obtain ⟨o, a1, a2⟩ := h.or (φ := phiL W A) (xs := rowsL n B) (VRs.of (by simp [rowsL]) fun k x v hx hv => by
      have hk : k < n := by
        have := (List.getElem?_eq_some_iff.1 hx).1
        simpa [rowsL] using this
      unfold rowsL at hx
      rw [List.getElem?_map, List.getElem?_range hk] at hx hv
      simp only [Option.map_some, Option.some.injEq] at hx hv
      rw [← hx, ← hv]
      exact one k (by omega) _) (fun v hv => by
      obtain ⟨i, _, rfl⟩ := List.mem_map.1 hv
      rfl)
    exact ⟨by rw [hnx]; exact Nat.zero_lt_one, _, _, o, rfl, a1, a2⟩⟩) (fun i p hp => by
    rw [hnx]
    unfold phiL at hp
    split at hp
    · exact Nat.zero_lt_one
    · cases hp)
  exact callsIn_frz exeV_nil hl noMV hR hf h2 (.cons _ _ _ _ (.agg _ _ (.cons _ _ _ _ (h.sl rfl hc) (.cons _ _ _ _ (one n (Nat.le_refl _) _) .nil))) (.cons _ _ _ _ (.any _) (.cons _ _ _ _ (.any _) .nil))) 0
theorem bad_len {n P : Nat} {A : Addr} {c : Nat} {us : Nat → Option Addr × Nat × Nat} (hn : 0 < n) (hc : n ≤ c) (h : Cl W A c ((List.range n).map fun r => .slice (us r).1 (us r).2.1 (us r).2.2)) (he : ∀ k, k ≤ n → bothL f g n P k = true) (hr : ∀ i, i ≤ n → ((us i).2.1 : Int) ≤ if i = n then (P : Int) else 9223372036854775807)
    (hbad : ∃ i, i ≤ n ∧ (us i).2.1 ≠ i + 1) : CallsIn (Fro none) 0 Tryz.prog f #[.agg #[.slice (some A) n c, .slice (us n).1 (us n).2.1 (us n).2.2], x1, x2] W (Yes W) := by
  have first : ∀ m, (∃ i, i < m ∧ i ≤ n ∧ (us i).2.1 ≠ i + 1) → ∃ k, k ≤ n ∧ (us k).2.1 ≠ k + 1 ∧ ∀ i, i < k → (us i).2.1 = i + 1 := fun m => by
    induction m with
    | zero => rintro ⟨i, h, _⟩; omega
    | succ m ih =>
      rintro ⟨i, h1, h2, h3⟩
      by_cases hex : ∃ i, i < m ∧ i ≤ n ∧ (us i).2.1 ≠ i + 1
      · exact ih hex
      · refine ⟨i, h2, h3, fun j hj => ?_⟩
        by_cases hc : (us j).2.1 = j + 1
        · exact hc
        · exact absurd ⟨j, by omega, by omega, hc⟩ hex
  obtain ⟨i, h1, h2⟩ := hbad
  obtain ⟨k, h3, h4, h5⟩ := first (i + 1) ⟨i, by omega, h1, h2⟩
  obtain ⟨e1, e2⟩ := ite_and (he k h3)
  have other : ∀ (less : Bool) i, i ≤ n → i ≠ k → (lenB n P k less i).1 ≤ ((us i).2.1 : Int) ∧ ((us i).2.1 : Int) ≤ (lenB n P k less i).2 := fun less i hi hne => by
    unfold lenB
    by_cases hlt : i < k
    · rw [if_pos hlt, h5 i hlt]
      exact ⟨by show (i : Int) + 1 ≤ ((i + 1 : Nat) : Int); omega, by show ((i + 1 : Nat) : Int) ≤ (i : Int) + 1; omega⟩
    · rw [if_neg hlt, if_neg hne]
      exact ⟨by show (0 : Int) ≤ _; omega, hr i hi⟩
  by_cases hless : (us k).2.1 ≤ k
  · refine bad_len1 hl hn hc h e1 fun i hi => ?_
    by_cases hik : i = k
    · subst hik
      unfold lenB
      rw [if_neg (Nat.lt_irrefl _), if_pos rfl]
      exact ⟨by show (0 : Int) ≤ _; omega, by show _ ≤ (i : Int); omega⟩
    · exact other true i hi hik
  · refine bad_len1 hl hn hc h e2 fun i hi => ?_
    by_cases hik : i = k
    · subst hik
      have := hr i hi
      unfold lenB
      rw [if_neg (Nat.lt_irrefl _), if_pos rfl]
      exact ⟨by show (i : Int) + 2 ≤ _; omega, this⟩
    · exact other false i hi hik
end
def fromN (f : Nat → Bool) (a : Nat) : Nat → Bool := Nat.rec true fun i ih => ite_ (f (a + i)) ih false
theorem fromN_true {f : Nat → Bool} {a : Nat} : ∀ {m : Nat}, fromN f a m = true → ∀ k, a ≤ k → k < a + m → f k = true := by
  intro m
  induction m with
  | zero => intro _ k h1 h2; omega
  | succ m ih =>
    intro h k h1 h2
    have h' : ite_ (f (a + m)) (fromN f a m) false = true := h
    obtain ⟨e1, e2⟩ := ite_and h'
    by_cases hk : k = a + m
    · rw [hk]; exact e1
    · exact ih e2 k h1 (by omega)
/-! ### How many rows -/
def aT (l0 u0 l1 u1 : Int) : List AV := [.agg [.exS 2 0 [(1, l0, u0)], .exS 3 0 [(0, l0, u0), (1, l1, u1)]], .any, .any]
theorem bad_two {f g : Nat} {W : World} {x1 x2 : Value} (hl : ∀ f ∈ [g], YesFn Tryz.prog f) {A A' : Option Addr} {n c n' c' : Nat} {l0 u0 l1 u1 : Int} (he : isVal (run (exeV g) 2000 (.call (.func f) (aT l0 u0 l1 u1) noH)) isTrue = true) (h0 : l0 ≤ (n : Int) ∧ (n : Int) ≤ u0) (h1 : l1 ≤ (n' : Int) ∧ (n' : Int) ≤ u1) :
    CallsIn (Fro none) 0 Tryz.prog f #[.agg #[.slice A n c, .slice A' n' c'], x1, x2] W (Yes W) := by
  letI : Val := ⟨fun i => match i with
    | 0 => (n : Int)
    | _ => (n' : Int), fun i => match i with
    | 2 => .slice A n c
    | _ => .slice A' n' c'⟩
  letI : Bet := bet0
  have hx : VRs phi0 (aT l0 u0 l1 u1) [.agg #[.slice A n c, .slice A' n' c'], x1, x2] := by
    refine .cons _ _ _ _ (.agg _ _ (.cons _ _ _ _ (.exS _ _ _ _ _ _ rfl ?_ ⟨h0, trivial⟩) (.cons _ _ _ _ (.exS _ _ _ _ _ _ rfl ?_ ⟨h0, h1, trivial⟩) .nil))) (.cons _ _ _ _ (.any _) (.cons _ _ _ _ (.any _) .nil))
    · show (n : Int) = 0 + (1 * (n : Int) + 0)
      omega
    · show (n' : Int) = 0 + (0 * (n : Int) + (1 * (n' : Int) + 0))
      omega
  exact callsIn_frz exeV_nil hl noMV (R.noH W) (fun i a hi => absurd hi (noH_get _ _)) he hx 0
/-! ### A board of n rows, whatever it is -/
theorem tri_inj {r k r' k' : Nat} (h1 : k ≤ r) (h2 : k' ≤ r') (h : tri r k = tri r' k') : r = r' ∧ k = k' := by
  rcases Nat.lt_trichotomy r r' with h3 | h3 | h3
  · have := tri_lt h1 h3
    unfold tri at *
    omega
  · subst h3
    unfold tri at h
    exact ⟨rfl, by omega⟩
  · have := tri_lt h2 h3
    unfold tri at *
    omega
theorem tri_all {n i : Nat} (h : i < tri n (n + 1)) : ∃ r k, k ≤ r ∧ r ≤ n ∧ tri r k = i := by
  induction n with
  | zero => exact ⟨0, 0, Nat.le_refl _, Nat.le_refl _, by unfold tri at *; omega⟩
  | succ n ih =>
    by_cases hlt : i < tri n (n + 1)
    · obtain ⟨r, k, h1, h2, h3⟩ := ih hlt
      exact ⟨r, k, h1, by omega, h3⟩
    · have h2 : n * (n + 1) / 2 + (n + 1) = (n + 1) * (n + 2) / 2 := by
        have : (n + 1) * (n + 2) = n * (n + 1) + 2 * (n + 1) := by rw [Nat.mul_comm (n + 1) (n + 2), Nat.add_mul]
        rw [this, Nat.add_mul_div_left _ _ (by omega)]
      refine ⟨n + 1, i - tri n (n + 1), ?_, Nat.le_refl _, ?_⟩
      · unfold tri at *
        have e : (n + 1) * (n + 1 + 1) / 2 = (n + 1) * (n + 2) / 2 := rfl
        omega
      · unfold tri at *
        have e : (n + 1) * (n + 1 + 1) / 2 = (n + 1) * (n + 2) / 2 := rfl
        omega
/-- Numbers of pins, in a row. -/
theorem flat_ex (n : Nat) (v : Nat → Nat → Int) : ∃ q : Nat → Int, ∀ r k, k ≤ r → r ≤ n → q (tri r k) = v r k := by
  classical
  refine ⟨fun i => if h : ∃ rk : Nat × Nat, rk.2 ≤ rk.1 ∧ tri rk.1 rk.2 = i then v h.choose.1 h.choose.2 else 0, fun r k h1 _ => ?_⟩
  have h : ∃ rk : Nat × Nat, rk.2 ≤ rk.1 ∧ tri rk.1 rk.2 = tri r k := ⟨(r, k), h1, rfl⟩
  refine (dif_pos h).trans ?_
  obtain ⟨e1, e2⟩ := h.choose_spec
  obtain ⟨e3, e4⟩ := tri_inj e1 h1 e2
  rw [e3, e4]
theorem all_n {f g n P : Nat} (hn : 0 < n) (hl : ∀ f ∈ [g], YesFn Tryz.prog f) {W : World} {x1 x2 : Value} (bp : P < 9223372036854775807 → oneL f g n (anyL n P) = true) (bl : ∀ k, k ≤ n → bothL f g n P k = true) (bv : ∀ k, k < tri n (n + 1) → bothV f g n k = true)
    (fin : ∀ (A A' : Addr) (As : Nat → Addr) (c c' : Nat) (cs : Nat → Nat) (q : Nat → Int), BrdN W n A A' As c c' cs (fun r k => q (tri r k)) (fun i => q (tri n i)) → (∀ r k, r < n → k ≤ r → 0 ≤ q (tri r k) ∧ q (tri r k) ≤ 10) → (∀ i, i < n + 1 → 0 ≤ q (tri n i) ∧ q (tri n i) ≤ 500) → CallsIn (Fro none) 0 Tryz.prog f #[.agg #[.slice (some A) n c, .slice (some A') (n + 1) c'], x1, x2] W (Yes W))
    {v : Value} {Ls : List (List Int)} {ys : List Int} (hB : Board W v Ls ys) (hLn : Ls.length = n) : CallsIn (Fro none) 0 Tryz.prog f #[v, x1, x2] W (Yes W) := by
  obtain ⟨A, n', c, v', vs, rfl, hLn', hnc, hcm, hvs, hA, hrow, A', m', c', rfl, hyn, hnc', hcm', hA', hyr⟩ := hB
  obtain rfl : n = n' := by omega
  obtain ⟨a, rfl, hCl⟩ := hA hn
  -- the rows
  have hr0 : ∀ r, ∃ (u : Option Addr × Nat × Nat) (L : List Int), r < n → vs[r]? = some (.slice u.1 u.2.1 u.2.2) ∧ Ls[r]? = some L ∧ L.length = u.2.1 ∧ u.2.1 ≤ u.2.2 ∧ u.2.2 ≤ 9223372036854775807 ∧ (0 < u.2.1 → ∃ a, u.1 = some a ∧ Cl W a u.2.2 (L.map (Value.int .i64))) ∧ ∀ x ∈ L, -9223372036854775808 ≤ x ∧ x ≤ 9223372036854775807 := fun r => by
    by_cases hr : r < n
    · have hL : Ls[r]? = some (Ls[r]'(by omega)) := List.getElem?_eq_getElem (by omega)
      obtain ⟨u, e0, A0, n0, c0, rfl, h1, h2, h3, h4, h5⟩ := hrow r _ hL
      exact ⟨(A0, n0, c0), _, fun _ => ⟨e0, hL, h1, h2, h3, h4, h5⟩⟩
    · exact ⟨(none, 0, 0), [], fun h => absurd h hr⟩
  have ⟨us, hus⟩ := Classical.axiomOfChoice hr0
  have ⟨LL, hus⟩ := Classical.axiomOfChoice hus
  let us' : Nat → Option Addr × Nat × Nat := fun i => if i = n then (A', m', c') else us i
  have usn : us' n = (A', m', c') := if_pos rfl
  have usr : ∀ r, r < n → us' r = us r := fun r hr => if_neg (by omega)
  have hvs2 : vs = (List.range n).map fun r => .slice (us' r).1 (us' r).2.1 (us' r).2.2 := by
    refine List.ext_getElem? fun r => ?_
    by_cases hr : r < n
    · rw [(hus r hr).1, List.getElem?_map, List.getElem?_range hr]
      show _ = some (Value.slice (us' r).1 (us' r).2.1 (us' r).2.2)
      rw [usr r hr]
    · rw [List.getElem?_eq_none (by omega), List.getElem?_eq_none (by simp; omega)]
  have hCl2 := hCl
  rw [hvs2] at hCl2
  have go : ∀ w, w = Value.slice (us' n).1 (us' n).2.1 (us' n).2.2 → CallsIn (Fro none) 0 Tryz.prog f #[.agg #[.slice (some a) n c, .slice (us' n).1 (us' n).2.1 (us' n).2.2], x1, x2] W (Yes W) → CallsIn (Fro none) 0 Tryz.prog f #[.agg #[.slice (some a) n c, w], x1, x2] W (Yes W) := fun w hw h => by rw [hw]; exact h
  have hlen : ∀ i, i ≤ n → ((us' i).2.1 : Int) ≤ 9223372036854775807 := fun i hi => by
    by_cases hin : i = n
    · rw [hin, usn]
      show (m' : Int) ≤ _
      omega
    · rw [usr i (by omega)]
      obtain ⟨_, _, _, h1, h2, _⟩ := hus i (by omega)
      omega
  by_cases q0 : P < m'
  · refine go _ (by rw [usn]) (bad_len1 hl hn hnc hCl2 (bp (by omega)) fun i hi => ?_)
    unfold anyL
    by_cases hin : i = n
    · rw [if_pos hin, hin, usn]
      exact ⟨by show (P : Int) + 1 ≤ (m' : Int); omega, by show (m' : Int) ≤ _; omega⟩
    · rw [if_neg hin]
      exact ⟨by show (0 : Int) ≤ _; omega, hlen i hi⟩
  by_cases q1 : ∃ i, i ≤ n ∧ (us' i).2.1 ≠ i + 1
  · refine go _ (by rw [usn]) (bad_len (P := P) hl hn hnc hCl2 bl (fun i hi => ?_) q1)
    by_cases hin : i = n
    · rw [if_pos hin, hin, usn]
      show (m' : Int) ≤ _
      omega
    · rw [if_neg hin]
      exact hlen i hi
  have hall : ∀ i, i ≤ n → (us' i).2.1 = i + 1 := fun i hi => by
    by_cases h : (us' i).2.1 = i + 1
    · exact h
    · exact absurd ⟨i, hi, h⟩ q1
  obtain rfl : m' = n + 1 := by
    have := hall n (Nat.le_refl _)
    rw [usn] at this
    exact this
  obtain ⟨a', rfl, hC'⟩ := hA' (by omega)
  obtain ⟨q, hq⟩ := flat_ex n (fun r k => if r = n then ys.getD k 0 else (LL r).getD k 0)
  have hqr : ∀ r k, r < n → k ≤ r → q (tri r k) = (LL r).getD k 0 := fun r k hr hk => by rw [hq r k hk (by omega), if_neg (by omega)]
  have hqn : ∀ k, k ≤ n → q (tri n k) = ys.getD k 0 := fun k hk => by rw [hq n k hk (Nat.le_refl _), if_pos rfl]
  have hlr : ∀ r, r < n → (LL r).length = r + 1 := fun r hr => by
    have h1 := hall r (by omega)
    rw [usr r hr] at h1
    rw [(hus r hr).2.2.1, h1]
  have lists : ∀ (L : List Int) (m : Nat) (w : Nat → Int), L.length = m → (∀ k, k < m → w k = L.getD k 0) → L.map (Value.int .i64) = (List.range m).map fun k => Value.int .i64 (w k) := fun L m w h1 h2 => by
    refine List.ext_getElem? fun k => ?_
    by_cases hk : k < m
    · rw [List.getElem?_map, List.getElem?_map, List.getElem?_range hk, List.getElem?_eq_getElem (by omega)]
      simp only [Option.map_some]
      rw [h2 k hk, List.getD_eq_getElem?_getD, List.getElem?_eq_getElem (by omega)]
      rfl
    · rw [List.getElem?_eq_none (by simp; omega), List.getElem?_eq_none (by simp; omega)]
  have addr : ∀ r, ∃ b : Addr, r < n → (us r).1 = some b ∧ Cl W b (us r).2.2 ((LL r).map (Value.int .i64)) := fun r => by
    by_cases hr : r < n
    · have h1 := hall r (by omega)
      rw [usr r hr] at h1
      obtain ⟨b, e1, e2⟩ := (hus r hr).2.2.2.2.2.1 (by omega)
      exact ⟨b, fun _ => ⟨e1, e2⟩⟩
    · exact ⟨a, fun h => absurd h hr⟩
  have ⟨As, hAs⟩ := Classical.axiomOfChoice addr
  have hb : BrdN W n a a' As c c' (fun r => (us r).2.2) (fun r k => q (tri r k)) (fun i => q (tri n i)) := by
    refine ⟨hnc, hnc', fun r hr => ?_, ?_, fun r hr => ?_, ?_⟩
    · have h1 := hall r (by omega)
      rw [usr r hr] at h1
      have := (hus r hr).2.2.2.1
      show r + 1 ≤ (us r).2.2
      omega
    · have e : ((List.range n).map fun r => Value.slice (us' r).1 (us' r).2.1 (us' r).2.2) = (List.range n).map fun r => Value.slice (some (As r)) (r + 1) (us r).2.2 := List.map_congr_left fun r hr => by
        have hr := List.mem_range.1 hr
        have h1 := hall r (by omega)
        rw [usr r hr] at h1 ⊢
        rw [(hAs r hr).1, h1]
      rw [← e]
      exact hCl2
    · rw [← lists (LL r) (r + 1) (fun k => q (tri r k)) (hlr r hr) fun k hk => hqr r k hr (by omega)]
      exact (hAs r hr).2
    · rw [← lists ys (n + 1) (fun k => q (tri n k)) hyn fun k hk => hqn k (by omega)]
      exact hC'
  have hmem : ∀ (L : List Int) k, k < L.length → L.getD k 0 ∈ L := fun L k hk => by
    rw [List.getD_eq_getElem?_getD, List.getElem?_eq_getElem hk]
    exact List.getElem_mem hk
  have hrng : ∀ i, i < tri n (n + 1) → -9223372036854775808 ≤ q i ∧ q i ≤ 9223372036854775807 := fun i hi => by
    obtain ⟨r, k, h1, h2, rfl⟩ := tri_all hi
    by_cases hr : r = n
    · subst hr
      rw [hqn k h1]
      exact hyr _ (hmem ys k (by omega))
    · have hr : r < n := by omega
      rw [hqr r k hr h1]
      exact (hus r hr).2.2.2.2.2.2 _ (hmem (LL r) k (by have := hlr r hr; omega))
  by_cases hbad : ∃ i, i < tri n (n + 1) ∧ ¬ (0 ≤ q i ∧ q i ≤ top n i)
  · exact bad_num hl hb bv hrng hbad
  · have hgood : ∀ i, i < tri n (n + 1) → 0 ≤ q i ∧ q i ≤ top n i := fun i hi => by
      by_cases h : 0 ≤ q i ∧ q i ≤ top n i
      · exact h
      · exact absurd ⟨i, hi, h⟩ hbad
    refine fin a a' As c c' _ q hb (fun r k hr hk => ?_) fun i hi => ?_
    · have h1 := tri_lt (r' := n) hk hr
      have h2 := hgood (tri r k) (by unfold tri at *; omega)
      unfold top at h2
      rw [if_pos h1] at h2
      exact h2
    · have h2 := hgood (tri n i) (by unfold tri; omega)
      unfold top at h2
      rw [if_neg (by unfold tri; omega)] at h2
      exact h2
end
end Go.Proofs.YtibmpjhffeinoaaGreat.Kx
