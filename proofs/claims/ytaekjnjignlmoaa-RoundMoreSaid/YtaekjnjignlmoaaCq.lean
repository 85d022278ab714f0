/-
  Plain: 'cl' finds the first list, in lexicographic order, of those of a length that clash.
-/
import Derived.Test.YtaekjnjignlmoaaR19
namespace Go.Proofs.Ytaekjnjignlmoaa

theorem fs_some {α : Type} {G : Nat → Option α} {L : α} : ∀ (k s : Nat), (List.range' s k).findSome? G = some L → ∃ a, s ≤ a ∧ a < s + k ∧ G a = some L ∧ ∀ x, s ≤ x → x < a → G x = none
  | 0, s, h => by simp at h
  | k + 1, s, h => by
    rw [List.range'_succ, List.findSome?_cons] at h
    cases hg : G s with
    | some y =>
      rw [hg] at h
      exact ⟨s, Nat.le_refl _, by omega, by rw [hg]; exact h, fun x h1 h2 => by omega⟩
    | none =>
      rw [hg] at h
      obtain ⟨a, h1, h2, h3, h4⟩ := fs_some k (s + 1) h
      refine ⟨a, by omega, by omega, h3, fun x h5 h6 => ?_⟩
      by_cases e : x = s
      · rw [e]; exact hg
      · exact h4 x (by omega) h6
/-- Strictly increasing numbers from s on, below n. -/
def IncF (n : Nat) : Nat → List Nat → Prop
  | _, [] => True
  | s, i :: l => s ≤ i ∧ i < n ∧ IncF n (i + 1) l
theorem cl_some {b : Int} {ps : List (Int × Int)} : ∀ (f : Nat) (begun : List Nat) (next : Nat) (L : List Nat), cl b ps f begun next = some L →
    ∃ l, L = begun ++ l ∧ l.length = f ∧ IncF ps.length next l ∧ clashB b ps L = true ∧ ∀ l' : List Nat, l'.length = f → IncF ps.length next l' → clashB b ps (begun ++ l') = true → befI (ofN l') (ofN l) = false
  | 0, begun, next, L, h => by
    rw [cl] at h
    split at h
    · rename_i hc
      cases h
      exact ⟨[], by simp, rfl, trivial, hc, fun l' h1 _ _ => by cases l' with
        | nil => rfl
        | cons x t => simp at h1⟩
    · cases h
  | f + 1, begun, next, L, h => by
    rw [cl] at h
    obtain ⟨a, h1, h2, h3, h4⟩ := fs_some _ _ h
    obtain ⟨l, h5, h6, h7, h8, h9⟩ := cl_some f _ _ _ h3
    refine ⟨a :: l, by rw [h5]; simp, by simp [h6], ⟨h1, by omega, h7⟩, h8, fun l' hl hi hc => ?_⟩
    cases l' with
    | nil => simp at hl
    | cons x t =>
      show (if (x : Int) = (a : Int) then befI (ofN t) (ofN l) else decide ((x : Int) < (a : Int))) = false
      by_cases hxa : x = a
      · rw [if_pos (by rw [hxa])]
        refine h9 t (by simpa using hl) (hxa ▸ hi.2.2) ?_
        rw [List.append_assoc]
        rw [hxa] at hc
        exact hc
      · rw [if_neg (by omega)]
        refine decide_eq_false fun hlt => ?_
        have hn := h4 x hi.1 (by omega)
        have := cl_none f _ _ hn t (by simpa using hl) hi.2.2
        rw [List.append_assoc] at this
        rw [show begun ++ ([x] ++ t) = begun ++ x :: t from rfl, hc] at this
        cases this
where
  cl_none {b : Int} {ps : List (Int × Int)} : ∀ (f : Nat) (begun : List Nat) (next : Nat), cl b ps f begun next = none → ∀ l' : List Nat, l'.length = f → IncF ps.length next l' → clashB b ps (begun ++ l') = false
    | 0, begun, next, h, l', hl, _ => by
      rw [cl] at h
      cases l' with
      | cons x t => simp at hl
      | nil =>
        split at h
        · cases h
        · rename_i hc
          rw [List.append_nil]
          exact Bool.eq_false_iff.2 hc
    | f + 1, begun, next, h, l', hl, hi => by
      rw [cl, List.findSome?_eq_none_iff] at h
      cases l' with
      | nil => simp at hl
      | cons x t =>
        have hn := h x (List.mem_range'_1.2 ⟨hi.1, by have := hi.1; have := hi.2.1; omega⟩)
        have := cl_none f _ _ hn t (by simpa using hl) hi.2.2
        rw [List.append_assoc] at this
        exact this
/-- The bits have a late stop of each round: the stops that they say clash. -/
theorem hits_clash (b : Int) (ps : List (Int × Int)) (z : Nat) : hits (lateBitsR b ps ps.length) z = clashB b ps (listedN z ps.length) := by
  unfold hits lateBitsR clashB
  rw [List.all_map]
  congr 1
  funext y
  show decide (bitsR b ps ps.length y &&& z ≠ 0) = lateIn b ps (listedN z ps.length) y
  unfold lateIn bitsR
  rw [Bool.eq_iff_iff, decide_eq_true_eq, List.any_eq_true]
  constructor
  · intro h
    obtain ⟨i, hi⟩ := Nat.exists_testBit_of_ne_zero h
    rw [Nat.testBit_and, lateN_bit, Bool.and_eq_true, Bool.and_eq_true] at hi
    refine ⟨i, ?_, hi.1.2⟩
    unfold listedN
    exact List.mem_filter.2 ⟨List.mem_range.2 (of_decide_eq_true hi.1.1), hi.2⟩
  · rintro ⟨i, hi, hl⟩ h
    unfold listedN at hi
    obtain ⟨h1, h2⟩ := List.mem_filter.1 hi
    have h3 : (lateN (fun i => decide (too ps i < nth (stepsL b ps y) i)) ps.length &&& z).testBit i = true := by
      rw [Nat.testBit_and, lateN_bit, decide_eq_true (List.mem_range.1 h1), Bool.true_and, hl, h2]
      rfl
    rw [h, Nat.zero_testBit] at h3
    cases h3
end Go.Proofs.Ytaekjnjignlmoaa
