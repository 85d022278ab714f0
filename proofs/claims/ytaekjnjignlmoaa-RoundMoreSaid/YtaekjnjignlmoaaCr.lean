/-
  Plain: the reference's 'Clash' finds the first of the shortest lists that clash.
-/
import Derived.Test.YtaekjnjignlmoaaCq
namespace Go.Proofs.Ytaekjnjignlmoaa

theorem befI_cons (x y : Int) (a b : List Int) : befI (x :: a) (y :: b) = if x = y then befI a b else decide (x < y) := rfl
theorem befI_irr : ∀ a : List Int, befI a a = false
  | [] => rfl
  | x :: a => by rw [befI_cons, if_pos rfl]; exact befI_irr a
theorem befI_trans : ∀ {a b c : List Int}, befI a b = true → befI b c = true → befI a c = true
  | [], _, _, h, _ => by simp [befI] at h
  | _ :: _, [], _, h, _ => by simp [befI] at h
  | _ :: _, _ :: _, [], _, h => by simp [befI] at h
  | x :: a, y :: b, z :: c, h1, h2 => by
    rw [befI_cons] at h1 h2 ⊢
    by_cases e1 : x = y
    · by_cases e2 : y = z
      · rw [if_pos e1] at h1
        rw [if_pos e2] at h2
        rw [if_pos (e1.trans e2)]
        exact befI_trans h1 h2
      · rw [if_neg e2] at h2
        rw [if_neg (by omega)]
        have := of_decide_eq_true h2
        exact decide_eq_true (by omega)
    · rw [if_neg e1] at h1
      have g1 := of_decide_eq_true h1
      by_cases e2 : y = z
      · rw [if_neg (by omega)]
        exact decide_eq_true (by omega)
      · rw [if_neg e2] at h2
        have g2 := of_decide_eq_true h2
        rw [if_neg (by omega)]
        exact decide_eq_true (by omega)
theorem befI_tot : ∀ {a b : List Int}, a.length = b.length → befI a b = false → befI b a = false → a = b
  | [], [], _, _, _ => rfl
  | [], _ :: _, h, _, _ => by simp at h
  | _ :: _, [], h, _, _ => by simp at h
  | x :: a, y :: b, h, h1, h2 => by
    rw [befI_cons] at h1 h2
    by_cases e : x = y
    · rw [if_pos e] at h1
      rw [if_pos e.symm] at h2
      rw [e, befI_tot (by simpa using h) h1 h2]
    · rw [if_neg e] at h1
      rw [if_neg (fun h => e h.symm)] at h2
      have := of_decide_eq_false h1
      have := of_decide_eq_false h2
      omega
theorem IncF.mem {n : Nat} : ∀ {s : Nat} {l : List Nat}, IncF n s l → ∀ i ∈ l, s ≤ i ∧ i < n
  | _, [], _, i, hi => by simp at hi
  | s, x :: l, h, i, hi => by
    rcases List.mem_cons.1 hi with e | e
    · rw [e]; exact ⟨h.1, h.2.1⟩
    · have := IncF.mem h.2.2 i e
      have := h.1
      omega
theorem IncF.less {n s s' : Nat} {l : List Nat} (h : IncF n s l) (hs : s' ≤ s) : IncF n s' l := by
  cases l with
  | nil => trivial
  | cons x t => exact ⟨Nat.le_trans hs h.1, h.2⟩
theorem IncF_filter (f : Nat → Bool) : ∀ (k s n : Nat), s + k ≤ n → IncF n s ((List.range' s k).filter f)
  | 0, s, n, _ => trivial
  | k + 1, s, n, h => by
    rw [List.range'_succ]
    cases hf : f s with
    | true => rw [List.filter_cons_of_pos hf]; exact ⟨Nat.le_refl _, by omega, IncF_filter f k (s + 1) n (by omega)⟩
    | false => rw [List.filter_cons_of_neg (by rw [hf]; decide)]; exact (IncF_filter f k (s + 1) n (by omega)).less (by omega)
theorem IncF_listed (z n : Nat) : IncF n 0 (listedN z n) := by
  unfold listedN
  rw [List.range_eq_range']
  exact IncF_filter _ n 0 n (by omega)
theorem filter_inc : ∀ (k s n : Nat) (l : List Nat), s + k = n → IncF n s l → (List.range' s k).filter (fun i => decide (i ∈ l)) = l
  | 0, s, n, l, h, hi => by
    cases l with
    | nil => rfl
    | cons x t => have := hi.1; have := hi.2.1; omega
  | k + 1, s, n, l, h, hi => by
    rw [List.range'_succ]
    cases l with
    | nil =>
      rw [List.filter_eq_nil_iff]
      intro a _
      simp
    | cons x t =>
      by_cases e : x = s
      · subst e
        rw [List.filter_cons_of_pos (by simp)]
        congr 1
        rw [← filter_inc k (x + 1) n t (by omega) hi.2.2]
        refine List.filter_congr fun a ha => ?_
        have h1 := (List.mem_range'_1.1 ha).1
        rw [filter_inc k (x + 1) n t (by omega) hi.2.2]
        refine decide_eq_decide.2 ⟨fun h => ?_, fun h => List.mem_cons_of_mem _ h⟩
        rcases List.mem_cons.1 h with h | h
        · omega
        · exact h
      · have hx := hi.1
        rw [List.filter_cons_of_neg (by
          rw [decide_eq_true_eq]
          intro hm
          rcases List.mem_cons.1 hm with hm | hm
          · exact e hm.symm
          · have := (IncF.mem hi.2.2 s hm).1
            omega)]
        exact filter_inc k (s + 1) n (x :: t) (by omega) ⟨by omega, hi.2⟩
/-- Each increasing list is said by some bits. -/
theorem listed_onto {n : Nat} {l : List Nat} (h : IncF n 0 l) : ∃ z, z < 2 ^ n ∧ listedN z n = l := by
  refine ⟨lateN (fun i => decide (i ∈ l)) n, lateN_lt _ _, ?_⟩
  have h1 := filter_inc n 0 n l (by omega) h
  rw [← List.range_eq_range'] at h1
  rw [← h1]
  unfold listedN
  refine List.filter_congr fun a ha => ?_
  rw [h1, lateN_bit, decide_eq_true (List.mem_range.1 ha), Bool.true_and]
theorem listed_nil {z n : Nat} (hz : z < 2 ^ n) (h : listedN z n = []) : z = 0 := by
  refine Nat.eq_of_testBit_eq fun i => ?_
  rw [Nat.zero_testBit]
  by_cases hi : i < n
  · unfold listedN at h
    have := List.filter_eq_nil_iff.1 h i (List.mem_range.2 hi)
    exact Bool.eq_false_iff.2 this
  · refine Nat.testBit_lt_two_pow (Nat.lt_of_lt_of_le hz (Nat.pow_le_pow_right (by omega) (by omega)))
end Go.Proofs.Ytaekjnjignlmoaa
