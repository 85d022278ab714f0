/-
  Plain facts: sorted drops, earlier drops, one more drop, all sets.
-/
import Derived.Test.YtkeiajncmhkdmaaFactQ
namespace Go.Proofs.Ytkeiajncmhkdmaa

theorem fell_zero_iff {b : Nat} {ds : List Int} (h : ∀ d ∈ ds, 0 ≤ d ∧ d < (b : Int)) : fellOf (b : Int) ds = 0 ↔ ∀ q : Nat, q < b → overOf (b : Int) ds q ≤ 0 := by
  constructor
  · intro h0 q hq
    have := over_le (q := q) (by omega) ds h
    omega
  · intro hq
    refine Classical.byContradiction fun h0 => ?_
    have h1 := fellOf_nonneg ds h
    obtain ⟨q, h2, h3⟩ := over_most ds h (by omega)
    have := hq q h2
    omega
theorem fell_mono {b : Nat} {ds xs : List Int} (h : ∀ d ∈ ds, 0 ≤ d ∧ d < (b : Int)) (hx : ∀ d ∈ xs, 0 ≤ d ∧ d < (b : Int)) (hq : ∀ q : Nat, overOf (b : Int) xs q ≤ overOf (b : Int) ds q) : fellOf (b : Int) xs ≤ fellOf (b : Int) ds := by
  have h1 := fellOf_nonneg ds h
  by_cases h0 : 0 < fellOf (b : Int) xs
  · obtain ⟨q, h2, h3⟩ := over_most xs hx h0
    have h4 := hq q
    have h5 := over_le (q := q) (by omega) ds h
    omega
  · omega
def SortedL (s : List Int) : Prop := ∀ (i j : Nat) (x y : Int), i < j → s[i]? = some x → s[j]? = some y → x ≤ y
def RowL (s : List Int) : Prop := ∀ (i : Nat) (x : Int), s[i]? = some x → x ≤ i
theorem cnt_split (q : Int) (s : List Int) (k : Nat) : cntGe q s = cntGe q (s.take k) + cntGe q (s.drop k) := by
  unfold cntGe
  conv => lhs; rw [← List.take_append_drop k s]
  rw [List.countP_append]
  omega
theorem sorted_row {b : Nat} {s : List Int} (hl : s.length = b) (h : ∀ d ∈ s, 0 ≤ d ∧ d < (b : Int)) (hs : SortedL s) : fellOf (b : Int) s = 0 ↔ RowL s := by
  rw [fell_zero_iff h]
  constructor
  · intro hq i x hi
    refine Classical.byContradiction fun hgt => ?_
    have hib : i < b := by rw [← hl]; exact (List.getElem?_eq_some_iff.1 hi).1
    have hx := h x (List.mem_of_getElem? hi)
    have h1 := hq (i + 1) (by omega)
    have h2 : cntGe ((i + 1 : Nat) : Int) (s.drop i) = ((s.drop i).length : Nat) := by
      unfold cntGe
      rw [List.countP_eq_length.2]
      intro d hd
      obtain ⟨k, hk⟩ := List.getElem?_of_mem hd
      rw [List.getElem?_drop] at hk
      have : x ≤ d := by
        by_cases h0 : k = 0
        · subst h0
          rw [Nat.add_zero, hi] at hk
          cases hk
          exact Int.le_refl _
        · exact hs i (i + k) x d (by omega) hi hk
      simp [geB]
      omega
    have h3 := cnt_split ((i + 1 : Nat) : Int) s i
    have h4 := (cntGe_bd ((i + 1 : Nat) : Int) (s.take i)).1
    rw [List.length_drop, hl] at h2
    unfold overOf at h1
    omega
  · intro hr q hq
    have h1 := cnt_split (q : Int) s q
    have h2 : cntGe (q : Int) (s.take q) = 0 := by
      unfold cntGe
      rw [List.countP_eq_zero.2]
      · rfl
      intro d hd
      obtain ⟨k, hk⟩ := List.getElem?_of_mem hd
      have hkq : k < q := by
        have := (List.getElem?_eq_some_iff.1 hk).1
        rw [List.length_take] at this
        omega
      rw [List.getElem?_take, if_pos hkq] at hk
      have := hr k d hk
      simp [geB]
      omega
    have h3 := (cntGe_bd (q : Int) (s.drop q)).2
    rw [List.length_drop, hl] at h3
    unfold overOf
    omega
theorem perm_sum {l m : List Int} (h : l.Perm m) : l.sum = m.sum := by
  induction h with
  | nil => rfl
  | cons x _ ih => simp [ih]
  | swap x y l => simp; omega
  | trans _ _ i1 i2 => exact i1.trans i2
theorem full_all {b : Nat} {ds : List Int} (hl : ds.length = b) (h0 : fellOf (b : Int) ds = 0) : fullOf (b : Int) ds = upTo b := by
  unfold fellOf at h0
  have h1 : (fullOf (b : Int) ds).length = (upTo b).length := by rw [upTo_length]; omega
  rw [fullOf_eq] at h1 ⊢
  unfold fullIn at h1 ⊢
  exact List.filter_eq_self.2 (List.length_filter_eq_length_iff.1 h1)
theorem far_all {b : Nat} {ds : List Int} (h : ∀ d ∈ ds, 0 ≤ d ∧ d < (b : Int)) (hl : ds.length = b) (h0 : fellOf (b : Int) ds = 0) : farOf (b : Int) ds = (upTo b).sum - ds.sum := by
  have h1 := far_sum ds h
  rw [full_all hl h0, h0] at h1
  omega
theorem set_cnt {ds : List Int} {i : Nat} {x y : Int} (hi : ds[i]? = some x) (hy : y ≤ x) (q : Int) : cntGe q (ds.set i y) ≤ cntGe q ds := by
  have hlt := (List.getElem?_eq_some_iff.1 hi).1
  have e1 : ds = ds.take i ++ x :: ds.drop (i + 1) := by
    conv => lhs; rw [← List.take_append_drop i ds]
    congr 1
    rw [List.drop_eq_getElem_cons hlt]
    congr 1
    exact (List.getElem?_eq_some_iff.1 hi).2
  have e2 : ds.set i y = ds.take i ++ y :: ds.drop (i + 1) := by rw [List.set_eq_take_append_cons_drop, if_pos hlt]
  rw [e2]
  conv => rhs; rw [e1]
  unfold cntGe
  simp only [List.countP_append, List.countP_cons, geB]
  by_cases h1 : q ≤ y
  · have h2 : q ≤ x := by omega
    simp [h1, h2]
  · simp [h1]
    split <;> omega
theorem set_sum {ds : List Int} {i : Nat} {x y : Int} (hi : ds[i]? = some x) : (ds.set i y).sum = ds.sum - x + y := by
  have hlt := (List.getElem?_eq_some_iff.1 hi).1
  have e1 : ds = ds.take i ++ x :: ds.drop (i + 1) := by
    conv => lhs; rw [← List.take_append_drop i ds]
    congr 1
    rw [List.drop_eq_getElem_cons hlt]
    congr 1
    exact (List.getElem?_eq_some_iff.1 hi).2
  have e2 : ds.set i y = ds.take i ++ y :: ds.drop (i + 1) := by rw [List.set_eq_take_append_cons_drop, if_pos hlt]
  rw [e2]
  conv => rhs; rw [e1]
  simp
  omega
theorem earlier_fell {b : Nat} {ds : List Int} {i : Nat} {x y : Int} (h : ∀ d ∈ ds, 0 ≤ d ∧ d < (b : Int)) (hi : ds[i]? = some x) (hy : 0 ≤ y ∧ y ≤ x) : (∀ d ∈ ds.set i y, 0 ≤ d ∧ d < (b : Int)) ∧ fellOf (b : Int) (ds.set i y) ≤ fellOf (b : Int) ds := by
  have hx := h x (List.mem_of_getElem? hi)
  have hr : ∀ d ∈ ds.set i y, 0 ≤ d ∧ d < (b : Int) := fun d hd => by
    rcases List.mem_or_eq_of_mem_set hd with h1 | h1
    · exact h d h1
    · omega
  refine ⟨hr, fell_mono h hr fun q => ?_⟩
  have := set_cnt hi hy.2 (q : Int)
  unfold overOf
  omega
theorem earlier_far {b : Nat} {ds : List Int} {i : Nat} {x y : Int} (h : ∀ d ∈ ds, 0 ≤ d ∧ d < (b : Int)) (hi : ds[i]? = some x) (hy : 0 ≤ y ∧ y ≤ x) (hl : ds.length = b) (h0 : fellOf (b : Int) ds = 0) : farOf (b : Int) (ds.set i y) - farOf (b : Int) ds = x - y := by
  obtain ⟨h1, h2⟩ := earlier_fell h hi hy
  have h3 := fellOf_nonneg _ h1
  rw [far_all h hl h0, far_all h1 (by rw [List.length_set]; exact hl) (by omega), set_sum hi]
  omega
/-- One more may be dropped just where a place from there on is free. -/
theorem free_from {b : Nat} {L : List Int} {k : Int} (hk : 0 ≤ k ∧ k < (b : Int)) : slid1 (b : Int) L k < b ↔ ∃ x, k ≤ x ∧ x < (b : Int) ∧ x ∉ L := by
  have h := slid1_spec (b := b) (L := L) _ k rfl (by omega)
  have hb := slid1_bd (places := (b : Int)) (L := L) (at_ := k) (by omega)
  constructor
  · intro hlt
    exact ⟨_, hb.1, hlt, h.2 hlt⟩
  · rintro ⟨x, h1, h2, h3⟩
    refine Classical.byContradiction fun hge => h3 (h.1 x h1 (by omega))
theorem mem_fullOf {b : Nat} {ds : List Int} {x : Int} : x ∈ fullOf (b : Int) ds ↔ 0 ≤ x ∧ x < b ∧ x ∈ lieOf (b : Int) ds := by
  rw [fullOf_eq]
  unfold fullIn
  rw [List.mem_filter, mem_upTo]
  simp only [inL, decide_eq_true_eq]
  constructor
  · rintro ⟨⟨h1, h2⟩, h3⟩; exact ⟨h1, h2, h3⟩
  · rintro ⟨h1, h2, h3⟩; exact ⟨⟨h1, h2⟩, h3⟩
theorem mem_mayIn {b : Nat} {ds : List Int} {x : Int} : x ∈ mayIn (b : Int) ds b ↔ 0 ≤ x ∧ x < b ∧ fellOf (b : Int) (ds ++ [x]) = 0 := by
  unfold mayIn
  rw [List.mem_filter, mem_upTo]
  simp only [mayB, decide_eq_true_eq]
  constructor
  · rintro ⟨⟨h1, h2⟩, h3⟩; exact ⟨h1, h2, h3⟩
  · rintro ⟨h1, h2, h3⟩; exact ⟨⟨h1, h2⟩, h3⟩
end Go.Proofs.Ytkeiajncmhkdmaa
