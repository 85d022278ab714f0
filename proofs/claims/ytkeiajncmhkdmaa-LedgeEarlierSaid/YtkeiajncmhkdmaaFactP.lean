/-
  Plain facts: the order of drops does not count; sums; monotony; a ledge and a wheel; a wheel that is turned.
-/
import Derived.Test.YtkeiajncmhkdmaaTotS
namespace Go.Proofs.Ytkeiajncmhkdmaa

/-! ### Sums -/
theorem fullIn_sum {L : List Int} {k : Nat} (hk : (k : Int) ∉ L) : ∀ n : Nat, k < n → (fullIn (L ++ [(k : Int)]) n).sum = (fullIn L n).sum + k := by
  intro n
  induction n with
  | zero => intro h; omega
  | succ n ih =>
    intro h
    by_cases he : n = k
    · subst he
      rw [fullIn_no hk, fullIn_yes (by simp), fullIn_same n (Nat.le_refl _)]
      simp
    · have hne : ¬ (n : Int) = (k : Int) := by omega
      have := ih (by omega)
      by_cases hm : (n : Int) ∈ L
      · rw [fullIn_yes hm, fullIn_yes (by simp [hm])]
        simp [this]
        omega
      · rw [fullIn_no hm, fullIn_no (by simp only [List.mem_append, List.mem_singleton, not_or]; exact ⟨hm, hne⟩), this]
theorem fullOf_eq (b : Nat) (ds : List Int) : fullOf (b : Int) ds = fullIn (lieOf (b : Int) ds) b := by unfold fullOf; rw [show (b : Int).toNat = b by omega]
theorem fullIn_nil : ∀ n, fullIn [] n = [] := by
  intro n
  induction n with
  | zero => rfl
  | succ n ih => rw [fullIn_no (by simp), ih]
/-- One copper more: it lies at a place that was free, or falls. -/
theorem full_snoc {b : Nat} {ds : List Int} {d : Int} (hd : 0 ≤ d ∧ d < (b : Int)) :
    (slid1 (b : Int) (lieOf (b : Int) ds) d = b ∧ fullOf (b : Int) (ds ++ [d]) = fullOf (b : Int) ds) ∨
    (∃ k : Nat, slid1 (b : Int) (lieOf (b : Int) ds) d = k ∧ k < b ∧ (k : Int) ∉ lieOf (b : Int) ds ∧ lieOf (b : Int) (ds ++ [d]) = lieOf (b : Int) ds ++ [(k : Int)]) := by
  rcases lie1_bd (b := b) (L := lieOf (b : Int) ds) hd with h | ⟨h0, h1, h2⟩
  · left
    have hs : slid1 (b : Int) (lieOf (b : Int) ds) d = b := by
      unfold lie1 at h
      split at h
      · assumption
      · have := (slid1_bd (places := (b : Int)) (L := lieOf (b : Int) ds) (at_ := d) (by omega)).1; omega
    exact ⟨hs, by rw [fullOf_eq, fullOf_eq, lieOf_snoc, h, fullIn_neg]⟩
  · right
    have hs : lie1 (b : Int) (lieOf (b : Int) ds) d = slid1 (b : Int) (lieOf (b : Int) ds) d := by
      unfold lie1 at h0 ⊢
      split
      · rename_i h; rw [if_pos h] at h0; omega
      · rfl
    obtain ⟨k, hk⟩ : ∃ k : Nat, slid1 (b : Int) (lieOf (b : Int) ds) d = k := ⟨(slid1 (b : Int) (lieOf (b : Int) ds) d).toNat, by omega⟩
    rw [hs, hk] at h1 h2
    exact ⟨k, hk, by omega, h2, by rw [lieOf_snoc, hs, hk]⟩
theorem far_sum {b : Nat} (ds : List Int) : (∀ d ∈ ds, 0 ≤ d ∧ d < (b : Int)) → farOf (b : Int) ds + ds.sum = (fullOf (b : Int) ds).sum + b * fellOf (b : Int) ds := by
  refine snoc_induction (p := fun ds => (∀ d ∈ ds, 0 ≤ d ∧ d < (b : Int)) → farOf (b : Int) ds + ds.sum = (fullOf (b : Int) ds).sum + b * fellOf (b : Int) ds) ?_ (fun ds d ih h => ?_) ds
  · intro _
    rw [fellOf_nil, fullOf_eq]
    show (0 : Int) + 0 = (fullIn [] b).sum + b * 0
    rw [fullIn_nil]
    simp
  · have hd := h d (by simp)
    have h1 := ih (fun x hx => h x (by simp [hx]))
    rw [farOf_snoc, fellOf_snoc hd, List.sum_append]
    rcases full_snoc (ds := ds) hd with ⟨h2, h3⟩ | ⟨k, h2, h3, h4, h5⟩
    · rw [h2, h3, if_pos rfl, Int.mul_add]
      simp
      omega
    · rw [fullOf_eq, h5, fullIn_sum h4 b h3, ← fullOf_eq, h2, if_neg (by omega)]
      simp
      omega

/-! ### The order of drops -/
def Same (L M : List Int) : Prop := ∀ x, x ∈ L ↔ x ∈ M
theorem Same.rfl_ (L : List Int) : Same L L := fun _ => Iff.rfl
theorem Same.snoc {L M : List Int} (h : Same L M) (x : Int) : Same (L ++ [x]) (M ++ [x]) := fun y => by simp [h y]
theorem Same.flip {L M : List Int} (x y : Int) (h : Same L M) : Same (L ++ [x] ++ [y]) (M ++ [y] ++ [x]) := fun z => by
  simp only [List.mem_append, List.mem_singleton, h z]
  constructor
  · rintro ((h | h) | h)
    · exact .inl (.inl h)
    · exact .inr h
    · exact .inl (.inr h)
  · rintro ((h | h) | h)
    · exact .inl (.inl h)
    · exact .inr h
    · exact .inl (.inr h)
theorem slid1_same {b : Int} {L M : List Int} (h : Same L M) (d : Int) : slid1 b L d = slid1 b M d := by
  unfold slid1
  generalize (b - d).toNat = f
  induction f generalizing d with
  | zero => rfl
  | succ f ih => simp only [slideTo, h d, ih]
theorem slid1_other {b : Nat} {L : List Int} {x : Int} : ∀ (f : Nat) (d : Int), ((b : Int) - d).toNat = f → slid1 (b : Int) L d ≠ x → slid1 (b : Int) (L ++ [x]) d = slid1 (b : Int) L d := by
  intro f
  induction f with
  | zero =>
    intro d hf _
    rw [slid1_stop (by omega), slid1_stop (by omega)]
  | succ f ih =>
    intro d hf hne
    by_cases hm : d < (b : Int) ∧ d ∈ L
    · rw [slid1_go hm] at hne ⊢
      rw [slid1_go ⟨hm.1, by simp [hm.2]⟩]
      exact ih (d + 1) (by omega) hne
    · rw [slid1_stop hm] at hne ⊢
      rw [slid1_stop]
      rintro ⟨h1, h2⟩
      rcases List.mem_append.1 h2 with h3 | h3
      · exact hm ⟨h1, h3⟩
      · exact hne (List.mem_singleton.1 h3)
theorem slid1_ne {b : Nat} {L : List Int} {x d : Int} (h : slid1 (b : Int) L d ≠ x) : slid1 (b : Int) (L ++ [x]) d = slid1 (b : Int) L d := slid1_other _ d rfl h
theorem slid1_past {b : Nat} {L : List Int} {x : Int} (hx : x < (b : Int)) : ∀ (f : Nat) (d : Int), ((b : Int) - d).toNat = f → slid1 (b : Int) L d = x → slid1 (b : Int) (L ++ [x]) d = slid1 (b : Int) (L ++ [x]) (x + 1) := by
  intro f
  induction f with
  | zero =>
    intro d hf h
    rw [slid1_stop (by omega)] at h
    omega
  | succ f ih =>
    intro d hf h
    by_cases hm : d < (b : Int) ∧ d ∈ L
    · rw [slid1_go hm] at h
      rw [slid1_go ⟨hm.1, by simp [hm.2]⟩]
      exact ih (d + 1) (by omega) h
    · rw [slid1_stop hm] at h
      subst h
      rw [slid1_go ⟨hx, by simp⟩]
theorem slid1_hit {b : Nat} {L : List Int} {x d : Int} (hx : x < (b : Int)) (h : slid1 (b : Int) L d = x) : slid1 (b : Int) (L ++ [x]) d = slid1 (b : Int) (L ++ [x]) (x + 1) := slid1_past hx _ d rfl h
theorem lie1_of {b : Nat} {L : List Int} {d : Int} : (slid1 (b : Int) L d = b ∧ lie1 (b : Int) L d = -1) ∨ (slid1 (b : Int) L d ≠ b ∧ lie1 (b : Int) L d = slid1 (b : Int) L d) := by
  unfold lie1
  by_cases h : slid1 (b : Int) L d = b
  · exact .inl ⟨h, if_pos h⟩
  · exact .inr ⟨h, if_neg h⟩
def SameS (s t : List Int × Int) : Prop := Same s.1 t.1 ∧ s.2 = t.2
theorem step1_same {b : Int} {s t : List Int × Int} (h : SameS s t) (d : Int) : SameS (step1 b s d) (step1 b t d) := by
  have e := slid1_same (b := b) h.1 d
  refine ⟨?_, by simp only [step1, e, h.2]⟩
  simp only [step1, lie1, e]
  exact h.1.snoc _
theorem step1_swap {b : Nat} (s : List Int × Int) {x y : Int} (hx : 0 ≤ x ∧ x < (b : Int)) (hy : 0 ≤ y ∧ y < (b : Int)) : SameS (step1 (b : Int) (step1 (b : Int) s x) y) (step1 (b : Int) (step1 (b : Int) s y) x) := by
  obtain ⟨L, f⟩ := s
  have bx := slid1_bd (places := (b : Int)) (L := L) (at_ := x) (by omega)
  have by_ := slid1_bd (places := (b : Int)) (L := L) (at_ := y) (by omega)
  by_cases hxy : slid1 (b : Int) L x = slid1 (b : Int) L y ∧ slid1 (b : Int) L x < b
  · -- both stop at one place
    obtain ⟨h1, h2⟩ := hxy
    have lx : lie1 (b : Int) L x = slid1 (b : Int) L x := by rcases lie1_of (b := b) (L := L) (d := x) with h | h; · omega
                                                             exact h.2
    have ly : lie1 (b : Int) L y = slid1 (b : Int) L x := by rcases lie1_of (b := b) (L := L) (d := y) with h | h; · omega
                                                             rw [h.2, h1]
    have ey := slid1_hit (b := b) (L := L) (d := y) h2 h1.symm
    have ex := slid1_hit (b := b) (L := L) (d := x) h2 rfl
    have e : slid1 (b : Int) (L ++ [slid1 (b : Int) L x]) y = slid1 (b : Int) (L ++ [slid1 (b : Int) L x]) x := ey.trans ex.symm
    refine ⟨?_, ?_⟩
    · simp only [step1, lx, ly]
      unfold lie1
      rw [e]
      exact Same.rfl_ _
    · simp only [step1, lx, ly, e]
      omega
  · -- each stops where it would
    have hx1 : slid1 (b : Int) (L ++ [lie1 (b : Int) L y]) x = slid1 (b : Int) L x := by
      refine slid1_ne ?_
      rcases lie1_of (b := b) (L := L) (d := y) with h | h
      · rw [h.2]; omega
      · rw [h.2]; intro e; exact hxy ⟨e, by omega⟩
    have hy1 : slid1 (b : Int) (L ++ [lie1 (b : Int) L x]) y = slid1 (b : Int) L y := by
      refine slid1_ne ?_
      rcases lie1_of (b := b) (L := L) (d := x) with h | h
      · rw [h.2]; omega
      · rw [h.2]; intro e; exact hxy ⟨e.symm, by omega⟩
    refine ⟨?_, ?_⟩
    · have e1 : lie1 (b : Int) (L ++ [lie1 (b : Int) L x]) y = lie1 (b : Int) L y := by unfold lie1; unfold lie1 at hy1; rw [hy1]
      have e2 : lie1 (b : Int) (L ++ [lie1 (b : Int) L y]) x = lie1 (b : Int) L x := by unfold lie1; unfold lie1 at hx1; rw [hx1]
      simp only [step1, e1, e2]
      exact Same.flip _ _ (Same.rfl_ L)
    · simp only [step1, hx1, hy1]
      omega
theorem fold1_same {b : Int} (l : List Int) : ∀ {s t : List Int × Int}, SameS s t → SameS (l.foldl (step1 b) s) (l.foldl (step1 b) t) := by
  induction l with
  | nil => intro s t h; exact h
  | cons d l ih => intro s t h; exact ih (step1_same h d)
theorem SameS.trans_ {s t u : List Int × Int} (h : SameS s t) (k : SameS t u) : SameS s u := ⟨fun x => (h.1 x).trans (k.1 x), h.2.trans k.2⟩
theorem fold1_perm {b : Nat} {l m : List Int} (h : l.Perm m) : (∀ d ∈ l, 0 ≤ d ∧ d < (b : Int)) → ∀ s : List Int × Int, SameS (l.foldl (step1 (b : Int)) s) (m.foldl (step1 (b : Int)) s) := by
  induction h with
  | nil => intro _ s; exact ⟨Same.rfl_ _, rfl⟩
  | cons x _ ih => intro hd s; exact ih (fun d h => hd d (by simp [h])) _
  | swap x y l =>
    intro hd s
    exact fold1_same l (step1_swap s (hd y (by simp)) (hd x (by simp)))
  | trans h1 _ i1 i2 => intro hd s; exact (i1 hd s).trans_ (i2 (fun d h => hd d (h1.mem_iff.2 h)) s)
theorem fullIn_congr {L M : List Int} (h : Same L M) (n : Nat) : fullIn L n = fullIn M n := by
  unfold fullIn
  refine List.filter_congr fun x _ => ?_
  unfold inL
  simp only [h x]
theorem perm_ledge {b : Nat} {l m : List Int} (h : l.Perm m) (hd : ∀ d ∈ l, 0 ≤ d ∧ d < (b : Int)) : fullOf (b : Int) l = fullOf (b : Int) m ∧ fellOf (b : Int) l = fellOf (b : Int) m ∧ farOf (b : Int) l = farOf (b : Int) m := by
  have h1 := fold1_perm h hd ([], 0)
  have h2 : fullOf (b : Int) l = fullOf (b : Int) m := by rw [fullOf_eq, fullOf_eq]; exact fullIn_congr h1.1 b
  exact ⟨h2, by unfold fellOf; rw [h2, h.length_eq], h1.2⟩
end Go.Proofs.Ytkeiajncmhkdmaa
