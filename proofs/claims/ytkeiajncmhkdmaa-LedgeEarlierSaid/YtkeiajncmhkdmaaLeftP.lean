/-
  Plain facts of what 'left' reckons: blocks of places that follow one another, and in how many orders they are mixed.
-/
import Derived.Test.YtkeiajncmhkdmaaInc
namespace Go.Proofs.Ytkeiajncmhkdmaa

def keyQ (l : List Int) (q : Int) : Int × Int := (q + 1 - runR l q, runR l q)
def pwI (m : Int) : Int := (((m + 1).toNat ^ (m - 1).toNat : Nat) : Int)
def isKeyQ (l : List Int) (p : Int × Int) (q : Int) : Bool := decide (p = keyQ l q)
def fS (l S : List Int) (p : Int × Int) : Option Int := (S.find? (isKeyQ l p)).map fun q => pwI (runR l q)
theorem keyQ_inj {l : List Int} {q r : Int} (h : keyQ l q = keyQ l r) : q = r := by
  have h1 := congrArg Prod.fst h
  have h2 := congrArg Prod.snd h
  simp only [keyQ] at h1 h2
  omega
theorem fS_some {l S : List Int} {p : Int × Int} {c : Int} (h : fS l S p = some c) : ∃ q, q ∈ S ∧ p = keyQ l q ∧ c = pwI (runR l q) := by
  unfold fS at h
  rw [Option.map_eq_some_iff] at h
  obtain ⟨q, h1, h2⟩ := h
  have h3 := List.find?_some h1
  exact ⟨q, List.mem_of_find?_eq_some h1, of_decide_eq_true h3, h2.symm⟩
theorem fS_key {l S : List Int} {q : Int} (h : q ∈ S) : fS l S (keyQ l q) = some (pwI (runR l q)) := by
  unfold fS
  cases hf : S.find? (isKeyQ l (keyQ l q)) with
  | none =>
    have := List.find?_eq_none.1 hf q h
    simp [isKeyQ] at this
  | some r =>
    have h0 := List.find?_some hf
    have h1 : keyQ l q = keyQ l r := by unfold isKeyQ at h0; exact of_decide_eq_true h0
    rw [← keyQ_inj h1]
    rfl
theorem fS_none {l S : List Int} {p : Int × Int} (h : ∀ q ∈ S, p ≠ keyQ l q) : fS l S p = none := by
  unfold fS
  rw [List.find?_eq_none.2 (fun q hq => by simp [isKeyQ, h q hq])]
  rfl
theorem fS_isSome {l S : List Int} {p : Int × Int} : (fS l S p).isSome = true ↔ ∃ q, q ∈ S ∧ p = keyQ l q := by
  constructor
  · intro h
    obtain ⟨c, hc⟩ := Option.isSome_iff_exists.1 h
    obtain ⟨q, h1, h2, _⟩ := fS_some hc
    exact ⟨q, h1, h2⟩
  · rintro ⟨q, h1, rfl⟩
    rw [fS_key h1]
    rfl
theorem fS_ext {l S T : List Int} (h : ∀ q, q ∈ S ↔ q ∈ T) : fS l S = fS l T := by
  funext p
  by_cases hp : ∃ q, q ∈ S ∧ p = keyQ l q
  · obtain ⟨q, h1, rfl⟩ := hp
    rw [fS_key h1, fS_key ((h q).1 h1)]
  · rw [fS_none (fun q hq e => hp ⟨q, hq, e⟩), fS_none (fun q hq e => hp ⟨q, (h q).2 hq, e⟩)]
theorem fS_nil (l : List Int) : fS l [] = fun _ => none := rfl
theorem fS_snoc (l S : List Int) (x : Int) (p : Int × Int) : fS l (S ++ [x]) p = if p = keyQ l x then some (pwI (runR l x)) else fS l S p := by
  by_cases hp : p = keyQ l x
  · rw [if_pos hp, hp, fS_key (by simp)]
  · rw [if_neg hp]
    by_cases hq : ∃ q, q ∈ S ∧ p = keyQ l q
    · obtain ⟨q, h1, rfl⟩ := hq
      rw [fS_key h1, fS_key (by simp [h1])]
    · rw [fS_none (fun q h e => hq ⟨q, h, e⟩), fS_none (fun q h e => by
        rcases List.mem_append.1 h with h | h
        · exact hq ⟨q, h, e⟩
        · obtain rfl := List.mem_singleton.1 h
          exact hp e)]
def isNot (q r : Int) : Bool := decide (r ≠ q)
theorem fS_cut (l S : List Int) (q : Int) (p : Int × Int) : fS l (S.filter (isNot q)) p = if p = keyQ l q then none else fS l S p := by
  by_cases hp : p = keyQ l q
  · rw [if_pos hp, fS_none (fun r hr e => by
      have h1 := (List.mem_filter.1 hr).2
      have h2 := keyQ_inj (hp.symm.trans e)
      simp [isNot, h2] at h1)]
  · rw [if_neg hp]
    by_cases hq : ∃ r, r ∈ S ∧ p = keyQ l r
    · obtain ⟨r, h1, rfl⟩ := hq
      rw [fS_key h1, fS_key (List.mem_filter.2 ⟨h1, by
        unfold isNot
        exact decide_eq_true (fun e => hp (by rw [e]))⟩)]
    · rw [fS_none (fun r h e => hq ⟨r, (List.mem_filter.1 h).1, e⟩), fS_none (fun r h e => hq ⟨r, h, e⟩)]

/-- One place more. -/
def stepQ (s k : Nat) : Bool := match (listed s)[k]? with
  | none => true
  | some x => decide (0 ≤ x ∧ x < 8 ∧ 1 ≤ runR (listed s) x ∧ runR (listed s) x ≤ 8) && (match k with
    | 0 => decide (keyQ (listed s) x = (x, 1))
    | j + 1 => match (listed s)[j]? with
      | none => false
      | some y => decide (y < x) && (if y + 1 < x then decide (keyQ (listed s) x = (x, 1)) else decide (keyQ (listed s) x = ((keyQ (listed s) y).1, (keyQ (listed s) y).2 + 1))))
theorem stepQ_all : (List.range 256).all (fun s => (List.range 8).all (stepQ s)) = true := by decide +kernel
theorem stepQ_at {s k : Nat} (hs : s < 256) (hk : k < 8) : stepQ s k = true := List.all_eq_true.1 (List.all_eq_true.1 stepQ_all s (List.mem_range.2 hs)) k (List.mem_range.2 hk)
theorem quBd {s k : Nat} {x : Int} (hs : s < 256) (h : (listed s)[k]? = some x) : 0 ≤ x ∧ x < 8 ∧ 1 ≤ runR (listed s) x ∧ runR (listed s) x ≤ 8 := by
  have hk : k < 8 := Nat.lt_of_lt_of_le (List.getElem?_eq_some_iff.1 h).1 (listedIn_le s 8)
  have h1 := stepQ_at hs hk
  unfold stepQ at h1
  rw [h] at h1
  simp only [Bool.and_eq_true, decide_eq_true_eq] at h1
  exact h1.1
theorem quFirst {s : Nat} {x : Int} (hs : s < 256) (h : (listed s)[0]? = some x) : keyQ (listed s) x = (x, 1) := by
  have h1 := stepQ_at hs (by omega : 0 < 8)
  unfold stepQ at h1
  rw [h] at h1
  simp only [Bool.and_eq_true, decide_eq_true_eq] at h1
  exact h1.2
theorem quNext {s k : Nat} {x y : Int} (hs : s < 256) (h : (listed s)[k + 1]? = some x) (hy : (listed s)[k]? = some y) :
    y < x ∧ (y + 1 < x → keyQ (listed s) x = (x, 1)) ∧ (¬ y + 1 < x → keyQ (listed s) x = ((keyQ (listed s) y).1, (keyQ (listed s) y).2 + 1)) := by
  have hk : k + 1 < 8 := Nat.lt_of_lt_of_le (List.getElem?_eq_some_iff.1 h).1 (listedIn_le s 8)
  have h1 := stepQ_at hs hk
  unfold stepQ at h1
  rw [h] at h1
  simp only [Bool.and_eq_true, decide_eq_true_eq, hy] at h1
  obtain ⟨_, h2, h3⟩ := h1
  refine ⟨h2, fun hlt => ?_, fun hlt => ?_⟩
  · rw [if_pos hlt] at h3; exact of_decide_eq_true h3
  · rw [if_neg hlt] at h3; exact of_decide_eq_true h3
theorem pwI_bd {m : Int} (h : 1 ≤ m ∧ m ≤ 8) : 1 ≤ pwI m ∧ pwI m ≤ 4782969 := by
  have : m = 1 ∨ m = 2 ∨ m = 3 ∨ m = 4 ∨ m = 5 ∨ m = 6 ∨ m = 7 ∨ m = 8 := by omega
  rcases this with h | h | h | h | h | h | h | h <;> subst h <;> decide

/-! ### Mixing the blocks -/
def innerAt (o m : Int) : Nat → Int
  | 0 => o
  | i + 1 => innerAt o m i * (m + i + 1) / (i + 1)
def inner1 (o m : Int) (i : Nat) : Bool := decide (0 ≤ innerAt o m i) && decide (innerAt o m i ≤ 1000000000000) && decide (innerAt o m i * (m + i + 1) ≤ 1000000000000)
def isEnd (l : List Int) (q : Int) : Bool := decide (q + 1 ∉ l)
def endsOf (l : List Int) : List Int := l.filter (isEnd l)
def explore (l : List Int) (t : Int) : Nat → List Int → Int → Int → Bool
  | 0, rem, o, _ => rem.isEmpty && o == t
  | f + 1, rem, o, m => (!rem.isEmpty || o == t) && decide (0 ≤ o) && decide (o ≤ 1000000000) && decide (0 ≤ m) && decide (m ≤ 100) && rem.all fun q =>
      (List.range (runR l q).toNat).all (inner1 (o * pwI (runR l q)) m) && explore l t f (rem.filter (isNot q)) (innerAt (o * pwI (runR l q)) m (runR l q).toNat) (m + runR l q)
theorem explore_all : (List.range 256).all (fun s => explore (listed s) (leftAt s) 9 (endsOf (listed s)) 1 0) = true := by decide +kernel
theorem explore_at {s : Nat} (hs : s < 256) : explore (listed s) (leftAt s) 9 (endsOf (listed s)) 1 0 = true := List.all_eq_true.1 explore_all s (List.mem_range.2 hs)
theorem explore_end {l : List Int} {t o m : Int} {f : Nat} (h : explore l t f [] o m = true) : o = t := by
  cases f with
  | zero => simpa [explore] using h
  | succ f => simp [explore] at h; exact h.1.1.1.1
theorem explore_step {l : List Int} {t o m : Int} {f : Nat} {rem : List Int} {q : Int} (h : explore l t f rem o m = true) (hq : q ∈ rem) :
    ∃ g, f = g + 1 ∧ (0 ≤ o ∧ o ≤ 1000000000 ∧ 0 ≤ m ∧ m ≤ 100) ∧ (∀ i : Nat, i < (runR l q).toNat → 0 ≤ innerAt (o * pwI (runR l q)) m i ∧ innerAt (o * pwI (runR l q)) m i ≤ 1000000000000 ∧ innerAt (o * pwI (runR l q)) m i * (m + i + 1) ≤ 1000000000000) ∧
      explore l t g (rem.filter (isNot q)) (innerAt (o * pwI (runR l q)) m (runR l q).toNat) (m + runR l q) = true := by
  cases f with
  | zero =>
    simp only [explore, Bool.and_eq_true, List.isEmpty_iff] at h
    rw [h.1] at hq
    cases hq
  | succ g =>
    simp only [explore, Bool.and_eq_true, decide_eq_true_eq] at h
    obtain ⟨⟨⟨⟨⟨_, h1⟩, h2⟩, h3⟩, h4⟩, h5⟩ := h
    have h6 := List.all_eq_true.1 h5 q hq
    simp only [Bool.and_eq_true] at h6
    refine ⟨g, rfl, ⟨h1, h2, h3, h4⟩, fun i hi => ?_, h6.2⟩
    have h7 := List.all_eq_true.1 h6.1 i (List.mem_range.2 hi)
    simp only [inner1, Bool.and_eq_true, decide_eq_true_eq] at h7
    exact ⟨h7.1.1, h7.1.2, h7.2⟩
/-! ### What is still to come -/
def anyQ (l rem : List Int) (p : Int × Int) : Bool := rem.any (isKeyQ l p)
theorem anyQ_iff {l rem : List Int} {p : Int × Int} : anyQ l rem p = true ↔ ∃ q, q ∈ rem ∧ p = keyQ l q := by
  unfold anyQ
  rw [List.any_eq_true]
  simp only [isKeyQ, decide_eq_true_eq]
theorem anyQ_start (l S : List Int) : (fun p => (fS l S p).isSome) = anyQ l S := by
  funext p
  rw [Bool.eq_iff_iff, fS_isSome, anyQ_iff]
theorem anyQ_cut (l rem : List Int) (q : Int) : (fun p => anyQ l rem p && !decide (p = keyQ l q)) = anyQ l (rem.filter (isNot q)) := by
  funext p
  rw [Bool.eq_iff_iff]
  simp only [Bool.and_eq_true, anyQ_iff, Bool.not_eq_true', decide_eq_false_iff_not, List.mem_filter, isNot, decide_eq_true_eq]
  constructor
  · rintro ⟨⟨r, h1, rfl⟩, h2⟩
    exact ⟨r, ⟨h1, fun e => h2 (by rw [e])⟩, rfl⟩
  · rintro ⟨r, ⟨h1, h2⟩, rfl⟩
    exact ⟨⟨r, h1, rfl⟩, fun e => h2 (keyQ_inj e)⟩
theorem anyQ_none {l rem : List Int} {P : Int × Int → Prop} (hP : ∀ q ∈ rem, P (keyQ l q)) (h : ∀ p, P p → anyQ l rem p = false) : rem = [] := by
  cases rem with
  | nil => rfl
  | cons q r =>
    have h1 := h _ (hP q (by simp))
    have h2 : anyQ l (q :: r) (keyQ l q) = true := anyQ_iff.2 ⟨q, by simp, rfl⟩
    rw [h2] at h1
    cases h1
def keepB (l rem : List Int) (q : Int) : Bool := decide (q ∈ rem) || decide (q + 1 ∉ l)
theorem keep_all (l : List Int) : fS l (l.filter (keepB l l)) = fS l l := fS_ext fun q => by simp [keepB]; exact fun h => .inl h
theorem keep_none (l : List Int) : fS l (l.filter (keepB l [])) = fS l (endsOf l) := fS_ext fun q => by simp [keepB, endsOf, isEnd]
theorem keep_stays {l rem : List Int} {q : Int} (h : q + 1 ∉ l) : fS l (l.filter (keepB l rem)) = fS l (l.filter (keepB l (rem.filter (isNot q)))) := fS_ext fun r => by
  simp only [List.mem_filter, keepB, Bool.or_eq_true, decide_eq_true_eq, isNot]
  constructor
  · rintro ⟨h1, h2 | h2⟩
    · by_cases e : r = q
      · subst e; exact ⟨h1, .inr h⟩
      · exact ⟨h1, .inl ⟨h2, e⟩⟩
    · exact ⟨h1, .inr h2⟩
  · rintro ⟨h1, ⟨h2, _⟩ | h2⟩
    · exact ⟨h1, .inl h2⟩
    · exact ⟨h1, .inr h2⟩
theorem keep_cut {l rem : List Int} {q : Int} (h : q + 1 ∈ l) : (fun p => if p = keyQ l q then none else fS l (l.filter (keepB l rem)) p) = fS l (l.filter (keepB l (rem.filter (isNot q)))) := by
  have e : (fun p => if p = keyQ l q then none else fS l (l.filter (keepB l rem)) p) = fS l ((l.filter (keepB l rem)).filter (isNot q)) := by
    funext p
    rw [fS_cut]
  rw [e]
  refine fS_ext fun r => ?_
  simp only [List.mem_filter, keepB, Bool.or_eq_true, decide_eq_true_eq, isNot]
  constructor
  · rintro ⟨⟨h1, h2 | h2⟩, h3⟩
    · exact ⟨h1, .inl ⟨h2, h3⟩⟩
    · exact ⟨h1, .inr h2⟩
  · rintro ⟨h1, ⟨h2, h3⟩ | h2⟩
    · exact ⟨⟨h1, .inl h2⟩, h3⟩
    · exact ⟨⟨h1, .inr h2⟩, fun e => by subst e; exact h2 h⟩
/-- What is known of a place of the list. -/
theorem key_bd {s : Nat} (hs : s < 256) {q : Int} (h : q ∈ listed s) : -8 ≤ (keyQ (listed s) q).1 ∧ (keyQ (listed s) q).1 ≤ 8 ∧ 1 ≤ (keyQ (listed s) q).2 ∧ (keyQ (listed s) q).2 ≤ 8 ∧ (keyQ (listed s) q).1 + (keyQ (listed s) q).2 = q + 1 := by
  obtain ⟨k, hk⟩ := List.getElem?_of_mem h
  have := quBd hs hk
  simp only [keyQ]
  omega
theorem innerAt_succ (o m : Int) (i : Nat) : innerAt o m (i + 1) = innerAt o m i * (m + i + 1) / (i + 1) := rfl
end Go.Proofs.Ytkeiajncmhkdmaa
