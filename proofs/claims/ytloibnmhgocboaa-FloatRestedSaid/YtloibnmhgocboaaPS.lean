/-
  The plain functions of the claim: what the program and the reference compute, on integers and lists. No program in sight.
  Plain functions of the claim, second part: the fewest coins out of a stock, the best change, what is taken greedily.
  Plain functions of the claim, third part: heights, ways, the least amount of each rest.
  Plain functions of the claim, fourth part: the least amount of each rest; no such amount is great.
  What each exported function answers, errors too: plain functions.
-/
import Derived.Below
namespace Go.Proofs.Ytloibnmhgocboaa

def nth (xs : List Int) (k : Nat) : Int := xs[k]?.getD 0
theorem nth_some {xs : List Int} {k : Nat} {x : Int} (h : xs[k]? = some x) : nth xs k = x := by rw [nth, h]; rfl
theorem some_nth {xs : List Int} {k : Nat} (h : k < xs.length) : xs[k]? = some (nth xs k) := by rw [nth, List.getElem?_eq_getElem h]; rfl
theorem nth_mem {xs : List Int} {k : Nat} (h : k < xs.length) : nth xs k ∈ xs := List.mem_of_getElem? (some_nth h)
theorem nth_append_left {xs ys : List Int} {k : Nat} (h : k < xs.length) : nth (xs ++ ys) k = nth xs k := by unfold nth; rw [List.getElem?_append_left h]
theorem nth_snoc {xs : List Int} {y : Int} {k : Nat} (h : k = xs.length) : nth (xs ++ [y]) k = y := by subst h; unfold nth; simp
theorem nth_out {xs : List Int} {k : Nat} (h : xs.length ≤ k) : nth xs k = 0 := by unfold nth; rw [List.getElem?_eq_none h]; rfl
theorem snoc_induction {p : List Int → Prop} (h0 : p []) (h1 : ∀ l d, p l → p (l ++ [d])) (l : List Int) : p l := by
  have h : ∀ (n : Nat) (l : List Int), l.length = n → p l := by
    intro n
    induction n with
    | zero => intro l hl; rw [List.eq_nil_of_length_eq_zero hl]; exact h0
    | succ n ih =>
      intro l hl
      have hne : l ≠ [] := by intro e; rw [e] at hl; cases hl
      rw [← List.dropLast_concat_getLast hne]
      exact h1 _ _ (ih _ (by rw [List.length_dropLast, hl]; rfl))
  exact h _ l rfl
theorem take_snoc {α : Type} {l : List α} {k : Nat} {x : α} (h : l[k]? = some x) : l.take (k + 1) = l.take k ++ [x] := by rw [List.take_add_one, h]; rfl

/-! ### Coins -/
def outB (lo hi x : Int) : Bool := decide (x < lo) || decide (hi < x)
def ascB (cs : List Int) : Bool := (List.range (cs.length - 1)).all fun i => decide (nth cs i < nth cs (i + 1))
def checkCoins (cs : List Int) : Int := if cs.length < 1 ∨ 5 < cs.length then 6 else if cs.any (outB 1 50) then 3 else if ascB cs then 0 else 2
structure Good (cs : List Int) : Prop where
  lo : 1 ≤ cs.length
  hi : cs.length ≤ 5
  all : ∀ c ∈ cs, 1 ≤ c ∧ c ≤ 50
  asc : ∀ i : Nat, i + 1 < cs.length → nth cs i < nth cs (i + 1)
theorem any_out {lo hi : Int} {xs : List Int} : xs.any (outB lo hi) = false ↔ ∀ x ∈ xs, lo ≤ x ∧ x ≤ hi := by
  simp only [List.any_eq_false, outB, Bool.or_eq_true, decide_eq_true_eq, not_or, Int.not_lt]
theorem ascB_iff {cs : List Int} : ascB cs = true ↔ ∀ i : Nat, i + 1 < cs.length → nth cs i < nth cs (i + 1) := by
  simp only [ascB, List.all_eq_true, List.mem_range, decide_eq_true_eq]
  exact ⟨fun h i hi => h i (by omega), fun h i hi => h i (by omega)⟩
theorem checkCoins_good {cs : List Int} : checkCoins cs = 0 ↔ Good cs := by
  unfold checkCoins
  constructor
  · intro h
    split at h
    · cases h
    · split at h
      · cases h
      · split at h
        · rename_i h1 h2 h3
          exact ⟨by omega, by omega, any_out.1 (by simpa using h2), ascB_iff.1 h3⟩
        · cases h
  · intro h
    rw [if_neg (by have := h.lo; have := h.hi; omega), any_out.2 h.all, ascB_iff.2 h.asc]
    rfl
theorem checkCoins_cases (cs : List Int) : checkCoins cs = 0 ∨ checkCoins cs = 6 ∨ checkCoins cs = 3 ∨ checkCoins cs = 2 := by
  unfold checkCoins
  split
  · simp
  · split
    · simp
    · split <;> simp

/-! ### The fewest coins -/
def fewStep (L : List Int) (a b c : Int) : Int := if a < c ∨ nth L (a - c).toNat < 0 then b else if b < 0 ∨ nth L (a - c).toNat + 1 < b then nth L (a - c).toNat + 1 else b
def fewL (cs : List Int) : Nat → List Int
  | 0 => [0]
  | n + 1 => fewL cs n ++ [cs.foldl (fewStep (fewL cs n) (n + 1 : Nat)) (-1)]
def few (cs : List Int) (a : Nat) : Int := nth (fewL cs a) a
theorem fewL_len (cs : List Int) (n : Nat) : (fewL cs n).length = n + 1 := by
  induction n with
  | zero => rfl
  | succ n ih => simp [fewL, ih]
theorem nth_fewL (cs : List Int) {n k : Nat} (h : k ≤ n) : nth (fewL cs n) k = few cs k := by
  induction n with
  | zero => obtain rfl : k = 0 := by omega
            rfl
  | succ n ih =>
    rcases Nat.lt_or_ge k (n + 1) with hk | hk
    · rw [← ih (by omega), fewL, nth_append_left (by rw [fewL_len]; omega)]
    · obtain rfl : k = n + 1 := by omega
      rfl
theorem few_zero (cs : List Int) : few cs 0 = 0 := rfl
theorem few_succ (cs : List Int) (n : Nat) : few cs (n + 1) = cs.foldl (fewStep (fewL cs n) (n + 1 : Nat)) (-1) := by
  rw [few, fewL, nth_snoc (by rw [fewL_len])]

/-! ### Sums -/
def dot : List Int → List Int → Int
  | c :: cs, v :: vs => c * v + dot cs vs
  | _, _ => 0
structure Pays (cs v : List Int) (a m : Int) : Prop where
  len : v.length = cs.length
  pos : ∀ x ∈ v, 0 ≤ x
  amount : dot cs v = a
  many : v.sum = m
theorem Pays.nil_ : Pays [] [] 0 0 := ⟨rfl, by simp, rfl, rfl⟩
theorem Pays.cons_ {cs v : List Int} {a m c x : Int} (h : Pays cs v a m) (hx : 0 ≤ x) : Pays (c :: cs) (x :: v) (c * x + a) (x + m) :=
  ⟨by simp [h.len], fun y hy => by rcases List.mem_cons.1 hy with rfl | hy; exact hx; exact h.pos y hy, by rw [dot, h.amount], by rw [List.sum_cons, h.many]⟩
theorem Pays.uncons {cs v : List Int} {a m c : Int} (h : Pays (c :: cs) v a m) : ∃ x v', v = x :: v' ∧ 0 ≤ x ∧ Pays cs v' (a - c * x) (m - x) := by
  match v, h with
  | [], h => have := h.len; cases this
  | x :: v', h =>
    refine ⟨x, v', rfl, h.pos x (by simp), ⟨by have := h.len; simpa using this, fun y hy => h.pos y (by simp [hy]), ?_, ?_⟩⟩
    · have := h.amount; rw [dot] at this; omega
    · have := h.many; rw [List.sum_cons] at this; omega
theorem Pays.amount_ge {cs v : List Int} {a m : Int} (hc : ∀ c ∈ cs, 1 ≤ c) (h : Pays cs v a m) : 0 ≤ m ∧ m ≤ a := by
  induction cs generalizing v a m with
  | nil =>
    obtain rfl : v = [] := List.eq_nil_of_length_eq_zero h.len
    have h1 := h.amount; have h2 := h.many
    simp [dot] at h1 h2
    omega
  | cons c cs ih =>
    obtain ⟨x, v', rfl, hx, h'⟩ := h.uncons
    have := ih (fun d hd => hc d (by simp [hd])) h'
    have h1 : 1 * x ≤ c * x := Int.mul_le_mul_of_nonneg_right (hc c (by simp)) hx
    omega
theorem Pays.zero (cs : List Int) : Pays cs (List.replicate cs.length 0) 0 0 := by
  induction cs with
  | nil => exact Pays.nil_
  | cons c cs ih =>
    have h := ih.cons_ (c := c) (x := 0) (Int.le_refl _)
    simpa [List.replicate_succ] using h
/-- One coin more of the kind c. -/
theorem Pays.add_ {cs v : List Int} {a m c : Int} (h : Pays cs v a m) (hc : c ∈ cs) : ∃ v', Pays cs v' (a + c) (m + 1) := by
  induction cs generalizing v a m with
  | nil => cases hc
  | cons d cs ih =>
    obtain ⟨x, v', rfl, hx, h'⟩ := h.uncons
    rcases List.mem_cons.1 hc with rfl | hc
    · refine ⟨(x + 1) :: v', ?_⟩
      have h1 := h'.cons_ (c := c) (x := x + 1) (by omega)
      rw [Int.mul_add, Int.mul_one] at h1
      rwa [show c * x + c + (a - c * x) = a + c by omega, show x + 1 + (m - x) = m + 1 by omega] at h1
    · obtain ⟨u, hu⟩ := ih h' hc
      refine ⟨x :: u, ?_⟩
      have h1 := hu.cons_ (c := d) hx
      rwa [show d * x + (a - d * x + c) = a + c by omega, show x + (m - x + 1) = m + 1 by omega] at h1
/-- One coin less. -/
theorem Pays.sub_ {cs v : List Int} {a m : Int} (h : Pays cs v a m) (hm : 0 < m) : ∃ c ∈ cs, ∃ v', Pays cs v' (a - c) (m - 1) := by
  induction cs generalizing v a m with
  | nil =>
    obtain rfl : v = [] := List.eq_nil_of_length_eq_zero h.len
    have h2 := h.many
    simp at h2
    omega
  | cons d cs ih =>
    obtain ⟨x, v', rfl, hx, h'⟩ := h.uncons
    by_cases h0 : x = 0
    · subst h0
      obtain ⟨c, hc, u, hu⟩ := ih h' (by omega)
      refine ⟨c, by simp [hc], 0 :: u, ?_⟩
      have h1 := hu.cons_ (c := d) (Int.le_refl 0)
      rwa [show d * 0 + (a - d * 0 - c) = a - c by omega, show (0 : Int) + (m - 0 - 1) = m - 1 by omega] at h1
    · refine ⟨d, by simp, (x - 1) :: v', ?_⟩
      have h1 := h'.cons_ (c := d) (x := x - 1) (by omega)
      rw [Int.mul_sub, Int.mul_one] at h1
      rwa [show d * x - d + (a - d * x) = a - d by omega, show x - 1 + (m - x) = m - 1 by omega] at h1

/-! ### 'few' is the least number -/
theorem fold_few (L : List Int) (a : Int) : ∀ (cs : List Int) (b : Int), (0 ≤ cs.foldl (fewStep L a) b → (cs.foldl (fewStep L a) b = b ∨ ∃ c ∈ cs, c ≤ a ∧ 0 ≤ nth L (a - c).toNat ∧ cs.foldl (fewStep L a) b = nth L (a - c).toNat + 1)) ∧
    (0 ≤ b → 0 ≤ cs.foldl (fewStep L a) b ∧ cs.foldl (fewStep L a) b ≤ b) ∧ (∀ c ∈ cs, c ≤ a → 0 ≤ nth L (a - c).toNat → 0 ≤ cs.foldl (fewStep L a) b ∧ cs.foldl (fewStep L a) b ≤ nth L (a - c).toNat + 1) ∧ (-1 ≤ b → -1 ≤ cs.foldl (fewStep L a) b)
  | [], b => ⟨fun _ => .inl rfl, fun h => ⟨h, Int.le_refl b⟩, (fun c hc => absurd hc (by simp)), fun h => h⟩
  | c :: cs, b => by
    obtain ⟨h1, h2, h3, h4⟩ := fold_few L a cs (fewStep L a b c)
    simp only [List.foldl_cons]
    have hst : (fewStep L a b c = b ∨ (c ≤ a ∧ 0 ≤ nth L (a - c).toNat ∧ fewStep L a b c = nth L (a - c).toNat + 1)) ∧ (0 ≤ b → 0 ≤ fewStep L a b c ∧ fewStep L a b c ≤ b) ∧ (c ≤ a → 0 ≤ nth L (a - c).toNat → 0 ≤ fewStep L a b c ∧ fewStep L a b c ≤ nth L (a - c).toNat + 1) := by
      unfold fewStep
      split
      · exact ⟨.inl rfl, fun h => ⟨h, Int.le_refl _⟩, fun h h' => by omega⟩
      · split
        · exact ⟨.inr ⟨by omega, by omega, rfl⟩, fun h => by omega, fun h h' => by omega⟩
        · exact ⟨.inl rfl, fun h => ⟨h, Int.le_refl _⟩, fun h h' => by omega⟩
    obtain ⟨s1, s2, s3⟩ := hst
    refine ⟨fun h0 => ?_, fun h0 => ?_, fun d hd hda hdn => ?_, fun h => h4 ?_⟩
    · rcases h1 h0 with e | ⟨d, hd, e⟩
      · rcases s1 with s1 | ⟨s1, s4, s5⟩
        · exact .inl (e.trans s1)
        · exact .inr ⟨c, by simp, s1, s4, e.trans s5⟩
      · exact .inr ⟨d, by simp [hd], e⟩
    · have := s2 h0
      have := h2 this.1
      omega
    · rcases List.mem_cons.1 hd with rfl | hd
      · have := s3 hda hdn
        have := h2 this.1
        omega
      · exact h3 d hd hda hdn
    · rcases s1 with s1 | ⟨s1, s4, s5⟩ <;> omega
theorem few_min {cs : List Int} (hc : ∀ c ∈ cs, 1 ≤ c) (a : Nat) : -1 ≤ few cs a ∧ (0 ≤ few cs a → ∃ v, Pays cs v a (few cs a)) ∧ ∀ v m, Pays cs v a m → 0 ≤ few cs a ∧ few cs a ≤ m := by
  induction a using Nat.strongRecOn with
  | ind a ih =>
    match a, ih with
    | 0, _ => exact ⟨by rw [few_zero]; omega, fun _ => ⟨_, Pays.zero cs⟩, fun v m h => by have := h.amount_ge hc; rw [few_zero]; omega⟩
    | n + 1, ih =>
      obtain ⟨h1, h2, h3, h4⟩ := fold_few (fewL cs n) ((n + 1 : Nat) : Int) cs (-1)
      rw [few_succ]
      have hn : ∀ c ∈ cs, c ≤ ((n + 1 : Nat) : Int) → (((n + 1 : Nat) : Int) - c).toNat < n + 1 ∧ nth (fewL cs n) (((n + 1 : Nat) : Int) - c).toNat = few cs (((n + 1 : Nat) : Int) - c).toNat ∧ (((((n + 1 : Nat) : Int) - c).toNat : Nat) : Int) = ((n + 1 : Nat) : Int) - c := fun c h h' => by
        have := hc c h
        exact ⟨by omega, nth_fewL cs (by omega), by omega⟩
      refine ⟨h4 (by omega), fun h0 => ?_, fun v m hv => ?_⟩
      · rcases h1 h0 with e | ⟨c, hcm, hca, hcn, e⟩
        · omega
        · obtain ⟨k1, k2, k3⟩ := hn c hcm hca
          rw [k2] at hcn e
          obtain ⟨v, hv⟩ := (ih _ k1).2.1 hcn
          obtain ⟨v', hv'⟩ := hv.add_ hcm
          rw [k3] at hv'
          rw [e]
          exact ⟨v', by rwa [show ((n + 1 : Nat) : Int) - c + c = ((n + 1 : Nat) : Int) by omega] at hv'⟩
      · have hm : 0 < m := by
          have h5 := hv.amount_ge hc
          rcases Int.lt_or_le 0 m with h | h
          · exact h
          · exfalso
            have hz : ∀ (cs v : List Int) (a : Int), Pays cs v a 0 → a = 0 := by
              intro cs
              induction cs with
              | nil => intro v a h; have := h.amount; cases v <;> simp [dot] at this <;> omega
              | cons c cs ih =>
                intro v a h
                obtain ⟨x, v', rfl, hx, h'⟩ := h.uncons
                have hs : 0 ≤ (0 : Int) - x := by
                  have := h'.many
                  rw [← this]
                  have : ∀ l : List Int, (∀ y ∈ l, 0 ≤ y) → 0 ≤ l.sum := fun l => by
                    induction l with
                    | nil => intro _; simp
                    | cons y l ih => intro h; rw [List.sum_cons]; have := h y (by simp); have := ih (fun z hz => h z (by simp [hz])); omega
                  exact this _ h'.pos
                obtain rfl : x = 0 := by omega
                have := ih v' _ (by simpa using h')
                omega
            have := hz cs v _ (by rwa [show m = 0 by omega] at hv)
            omega
        obtain ⟨c, hcm, v', hv'⟩ := hv.sub_ hm
        have h6 := hv'.amount_ge hc
        obtain ⟨k1, k2, k3⟩ := hn c hcm (by omega)
        have h7 := (ih _ k1).2.2 v' (m - 1) (by rw [k3]; exact hv')
        have h8 := h3 c hcm (by omega) (by rw [k2]; exact h7.1)
        rw [k2] at h8
        omega
theorem few_le {cs : List Int} (hc : ∀ c ∈ cs, 1 ≤ c) (a : Nat) : -1 ≤ few cs a ∧ few cs a ≤ a := by
  have h := few_min hc a
  refine ⟨h.1, ?_⟩
  rcases Int.lt_or_le (few cs a) 0 with h0 | h0
  · omega
  · obtain ⟨v, hv⟩ := h.2.1 h0
    have := hv.amount_ge hc
    omega
end Go.Proofs.Ytloibnmhgocboaa

namespace Go.Proofs.Ytloibnmhgocboaa

/-- The best of the first k numbers of a kind of value c; f: what the other kinds need. -/
def stepG (f : Int → Int) (c a : Int) : Nat → Int
  | 0 => -1
  | k + 1 => if 0 ≤ f (a - k * c) ∧ (stepG f c a k < 0 ∨ f (a - k * c) + k < stepG f c a k) then f (a - k * c) + k else stepG f c a k
def roundsG (s c a : Int) : Nat := (min s (a / c)).toNat + 1
/-- How few coins out of a stock pay an amount, -1: none do. -/
def gmin : List Int → List Int → Int → Int
  | c :: cs, s :: st, a => stepG (gmin cs st) c a (roundsG s c a)
  | _, _, a => if a = 0 then 0 else -1
/-- The first n, from 'n' on, for which p holds. -/
def firstN (p : Nat → Bool) : Nat → Nat → Nat
  | 0, n => n
  | f + 1, n => if p n then n else firstN p f (n + 1)
def chg : List Int → List Int → Int → Int → List Int
  | c :: cs, s :: st, a, left => (firstN (fun n => decide (gmin cs st (a - n * c) = left - n)) (left.toNat + 1) 0 : Int) ::
      chg cs st (a - (firstN (fun n => decide (gmin cs st (a - n * c) = left - n)) (left.toNat + 1) 0 : Nat) * c) (left - (firstN (fun n => decide (gmin cs st (a - n * c) = left - n)) (left.toNat + 1) 0 : Nat))
  | _, _, _, _ => []
theorem firstN_at {p : Nat → Bool} {m : Nat} (hm : p m = true) : ∀ (f n : Nat), n ≤ m → m < n + f → (∀ j, n ≤ j → j < m → p j = false) → firstN p f n = m := by
  intro f
  induction f with
  | zero => intro n h1 h2; omega
  | succ f ih =>
    intro n h1 h2 h3
    unfold firstN
    rcases Nat.lt_or_ge n m with h | h
    · rw [if_neg (by rw [h3 n (Nat.le_refl _) h]; decide)]
      exact ih (n + 1) (by omega) (by omega) (fun j hj => h3 j (by omega))
    · obtain rfl : n = m := by omega
      rw [if_pos hm]

/-- Within the stock. -/
def InS : List Int → List Int → Prop
  | x :: v, s :: st => x ≤ s ∧ InS v st
  | [], [] => True
  | _, _ => False
theorem stepG_facts (f : Int → Int) (c a : Int) (k : Nat) : -1 ≤ stepG f c a k ∧ (0 ≤ stepG f c a k → ∃ n : Nat, n < k ∧ 0 ≤ f (a - n * c) ∧ stepG f c a k = f (a - n * c) + n) ∧
    ∀ n : Nat, n < k → 0 ≤ f (a - n * c) → 0 ≤ stepG f c a k ∧ stepG f c a k ≤ f (a - n * c) + n := by
  induction k with
  | zero => exact ⟨by simp [stepG], fun h => by simp [stepG] at h, fun n h => by omega⟩
  | succ k ih =>
    obtain ⟨h1, h2, h3⟩ := ih
    unfold stepG
    split
    · rename_i h
      refine ⟨by omega, fun _ => ⟨k, by omega, h.1, rfl⟩, fun n hn h0 => ?_⟩
      rcases Nat.lt_or_ge n k with hk | hk
      · have := h3 n hk h0
        omega
      · obtain rfl : n = k := by omega
        omega
    · rename_i h
      refine ⟨h1, fun h0 => ?_, fun n hn h0 => ?_⟩
      · obtain ⟨n, hn, h4⟩ := h2 h0
        exact ⟨n, by omega, h4⟩
      · rcases Nat.lt_or_ge n k with hk | hk
        · exact h3 n hk h0
        · obtain rfl : n = k := by omega
          have : ¬ (stepG f c a n < 0 ∨ f (a - n * c) + n < stepG f c a n) := fun h' => h ⟨h0, h'⟩
          omega
theorem rounds_lt {s c a : Int} (hs : 0 ≤ s) (hc : 1 ≤ c) (ha : 0 ≤ a) (n : Nat) : n < roundsG s c a ↔ (n : Int) ≤ s ∧ (n : Int) * c ≤ a := by
  have h0 : 0 ≤ a / c := Int.ediv_nonneg ha (by omega)
  have h1 : (n : Int) ≤ a / c ↔ (n : Int) * c ≤ a := Int.le_ediv_iff_mul_le (by omega)
  unfold roundsG
  rw [← h1]
  omega
theorem gmin_min : ∀ (cs st : List Int) (a : Int), (∀ c ∈ cs, 1 ≤ c) → (∀ s ∈ st, 0 ≤ s) → st.length = cs.length → 0 ≤ a →
    -1 ≤ gmin cs st a ∧ (0 ≤ gmin cs st a → ∃ v, Pays cs v a (gmin cs st a) ∧ InS v st) ∧ ∀ v m, Pays cs v a m → InS v st → 0 ≤ gmin cs st a ∧ gmin cs st a ≤ m
  | [], [], a, _, _, _, ha => by
    unfold gmin
    split
    · rename_i h
      subst h
      exact ⟨by omega, fun _ => ⟨[], Pays.nil_, trivial⟩, fun v m h _ => by have := h.amount_ge (by simp); omega⟩
    · rename_i h
      refine ⟨by omega, fun h => by omega, fun v m hv _ => ?_⟩
      have h1 := hv.amount
      cases v <;> simp [dot] at h1 <;> omega
  | c :: cs, s :: st, a, hc, hs, hl, ha => by
    have hc1 := hc c (by simp)
    have hs0 := hs s (by simp)
    have ih := fun b hb => gmin_min cs st b (fun d hd => hc d (by simp [hd])) (fun d hd => hs d (by simp [hd])) (by simpa using hl) hb
    unfold gmin
    obtain ⟨h1, h2, h3⟩ := stepG_facts (gmin cs st) c a (roundsG s c a)
    refine ⟨h1, fun h0 => ?_, fun v m hv hin => ?_⟩
    · obtain ⟨n, hn, hf, he⟩ := h2 h0
      have hr := (rounds_lt hs0 hc1 ha n).1 hn
      obtain ⟨v, hv, hin⟩ := (ih (a - n * c) (by omega)).2.1 hf
      refine ⟨(n : Int) :: v, ?_, hr.1, hin⟩
      have h4 := hv.cons_ (c := c) (x := (n : Int)) (by omega)
      rw [Int.mul_comm c, show (n : Int) * c + (a - n * c) = a by omega, Int.add_comm (n : Int)] at h4
      rwa [he]
    · obtain ⟨x, v', rfl, hx, hv'⟩ := hv.uncons
      obtain ⟨n, rfl⟩ : ∃ n : Nat, x = n := ⟨x.toNat, by omega⟩
      have hge := hv'.amount_ge (fun d hd => hc d (by simp [hd]))
      rw [Int.mul_comm] at hv' hge
      have hn : n < roundsG s c a := (rounds_lt hs0 hc1 ha n).2 ⟨hin.1, by omega⟩
      have h4 := (ih (a - n * c) (by omega)).2.2 v' _ hv' hin.2
      have h5 := h3 n hn h4.1
      omega
  | [], _ :: _, _, _, _, hl, _ => by cases hl
  | _ :: _, [], _, _, _, hl, _ => by cases hl
theorem gmin_le {cs st : List Int} {a : Int} (hc : ∀ c ∈ cs, 1 ≤ c) (hs : ∀ s ∈ st, 0 ≤ s) (hl : st.length = cs.length) (ha : 0 ≤ a) : -1 ≤ gmin cs st a ∧ gmin cs st a ≤ a := by
  have h := gmin_min cs st a hc hs hl ha
  refine ⟨h.1, ?_⟩
  rcases Int.lt_or_le (gmin cs st a) 0 with h0 | h0
  · omega
  · obtain ⟨v, hv, _⟩ := h.2.1 h0
    have := hv.amount_ge hc
    omega
theorem stepG_le {f : Int → Int} {c a : Int} (hc : 1 ≤ c) {k : Nat} (hf : ∀ n : Nat, n < k → f (a - n * c) ≤ a - n * c) (hk : ∀ n : Nat, n < k → (n : Int) * c ≤ a) (ha : 0 ≤ a) : -1 ≤ stepG f c a k ∧ stepG f c a k ≤ a := by
  obtain ⟨h1, h2, _⟩ := stepG_facts f c a k
  refine ⟨h1, ?_⟩
  rcases Int.lt_or_le (stepG f c a k) 0 with h0 | h0
  · omega
  · obtain ⟨n, hn, _, he⟩ := h2 h0
    have := hf n hn
    have h3 : (n : Int) * 1 ≤ n * c := Int.mul_le_mul_of_nonneg_left hc (by omega)
    omega
theorem inS_all : ∀ (v st : List Int), v.length = st.length → (∀ i : Nat, i < v.length → nth v i ≤ nth st i) → InS v st
  | [], [], _, _ => trivial
  | x :: v, s :: st, hl, h => ⟨h 0 (by simp), inS_all v st (by simpa using hl) fun i hi => h (i + 1) (by simpa using hi)⟩
  | [], _ :: _, hl, _ => by cases hl
  | _ :: _, [], hl, _ => by cases hl
theorem sum_nonneg : ∀ l : List Int, (∀ y ∈ l, 0 ≤ y) → 0 ≤ l.sum
  | [], _ => by simp
  | y :: l, h => by rw [List.sum_cons]; have := h y (by simp); have := sum_nonneg l (fun z hz => h z (by simp [hz])); omega
theorem mem_le_sum : ∀ (l : List Int), (∀ y ∈ l, 0 ≤ y) → ∀ x ∈ l, x ≤ l.sum
  | [], _, x, hx => by cases hx
  | y :: l, h, x, hx => by
    rw [List.sum_cons]
    have h1 := h y (by simp)
    have h2 := sum_nonneg l (fun z hz => h z (by simp [hz]))
    rcases List.mem_cons.1 hx with rfl | hx
    · omega
    · have := mem_le_sum l (fun z hz => h z (by simp [hz])) x hx
      omega
/-- A great stock is none. -/
theorem gmin_few {cs : List Int} (hc : ∀ c ∈ cs, 1 ≤ c) {s : Int} {a : Nat} (hs : (a : Int) ≤ s) : gmin cs (List.replicate cs.length s) a = few cs a := by
  have h := few_min hc a
  have g := gmin_min cs (List.replicate cs.length s) a hc (fun x hx => by rw [List.eq_of_mem_replicate hx]; omega) (by simp) (by omega)
  have hin : ∀ v m, Pays cs v a m → InS v (List.replicate cs.length s) := fun v m hv => inS_all _ _ (by simp [hv.len]) fun i hi => by
    have h1 := hv.amount_ge hc
    have h2 := mem_le_sum v hv.pos _ (nth_mem hi)
    rw [hv.many] at h2
    have h3 : nth (List.replicate cs.length s) i = s := by rw [nth, List.getElem?_replicate, if_pos (by rw [← hv.len]; exact hi)]; rfl
    omega
  rcases Int.lt_or_le (few cs a) 0 with h0 | h0
  · rcases Int.lt_or_le (gmin cs (List.replicate cs.length s) a) 0 with h1 | h1
    · omega
    · obtain ⟨v, hv, _⟩ := g.2.1 h1
      have := h.2.2 v _ hv
      omega
  · obtain ⟨v, hv⟩ := h.2.1 h0
    have h1 := g.2.2 v _ hv (hin _ _ hv)
    obtain ⟨u, hu, _⟩ := g.2.1 h1.1
    have := h.2.2 u _ hu
    omega

/-- The first number of a kind that the best change has. -/
def pickN (cs st : List Int) (c a left : Int) : Nat := firstN (fun n => decide (gmin cs st (a - n * c) = left - n)) (left.toNat + 1) 0
theorem chg_cons (c s : Int) (cs st : List Int) (a left : Int) : chg (c :: cs) (s :: st) a left = (pickN cs st c a left : Int) :: chg cs st (a - pickN cs st c a left * c) (left - pickN cs st c a left) := rfl
/-- What is picked is found, within the stock, and no earlier one fits. -/
theorem pick_facts {c s : Int} {cs st : List Int} {a : Int} (hc : 1 ≤ c) (hs : 0 ≤ s) (ha : 0 ≤ a) {left : Int} (hl : gmin (c :: cs) (s :: st) a = left) (h0 : 0 ≤ left) :
    pickN cs st c a left < roundsG s c a ∧ gmin cs st (a - pickN cs st c a left * c) = left - pickN cs st c a left ∧ (pickN cs st c a left : Int) ≤ left ∧ ∀ j : Nat, j < pickN cs st c a left → gmin cs st (a - j * c) ≠ left - j := by
  have hd : gmin (c :: cs) (s :: st) a = stepG (gmin cs st) c a (roundsG s c a) := rfl
  obtain ⟨h1, h2, h3⟩ := stepG_facts (gmin cs st) c a (roundsG s c a)
  rw [← hd, hl] at h2
  obtain ⟨n, hn, hf, he⟩ := h2 h0
  -- the least such n
  have hex : ∀ k : Nat, (∃ n : Nat, n < k ∧ gmin cs st (a - n * c) = left - n) → ∃ n : Nat, n < k ∧ gmin cs st (a - n * c) = left - n ∧ ∀ j : Nat, j < n → gmin cs st (a - j * c) ≠ left - j := by
    intro k
    induction k with
    | zero => rintro ⟨n, h, _⟩; omega
    | succ k ih =>
      rintro ⟨n, h, h'⟩
      by_cases hx : ∃ n : Nat, n < k ∧ gmin cs st (a - n * c) = left - n
      · obtain ⟨m, h4, h5⟩ := ih hx
        exact ⟨m, by omega, h5⟩
      · obtain rfl : n = k := by
          rcases Nat.lt_or_ge n k with h6 | h6
          · exact absurd ⟨n, h6, h'⟩ hx
          · omega
        exact ⟨n, h, h', fun j hj e => hx ⟨j, hj, e⟩⟩
  obtain ⟨m, hm1, hm2, hm3⟩ := hex (n + 1) ⟨n, by omega, by omega⟩
  have hp : pickN cs st c a left = m := firstN_at (by simpa using hm2) _ 0 (by omega) (by omega) fun j _ hj => by simpa using hm3 j hj
  rw [hp]
  exact ⟨by omega, hm2, by omega, hm3⟩
theorem chg_len : ∀ (cs st : List Int) (a left : Int), st.length = cs.length → (chg cs st a left).length = cs.length
  | [], [], _, _, _ => rfl
  | c :: cs, s :: st, a, left, h => by rw [chg_cons]; simp [chg_len cs st _ _ (by simpa using h)]
  | [], _ :: _, _, _, h => by cases h
  | _ :: _, [], _, _, h => by cases h
theorem chg_pays : ∀ (cs st : List Int) (a left : Int), (∀ c ∈ cs, 1 ≤ c) → (∀ s ∈ st, 0 ≤ s) → st.length = cs.length → 0 ≤ a → gmin cs st a = left → 0 ≤ left → Pays cs (chg cs st a left) a left ∧ InS (chg cs st a left) st
  | [], [], a, left, _, _, _, ha, hl, h0 => by
    have : a = 0 := by
      unfold gmin at hl
      split at hl
      · assumption
      · omega
    subst this
    obtain rfl : left = 0 := hl.symm
    exact ⟨Pays.nil_, trivial⟩
  | c :: cs, s :: st, a, left, hc, hs, hlen, ha, hl, h0 => by
    obtain ⟨h1, h2, h3, _⟩ := pick_facts (hc c (by simp)) (hs s (by simp)) ha hl h0
    have hr := (rounds_lt (hs s (by simp)) (hc c (by simp)) ha _).1 h1
    rw [chg_cons]
    have ih := chg_pays cs st (a - pickN cs st c a left * c) (left - pickN cs st c a left) (fun d hd => hc d (by simp [hd])) (fun d hd => hs d (by simp [hd])) (by simpa using hlen) (by omega) h2 (by omega)
    refine ⟨?_, hr.1, ih.2⟩
    have h4 := ih.1.cons_ (c := c) (x := (pickN cs st c a left : Int)) (by omega)
    rwa [Int.mul_comm c, show (pickN cs st c a left : Int) * c + (a - pickN cs st c a left * c) = a by omega, show (pickN cs st c a left : Int) + (left - pickN cs st c a left) = left by omega] at h4
  | [], _ :: _, _, _, _, _, h, _, _, _ => by cases h
  | _ :: _, [], _, _, _, _, h, _, _, _ => by cases h

/-! ### Greedily -/
def greedyL : List Int → Int → List Int × Int
  | [], a => ([], a)
  | c :: cs, a => ((greedyL cs a).2 / c :: (greedyL cs a).1, (greedyL cs a).2 % c)
theorem greedy_facts : ∀ (cs : List Int) (a : Int), (∀ c ∈ cs, 1 ≤ c) → 0 ≤ a → Pays cs (greedyL cs a).1 (a - (greedyL cs a).2) ((greedyL cs a).1.sum) ∧ 0 ≤ (greedyL cs a).2 ∧ (greedyL cs a).2 ≤ a
  | [], a, _, ha => ⟨by simpa [greedyL] using Pays.nil_, ha, Int.le_refl _⟩
  | c :: cs, a, hc, ha => by
    obtain ⟨h1, h2, h3⟩ := greedy_facts cs a (fun d hd => hc d (by simp [hd])) ha
    have hc1 := hc c (by simp)
    have hq : 0 ≤ (greedyL cs a).2 / c := Int.ediv_nonneg h2 (by omega)
    have hm := Int.emod_nonneg (greedyL cs a).2 (b := c) (by omega)
    have hd := Int.mul_ediv_add_emod (greedyL cs a).2 c
    have hle : 0 ≤ c * ((greedyL cs a).2 / c) := Int.mul_nonneg (by omega) hq
    simp only [greedyL]
    refine ⟨?_, hm, by omega⟩
    have h4 := h1.cons_ (c := c) hq
    rwa [show c * ((greedyL cs a).2 / c) + (a - (greedyL cs a).2) = a - (greedyL cs a).2 % c by omega, ← List.sum_cons] at h4
end Go.Proofs.Ytloibnmhgocboaa

namespace Go.Proofs.Ytloibnmhgocboaa

/-! ### Heights -/
def highOf (x : Int) : Int := if x < 0 then 1000 else x
def heightsL (cs : List Int) (n : Nat) : List Int := (fewL cs n).map highOf
def riseB (cs hs : List Int) : Bool := cs.all fun c => (List.range (hs.length - c.toNat)).all fun i => decide (nth hs (i + c.toNat) ≤ nth hs i + 1)
def checkHeights (cs hs : List Int) : Int :=
  if checkCoins cs = 0 then (if hs.length < 1 ∨ 301 < hs.length then 6 else if hs.any (outB 0 1000) then 3 else if nth hs 0 = 0 then (if riseB cs hs then 0 else 14) else 14) else checkCoins cs
theorem heightsL_len (cs : List Int) (n : Nat) : (heightsL cs n).length = n + 1 := by simp [heightsL, fewL_len]
theorem nth_map {f : Int → Int} {xs : List Int} {k : Nat} (h : k < xs.length) : nth (xs.map f) k = f (nth xs k) := by
  rw [nth, List.getElem?_map, some_nth h]
  rfl
theorem nth_heightsL (cs : List Int) {n k : Nat} (h : k ≤ n) : nth (heightsL cs n) k = highOf (few cs k) := by
  rw [heightsL, nth_map (by rw [fewL_len]; omega), nth_fewL cs h]
theorem riseB_iff {cs hs : List Int} : riseB cs hs = true ↔ ∀ c ∈ cs, ∀ i : Nat, i + c.toNat < hs.length → nth hs (i + c.toNat) ≤ nth hs i + 1 := by
  simp only [riseB, List.all_eq_true, List.mem_range, decide_eq_true_eq]
  exact ⟨fun h c hc i hi => h c hc i (by omega), fun h c hc i hi => h c hc i (by omega)⟩

/-! ### Ways -/
/-- The row behind one kind more: from the front on. -/
def addC (c : Nat) (L : List Int) : Nat → List Int
  | 0 => []
  | k + 1 => addC c L k ++ [nth L k + if c ≤ k then nth (addC c L k) (k - c) else 0]
def startW (n : Nat) : List Int := 1 :: List.replicate n 0
def waysL (cs : List Int) (n : Nat) : List Int := cs.foldl (fun L c => addC c.toNat L (n + 1)) (startW n)
def ways (cs : List Int) (n : Nat) : Int := nth (waysL cs n) n
theorem addC_len (c : Nat) (L : List Int) (k : Nat) : (addC c L k).length = k := by
  induction k with
  | zero => rfl
  | succ k ih => simp [addC, ih]
theorem nth_addC (c : Nat) (L : List Int) {n k : Nat} (h : k < n) : nth (addC c L n) k = nth (addC c L (k + 1)) k := by
  induction n with
  | zero => omega
  | succ n ih =>
    rcases Nat.lt_or_ge k n with hk | hk
    · rw [addC, nth_append_left (by rw [addC_len]; exact hk), ih hk]
    · obtain rfl : k = n := by omega
      rfl
/-- The element of the new row at k. -/
def atC (c : Nat) (L : List Int) (k : Nat) : Int := nth (addC c L (k + 1)) k
theorem atC_eq (c : Nat) (hc : 1 ≤ c) (L : List Int) (k : Nat) : atC c L k = nth L k + if c ≤ k then atC c L (k - c) else 0 := by
  rw [atC, addC, nth_snoc (by rw [addC_len])]
  by_cases h : c ≤ k
  · rw [if_pos h, if_pos h, nth_addC c L (by omega)]
    rfl
  · rw [if_neg h, if_neg h]
theorem nth_addC' (c : Nat) (L : List Int) {n k : Nat} (h : k < n) : nth (addC c L n) k = atC c L k := nth_addC c L h
theorem waysL_len (cs : List Int) (n : Nat) : (waysL cs n).length = n + 1 := by
  unfold waysL
  suffices h : ∀ (cs L : List Int), L.length = n + 1 → (cs.foldl (fun L c => addC c.toNat L (n + 1)) L).length = n + 1 from h cs _ (by simp [startW])
  intro cs
  induction cs with
  | nil => intro L h; exact h
  | cons c cs ih => intro L _; exact ih _ (addC_len _ _ _)
/-- A bound of all elements. -/
theorem atC_bd (c : Nat) (hc : 1 ≤ c) (L : List Int) (M : Int) (h : ∀ k, 0 ≤ nth L k ∧ nth L k ≤ M) (k : Nat) : 0 ≤ atC c L k ∧ atC c L k ≤ (k + 1 : Nat) * M := by
  have hM : 0 ≤ M := Int.le_trans (h 0).1 (h 0).2
  induction k using Nat.strongRecOn with
  | ind k ih =>
    rw [atC_eq c hc]
    have h1 := h k
    by_cases hk : c ≤ k
    · rw [if_pos hk]
      have h2 := ih (k - c) (by omega)
      have h3 : ((k - c + 1 : Nat) : Int) * M ≤ (k : Nat) * M := Int.mul_le_mul_of_nonneg_right (by omega) hM
      rw [Int.natCast_add, Int.add_mul]
      omega
    · rw [if_neg hk]
      have h3 : (1 : Int) * M ≤ ((k + 1 : Nat) : Int) * M := Int.mul_le_mul_of_nonneg_right (by omega) hM
      omega
/-- The row without end; and how 'waysL' is its front. -/
def rowF (c : Nat) (F : Nat → Int) (k : Nat) : Int := F k + if h : 1 ≤ c ∧ c ≤ k then rowF c F (k - c) else 0
termination_by k
decreasing_by omega
def waysF (cs : List Int) : Nat → Int := cs.foldl (fun F c => rowF c.toNat F) (fun k => if k = 0 then 1 else 0)
theorem rowF_eq {c : Nat} (hc : 1 ≤ c) (F : Nat → Int) (k : Nat) : rowF c F k = F k + if c ≤ k then rowF c F (k - c) else 0 := by
  rw [rowF]
  by_cases h : c ≤ k
  · rw [if_pos h, dif_pos ⟨hc, h⟩]
  · rw [if_neg h, dif_neg (fun e => h e.2)]
theorem atC_row {c : Nat} (hc : 1 ≤ c) {L : List Int} {F : Nat → Int} {n : Nat} (h : ∀ k, k ≤ n → nth L k = F k) (k : Nat) (hk : k ≤ n) : atC c L k = rowF c F k := by
  induction k using Nat.strongRecOn with
  | ind k ih =>
    rw [atC_eq c hc, rowF_eq hc, h k hk]
    by_cases h1 : c ≤ k
    · rw [if_pos h1, if_pos h1, ih (k - c) (by omega) (by omega)]
    · rw [if_neg h1, if_neg h1]
theorem nth_waysL {cs : List Int} (hc : ∀ c ∈ cs, 1 ≤ c) {n k : Nat} (hk : k ≤ n) : nth (waysL cs n) k = waysF cs k := by
  unfold waysL waysF
  suffices h : ∀ (cs L : List Int) (F : Nat → Int), (∀ c ∈ cs, 1 ≤ c) → (∀ k, k ≤ n → nth L k = F k) → ∀ k, k ≤ n → nth (cs.foldl (fun L c => addC c.toNat L (n + 1)) L) k = cs.foldl (fun F c => rowF c.toNat F) F k from
    h cs _ _ hc (fun k hk => by
      match k, hk with
      | 0, _ => rfl
      | k + 1, hk => rw [if_neg (by omega), nth, startW, List.getElem?_cons_succ, List.getElem?_replicate, if_pos (by omega)]; rfl) k hk
  intro cs
  induction cs with
  | nil => intro L F _ h; exact h
  | cons c cs ih =>
    intro L F hc h
    refine ih _ _ (fun d hd => hc d (by simp [hd])) fun k hk => ?_
    have := hc c (by simp)
    rw [nth_addC' _ _ (by omega), atC_row (by omega) h k hk]
theorem ways_eq {cs : List Int} (hc : ∀ c ∈ cs, 1 ≤ c) (n : Nat) : ways cs n = waysF cs n := nth_waysL hc (Nat.le_refl n)
theorem waysF_snoc (cs : List Int) (c : Int) : waysF (cs ++ [c]) = rowF c.toNat (waysF cs) := by simp [waysF]
theorem waysF_nil : waysF [] = fun k => if k = 0 then 1 else 0 := rfl
theorem rowF_bd {c : Nat} (hc : 1 ≤ c) {F : Nat → Int} {M : Int} {n : Nat} (h : ∀ k, k ≤ n → 0 ≤ F k ∧ F k ≤ M) (k : Nat) (hk : k ≤ n) : 0 ≤ rowF c F k ∧ rowF c F k ≤ (k + 1 : Nat) * M := by
  have hM : 0 ≤ M := Int.le_trans (h 0 (by omega)).1 (h 0 (by omega)).2
  induction k using Nat.strongRecOn with
  | ind k ih =>
    rw [rowF_eq hc]
    have h1 := h k hk
    by_cases h0 : c ≤ k
    · rw [if_pos h0]
      have h2 := ih (k - c) (by omega) (by omega)
      have h3 : ((k - c + 1 : Nat) : Int) * M ≤ (k : Nat) * M := Int.mul_le_mul_of_nonneg_right (by omega) hM
      rw [Int.natCast_add, Int.add_mul]
      omega
    · rw [if_neg h0]
      have h3 : (1 : Int) * M ≤ ((k + 1 : Nat) : Int) * M := Int.mul_le_mul_of_nonneg_right (by omega) hM
      omega
/-- One kind alone: at most one way. -/
theorem waysF_nil_at (k : Nat) : waysF [] k = if k = 0 then 1 else 0 := rfl
theorem rowF_one {c : Nat} (hc : 1 ≤ c) (k : Nat) : 0 ≤ rowF c (waysF []) k ∧ rowF c (waysF []) k ≤ 1 := by
  induction k using Nat.strongRecOn with
  | ind k ih =>
    rw [rowF_eq hc, waysF_nil_at]
    by_cases h0 : c ≤ k
    · rw [if_pos h0, if_neg (by omega)]
      have h2 := ih (k - c) (by omega)
      omega
    · rw [if_neg h0]
      by_cases hk : k = 0
      · rw [if_pos hk]; omega
      · rw [if_neg hk]; omega
theorem waysF_bd {cs : List Int} (hc : ∀ c ∈ cs, 1 ≤ c) {n : Nat} (hn : n ≤ 300) : ∀ k, k ≤ n → 0 ≤ waysF cs k ∧ waysF cs k ≤ ((301 ^ (cs.length - 1) : Nat) : Int) := by
  induction cs using snoc_induction with
  | h0 => intro k _; rw [waysF_nil]; simp only; split <;> simp
  | h1 l c ih =>
    intro k hk
    have hc1 := hc c (by simp)
    have ih := ih (fun d hd => hc d (by simp [hd]))
    rw [waysF_snoc]
    rcases Nat.eq_zero_or_pos l.length with h0 | h0
    · obtain rfl := List.eq_nil_of_length_eq_zero h0
      have := rowF_one (c := c.toNat) (by omega) k
      simpa using this
    · have h1 := rowF_bd (c := c.toNat) (by omega) ih k hk
      refine ⟨h1.1, Int.le_trans h1.2 ?_⟩
      have e : (l ++ [c]).length - 1 = (l.length - 1) + 1 := by simp; omega
      rw [e, Nat.pow_succ, Nat.mul_comm, Int.natCast_mul]
      exact Int.mul_le_mul_of_nonneg_right (by omega) (Int.natCast_nonneg _)
theorem pow301 {k : Nat} (h : k ≤ 4) : 301 ^ k ≤ 8208541201 := Nat.le_trans (Nat.pow_le_pow_right (by omega) h) (by decide)
end Go.Proofs.Ytloibnmhgocboaa

namespace Go.Proofs.Ytloibnmhgocboaa

def can (cs : List Int) (a : Nat) : Prop := 0 ≤ few cs a
instance (cs : List Int) (a : Nat) : Decidable (can cs a) := inferInstanceAs (Decidable (0 ≤ few cs a))
theorem can_zero (cs : List Int) : can cs 0 := by unfold can; rw [few_zero]; omega
theorem can_iff {cs : List Int} (hc : ∀ c ∈ cs, 1 ≤ c) {a : Nat} : can cs a ↔ ∃ v m, Pays cs v a m := by
  have h := few_min hc a
  exact ⟨fun h0 => let ⟨v, hv⟩ := h.2.1 h0; ⟨v, _, hv⟩, fun ⟨v, m, hv⟩ => (h.2.2 v m hv).1⟩
theorem can_add {cs : List Int} (hc : ∀ c ∈ cs, 1 ≤ c) {a c : Nat} (hm : (c : Int) ∈ cs) (h : can cs a) : can cs (a + c) := by
  obtain ⟨v, m, hv⟩ := (can_iff hc).1 h
  obtain ⟨u, hu⟩ := hv.add_ hm
  exact (can_iff hc).2 ⟨u, _, by rw [Int.natCast_add]; exact hu⟩
theorem can_sub {cs : List Int} (hc : ∀ c ∈ cs, 1 ≤ c) {a : Nat} (h : can cs a) (h0 : 0 < a) : ∃ c : Nat, (c : Int) ∈ cs ∧ c ≤ a ∧ can cs (a - c) := by
  obtain ⟨v, m, hv⟩ := (can_iff hc).1 h
  have hm : 0 < m := by
    rcases Int.lt_or_le 0 m with h1 | h1
    · exact h1
    · have h2 := hv.amount_ge hc
      have := (few_min hc a).2.2 v m hv
      have h4 : few cs a = 0 := by omega
      obtain ⟨n, rfl⟩ : ∃ n, a = n + 1 := ⟨a - 1, by omega⟩
      have h5 := (fold_few (fewL cs n) ((n + 1 : Nat) : Int) cs (-1)).1
      rw [← few_succ] at h5
      rcases h5 (by omega) with e | ⟨c, _, _, e1, e2⟩ <;> omega
  obtain ⟨c, hcm, u, hu⟩ := hv.sub_ hm
  have h1 := hu.amount_ge hc
  have h2 := hc c hcm
  refine ⟨c.toNat, by rwa [Int.toNat_of_nonneg (by omega)], by omega, (can_iff hc).2 ⟨u, m - 1, ?_⟩⟩
  rwa [show ((a - c.toNat : Nat) : Int) = a - c by omega]

/-- The least amount below n that has the rest r, -1: none. -/
def lst (cs : List Int) (f r : Nat) : Nat → Int
  | 0 => -1
  | n + 1 => if lst cs f r n < 0 ∧ n % f = r ∧ can cs n then n else lst cs f r n
def first (cs : List Int) : Nat := (nth cs 0).toNat
def restsL (cs : List Int) : List Int := (List.range (first cs)).map fun r => lst cs (first cs) r 5001
theorem lst_facts (cs : List Int) (f r n : Nat) : -1 ≤ lst cs f r n ∧ lst cs f r n < n ∧ (0 ≤ lst cs f r n → (lst cs f r n).toNat % f = r ∧ can cs (lst cs f r n).toNat) ∧ ∀ a, a < n → a % f = r → can cs a → 0 ≤ lst cs f r n ∧ lst cs f r n ≤ a := by
  induction n with
  | zero => exact ⟨by simp [lst], by simp [lst], fun h => by simp [lst] at h, fun a h => by omega⟩
  | succ n ih =>
    obtain ⟨h1, h2, h3, h4⟩ := ih
    unfold lst
    split
    · rename_i h
      refine ⟨by omega, by omega, fun _ => by simpa using h.2, fun a ha hr hca => ?_⟩
      rcases Nat.lt_or_ge a n with hk | hk
      · have := h4 a hk hr hca
        omega
      · omega
    · rename_i h
      refine ⟨h1, by omega, h3, fun a ha hr hca => ?_⟩
      rcases Nat.lt_or_ge a n with hk | hk
      · exact h4 a hk hr hca
      · obtain rfl : a = n := by omega
        rcases Int.lt_or_le (lst cs f r a) 0 with h5 | h5
        · exact absurd ⟨h5, hr, hca⟩ h
        · omega

/-! ### No least amount is great -/
theorem countP_lt {α : Type} {p q : α → Bool} : ∀ (l : List α), (∀ x ∈ l, p x = true → q x = true) → (∃ x ∈ l, q x = true ∧ p x = false) → l.countP p < l.countP q
  | [], _, ⟨x, hx, _⟩ => by cases hx
  | y :: l, h, ⟨x, hx, hq, hp⟩ => by
    have hle : l.countP p ≤ l.countP q := List.countP_mono_left fun z hz => h z (by simp [hz])
    rw [List.countP_cons, List.countP_cons]
    rcases List.mem_cons.1 hx with rfl | hx
    · rw [hq, hp]
      simp
      omega
    · have h1 := countP_lt l (fun z hz => h z (by simp [hz])) ⟨x, hx, hq, hp⟩
      have h2 := h y (by simp)
      by_cases h3 : p y = true
      · rw [h3, h2 h3]; simp; omega
      · by_cases h4 : q y = true <;> simp [h3, h4] <;> omega
open Classical in
theorem small_all {cs : List Int} (hc : ∀ c ∈ cs, 1 ≤ c ∧ c ≤ 50) {f : Nat} (hf : 1 ≤ f) {m : Nat} (hm : can cs m) : ∃ a, a ≤ 50 * f ∧ a % f = m % f ∧ can cs a := by
  let p := fun (t r : Nat) => decide (∃ a, a ≤ t ∧ a % f = r ∧ can cs a)
  have hc1 : ∀ c ∈ cs, 1 ≤ c := fun c h => (hc c h).1
  have key : ∀ k : Nat, (∀ m, can cs m → p (50 * k) (m % f) = true) ∨ k + 1 ≤ (List.range f).countP (p (50 * k)) := by
    intro k
    induction k with
    | zero =>
      refine .inr ?_
      have : 0 < (List.range f).countP (p (50 * 0)) := List.countP_pos_iff.2 ⟨0, List.mem_range.2 (by omega), decide_eq_true ⟨0, by omega, by simp, can_zero cs⟩⟩
      omega
    | succ k ih =>
      by_cases hall : ∀ m, can cs m → p (50 * (k + 1)) (m % f) = true
      · exact .inl hall
      · refine .inr ?_
        have hbad : ∃ m, can cs m ∧ p (50 * k) (m % f) = false := by
          rw [Classical.not_forall] at hall
          obtain ⟨m, hm⟩ := hall
          rw [Classical.not_imp] at hm
          refine ⟨m, hm.1, decide_eq_false fun ⟨a, h1, h2⟩ => hm.2 (decide_eq_true ⟨a, by omega, h2⟩)⟩
        have ih' : k + 1 ≤ (List.range f).countP (p (50 * k)) := by
          rcases ih with h | h
          · obtain ⟨m, h1, h2⟩ := hbad
            rw [h m h1] at h2
            cases h2
          · exact h
        -- the least amount whose rest is new
        obtain ⟨m, ⟨hm1, hm2⟩, hm3⟩ : ∃ m, (can cs m ∧ p (50 * k) (m % f) = false) ∧ ∀ j, j < m → ¬ (can cs j ∧ p (50 * k) (j % f) = false) := by
          obtain ⟨m, hm⟩ := hbad
          induction m using Nat.strongRecOn with
          | ind m ihm =>
            by_cases hx : ∃ j, j < m ∧ can cs j ∧ p (50 * k) (j % f) = false
            · obtain ⟨j, hj, h⟩ := hx
              exact ihm j hj h
            · exact ⟨m, hm, fun j hj h => hx ⟨j, hj, h⟩⟩
        have hm0 : 0 < m := by
          rcases Nat.eq_zero_or_pos m with rfl | h
          · exact absurd (⟨0, by omega, rfl, can_zero cs⟩ : ∃ a, a ≤ 50 * k ∧ a % f = 0 % f ∧ can cs a) (of_decide_eq_false hm2)
          · exact h
        obtain ⟨c, hcm, hcle, hcan⟩ := can_sub hc1 hm1 hm0
        have hc2 := hc _ hcm
        have hp : p (50 * k) ((m - c) % f) = true := by
          cases hb : p (50 * k) ((m - c) % f) with
          | true => rfl
          | false => exact absurd ⟨hcan, hb⟩ (hm3 (m - c) (by omega))
        obtain ⟨a, ha1, ha2, ha3⟩ := of_decide_eq_true hp
        have hr : (a + c) % f = m % f := by
          rw [Nat.add_mod, ha2, ← Nat.add_mod, Nat.sub_add_cancel hcle]
        have hnew : p (50 * (k + 1)) (m % f) = true := decide_eq_true ⟨a + c, by omega, hr, can_add hc1 hcm ha3⟩
        have := countP_lt (p := p (50 * k)) (q := p (50 * (k + 1))) (List.range f) (fun x _ hx => by
          obtain ⟨a, h1, h2⟩ := of_decide_eq_true hx
          exact decide_eq_true ⟨a, by omega, h2⟩) ⟨m % f, List.mem_range.2 (Nat.mod_lt _ (by omega)), hnew, hm2⟩
        omega
  rcases key f with h | h
  · exact of_decide_eq_true (h m hm)
  · have := List.countP_le_length (p := p (50 * f)) (l := List.range f)
    rw [List.length_range] at this
    omega

/-- What is right: each number is the least payable amount of its rest. -/
structure Rests (cs L : List Int) : Prop where
  len : L.length = first cs
  low : ∀ r : Nat, r < first cs → -1 ≤ nth L r
  own : ∀ r : Nat, r < first cs → 0 ≤ nth L r → (nth L r).toNat % first cs = r ∧ can cs (nth L r).toNat
  least : ∀ a : Nat, can cs a → 0 ≤ nth L (a % first cs) ∧ nth L (a % first cs) ≤ a
theorem nth_range_map {f : Nat → Int} {n k : Nat} (h : k < n) : nth ((List.range n).map f) k = f k := by
  rw [nth, List.getElem?_map, List.getElem?_range h]
  rfl
theorem first_pos {cs : List Int} (hg : Good cs) : 1 ≤ first cs ∧ first cs ≤ 50 ∧ (first cs : Int) = nth cs 0 := by
  have := hg.all _ (nth_mem (k := 0) hg.lo)
  unfold first
  omega
theorem rests_restsL {cs : List Int} (hg : Good cs) : Rests cs (restsL cs) := by
  obtain ⟨h1, h2, _⟩ := first_pos hg
  refine ⟨by simp [restsL], fun r hr => ?_, fun r hr h0 => ?_, fun a ha => ?_⟩
  · rw [restsL, nth_range_map hr]
    exact (lst_facts _ _ _ _).1
  · rw [restsL, nth_range_map hr] at h0 ⊢
    exact (lst_facts _ _ _ _).2.2.1 h0
  · rw [restsL, nth_range_map (Nat.mod_lt _ (by omega))]
    obtain ⟨b, hb1, hb2, hb3⟩ := small_all hg.all h1 ha
    have hb50 : 50 * first cs ≤ 2500 := by omega
    have f := (lst_facts cs (first cs) (a % first cs) 5001).2.2.2
    rcases Nat.lt_or_ge a 5001 with h | h
    · exact f a h rfl ha
    · have := f b (by omega) hb2 hb3
      omega
theorem Rests.unique {cs L M : List Int} (hg : Good cs) (h : Rests cs L) (h' : Rests cs M) : L = M := by
  have half : ∀ {L M : List Int}, Rests cs L → Rests cs M → ∀ r : Nat, r < first cs → 0 ≤ nth L r → 0 ≤ nth M r ∧ nth M r ≤ nth L r := fun {L M} h h' r hr h0 => by
    obtain ⟨e, hcan⟩ := h.own r hr h0
    have := h'.least _ hcan
    rw [e] at this
    omega
  refine List.ext_getElem (by rw [h.len, h'.len]) fun r h1 h2 => ?_
  have hr : r < first cs := by rw [← h.len]; exact h1
  have e1 : nth L r = L[r] := by rw [nth, List.getElem?_eq_getElem h1]; rfl
  have e2 : nth M r = M[r] := by rw [nth, List.getElem?_eq_getElem h2]; rfl
  rw [← e1, ← e2]
  have l1 := h.low r hr
  have l2 := h'.low r hr
  have a1 := half h h' r hr
  have a2 := half h' h r hr
  omega
theorem rests_bd {cs : List Int} (r : Nat) : -1 ≤ nth (restsL cs) r ∧ nth (restsL cs) r ≤ 5000 := by
  rcases Nat.lt_or_ge r (first cs) with hr | hr
  · rw [restsL, nth_range_map hr]
    have := lst_facts cs (first cs) r 5001
    omega
  · rw [nth_out (by simpa [restsL] using hr)]
    omega
/-- Steps that lead no further down: the numbers are right. -/
theorem rests_of {cs L : List Int} (hg : Good cs) (hl : L.length = first cs) (h0 : nth L 0 = 0) (hlow : ∀ r : Nat, r < first cs → -1 ≤ nth L r) (hown : ∀ r : Nat, r < first cs → 0 ≤ nth L r → (nth L r).toNat % first cs = r ∧ can cs (nth L r).toNat)
    (hstep : ∀ r : Nat, r < first cs → 0 ≤ nth L r → ∀ j : Nat, 1 ≤ j → j < cs.length → 0 ≤ nth L ((nth L r + nth cs j).toNat % first cs) ∧ nth L ((nth L r + nth cs j).toNat % first cs) ≤ nth L r + nth cs j) : Rests cs L := by
  obtain ⟨h1, h2, h3⟩ := first_pos hg
  have hc1 : ∀ c ∈ cs, 1 ≤ c := fun c h => (hg.all c h).1
  refine ⟨hl, hlow, hown, fun a ha => ?_⟩
  induction a using Nat.strongRecOn with
  | ind a ih =>
    rcases Nat.eq_zero_or_pos a with rfl | hp
    · rw [Nat.zero_mod, h0]; omega
    · obtain ⟨c, hcm, hcle, hcan⟩ := can_sub hc1 ha hp
      have hcp := hc1 _ hcm
      have hi := ih (a - c) (by omega) hcan
      have hrl : (a - c) % first cs < first cs := Nat.mod_lt _ (by omega)
      obtain ⟨j, hj, he⟩ := List.getElem_of_mem hcm
      have ej : nth cs j = c := by rw [nth, List.getElem?_eq_getElem hj]; exact he
      rcases Nat.eq_zero_or_pos j with rfl | hjp
      · have e : a % first cs = (a - c) % first cs := by
          have : c = first cs := by omega
          rw [← this, ← Nat.mod_eq_sub_mod hcle]
        rw [e]
        omega
      · have h4 := hstep _ hrl hi.1 j hjp hj
        have e : (nth L ((a - c) % first cs) + nth cs j).toNat % first cs = a % first cs := by
          have h5 := (hown _ hrl hi.1).1
          rw [ej, show (nth L ((a - c) % first cs) + (c : Int)).toNat = (nth L ((a - c) % first cs)).toNat + c by omega, Nat.add_mod, h5, ← Nat.add_mod, Nat.sub_add_cancel hcle]
        rw [e] at h4
        omega
end Go.Proofs.Ytloibnmhgocboaa

namespace Go.Proofs.Ytloibnmhgocboaa

def amountE (cs : List Int) (a : Int) : Int := if checkCoins cs = 0 then (if a < 0 ∨ 300 < a then 3 else 0) else checkCoins cs
def dotTo (cs v : List Int) (k : Nat) : Int := dot (cs.take k) (v.take k)
def changeCS (cs v : List Int) : Int × Int × Int :=
  if checkCoins cs = 0 then (if v.length ≠ cs.length then (0, 0, 15) else if v.any (outB 0 1000) then (0, 0, 3) else (dot cs v, v.sum, 0)) else (0, 0, checkCoins cs)
def fewestS (cs : List Int) (a : Int) : Int × Int := if amountE cs a = 0 then (if few cs a.toNat < 0 then (0, 5) else (few cs a.toNat, 0)) else (0, amountE cs a)
def fullStock (cs : List Int) : List Int := List.replicate cs.length 300
def bestL (cs st : List Int) (a : Int) : List Int × Int := if gmin cs st a < 0 then ([], 5) else (chg cs st a (gmin cs st a), 0)
def changeS (cs : List Int) (a : Int) : List Int × Int := if amountE cs a = 0 then bestL cs (fullStock cs) a else ([], amountE cs a)
def heightsS (cs : List Int) (a : Int) : List Int × Int := if amountE cs a = 0 then (heightsL cs a.toNat, 0) else ([], amountE cs a)
def greedyS (cs : List Int) (a : Int) : List Int × Int × Int := if amountE cs a = 0 then ((greedyL cs a).1, (greedyL cs a).2, 0) else ([], 0, amountE cs a)
def badOf (cs : List Int) (a : Int) : Int := if (greedyL cs a).2 = 0 ∧ (greedyL cs a).1.sum = few cs a.toNat then 16 else 0
def checkBadS (cs : List Int) (a : Int) : Int := if (fewestS cs a).2 = 0 then badOf cs a else (fewestS cs a).2
def isBad (cs : List Int) (n : Nat) : Bool := decide (checkBadS cs n = 0)
/-- The first that is bad, below n, or n. -/
def firstBad (cs : List Int) (n : Nat) : Nat := firstN (isBad cs) n 0
def topTwo (cs : List Int) : Nat := (nth cs (cs.length - 1) + nth cs (cs.length - 2)).toNat
def badUpTo (cs : List Int) (n : Nat) : Int × Int := if firstBad cs n < n then ((firstBad cs n : Nat), 0) else (0, 5)
def badS (cs : List Int) : Int × Int := if checkCoins cs = 0 then (if nth cs 0 ≠ 1 then (0, 2) else if cs.length < 3 then (0, 5) else badUpTo cs (topTwo cs)) else (0, checkCoins cs)
def restsS (cs : List Int) : List Int × Int := if checkCoins cs = 0 then (restsL cs, 0) else ([], checkCoins cs)
def maxL (L : List Int) : Int := L.foldl (fun m x => if m < x then x else m) (-1)
def endless (cs : List Int) : Bool := (restsL cs).any fun x => decide (x = -1)
def greatestS (cs : List Int) : Int × Int := if checkCoins cs = 0 then (if endless cs then (0, 4) else if (restsL cs).length = 1 then (0, 5) else (maxL (restsL cs) - nth cs 0, 0)) else (0, checkCoins cs)
def divSum (c : Int) (L : List Int) : Int := (L.map fun x => x / c).sum
def manyS (cs : List Int) : Int × Int := if checkCoins cs = 0 then (if endless cs then (0, 4) else (divSum (nth cs 0) (restsL cs), 0)) else (0, checkCoins cs)
def waysS (cs : List Int) (a : Int) : Int × Int := if amountE cs a = 0 then (ways cs a.toNat, 0) else (0, amountE cs a)
def stockE (cs st : List Int) (a : Int) : Int := if amountE cs a = 0 then (if st.length ≠ cs.length then 15 else if st.any (outB 0 20) then 2 else 0) else amountE cs a
def payS (cs st : List Int) (a : Int) : List Int × Int := if stockE cs st a = 0 then bestL cs st a else ([], stockE cs st a)

theorem amountE_ok {cs : List Int} {a : Int} : amountE cs a = 0 ↔ Good cs ∧ 0 ≤ a ∧ a ≤ 300 := by
  unfold amountE
  constructor
  · intro h
    split at h
    · rename_i h1
      split at h
      · cases h
      · exact ⟨checkCoins_good.1 h1, by omega⟩
    · rename_i h1
      exact absurd h h1
  · rintro ⟨h1, h2⟩
    rw [if_pos (checkCoins_good.2 h1), if_neg (by omega)]
theorem amountE_cases (cs : List Int) (a : Int) : amountE cs a = 0 ∨ amountE cs a = 3 ∨ amountE cs a = 6 ∨ amountE cs a = 2 := by
  unfold amountE
  rcases checkCoins_cases cs with h | h | h | h <;> rw [h]
  · rw [if_pos rfl]; split <;> simp
  · simp
  · simp
  · simp
theorem stockE_ok {cs st : List Int} {a : Int} : stockE cs st a = 0 ↔ (Good cs ∧ 0 ≤ a ∧ a ≤ 300) ∧ st.length = cs.length ∧ ∀ s ∈ st, 0 ≤ s ∧ s ≤ 20 := by
  unfold stockE
  constructor
  · intro h
    split at h
    · rename_i h1
      split at h
      · cases h
      · split at h
        · cases h
        · rename_i h2 h3
          exact ⟨amountE_ok.1 h1, by omega, any_out.1 (by simpa using h3)⟩
    · rename_i h1
      exact absurd h h1
  · rintro ⟨h1, h2, h3⟩
    rw [if_pos (amountE_ok.2 h1), if_neg (by omega), any_out.2 h3]
    rfl
end Go.Proofs.Ytloibnmhgocboaa
