/-
  Plain facts for the law of two kinds, for scaled coins and for coins with one more kind.
-/
import Derived.Test.YtloibnmhgocboaaFaQ
namespace Go.Proofs.Ytloibnmhgocboaa

theorem good_two {a b : Nat} (ha : 2 ≤ a) (hab : a < b) (hb : b ≤ 50) : Good [(a : Int), (b : Int)] := ⟨by simp, by simp, by simp; omega, fun i hi => by
  match i, hi with
  | 0, _ => show (a : Int) < b; omega⟩
theorem great_end {cs : List Int} {g : Int} (hg : Good cs) (h : Great cs g) : endless cs = false := by
  refine (endless_iff hg).2 fun r hr => ?_
  have hf := (first_pos hg).1
  have h1 := h.all (first cs * (g.toNat + 1) + r) (by
    have : g.toNat + 1 ≤ first cs * (g.toNat + 1) := Nat.le_mul_of_pos_left _ (by omega)
    omega)
  have h2 := ((rests_restsL hg).least _ h1).1
  rwa [Nat.mul_add_mod, Nat.mod_eq_of_lt hr] at h2
theorem two_all {a b : Nat} (ha : 2 ≤ a) (ha2 : a < 50) (hab : a < b) (hb : b ≤ 50) (hgc : Nat.gcd a b = 1) {g : Nat} (hgd : (a : Int) * b - a - b = (g : Int)) :
    greatestS [(a : Int), (b : Int)] = ((g : Int), 0) ∧ (∃ v : Int, manyS [(a : Int), (b : Int)] = (v, 0) ∧ 2 * v = (g : Int) + 1) ∧ ∀ X Y : Nat, X + Y = g → (can [(a : Int), (b : Int)] X ↔ ¬ can [(a : Int), (b : Int)] Y) := by
  have hgood := good_two ha hab hb
  have hG := two_great ha ha2 hab hb hgc
  rw [hgd] at hG
  have he := great_end hgood hG
  have hf : first [(a : Int), (b : Int)] = a := by simp [first, nth]
  have hM := greatest_is hgood he (by omega)
  have hu := hG.unique hM.1
  have hflip : ∀ X Y : Nat, X + Y = g → (can [(a : Int), (b : Int)] X ↔ ¬ can [(a : Int), (b : Int)] Y) := fun X Y h => by
    have := two_flip ha ha2 hab hb hgc (x := X) (by rw [hgd]; omega)
    rwa [hgd, show ((g : Int) - X).toNat = Y by omega] at this
  refine ⟨?_, ⟨divSum (nth [(a : Int), (b : Int)] 0) (restsL [(a : Int), (b : Int)]), many_ok hgood he, ?_⟩, hflip⟩
  · rw [great_ok hgood he, if_neg (by omega), ← hu]
  · rw [many_count hgood he (Nat.le_refl 5000), hf]
    have h1 := half_count (g := g) hG (fun x hx => hflip x (g - x) (by omega)) (N := a * 5000) (by
      have h3 : (a : Int) * b ≤ a * 50 := Int.mul_le_mul_of_nonneg_left (by omega) (by omega)
      omega)
    omega
theorem two_low {a b : Nat} (ha : 2 ≤ a) (hab : a < b) : 1 ≤ (a : Int) * b - a - b := by
  have h1 : (2 : Int) * b ≤ a * b := Int.mul_le_mul_of_nonneg_right (by omega) (by omega)
  rcases Nat.lt_or_ge a 3 with h | h
  · obtain rfl : a = 2 := by omega
    omega
  · have h2 : (3 : Int) * b ≤ a * b := Int.mul_le_mul_of_nonneg_right (by omega) (by omega)
    omega
theorem paid_can {cs : List Int} {N : Nat} : ∃ m, paidV2 cs (N : Int) = (m, decide (0 ≤ few cs N)) := by
  refine ⟨(paidV2 cs (N : Int)).1, Prod.ext rfl ?_⟩
  unfold paidV2
  rw [Int.toNat_natCast]
  split <;> simp <;> omega

/-! ### Scaled coins, and two amounts together -/
theorem paid_scale {cs : List Int} (hg : Good cs) {t : Nat} (ht : 1 ≤ t) (N : Nat) : paidV2 (cs.map ((t : Int) * ·)) ((t * N : Nat) : Int) = paidV2 cs (N : Int) := by
  unfold paidV2
  rw [Int.toNat_natCast, Int.toNat_natCast, few_scale hg.pos ht]

/-! ### One more kind -/
theorem more_all {l m : List Int} {v : Int} (hg : Good (l ++ m)) (hh : Good (l ++ v :: m)) {N : Nat} (hN : N ≤ 300) :
    (0 ≤ few (l ++ m) N → 0 ≤ few (l ++ v :: m) N ∧ few (l ++ v :: m) N ≤ few (l ++ m) N) ∧ Go.Proofs.Ytloibnmhgocboaa.ways (l ++ m) N ≤ Go.Proofs.Ytloibnmhgocboaa.ways (l ++ v :: m) N ∧ (endless (l ++ m) = false → endless (l ++ v :: m) = false ∧ divSum (nth (l ++ v :: m) 0) (restsL (l ++ v :: m)) ≤ divSum (nth (l ++ m) 0) (restsL (l ++ m))) := by
  refine ⟨fun h => more_few hh.pos h, ?_, fun he => many_le hg hh he fun a h => (more_few hh.pos h).1⟩
  rw [ways_eq hg.pos, ways_eq hh.pos]
  exact ways_more (fun c hc => hg.pos c (by simp [hc])) (fun c hc => hg.pos c (by simp [hc])) (hh.pos v (by simp)) N
/-- The coins up to k, v put in where it belongs. -/
def Ins (v : Int) (cs : List Int) (k : Nat) (xs : List Int) : Prop := ∃ p : Nat, p ≤ k ∧ (∀ j : Nat, j < p → nth cs j < v) ∧ (∀ j : Nat, p ≤ j → j < k → v < nth cs j) ∧ ((p = k ∧ xs = cs.take k) ∨ (p < k ∧ xs = cs.take p ++ v :: (cs.take k).drop p))
theorem ins_start (v : Int) (cs : List Int) : Ins v cs 0 [] := ⟨0, Nat.le_refl _, fun j hj => absurd hj (Nat.not_lt_zero j), fun j h1 h2 => absurd h2 (Nat.not_lt_zero j), .inl ⟨rfl, rfl⟩⟩
theorem ins_lt {v y : Int} {cs xs : List Int} {k : Nat} (hg : Good cs) (h : Ins v cs k xs) (hy : cs[k]? = some y) (hlt : y < v) : Ins v cs (k + 1) (xs ++ [y]) := by
  obtain ⟨p, hp, h1, h2, h3⟩ := h
  have hk := (List.getElem?_eq_some_iff.1 hy).1
  have hn := nth_some hy
  rcases h3 with ⟨rfl, rfl⟩ | ⟨h4, _⟩
  · refine ⟨p + 1, Nat.le_refl _, fun j hj => ?_, fun j h5 h6 => by omega, .inl ⟨rfl, (take_snoc hy).symm⟩⟩
    rcases Nat.eq_or_lt_of_le (Nat.le_of_lt_succ hj) with h | h
    · subst h; rw [hn]; exact hlt
    · exact h1 j h
  · have := h2 p (Nat.le_refl _) h4
    have h5 := asc_le hg (Nat.le_of_lt h4) hk
    omega
theorem ins_first {v y : Int} {cs xs : List Int} {k : Nat} (h : Ins v cs k xs) (hy : cs[k]? = some y) (hgt : v < y) (hpr : k = 0 ∨ nth cs (k - 1) < v) : Ins v cs (k + 1) ((xs ++ [v]) ++ [y]) := by
  obtain ⟨p, hp, h1, h2, h3⟩ := h
  have hk := (List.getElem?_eq_some_iff.1 hy).1
  have hn := nth_some hy
  rcases h3 with ⟨rfl, rfl⟩ | ⟨h4, _⟩
  · refine ⟨p, by omega, h1, fun j h5 h6 => ?_, .inr ⟨by omega, ?_⟩⟩
    · obtain rfl : j = p := by omega
      rw [hn]; exact hgt
    · rw [take_snoc hy, List.drop_append, List.drop_of_length_le (by rw [List.length_take]; omega), List.length_take, show p - min p cs.length = 0 by omega]
      simp
  · have := h2 (k - 1) (by omega) (by omega)
    omega
theorem ins_next {v y : Int} {cs xs : List Int} {m : Nat} (h : Ins v cs (m + 1) xs) (hy : cs[m + 1]? = some y) (hgt : v < y) (hpr : v ≤ nth cs m) : Ins v cs (m + 1 + 1) (xs ++ [y]) := by
  obtain ⟨p, hp, h1, h2, h3⟩ := h
  have hk := (List.getElem?_eq_some_iff.1 hy).1
  have hn := nth_some hy
  rcases h3 with ⟨rfl, rfl⟩ | ⟨h4, rfl⟩
  · have := h1 m (by omega)
    omega
  · refine ⟨p, by omega, h1, fun j h5 h6 => ?_, .inr ⟨by omega, ?_⟩⟩
    · rcases Nat.eq_or_lt_of_le (Nat.le_of_lt_succ h6) with h | h
      · subst h; rw [hn]; exact hgt
      · exact h2 j h5 h
    · rw [take_snoc hy, List.drop_append, List.length_take, show p - min (m + 1) cs.length = 0 by omega]
      simp
theorem ins_done {v : Int} {cs xs : List Int} (h : Ins v cs cs.length xs) : ∃ l m : List Int, cs = l ++ m ∧ (∀ x ∈ l, x < v) ∧ (∀ x ∈ m, v < x) ∧ ((xs = cs ∧ cs ++ [v] = l ++ v :: m) ∨ (xs.length = cs.length + 1 ∧ xs = l ++ v :: m)) := by
  obtain ⟨p, hp, h1, h2, h3⟩ := h
  refine ⟨cs.take p, cs.drop p, (List.take_append_drop p cs).symm, fun x hx => ?_, fun x hx => ?_, ?_⟩
  · obtain ⟨j, hj, rfl⟩ := List.getElem_of_mem hx
    rw [List.length_take] at hj
    have := h1 j (by omega)
    rw [nth, List.getElem?_eq_getElem (by omega)] at this
    rw [List.getElem_take]
    exact this
  · obtain ⟨j, hj, rfl⟩ := List.getElem_of_mem hx
    rw [List.length_drop] at hj
    have := h2 (p + j) (by omega) (by omega)
    rw [nth, List.getElem?_eq_getElem (by omega)] at this
    rw [List.getElem_drop]
    exact this
  · rcases h3 with ⟨rfl, rfl⟩ | ⟨h4, rfl⟩
    · left
      simp
    · right
      rw [List.take_length]
      refine ⟨?_, rfl⟩
      simp
      omega
end Go.Proofs.Ytloibnmhgocboaa
