/-
  Plain facts for the outright laws of the chapter: ways, scaled coins, coins with one more kind, two coins with a divisor in common.
-/
import Derived.Test.YtloibnmhgocboaaPR
import Derived.Test.YtloibnmhgocboaaPQ
namespace Go.Proofs.Ytloibnmhgocboaa

theorem Good.take_ {cs : List Int} (hg : Good cs) {k : Nat} (h : 1 ≤ k) : Good (cs.take k) := by
  have h1 := hg.lo
  have h2 := hg.hi
  refine ⟨by rw [List.length_take]; omega, by rw [List.length_take]; omega, fun x hx => hg.all x (List.mem_of_mem_take hx), fun i hi => ?_⟩
  rw [List.length_take] at hi
  have e : ∀ j, j < k → nth (cs.take k) j = nth cs j := fun j hj => by unfold nth; rw [List.getElem?_take, if_pos hj]
  rw [e i (by omega), e (i + 1) (by omega)]
  exact hg.asc i (by omega)
theorem ways_facts {cs : List Int} (hg : Good cs) {N : Nat} (hN : N ≤ 300) : waysS cs (N : Int) = (ways cs N, 0) ∧ 0 ≤ ways cs N ∧ ways cs N ≤ 8208541201 ∧ (0 < ways cs N ↔ 0 ≤ few cs N) := by
  have h1 := waysF_bd hg.pos hN N (Nat.le_refl N)
  have h2 := (ways_pos hg.pos N).2
  have h3 := pow301 (k := cs.length - 1) (by have := hg.hi; omega)
  refine ⟨?_, ?_, ?_, ?_⟩
  · unfold waysS
    rw [if_pos (amountE_ok.2 ⟨hg, by omega, by omega⟩), Int.toNat_natCast]
  · rw [ways_eq hg.pos]; exact h1.1
  · rw [ways_eq hg.pos]
    refine Int.le_trans h1.2 ?_
    obtain ⟨p, hp⟩ : ∃ p, 301 ^ (cs.length - 1) = p := ⟨_, rfl⟩
    rw [hp] at h3 ⊢
    omega
  · rw [ways_eq hg.pos]
    exact h2
theorem ways_init {cs : List Int} (hg : Good cs) (N : Nat) : ways cs N = (if cs.length = 1 then (if N = 0 then 1 else 0) else ways (cs.take (cs.length - 1)) N) + (if (nth cs (cs.length - 1)).toNat ≤ N then ways cs (N - (nth cs (cs.length - 1)).toNat) else 0) := by
  have hs := split_last hg.lo
  have hc := hg.pos _ (nth_mem (xs := cs) (k := cs.length - 1) (by have := hg.lo; omega))
  have hp : ∀ c ∈ cs.take (cs.length - 1), 1 ≤ c := fun c hcm => hg.pos c (List.mem_of_mem_take hcm)
  obtain ⟨c, HC⟩ : ∃ c, nth cs (cs.length - 1) = c := ⟨_, rfl⟩
  rw [HC] at hs hc ⊢
  have e : waysF cs = rowF c.toNat (waysF (cs.take (cs.length - 1))) := (congrArg waysF hs).trans (waysF_snoc _ _)
  have e2 := rowF_eq (c := c.toNat) (by omega) (waysF (cs.take (cs.length - 1))) N
  rw [ways_eq hg.pos, ways_eq hg.pos, ways_eq hp, e, e2]
  congr 1
  by_cases h1 : cs.length = 1
  · rw [if_pos h1, h1]
    rfl
  · rw [if_neg h1]

/-! ### As many times as great -/
theorem amountE_nat {cs : List Int} (hg : Good cs) {N : Nat} (h : N ≤ 300) : amountE cs (N : Int) = 0 := amountE_ok.2 ⟨hg, by omega, by omega⟩

/-! ### Two kinds with a divisor in common -/
theorem dot_dvd {g : Int} : ∀ {cs v : List Int}, (∀ c ∈ cs, g ∣ c) → g ∣ dot cs v
  | [], _, _ => by simp [dot]
  | _ :: _, [], _ => by simp [dot]
  | c :: cs, x :: v, h => by
    rw [show dot (c :: cs) (x :: v) = c * x + dot cs v from rfl]
    exact Int.dvd_add (Int.dvd_trans (h c (by simp)) (Int.dvd_mul_right c x)) (dot_dvd fun d hd => h d (by simp [hd]))
theorem two_end {a b : Nat} (ha : 2 ≤ a) (hab : a < b) (hb : b ≤ 50) (hg : Nat.gcd a b ≠ 1) : greatestS [(a : Int), b] = (0, 4) := by
  have hgood : Good [(a : Int), b] := ⟨by simp, by simp, by simp; omega, fun i hi => by
    match i, hi with
    | 0, _ => show (a : Int) < b; omega⟩
  have he : endless [(a : Int), b] = true := by
    cases h : endless [(a : Int), b] with
    | true => rfl
    | false =>
      exfalso
      have hf : first [(a : Int), b] = a := by simp [first, nth]
      have h1 := (endless_iff hgood).1 h 1 (by rw [hf]; omega)
      have h2 := ((rests_restsL hgood).own 1 (by rw [hf]; omega)) h1
      rw [hf] at h2
      obtain ⟨v, m, hp⟩ := (can_iff hgood.pos).1 h2.2
      have hd : ((Nat.gcd a b : Nat) : Int) ∣ dot [(a : Int), b] v := dot_dvd fun c hc => by
        simp at hc
        rcases hc with rfl | rfl
        · exact_mod_cast Nat.gcd_dvd_left a b
        · exact_mod_cast Nat.gcd_dvd_right a b
      rw [hp.amount] at hd
      have hd2 : Nat.gcd a b ∣ (nth (restsL [(a : Int), b]) 1).toNat := by exact_mod_cast hd
      have hd3 : Nat.gcd a b ∣ (nth (restsL [(a : Int), b]) 1).toNat % a := (Nat.dvd_mod_iff (Nat.gcd_dvd_left a b)).2 hd2
      rw [h2.1, Nat.dvd_one] at hd3
      exact hg hd3
  unfold greatestS
  rw [if_pos (checkCoins_good.2 hgood), if_pos he]

/-! ### With one more kind -/
/-- Coins with one more kind: those before and behind it. -/
theorem good_more {l m : List Int} {v : Int} (hg : Good (l ++ m)) (h4 : (l ++ m).length ≤ 4) (hv : 1 ≤ v) (hv2 : v ≤ 50) (hl : ∀ x ∈ l, x < v) (hm : ∀ x ∈ m, v < x) : Good (l ++ v :: m) := by
  refine ⟨by simp; omega, by simp at h4 ⊢; omega, fun c hc => ?_, fun i hi => ?_⟩
  · simp at hc
    rcases hc with h | rfl | h
    · exact hg.all c (by simp [h])
    · exact ⟨hv, hv2⟩
    · exact hg.all c (by simp [h])
  · have ea : ∀ j, j < l.length → nth (l ++ v :: m) j = nth l j ∧ nth (l ++ m) j = nth l j := fun j hj => ⟨nth_append_left hj, nth_append_left hj⟩
    have eb : nth (l ++ v :: m) l.length = v := by unfold nth; simp
    have ec : ∀ j, nth (l ++ v :: m) (l.length + 1 + j) = nth m j ∧ nth (l ++ m) (l.length + j) = nth m j := fun j => by
      unfold nth
      rw [List.getElem?_append_right (by omega), List.getElem?_append_right (by omega), show l.length + 1 + j - l.length = j + 1 by omega, show l.length + j - l.length = j by omega, List.getElem?_cons_succ]
      exact ⟨rfl, rfl⟩
    simp only [List.length_append, List.length_cons] at hi
    rcases Nat.lt_or_ge (i + 1) l.length with h | h
    · rw [(ea i (by omega)).1, (ea (i + 1) h).1, ← (ea i (by omega)).2, ← (ea (i + 1) h).2]
      exact hg.asc i (by rw [List.length_append]; omega)
    · rcases Nat.eq_or_lt_of_le h with h | h
      · rw [← h, eb, (ea i (by omega)).1]
        exact hl _ (nth_mem (by omega))
      · rcases Nat.eq_or_lt_of_le (Nat.le_of_lt_succ h) with h | h
        · subst h
          rw [eb, show l.length + 1 = l.length + 1 + 0 from rfl, (ec 0).1]
          exact hm _ (nth_mem (by omega))
        · obtain ⟨j, rfl⟩ : ∃ j, i = l.length + 1 + j := ⟨i - l.length - 1, by omega⟩
          rw [(ec j).1, show l.length + 1 + j + 1 = l.length + 1 + (j + 1) by omega, (ec (j + 1)).1, ← (ec j).2, ← (ec (j + 1)).2]
          exact hg.asc (l.length + j) (by rw [List.length_append]; omega)

/-! ### Change that is given -/
theorem change_pays {cs v : List Int} {a m : Int} (h : changeCS cs v = (a, m, 0)) : Pays cs v a m := by
  unfold changeCS at h
  split at h
  · split at h
    · cases h
    · split at h
      · cases h
      · rename_i h1 h2 h3
        cases h
        exact ⟨by omega, fun x hx => (any_out.1 (by simpa using h3) x hx).1, rfl, rfl⟩
  · rename_i h1
    simp only [Prod.mk.injEq] at h
    exact absurd h.2.2 h1
/-- How many coins an amount needs, and whether it can be paid. -/
def paidV2 (cs : List Int) (a : Int) : Int × Bool := if few cs a.toNat < 0 then (0, false) else (few cs a.toNat, true)
theorem paid_yes {cs : List Int} {N : Nat} (h : 0 ≤ few cs N) : paidV2 cs (N : Int) = (few cs N, true) := by
  unfold paidV2
  rw [Int.toNat_natCast, if_neg (by omega)]
theorem paid_no {cs : List Int} {N : Nat} (h : few cs N < 0) : paidV2 cs (N : Int) = (0, false) := by
  unfold paidV2
  rw [Int.toNat_natCast, if_pos h]
theorem heights_at {cs : List Int} (hg : Good cs) {N : Nat} (hN : N ≤ 300) : heightsS cs (N : Int) = (heightsL cs N, 0) ∧ (heightsL cs N).length = N + 1 ∧ nth (heightsL cs N) N = highOf (few cs N) := by
  refine ⟨?_, heightsL_len cs N, nth_heightsL cs (Nat.le_refl N)⟩
  unfold heightsS
  rw [if_pos (amountE_nat hg hN), Int.toNat_natCast]
/-- No given change has fewer coins than the fewest, nor than its height. -/
theorem pays_few {cs v : List Int} {K : Nat} {m : Int} (hg : Good cs) (h : Pays cs v (K : Int) m) : 0 ≤ few cs K ∧ few cs K ≤ m := (few_min hg.pos K).2.2 v m h
theorem high_few {cs hs : List Int} {K : Nat} (h : checkHeights cs hs = 0) (h0 : 0 ≤ few cs K) (hK : K < hs.length) : nth hs K ≤ few cs K := by
  obtain ⟨hg, _, h3⟩ := heights_low h
  obtain ⟨v, hv⟩ := (few_min hg.pos K).2.1 h0
  have := h3 (few cs K).toNat v K (by rw [Int.toNat_of_nonneg h0]; exact hv) hK
  omega
end Go.Proofs.Ytloibnmhgocboaa
