/-
  Plain facts of the laws on heights, greedy taking, bad amounts.
  Plain facts of the laws on rests: the greatest amount that cannot be paid, how many cannot.
  Plain facts of the laws on two kinds, on ways, on sums, on one kind more.
  Plain facts of the law on a float: its stock, one coin more, what is left.
-/
import Derived.Test.YtloibnmhgocboaaPS
namespace Go.Proofs.Ytloibnmhgocboaa

section
variable {cs : List Int}
theorem Good.pos (h : Good cs) : ∀ c ∈ cs, 1 ≤ c := fun c hc => (h.all c hc).1
theorem full_len (cs : List Int) : (fullStock cs).length = cs.length := by simp [fullStock]
theorem full_pos (cs : List Int) : ∀ s ∈ fullStock cs, 0 ≤ s := fun s hs => by rw [List.eq_of_mem_replicate hs]; omega
theorem gmin_full (hg : Good cs) {a : Int} (h0 : 0 ≤ a) (h1 : a ≤ 300) : gmin cs (fullStock cs) a = few cs a.toNat := by
  have := gmin_few hg.pos (s := 300) (a := a.toNat) (by omega)
  rwa [Int.toNat_of_nonneg h0] at this
theorem pays_small {v : List Int} {a m : Int} (hg : ∀ c ∈ cs, 1 ≤ c) (h : Pays cs v a m) : ∀ x ∈ v, 0 ≤ x ∧ x ≤ a := fun x hx => by
  have h1 := h.amount_ge hg
  have h2 := mem_le_sum v h.pos x hx
  rw [h.many] at h2
  exact ⟨h.pos x hx, by omega⟩
/-- The best change, as CheckChange sees it. -/
theorem change_best (hg : Good cs) {a : Int} (h0 : 0 ≤ a) (h1 : a ≤ 300) (hf : 0 ≤ few cs a.toNat) :
    changeS cs a = (chg cs (fullStock cs) a (few cs a.toNat), 0) ∧ changeCS cs (chg cs (fullStock cs) a (few cs a.toNat)) = (a, few cs a.toNat, 0) ∧ Pays cs (chg cs (fullStock cs) a (few cs a.toNat)) a (few cs a.toNat) := by
  have e := gmin_full hg h0 h1
  have hp := (chg_pays cs (fullStock cs) a (few cs a.toNat) hg.pos (full_pos cs) (full_len cs) h0 e hf).1
  refine ⟨?_, ?_, hp⟩
  · unfold changeS bestL
    rw [if_pos (amountE_ok.2 ⟨hg, h0, h1⟩), e, if_neg (by omega)]
  · unfold changeCS
    rw [if_pos (checkCoins_good.2 hg), if_neg (by rw [hp.len]; simp), any_out.2 fun x hx => by have := pays_small hg.pos hp x hx; omega, hp.amount, hp.many]
    rfl
theorem change_none (hg : Good cs) {a : Int} (h0 : 0 ≤ a) (h1 : a ≤ 300) (hf : few cs a.toNat < 0) : changeS cs a = ([], 5) ∧ fewestS cs a = (0, 5) := by
  have e := gmin_full hg h0 h1
  unfold changeS bestL fewestS
  rw [if_pos (amountE_ok.2 ⟨hg, h0, h1⟩), e, if_pos hf, if_pos (amountE_ok.2 ⟨hg, h0, h1⟩), if_pos hf]
  exact ⟨rfl, rfl⟩
theorem fewest_is (hg : Good cs) {a : Int} (h0 : 0 ≤ a) (h1 : a ≤ 300) (hf : 0 ≤ few cs a.toNat) : fewestS cs a = (few cs a.toNat, 0) ∧ few cs a.toNat ≤ 300 := by
  unfold fewestS
  rw [if_pos (amountE_ok.2 ⟨hg, h0, h1⟩), if_neg (by omega)]
  have := few_le hg.pos a.toNat
  exact ⟨rfl, by omega⟩

/-! ### Heights -/
/-- Right heights: no change has fewer coins. -/
theorem heights_low {hs : List Int} (h : checkHeights cs hs = 0) : Good cs ∧ (∀ x ∈ hs, 0 ≤ x ∧ x ≤ 1000) ∧ ∀ (m : Nat) (v : List Int) (a : Nat), Pays cs v a m → a < hs.length → nth hs a ≤ m := by
  unfold checkHeights at h
  split at h
  · rename_i hc
    have hg := checkCoins_good.1 hc
    split at h
    · cases h
    · split at h
      · cases h
      · split at h
        · split at h
          · rename_i h1 h2 h3 h4
            refine ⟨hg, any_out.1 (by simpa using h2), fun m => ?_⟩
            have hr := riseB_iff.1 h4
            induction m with
            | zero =>
              intro v a hv ha
              have : a = 0 := by
                rcases Nat.eq_zero_or_pos a with h | h
                · exact h
                · have hcan := (can_iff hg.pos).2 ⟨v, _, hv⟩
                  have h5 := (few_min hg.pos a).2.2 v _ hv
                  obtain ⟨n, rfl⟩ : ∃ n, a = n + 1 := ⟨a - 1, by omega⟩
                  have h6 := (fold_few (fewL cs n) ((n + 1 : Nat) : Int) cs (-1)).1
                  rw [← few_succ] at h6
                  rcases h6 h5.1 with e | ⟨c, _, _, e1, e2⟩
                  · omega
                  · omega
              subst this
              rw [h3]
              omega
            | succ m ih =>
              intro v a hv ha
              obtain ⟨c, hcm, u, hu⟩ := hv.sub_ (by omega)
              have h5 := hu.amount_ge hg.pos
              have h6 := hg.pos c hcm
              have h7 := ih u (a - c.toNat) (by rw [show ((a - c.toNat : Nat) : Int) = a - c by omega]; rw [show (m : Int) = ((m + 1 : Nat) : Int) - 1 by omega]; exact hu) (by omega)
              have h8 := hr c hcm (a - c.toNat) (by omega)
              rw [show a - c.toNat + c.toNat = a by omega] at h8
              omega
          · cases h
        · cases h
  · rename_i hc
    exact absurd h hc
/-- The heights that are returned are right. -/
theorem heights_right (hg : Good cs) {n : Nat} (hn : n ≤ 300) : checkHeights cs (heightsL cs n) = 0 := by
  have hb : ∀ k : Nat, 0 ≤ highOf (few cs k) ∧ (k ≤ n → highOf (few cs k) ≤ 1000) := fun k => by
    have := few_le hg.pos k
    unfold highOf
    split <;> omega
  unfold checkHeights
  rw [if_pos (checkCoins_good.2 hg), heightsL_len, if_neg (by omega), any_out.2, nth_heightsL cs (by omega), few_zero]
  · rw [show highOf 0 = 0 from rfl]
    simp only [if_true, if_pos]
    rw [if_neg (by decide), if_pos]
    rw [riseB_iff]
    intro c hc i hi
    rw [heightsL_len] at hi
    have hc1 := hg.pos c hc
    rw [nth_heightsL cs (by omega), nth_heightsL cs (by omega)]
    have h1 := few_min hg.pos i
    have h2 := few_le hg.pos (i + c.toNat)
    by_cases h0 : 0 ≤ few cs i
    · obtain ⟨v, hv⟩ := h1.2.1 h0
      obtain ⟨u, hu⟩ := hv.add_ hc
      have h3 := (few_min hg.pos (i + c.toNat)).2.2 u (few cs i + 1) (by rw [show ((i + c.toNat : Nat) : Int) = i + c by omega]; exact hu)
      unfold highOf
      rw [if_neg (by omega), if_neg (by omega)]
      omega
    · unfold highOf
      rw [if_pos (show few cs i < 0 by omega)]
      split <;> omega
  · intro x hx
    obtain ⟨k, hk, rfl⟩ := List.getElem_of_mem hx
    rw [heightsL_len] at hk
    have e : (heightsL cs n)[k] = highOf (few cs k) := by
      rw [← nth_heightsL cs (show k ≤ n by omega), nth, List.getElem?_eq_getElem]
      rfl
    rw [e]
    exact ⟨(hb k).1, (hb k).2 (by omega)⟩

/-! ### Bad amounts -/
/-- What is taken greedily of an amount that is not less than the greatest coin. -/
theorem greedy_last : ∀ (l : List Int) (c : Int) (a : Int), (∀ x ∈ l, 1 ≤ x) → 1 ≤ c → c ≤ a → (greedyL (l ++ [c]) a).2 = (greedyL (l ++ [c]) (a - c)).2 ∧ (greedyL (l ++ [c]) a).1.sum = (greedyL (l ++ [c]) (a - c)).1.sum + 1
  | [], c, a, _, hc, ha => by
    have e : (a - c) / c = a / c - 1 := by
      have := Int.add_mul_ediv_right a (-1) (show c ≠ 0 by omega)
      rw [show a + -1 * c = a - c by omega] at this
      omega
    have e2 : (a - c) % c = a % c := by simp
    simp only [List.nil_append, greedyL, e, e2, List.sum_cons, List.sum_nil]
    exact ⟨trivial, by omega⟩
  | d :: l, c, a, hl, hc, ha => by
    obtain ⟨h1, h2⟩ := greedy_last l c a (fun x hx => hl x (by simp [hx])) hc ha
    simp only [List.cons_append, greedyL, List.sum_cons, h1]
    exact ⟨trivial, by omega⟩
theorem firstN_stop (p : Nat → Bool) : ∀ (f n : Nat), n ≤ firstN p f n ∧ firstN p f n ≤ n + f ∧ (firstN p f n < n + f → p (firstN p f n) = true) ∧ ∀ j, n ≤ j → j < firstN p f n → p j = false
  | 0, n => ⟨Nat.le_refl _, Nat.le_refl _, fun h => absurd h (by simp [firstN]), fun j h1 h2 => absurd h2 (by simp [firstN]; omega)⟩
  | f + 1, n => by
    unfold firstN
    by_cases h : p n = true
    · rw [if_pos h]
      exact ⟨Nat.le_refl _, by omega, fun _ => h, fun j h1 h2 => by omega⟩
    · rw [if_neg h]
      obtain ⟨h1, h2, h3, h4⟩ := firstN_stop p f (n + 1)
      refine ⟨by omega, by omega, fun h5 => h3 (by omega), fun j h5 h6 => ?_⟩
      rcases Nat.eq_or_lt_of_le h5 with rfl | h7
      · simpa using h
      · exact h4 j h7 h6
theorem firstBad_eq {n : Nat} {b : Nat} (hb : isBad cs b = true) (hl : ∀ j, j < b → isBad cs j = false) (hn : b < n) : firstBad cs n = b := firstN_at hb n 0 (by omega) (by omega) fun j _ h => hl j h
theorem firstBad_none {n : Nat} (hl : ∀ j, j < n → isBad cs j = false) : firstBad cs n = n := by
  obtain ⟨h1, h2, h3, h4⟩ := firstN_stop (isBad cs) n 0
  unfold firstBad
  rcases Nat.lt_or_ge (firstN (isBad cs) n 0) n with h | h
  · have := h3 (by omega)
    rw [hl _ h] at this
    cases this
  · omega
/-- The first kind has the value 1: nothing is left, all can be paid. -/
theorem one_rest (hg : Good cs) (h1 : nth cs 0 = 1) (a : Int) : (greedyL cs a).2 = 0 := by
  match cs, hg, h1 with
  | [], hg, _ => have := hg.lo; cases this
  | c :: l, _, h1 =>
    have : c = 1 := h1
    subst this
    simp [greedyL]
theorem one_can (hg : Good cs) (h1 : nth cs 0 = 1) (a : Nat) : 0 ≤ few cs a ∧ few cs a ≤ (greedyL cs a).1.sum := by
  have h := greedy_facts cs a hg.pos (by omega)
  rw [one_rest hg h1, Int.sub_zero] at h
  exact (few_min hg.pos a).2.2 _ _ h.1
theorem one_bad (hg : Good cs) (h1 : nth cs 0 = 1) {a : Nat} (ha : a ≤ 300) : isBad cs a = decide ((greedyL cs a).1.sum ≠ few cs a) := by
  have hc := one_can hg h1 a
  have e : checkBadS cs a = badOf cs a := by
    unfold checkBadS
    rw [(fewest_is hg (a := (a : Int)) (by omega) (by omega) hc.1).1, if_pos rfl]
  unfold isBad
  rw [e]
  unfold badOf
  rw [one_rest hg h1, show ((a : Int)).toNat = a from rfl]
  by_cases h : (greedyL cs a).1.sum = few cs a
  · rw [if_pos ⟨rfl, h⟩, h]
    simp
  · rw [if_neg (fun x => h x.2), decide_eq_true h]
    rfl
theorem split_last {l : List Int} (h : 1 ≤ l.length) : l = l.take (l.length - 1) ++ [nth l (l.length - 1)] := by
  have := take_snoc (some_nth (xs := l) (k := l.length - 1) (by omega))
  rw [show l.length - 1 + 1 = l.length by omega, List.take_length] at this
  exact this
theorem asc_le (hg : Good cs) : ∀ {i j : Nat}, i ≤ j → j < cs.length → nth cs i ≤ nth cs j := by
  intro i j hij hj
  induction j with
  | zero => obtain rfl : i = 0 := by omega
            exact Int.le_refl _
  | succ j ih =>
    rcases Nat.eq_or_lt_of_le hij with rfl | h
    · exact Int.le_refl _
    · have := ih (by omega) (by omega)
      have := hg.asc j hj
      omega
theorem few_next (hg : Good cs) {a c : Nat} (hc : (c : Int) ∈ cs) (hca : c ≤ a) (h0 : 0 ≤ few cs (a - c)) : 0 ≤ few cs a ∧ few cs a ≤ few cs (a - c) + 1 := by
  obtain ⟨v, hv⟩ := (few_min hg.pos (a - c)).2.1 h0
  obtain ⟨u, hu⟩ := hv.add_ hc
  exact (few_min hg.pos a).2.2 u _ (by rw [show (a : Int) = ((a - c : Nat) : Int) + c by omega]; exact hu)
theorem few_prev (hg : Good cs) {a : Nat} (h0 : 0 ≤ few cs a) (hp : 0 < a) : ∃ c : Nat, (c : Int) ∈ cs ∧ c ≤ a ∧ 0 ≤ few cs (a - c) ∧ few cs a = few cs (a - c) + 1 := by
  obtain ⟨n, rfl⟩ : ∃ n, a = n + 1 := ⟨a - 1, by omega⟩
  have h6 := (fold_few (fewL cs n) ((n + 1 : Nat) : Int) cs (-1)).1
  rw [← few_succ] at h6
  rcases h6 h0 with e | ⟨c, hc, h1, h2, h3⟩
  · omega
  · have := hg.pos c hc
    have e : (((n + 1 : Nat) : Int) - c).toNat = n + 1 - c.toNat := by omega
    rw [e, nth_fewL cs (by omega)] at h2 h3
    exact ⟨c.toNat, by rwa [Int.toNat_of_nonneg (by omega)], by omega, h2, h3⟩
/-- If something is bad, so is something less than the last two kinds together. -/
theorem bad_small (hg : Good cs) (h1 : nth cs 0 = 1) (h2 : 2 ≤ cs.length) {a : Nat} (hb : (greedyL cs a).1.sum ≠ few cs a) : ∃ b : Nat, b < topTwo cs ∧ b ≤ a ∧ (greedyL cs b).1.sum ≠ few cs b := by
  induction a using Nat.strongRecOn with
  | ind a ih =>
    by_cases hx : ∃ b, b < a ∧ (greedyL cs b).1.sum ≠ few cs b
    · obtain ⟨b, hba, hb'⟩ := hx
      obtain ⟨b', e1, e2, e3⟩ := ih b hba hb'
      exact ⟨b', e1, by omega, e3⟩
    · rcases Nat.lt_or_ge a (topTwo cs) with h3 | h3
      · exact ⟨a, h3, Nat.le_refl _, hb⟩
      · exfalso
        have hgood : ∀ b, b < a → (greedyL cs b).1.sum = few cs b := fun b hba => Classical.byContradiction fun h => hx ⟨b, hba, h⟩
        have hl := nth_mem (xs := cs) (k := cs.length - 1) (by omega)
        have hlp := hg.pos _ hl
        have hk := nth_mem (xs := cs) (k := cs.length - 2) (by omega)
        have hkp := hg.pos _ hk
        unfold topTwo at h3
        obtain ⟨c, hc⟩ : ∃ c : Nat, nth cs (cs.length - 1) = c := ⟨(nth cs (cs.length - 1)).toNat, by omega⟩
        obtain ⟨d, hd⟩ : ∃ d : Nat, nth cs (cs.length - 2) = d := ⟨(nth cs (cs.length - 2)).toNat, by omega⟩
        rw [hc] at hl hlp
        have hlast : ∀ b : Nat, c ≤ b → (greedyL cs b).1.sum = (greedyL cs ((b - c : Nat) : Int)).1.sum + 1 := fun b hcb => by
          have e := greedy_last (cs.take (cs.length - 1)) c b (fun x hx => hg.pos x (List.mem_of_mem_take hx)) hlp (by omega)
          rw [← hc, ← split_last hg.lo] at e
          rw [show ((b - c : Nat) : Int) = (b : Int) - nth cs (cs.length - 1) by omega]
          exact e.2
        have e1 := hlast a (by omega)
        rw [hgood (a - c) (by omega)] at e1
        have hca := one_can hg h1 a
        have hcc := one_can hg h1 (a - c)
        have n1 := few_next hg hl (show c ≤ a by omega) hcc.1
        obtain ⟨x, hxm, hxa, hx0, hxe⟩ := few_prev hg hca.1 (by omega)
        by_cases hxc : x = c
        · subst hxc
          omega
        · have hxp := hg.pos _ hxm
          have hxd : (x : Int) ≤ d := by
            obtain ⟨j, hj, he⟩ := List.getElem_of_mem hxm
            have ej : nth cs j = x := by rw [nth, List.getElem?_eq_getElem hj]; exact he
            rw [← hd, ← ej]
            refine asc_le hg ?_ (by omega)
            rcases Nat.eq_or_lt_of_le (show j ≤ cs.length - 1 by omega) with e | e
            · subst e
              omega
            · omega
          have e2 := hlast (a - x) (by omega)
          rw [hgood (a - x) (by omega), hgood (a - x - c) (by omega)] at e2
          have hcx := one_can hg h1 (a - x - c)
          have n2 := few_next hg hxm (show x ≤ a - c by omega) (by rw [show a - c - x = a - x - c by omega]; exact hcx.1)
          rw [show a - c - x = a - x - c by omega] at n2
          omega
/-- Fewer than three kinds: nothing is bad. -/
theorem bad_few (hg : Good cs) (h1 : nth cs 0 = 1) (h2 : cs.length < 3) (a : Nat) : (greedyL cs a).1.sum = few cs a := by
  have hcan := one_can hg h1
  match cs, hg, h1, h2, hcan with
  | [], hg, _, _, _ => have := hg.lo; cases this
  | [c], hg, h1, _, hcan =>
    have : c = 1 := h1
    subst this
    obtain ⟨v, hv⟩ := (few_min hg.pos a).2.1 (hcan a).1
    obtain ⟨x, v', rfl, hx, hv'⟩ := hv.uncons
    obtain rfl : v' = [] := List.eq_nil_of_length_eq_zero hv'.len
    have := hv'.amount; have := hv'.many
    simp [dot] at *
    simp [greedyL]
    omega
  | [c, d], hg, h1, _, hcan =>
    have : c = 1 := h1
    subst this
    have hd : 1 < d := hg.asc 0 (by simp)
    apply Classical.byContradiction
    intro hb
    obtain ⟨b, hb1, _, hb3⟩ := bad_small hg h1 (by simp) hb
    have hb1 : b < (d + 1).toNat := hb1
    obtain ⟨v, hv⟩ := (few_min hg.pos b).2.1 (hcan b).1
    obtain ⟨x, v', rfl, hx, hv'⟩ := hv.uncons
    obtain ⟨y, v'', rfl, hy, hv''⟩ := hv'.uncons
    obtain rfl : v'' = [] := List.eq_nil_of_length_eq_zero hv''.len
    have e1 := hv''.amount
    have e2 := hv''.many
    simp only [dot, List.sum_nil, Int.one_mul] at e1 e2
    have hle := (hcan b).2
    simp only [greedyL, List.sum_cons, List.sum_nil, Int.ediv_one] at hb3 hle
    by_cases hbd : (b : Int) < d
    · rw [Int.ediv_eq_zero_of_lt (by omega) hbd, Int.emod_eq_of_lt (by omega) hbd] at hb3 hle
      have hy0 : y = 0 := by
        rcases Int.lt_or_le 0 y with h | h
        · have : d * 1 ≤ d * y := Int.mul_le_mul_of_nonneg_left (by omega) (by omega)
          omega
        · omega
      subst hy0
      omega
    · have : (b : Int) = d := by omega
      rw [this, Int.ediv_self (by omega), Int.emod_self] at hb3 hle
      have : few [1, d] b ≠ 0 := fun e0 => by
        have hx0 : x = 0 := by omega
        have hy0 : y = 0 := by omega
        subst hx0
        subst hy0
        omega
      omega
theorem top_two (hg : Good cs) : topTwo cs ≤ 100 := by
  have h1 := hg.lo
  have := hg.all _ (nth_mem (k := cs.length - 1) (by omega))
  have := hg.all _ (nth_mem (k := cs.length - 2) (by omega))
  unfold topTwo
  omega
/-- What the reference looks for is what the program looks for. -/
theorem bad_ref (hg : Good cs) (h1 : nth cs 0 = 1) : badUpTo cs 100 = if cs.length < 3 then (0, 5) else badUpTo cs (topTwo cs) := by
  have ht := top_two hg
  have hnone : (∀ j, j < 100 → isBad cs j = false) → badUpTo cs 100 = (0, 5) ∧ badUpTo cs (topTwo cs) = (0, 5) := fun h => by
    unfold badUpTo
    rw [firstBad_none h, firstBad_none (fun j hj => h j (by omega)), if_neg (by omega), if_neg (by omega)]
    exact ⟨rfl, rfl⟩
  by_cases h3 : cs.length < 3
  · rw [if_pos h3]
    exact (hnone fun j hj => by rw [one_bad hg h1 (by omega), bad_few hg h1 h3]; simp).1
  · rw [if_neg h3]
    by_cases hall : ∀ j, j < 100 → isBad cs j = false
    · rw [(hnone hall).1, (hnone hall).2]
    · rw [Classical.not_forall] at hall
      obtain ⟨j, hj⟩ := hall
      rw [Classical.not_imp] at hj
      have hbj := hj.2
      rw [Bool.not_eq_false, one_bad hg h1 (by omega)] at hbj
      obtain ⟨b, hb1, hb2, hb3⟩ := bad_small hg h1 (by omega) (of_decide_eq_true hbj)
      have hbb : isBad cs b = true := by rw [one_bad hg h1 (by omega)]; exact decide_eq_true hb3
      obtain ⟨g1, g2, g3, g4⟩ := firstN_stop (isBad cs) 100 0
      have hlt : firstN (isBad cs) 100 0 ≤ b := by
        rcases Nat.lt_or_ge b (firstN (isBad cs) 100 0) with h | h
        · rw [g4 b (by omega) h] at hbb
          cases hbb
        · exact h
      have e1 : firstBad cs (topTwo cs) = firstBad cs 100 := firstBad_eq (g3 (by omega)) (fun j hj => g4 j (by omega) hj) (by show firstN (isBad cs) 100 0 < topTwo cs; omega)
      unfold badUpTo
      rw [e1]
      have e2 : firstBad cs 100 = firstN (isBad cs) 100 0 := rfl
      rw [if_pos (by omega), if_pos (by omega)]
end
end Go.Proofs.Ytloibnmhgocboaa

namespace Go.Proofs.Ytloibnmhgocboaa

section
variable {cs : List Int}
/-- An amount can be paid just if it is not less than the least amount of its rest. -/
theorem can_rest (hg : Good cs) (a : Nat) : can cs a ↔ 0 ≤ nth (restsL cs) (a % first cs) ∧ nth (restsL cs) (a % first cs) ≤ a := by
  have hR := rests_restsL hg
  obtain ⟨h1, h2, h3⟩ := first_pos hg
  refine ⟨hR.least a, fun ⟨h4, h5⟩ => ?_⟩
  obtain ⟨h6, h7⟩ := hR.own _ (Nat.mod_lt a (by omega)) h4
  have key : ∀ k : Nat, can cs ((nth (restsL cs) (a % first cs)).toNat + k * first cs) := by
    intro k
    induction k with
    | zero => simpa using h7
    | succ k ih =>
      have := can_add hg.pos (c := first cs) (by rw [h3]; exact nth_mem hg.lo) ih
      rwa [Nat.succ_mul, ← Nat.add_assoc]
  have e1 : (nth (restsL cs) (a % first cs)).toNat + (a - (nth (restsL cs) (a % first cs)).toNat) / first cs * first cs = a := by
    have e2 : (a - (nth (restsL cs) (a % first cs)).toNat) % first cs = 0 := by
      have e3 : (a - (nth (restsL cs) (a % first cs)).toNat + (nth (restsL cs) (a % first cs)).toNat) % first cs = a % first cs := by rw [Nat.sub_add_cancel (by omega)]
      have e4 := Nat.sub_mod_eq_zero_of_mod_eq (m := a) (n := (nth (restsL cs) (a % first cs)).toNat) (k := first cs) (by rw [h6])
      exact e4
    have := Nat.div_add_mod (a - (nth (restsL cs) (a % first cs)).toNat) (first cs)
    rw [e2, Nat.add_zero, Nat.mul_comm] at this
    omega
  have := key ((a - (nth (restsL cs) (a % first cs)).toNat) / first cs)
  rwa [e1] at this
theorem rests_zero (hg : Good cs) : nth (restsL cs) 0 = 0 := by
  have h := (rests_restsL hg).least 0 (can_zero cs)
  rw [Nat.zero_mod] at h
  omega
theorem rests_len (hg : Good cs) : (restsL cs).length = first cs := (rests_restsL hg).len
theorem endless_iff (hg : Good cs) : endless cs = false ↔ ∀ r : Nat, r < first cs → 0 ≤ nth (restsL cs) r := by
  have hR := rests_restsL hg
  simp only [endless, List.any_eq_false, decide_eq_true_eq]
  constructor
  · intro h r hr
    have h1 := hR.low r hr
    have h2 := h _ (nth_mem (xs := restsL cs) (k := r) (by rw [hR.len]; exact hr))
    omega
  · intro h x hx e
    obtain ⟨k, hk, he⟩ := List.getElem_of_mem hx
    have := h k (by rw [← hR.len]; exact hk)
    rw [nth, List.getElem?_eq_getElem hk] at this
    have h2 : (restsL cs)[k] = -1 := by rw [he, e]
    simp only [Option.getD_some] at this
    omega
/-- No amount less than the least coin can be paid, but 0. -/
theorem can_ge (hg : Good cs) {a : Nat} (h : can cs a) (hp : 0 < a) : first cs ≤ a := by
  obtain ⟨c, hc, hca, _⟩ := can_sub hg.pos h hp
  obtain ⟨j, hj, he⟩ := List.getElem_of_mem hc
  have ej : nth cs j = c := by rw [nth, List.getElem?_eq_getElem hj]; exact he
  have := asc_le hg (Nat.zero_le j) hj
  have := first_pos hg
  omega
theorem foldmax (L : List Int) : ∀ m : Int, m ≤ L.foldl (fun m x => if m < x then x else m) m ∧ (∀ x ∈ L, x ≤ L.foldl (fun m x => if m < x then x else m) m) ∧ (L.foldl (fun m x => if m < x then x else m) m = m ∨ L.foldl (fun m x => if m < x then x else m) m ∈ L) := by
  induction L with
  | nil => intro m; exact ⟨Int.le_refl _, by simp, .inl rfl⟩
  | cons y L ih =>
    intro m
    rw [List.foldl_cons]
    obtain ⟨h1, h2, h3⟩ := ih (if m < y then y else m)
    have hs : m ≤ (if m < y then y else m) ∧ y ≤ (if m < y then y else m) ∧ ((if m < y then y else m) = m ∨ (if m < y then y else m) = y) := by split <;> omega
    refine ⟨by omega, fun x hx => ?_, ?_⟩
    · rcases List.mem_cons.1 hx with rfl | hx
      · omega
      · exact h2 x hx
    · rcases h3 with h3 | h3
      · rcases hs.2.2 with e | e
        · exact .inl (by rw [h3, e])
        · exact .inr (by rw [h3, e]; simp)
      · exact .inr (by simp [h3])
theorem maxL_ge (L : List Int) : ∀ x ∈ L, x ≤ maxL L := (foldmax L (-1)).2.1
theorem maxL_mem {L : List Int} (h : ∃ x ∈ L, -1 < x) : maxL L ∈ L := by
  rcases (foldmax L (-1)).2.2 with h1 | h1
  · obtain ⟨x, hx, h2⟩ := h
    have := (foldmax L (-1)).2.1 x hx
    unfold maxL
    omega
  · exact h1
/-- The greatest amount that cannot be paid. -/
structure Great (cs : List Int) (g : Int) : Prop where
  low : 0 ≤ g
  not_ : ¬ can cs g.toNat
  all : ∀ a : Nat, g < a → can cs a
theorem greatest_is (hg : Good cs) (he : endless cs = false) (h1 : 2 ≤ first cs) : Great cs (maxL (restsL cs) - nth cs 0) ∧ maxL (restsL cs) ≤ 5000 := by
  have hR := rests_restsL hg
  obtain ⟨f1, f2, f3⟩ := first_pos hg
  have hn := (endless_iff hg).1 he
  have hm := maxL_mem (L := restsL cs) ⟨nth (restsL cs) 0, nth_mem (by rw [hR.len]; omega), by rw [rests_zero hg]; omega⟩
  obtain ⟨k, hk, hke⟩ := List.getElem_of_mem hm
  have hk' : k < first cs := by rw [← hR.len]; exact hk
  have ek : nth (restsL cs) k = maxL (restsL cs) := by rw [nth, List.getElem?_eq_getElem hk]; exact hke
  have h0 := hn k hk'
  obtain ⟨o1, o2⟩ := hR.own k hk' h0
  -- rest 1 shows that the greatest is above the first coin
  have h11 := hn 1 (by omega)
  obtain ⟨p1, p2⟩ := hR.own 1 (by omega) h11
  have hp1 : 0 < (nth (restsL cs) 1).toNat := by
    rcases Nat.eq_zero_or_pos (nth (restsL cs) 1).toNat with e | e
    · rw [e, Nat.zero_mod] at p1
      omega
    · exact e
  have q1 := can_ge hg p2 hp1
  have q2 := maxL_ge _ _ (nth_mem (xs := restsL cs) (k := 1) (by rw [hR.len]; omega))
  have hbd := rests_bd (cs := cs) k
  refine ⟨⟨by omega, fun hcan => ?_, fun a ha => ?_⟩, by omega⟩
  · rw [can_rest hg] at hcan
    have e : (maxL (restsL cs) - nth cs 0).toNat % first cs = k := by
      rw [show (maxL (restsL cs) - nth cs 0).toNat = (nth (restsL cs) k).toNat - first cs by omega, ← Nat.mod_eq_sub_mod (by omega), o1]
    rw [e] at hcan
    omega
  · rw [can_rest hg]
    have hr : a % first cs < first cs := Nat.mod_lt _ (by omega)
    have h2 := hn _ hr
    refine ⟨h2, ?_⟩
    obtain ⟨o3, _⟩ := hR.own _ hr h2
    have h3 := maxL_ge _ _ (nth_mem (xs := restsL cs) (k := a % first cs) (by rw [hR.len]; exact hr))
    rcases Int.lt_or_le (a : Int) (nth (restsL cs) (a % first cs)) with h4 | h4
    · exfalso
      -- a < its least amount, and more than that less a coin: but they have the same rest
      have e := Nat.div_add_mod a (first cs)
      have e2 := Nat.div_add_mod (nth (restsL cs) (a % first cs)).toNat (first cs)
      rw [o3] at e2
      have hlt : a / first cs < (nth (restsL cs) (a % first cs)).toNat / first cs := by
        rcases Nat.lt_or_ge (a / first cs) ((nth (restsL cs) (a % first cs)).toNat / first cs) with h | h
        · exact h
        · have := Nat.mul_le_mul_left (first cs) h
          omega
      have h5 := Nat.mul_le_mul_left (first cs) (show a / first cs + 1 ≤ (nth (restsL cs) (a % first cs)).toNat / first cs from hlt)
      rw [Nat.mul_add, Nat.mul_one] at h5
      omega
    · exact h4
theorem Great.unique {g h : Int} (hg : Great cs g) (hh : Great cs h) : g = h := by
  have a1 := hg.low
  have a2 := hh.low
  rcases Int.lt_or_le g h with e | e
  · exact absurd (hg.all h.toNat (by omega)) hh.not_
  · rcases Int.lt_or_le h g with e' | e'
    · exact absurd (hh.all g.toNat (by omega)) hg.not_
    · omega

/-! ### How many cannot be paid -/
def sumTo (f : Nat → Nat) : Nat → Nat
  | 0 => 0
  | n + 1 => sumTo f n + f n
theorem sumTo_congr {f g : Nat → Nat} {n : Nat} (h : ∀ k, k < n → f k = g k) : sumTo f n = sumTo g n := by
  induction n with
  | zero => rfl
  | succ n ih => rw [sumTo, sumTo, ih (fun k hk => h k (by omega)), h n (by omega)]
theorem sumTo_add (f g : Nat → Nat) (n : Nat) : sumTo (fun k => f k + g k) n = sumTo f n + sumTo g n := by
  induction n with
  | zero => rfl
  | succ n ih => rw [sumTo, sumTo, sumTo, ih]; omega
theorem sumTo_le {f g : Nat → Nat} {n : Nat} (h : ∀ k, k < n → f k ≤ g k) : sumTo f n ≤ sumTo g n := by
  induction n with
  | zero => exact Nat.le_refl _
  | succ n ih => rw [sumTo, sumTo]; have := ih (fun k hk => h k (by omega)); have := h n (by omega); omega
theorem sumTo_split (f : Nat → Nat) (m n : Nat) : sumTo f (m + n) = sumTo f m + sumTo (fun k => f (m + k)) n := by
  induction n with
  | zero => rfl
  | succ n ih => rw [← Nat.add_assoc, sumTo, sumTo, ih]; omega
def cannot (cs : List Int) (a : Nat) : Nat := if can cs a then 0 else 1
theorem count_rows (hg : Good cs) (he : endless cs = false) (K : Nat) : sumTo (cannot cs) (first cs * K) = sumTo (fun r => min K ((nth (restsL cs) r).toNat / first cs)) (first cs) := by
  have hR := rests_restsL hg
  obtain ⟨f1, f2, f3⟩ := first_pos hg
  have hn := (endless_iff hg).1 he
  induction K with
  | zero =>
    rw [Nat.mul_zero, sumTo]
    have : ∀ n, sumTo (fun r => min 0 ((nth (restsL cs) r).toNat / first cs)) n = 0 := fun n => by
      induction n with
      | zero => rfl
      | succ n ih => rw [sumTo, ih]; simp
    rw [this]
  | succ K ih =>
    rw [Nat.mul_add, Nat.mul_one, sumTo_split, ih, ← sumTo_add]
    refine sumTo_congr fun r hr => ?_
    have h0 := hn r hr
    obtain ⟨o1, _⟩ := hR.own r hr h0
    have e : (first cs * K + r) % first cs = r := by rw [Nat.mul_add_mod, Nat.mod_eq_of_lt hr]
    have hc := can_rest hg (first cs * K + r)
    rw [e] at hc
    have e2 := Nat.div_add_mod (nth (restsL cs) r).toNat (first cs)
    rw [o1] at e2
    unfold cannot
    by_cases hK : K < (nth (restsL cs) r).toNat / first cs
    · have h5 := Nat.mul_le_mul_left (first cs) (show K + 1 ≤ (nth (restsL cs) r).toNat / first cs from hK)
      rw [Nat.mul_add, Nat.mul_one] at h5
      rw [if_neg (fun h => by have := (hc.1 h).2; omega)]
      omega
    · have h5 := Nat.mul_le_mul_left (first cs) (show (nth (restsL cs) r).toNat / first cs ≤ K by omega)
      rw [if_pos (hc.2 ⟨h0, by omega⟩)]
      omega
theorem sum_map_nat : ∀ (L : List Int) (f : Int → Int), (∀ x ∈ L, 0 ≤ f x) → (L.map f).sum = ((sumTo (fun r => (f (nth L r)).toNat) L.length : Nat) : Int) := by
  intro L
  induction L using snoc_induction with
  | h0 => intro f _; rfl
  | h1 l d ih =>
    intro f h
    rw [List.map_append, List.sum_append, ih f (fun x hx => h x (by simp [hx])), List.length_append]
    have h1 := h d (by simp)
    have e : sumTo (fun r => (f (nth (l ++ [d]) r)).toNat) (l.length + [d].length) = sumTo (fun r => (f (nth l r)).toNat) l.length + (f d).toNat := by
      rw [show l.length + [d].length = l.length + 1 from rfl, sumTo, nth_snoc rfl]
      congr 1
      exact sumTo_congr fun k hk => by rw [nth_append_left hk]
    rw [e]
    simp
    omega
theorem many_count (hg : Good cs) (he : endless cs = false) {K : Nat} (hK : 5000 ≤ K) : divSum (nth cs 0) (restsL cs) = ((sumTo (cannot cs) (first cs * K) : Nat) : Int) := by
  have hR := rests_restsL hg
  obtain ⟨f1, f2, f3⟩ := first_pos hg
  have hn := (endless_iff hg).1 he
  rw [count_rows hg he, divSum, sum_map_nat _ _ fun x hx => ?_, hR.len]
  · refine congrArg _ (sumTo_congr fun r hr => ?_)
    have h0 := hn r hr
    have hb := rests_bd (cs := cs) r
    have e : nth (restsL cs) r / nth cs 0 = (((nth (restsL cs) r).toNat / first cs : Nat) : Int) := by
      rw [Int.natCast_ediv, f3, Int.toNat_of_nonneg h0]
    have : (nth (restsL cs) r).toNat / first cs ≤ (nth (restsL cs) r).toNat := Nat.div_le_self _ _
    show (nth (restsL cs) r / nth cs 0).toNat = _
    rw [e, Int.toNat_natCast, Nat.min_eq_right (by omega)]
  · obtain ⟨k, hk, rfl⟩ := List.getElem_of_mem hx
    have h1 := hn k (by rw [← hR.len]; exact hk)
    rw [nth, List.getElem?_eq_getElem hk] at h1
    exact Int.ediv_nonneg h1 (by omega)
/-- Coins that can pay more: no more amounts cannot be paid. -/
theorem many_le {ds : List Int} (hg : Good cs) (hd : Good ds) (he : endless cs = false) (hsub : ∀ a, can cs a → can ds a) : endless ds = false ∧ divSum (nth ds 0) (restsL ds) ≤ divSum (nth cs 0) (restsL cs) := by
  have hR := rests_restsL hg
  obtain ⟨f1, f2, f3⟩ := first_pos hg
  obtain ⟨g1, g2, g3⟩ := first_pos hd
  have hn := (endless_iff hg).1 he
  have hed : endless ds = false := (endless_iff hd).2 fun r hr => by
    -- a great amount of this rest can be paid
    obtain ⟨z, hz⟩ : ∃ z : Nat, z = 5000 := ⟨_, rfl⟩
    have hcan : can ds (r + first ds * z) := hsub _ ((can_rest hg _).2 ⟨hn _ (Nat.mod_lt _ (by omega)), by
      have := rests_bd (cs := cs) ((r + first ds * z) % first cs)
      have : 1 * z ≤ first ds * z := Nat.mul_le_mul_right z g1
      omega⟩)
    have := ((can_rest hd _).1 hcan).1
    rwa [Nat.add_mul_mod_self_left, Nat.mod_eq_of_lt hr] at this
  refine ⟨hed, ?_⟩
  obtain ⟨z, hz⟩ : ∃ z : Nat, z = 5000 := ⟨_, rfl⟩
  have k1 : 1 * z ≤ first ds * z := Nat.mul_le_mul_right z g1
  have k2 : 1 * z ≤ first cs * z := Nat.mul_le_mul_right z f1
  rw [many_count hg he (K := first ds * z) (by omega), many_count hd hed (K := first cs * z) (by omega), Nat.mul_left_comm (first cs) (first ds)]
  refine Int.ofNat_le.2 (sumTo_le fun a _ => ?_)
  unfold cannot
  by_cases h : can cs a
  · rw [if_pos h, if_pos (hsub a h)]
    exact Nat.le_refl _
  · rw [if_neg h]
    split <;> omega

/-! ### Two kinds -/
theorem sumTo_flip (f : Nat → Nat) (n : Nat) : sumTo (fun k => f (n - 1 - k)) n = sumTo f n := by
  have key : ∀ m, m ≤ n → sumTo (fun k => f (n - 1 - k)) m + sumTo f (n - m) = sumTo f n := by
    intro m
    induction m with
    | zero => intro _; simp [sumTo]
    | succ m ih =>
      intro h
      have := ih (by omega)
      rw [sumTo]
      have e : sumTo f (n - m) = sumTo f (n - (m + 1)) + f (n - 1 - m) := by
        rw [show n - m = (n - (m + 1)) + 1 by omega, sumTo, show n - (m + 1) = n - 1 - m by omega]
      omega
  have := key n (Nat.le_refl _)
  rw [Nat.sub_self, sumTo] at this
  omega
theorem sumTo_one {f : Nat → Nat} {n : Nat} (h : ∀ k, k < n → f k = 1) : sumTo f n = n := by
  induction n with
  | zero => rfl
  | succ n ih => rw [sumTo, ih (fun k hk => h k (by omega)), h n (by omega)]
/-- Half of the amounts up to the greatest one cannot be paid, if of two that are this together just one can. -/
theorem half_count {g : Nat} (hG : Great cs g) (hx : ∀ a, a ≤ g → (can cs a ↔ ¬ can cs (g - a))) {N : Nat} (hN : g + 1 ≤ N) : 2 * sumTo (cannot cs) N = g + 1 := by
  have e1 : sumTo (cannot cs) N = sumTo (cannot cs) (g + 1) := by
    rw [show N = g + 1 + (N - (g + 1)) by omega, sumTo_split]
    have : ∀ n, sumTo (fun k => cannot cs (g + 1 + k)) n = 0 := fun n => by
      induction n with
      | zero => rfl
      | succ n ih => rw [sumTo, ih, cannot, if_pos (hG.all _ (by omega))]
    rw [this, Nat.add_zero]
  have e2 : sumTo (fun k => cannot cs k + cannot cs (g + 1 - 1 - k)) (g + 1) = g + 1 := sumTo_one fun k hk => by
    have h := hx k (by omega)
    rw [show g + 1 - 1 - k = g - k by omega]
    unfold cannot
    by_cases hc : can cs k
    · rw [if_pos hc, if_neg (h.1 hc)]
    · rw [if_neg hc, if_pos (Classical.byContradiction fun h' => hc (h.2 h'))]
  rw [sumTo_add, sumTo_flip (cannot cs) (g + 1)] at e2
  omega
end
end Go.Proofs.Ytloibnmhgocboaa

namespace Go.Proofs.Ytloibnmhgocboaa

section
variable {cs : List Int}
/-! ### Two kinds -/
def invOk (a b : Nat) : Bool := decide (a = 0) || decide (Nat.gcd a b ≠ 1) || (List.range a).any fun j => decide ((j * b) % a = 1 % a)
theorem invOk_all : (List.range 50).all (fun a => (List.range 51).all (invOk a)) = true := by decide +kernel
theorem inv_ex {a b : Nat} (h0 : 1 ≤ a) (ha : a < 50) (hb : b ≤ 50) (hg : Nat.gcd a b = 1) : ∃ j, (j * b) % a = 1 % a := by
  have h := List.all_eq_true.1 (List.all_eq_true.1 invOk_all a (List.mem_range.2 ha)) b (List.mem_range.2 (by omega))
  simp only [invOk, Bool.or_eq_true, decide_eq_true_eq, List.any_eq_true] at h
  rcases h with (h | h) | ⟨j, _, h⟩
  · omega
  · exact absurd hg h
  · exact ⟨j, h⟩
/-- Each amount is so many times a and so many times b, the latter less than a. -/
theorem two_form {a b : Nat} (ha : 2 ≤ a) (ha2 : a < 50) (hb : b ≤ 50) (hg : Nat.gcd a b = 1) (x : Int) : ∃ (i : Int) (j : Nat), j < a ∧ x = i * a + j * b := by
  obtain ⟨u, hu⟩ := inv_ex (by omega) ha2 hb hg
  have hx0 : 0 ≤ x % a := Int.emod_nonneg _ (by omega)
  obtain ⟨r, hr⟩ : ∃ r : Nat, x % a = r := ⟨(x % a).toNat, by omega⟩
  refine ⟨x / a + (r - (((u * r) % a : Nat) : Int) * b) / a, (u * r) % a, Nat.mod_lt _ (by omega), ?_⟩
  have e1 : (((u * r) % a * b : Nat) : Int) % a = r % a := by
    have : ((u * r) % a * b) % a = r % a := by
      rw [Nat.mod_mul_mod, show u * r * b = (u * b) * r by rw [Nat.mul_right_comm], ← Nat.mod_mul_mod, hu, Nat.mod_mul_mod, Nat.one_mul]
    rw [← Int.natCast_emod, this, Int.natCast_emod]
  have e2 : ((r : Int) - (((u * r) % a : Nat) : Int) * b) % a = 0 := by
    rw [← Int.natCast_mul, Int.sub_emod, e1, Int.sub_self, Int.zero_emod]
  have e3 := Int.mul_ediv_add_emod x a
  have e4 := Int.mul_ediv_add_emod ((r : Int) - (((u * r) % a : Nat) : Int) * b) a
  rw [e2] at e4
  rw [Int.add_mul, Int.mul_comm (x / a), Int.mul_comm (((r : Int) - (((u * r) % a : Nat) : Int) * b) / a)]
  omega
theorem gcd_ne {a b : Nat} (ha : 1 ≤ a) (hg : Nat.gcd a b = 1) {j k : Nat} (hj : j < a) (h : a ∣ k * b) (hk : k ≤ j) : k = 0 := by
  have h1 : a ∣ k := Nat.Coprime.dvd_of_dvd_mul_right hg h
  rcases Nat.eq_zero_or_pos k with e | e
  · exact e
  · have := Nat.le_of_dvd e h1
    omega
theorem two_can {a b : Nat} (ha : 1 ≤ a) (hb : 1 ≤ b) (hg : Nat.gcd a b = 1) {x : Nat} {i : Int} {j : Nat} (hj : j < a) (hx : (x : Int) = i * a + j * b) : can [(a : Int), b] x ↔ 0 ≤ i := by
  have hc : ∀ c ∈ [(a : Int), b], 1 ≤ c := by intro c hc; simp at hc; omega
  rw [can_iff hc]
  constructor
  · rintro ⟨v, m, hv⟩
    obtain ⟨p, v', rfl, hp, hv'⟩ := hv.uncons
    obtain ⟨q, v'', rfl, hq, hv''⟩ := hv'.uncons
    obtain rfl : v'' = [] := List.eq_nil_of_length_eq_zero hv''.len
    have e1 := hv''.amount
    simp only [dot] at e1
    -- x = a p + b q, q = j mod a, so q >= j
    obtain ⟨Q, rfl⟩ : ∃ Q : Nat, q = Q := ⟨q.toNat, by omega⟩
    obtain ⟨P, rfl⟩ : ∃ P : Nat, p = P := ⟨p.toNat, by omega⟩
    apply Classical.byContradiction
    intro hi
    obtain ⟨I, hI⟩ : ∃ I : Nat, i = -(I : Int) := ⟨(-i).toNat, by omega⟩
    subst hI
    have e2 : (a : Int) * P + b * Q = -(I : Int) * a + j * b := by omega
    have e3 : a * P + b * Q + I * a = j * b := by
      have : (((a * P + b * Q + I * a : Nat)) : Int) = ((j * b : Nat) : Int) := by
        simp only [Int.natCast_add, Int.natCast_mul]
        rw [Int.neg_mul] at e2
        omega
      exact Int.ofNat.inj this
    have hQ : Q ≤ j := by
      rcases Nat.lt_or_ge j Q with h | h
      · have := Nat.mul_le_mul_left b (show j + 1 ≤ Q from h)
        rw [Nat.mul_add, Nat.mul_one, Nat.mul_comm b j] at this
        omega
      · exact h
    have hd : a ∣ (j - Q) * b := by
      rw [Nat.sub_mul]
      refine ⟨P + I, ?_⟩
      rw [Nat.mul_add, Nat.mul_comm a I, Nat.mul_comm Q b]
      omega
    have hz := gcd_ne ha hg hj hd (Nat.sub_le j Q)
    have : Q = j := by omega
    subst this
    rw [Nat.mul_comm b] at e3
    have h1 : I * a = 0 := by omega
    rcases Nat.mul_eq_zero.1 h1 with h | h
    · subst h; omega
    · omega
  · intro hi
    refine ⟨[i, (j : Int)], i + (j + 0), ?_⟩
    have h := (Pays.nil_.cons_ (c := (b : Int)) (x := (j : Int)) (by omega)).cons_ (c := (a : Int)) hi
    rw [show (a : Int) * i + (b * j + 0) = x by rw [hx, Int.mul_comm (a : Int), Int.mul_comm (b : Int)]; omega] at h
    exact h
/-- The greatest amount that cannot be paid of two kinds, and: of two amounts that are this together just one can be paid. -/
theorem two_flip {a b : Nat} (ha : 2 ≤ a) (ha2 : a < 50) (hab : a < b) (hb : b ≤ 50) (hg : Nat.gcd a b = 1) {x : Nat} (hx : (x : Int) ≤ (a : Int) * b - a - b) : can [(a : Int), b] x ↔ ¬ can [(a : Int), b] ((a : Int) * b - a - b - x).toNat := by
  obtain ⟨i, j, hj, e⟩ := two_form ha ha2 hb hg x
  have h1 := two_can (by omega) (by omega) hg hj e
  have h2 := two_can (a := a) (b := b) (x := ((a : Int) * b - a - b - x).toNat) (i := -1 - i) (j := a - 1 - j) (by omega) (by omega) hg (by omega) (by
    rw [Int.toNat_of_nonneg (by omega), e, show ((a - 1 - j : Nat) : Int) = (a : Int) - 1 - j by omega]
    rw [Int.sub_mul (-1) i, Int.sub_mul ((a : Int) - 1), Int.sub_mul (a : Int), Int.neg_mul, Int.one_mul, Int.one_mul]
    omega)
  rw [h1, h2]
  omega
theorem two_great {a b : Nat} (ha : 2 ≤ a) (ha2 : a < 50) (hab : a < b) (hb : b ≤ 50) (hg : Nat.gcd a b = 1) : Great [(a : Int), b] ((a : Int) * b - a - b) := by
  have hp : (1 : Int) * b ≤ (a - 1) * b := Int.mul_le_mul_of_nonneg_right (by omega) (by omega)
  rw [Int.sub_mul, Int.one_mul] at hp
  have hp2 : (2 : Int) * b ≤ a * b := Int.mul_le_mul_of_nonneg_right (by omega) (by omega)
  have h0 : 0 ≤ (a : Int) * b - a - b := by omega
  refine ⟨h0, ?_, fun x hx => ?_⟩
  · have h := two_flip ha ha2 hab hb hg (x := 0) (by omega)
    rw [show (a : Int) * b - a - b - ((0 : Nat) : Int) = (a : Int) * b - a - b by omega] at h
    exact h.1 (can_zero _)
  · obtain ⟨i, j, hj, e⟩ := two_form ha ha2 hb hg x
    rw [two_can (by omega) (by omega) hg hj e]
    apply Classical.byContradiction
    intro hi
    have h1 : i * (a : Int) ≤ (-1) * a := Int.mul_le_mul_of_nonneg_right (by omega) (by omega)
    have h2 : (j : Int) * b ≤ ((a : Int) - 1) * b := Int.mul_le_mul_of_nonneg_right (by omega) (by omega)
    rw [Int.sub_mul, Int.one_mul] at h2
    omega

/-! ### Ways -/
theorem can_snoc {l : List Int} {c : Nat} (hl : ∀ x ∈ l, 1 ≤ x) (hc : 1 ≤ c) (a : Nat) : can (l ++ [(c : Int)]) a ↔ can l a ∨ (c ≤ a ∧ can (l ++ [(c : Int)]) (a - c)) := by
  have hlc : ∀ x ∈ l ++ [(c : Int)], 1 ≤ x := fun x hx => by
    rcases List.mem_append.1 hx with h | h
    · exact hl x h
    · simp at h; omega
  -- a way to pay with the last number apart
  have split : ∀ (l : List Int) (v : List Int) (a m : Int), Pays (l ++ [(c : Int)]) v a m → ∃ u x, 0 ≤ x ∧ Pays l u (a - c * x) (m - x) := by
    intro l
    induction l with
    | nil =>
      intro v a m h
      obtain ⟨x, v', rfl, hx, h'⟩ := h.uncons
      exact ⟨v', x, hx, h'⟩
    | cons d l ih =>
      intro v a m h
      obtain ⟨y, v', rfl, hy, h'⟩ := h.uncons
      obtain ⟨u, x, hx, hu⟩ := ih v' _ _ h'
      refine ⟨y :: u, x, hx, ?_⟩
      have h1 := hu.cons_ (c := d) hy
      rwa [show d * y + (a - d * y - c * x) = a - c * x by omega, show y + (m - y - x) = m - x by omega] at h1
  have wid : ∀ (l u : List Int) (a m : Int), Pays l u a m → ∃ v, Pays (l ++ [(c : Int)]) v a m := by
    intro l
    induction l with
    | nil =>
      intro u a m h
      refine ⟨0 :: u, ?_⟩
      have h1 := h.cons_ (c := (c : Int)) (Int.le_refl 0)
      rwa [Int.mul_zero, Int.zero_add, Int.zero_add] at h1
    | cons d l ih =>
      intro u a m h
      obtain ⟨y, v', rfl, hy, h'⟩ := h.uncons
      obtain ⟨v, hv⟩ := ih v' _ _ h'
      refine ⟨y :: v, ?_⟩
      have h1 := hv.cons_ (c := d) hy
      rwa [show d * y + (a - d * y) = a by omega, show y + (m - y) = m by omega] at h1
  constructor
  · intro h
    obtain ⟨v, m, hv⟩ := (can_iff hlc).1 h
    obtain ⟨u, x, hx, hu⟩ := split l v _ _ hv
    by_cases h0 : x = 0
    · subst h0
      exact .inl ((can_iff hl).2 ⟨u, _, by rwa [Int.mul_zero, Int.sub_zero] at hu⟩)
    · have h1 := hu.amount_ge hl
      have h2 : (c : Int) * 1 ≤ c * x := Int.mul_le_mul_of_nonneg_left (by omega) (by omega)
      refine .inr ⟨by omega, ?_⟩
      have key : ∀ k : Nat, ∀ a : Nat, can (l ++ [(c : Int)]) a → can (l ++ [(c : Int)]) (a + k * c) := by
        intro k
        induction k with
        | zero => intro a h; simpa using h
        | succ k ih => intro a h; rw [Nat.succ_mul, ← Nat.add_assoc]; exact can_add hlc (by simp) (ih a h)
      obtain ⟨w, hw⟩ := wid l u _ _ hu
      obtain ⟨X, rfl⟩ : ∃ X : Nat, x = X + 1 := ⟨(x - 1).toNat, by omega⟩
      rw [Int.mul_add, Int.mul_one] at hw h2 h1
      have hnn : 0 ≤ (c : Int) * X := Int.mul_nonneg (by omega) (by omega)
      have hb : can (l ++ [(c : Int)]) ((a : Int) - (c * X + c)).toNat := (can_iff hlc).2 ⟨w, _, by rw [Int.toNat_of_nonneg (by omega)]; exact hw⟩
      have h3 := key X _ hb
      have e : ((a : Int) - (c * X + c)).toNat + X * c = a - c := by
        have : ((X * c : Nat) : Int) = c * X := by rw [Int.natCast_mul, Int.mul_comm]
        omega
      rwa [e] at h3
  · rintro (h | ⟨h1, h2⟩)
    · obtain ⟨v, m, hv⟩ := (can_iff hl).1 h
      obtain ⟨w, hw⟩ := wid l v _ _ hv
      exact (can_iff hlc).2 ⟨w, _, hw⟩
    · have := can_add hlc (c := c) (by simp) h2
      rwa [Nat.sub_add_cancel h1] at this
theorem ways_pos {cs : List Int} (hc : ∀ c ∈ cs, 1 ≤ c) : ∀ a : Nat, 0 ≤ waysF cs a ∧ (0 < waysF cs a ↔ can cs a) := by
  induction cs using snoc_induction with
  | h0 =>
    intro a
    rw [waysF_nil_at]
    by_cases h : a = 0
    · subst h
      rw [if_pos rfl]
      exact ⟨by omega, fun _ => can_zero _, fun _ => by omega⟩
    · rw [if_neg h]
      refine ⟨by omega, fun h => by omega, fun hcan => ?_⟩
      obtain ⟨c, hc, _⟩ := can_sub (cs := []) (by simp) hcan (by omega)
      cases hc
  | h1 l d ih =>
    have hd := hc d (by simp)
    have ih := ih (fun x hx => hc x (by simp [hx]))
    obtain ⟨c, rfl⟩ : ∃ c : Nat, d = c := ⟨d.toNat, by omega⟩
    intro a
    rw [waysF_snoc]
    induction a using Nat.strongRecOn with
    | ind a iha =>
      rw [rowF_eq (by omega), Int.toNat_natCast]
      have h1 := ih a
      have hs := can_snoc (l := l) (c := c) (fun x hx => hc x (by simp [hx])) (by omega) a
      by_cases h : c ≤ a
      · rw [if_pos h]
        have h2 := iha (a - c) (by omega)
        rw [Int.toNat_natCast] at h2
        refine ⟨by omega, fun h3 => hs.2 ?_, fun h3 => ?_⟩
        · by_cases h4 : 0 < waysF l a
          · exact .inl (h1.2.1 h4)
          · exact .inr ⟨h, h2.2.1 (by omega)⟩
        · rcases hs.1 h3 with h4 | ⟨_, h4⟩
          · have := h1.2.2 h4; omega
          · have := h2.2.2 h4; omega
      · rw [if_neg h]
        refine ⟨by omega, fun h3 => hs.2 (.inl (h1.2.1 (by omega))), fun h3 => ?_⟩
        rcases hs.1 h3 with h4 | ⟨h4, _⟩
        · have := h1.2.2 h4; omega
        · exact absurd h4 h
theorem rowF_mono {c : Nat} (hc : 1 ≤ c) {F G : Nat → Int} (h : ∀ k, F k ≤ G k) (k : Nat) : rowF c F k ≤ rowF c G k := by
  induction k using Nat.strongRecOn with
  | ind k ih =>
    rw [rowF_eq hc F k, rowF_eq hc G k]
    have := h k
    by_cases h0 : c ≤ k
    · rw [if_pos h0, if_pos h0]
      have := ih (k - c) (by omega)
      omega
    · rw [if_neg h0, if_neg h0]
      omega
theorem rowF_ge {c : Nat} (hc : 1 ≤ c) {F : Nat → Int} (h : ∀ k, 0 ≤ F k) (k : Nat) : 0 ≤ rowF c F k ∧ F k ≤ rowF c F k := by
  induction k using Nat.strongRecOn with
  | ind k ih =>
    rw [rowF_eq hc]
    have := h k
    by_cases h0 : c ≤ k
    · rw [if_pos h0]
      have := ih (k - c) (by omega)
      omega
    · rw [if_neg h0]
      omega
/-- One kind more, anywhere. -/
theorem ways_more {l m : List Int} {v : Int} (hl : ∀ c ∈ l, 1 ≤ c) (hm : ∀ c ∈ m, 1 ≤ c) (hv : 1 ≤ v) (k : Nat) : waysF (l ++ m) k ≤ waysF (l ++ v :: m) k := by
  have h0 : ∀ k, waysF l k ≤ waysF (l ++ [v]) k := fun k => by
    rw [waysF_snoc]
    exact (rowF_ge (by omega) (fun k => (ways_pos hl k).1) k).2
  induction m using snoc_induction generalizing k with
  | h0 => simpa using h0 k
  | h1 m d ih =>
    have hd := hm d (by simp)
    rw [show l ++ (m ++ [d]) = (l ++ m) ++ [d] by simp, show l ++ v :: (m ++ [d]) = (l ++ v :: m) ++ [d] by simp, waysF_snoc, waysF_snoc]
    exact rowF_mono (by omega) (fun k => ih (fun c hc => hm c (by simp [hc])) k) k
/-- .. pays what could be paid, with no more coins. -/
theorem more_few {l m : List Int} {v : Int} (hl : ∀ c ∈ l ++ v :: m, 1 ≤ c) {a : Nat} (h : can (l ++ m) a) : can (l ++ v :: m) a ∧ few (l ++ v :: m) a ≤ few (l ++ m) a := by
  have hl' : ∀ c ∈ l ++ m, 1 ≤ c := fun c hc => hl c (by simp at hc ⊢; rcases hc with h | h <;> simp [h])
  have wid : ∀ (l u : List Int) (a k : Int), Pays (l ++ m) u a k → ∃ w, Pays (l ++ v :: m) w a k := by
    intro l
    induction l with
    | nil =>
      intro u a k h
      refine ⟨0 :: u, ?_⟩
      have h1 := h.cons_ (c := v) (Int.le_refl 0)
      rwa [Int.mul_zero, Int.zero_add, Int.zero_add] at h1
    | cons d l ih =>
      intro u a k h
      obtain ⟨y, u', rfl, hy, h'⟩ := h.uncons
      obtain ⟨w, hw⟩ := ih u' _ _ h'
      refine ⟨y :: w, ?_⟩
      have h1 := hw.cons_ (c := d) hy
      rwa [show d * y + (a - d * y) = a by omega, show y + (k - y) = k by omega] at h1
  obtain ⟨u, hu⟩ := (few_min hl' a).2.1 h
  obtain ⟨w, hw⟩ := wid l u _ _ hu
  exact (few_min hl a).2.2 w _ hw

/-! ### Sums -/
theorem pays_add : ∀ (cs u v : List Int) (a b m n : Int), Pays cs u a m → Pays cs v b n → ∃ w, Pays cs w (a + b) (m + n)
  | [], u, v, a, b, m, n, h, h' => by
    obtain rfl : u = [] := List.eq_nil_of_length_eq_zero h.len
    obtain rfl : v = [] := List.eq_nil_of_length_eq_zero h'.len
    have := h.amount; have := h.many; have := h'.amount; have := h'.many
    simp [dot] at *
    exact ⟨[], by subst_vars; exact Pays.nil_⟩
  | c :: cs, u, v, a, b, m, n, h, h' => by
    obtain ⟨x, u', rfl, hx, hu⟩ := h.uncons
    obtain ⟨y, v', rfl, hy, hv⟩ := h'.uncons
    obtain ⟨w, hw⟩ := pays_add cs u' v' _ _ _ _ hu hv
    refine ⟨(x + y) :: w, ?_⟩
    have h1 := hw.cons_ (c := c) (x := x + y) (by omega)
    rw [Int.mul_add] at h1
    rwa [show c * x + c * y + (a - c * x + (b - c * y)) = a + b by omega, show x + y + (m - x + (n - y)) = m + n by omega] at h1
theorem few_add (hc : ∀ c ∈ cs, 1 ≤ c) {a b : Nat} (ha : 0 ≤ few cs a) (hb : 0 ≤ few cs b) : 0 ≤ few cs (a + b) ∧ few cs (a + b) ≤ few cs a + few cs b := by
  obtain ⟨u, hu⟩ := (few_min hc a).2.1 ha
  obtain ⟨v, hv⟩ := (few_min hc b).2.1 hb
  obtain ⟨w, hw⟩ := pays_add cs u v _ _ _ _ hu hv
  exact (few_min hc (a + b)).2.2 w _ (by rw [Int.natCast_add]; exact hw)
theorem dot_scale (t : Int) : ∀ (cs v : List Int), dot (cs.map (t * ·)) v = t * dot cs v
  | [], v => by simp [dot]
  | c :: cs, [] => by simp [dot]
  | c :: cs, x :: v => by
    simp only [List.map_cons, dot, dot_scale t cs v, Int.mul_add, Int.mul_assoc]
theorem few_scale (hc : ∀ c ∈ cs, 1 ≤ c) {t : Nat} (ht : 1 ≤ t) (a : Nat) : few (cs.map ((t : Int) * ·)) (t * a) = few cs a := by
  have hc' : ∀ c ∈ cs.map ((t : Int) * ·), 1 ≤ c := fun c h => by
    obtain ⟨d, hd, rfl⟩ := List.mem_map.1 h
    have h1 : (1 : Int) * 1 ≤ t * d := Int.mul_le_mul (by omega) (hc d hd) (by omega) (by omega)
    omega
  have key : ∀ v m, Pays (cs.map ((t : Int) * ·)) v ((t * a : Nat) : Int) m ↔ Pays cs v a m := fun v m => by
    constructor
    · intro h
      refine ⟨by have := h.len; simpa using this, h.pos, ?_, h.many⟩
      have h1 := h.amount
      rw [dot_scale, Int.natCast_mul] at h1
      exact Int.eq_of_mul_eq_mul_left (by omega) h1
    · intro h
      exact ⟨by rw [h.len]; simp, h.pos, by rw [dot_scale, h.amount, Int.natCast_mul], h.many⟩
  have f := few_min hc a
  have g := few_min hc' (t * a)
  rcases Int.lt_or_le (few cs a) 0 with h0 | h0
  · rcases Int.lt_or_le (few (cs.map ((t : Int) * ·)) (t * a)) 0 with h1 | h1
    · omega
    · obtain ⟨v, hv⟩ := g.2.1 h1
      have := f.2.2 v _ ((key _ _).1 hv)
      omega
  · obtain ⟨v, hv⟩ := f.2.1 h0
    have h1 := g.2.2 v _ ((key _ _).2 hv)
    obtain ⟨u, hu⟩ := g.2.1 h1.1
    have := f.2.2 u _ ((key _ _).1 hu)
    omega
end
end Go.Proofs.Ytloibnmhgocboaa

namespace Go.Proofs.Ytloibnmhgocboaa

/-- No kind has less. -/
def LeS : List Int → List Int → Prop
  | x :: v, s :: st => x ≤ s ∧ LeS v st
  | [], [] => True
  | _, _ => False
theorem LeS.len : ∀ {st S : List Int}, LeS st S → st.length = S.length
  | [], [], _ => rfl
  | x :: v, s :: st, h => by simp [LeS.len h.2]
theorem leS_of : ∀ {st S : List Int}, st.length = S.length → (∀ i : Nat, i < st.length → nth st i ≤ nth S i) → LeS st S
  | [], [], _, _ => trivial
  | x :: v, s :: st, hl, h => ⟨h 0 (by simp), leS_of (by simpa using hl) fun i hi => h (i + 1) (by simpa using hi)⟩
  | [], _ :: _, hl, _ => by cases hl
  | _ :: _, [], hl, _ => by cases hl
theorem InS.mono : ∀ {v st S : List Int}, InS v st → LeS st S → InS v S
  | [], [], [], _, _ => trivial
  | x :: v, s :: st, t :: S, h, h' => ⟨Int.le_trans h.1 h'.1, InS.mono h.2 h'.2⟩
  | _ :: _, [], _, h, _ => h.elim
  | [], _ :: _, _, h, _ => h.elim
theorem inS_len : ∀ {v st : List Int}, InS v st → v.length = st.length
  | [], [], _ => rfl
  | x :: v, s :: st, h => by simp [inS_len h.2]
theorem inS_at : ∀ {v st : List Int}, InS v st → ∀ i : Nat, nth v i ≤ nth st i
  | [], [], _, i => Int.le_refl _
  | x :: v, s :: st, h, 0 => h.1
  | x :: v, s :: st, h, i + 1 => inS_at h.2 i
theorem gmin_mono {cs st S : List Int} {a : Int} (hc : ∀ c ∈ cs, 1 ≤ c) (hs : ∀ s ∈ st, 0 ≤ s) (hS : ∀ s ∈ S, 0 ≤ s) (hl : st.length = cs.length) (hle : LeS st S) (ha : 0 ≤ a) (h : 0 ≤ gmin cs st a) : 0 ≤ gmin cs S a ∧ gmin cs S a ≤ gmin cs st a := by
  obtain ⟨v, hv, hin⟩ := (gmin_min cs st a hc hs hl ha).2.1 h
  exact (gmin_min cs S a hc hS (by rw [← hle.len, hl]) ha).2.2 v _ hv (hin.mono hle)
theorem chg_same : ∀ (cs st S : List Int) (a left : Int), (∀ c ∈ cs, 1 ≤ c) → (∀ s ∈ st, 0 ≤ s) → (∀ s ∈ S, 0 ≤ s) → st.length = cs.length → LeS st S → 0 ≤ a → gmin cs S a = left → 0 ≤ left → InS (chg cs S a left) st → gmin cs st a = left ∧ chg cs st a left = chg cs S a left
  | [], [], [], a, left, _, _, _, _, _, _, hl, _, _ => ⟨hl, rfl⟩
  | c :: cs, s :: st, t :: S, a, left, hc, hs, hS, hlen, hle, ha, hl, h0, hin => by
    have hc1 := hc c (by simp)
    have hcc : ∀ d ∈ cs, 1 ≤ d := fun d hd => hc d (by simp [hd])
    have hss : ∀ d ∈ st, 0 ≤ d := fun d hd => hs d (by simp [hd])
    have hSS : ∀ d ∈ S, 0 ≤ d := fun d hd => hS d (by simp [hd])
    have hlS : (t :: S).length = (c :: cs).length := by rw [← hle.len, hlen]
    obtain ⟨hp, _⟩ := chg_pays (c :: cs) (t :: S) a left hc hS hlS ha hl h0
    have g1 := (gmin_min (c :: cs) (s :: st) a hc hs hlen ha).2.2 _ _ hp hin
    have g2 := gmin_mono hc hs hS hlen hle ha g1.1
    rw [hl] at g2
    refine ⟨by omega, ?_⟩
    obtain ⟨p1, p2, p3, p4⟩ := pick_facts hc1 (hS t (by simp)) ha hl h0
    have hr := (rounds_lt (hS t (by simp)) hc1 ha _).1 p1
    rw [chg_cons] at hin
    obtain ⟨i1, i2⟩ := hin
    have ih := chg_same cs st S (a - pickN cs S c a left * c) (left - pickN cs S c a left) hcc hss hSS (by simpa using hlen) hle.2 (by omega) p2 (by omega) i2
    have e : pickN cs st c a left = pickN cs S c a left := by
      refine firstN_at (m := pickN cs S c a left) (by simpa using ih.1) _ 0 (by omega) (by omega) fun j _ hj => ?_
      simp only [decide_eq_false_iff_not]
      intro e
      have hj2 := (rounds_lt (hS t (by simp)) hc1 ha j).1 (by omega)
      have h1 := gmin_mono (a := a - j * c) hcc hss hSS (by simpa using hlen) hle.2 (by omega) (by omega)
      have h2 := (stepG_facts (gmin cs S) c a (roundsG t c a)).2.2 j (by omega) h1.1
      rw [show stepG (gmin cs S) c a (roundsG t c a) = left from hl] at h2
      exact p4 j hj (by omega)
    rw [chg_cons, chg_cons, e, ih.2]
  | _ :: _, [], _, _, _, _, _, _, h, _, _, _, _, _ => by cases h
  | [], _ :: _, _, _, _, _, _, _, h, _, _, _, _, _ => by cases h
  | _ :: _, _ :: _, [], _, _, _, _, _, _, h, _, _, _, _ => h.elim
  | [], [], _ :: _, _, _, _, _, _, _, h, _, _, _, _ => h.elim
/-- What is left of the stock. -/
theorem rest_pays : ∀ (cs st v : List Int) (a m : Int), (∀ c ∈ cs, 1 ≤ c) → st.length = cs.length → Pays cs v a m → InS v st → ∃ w, Pays cs w (dot cs st - a) (st.sum - m) ∧ InS w st
  | [], [], v, a, m, _, _, h, hin => by
    obtain rfl : v = [] := List.eq_nil_of_length_eq_zero h.len
    have h1 := h.amount
    have h2 := h.many
    simp [dot] at h1 h2
    subst h1
    subst h2
    exact ⟨[], by simpa [dot] using Pays.nil_, trivial⟩
  | c :: cs, s :: st, v, a, m, hc, hl, h, hin => by
    obtain ⟨x, v', rfl, hx, hv⟩ := h.uncons
    obtain ⟨w, hw, hwi⟩ := rest_pays cs st v' _ _ (fun d hd => hc d (by simp [hd])) (by simpa using hl) hv hin.2
    refine ⟨(s - x) :: w, ?_, by have := hin.1; omega, hwi⟩
    have h1 := hw.cons_ (c := c) (x := s - x) (by have := hin.1; omega)
    rw [Int.mul_sub] at h1
    rw [dot, List.sum_cons]
    rwa [show c * s - c * x + (dot cs st - (a - c * x)) = c * s + dot cs st - a by omega, show s - x + (st.sum - (m - x)) = s + st.sum - m by omega] at h1
  | _ :: _, [], _, _, _, _, h, _, _ => by cases h
  | [], _ :: _, _, _, _, _, h, _, _ => by cases h
theorem dot_le {k : Int} (hk : 0 ≤ k) : ∀ (cs st : List Int), (∀ c ∈ cs, 1 ≤ c ∧ c ≤ k) → (∀ s ∈ st, 0 ≤ s) → 0 ≤ dot cs st ∧ dot cs st ≤ k * st.sum
  | [], st, _, hs => by
    have := Int.mul_nonneg hk (sum_nonneg st hs)
    cases st <;> simp_all [dot]
  | c :: cs, [], _, _ => by simp [dot]
  | c :: cs, s :: st, hc, hs => by
    have ih := dot_le hk cs st (fun d hd => hc d (by simp [hd])) (fun d hd => hs d (by simp [hd]))
    have h1 := hc c (by simp)
    have h2 := hs s (by simp)
    have h3 : 0 ≤ c * s := Int.mul_nonneg (by omega) h2
    have h4 : c * s ≤ k * s := Int.mul_le_mul_of_nonneg_right h1.2 h2
    rw [dot, List.sum_cons, Int.mul_add]
    omega
theorem sum_le {k : Int} : ∀ (st : List Int), (∀ s ∈ st, s ≤ k) → st.sum ≤ k * st.length
  | [], _ => by simp
  | s :: st, h => by
    have := sum_le st fun d hd => h d (by simp [hd])
    have := h s (by simp)
    rw [List.sum_cons, List.length_cons, Int.natCast_add, Int.mul_add]
    omega
theorem le_full {cs st : List Int} (hl : st.length = cs.length) (hs : ∀ s ∈ st, 0 ≤ s ∧ s ≤ 20) : LeS st (fullStock cs) := leS_of (by simp [fullStock, hl]) fun i hi => by
  have h1 := hs _ (nth_mem hi)
  have h2 : nth (fullStock cs) i = 300 := by rw [nth, fullStock, List.getElem?_replicate, if_pos (by omega)]; rfl
  omega
theorem le_set {st : List Int} {i : Nat} : LeS st (st.set i (nth st i + 1)) := leS_of (by simp) fun j hj => by
  rw [nth, nth, List.getElem?_set]
  split
  · rename_i h
    subst h
    rw [if_pos hj, nth, List.getElem?_eq_getElem hj]
    simp
    omega
  · exact Int.le_refl _
end Go.Proofs.Ytloibnmhgocboaa
