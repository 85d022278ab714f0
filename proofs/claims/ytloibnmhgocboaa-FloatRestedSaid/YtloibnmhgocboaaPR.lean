/-
  The plain part of the reference's rests, step by step.
  The plain part of the greatest amount, and of how many: step by step.
  The plain part of 'rests': coins lead from rest to rest, until no amount becomes less.
-/
import Derived.Test.YtloibnmhgocboaaPL
namespace Go.Proofs.Ytloibnmhgocboaa

def canV (cs : List Int) (a : Nat) : Int := if can cs a then 1 else 0
def canR (cs : List Int) (k : Nat) : List Int := (List.range k).map (canV cs)
theorem canR_succ (cs : List Int) (k : Nat) : canR cs (k + 1) = canR cs k ++ [canV cs k] := by simp [canR, List.range_succ]
theorem canR_len (cs : List Int) (k : Nat) : (canR cs k).length = k := by simp [canR]
theorem canR_at (cs : List Int) {k j : Nat} (h : j < k) : nth (canR cs k) j = canV cs j := nth_range_map h
theorem canV_or (cs : List Int) (a : Nat) : canV cs a = 0 ∨ canV cs a = 1 := by unfold canV; split <;> simp
/-- z says whether one of the first j kinds leads back to an amount that can be paid. -/
def CanBy (cs : List Int) (a j : Nat) (z : Int) : Prop := (z = 0 ∨ z = 1) ∧ (z = 1 ↔ ∃ i : Nat, i < j ∧ i < cs.length ∧ nth cs i ≤ a ∧ can cs (a - (nth cs i).toNat))
theorem canBy_zero (cs : List Int) (a : Nat) : CanBy cs a 0 0 := ⟨.inl rfl, fun h => by simp at h, fun ⟨i, h, _⟩ => by omega⟩
theorem canBy_skip {cs : List Int} {a j : Nat} {z : Int} (h : CanBy cs a j z) (hx : ¬ nth cs j ≤ a) : CanBy cs a (j + 1) z := by
  refine ⟨h.1, fun e => ?_, fun ⟨i, h1, h2, h3, h4⟩ => ?_⟩
  · obtain ⟨i, h1, h2⟩ := h.2.1 e
    exact ⟨i, by omega, h2⟩
  · rcases Nat.lt_or_ge i j with h5 | h5
    · exact h.2.2 ⟨i, h5, h2, h3, h4⟩
    · obtain rfl : i = j := by omega
      exact absurd h3 hx
theorem canBy_step {cs : List Int} {a j : Nat} {z : Int} (h : CanBy cs a j z) (hj : j < cs.length) (hx : nth cs j ≤ a) : CanBy cs a (j + 1) (if z < canV cs (a - (nth cs j).toNat) then canV cs (a - (nth cs j).toNat) else z) := by
  have hv := canV_or cs (a - (nth cs j).toNat)
  have hc : canV cs (a - (nth cs j).toNat) = 1 ↔ can cs (a - (nth cs j).toNat) := by unfold canV; split <;> simp_all
  refine ⟨by rcases h.1 with e | e <;> rcases hv with e' | e' <;> rw [e, e'] <;> simp, fun e => ?_, fun ⟨i, h1, h2, h3, h4⟩ => ?_⟩
  · by_cases h5 : can cs (a - (nth cs j).toNat)
    · exact ⟨j, by omega, hj, hx, h5⟩
    · have h6 : canV cs (a - (nth cs j).toNat) = 0 := by rcases hv with e' | e'; exact e'; exact absurd (hc.1 e') h5
      rw [h6] at e
      have : z = 1 := by split at e <;> omega
      obtain ⟨i, h1, h2⟩ := h.2.1 this
      exact ⟨i, by omega, h2⟩
  · rcases Nat.lt_or_ge i j with h5 | h5
    · have := h.2.2 ⟨i, h5, h2, h3, h4⟩
      split
      · rcases hv with e' | e' <;> omega
      · exact this
    · obtain rfl : i = j := by omega
      have := hc.2 h4
      rw [this]
      split
      · rfl
      · rcases h.1 with e | e <;> omega
theorem canBy_done {cs : List Int} (hc : ∀ c ∈ cs, 1 ≤ c) {a : Nat} {z : Int} (ha : 1 ≤ a) (h : CanBy cs a cs.length z) : z = canV cs a := by
  have key : z = 1 ↔ can cs a := by
    rw [h.2]
    constructor
    · rintro ⟨i, _, h2, h3, h4⟩
      have h5 := hc _ (nth_mem h2)
      have := can_add hc (c := (nth cs i).toNat) (by rw [Int.toNat_of_nonneg (by omega)]; exact nth_mem h2) h4
      rwa [Nat.sub_add_cancel (by omega)] at this
    · intro hcan
      obtain ⟨c, hcm, hca, hr⟩ := can_sub hc hcan (by omega)
      obtain ⟨i, hi, he⟩ := List.getElem_of_mem hcm
      have e : nth cs i = c := by rw [nth, List.getElem?_eq_getElem hi]; exact he
      exact ⟨i, hi, hi, by rw [e]; omega, by rw [e]; exact hr⟩
  unfold canV
  by_cases hcan : can cs a
  · rw [if_pos hcan]; exact key.2 hcan
  · rw [if_neg hcan]
    rcases h.1 with e | e
    · exact e
    · exact absurd (key.1 e) hcan
/-- What has been found below k. -/
def restR (cs : List Int) (k : Nat) : List Int := (List.range (first cs)).map fun r => lst cs (first cs) r k
theorem restR_len (cs : List Int) (k : Nat) : (restR cs k).length = first cs := by simp [restR]
theorem restR_zero (cs : List Int) : restR cs 0 = List.replicate (first cs) (-1) := by
  refine List.ext_getElem (by simp [restR]) fun j h1 h2 => ?_
  simp [restR, lst]
theorem restR_all (cs : List Int) : restR cs 5001 = restsL cs := rfl
theorem restR_at {cs : List Int} {k j : Nat} (h : j < first cs) : nth (restR cs k) j = lst cs (first cs) j k := nth_range_map h
theorem restR_hit {cs : List Int} {k : Nat} (hf : 1 ≤ first cs) (hcan : can cs k) (hlow : nth (restR cs k) (k % first cs) < 0) : restR cs (k + 1) = (restR cs k).set (k % first cs) k := by
  have hm : k % first cs < first cs := Nat.mod_lt _ (by omega)
  rw [restR_at hm] at hlow
  refine List.ext_getElem? fun j => ?_
  rw [List.getElem?_set, restR_len]
  by_cases hj : j < first cs
  · have e : ∀ n, (restR cs n)[j]? = some (lst cs (first cs) j n) := fun n => by
      rw [some_nth (by rw [restR_len]; exact hj), restR_at hj]
    rw [e, e]
    by_cases e2 : k % first cs = j
    · subst e2
      rw [if_pos rfl, if_pos hm, lst, if_pos ⟨hlow, rfl, hcan⟩]
    · rw [if_neg e2, lst, if_neg (fun h => e2 h.2.1)]
  · rw [if_neg (by omega), List.getElem?_eq_none (by rw [restR_len]; omega), List.getElem?_eq_none (by rw [restR_len]; omega)]
theorem restR_miss {cs : List Int} {k : Nat} (hf : 1 ≤ first cs) (h : ¬ (can cs k ∧ nth (restR cs k) (k % first cs) < 0)) : restR cs (k + 1) = restR cs k := by
  have hm : k % first cs < first cs := Nat.mod_lt _ (by omega)
  rw [restR_at hm] at h
  unfold restR
  refine List.map_congr_left fun r hr => ?_
  rw [lst, if_neg]
  rintro ⟨h1, h2, h3⟩
  subst h2
  exact h ⟨h3, h1⟩
end Go.Proofs.Ytloibnmhgocboaa

namespace Go.Proofs.Ytloibnmhgocboaa

def maxD (c : Int) (L : List Int) : Int := L.foldl (fun m x => if m < x - c then x - c else m) (-1)
theorem maxD_snoc (c : Int) (L : List Int) (x : Int) : maxD c (L ++ [x]) = if maxD c L < x - c then x - c else maxD c L := by unfold maxD; rw [List.foldl_append]; rfl
theorem maxD_map (c : Int) (L : List Int) : maxD c L = maxL (L.map fun x => x - c) := by unfold maxD maxL; rw [List.foldl_map]
theorem maxD_great {cs : List Int} (hg : Good cs) (he : endless cs = false) (h1 : 2 ≤ first cs) : maxD (nth cs 0) (restsL cs) = maxL (restsL cs) - nth cs 0 ∧ 0 ≤ maxL (restsL cs) - nth cs 0 := by
  have hG := (greatest_is hg he h1).1.low
  have hR := rests_restsL hg
  have hm := maxL_mem (L := restsL cs) ⟨nth (restsL cs) 0, nth_mem (by rw [hR.len]; omega), by rw [rests_zero hg]; omega⟩
  refine ⟨?_, hG⟩
  rw [maxD_map]
  apply Int.le_antisymm
  · have := maxL_mem (L := (restsL cs).map fun x => x - nth cs 0) ⟨maxL (restsL cs) - nth cs 0, List.mem_map.2 ⟨_, hm, rfl⟩, by omega⟩
    obtain ⟨x, hx, e⟩ := List.mem_map.1 this
    have := maxL_ge _ x hx
    omega
  · exact maxL_ge _ _ (List.mem_map.2 ⟨_, hm, rfl⟩)
theorem maxD_one {cs : List Int} (hg : Good cs) (h1 : first cs = 1) : maxD (nth cs 0) (restsL cs) = -1 ∧ (restsL cs).length = 1 := by
  have hl := rests_len hg
  rw [h1] at hl
  have hz := rests_zero hg
  have hc := (first_pos hg).2.2
  have e : restsL cs = [0] := by
    match h : restsL cs, hl, hz with
    | [x], _, hz => rw [nth] at hz; simp at hz; rw [hz]
  rw [e, ← hc, h1]
  exact ⟨rfl, rfl⟩
def divTo (c : Int) (L : List Int) (k : Nat) : Int := divSum c (L.take k)
theorem divTo_succ {c : Int} {L : List Int} {k : Nat} {x : Int} (h : L[k]? = some x) : divTo c L (k + 1) = divTo c L k + x / c := by
  unfold divTo divSum
  rw [take_snoc h]
  simp
theorem divTo_bd {c : Int} (hc : 1 ≤ c) {L : List Int} (h : ∀ x ∈ L, 0 ≤ x ∧ x ≤ 5000) (k : Nat) : 0 ≤ divTo c L k ∧ divTo c L k ≤ 5000 * k := by
  induction k with
  | zero => simp [divTo, divSum]
  | succ k ih =>
    rcases Nat.lt_or_ge k L.length with hk | hk
    · have hx := h _ (nth_mem hk)
      rw [divTo_succ (some_nth hk)]
      have h1 : 0 ≤ nth L k / c := Int.ediv_nonneg hx.1 (by omega)
      have h2 : nth L k / c ≤ nth L k := Int.ediv_le_self _ hx.1
      omega
    · have e : divTo c L (k + 1) = divTo c L k := by
        unfold divTo
        rw [List.take_of_length_le (by omega), List.take_of_length_le hk]
      rw [e]
      omega
/-- The error of coins, and of those with amounts without end that cannot be paid. -/
def endE (cs : List Int) : Int := if checkCoins cs = 0 then (if endless cs then 4 else 0) else checkCoins cs
theorem endE_cases (cs : List Int) : (endE cs = 0 → Good cs ∧ endless cs = false) ∧ (endE cs ≠ 0 → greatestS cs = (0, endE cs) ∧ manyS cs = (0, endE cs)) := by
  unfold endE
  by_cases h : checkCoins cs = 0
  · rw [if_pos h]
    cases he : endless cs with
    | true =>
      rw [if_pos rfl]
      refine ⟨(fun h => absurd h (by decide)), fun _ => ?_⟩
      unfold greatestS manyS
      rw [if_pos h, if_pos h, he]
      exact ⟨rfl, rfl⟩
    | false =>
      rw [if_neg (by decide)]
      exact ⟨fun _ => ⟨checkCoins_good.1 h, rfl⟩, fun h => absurd rfl h⟩
  · rw [if_neg h]
    refine ⟨fun e => absurd e h, fun _ => ?_⟩
    unfold greatestS manyS
    rw [if_neg h, if_neg h]
    exact ⟨rfl, rfl⟩
theorem many_ok {cs : List Int} (hg : Good cs) (he : endless cs = false) : manyS cs = (divSum (nth cs 0) (restsL cs), 0) := by
  unfold manyS
  rw [if_pos (checkCoins_good.2 hg), he]
  rfl
theorem great_ok {cs : List Int} (hg : Good cs) (he : endless cs = false) : greatestS cs = if first cs = 1 then (0, 5) else (maxL (restsL cs) - nth cs 0, 0) := by
  unfold greatestS
  rw [if_pos (checkCoins_good.2 hg), he, if_neg (by decide), rests_len hg]
theorem rests_all_bd {cs : List Int} (hg : Good cs) (he : endless cs = false) : ∀ x ∈ restsL cs, 0 ≤ x ∧ x ≤ 5000 := fun x hx => by
  obtain ⟨k, hk, rfl⟩ := List.getElem_of_mem hx
  have h1 := (endless_iff hg).1 he k (by rw [← rests_len hg]; exact hk)
  have h2 := rests_bd (cs := cs) k
  rw [nth, List.getElem?_eq_getElem hk] at h1 h2
  exact ⟨h1, h2.2⟩
end Go.Proofs.Ytloibnmhgocboaa

namespace Go.Proofs.Ytloibnmhgocboaa

def sumN (g : Int → Nat) (L : List Int) : Nat := (L.map g).sum
theorem sumN_set (g : Int → Nat) : ∀ (L : List Int) (i : Nat) (y : Int), i < L.length → sumN g (L.set i y) + g (nth L i) = sumN g L + g y
  | [], _, _, h => by simp at h
  | x :: L, 0, y, _ => by
    show sumN g (y :: L) + g x = sumN g (x :: L) + g y
    simp [sumN]
    omega
  | x :: L, i + 1, y, h => by
    have ih := sumN_set g L i y (by simpa using h)
    show sumN g (x :: L.set i y) + g (nth L i) = sumN g (x :: L) + g y
    simp only [sumN, List.map_cons, List.sum_cons] at ih ⊢
    omega
def unsetW (x : Int) : Nat := if x < 0 then 1 else 0
def muV (x : Int) : Nat := if x < 0 then 10000 else x.toNat
def mu (L : List Int) : Nat := sumN muV L
def unset (L : List Int) : Nat := sumN unsetW L
theorem unset_le (L : List Int) : unset L ≤ L.length := by
  unfold unset sumN
  induction L with
  | nil => simp
  | cons x L ih =>
    rw [List.map_cons, List.sum_cons, List.length_cons]
    have : unsetW x ≤ 1 := by unfold unsetW; split <;> omega
    omega
structure RInv (cs L : List Int) : Prop where
  len : L.length = first cs
  zero : nth L 0 = 0
  low : ∀ r : Nat, r < first cs → -1 ≤ nth L r
  own : ∀ r : Nat, r < first cs → 0 ≤ nth L r → (nth L r).toNat % first cs = r ∧ can cs (nth L r).toNat
  most : ∀ r : Nat, r < first cs → nth L r ≤ 50 * ((first cs - unset L : Nat) : Int)
theorem RInv.bd {cs L : List Int} (hg : Good cs) (h : RInv cs L) {r : Nat} (hr : r < first cs) : -1 ≤ nth L r ∧ nth L r ≤ 2500 := by
  have h1 := h.low r hr
  have h2 := h.most r hr
  have h3 := (first_pos hg).2.1
  refine ⟨h1, ?_⟩
  omega
/-- The start: 0, and nothing else. -/
def startR (f : Nat) : List Int := 0 :: List.replicate (f - 1) (-1)
theorem nth_startR {f r : Nat} (hr : r < f) : nth (startR f) r = if r = 0 then 0 else -1 := by
  match r with
  | 0 => rfl
  | r + 1 =>
    rw [if_neg (by omega)]
    show nth (List.replicate (f - 1) (-1)) r = -1
    rw [nth, List.getElem?_replicate, if_pos (by omega)]
    rfl
theorem rinv_start {cs : List Int} (hg : Good cs) : RInv cs (startR (first cs)) := by
  have hf := first_pos hg
  refine ⟨by simp [startR]; omega, rfl, fun r hr => ?_, fun r hr h0 => ?_, fun r hr => ?_⟩
  · rw [nth_startR hr]; split <;> omega
  · rw [nth_startR hr] at h0 ⊢
    by_cases e : r = 0
    · subst e
      rw [if_pos rfl]
      exact ⟨by simp, can_zero cs⟩
    · rw [if_neg e] at h0
      omega
  · rw [nth_startR hr]
    split <;> omega
/-- One step: a coin leads from the rest i to another one, whose amount becomes less. -/
theorem rinv_step {cs L : List Int} (hg : Good cs) (h : RInv cs L) {i : Nat} (hi : i < first cs) {x c : Int} (hx : nth L i = x) (hx0 : 0 ≤ x) (hc : c ∈ cs) {t : Nat} (ht : (x + c).toNat % first cs = t) (hless : nth L t < 0 ∨ x + c < nth L t) :
    RInv cs (L.set t (x + c)) ∧ mu (L.set t (x + c)) < mu L := by
  have hf := first_pos hg
  have hcb := hg.all c hc
  have htf : t < first cs := by rw [← ht]; exact Nat.mod_lt _ (by omega)
  have htl : t < L.length := by rw [h.len]; exact htf
  have hxm := h.most i hi
  rw [hx] at hxm
  have hown := h.own i hi (by rw [hx]; exact hx0)
  rw [hx] at hown
  have hu := sumN_set unsetW L t (x + c) htl
  have hm := sumN_set muV L t (x + c) htl
  have hul := unset_le L
  rw [h.len] at hul
  have hb := h.bd hg htf
  have hxb := h.bd hg hi
  rw [hx] at hxb
  have u1 : unsetW (x + c) = 0 := by unfold unsetW; rw [if_neg (by omega)]
  have m1 : muV (x + c) = (x + c).toNat := by unfold muV; rw [if_neg (by omega)]
  have ht0 : t ≠ 0 := fun e => by
    rw [e, h.zero] at hless
    omega
  refine ⟨⟨by rw [List.length_set, h.len], ?_, fun r hr => ?_, fun r hr h0 => ?_, fun r hr => ?_⟩, ?_⟩
  · rw [nth_set' htl, if_neg ht0]
    exact h.zero
  · rw [nth_set' htl]
    split
    · omega
    · exact h.low r hr
  · rw [nth_set' htl] at h0 ⊢
    split
    · rename_i e
      subst e
      refine ⟨ht, ?_⟩
      have := can_add hg.pos (c := c.toNat) (by rw [Int.toNat_of_nonneg (by omega)]; exact hc) hown.2
      rwa [show x.toNat + c.toNat = (x + c).toNat by omega] at this
    · rename_i e
      rw [if_neg e] at h0
      exact h.own r hr h0
  · have hmost := h.most r hr
    have hmt := h.most t htf
    show nth (L.set t (x + c)) r ≤ 50 * ((first cs - sumN unsetW (L.set t (x + c)) : Nat) : Int)
    have e : unset L = sumN unsetW L := rfl
    rw [e] at hmost hmt hul hxm
    rw [nth_set' htl]
    by_cases hneg : nth L t < 0
    · have u2 : unsetW (nth L t) = 1 := by unfold unsetW; rw [if_pos hneg]
      split <;> omega
    · have u2 : unsetW (nth L t) = 0 := by unfold unsetW; rw [if_neg hneg]
      split <;> omega
  · show sumN muV (L.set t (x + c)) < sumN muV L
    by_cases hneg : nth L t < 0
    · have m2 : muV (nth L t) = 10000 := by unfold muV; rw [if_pos hneg]
      omega
    · have m2 : muV (nth L t) = (nth L t).toNat := by unfold muV; rw [if_neg hneg]
      omega
where
  nth_set' {xs : List Int} {j k : Nat} {x : Int} (hj : j < xs.length) : nth (xs.set j x) k = if j = k then x else nth xs k := by
    unfold nth
    rw [List.getElem?_set]
    by_cases h : j = k
    · subst h; rw [if_pos rfl, if_pos hj, if_pos rfl]; rfl
    · rw [if_neg h, if_neg h]
/-- No coin of those up to j leads from the rests below i to a lesser amount; of those behind, up to j from i itself. -/
def FixTo (cs L : List Int) (i j : Nat) : Prop := ∀ r : Nat, r < first cs → 0 ≤ nth L r → ∀ k : Nat, 1 ≤ k → k < cs.length → (r < i ∨ (r = i ∧ k < j)) → 0 ≤ nth L ((nth L r + nth cs k).toNat % first cs) ∧ nth L ((nth L r + nth cs k).toNat % first cs) ≤ nth L r + nth cs k
theorem fix_rests {cs L : List Int} (hg : Good cs) (h : RInv cs L) (hf : FixTo cs L (first cs) 0) : L = restsL cs :=
  (rests_of hg h.len h.zero h.low h.own fun r hr h0 j h1 h2 => hf r hr h0 j h1 h2 (.inl hr)).unique hg (rests_restsL hg)
end Go.Proofs.Ytloibnmhgocboaa
