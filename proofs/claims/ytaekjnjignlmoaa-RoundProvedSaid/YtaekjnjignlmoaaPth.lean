/-
  Plain: what right bounds prove; the bounds that are returned are right, and their value is the length of the shortest round.
-/
import Derived.Test.YtaekjnjignlmoaaLp
import Derived.Test.YtaekjnjignlmoaaR24
import Derived.Test.YtaekjnjignlmoaaKk
import Derived.Test.YtaekjnjignlmoaaWide
namespace Go.Proofs.Ytaekjnjignlmoaa

theorem rightBl_iff {b : Int} {ps : List (Int × Int)} {num : Nat → Nat → Nat → Int} {x y e : Nat} : rightBl b ps num (x, y, e) = true ↔ rightE b ps num x y e := by
  unfold rightBl rightE
  dsimp only
  split
  · rw [decide_eq_true_eq]
  · rw [Bool.and_eq_true, decide_eq_true_eq, decide_eq_true_eq]
theorem ckBounds_cases {b : Int} {ps : List (Int × Int)} (hp : Pier b ps) (Rs : List (List (Int × Int))) :
    ((∀ x y e : Nat, x ≤ lefts b ps → y ≤ ps.length - lefts b ps → e < 2 → rightE b ps (gvE Rs) x y e) ∧ (∀ x y e : Nat, -1 ≤ gvE Rs x y e) ∧ ckBoundsS b ps Rs = valueS b ps (gvE Rs)) ∨ (∃ q, ckBoundsS b ps Rs = (0, q) ∧ ¬ q = 0 ∧ ¬ q = 12) := by
  unfold ckBoundsS
  rw [if_pos (checkPier_ok.2 hp)]
  split
  · exact Or.inr ⟨15, rfl, by decide, by decide⟩
  · split
    · exact Or.inr ⟨3, rfl, by decide, by decide⟩
    · rename_i h1
      split
      · rename_i h2
        refine Or.inl ⟨fun x y e hx hy he => rightBl_iff.1 ?_, fun x y e => (gvE_bd (by simpa using h1) x y e).1, rfl⟩
        exact List.all_eq_true.1 h2 (x, y, e) (mem_endsL.2 ⟨hx, hy, he⟩)
      · exact Or.inr ⟨14, rfl, by decide, by decide⟩
/-- What right bounds prove of a round in time. -/
theorem bounds_prove {b : Int} {ps : List (Int × Int)} (hp : Pier b ps) (Rs : List (List (Int × Int))) {l : List Nat} (hl : l ∈ goodR b ps) : ¬ (ckBoundsS b ps Rs).2 = 12 ∧ ((ckBoundsS b ps Rs).2 = 0 → ¬ lenR b ps l < (ckBoundsS b ps Rs).1) := by
  rcases ckBounds_cases hp Rs with ⟨h1, h2, h3⟩ | ⟨q, h1, h2, h3⟩
  · obtain ⟨h4, h5⟩ := value_le hp h1 (fun e => h2 _ _ e) hl
    rw [h3]
    unfold valueS
    rw [if_neg (by omega)]
    exact ⟨by dsimp only; omega, fun _ => by dsimp only; omega⟩
  · rw [h1]
    exact ⟨h3, fun h => absurd h h2⟩
theorem gvE_rows {F : Nat → Nat → Nat → Int} {N m x y e : Nat} (hx : x < N) (hy : y < m) (he : e < 2) : gvE (rowsOf F N m) x y e = F x y e := by
  have h1 : (rowsOf F N m)[x]? = some ((List.range m).map fun y => (F x y 0, F x y 1)) := by
    unfold rowsOf
    rw [List.getElem?_map, List.getElem?_range hx]
    rfl
  have h2 : ((List.range m).map fun y => (F x y 0, F x y 1))[y]? = some (F x y 0, F x y 1) := by
    rw [List.getElem?_map, List.getElem?_range hy]
    rfl
  rw [gvE_at h1 h2 he]
  match e, he with
  | 0, _ => rfl
  | 1, _ => rfl
theorem early_ge0 (b : Int) (ps : List (Int × Int)) (x y e : Nat) : -1 ≤ early b ps x y e := by
  unfold early
  cases x + y with
  | zero => show -1 ≤ (0 : Int); omega
  | succ f => exact sumE_ge
theorem early_le0 {b : Int} {ps : List (Int × Int)} (hp : Pier b ps) (x y e : Nat) : early b ps x y e ≤ 9000 := by
  unfold early
  cases x + y with
  | zero => show (0 : Int) ≤ 9000; omega
  | succ f =>
    show sumE b ps (earl b ps f) x y e ≤ 9000
    unfold sumE
    have h := hp.at_ (stopE b ps x y e)
    split
    · omega
    · split
      · split <;> omega
      · omega
theorem bounds_own {b : Int} {ps : List (Int × Int)} (hp : Pier b ps) : ckBoundsS b ps (boundsS b ps) = valueS b ps (early b ps) := by
  have hB : boundsS b ps = rowsOf (early b ps) (lefts b ps + 1) (ps.length - lefts b ps + 1) := by unfold boundsS; rw [if_pos (checkPier_ok.2 hp)]
  have hg : ∀ x y e : Nat, x ≤ lefts b ps → y ≤ ps.length - lefts b ps → e < 2 → gvE (boundsS b ps) x y e = early b ps x y e := fun x y e hx hy he => by rw [hB, gvE_rows (by omega) (by omega) he]
  have hlen : (boundsS b ps).length = lefts b ps + 1 := by rw [hB]; simp [rowsOf]
  have hrow : ∀ L ∈ boundsS b ps, L.length = ps.length - lefts b ps + 1 := fun L hL => by
    rw [hB] at hL
    obtain ⟨x, _, rfl⟩ := List.mem_map.1 hL
    simp
  unfold ckBoundsS
  rw [if_pos (checkPier_ok.2 hp), if_neg, if_neg, if_pos]
  · unfold valueS valueE
    rw [hg _ _ 0 (Nat.le_refl _) (Nat.le_refl _) (by omega), hg _ _ 1 (Nat.le_refl _) (Nat.le_refl _) (by omega)]
  · rw [List.all_eq_true]
    rintro ⟨x, y, e⟩ ht
    obtain ⟨hx, hy, he⟩ := mem_endsL.1 ht
    dsimp only at hx hy he
    refine rightBl_iff.2 ?_
    have hs : sumE b ps (gvE (boundsS b ps)) x y e = sumE b ps (early b ps) x y e := sumE_congr fun hi f hf => by
      have h1 := prev_sum he hi
      unfold isE at hi
      match e, he, hi with
      | 0, _, hi =>
        have h2 : 0 < x := of_decide_eq_true hi
        exact hg _ _ f (by omega) (by omega) hf
      | 1, _, hi =>
        have h2 : 0 < y := of_decide_eq_true hi
        exact hg _ _ f (by omega) (by omega) hf
    have h3 := early_right b ps x y e he
    unfold rightE at h3 ⊢
    rw [hs, hg x y e hx hy he]
    exact h3
  · rw [stray_none hlen hrow (fun x y e hx hy he => by
      rw [hg x y e (by omega) (by omega) he]
      exact ⟨early_ge0 _ _ _ _ _, early_le0 hp _ _ _⟩)]
    decide
  · rw [hlen, decide_eq_true rfl]
    simp only [Bool.not_true, Bool.false_or]
    rw [Bool.not_eq_true, List.any_eq_false]
    intro L hL
    rw [hrow L hL]
    simp
theorem bounds_value {b : Int} {ps : List (Int × Int)} (hp : Pier b ps) : ckBoundsS b ps (boundsS b ps) = if goodR b ps = [] then (0, 12) else (lenR b ps (roundOf b ps), 0) := by
  rw [bounds_own hp]
  unfold valueS
  have hr : ∀ x y e : Nat, x ≤ lefts b ps → y ≤ ps.length - lefts b ps → e < 2 → rightE b ps (early b ps) x y e := fun x y e _ _ he => early_right b ps x y e he
  have hm : ∀ e : Nat, -1 ≤ early b ps (lefts b ps) (ps.length - lefts b ps) e := fun e => early_ge0 _ _ _ _ _
  by_cases h0 : goodR b ps = []
  · rw [if_pos h0, if_pos]
    rcases Int.lt_or_le (valueE b ps (early b ps)) 0 with h | h
    · exact h
    · obtain ⟨l, hl, _⟩ := value_early hp h
      rw [h0] at hl
      cases hl
  · rw [if_neg h0]
    have hg := round_good h0
    obtain ⟨h1, h2⟩ := value_le hp hr hm hg
    rw [if_neg (by omega)]
    obtain ⟨l, hl, h3⟩ := value_early hp h1
    have h4 : lenR b ps (roundOf b ps) ≤ lenR b ps l := (firstBest_mem (f := lenR b ps) h0).2 l hl
    have : valueE b ps (early b ps) = lenR b ps (roundOf b ps) := by omega
    rw [this]
theorem bounds_small {b : Int} {ps : List (Int × Int)} (hp : Pier b ps) {N : Nat} (hN : (boundsS b ps).length = N) : N ≤ 11 ∧ (∀ L ∈ boundsS b ps, L.length ≤ 11) ∧ wideN N (boundsS b ps) = false := by
  have h10 := hp.hi
  have hq := lefts_le b ps
  have hB : boundsS b ps = rowsOf (early b ps) (lefts b ps + 1) (ps.length - lefts b ps + 1) := by unfold boundsS; rw [if_pos (checkPier_ok.2 hp)]
  have hlen : (boundsS b ps).length = lefts b ps + 1 := by rw [hB]; simp [rowsOf]
  have hrow : ∀ L ∈ boundsS b ps, L.length ≤ 11 := fun L hL => by
    rw [hB] at hL
    obtain ⟨x, _, rfl⟩ := List.mem_map.1 hL
    simp
    omega
  have hN11 : N ≤ 11 := by omega
  refine ⟨hN11, hrow, ?_⟩
  unfold wideN
  rw [decide_eq_false (by omega), Bool.false_or, List.any_eq_false]
  intro L hL
  have := hrow L hL
  simp
  omega
end Go.Proofs.Ytaekjnjignlmoaa
