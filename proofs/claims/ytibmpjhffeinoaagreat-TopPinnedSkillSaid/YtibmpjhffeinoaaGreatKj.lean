/-
  The law TopPinnedSkill, plain: the rounds over the pins of a board.
-/
import Derived.Test.YtibmpjhffeinoaaGreatKi0
import Derived.Test.YtibmpjhffeinoaaGreatKq
namespace Go.Proofs.YtibmpjhffeinoaaGreat
open Go.RowKit

theorem T_lt {r r' k : Nat} (h : r < r') (h' : r' ≤ 4) (hk : k ≤ r) : T r + k < T r' := by
  have t0 : T 0 = 0 := rfl
  have t1 : T 1 = 1 := rfl
  have t2 : T 2 = 3 := rfl
  have t3 : T 3 = 6 := rfl
  have t4 : T 4 = 10 := rfl
  have e1 : r' = 0 ∨ r' = 1 ∨ r' = 2 ∨ r' = 3 ∨ r' = 4 := by omega
  have e2 : r = 0 ∨ r = 1 ∨ r = 2 ∨ r = 3 := by omega
  rcases e1 with rfl | rfl | rfl | rfl | rfl <;> rcases e2 with rfl | rfl | rfl | rfl <;> omega
theorem T_10 {r : Nat} (h : r ≤ 4) : T r ≤ 10 := by
  have e1 : r = 0 ∨ r = 1 ∨ r = 2 ∨ r = 3 ∨ r = 4 := by omega
  rcases e1 with rfl | rfl | rfl | rfl | rfl <;> decide
theorem wonL_at {n p i : Nat} (h : i < n) : (wonL n p)[i]? = some (decide (i = p)) := by
  unfold wonL
  rw [List.getElem?_map, List.getElem?_range h]
  rfl
section
variable {Rt : Nat → Nat → Int} {rows sn : Nat} {Ls : List (List Int)} {ps : List Bool} {G : Nat → Nat → Prop}
/-- What the rounds come to: in as many moves as there are rows, where it is good. -/
theorem rounds_G [∀ r k, Decidable (G r k)] (h3 : rows ≤ 3) (hsn : sn ≤ rows) (h0 : ∀ k, k ≤ rows → (G rows k ↔ k = sn)) (hno : ∀ fs k, k ≤ rows → winB ps Ls fs (T rows + k) = false)
    (hst : ∀ (fs : List Int) (r k : Nat) (c : Prop), r < rows → k ≤ r → (∀ k', k' ≤ r + 1 → (0 ≤ nth fs (T (r + 1) + k') ↔ G (r + 1) k' ∧ c)) → (winB ps Ls fs (T r + k) = true ↔ G r k ∧ c)) (K : Nat) :
    ∀ r k, r ≤ rows → k ≤ r → nth (rounds ps Ls (wonL (T (rows + 1)) (T rows + sn)) (T (rows + 1)) K) (T r + k) = if G r k ∧ rows - r ≤ K then ((rows - r : Nat) : Int) else -1 := by
  have hT := T_10 (r := rows + 1) (by omega)
  induction K with
  | zero =>
    intro r k hr hk
    have hlt := T_lt (r := r) (r' := rows + 1) (k := k) (by omega) (by omega) hk
    show nth (far0 _ _) _ = _
    rw [far0_at (by omega), wonL_at hlt]
    by_cases hrr : r = rows
    · subst hrr
      by_cases hks : k = sn
      · rw [if_pos ⟨hlt, by rw [hks]; simp⟩, if_pos ⟨(h0 k hk).2 hks, by omega⟩]
        omega
      · rw [if_neg fun h => hks (by have := h.2; simp at this; omega), if_neg fun h => hks ((h0 k hk).1 h.1)]
    · have hlt2 := T_lt (r := r) (r' := rows) (k := k) (by omega) (by omega) hk
      rw [if_neg fun h => by have := h.2; simp at this; omega, if_neg (by omega)]
  | succ K ih =>
    intro r k hr hk
    have hlt := T_lt (r := r) (r' := rows + 1) (k := k) (by omega) (by omega) hk
    show nth (stepAt ps Ls ((K : Int) + 1) (rounds ps Ls (wonL (T (rows + 1)) (T rows + sn)) (T (rows + 1)) K) (T (rows + 1))) _ = _
    rw [stepAt_at (by omega)]
    have hv := ih r k hr hk
    have hw : r < rows → (winB ps Ls (rounds ps Ls (wonL (T (rows + 1)) (T rows + sn)) (T (rows + 1)) K) (T r + k) = true ↔ G r k ∧ rows - (r + 1) ≤ K) := fun hlt => hst _ r k _ hlt hk fun k' hk' => by
      rw [ih (r + 1) k' (by omega) hk']
      split
      · rename_i h; exact ⟨fun _ => h, fun _ => by omega⟩
      · rename_i h; exact ⟨fun h' => by omega, fun h' => absurd h' h⟩
    have hn : r = rows → winB ps Ls (rounds ps Ls (wonL (T (rows + 1)) (T rows + sn)) (T (rows + 1)) K) (T r + k) = false := fun e => by
      subst e
      exact hno _ k hk
    generalize nth (rounds ps Ls (wonL (T (rows + 1)) (T rows + sn)) (T (rows + 1)) K) (T r + k) = v at *
    generalize winB ps Ls (rounds ps Ls (wonL (T (rows + 1)) (T rows + sn)) (T (rows + 1)) K) (T r + k) = wn at *
    by_cases hrr : r = rows
    · rw [hn hrr, if_neg fun h => absurd h.2.2 (by simp), hv]
      by_cases hg : G r k
      · rw [if_pos ⟨hg, by omega⟩, if_pos ⟨hg, by omega⟩]
      · rw [if_neg fun h => hg h.1, if_neg fun h => hg h.1]
    · have hw := hw (by omega)
      by_cases hg : G r k
      · by_cases h1 : rows - r ≤ K
        · rw [if_pos ⟨hg, h1⟩] at hv
          rw [if_neg (by omega), hv, if_pos ⟨hg, by omega⟩]
        · rw [if_neg fun h => h1 h.2] at hv
          by_cases h2 : rows - r ≤ K + 1
          · rw [if_pos ⟨hlt, by omega, hw.2 ⟨hg, by omega⟩⟩, if_pos ⟨hg, h2⟩]
            omega
          · rw [if_neg fun h => h2 (by have := (hw.1 h.2.2).2; omega), if_neg fun h => h2 h.2, hv]
      · rw [if_neg fun h => hg h.1] at hv
        rw [if_neg fun h => hg (hw.1 h.2.2).1, if_neg fun h => hg h.1, hv]
/-- And they go on until all that is good is reached. -/
theorem fixed_G [∀ r k, Decidable (G r k)] (h3 : rows ≤ 3) (hsn : sn ≤ rows) (h0 : ∀ k, k ≤ rows → (G rows k ↔ k = sn)) (hno : ∀ fs k, k ≤ rows → winB ps Ls fs (T rows + k) = false)
    (hst : ∀ (fs : List Int) (r k : Nat) (c : Prop), r < rows → k ≤ r → (∀ k', k' ≤ r + 1 → (0 ≤ nth fs (T (r + 1) + k') ↔ G (r + 1) k' ∧ c)) → (winB ps Ls fs (T r + k) = true ↔ G r k ∧ c))
    (hch : ∀ r k, r < rows → k ≤ r → G r k → ∃ k', k' ≤ r + 1 ∧ G (r + 1) k') (K : Nat) (hf : rounds ps Ls (wonL (T (rows + 1)) (T rows + sn)) (T (rows + 1)) (K + 1) = rounds ps Ls (wonL (T (rows + 1)) (T rows + sn)) (T (rows + 1)) K) (r k : Nat) (hr : r < rows) (hk : k ≤ r) :
    nth (rounds ps Ls (wonL (T (rows + 1)) (T rows + sn)) (T (rows + 1)) K) (T r + k) = if G r k then ((rows - r : Nat) : Int) else -1 := by
  have ha := rounds_G h3 hsn h0 hno hst
  rw [ha K r k (by omega) hk]
  by_cases hg : G r k
  · have hle : rows - r ≤ K := by
      refine Nat.le_of_not_lt fun hlt => ?_
      have hdn : ∀ j, r + j ≤ rows → ∃ k', k' ≤ r + j ∧ G (r + j) k' := fun j => by
        induction j with
        | zero => intro _; exact ⟨k, hk, hg⟩
        | succ j ih =>
          intro hj
          obtain ⟨k1, hk1, hg1⟩ := ih (by omega)
          exact hch (r + j) k1 (by omega) hk1 hg1
      obtain ⟨k', hk', hg'⟩ := hdn (rows - r - (K + 1)) (by omega)
      have e : r + (rows - r - (K + 1)) ≤ rows := by omega
      have e2 : rows - (r + (rows - r - (K + 1))) = K + 1 := by omega
      have e1 := ha K (r + (rows - r - (K + 1))) k' e hk'
      have e3 := ha (K + 1) (r + (rows - r - (K + 1))) k' e hk'
      rw [hf, e1, e2, if_neg (by omega), if_pos ⟨hg', by omega⟩] at e3
      omega
    rw [if_pos ⟨hg, hle⟩, if_pos hg]
  · rw [if_neg fun h => hg h.1, if_neg hg]
end
theorem gd_pos (fs : List Int) (t k : Nat) : gd fs ((t : Int) + (k : Int)) = decide (0 ≤ nth fs (t + k)) := by
  unfold gd
  rw [show ((t : Int) + (k : Int)).toNat = t + k from by omega]
theorem gd_pos1 (fs : List Int) (t k : Nat) : gd fs ((t : Int) + (k : Int) + 1) = decide (0 ≤ nth fs (t + (k + 1))) := by
  unfold gd
  rw [show ((t : Int) + (k : Int) + 1).toNat = t + (k + 1) from by omega]
section
variable {Rt : Nat → Nat → Int} {rows : Nat} {Ls : List (List Int)} {fs : List Int} {r k : Nat}
theorem win_t (hF : Fill Rt rows (T (rows + 1)) (T rows) Ls) (h3 : rows ≤ 3) (hr : r < rows) (hk : k ≤ r) : winB (List.replicate (T (rows + 1)) true) Ls fs (T r + k) = true ↔ (Rt r k < 10 ∧ 0 ≤ nth fs (T (r + 1) + k)) ∨ (0 < Rt r k ∧ 0 ≤ nth fs (T (r + 1) + (k + 1))) := by
  have hlt := T_lt (r := r) (r' := rows) (k := k) hr (by omega) hk
  have hlt2 := T_lt (r := r) (r' := rows + 1) (k := k) (by omega) (by omega) hk
  unfold winB
  rw [hF.at_ r k hr hk hlt, List.getElem?_replicate, if_pos hlt2]
  simp only [Option.getD_some]
  unfold mvs
  by_cases a : Rt r k < 10 <;> by_cases b : 0 < Rt r k <;> simp [a, b, gd_pos, gd_pos1]
theorem win_f (hF : Fill Rt rows (T (rows + 1)) (T rows) Ls) (h3 : rows ≤ 3) (hr : r < rows) (hk : k ≤ r) : winB (List.replicate (T (rows + 1)) false) Ls fs (T r + k) = true ↔ (Rt r k < 10 → 0 ≤ nth fs (T (r + 1) + k)) ∧ (0 < Rt r k → 0 ≤ nth fs (T (r + 1) + (k + 1))) := by
  have hlt := T_lt (r := r) (r' := rows) (k := k) hr (by omega) hk
  have hlt2 := T_lt (r := r) (r' := rows + 1) (k := k) (by omega) (by omega) hk
  unfold winB
  rw [hF.at_ r k hr hk hlt, List.getElem?_replicate, if_pos hlt2]
  simp only [Option.getD_some]
  unfold mvs
  by_cases a : Rt r k < 10 <;> by_cases b : 0 < Rt r k
  · simp [a, b, gd_pos, gd_pos1]
  · simp [a, b, gd_pos]
  · simp [a, b, gd_pos1]
  · omega
theorem win_0 {q : Bool} (hF : Fill Rt rows (T (rows + 1)) (T rows) Ls) (h3 : rows ≤ 3) (hk : k ≤ rows) : winB (List.replicate (T (rows + 1)) q) Ls fs (T rows + k) = false := by
  have hlt2 := T_lt (r := rows) (r' := rows + 1) (k := k) (by omega) (by omega) hk
  unfold winB
  rw [hF.no (T rows + k) (by omega) hlt2, List.getElem?_replicate, if_pos hlt2]
  cases q <;> rfl
end
section
variable {R : Nat → Nat → Int} {rows s : Nat} {Ls : List (List Int)}
theorem Bv_D (hR : ∀ r k, 0 ≤ R r k ∧ R r k ≤ 10) (h3 : rows ≤ 3) (hs : s ≤ rows) (K : Nat) (hF : Fill R rows (T (rows + 1)) (T rows) Ls) (hf : rounds (List.replicate (T (rows + 1)) true) Ls (wonL (T (rows + 1)) (T rows + s)) (T (rows + 1)) (K + 1) = rounds (List.replicate (T (rows + 1)) true) Ls (wonL (T (rows + 1)) (T rows + s)) (T (rows + 1)) K) (r k : Nat) (hr : r < rows) (hk : k ≤ r) :
    nth (rounds (List.replicate (T (rows + 1)) true) Ls (wonL (T (rows + 1)) (T rows + s)) (T (rows + 1)) K) (T r + k) = if 0 < Bv R rows s r k then (rows : Int) - r else -1 := by
  have hst : ∀ r k, r < rows → (0 < Bv R rows s r k ↔ (R r k < 10 ∧ 0 < Bv R rows s (r + 1) k) ∨ (0 < R r k ∧ 0 < Bv R rows s (r + 1) (k + 1))) := fun r k hr => by
    have := Bd_pos hR (rows := rows) (s := s) (d := rows - (r + 1)) (k := k)
    rw [show rows - (r + 1) + 1 = rows - r from by omega, show rows - (rows - r) = r from by omega] at this
    exact this
  rw [fixed_G (G := fun r k => 0 < Bv R rows s r k) h3 hs (fun k _ => by rw [Bv_end]; split <;> simp_all) (fun fs k hk => win_0 hF h3 hk) (fun fs r k c hr hk hq => by
    rw [win_t hF h3 hr hk, hq k (by omega), hq (k + 1) (by omega), hst r k hr]
    constructor
    · rintro (⟨a, b, c⟩ | ⟨a, b, c⟩)
      · exact ⟨.inl ⟨a, b⟩, c⟩
      · exact ⟨.inr ⟨a, b⟩, c⟩
    · rintro ⟨⟨a, b⟩ | ⟨a, b⟩, c⟩
      · exact .inl ⟨a, b, c⟩
      · exact .inr ⟨a, b, c⟩) (fun r k hr hk hg => by
    rcases (hst r k hr).1 hg with ⟨_, h⟩ | ⟨_, h⟩
    · exact ⟨k, by omega, h⟩
    · exact ⟨k + 1, by omega, h⟩) K hf r k hr hk, show ((rows - r : Nat) : Int) = (rows : Int) - r from by omega]
theorem Bv_E (hR : ∀ r k, 0 ≤ R r k ∧ R r k ≤ 10) (h3 : rows ≤ 3) (hs : s ≤ rows) (K : Nat) (hF : Fill R rows (T (rows + 1)) (T rows) Ls) (hf : rounds (List.replicate (T (rows + 1)) false) Ls (wonL (T (rows + 1)) (T rows + s)) (T (rows + 1)) (K + 1) = rounds (List.replicate (T (rows + 1)) false) Ls (wonL (T (rows + 1)) (T rows + s)) (T (rows + 1)) K) (r k : Nat) (hr : r < rows) (hk : k ≤ r) :
    0 ≤ nth (rounds (List.replicate (T (rows + 1)) false) Ls (wonL (T (rows + 1)) (T rows + s)) (T (rows + 1)) K) (T r + k) ↔ Bv R rows s r k = (10 : Int) ^ (rows - r) := by
  have hst : ∀ r k, r < rows → (Bv R rows s r k = (10 : Int) ^ (rows - r) ↔ (R r k < 10 → Bv R rows s (r + 1) k = (10 : Int) ^ (rows - (r + 1))) ∧ (0 < R r k → Bv R rows s (r + 1) (k + 1) = (10 : Int) ^ (rows - (r + 1)))) := fun r k hr => by
    have := Bd_all hR (rows := rows) (s := s) (d := rows - (r + 1)) (k := k)
    rw [show rows - (r + 1) + 1 = rows - r from by omega, show rows - (rows - r) = r from by omega] at this
    exact this
  rw [fixed_G (G := fun r k => Bv R rows s r k = (10 : Int) ^ (rows - r)) h3 hs (fun k _ => by rw [Bv_end, Nat.sub_self]; split <;> simp_all) (fun fs k hk => win_0 hF h3 hk) (fun fs r k c hr hk hq => by
    rw [win_f hF h3 hr hk, hq k (by omega), hq (k + 1) (by omega), hst r k hr]
    have hRk := hR r k
    constructor
    · rintro ⟨a, b⟩
      refine ⟨⟨fun h => (a h).1, fun h => (b h).1⟩, ?_⟩
      by_cases h : R r k < 10
      · exact (a h).2
      · exact (b (by omega)).2
    · rintro ⟨⟨a, b⟩, c⟩
      exact ⟨fun h => ⟨a h, c⟩, fun h => ⟨b h, c⟩⟩) (fun r k hr hk hg => by
    have hRk := hR r k
    obtain ⟨a, b⟩ := (hst r k hr).1 hg
    by_cases h : R r k < 10
    · exact ⟨k, by omega, a h⟩
    · exact ⟨k + 1, by omega, b (by omega)⟩) K hf r k hr hk]
  split
  · exact ⟨fun _ => by assumption, fun _ => by omega⟩
  · exact ⟨fun h => by omega, fun h => absurd h (by assumption)⟩
end
end Go.Proofs.YtibmpjhffeinoaaGreat
