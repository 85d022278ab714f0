/-
  Plain: what the reference's 'Clash' finds is what the program's finds.
-/
import Derived.Test.YtaekjnjignlmoaaCr
namespace Go.Proofs.Ytaekjnjignlmoaa

theorem ofN_inj : ∀ {l m : List Nat}, ofN l = ofN m → l = m
  | [], [], _ => rfl
  | [], y :: m, h => by cases h
  | x :: l, [], h => by cases h
  | x :: l, y :: m, h => by
    have h' : (x : Int) :: ofN l = (y : Int) :: ofN m := h
    injection h' with h1 h2
    rw [ofN_inj h2, show x = y by omega]
/-- A list comes first: it is shorter, or as long and not later. -/
def Fst (l l' : List Nat) : Prop := l.length < l'.length ∨ (l.length = l'.length ∧ befI (ofN l') (ofN l) = false)
theorem Fst.refl (l : List Nat) : Fst l l := Or.inr ⟨rfl, befI_irr _⟩
theorem fst_anti {l l' : List Nat} (h1 : Fst l l') (h2 : Fst l' l) : l = l' := by
  rcases h1 with h1 | ⟨h1, g1⟩
  · rcases h2 with h2 | ⟨h2, _⟩ <;> omega
  · rcases h2 with h2 | ⟨_, g2⟩
    · omega
    · have e := befI_tot (a := ofN l) (b := ofN l') (by simp [ofN_length, h1]) g2 g1
      exact ofN_inj e
theorem fst_trans {a b c : List Nat} (h1 : a.length < b.length ∨ (a.length = b.length ∧ befI (ofN a) (ofN b) = true)) (h2 : Fst b c) : Fst a c := by
  rcases h1 with h1 | ⟨h1, g1⟩
  · rcases h2 with h2 | ⟨h2, _⟩ <;> exact Or.inl (by omega)
  · rcases h2 with h2 | ⟨h2, g2⟩
    · exact Or.inl (by omega)
    · refine Or.inr ⟨by omega, Bool.eq_false_iff.2 fun h => ?_⟩
      rw [befI_trans h g1] at g2
      cases g2
theorem best_spec (n : Nat) (late : List Nat) : ∀ k : Nat, k < 2 ^ n →
    (bestTo n late k = [] ∧ ∀ z, 1 ≤ z → z ≤ k → hits late z = false) ∨
    (bestTo n late k ≠ [] ∧ (∃ z, 1 ≤ z ∧ z ≤ k ∧ bestTo n late k = listedN z n ∧ hits late z = true) ∧ ∀ z, 1 ≤ z → z ≤ k → hits late z = true → Fst (bestTo n late k) (listedN z n))
  | 0, _ => Or.inl ⟨rfl, fun z h1 h2 => by omega⟩
  | k + 1, hk => by
    have ih := best_spec n late k (by omega)
    obtain ⟨best, HB⟩ : ∃ l, bestTo n late k = l := ⟨_, rfl⟩
    rw [HB] at ih
    have hn : listedN (k + 1) n ≠ [] := fun e => by have := listed_nil hk e; omega
    rw [bestTo, HB]
    unfold bestF
    by_cases hh : hits late (k + 1) = true
    · by_cases hc : (decide (best.length = 0) || decide ((listedN (k + 1) n).length < best.length) || (decide ((listedN (k + 1) n).length = best.length) && befI (ofN (listedN (k + 1) n)) (ofN best))) = true
      · rw [if_pos (by rw [hh, hc]; rfl)]
        refine Or.inr ⟨hn, ⟨k + 1, by omega, Nat.le_refl _, rfl, hh⟩, fun z h1 h2 h3 => ?_⟩
        by_cases hz : z = k + 1
        · rw [hz]; exact Fst.refl _
        · rcases ih with ⟨_, h4⟩ | ⟨h4, _, h5⟩
          · rw [h4 z h1 (by omega)] at h3; cases h3
          · refine fst_trans ?_ (h5 z h1 (by omega) h3)
            simp only [Bool.or_eq_true, Bool.and_eq_true, decide_eq_true_eq] at hc
            rcases hc with (hc | hc) | hc
            · exact absurd (List.eq_nil_of_length_eq_zero hc) h4
            · exact Or.inl hc
            · exact Or.inr hc
      · rw [if_neg (by rw [hh, Bool.true_and]; exact hc)]
        simp only [Bool.or_eq_true, Bool.and_eq_true, decide_eq_true_eq, not_or, not_and] at hc
        rcases ih with ⟨h4, _⟩ | ⟨h4, ⟨z0, g1, g2, g3, g4⟩, h5⟩
        · exact absurd (by rw [h4]; rfl) hc.1.1
        · refine Or.inr ⟨h4, ⟨z0, g1, by omega, g3, g4⟩, fun z h1 h2 h3 => ?_⟩
          by_cases hz : z = k + 1
          · rw [hz]
            rcases Nat.lt_or_ge best.length (listedN (k + 1) n).length with h | h
            · exact Or.inl h
            · exact Or.inr ⟨by omega, Bool.eq_false_iff.2 (hc.2 (by omega))⟩
          · exact h5 z h1 (by omega) h3
    · rw [if_neg (by rw [Bool.eq_false_iff.2 hh]; simp)]
      rcases ih with ⟨h4, h6⟩ | ⟨h4, ⟨z0, g1, g2, g3, g4⟩, h5⟩
      · refine Or.inl ⟨h4, fun z h1 h2 => ?_⟩
        by_cases hz : z = k + 1
        · rw [hz]; exact Bool.eq_false_iff.2 hh
        · exact h6 z h1 (by omega)
      · refine Or.inr ⟨h4, ⟨z0, g1, by omega, g3, g4⟩, fun z h1 h2 h3 => ?_⟩
        by_cases hz : z = k + 1
        · rw [hz] at h3; exact absurd h3 hh
        · exact h5 z h1 (by omega) h3
theorem inc_len {n : Nat} : ∀ {s : Nat} {l : List Nat}, IncF n s l → s ≤ n → l.length + s ≤ n
  | _, [], _, h => by simpa using h
  | s, x :: l, h, _ => by
    have := inc_len h.2.2 h.2.1
    have := h.1
    rw [List.length_cons]
    omega
theorem clash_nil (b : Int) (ps : List (Int × Int)) : clashB b ps [] = false := by
  unfold clashB
  have h : 0 < (allR b ps).length := allR_some
  cases e : allR b ps with
  | nil => rw [e] at h; simp at h
  | cons y ys => rfl
theorem clashRef_eq (b : Int) (ps : List (Int × Int)) : clashRef b ps = clashS b ps := by
  unfold clashRef clashS
  by_cases hp : checkPier b ps = 0
  · rw [if_pos hp, if_pos hp]
    have hpos : 0 < 2 ^ ps.length := Nat.pos_of_ne_zero (by simp)
    have hsp := best_spec ps.length (lateBitsR b ps ps.length) (2 ^ ps.length - 1) (by omega)
    obtain ⟨best, HB⟩ : ∃ l, bestTo ps.length (lateBitsR b ps ps.length) (2 ^ ps.length - 1) = l := ⟨_, rfl⟩
    rw [HB] at hsp ⊢
    have hall : ∀ l : List Nat, IncF ps.length 0 l → clashB b ps l = true → ∃ z, 1 ≤ z ∧ z ≤ 2 ^ ps.length - 1 ∧ listedN z ps.length = l ∧ hits (lateBitsR b ps ps.length) z = true := fun l hi hc => by
      obtain ⟨z, h1, h2⟩ := listed_onto hi
      refine ⟨z, ?_, by omega, h2, by rw [hits_clash, h2]; exact hc⟩
      rcases Nat.eq_zero_or_pos z with h | h
      · rw [h] at h2
        have : l = [] := by rw [← h2]; unfold listedN; rw [List.filter_eq_nil_iff]; intro a _; simp
        rw [this, clash_nil] at hc
        cases hc
      · exact h
    cases hf : (List.range' 1 ps.length).findSome? (fun m => cl b ps m [] 0) with
    | none =>
      rcases hsp with ⟨h4, _⟩ | ⟨h4, ⟨z0, g1, g2, g3, g4⟩, _⟩
      · rw [if_pos h4]
      · exfalso
        rw [List.findSome?_eq_none_iff] at hf
        have hi : IncF ps.length 0 best := g3 ▸ IncF_listed z0 _
        have hl := inc_len hi (Nat.zero_le _)
        have hl1 : 1 ≤ best.length := List.length_pos_iff.2 h4
        have := cl_some.cl_none best.length [] 0 (hf best.length (List.mem_range'_1.2 ⟨hl1, by omega⟩)) best rfl hi
        rw [List.nil_append, g3, ← hits_clash, g4] at this
        cases this
    | some L =>
      obtain ⟨m, h1, h2, h3, h4⟩ := fs_some _ _ hf
      obtain ⟨l, e, h6, h7, h8, h9⟩ := cl_some m _ _ _ h3
      rw [List.nil_append] at e
      subst e
      obtain ⟨z, k1, k2, k3, k4⟩ := hall L h7 h8
      rcases hsp with ⟨_, h5⟩ | ⟨h5, ⟨z0, g1, g2, g3, g4⟩, h10⟩
      · rw [h5 z k1 k2] at k4; cases k4
      · rw [if_neg h5]
        have hi : IncF ps.length 0 best := g3 ▸ IncF_listed z0 _
        have hc : clashB b ps best = true := by rw [g3, ← hits_clash]; exact g4
        have f1 : Fst best L := k3 ▸ h10 z k1 k2 k4
        have f2 : Fst L best := by
          rcases Nat.lt_or_ge best.length L.length with h | h
          · exfalso
            have hl1 : 1 ≤ best.length := List.length_pos_iff.2 h5
            have := cl_some.cl_none best.length [] 0 (h4 best.length hl1 (by omega)) best rfl hi
            rw [List.nil_append, hc] at this
            cases this
          · rcases Nat.lt_or_ge L.length best.length with h' | h'
            · exact Or.inl h'
            · exact Or.inr ⟨by omega, h9 best (by omega) hi (by rw [List.nil_append]; exact hc)⟩
        rw [fst_anti f1 f2]
  · rw [if_neg hp, if_neg hp]
end Go.Proofs.Ytaekjnjignlmoaa
