/-
  Plain: 'cl' finds the first list, in lexicographic order, of those of a length that clash.
  Plain: the reference's 'Clash' finds the first of the shortest lists that clash.
  Plain: what the reference's 'Clash' finds is what the program's finds.
-/
import Derived.Test.YtaekjnjignlmoaaR19
namespace Go.Proofs.Ytaekjnjignlmoaa

theorem fs_some {α : Type} {G : Nat → Option α} {L : α} : ∀ (k s : Nat), (List.range' s k).findSome? G = some L → ∃ a, s ≤ a ∧ a < s + k ∧ G a = some L ∧ ∀ x, s ≤ x → x < a → G x = none
  | 0, s, h => by simp at h
  | k + 1, s, h => by
    rw [List.range'_succ, List.findSome?_cons] at h
    cases hg : G s with
    | some y =>
      rw [hg] at h
      exact ⟨s, Nat.le_refl _, by omega, by rw [hg]; exact h, fun x h1 h2 => by omega⟩
    | none =>
      rw [hg] at h
      obtain ⟨a, h1, h2, h3, h4⟩ := fs_some k (s + 1) h
      refine ⟨a, by omega, by omega, h3, fun x h5 h6 => ?_⟩
      by_cases e : x = s
      · rw [e]; exact hg
      · exact h4 x (by omega) h6
/-- Strictly increasing numbers from s on, below n. -/
def IncF (n : Nat) : Nat → List Nat → Prop
  | _, [] => True
  | s, i :: l => s ≤ i ∧ i < n ∧ IncF n (i + 1) l
theorem cl_some {b : Int} {ps : List (Int × Int)} : ∀ (f : Nat) (begun : List Nat) (next : Nat) (L : List Nat), cl b ps f begun next = some L →
    ∃ l, L = begun ++ l ∧ l.length = f ∧ IncF ps.length next l ∧ clashB b ps L = true ∧ ∀ l' : List Nat, l'.length = f → IncF ps.length next l' → clashB b ps (begun ++ l') = true → befI (ofN l') (ofN l) = false
  | 0, begun, next, L, h => by
    rw [cl] at h
    split at h
    · rename_i hc
      cases h
      exact ⟨[], by simp, rfl, trivial, hc, fun l' h1 _ _ => by cases l' with
        | nil => rfl
        | cons x t => simp at h1⟩
    · cases h
  | f + 1, begun, next, L, h => by
    rw [cl] at h
    obtain ⟨a, h1, h2, h3, h4⟩ := fs_some _ _ h
    obtain ⟨l, h5, h6, h7, h8, h9⟩ := cl_some f _ _ _ h3
    refine ⟨a :: l, by rw [h5]; simp, by simp [h6], ⟨h1, by omega, h7⟩, h8, fun l' hl hi hc => ?_⟩
    cases l' with
    | nil => simp at hl
    | cons x t =>
      show (if (x : Int) = (a : Int) then befI (ofN t) (ofN l) else decide ((x : Int) < (a : Int))) = false
      by_cases hxa : x = a
      · rw [if_pos (by rw [hxa])]
        refine h9 t (by simpa using hl) (hxa ▸ hi.2.2) ?_
        rw [List.append_assoc]
        rw [hxa] at hc
        exact hc
      · rw [if_neg (by omega)]
        refine decide_eq_false fun hlt => ?_
        have hn := h4 x hi.1 (by omega)
        have := cl_none f _ _ hn t (by simpa using hl) hi.2.2
        rw [List.append_assoc] at this
        rw [show begun ++ ([x] ++ t) = begun ++ x :: t from rfl, hc] at this
        cases this
where
  cl_none {b : Int} {ps : List (Int × Int)} : ∀ (f : Nat) (begun : List Nat) (next : Nat), cl b ps f begun next = none → ∀ l' : List Nat, l'.length = f → IncF ps.length next l' → clashB b ps (begun ++ l') = false
    | 0, begun, next, h, l', hl, _ => by
      rw [cl] at h
      cases l' with
      | cons x t => simp at hl
      | nil =>
        split at h
        · cases h
        · rename_i hc
          rw [List.append_nil]
          exact Bool.eq_false_iff.2 hc
    | f + 1, begun, next, h, l', hl, hi => by
      rw [cl, List.findSome?_eq_none_iff] at h
      cases l' with
      | nil => simp at hl
      | cons x t =>
        have hn := h x (List.mem_range'_1.2 ⟨hi.1, by have := hi.1; have := hi.2.1; omega⟩)
        have := cl_none f _ _ hn t (by simpa using hl) hi.2.2
        rw [List.append_assoc] at this
        exact this
/-- The bits have a late stop of each round: the stops that they say clash. -/
theorem hits_clash (b : Int) (ps : List (Int × Int)) (z : Nat) : hits (lateBitsR b ps ps.length) z = clashB b ps (listedN z ps.length) := by
  unfold hits lateBitsR clashB
  rw [List.all_map]
  congr 1
  funext y
  show decide (bitsR b ps ps.length y &&& z ≠ 0) = lateIn b ps (listedN z ps.length) y
  unfold lateIn bitsR
  rw [Bool.eq_iff_iff, decide_eq_true_eq, List.any_eq_true]
  constructor
  · intro h
    obtain ⟨i, hi⟩ := Nat.exists_testBit_of_ne_zero h
    rw [Nat.testBit_and, lateN_bit, Bool.and_eq_true, Bool.and_eq_true] at hi
    refine ⟨i, ?_, hi.1.2⟩
    unfold listedN
    exact List.mem_filter.2 ⟨List.mem_range.2 (of_decide_eq_true hi.1.1), hi.2⟩
  · rintro ⟨i, hi, hl⟩ h
    unfold listedN at hi
    obtain ⟨h1, h2⟩ := List.mem_filter.1 hi
    have h3 : (lateN (fun i => decide (too ps i < nth (stepsL b ps y) i)) ps.length &&& z).testBit i = true := by
      rw [Nat.testBit_and, lateN_bit, decide_eq_true (List.mem_range.1 h1), Bool.true_and, hl, h2]
      rfl
    rw [h, Nat.zero_testBit] at h3
    cases h3
end Go.Proofs.Ytaekjnjignlmoaa

namespace Go.Proofs.Ytaekjnjignlmoaa

theorem befI_cons (x y : Int) (a b : List Int) : befI (x :: a) (y :: b) = if x = y then befI a b else decide (x < y) := rfl
theorem befI_irr : ∀ a : List Int, befI a a = false
  | [] => rfl
  | x :: a => by rw [befI_cons, if_pos rfl]; exact befI_irr a
theorem befI_trans : ∀ {a b c : List Int}, befI a b = true → befI b c = true → befI a c = true
  | [], _, _, h, _ => by simp [befI] at h
  | _ :: _, [], _, h, _ => by simp [befI] at h
  | _ :: _, _ :: _, [], _, h => by simp [befI] at h
  | x :: a, y :: b, z :: c, h1, h2 => by
    rw [befI_cons] at h1 h2 ⊢
    by_cases e1 : x = y
    · by_cases e2 : y = z
      · rw [if_pos e1] at h1
        rw [if_pos e2] at h2
        rw [if_pos (e1.trans e2)]
        exact befI_trans h1 h2
      · rw [if_neg e2] at h2
        rw [if_neg (by omega)]
        have := of_decide_eq_true h2
        exact decide_eq_true (by omega)
    · rw [if_neg e1] at h1
      have g1 := of_decide_eq_true h1
      by_cases e2 : y = z
      · rw [if_neg (by omega)]
        exact decide_eq_true (by omega)
      · rw [if_neg e2] at h2
        have g2 := of_decide_eq_true h2
        rw [if_neg (by omega)]
        exact decide_eq_true (by omega)
theorem befI_tot : ∀ {a b : List Int}, a.length = b.length → befI a b = false → befI b a = false → a = b
  | [], [], _, _, _ => rfl
  | [], _ :: _, h, _, _ => by simp at h
  | _ :: _, [], h, _, _ => by simp at h
  | x :: a, y :: b, h, h1, h2 => by
    rw [befI_cons] at h1 h2
    by_cases e : x = y
    · rw [if_pos e] at h1
      rw [if_pos e.symm] at h2
      rw [e, befI_tot (by simpa using h) h1 h2]
    · rw [if_neg e] at h1
      rw [if_neg (fun h => e h.symm)] at h2
      have := of_decide_eq_false h1
      have := of_decide_eq_false h2
      omega
theorem IncF.mem {n : Nat} : ∀ {s : Nat} {l : List Nat}, IncF n s l → ∀ i ∈ l, s ≤ i ∧ i < n
  | _, [], _, i, hi => by simp at hi
  | s, x :: l, h, i, hi => by
    rcases List.mem_cons.1 hi with e | e
    · rw [e]; exact ⟨h.1, h.2.1⟩
    · have := IncF.mem h.2.2 i e
      have := h.1
      omega
theorem IncF.less {n s s' : Nat} {l : List Nat} (h : IncF n s l) (hs : s' ≤ s) : IncF n s' l := by
  cases l with
  | nil => trivial
  | cons x t => exact ⟨Nat.le_trans hs h.1, h.2⟩
theorem IncF_filter (f : Nat → Bool) : ∀ (k s n : Nat), s + k ≤ n → IncF n s ((List.range' s k).filter f)
  | 0, s, n, _ => trivial
  | k + 1, s, n, h => by
    rw [List.range'_succ]
    cases hf : f s with
    | true => rw [List.filter_cons_of_pos hf]; exact ⟨Nat.le_refl _, by omega, IncF_filter f k (s + 1) n (by omega)⟩
    | false => rw [List.filter_cons_of_neg (by rw [hf]; decide)]; exact (IncF_filter f k (s + 1) n (by omega)).less (by omega)
theorem IncF_listed (z n : Nat) : IncF n 0 (listedN z n) := by
  unfold listedN
  rw [List.range_eq_range']
  exact IncF_filter _ n 0 n (by omega)
theorem filter_inc : ∀ (k s n : Nat) (l : List Nat), s + k = n → IncF n s l → (List.range' s k).filter (fun i => decide (i ∈ l)) = l
  | 0, s, n, l, h, hi => by
    cases l with
    | nil => rfl
    | cons x t => have := hi.1; have := hi.2.1; omega
  | k + 1, s, n, l, h, hi => by
    rw [List.range'_succ]
    cases l with
    | nil =>
      rw [List.filter_eq_nil_iff]
      intro a _
      simp
    | cons x t =>
      by_cases e : x = s
      · subst e
        rw [List.filter_cons_of_pos (by simp)]
        congr 1
        rw [← filter_inc k (x + 1) n t (by omega) hi.2.2]
        refine List.filter_congr fun a ha => ?_
        have h1 := (List.mem_range'_1.1 ha).1
        rw [filter_inc k (x + 1) n t (by omega) hi.2.2]
        refine decide_eq_decide.2 ⟨fun h => ?_, fun h => List.mem_cons_of_mem _ h⟩
        rcases List.mem_cons.1 h with h | h
        · omega
        · exact h
      · have hx := hi.1
        rw [List.filter_cons_of_neg (by
          rw [decide_eq_true_eq]
          intro hm
          rcases List.mem_cons.1 hm with hm | hm
          · exact e hm.symm
          · have := (IncF.mem hi.2.2 s hm).1
            omega)]
        exact filter_inc k (s + 1) n (x :: t) (by omega) ⟨by omega, hi.2⟩
/-- Each increasing list is said by some bits. -/
theorem listed_onto {n : Nat} {l : List Nat} (h : IncF n 0 l) : ∃ z, z < 2 ^ n ∧ listedN z n = l := by
  refine ⟨lateN (fun i => decide (i ∈ l)) n, lateN_lt _ _, ?_⟩
  have h1 := filter_inc n 0 n l (by omega) h
  rw [← List.range_eq_range'] at h1
  rw [← h1]
  unfold listedN
  refine List.filter_congr fun a ha => ?_
  rw [h1, lateN_bit, decide_eq_true (List.mem_range.1 ha), Bool.true_and]
theorem listed_nil {z n : Nat} (hz : z < 2 ^ n) (h : listedN z n = []) : z = 0 := by
  refine Nat.eq_of_testBit_eq fun i => ?_
  rw [Nat.zero_testBit]
  by_cases hi : i < n
  · unfold listedN at h
    have := List.filter_eq_nil_iff.1 h i (List.mem_range.2 hi)
    exact Bool.eq_false_iff.2 this
  · refine Nat.testBit_lt_two_pow (Nat.lt_of_lt_of_le hz (Nat.pow_le_pow_right (by omega) (by omega)))
end Go.Proofs.Ytaekjnjignlmoaa

namespace Go.Proofs.Ytaekjnjignlmoaa

theorem ofN_inj : ∀ {l m : List Nat}, ofN l = ofN m → l = m
  | [], [], _ => rfl
  | [], y :: m, h => by cases h
  | x :: l, [], h => by cases h
  | x :: l, y :: m, h => by
    have h' : (x : Int) :: ofN l = (y : Int) :: ofN m := h
    injection h' with h1 h2
    rw [ofN_inj h2, show x = y by omega]
/-- A list comes first: it is shorter, or as long and not later. -/
def Fst (l l' : List Nat) : Prop := l.length < l'.length ∨ (l.length = l'.length ∧ befI (ofN l') (ofN l) = false)
theorem Fst.refl (l : List Nat) : Fst l l := Or.inr ⟨rfl, befI_irr _⟩
theorem fst_anti {l l' : List Nat} (h1 : Fst l l') (h2 : Fst l' l) : l = l' := by
  rcases h1 with h1 | ⟨h1, g1⟩
  · rcases h2 with h2 | ⟨h2, _⟩ <;> omega
  · rcases h2 with h2 | ⟨_, g2⟩
    · omega
    · have e := befI_tot (a := ofN l) (b := ofN l') (by simp [ofN_length, h1]) g2 g1
      exact ofN_inj e
theorem fst_trans {a b c : List Nat} (h1 : a.length < b.length ∨ (a.length = b.length ∧ befI (ofN a) (ofN b) = true)) (h2 : Fst b c) : Fst a c := by
  rcases h1 with h1 | ⟨h1, g1⟩
  · rcases h2 with h2 | ⟨h2, _⟩ <;> exact Or.inl (by omega)
  · rcases h2 with h2 | ⟨h2, g2⟩
    · exact Or.inl (by omega)
    · refine Or.inr ⟨by omega, Bool.eq_false_iff.2 fun h => ?_⟩
      rw [befI_trans h g1] at g2
      cases g2
theorem best_spec (n : Nat) (late : List Nat) : ∀ k : Nat, k < 2 ^ n →
    (bestTo n late k = [] ∧ ∀ z, 1 ≤ z → z ≤ k → hits late z = false) ∨
    (bestTo n late k ≠ [] ∧ (∃ z, 1 ≤ z ∧ z ≤ k ∧ bestTo n late k = listedN z n ∧ hits late z = true) ∧ ∀ z, 1 ≤ z → z ≤ k → hits late z = true → Fst (bestTo n late k) (listedN z n))
  | 0, _ => Or.inl ⟨rfl, fun z h1 h2 => by omega⟩
  | k + 1, hk => by
    have ih := best_spec n late k (by omega)
    obtain ⟨best, HB⟩ : ∃ l, bestTo n late k = l := ⟨_, rfl⟩
    rw [HB] at ih
    have hn : listedN (k + 1) n ≠ [] := fun e => by have := listed_nil hk e; omega
    rw [bestTo, HB]
    unfold bestF
    by_cases hh : hits late (k + 1) = true
    · by_cases hc : (decide (best.length = 0) || decide ((listedN (k + 1) n).length < best.length) || (decide ((listedN (k + 1) n).length = best.length) && befI (ofN (listedN (k + 1) n)) (ofN best))) = true
      · rw [if_pos (by rw [hh, hc]; rfl)]
        refine Or.inr ⟨hn, ⟨k + 1, by omega, Nat.le_refl _, rfl, hh⟩, fun z h1 h2 h3 => ?_⟩
        by_cases hz : z = k + 1
        · rw [hz]; exact Fst.refl _
        · rcases ih with ⟨_, h4⟩ | ⟨h4, _, h5⟩
          · rw [h4 z h1 (by omega)] at h3; cases h3
          · refine fst_trans ?_ (h5 z h1 (by omega) h3)
            simp only [Bool.or_eq_true, Bool.and_eq_true, decide_eq_true_eq] at hc
            rcases hc with (hc | hc) | hc
            · exact absurd (List.eq_nil_of_length_eq_zero hc) h4
            · exact Or.inl hc
            · exact Or.inr hc
      · rw [if_neg (by rw [hh, Bool.true_and]; exact hc)]
        simp only [Bool.or_eq_true, Bool.and_eq_true, decide_eq_true_eq, not_or, not_and] at hc
        rcases ih with ⟨h4, _⟩ | ⟨h4, ⟨z0, g1, g2, g3, g4⟩, h5⟩
        · exact absurd (by rw [h4]; rfl) hc.1.1
        · refine Or.inr ⟨h4, ⟨z0, g1, by omega, g3, g4⟩, fun z h1 h2 h3 => ?_⟩
          by_cases hz : z = k + 1
          · rw [hz]
            rcases Nat.lt_or_ge best.length (listedN (k + 1) n).length with h | h
            · exact Or.inl h
            · exact Or.inr ⟨by omega, Bool.eq_false_iff.2 (hc.2 (by omega))⟩
          · exact h5 z h1 (by omega) h3
    · rw [if_neg (by rw [Bool.eq_false_iff.2 hh]; simp)]
      rcases ih with ⟨h4, h6⟩ | ⟨h4, ⟨z0, g1, g2, g3, g4⟩, h5⟩
      · refine Or.inl ⟨h4, fun z h1 h2 => ?_⟩
        by_cases hz : z = k + 1
        · rw [hz]; exact Bool.eq_false_iff.2 hh
        · exact h6 z h1 (by omega)
      · refine Or.inr ⟨h4, ⟨z0, g1, by omega, g3, g4⟩, fun z h1 h2 h3 => ?_⟩
        by_cases hz : z = k + 1
        · rw [hz] at h3; exact absurd h3 hh
        · exact h5 z h1 (by omega) h3
theorem inc_len {n : Nat} : ∀ {s : Nat} {l : List Nat}, IncF n s l → s ≤ n → l.length + s ≤ n
  | _, [], _, h => by simpa using h
  | s, x :: l, h, _ => by
    have := inc_len h.2.2 h.2.1
    have := h.1
    rw [List.length_cons]
    omega
theorem clash_nil (b : Int) (ps : List (Int × Int)) : clashB b ps [] = false := by
  unfold clashB
  have h : 0 < (allR b ps).length := allR_some
  cases e : allR b ps with
  | nil => rw [e] at h; simp at h
  | cons y ys => rfl
theorem clashRef_eq (b : Int) (ps : List (Int × Int)) : clashRef b ps = clashS b ps := by
  unfold clashRef clashS
  by_cases hp : checkPier b ps = 0
  · rw [if_pos hp, if_pos hp]
    have hpos : 0 < 2 ^ ps.length := Nat.pos_of_ne_zero (by simp)
    have hsp := best_spec ps.length (lateBitsR b ps ps.length) (2 ^ ps.length - 1) (by omega)
    obtain ⟨best, HB⟩ : ∃ l, bestTo ps.length (lateBitsR b ps ps.length) (2 ^ ps.length - 1) = l := ⟨_, rfl⟩
    rw [HB] at hsp ⊢
    have hall : ∀ l : List Nat, IncF ps.length 0 l → clashB b ps l = true → ∃ z, 1 ≤ z ∧ z ≤ 2 ^ ps.length - 1 ∧ listedN z ps.length = l ∧ hits (lateBitsR b ps ps.length) z = true := fun l hi hc => by
      obtain ⟨z, h1, h2⟩ := listed_onto hi
      refine ⟨z, ?_, by omega, h2, by rw [hits_clash, h2]; exact hc⟩
      rcases Nat.eq_zero_or_pos z with h | h
      · rw [h] at h2
        have : l = [] := by rw [← h2]; unfold listedN; rw [List.filter_eq_nil_iff]; intro a _; simp
        rw [this, clash_nil] at hc
        cases hc
      · exact h
    cases hf : (List.range' 1 ps.length).findSome? (fun m => cl b ps m [] 0) with
    | none =>
      rcases hsp with ⟨h4, _⟩ | ⟨h4, ⟨z0, g1, g2, g3, g4⟩, _⟩
      · rw [if_pos h4]
      · exfalso
        rw [List.findSome?_eq_none_iff] at hf
        have hi : IncF ps.length 0 best := g3 ▸ IncF_listed z0 _
        have hl := inc_len hi (Nat.zero_le _)
        have hl1 : 1 ≤ best.length := List.length_pos_iff.2 h4
        have := cl_some.cl_none best.length [] 0 (hf best.length (List.mem_range'_1.2 ⟨hl1, by omega⟩)) best rfl hi
        rw [List.nil_append, g3, ← hits_clash, g4] at this
        cases this
    | some L =>
      obtain ⟨m, h1, h2, h3, h4⟩ := fs_some _ _ hf
      obtain ⟨l, e, h6, h7, h8, h9⟩ := cl_some m _ _ _ h3
      rw [List.nil_append] at e
      subst e
      obtain ⟨z, k1, k2, k3, k4⟩ := hall L h7 h8
      rcases hsp with ⟨_, h5⟩ | ⟨h5, ⟨z0, g1, g2, g3, g4⟩, h10⟩
      · rw [h5 z k1 k2] at k4; cases k4
      · rw [if_neg h5]
        have hi : IncF ps.length 0 best := g3 ▸ IncF_listed z0 _
        have hc : clashB b ps best = true := by rw [g3, ← hits_clash]; exact g4
        have f1 : Fst best L := k3 ▸ h10 z k1 k2 k4
        have f2 : Fst L best := by
          rcases Nat.lt_or_ge best.length L.length with h | h
          · exfalso
            have hl1 : 1 ≤ best.length := List.length_pos_iff.2 h5
            have := cl_some.cl_none best.length [] 0 (h4 best.length hl1 (by omega)) best rfl hi
            rw [List.nil_append, hc] at this
            cases this
          · rcases Nat.lt_or_ge L.length best.length with h' | h'
            · exact Or.inl h'
            · exact Or.inr ⟨by omega, h9 best (by omega) hi (by rw [List.nil_append]; exact hc)⟩
        rw [fst_anti f1 f2]
  · rw [if_neg hp, if_neg hp]
end Go.Proofs.Ytaekjnjignlmoaa
