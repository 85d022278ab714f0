/-
  Plain: either some round is in time, and no stops clash, or there are stops that clash, of which none can be left out.
-/
import Derived.Test.YtaekjnjignlmoaaCs
import Derived.Test.YtaekjnjignlmoaaLp
namespace Go.Proofs.Ytaekjnjignlmoaa

theorem clash_no {b : Int} {ps : List (Int × Int)} (hp : Pier b ps) (hg : goodR b ps ≠ []) {l : List Nat} (hl : ∀ i ∈ l, i < ps.length) : clashB b ps l = false := by
  obtain ⟨y, hy⟩ := List.exists_mem_of_ne_nil _ hg
  have h1 := mem_goodR.1 hy
  have h2 := (inTime_iff hp h1.1).1 h1.2
  rw [Bool.eq_false_iff]
  intro h
  unfold clashB at h
  have h3 := List.all_eq_true.1 h y h1.1
  unfold lateIn at h3
  obtain ⟨i, hi, h4⟩ := List.any_eq_true.1 h3
  have h5 := h2 i (hl i hi)
  have h6 := of_decide_eq_true h4
  omega
theorem clash_full {b : Int} {ps : List (Int × Int)} (hp : Pier b ps) (hg : goodR b ps = []) : clashB b ps (List.range ps.length) = true := by
  unfold clashB
  rw [List.all_eq_true]
  intro y hy
  cases hb : inTimeB b ps y with
  | true =>
    have h : y ∈ goodR b ps := mem_goodR.2 ⟨hy, hb⟩
    rw [hg] at h
    cases h
  | false =>
    unfold lateIn
    rw [List.any_eq_true]
    by_cases hex : ∃ i : Nat, i < ps.length ∧ too ps i < nth (stepsL b ps y) i
    · obtain ⟨i, h1, h2⟩ := hex
      exact ⟨i, List.mem_range.2 h1, decide_eq_true h2⟩
    · have := (inTime_iff hp hy).2 fun i hi => by
        rcases Int.lt_or_le (too ps i) (nth (stepsL b ps y) i) with h' | h'
        · exact absurd ⟨i, hi, h'⟩ hex
        · exact h'
      rw [this] at hb
      cases hb
theorem IncF_range (n : Nat) : IncF n 0 (List.range n) := by
  have h := IncF_filter (fun _ => true) n 0 n (by omega)
  rw [List.filter_eq_self.2 (fun _ _ => rfl), ← List.range_eq_range'] at h
  exact h
theorem either_some {b : Int} {ps : List (Int × Int)} (hp : Pier b ps) (hg : goodR b ps ≠ []) : clashS b ps = ([], 5) := by
  unfold clashS
  rw [if_pos (checkPier_ok.2 hp)]
  cases hf : (List.range' 1 ps.length).findSome? (fun m => cl b ps m [] 0) with
  | none => rfl
  | some L =>
    obtain ⟨m, _, _, h3, _⟩ := fs_some _ _ hf
    obtain ⟨l, e, _, h7, h8, _⟩ := cl_some m _ _ _ h3
    rw [List.nil_append] at e
    subst e
    rw [clash_no hp hg (fun i hi => (h7.mem i hi).2)] at h8
    cases h8
theorem either_none {b : Int} {ps : List (Int × Int)} (hp : Pier b ps) (hg : goodR b ps = []) : ∃ L, clashS b ps = (L, 0) ∧ IncF ps.length 0 L ∧ clashB b ps L = true ∧ ∀ l', IncF ps.length 0 l' → clashB b ps l' = true → L.length ≤ l'.length := by
  unfold clashS
  rw [if_pos (checkPier_ok.2 hp)]
  cases hf : (List.range' 1 ps.length).findSome? (fun m => cl b ps m [] 0) with
  | none =>
    exfalso
    rw [List.findSome?_eq_none_iff] at hf
    have := cl_some.cl_none ps.length [] 0 (hf ps.length (List.mem_range'_1.2 ⟨hp.lo, by omega⟩)) (List.range ps.length) (by simp) (IncF_range _)
    rw [List.nil_append, clash_full hp hg] at this
    cases this
  | some L =>
    obtain ⟨m, h1, h2, h3, h4⟩ := fs_some _ _ hf
    obtain ⟨l, e, h6, h7, h8, _⟩ := cl_some m _ _ _ h3
    rw [List.nil_append] at e
    subst e
    refine ⟨L, rfl, h7, h8, fun l' hi hc => ?_⟩
    rcases Nat.lt_or_ge l'.length L.length with h | h
    · exfalso
      have hl1 : 1 ≤ l'.length := by
        cases l' with
        | nil => rw [clash_nil] at hc; cases hc
        | cons x t => simp
      have := cl_some.cl_none l'.length [] 0 (h4 l'.length hl1 (by omega)) l' rfl hi
      rw [List.nil_append, hc] at this
      cases this
    · exact h
theorem IncF.get {n : Nat} : ∀ {s : Nat} {l : List Nat}, IncF n s l → ∀ (i x : Nat), l[i]? = some x → s ≤ x ∧ x < n ∧ ∀ y : Nat, 0 < i → l[i - 1]? = some y → y < x
  | s, [], _, i, x, h => by simp at h
  | s, z :: t, hi, 0, x, h => by
    simp only [List.getElem?_cons_zero, Option.some.injEq] at h
    subst h
    exact ⟨hi.1, hi.2.1, fun y h0 => by omega⟩
  | s, z :: t, hi, i + 1, x, h => by
    rw [List.getElem?_cons_succ] at h
    have h1 := IncF.get hi.2.2 i x h
    have h2 := hi.1
    refine ⟨by omega, h1.2.1, fun y _ hy => ?_⟩
    rw [Nat.add_sub_cancel] at hy
    cases i with
    | zero =>
      simp only [List.getElem?_cons_zero, Option.some.injEq] at hy
      omega
    | succ i =>
      rw [List.getElem?_cons_succ] at hy
      exact h1.2.2 y (by omega) (by simpa using hy)
theorem IncF.good {n : Nat} {l : List Nat} (h : IncF n 0 l) : (List.range (ofN l).length).any (badC (ofN l) n) = false := by
  rw [List.any_eq_false]
  intro i hi
  rw [List.mem_range, ofN_length] at hi
  have hx : l[i]? = some l[i] := List.getElem?_eq_getElem hi
  have h1 := h.get i _ hx
  have nx : nth (ofN l) i = (l[i] : Int) := nth_some (by unfold ofN; rw [List.getElem?_map, hx]; rfl)
  rw [Bool.not_eq_true]
  unfold badC
  rw [outB_false, nx]
  refine ⟨?_, by omega⟩
  unfold nextAt
  split
  · omega
  · have hy : l[i - 1]? = some l[i - 1] := List.getElem?_eq_getElem (by omega)
    have ny : nth (ofN l) (i - 1) = (l[i - 1] : Int) := nth_some (by unfold ofN; rw [List.getElem?_map, hy]; rfl)
    rw [ny]
    have := h1.2.2 _ (by omega) hy
    omega
theorem ckClash_inc {b : Int} {ps : List (Int × Int)} (hp : Pier b ps) {l : List Nat} (h : IncF ps.length 0 l) : checkClashS b ps (ofN l) = if clashB b ps l = true then 0 else 5 := by
  unfold checkClashS
  rw [if_pos (checkPier_ok.2 hp), if_neg (by rw [h.good]; decide), show natsL (ofN l) = l from natsL_map l]
theorem IncF.cut {n : Nat} : ∀ {s : Nat} {l : List Nat}, IncF n s l → ∀ i : Nat, IncF n s (l.take i ++ l.drop (i + 1))
  | s, [], _, i => by simp [IncF]
  | s, z :: t, h, 0 => by
    rw [List.take_zero, List.nil_append, List.drop_succ_cons, List.drop_zero]
    exact h.2.2.less (by have := h.1; omega)
  | s, z :: t, h, i + 1 => by
    rw [List.take_succ_cons, List.drop_succ_cons]
    exact ⟨h.1, h.2.1, IncF.cut h.2.2 i⟩
/-- What the statement asks, of the numbers that the program returns. -/
theorem either_in {b : Int} {ps : List (Int × Int)} (hp : Pier b ps) (_bs : List Int) (z : Nat) (hg : goodR b ps ≠ []) :
    0 < (goodR b ps).length ∧ clashS b ps = ([], 5) ∧ checkClashS b ps (ofN (listedN z ps.length)) = 5 :=
  ⟨List.length_pos_iff.2 hg, either_some hp hg, by rw [ckClash_inc hp (IncF_listed z _), clash_no hp hg (fun i hi => ((IncF_listed z _).mem i hi).2)]; rfl⟩
theorem either_out {b : Int} {ps : List (Int × Int)} (hp : Pier b ps) (bs : List Int) (z : Nat) (hg : goodR b ps = []) :
    ∃ L, clashS b ps = (L, 0) ∧ 0 < L.length ∧ L.length ≤ ps.length ∧ checkRoundS b ps (ofN (walkedL b ps bs)) = ([], 12) ∧ checkClashS b ps (ofN L) = 0 ∧
      (checkClashS b ps (ofN (listedN z ps.length)) = 0 → L.length ≤ (listedN z ps.length).length) ∧ ∀ i : Nat, i < L.length → checkClashS b ps (ofN (L.take i ++ L.drop (i + 1))) = 5 := by
  obtain ⟨L, h1, h2, h3, h4⟩ := either_none hp hg
  refine ⟨L, h1, ?_, by have := inc_len h2 (Nat.zero_le _); omega, ?_, by rw [ckClash_inc hp h2, if_pos h3], fun h => ?_, fun i hi => ?_⟩
  · cases L with
    | nil => rw [clash_nil] at h3; cases h3
    | cons x t => simp
  · have hw := walked_all b ps bs
    have := ckRound_all hp hw
    rw [if_neg (fun h => by
      have h' := mem_goodR.2 ⟨hw, h⟩
      rw [hg] at h'
      cases h')] at this
    exact this
  · rw [ckClash_inc hp (IncF_listed z _)] at h
    refine h4 _ (IncF_listed z _) ?_
    cases hc : clashB b ps (listedN z ps.length) with
    | true => rfl
    | false => rw [hc] at h; simp at h
  · rw [ckClash_inc hp (h2.cut i), if_neg]
    intro h
    have := h4 _ (h2.cut i) h
    rw [List.length_append, List.length_take, List.length_drop] at this
    omega
theorem good_count (b : Int) (ps : List (Int × Int)) (hp : Pier b ps) : (goodR b ps).length ≤ 252 := Nat.le_trans (List.length_filter_le _ _) (allR_many hp)
theorem checkClash_two {b : Int} {ps : List (Int × Int)} (hp : Pier b ps) (z : Nat) : checkClashS b ps (ofN (listedN z ps.length)) = 0 ∨ checkClashS b ps (ofN (listedN z ps.length)) = 5 := by
  rw [ckClash_inc hp (IncF_listed z _)]
  split
  · exact Or.inl rfl
  · exact Or.inr rfl
theorem ckRound_two {b : Int} {ps : List (Int × Int)} (hp : Pier b ps) (bs : List Int) : (checkRoundS b ps (ofN (walkedL b ps bs))).2 = 0 ∨ (checkRoundS b ps (ofN (walkedL b ps bs))).2 = 12 := by
  have := ckRound_all hp (walked_all b ps bs)
  unfold ofN
  rw [this]
  split
  · exact Or.inl rfl
  · exact Or.inr rfl
end Go.Proofs.Ytaekjnjignlmoaa
