/-
  Plain law: the shortest round where all To are the limit.
-/
import Derived.Test.YtaekjnjignlmoaaLp
namespace Go.Proofs.Ytaekjnjignlmoaa

section
variable {b : Int} {ps : List (Int × Int)}
/-- The outermost places that a walk has come to. -/
def lowP (b : Int) (ps : List (Int × Int)) (lo : Nat) : Int := if lo < lefts b ps then plc ps lo else b
def highP (b : Int) (ps : List (Int × Int)) (hi : Nat) : Int := if lefts b ps < hi then plc ps (hi - 1) else b
theorem low_le (hp : Pier b ps) {lo : Nat} (h : lo ≤ lefts b ps) : lowP b ps lo ≤ b := by
  unfold lowP
  split
  · rename_i h1
    have := (lefts_iff hp (i := lo) (by have := lefts_le b ps; omega)).2 h1
    omega
  · omega
theorem high_ge (hp : Pier b ps) {hi : Nat} (h : hi ≤ ps.length) : b ≤ highP b ps hi := by
  unfold highP
  split
  · rename_i h1
    have h2 := lefts_iff hp (i := hi - 1) (by omega)
    have : ¬ plc ps (hi - 1) < b := fun h3 => by have := h2.1 h3; omega
    omega
  · omega
theorem low_step (hp : Pier b ps) {i : Nat} (h : i < lefts b ps) : lowP b ps i = plc ps i ∧ plc ps i < lowP b ps (i + 1) := by
  have hle := lefts_le b ps
  unfold lowP
  rw [if_pos h]
  refine ⟨rfl, ?_⟩
  split
  · exact hp.lt (by omega) (by omega)
  · exact (lefts_iff hp (by omega)).2 h
theorem high_step (hp : Pier b ps) {i : Nat} (h : lefts b ps ≤ i) (hi : i < ps.length) : highP b ps (i + 1) = plc ps i ∧ highP b ps i < plc ps i := by
  unfold highP
  rw [if_pos (by omega), Nat.add_sub_cancel]
  refine ⟨rfl, ?_⟩
  split
  · exact hp.lt (by omega) hi
  · have h2 := lefts_iff hp hi
    have h3 := hp.off i hi
    have : ¬ plc ps i < b := fun h3 => by have := h2.1 h3; omega
    omega
/-- A walk under way is as long as that. -/
theorem walk_long (hp : Pier b ps) (l : List Nat) (s : St) (h : stAt b ps l = some s) : (∀ i ∈ l, i < ps.length) → (s.lo ≤ lefts b ps ∧ lefts b ps ≤ s.hi ∧ s.hi ≤ ps.length) ∧
    ((s.at_ = lowP b ps s.lo ∧ (highP b ps s.hi - lowP b ps s.lo) + (highP b ps s.hi - b) ≤ s.n) ∨ (s.at_ = highP b ps s.hi ∧ (highP b ps s.hi - lowP b ps s.lo) + (b - lowP b ps s.lo) ≤ s.n)) := by
  refine st_ind (b := b) (ps := ps) (P := fun l s => (∀ i ∈ l, i < ps.length) → (s.lo ≤ lefts b ps ∧ lefts b ps ≤ s.hi ∧ s.hi ≤ ps.length) ∧
    ((s.at_ = lowP b ps s.lo ∧ (highP b ps s.hi - lowP b ps s.lo) + (highP b ps s.hi - b) ≤ s.n) ∨ (s.at_ = highP b ps s.hi ∧ (highP b ps s.hi - lowP b ps s.lo) + (b - lowP b ps s.lo) ≤ s.n))) (fun _ => ?_) ?_ l s h
  · have h1 : lowP b ps (lefts b ps) = b := by unfold lowP; rw [if_neg (by omega)]
    have h2 : highP b ps (lefts b ps) = b := by unfold highP; rw [if_neg (by omega)]
    refine ⟨⟨Nat.le_refl _, Nat.le_refl _, lefts_le b ps⟩, .inl ⟨h1.symm, ?_⟩⟩
    show highP b ps (lefts b ps) - lowP b ps (lefts b ps) + (highP b ps (lefts b ps) - b) ≤ 0
    rw [h1, h2]
    omega
  · intro l i s t hs hst ih hall
    have hi : i < ps.length := hall i (by simp)
    obtain ⟨⟨c1, c2, c3⟩, hor⟩ := ih fun j hj => hall j (by simp [hj])
    have hl := low_le hp c1
    have hh := high_ge hp c3
    rcases stF_inv hst with ⟨c, rfl⟩ | ⟨c', c, rfl⟩
    · obtain ⟨e1, e2⟩ := low_step hp (i := i) (by omega)
      rw [c] at hor hl
      refine ⟨⟨by show i ≤ _; omega, c2, c3⟩, .inl ⟨e1.symm, ?_⟩⟩
      show highP b ps s.hi - lowP b ps i + (highP b ps s.hi - b) ≤ s.n + far s.at_ (plc ps i)
      rw [e1]
      have hf : far s.at_ (plc ps i) = s.at_ - plc ps i := by
        unfold far
        rcases hor with ⟨h, _⟩ | ⟨h, _⟩
        · rw [if_neg (by omega)]
        · rw [if_neg (by omega)]
      omega
    · obtain ⟨e1, e2⟩ := high_step hp (i := i) (by omega) hi
      rw [c] at hor hh
      refine ⟨⟨c1, by show _ ≤ i + 1; omega, by show i + 1 ≤ _; omega⟩, .inr ⟨e1.symm, ?_⟩⟩
      show highP b ps (i + 1) - lowP b ps s.lo + (b - lowP b ps s.lo) ≤ s.n + far s.at_ (plc ps i)
      rw [e1]
      have hf : far s.at_ (plc ps i) = plc ps i - s.at_ := by
        unfold far
        rcases hor with ⟨h, _⟩ | ⟨h, _⟩
        · rw [if_pos (by omega)]
        · rw [if_pos (by omega)]
      omega
def leftL (q : Nat) : Nat → List Nat
  | 0 => []
  | k + 1 => leftL q k ++ [q - 1 - k]
def rightL (q : Nat) : Nat → List Nat
  | 0 => []
  | k + 1 => rightL q k ++ [q + k]
theorem leftL_in {q n : Nat} (h : q ≤ n) : ∀ k : Nat, k ≤ q → (leftL q k).length = k ∧ ∀ i ∈ leftL q k, i < n
  | 0, _ => ⟨rfl, by simp [leftL]⟩
  | k + 1, hk => by
    obtain ⟨h1, h2⟩ := leftL_in h k (by omega)
    refine ⟨by simp [leftL, h1], fun i hi => ?_⟩
    rcases List.mem_append.1 hi with hi | hi
    · exact h2 i hi
    · rw [List.mem_singleton.1 hi]; omega
theorem rightL_in {q n : Nat} : ∀ k : Nat, q + k ≤ n → (rightL q k).length = k ∧ ∀ i ∈ rightL q k, i < n
  | 0, _ => ⟨rfl, by simp [rightL]⟩
  | k + 1, hk => by
    obtain ⟨h1, h2⟩ := rightL_in (q := q) (n := n) k (by omega)
    refine ⟨by simp [rightL, h1], fun i hi => ?_⟩
    rcases List.mem_append.1 hi with hi | hi
    · exact h2 i hi
    · rw [List.mem_singleton.1 hi]; omega
/-- To the left, from a walk that stands at its lowest place. -/
theorem run_left (hp : Pier b ps) {l : List Nat} {s : St} (hs : stAt b ps l = some s) (hlo : s.lo = lefts b ps) (hhi : lefts b ps ≤ s.hi ∧ s.hi ≤ ps.length) (hat : b ≤ s.at_) : ∀ k : Nat, k ≤ lefts b ps → ∃ t, stAt b ps (l ++ leftL (lefts b ps) k) = some t ∧ t.lo = lefts b ps - k ∧ t.hi = s.hi ∧ (k = 0 → t.at_ = s.at_) ∧ (0 < k → t.at_ = lowP b ps (lefts b ps - k)) ∧ t.n = s.n + (s.at_ - t.at_)
  | 0, _ => ⟨s, by simpa [leftL] using hs, by omega, rfl, fun _ => rfl, fun h => by omega, by omega⟩
  | k + 1, hk => by
    obtain ⟨t, h1, h2, h3, h4, h5, h6⟩ := run_left hp hs hlo hhi hat k (by omega)
    have hq := lefts_le b ps
    obtain ⟨e1, e2⟩ := low_step hp (i := lefts b ps - 1 - k) (by omega)
    have hlt : plc ps (lefts b ps - 1 - k) < t.at_ := by
      rcases Nat.eq_zero_or_pos k with h0 | h0
      · rw [h4 h0]
        have := (lefts_iff hp (i := lefts b ps - 1 - k) (by omega)).2 (by omega)
        omega
      · rw [h5 h0]
        rw [show lefts b ps - 1 - k + 1 = lefts b ps - k by omega] at e2
        exact e2
    refine ⟨move ps t (lefts b ps - 1 - k) (lefts b ps - 1 - k) t.hi, ?_, ?_, h3, fun h => by omega, fun _ => ?_, ?_⟩
    · show stAt b ps (l ++ (leftL (lefts b ps) k ++ [lefts b ps - 1 - k])) = _
      rw [← List.append_assoc, stAt_snoc, h1]
      simp only [stF, Option.bind_some]
      rw [if_pos (by omega)]
    · show lefts b ps - 1 - k = lefts b ps - (k + 1)
      omega
    · show plc ps (lefts b ps - 1 - k) = _
      rw [← e1]
      congr 1
      omega
    · show t.n + far t.at_ (plc ps (lefts b ps - 1 - k)) = s.n + (s.at_ - plc ps (lefts b ps - 1 - k))
      unfold far
      rw [if_neg (by omega)]
      omega
theorem run_right (hp : Pier b ps) {l : List Nat} {s : St} (hs : stAt b ps l = some s) (hhi : s.hi = lefts b ps) (hlo : s.lo ≤ lefts b ps) (hat : s.at_ ≤ b) : ∀ k : Nat, lefts b ps + k ≤ ps.length → ∃ t, stAt b ps (l ++ rightL (lefts b ps) k) = some t ∧ t.lo = s.lo ∧ t.hi = lefts b ps + k ∧ (k = 0 → t.at_ = s.at_) ∧ (0 < k → t.at_ = highP b ps (lefts b ps + k)) ∧ t.n = s.n + (t.at_ - s.at_)
  | 0, _ => ⟨s, by simpa [rightL] using hs, rfl, by omega, fun _ => rfl, fun h => by omega, by omega⟩
  | k + 1, hk => by
    obtain ⟨t, h1, h2, h3, h4, h5, h6⟩ := run_right hp hs hhi hlo hat k (by omega)
    obtain ⟨e1, e2⟩ := high_step hp (i := lefts b ps + k) (by omega) (by omega)
    have hlt : t.at_ < plc ps (lefts b ps + k) := by
      rcases Nat.eq_zero_or_pos k with h0 | h0
      · rw [h4 h0]
        have h7 := lefts_iff hp (i := lefts b ps + k) (by omega)
        have h8 := hp.off (lefts b ps + k) (by omega)
        have : ¬ plc ps (lefts b ps + k) < b := fun h => by have := h7.1 h; omega
        omega
      · rw [h5 h0]
        exact e2
    refine ⟨move ps t (lefts b ps + k) t.lo (lefts b ps + k + 1), ?_, h2, rfl, fun h => by omega, fun _ => ?_, ?_⟩
    · show stAt b ps (l ++ (rightL (lefts b ps) k ++ [lefts b ps + k])) = _
      rw [← List.append_assoc, stAt_snoc, h1]
      simp only [stF, Option.bind_some]
      rw [if_neg (by omega), if_pos (by omega)]
    · show plc ps (lefts b ps + k) = _
      rw [← e1]
      rfl
    · show t.n + far t.at_ (plc ps (lefts b ps + k)) = s.n + (plc ps (lefts b ps + k) - s.at_)
      unfold far
      rw [if_pos (by omega)]
      omega
theorem sweep (hp : Pier b ps) : (∃ l ∈ allR b ps, lenR b ps l = (b - lowP b ps 0) + (highP b ps ps.length - lowP b ps 0)  ∨ (∃ l ∈ allR b ps, lenR b ps l = highP b ps ps.length - b ∧ lowP b ps 0 = b) ∨ (∃ l ∈ allR b ps, lenR b ps l = b - lowP b ps 0 ∧ highP b ps ps.length = b)) ∧
    (∃ l ∈ allR b ps, lenR b ps l = (highP b ps ps.length - b) + (highP b ps ps.length - lowP b ps 0) ∨ (∃ l ∈ allR b ps, lenR b ps l = highP b ps ps.length - b ∧ lowP b ps 0 = b) ∨ (∃ l ∈ allR b ps, lenR b ps l = b - lowP b ps 0 ∧ highP b ps ps.length = b)) := by
  have hq := lefts_le b ps
  have h1 := hp.lo
  have e0 : stAt b ps [] = some (st0 b ps) := rfl
  have mem : ∀ (l : List Nat) (t : St), stAt b ps l = some t → l.length = ps.length → (∀ i ∈ l, i < ps.length) → l ∈ allR b ps ∧ lenR b ps l = t.n := fun l t h2 h3 h4 => by
    refine ⟨allR_iff.2 ⟨h3, by rw [h2]; rfl, h4⟩, last_own hp ?_ h4 h2⟩
    intro e
    rw [e] at h3
    simp at h3
    omega
  have hL : 0 < lefts b ps → lowP b ps 0 = plc ps 0 := fun h => by unfold lowP; rw [if_pos h]
  have hL0 : lefts b ps = 0 → lowP b ps 0 = b := fun h => by unfold lowP; rw [if_neg (by omega)]
  have hH0 : lefts b ps = ps.length → highP b ps ps.length = b := fun h => by unfold highP; rw [if_neg (by omega)]
  constructor
  · obtain ⟨t, a1, a2, a3, a4, a5, a6⟩ := run_left hp e0 rfl ⟨Nat.le_refl _, hq⟩ (Int.le_refl b) (lefts b ps) (Nat.le_refl _)
    have hat : t.at_ ≤ b := by
      rcases Nat.eq_zero_or_pos (lefts b ps) with h0 | h0
      · rw [a4 h0]; exact Int.le_refl _
      · rw [a5 h0]; exact low_le hp (by omega)
    have htl : t.at_ = lowP b ps 0 := by
      rcases Nat.eq_zero_or_pos (lefts b ps) with h0 | h0
      · rw [a4 h0, hL0 h0]; rfl
      · rw [a5 h0, Nat.sub_self]
    obtain ⟨u, c1, c2, c3, c4, c5, c6⟩ := run_right hp a1 (by rw [a3]; rfl) (by omega) hat (ps.length - lefts b ps) (by omega)
    rw [show lefts b ps + (ps.length - lefts b ps) = ps.length by omega] at c3 c5
    obtain ⟨l1, l2⟩ := leftL_in hq (lefts b ps) (Nat.le_refl _)
    obtain ⟨r1, r2⟩ := rightL_in (q := lefts b ps) (n := ps.length) (ps.length - lefts b ps) (by omega)
    obtain ⟨m1, m2⟩ := mem _ u c1 (by simp [l1, r1]; omega) (fun i hi => by
      rcases List.mem_append.1 hi with hi | hi
      · rcases List.mem_append.1 hi with hi | hi
        · cases hi
        · exact l2 i hi
      · exact r2 i hi)
    have hn0 : t.n = b - lowP b ps 0 := by
      rw [a6, htl]
      show 0 + (b - lowP b ps 0) = _
      omega
    refine ⟨_, m1, ?_⟩
    rcases Nat.eq_zero_or_pos (ps.length - lefts b ps) with h0 | h0
    · refine .inr (.inr ⟨_, m1, ?_, hH0 (by omega)⟩)
      rw [m2, c6, c4 h0, hn0]
      omega
    · refine .inl ?_
      rw [m2, c6, c5 h0, hn0, htl]
  · obtain ⟨t, a1, a2, a3, a4, a5, a6⟩ := run_right hp e0 rfl (Nat.le_refl _) (Int.le_refl b) (ps.length - lefts b ps) (by omega)
    rw [show lefts b ps + (ps.length - lefts b ps) = ps.length by omega] at a3 a5
    have htl : t.at_ = highP b ps ps.length := by
      rcases Nat.eq_zero_or_pos (ps.length - lefts b ps) with h0 | h0
      · rw [a4 h0, hH0 (by omega)]; rfl
      · rw [a5 h0]
    have hat : b ≤ t.at_ := by rw [htl]; exact high_ge hp (Nat.le_refl _)
    obtain ⟨u, c1, c2, c3, c4, c5, c6⟩ := run_left hp a1 (by rw [a2]; rfl) (by omega) hat (lefts b ps) (Nat.le_refl _)
    obtain ⟨l1, l2⟩ := leftL_in hq (lefts b ps) (Nat.le_refl _)
    obtain ⟨r1, r2⟩ := rightL_in (q := lefts b ps) (n := ps.length) (ps.length - lefts b ps) (by omega)
    obtain ⟨m1, m2⟩ := mem _ u c1 (by simp [l1, r1]; omega) (fun i hi => by
      rcases List.mem_append.1 hi with hi | hi
      · rcases List.mem_append.1 hi with hi | hi
        · cases hi
        · exact r2 i hi
      · exact l2 i hi)
    have hn0 : t.n = highP b ps ps.length - b := by
      rw [a6, htl]
      show 0 + (highP b ps ps.length - b) = _
      omega
    refine ⟨_, m1, ?_⟩
    rcases Nat.eq_zero_or_pos (lefts b ps) with h0 | h0
    · refine .inr (.inl ⟨_, m1, ?_, hL0 h0⟩)
      rw [m2, c6, c4 h0, hn0]
      omega
    · refine .inl ?_
      rw [m2, c6, c5 h0, hn0, htl, Nat.sub_self]
theorem free_shortest (hp : Pier b ps) (ht : ∀ i : Nat, i < ps.length → too ps i = 9000) {lw hg m : Int} (hlw : lw = if plc ps 0 < b then plc ps 0 else b) (hhg : hg = if b < plc ps (ps.length - 1) then plc ps (ps.length - 1) else b) (hm : m = if b - lw < hg - b then b - lw else hg - b) :
    (shortestS b ps).2 = (hg - lw + m, 0) := by
  have hq := lefts_le b ps
  have h1 := hp.lo
  have e1 : lowP b ps 0 = lw := by
    rw [hlw]
    unfold lowP
    have := lefts_iff hp (i := 0) (by omega)
    by_cases h : 0 < lefts b ps
    · rw [if_pos h, if_pos (this.2 h)]
    · rw [if_neg h, if_neg (fun h' => h (this.1 h'))]
  have e2 : highP b ps ps.length = hg := by
    rw [hhg]
    unfold highP
    have h2 := lefts_iff hp (i := ps.length - 1) (by omega)
    have h3 := hp.off (ps.length - 1) (by omega)
    by_cases h : lefts b ps < ps.length
    · rw [if_pos h, if_pos]
      have : ¬ plc ps (ps.length - 1) < b := fun h' => by have := h2.1 h'; omega
      omega
    · rw [if_neg h, if_neg]
      have := h2.2 (by omega)
      omega
  have b0 := hp.at_ 0
  have b1 := hp.at_ (ps.length - 1)
  have bb := hp.begin_
  have hlb : 0 ≤ lw ∧ lw ≤ b := by rw [hlw]; split <;> omega
  have hhb : b ≤ hg ∧ hg ≤ 1000 := by rw [hhg]; split <;> omega
  have hlow : ∀ l ∈ allR b ps, hg - lw + m ≤ lenR b ps l := fun l hl => by
    obtain ⟨s, hs, _, hlo, hhi, _⟩ := full_round hp hl
    have h4 := (walk_long hp l s hs (allR_in hl)).2
    rw [hlo, hhi, e1, e2] at h4
    rw [last_own hp (lastOf_lt hp hl).2 (allR_in hl) hs, hm]
    split <;> omega
  have hbest : ∃ l ∈ allR b ps, lenR b ps l = hg - lw + m := by
    obtain ⟨h2, h3⟩ := sweep hp
    rw [e1, e2] at h2 h3
    by_cases hc : b - lw < hg - b
    · rw [if_pos hc] at hm
      obtain ⟨l, hl, h4 | ⟨l', hl', h4, h5⟩ | ⟨l', hl', h4, h5⟩⟩ := h2
      · exact ⟨l, hl, by omega⟩
      · exact ⟨l', hl', by omega⟩
      · exact ⟨l', hl', by omega⟩
    · rw [if_neg hc] at hm
      obtain ⟨l, hl, h4 | ⟨l', hl', h4, h5⟩ | ⟨l', hl', h4, h5⟩⟩ := h3
      · exact ⟨l, hl, by omega⟩
      · exact ⟨l', hl', by omega⟩
      · exact ⟨l', hl', by omega⟩
  obtain ⟨l, hl, hlen⟩ := hbest
  have hm2 : m ≤ 1000 := by rw [hm]; split <;> omega
  have hgood : l ∈ goodR b ps := mem_goodR.2 ⟨hl, (inTime_iff hp hl).2 fun i hi => by
    obtain ⟨s, hs, _, _, _, hd⟩ := full_round hp hl
    rw [last_own hp (lastOf_lt hp hl).2 (allR_in hl) hs] at hlen
    rw [stepsL_some hs, ht i hi]
    have := hd i hi
    omega⟩
  unfold shortestS
  rw [if_pos (checkPier_ok.2 hp)]
  have hne : goodR b ps ≠ [] := fun e => by rw [e] at hgood; cases hgood
  rw [if_neg hne]
  show (lenR b ps (roundOf b ps), (0 : Int)) = _
  congr 1
  obtain ⟨f1, f2⟩ := firstBest_mem (f := lenR b ps) hne
  have g1 : lenR b ps (roundOf b ps) ≤ lenR b ps l := f2 l hgood
  have g2 := hlow _ (mem_goodR.1 (round_good hne)).1
  omega
end
end Go.Proofs.Ytaekjnjignlmoaa
